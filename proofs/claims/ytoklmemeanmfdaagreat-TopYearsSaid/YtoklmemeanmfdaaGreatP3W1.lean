/-
  The walks: each Go function computes its plain function (printed by a program of ours).
-/
import Derived.Test.YtoklmemeanmfdaaGreatRd
import Derived.Test.YtoklmemeanmfdaaGreatBsC
import Derived.Test.YtoklmemeanmfdaaGreatLib
import Derived.Test.YtoklmemeanmfdaaGreatKnF
namespace Go.Proofs.YtoklmemeanmfdaaGreat
open Go.RowKit
set_option linter.unusedVariables false

set_option maxRecDepth 20000
set_option linter.unusedVariables false
set_option maxHeartbeats 1000000 in
theorem f14_ok {G0 : Gm} {w0 : World} (hS0 : Sat G0 w0) {x0 : Int} {x1 : Int} {x2 : Int}  {r : Bool} (H : f14 x0 x1 x2 = some r) :
  Calls Tryz.prog 14 #[.int .i64 x0, .int .i64 x1, .int .i64 x2] w0 (RetV w0 (.bool r)) := by
 have hS := Since.start hS0
 have hO : Owns G0 w0 w0.heap.size [] := Owns.nil (Nat.le_refl _)
 unfold f14 at H
 refine enter1 (N := 15) (shutV _ _) Tryz.func14 rfl rfl rfl rfl ?_; refine WC_seq ?_; refine WC_region ?_; refine WL_val (rn_assign (v := (.bool false)) rfl) rfl ?_; refine WL_nil ?_; refine WC_seq ?_; obtain ⟨q1, hq1, H⟩ := bnd H; refine WC_cut (fun F w => ∃ (Fb : Fr), F = upds Fb [(6, .bool q1)] ∧ w0 = w) ?_ ?_
 ·have Hoq1 := H; have H := hq1; refine WC_region ?_; refine WL_val (rn_move (v := (.int .i64 x0)) rfl) rfl ?_; refine WL_val (rn_move (v := (.int .i64 x1)) rfl) rfl ?_; refine WL_val (rn_geq rfl rfl) rfl ?_; refine WL_val (rn_move (v := (.bool (decide (x1 ≤ x0)))) rfl) rfl ?_
  rcases bcases (decide (x1 ≤ x0)) with hb2 | hb2
  ·have H := ifT hb2 H; refine WL_guardY rfl hb2 rfl rfl ?_; refine WL_val (rn_move (v := (.int .i64 x0)) rfl) rfl ?_; refine WL_guardY rfl hb2 rfl rfl ?_; refine WL_val (rn_move (v := (.int .i64 x2)) rfl) rfl ?_; refine WL_guardY rfl hb2 rfl rfl ?_; refine WL_val (rn_leq rfl rfl) rfl ?_; refine WL_val (rn_pickT (v := (.bool (decide (x0 ≤ x2)))) rfl hb2 rfl) rfl ?_; refine WL_val (rn_assign (v := (.bool (decide (x0 ≤ x2)))) rfl) rfl ?_; refine WL_nil ?_; have H := Option.some.inj H; subst H
   exact ⟨_, upds_self _ _ ⟨rfl, trivial⟩, rfl⟩
  ·have H := ifF hb2 H; refine WL_guardN rfl hb2 rfl rfl rfl ?_; refine WL_guardN rfl hb2 rfl rfl rfl ?_; refine WL_guardN rfl hb2 rfl rfl rfl ?_; refine WL_val (rn_pickF (v := (.bool false)) rfl hb2 rfl) rfl ?_; refine WL_val (rn_assign (v := (.bool false)) rfl) rfl ?_; refine WL_nil ?_; have H := Option.some.inj H; subst H
   exact ⟨_, upds_self _ _ ⟨rfl, trivial⟩, rfl⟩
 ·rintro F wl ⟨Fb, rfl, rfl⟩
  refine WC_ret ?_
  have H : some q1 = some r := H
  have H := Option.some.inj H; subst H
  exact ⟨rfl, hS.below⟩
set_option maxHeartbeats 1000000 in
theorem f15_ok {G0 : Gm} {w0 : World} (hS0 : Sat G0 w0) {x0 : TSpan} {x1 : Int} {x2 : Int}  {r : Bool} (H : f15 x0 x1 x2 = some r) :
  Calls Tryz.prog 15 #[.agg #[.int .i64 x0.Low, .int .i64 x0.High], .int .i64 x1, .int .i64 x2] w0 (RetV w0 (.bool r)) := by
 have hS := Since.start hS0
 have hO : Owns G0 w0 w0.heap.size [] := Owns.nil (Nat.le_refl _)
 unfold f15 at H
 refine enter1 (N := 24) (shutV _ _) Tryz.func15 rfl rfl rfl rfl ?_; refine WC_seq ?_; refine WC_region ?_; refine WL_op rfl (OpP_newF (v := fun b => .pointer (some ⟨b, 0, none⟩)) (cs := [.int .i64 x0.Low, .int .i64 x0.High]) (e := 25) (rn_boxA rfl) hS.sat rfl (fun b1 G3 w2 hg hcb1 => ?_)); have hS := hS.grow hg; have hO := hO.grow hg
 have leG3 := hg.le
 refine WL_val (rn_assign (v := (.bool false)) rfl) rfl ?_; refine WL_nil ?_; refine WC_seq ?_; obtain ⟨q4, hq4, H⟩ := bnd H; refine WC_cut (fun F w => ∃ (Fb : Fr), F = upds Fb [(6, .bool q4)] ∧ w2 = w) ?_ ?_
 ·have Hoq4 := H; have H := hq4; refine WC_region ?_; refine WL_val (rn_fld fd25_0 rfl) rfl ?_; refine WL_val (rn_load na3 rfl (hS.sat.cell (hcb1 0 _ rfl))) rfl ?_; refine WL_val (rn_move (v := (.int .i64 x1)) rfl) rfl ?_; refine WL_val (rn_geq rfl rfl) rfl ?_; refine WL_val (rn_move (v := (.bool (decide (x1 ≤ x0.Low)))) rfl) rfl ?_
  rcases bcases (decide (x1 ≤ x0.Low)) with hb5 | hb5
  ·have H := ifT hb5 H; refine WL_guardY rfl hb5 rfl rfl ?_; refine WL_val (rn_fld fd25_0 rfl) rfl ?_; refine WL_guardY rfl hb5 rfl rfl ?_; refine WL_val (rn_load na3 rfl (hS.sat.cell (hcb1 0 _ rfl))) rfl ?_; refine WL_guardY rfl hb5 rfl rfl ?_; refine WL_val (rn_fld fd25_1 rfl) rfl ?_; refine WL_guardY rfl hb5 rfl rfl ?_; refine WL_val (rn_load na3 rfl (hS.sat.cell (hcb1 1 _ rfl))) rfl ?_; refine WL_guardY rfl hb5 rfl rfl ?_; refine WL_val (rn_leq rfl rfl) rfl ?_; refine WL_val (rn_pickT (v := (.bool (decide (x0.Low ≤ x0.High)))) rfl hb5 rfl) rfl ?_; refine WL_val (rn_move (v := (.bool (decide (x0.Low ≤ x0.High)))) rfl) rfl ?_
   rcases bcases (decide (x0.Low ≤ x0.High)) with hb6 | hb6
   ·have H := ifT hb6 H; refine WL_guardY rfl hb6 rfl rfl ?_; refine WL_val (rn_fld fd25_1 rfl) rfl ?_; refine WL_guardY rfl hb6 rfl rfl ?_; refine WL_val (rn_load na3 rfl (hS.sat.cell (hcb1 1 _ rfl))) rfl ?_; refine WL_guardY rfl hb6 rfl rfl ?_; refine WL_val (rn_move (v := (.int .i64 x2)) rfl) rfl ?_; refine WL_guardY rfl hb6 rfl rfl ?_; refine WL_val (rn_leq rfl rfl) rfl ?_; refine WL_val (rn_pickT (v := (.bool (decide (x0.High ≤ x2)))) rfl hb6 rfl) rfl ?_; refine WL_val (rn_assign (v := (.bool (decide (x0.High ≤ x2)))) rfl) rfl ?_; refine WL_nil ?_; have H := Option.some.inj H; subst H
    exact ⟨_, upds_self _ _ ⟨rfl, trivial⟩, rfl⟩
   ·have H := ifF hb6 H; refine WL_guardN rfl hb6 rfl rfl rfl ?_; refine WL_guardN rfl hb6 rfl rfl rfl ?_; refine WL_guardN rfl hb6 rfl rfl rfl ?_; refine WL_guardN rfl hb6 rfl rfl rfl ?_; refine WL_val (rn_pickF (v := (.bool false)) rfl hb6 rfl) rfl ?_; refine WL_val (rn_assign (v := (.bool false)) rfl) rfl ?_; refine WL_nil ?_; have H := Option.some.inj H; subst H
    exact ⟨_, upds_self _ _ ⟨rfl, trivial⟩, rfl⟩
  ·have H := ifF hb5 H; refine WL_guardN rfl hb5 rfl rfl rfl ?_; refine WL_guardN rfl hb5 rfl rfl rfl ?_; refine WL_guardN rfl hb5 rfl rfl rfl ?_; refine WL_guardN rfl hb5 rfl rfl rfl ?_; refine WL_guardN rfl hb5 rfl rfl rfl ?_; refine WL_val (rn_pickF (v := (.bool false)) rfl hb5 rfl) rfl ?_; refine WL_val (rn_move (v := (.bool false)) rfl) rfl ?_; refine WL_guardN rfl rfl rfl rfl rfl ?_; refine WL_guardN rfl rfl rfl rfl rfl ?_; refine WL_guardN rfl rfl rfl rfl rfl ?_; refine WL_guardN rfl rfl rfl rfl rfl ?_; refine WL_val (rn_pickF (v := (.bool false)) rfl rfl rfl) rfl ?_; refine WL_val (rn_assign (v := (.bool false)) rfl) rfl ?_; refine WL_nil ?_; have H := Option.some.inj H; subst H
   exact ⟨_, upds_self _ _ ⟨rfl, trivial⟩, rfl⟩
 ·rintro F wl ⟨Fb, rfl, rfl⟩
  refine WC_ret ?_
  have H : some q4 = some r := H
  have H := Option.some.inj H; subst H
  exact ⟨rfl, hS.below⟩
set_option maxHeartbeats 1000000 in
theorem f4_ok {G0 : Gm} {w0 : World} (hS0 : Sat G0 w0) {x0 : TShipPass} {a1 : Option Addr} {n1 c1 : Nat} {a2 : Option Addr} {n2 c2 : Nat} (h1 : RSl RInt 1 G0 a1 n1 c1 x0.Tides) (h2 : RSl RTSpan 2 G0 a2 n2 c2 x0.Swell) {r : Bool} (H : f4 x0 = some r) :
  Calls Tryz.prog 4 #[.agg #[.slice a1 n1 c1, .int .i64 x0.Depth, .int .i64 x0.Draft, .slice a2 n2 c2, .int .i64 x0.Light.Low, .int .i64 x0.Light.High]] w0 (RetV w0 (.bool r)) := by
 have hS := Since.start hS0
 have hO : Owns G0 w0 w0.heap.size [] := Owns.nil (Nat.le_refl _)
 unfold f4 at H
 refine enter1 (N := 58) (shutV _ _) Tryz.func4 rfl rfl rfl rfl ?_; refine WC_seq ?_; refine WC_region ?_; refine WL_op rfl (OpP_newF (v := fun b => .pointer (some ⟨b, 0, none⟩)) (cs := [.slice a1 n1 c1, .int .i64 x0.Depth, .int .i64 x0.Draft, .slice a2 n2 c2, .int .i64 x0.Light.Low, .int .i64 x0.Light.High]) (e := 27) (rn_boxA rfl) hS.sat rfl (fun b3 G5 w4 hg hcb3 => ?_)); have hS := hS.grow hg; have hO := hO.grow hg
 have leG5 := hg.le
 refine WL_val (rn_assign (v := (.bool false)) rfl) rfl ?_; refine WL_nil ?_; refine WC_seq ?_; refine WC_seq ?_; refine WC_region ?_; refine WL_val (rn_assign (v := (.int .i64 0)) rfl) rfl ?_; refine WL_nil ?_; obtain ⟨q8, hq8, H⟩ := bnd H; refine WC_cut (fun F w => ∃ (p7 : Unit) (Fb : Fr) (G : Gm), q8 = .inl p7 ∧ F = upds Fb [(1, .pointer (some ⟨b3, 0, none⟩))] ∧ Gle G5 G ∧ Since w0.heap.size G0 w0 G w ∧ Owns G w w0.heap.size []) ?_ ?_
 ·refine WC_block (WC_loop hq8 (fun s6 F w => ∃ (Fb : Fr) (G : Gm), F = upds Fb [(1, .pointer (some ⟨b3, 0, none⟩)), (3, .int .i64 s6)] ∧ Gle G5 G ∧ Since w0.heap.size G0 w0 G w ∧ Owns G w w0.heap.size []) ?_ ?_)
  ·have hO : Owns G5 w4 w0.heap.size ([]) := hO
   exact ⟨_, G5, upds_self _ _ ⟨rfl, rfl, trivial⟩, Gle.refl _, hS, hO⟩
  ·rintro s6 F w10 t9 ⟨Fb, G11, rfl, leG11, hS, hO⟩
   intro H1 hqq8
   have Hoq8 := H; have H := H1
   unfold f4_b0 at H
   refine WC_seq ?_; refine WC_seq ?_; refine WC_region ?_; refine WL_val (rn_move (v := (.int .i64 s6)) rfl) rfl ?_; refine WL_val (rn_fld fd27_0 rfl) rfl ?_; refine WL_val (rn_load na22 rfl ((hS.sat.le leG11).cell (hcb3 0 _ rfl))) rfl ?_
   have l0_2 := leG5.trans leG11
   refine WL_val (rn_len sl22 rfl rfl (h1.mono RInt_mono l0_2).1) rfl ?_; refine WL_val (rn_lss rfl rfl) rfl ?_; refine WL_nil ?_; refine WC_cond rfl (fun hb12 => ?_) (fun hb12 => ?_)
   ·have H := ifT hb12 H; refine WC_skip ?_; refine WC_seq ?_; refine WC_block ?_; refine WC_seq ?_; refine WC_region ?_; refine WL_val (rn_fld fd27_0 rfl) rfl ?_; refine WL_val (rn_load na22 rfl ((hS.sat.le leG11).cell (hcb3 0 _ rfl))) rfl ?_; refine WL_val (rn_move (v := (.int .i64 s6)) rfl) rfl ?_; obtain ⟨y13, hy13, H⟩ := bnd H; refine WL_idx sl22 (h1.mono RInt_mono l0_2) hy13 rfl rfl rfl ?_
    rintro b14 o14 _ hcb14 _ ⟨⟩
    refine WL_val (rn_load na3 rfl (hS.sat.cell (hcb14 0 _ rfl))) rfl ?_; obtain ⟨y15, hy15, H⟩ := bnd H; refine WL_op rfl (OpP_callV cb14 (f14_ok (x0 := y13) (x1 := (-1000)) (x2 := 1000) hS.sat  hy15) rfl rfl (fun w16 hb => ?_)); have hS := hS.keep hb; have hO := hO.below hb; refine WL_val (rn_not rfl) rfl ?_; refine WL_nil ?_; refine WC_cond rfl (fun hb17 => ?_) (fun hb17 => ?_)
    ·have H := ifT hb17 H; refine WC_seq ?_; refine WC_region ?_; refine WL_val (rn_assign (v := (.bool false)) rfl) rfl ?_; refine WL_nil ?_; refine WC_ret ?_; have H := Option.some.inj H; subst H
     have hres := hqq8 _ rfl
     subst hres; have H := Hoq8
     have H : some false = some r := H
     have H := Option.some.inj H; subst H
     exact ⟨rfl, hS.below⟩
    ·have H := ifF hb17 H; refine WC_skip ?_; refine WC_region ?_; refine WL_val (rn_move (v := (.int .i64 s6)) rfl) rfl ?_; refine WL_val (rn_add rfl rfl) rfl ?_; refine WL_val (rn_assign (v := (.int .i64 (IntKind.i64.wrap (s6 + 1)))) rfl) rfl ?_; refine WL_nil ?_
     have hO : Owns G11 w16 w0.heap.size ([]) := hO
     have H := Option.some.inj H; subst H; refine ⟨_, rfl, ?_⟩
     exact ⟨_, G11, upds_self _ _ ⟨rfl, rfl, trivial⟩, leG11, hS, hO⟩
   ·have H := ifF hb12 H; refine WC_exit rfl ?_
    have hO : Owns G11 w10 w0.heap.size ([]) := hO
    have H := Option.some.inj H; subst H
    have hres := hqq8 _ rfl
    subst hres
    exact ⟨_, _, G11, rfl, upds_self _ _ ⟨rfl, trivial⟩, leG11, hS, hO⟩
 ·rintro F w18 ⟨p7, Fb, G19, rfl, rfl, leG19, hS, hO⟩
  refine WC_seq ?_; refine WC_seq ?_; refine WC_region ?_; refine WL_val (rn_assign (v := (.int .i64 0)) rfl) rfl ?_; refine WL_nil ?_; obtain ⟨q22, hq22, H⟩ := bnd H; refine WC_cut (fun F w => ∃ (p21 : Unit) (Fb : Fr) (G : Gm), q22 = .inl p21 ∧ F = upds Fb [(1, .pointer (some ⟨b3, 0, none⟩))] ∧ Gle G19 G ∧ Since w0.heap.size G0 w0 G w ∧ Owns G w w0.heap.size []) ?_ ?_
  ·refine WC_block (WC_loop hq22 (fun s20 F w => ∃ (Fb : Fr) (G : Gm), F = upds Fb [(1, .pointer (some ⟨b3, 0, none⟩)), (4, .int .i64 s20)] ∧ Gle G19 G ∧ Since w0.heap.size G0 w0 G w ∧ Owns G w w0.heap.size []) ?_ ?_)
   ·have hO : Owns G19 w18 w0.heap.size ([]) := hO
    exact ⟨_, G19, upds_self _ _ ⟨rfl, rfl, trivial⟩, Gle.refl _, hS, hO⟩
   ·rintro s20 F w24 t23 ⟨Fb, G25, rfl, leG25, hS, hO⟩
    intro H1 hqq22
    have Hoq22 := H; have H := H1
    unfold f4_b1 at H
    refine WC_seq ?_; refine WC_seq ?_; refine WC_region ?_; refine WL_val (rn_move (v := (.int .i64 s20)) rfl) rfl ?_; refine WL_val (rn_fld fd27_3 rfl) rfl ?_
    have l1_3 := leG19.trans leG25
    refine WL_val (rn_load na23 rfl ((hS.sat.le l1_3).cell (hcb3 3 _ rfl))) rfl ?_
    have l0_3 := leG5.trans l1_3
    refine WL_val (rn_len sl23 rfl rfl (h2.mono RTSpan_mono l0_3).1) rfl ?_; refine WL_val (rn_lss rfl rfl) rfl ?_; refine WL_nil ?_; refine WC_cond rfl (fun hb26 => ?_) (fun hb26 => ?_)
    ·have H := ifT hb26 H; refine WC_skip ?_; refine WC_seq ?_; refine WC_block ?_; refine WC_seq ?_; refine WC_region ?_; refine WL_val (rn_fld fd27_3 rfl) rfl ?_; refine WL_val (rn_load na23 rfl ((hS.sat.le l1_3).cell (hcb3 3 _ rfl))) rfl ?_; refine WL_val (rn_move (v := (.int .i64 s20)) rfl) rfl ?_; obtain ⟨y27, hy27, H⟩ := bnd H; refine WL_idx sl23 (h2.mono RTSpan_mono l0_3) hy27 rfl rfl rfl ?_
     rintro b28 o28 _ hcb28 _ ⟨⟩
     refine WL_val (rn_loadA ag25 (cs := [.int .i64 y27.Low, .int .i64 y27.High]) rfl rfl (fun j v hj => hS.sat.cell (hcb28.drop_take 0 2 j v hj))) rfl ?_; obtain ⟨y29, hy29, H⟩ := bnd H; refine WL_op rfl (OpP_callV cb15 (f15_ok (x0 := y27) (x1 := 0) (x2 := 1000) hS.sat  hy29) rfl rfl (fun w30 hb => ?_)); have hS := hS.keep hb; have hO := hO.below hb; refine WL_val (rn_not rfl) rfl ?_; refine WL_nil ?_; refine WC_cond rfl (fun hb31 => ?_) (fun hb31 => ?_)
     ·have H := ifT hb31 H; refine WC_seq ?_; refine WC_region ?_; refine WL_val (rn_assign (v := (.bool false)) rfl) rfl ?_; refine WL_nil ?_; refine WC_ret ?_; have H := Option.some.inj H; subst H
      have hres := hqq22 _ rfl
      subst hres; have H := Hoq22
      have H : some false = some r := H
      have H := Option.some.inj H; subst H
      exact ⟨rfl, hS.below⟩
     ·have H := ifF hb31 H; refine WC_skip ?_; refine WC_region ?_; refine WL_val (rn_move (v := (.int .i64 s20)) rfl) rfl ?_; refine WL_val (rn_add rfl rfl) rfl ?_; refine WL_val (rn_assign (v := (.int .i64 (IntKind.i64.wrap (s20 + 1)))) rfl) rfl ?_; refine WL_nil ?_
      have hO : Owns G25 w30 w0.heap.size ([]) := hO
      have H := Option.some.inj H; subst H; refine ⟨_, rfl, ?_⟩
      exact ⟨_, G25, upds_self _ _ ⟨rfl, rfl, trivial⟩, leG25, hS, hO⟩
    ·have H := ifF hb26 H; refine WC_exit rfl ?_
     have hO : Owns G25 w24 w0.heap.size ([]) := hO
     have H := Option.some.inj H; subst H
     have hres := hqq22 _ rfl
     subst hres
     exact ⟨_, _, G25, rfl, upds_self _ _ ⟨rfl, trivial⟩, leG25, hS, hO⟩
  ·rintro F w32 ⟨p21, Fb, G33, rfl, rfl, leG33, hS, hO⟩
   refine WC_seq ?_; obtain ⟨q34, hq34, H⟩ := bnd H; refine WC_cut (fun F w => ∃ (Fb : Fr) (G : Gm), F = upds Fb [(2, .bool q34)] ∧ Gle G33 G ∧ Since w0.heap.size G0 w0 G w ∧ Owns G w w0.heap.size []) ?_ ?_
   ·have Hoq34 := H; have H := hq34; refine WC_region ?_; refine WL_val (rn_fld fd27_0 rfl) rfl ?_
    have l1_3 := leG19.trans leG33
    refine WL_val (rn_load na22 rfl ((hS.sat.le l1_3).cell (hcb3 0 _ rfl))) rfl ?_
    have l0_3 := leG5.trans l1_3
    refine WL_val (rn_len sl22 rfl rfl (h1.mono RInt_mono l0_3).1) rfl ?_; obtain ⟨y35, hy35, H⟩ := bnd H; refine WL_op rfl (OpP_callV cb14 (f14_ok (x0 := (x0.Tides.length : Int)) (x1 := 1) (x2 := 50) hS.sat  hy35) rfl rfl (fun w36 hb => ?_)); have hS := hS.keep hb; have hO := hO.below hb; refine WL_val (rn_move (v := (.bool y35)) rfl) rfl ?_
    rcases bcases y35 with hb37 | hb37
    ·have H := ifT hb37 H; refine WL_guardY rfl hb37 rfl rfl ?_; refine WL_val (rn_fld fd27_1 rfl) rfl ?_; refine WL_guardY rfl hb37 rfl rfl ?_; refine WL_val (rn_load na3 rfl ((hS.sat.le l1_3).cell (hcb3 1 _ rfl))) rfl ?_; refine WL_guardY rfl hb37 rfl rfl ?_; obtain ⟨y38, hy38, H⟩ := bnd H; refine WL_op rfl (OpP_callV cb14 (f14_ok (x0 := x0.Depth) (x1 := 0) (x2 := 1000) hS.sat  hy38) rfl rfl (fun w39 hb => ?_)); have hS := hS.keep hb; have hO := hO.below hb; refine WL_val (rn_pickT (v := (.bool y38)) rfl hb37 rfl) rfl ?_; refine WL_val (rn_move (v := (.bool y38)) rfl) rfl ?_
     rcases bcases y38 with hb40 | hb40
     ·have H := ifT hb40 H; refine WL_guardY rfl hb40 rfl rfl ?_; refine WL_val (rn_fld fd27_2 rfl) rfl ?_; refine WL_guardY rfl hb40 rfl rfl ?_; refine WL_val (rn_load na3 rfl ((hS.sat.le l1_3).cell (hcb3 2 _ rfl))) rfl ?_; refine WL_guardY rfl hb40 rfl rfl ?_; obtain ⟨y41, hy41, H⟩ := bnd H; refine WL_op rfl (OpP_callV cb14 (f14_ok (x0 := x0.Draft) (x1 := 0) (x2 := 1000) hS.sat  hy41) rfl rfl (fun w42 hb => ?_)); have hS := hS.keep hb; have hO := hO.below hb; refine WL_val (rn_pickT (v := (.bool y41)) rfl hb40 rfl) rfl ?_; refine WL_val (rn_move (v := (.bool y41)) rfl) rfl ?_
      rcases bcases y41 with hb43 | hb43
      ·have H := ifT hb43 H; refine WL_guardY rfl hb43 rfl rfl ?_; refine WL_val (rn_fld fd27_3 rfl) rfl ?_; refine WL_guardY rfl hb43 rfl rfl ?_; refine WL_val (rn_load na23 rfl ((hS.sat.le l1_3).cell (hcb3 3 _ rfl))) rfl ?_; refine WL_guardY rfl hb43 rfl rfl ?_; refine WL_val (rn_len sl23 rfl rfl (h2.mono RTSpan_mono l0_3).1) rfl ?_; refine WL_guardY rfl hb43 rfl rfl ?_; obtain ⟨y44, hy44, H⟩ := bnd H; refine WL_op rfl (OpP_callV cb14 (f14_ok (x0 := (x0.Swell.length : Int)) (x1 := 1) (x2 := 60) hS.sat  hy44) rfl rfl (fun w45 hb => ?_)); have hS := hS.keep hb; have hO := hO.below hb; refine WL_val (rn_pickT (v := (.bool y44)) rfl hb43 rfl) rfl ?_; refine WL_val (rn_move (v := (.bool y44)) rfl) rfl ?_
       rcases bcases y44 with hb46 | hb46
       ·have H := ifT hb46 H; refine WL_guardY rfl hb46 rfl rfl ?_; refine WL_val (rn_fld fd27_4 rfl) rfl ?_; refine WL_guardY rfl hb46 rfl rfl ?_; refine WL_val (rn_loadA ag25 (cs := [.int .i64 x0.Light.Low, .int .i64 x0.Light.High]) rfl rfl (fun j v hj => (hS.sat.le l1_3).cell (hcb3.drop_take 4 2 j v hj))) rfl ?_; refine WL_guardY rfl hb46 rfl rfl ?_; obtain ⟨y47, hy47, H⟩ := bnd H; refine WL_op rfl (OpP_callV cb15 (f15_ok (x0 := x0.Light) (x1 := 0) (x2 := 23) hS.sat  hy47) rfl rfl (fun w48 hb => ?_)); have hS := hS.keep hb; have hO := hO.below hb; refine WL_val (rn_pickT (v := (.bool y47)) rfl hb46 rfl) rfl ?_; refine WL_val (rn_assign (v := (.bool y47)) rfl) rfl ?_; refine WL_nil ?_
        have hO : Owns G33 w48 w0.heap.size ([]) := hO
        have H := Option.some.inj H; subst H
        exact ⟨_, G33, upds_self _ _ ⟨rfl, trivial⟩, Gle.refl _, hS, hO⟩
       ·have H := ifF hb46 H; refine WL_guardN rfl hb46 rfl rfl rfl ?_; refine WL_guardN rfl hb46 rfl rfl rfl ?_; refine WL_guardN rfl hb46 rfl rfl rfl ?_; refine WL_val (rn_pickF (v := (.bool false)) rfl hb46 rfl) rfl ?_; refine WL_val (rn_assign (v := (.bool false)) rfl) rfl ?_; refine WL_nil ?_
        have hO : Owns G33 w45 w0.heap.size ([]) := hO
        have H := Option.some.inj H; subst H
        exact ⟨_, G33, upds_self _ _ ⟨rfl, trivial⟩, Gle.refl _, hS, hO⟩
      ·have H := ifF hb43 H; refine WL_guardN rfl hb43 rfl rfl rfl ?_; refine WL_guardN rfl hb43 rfl rfl rfl ?_; refine WL_guardN rfl hb43 rfl rfl rfl ?_; refine WL_guardN rfl hb43 rfl rfl rfl ?_; refine WL_val (rn_pickF (v := (.bool false)) rfl hb43 rfl) rfl ?_; refine WL_val (rn_move (v := (.bool false)) rfl) rfl ?_; refine WL_guardN rfl rfl rfl rfl rfl ?_; refine WL_guardN rfl rfl rfl rfl rfl ?_; refine WL_guardN rfl rfl rfl rfl rfl ?_; refine WL_val (rn_pickF (v := (.bool false)) rfl rfl rfl) rfl ?_; refine WL_val (rn_assign (v := (.bool false)) rfl) rfl ?_; refine WL_nil ?_
       have hO : Owns G33 w42 w0.heap.size ([]) := hO
       have H := Option.some.inj H; subst H
       exact ⟨_, G33, upds_self _ _ ⟨rfl, trivial⟩, Gle.refl _, hS, hO⟩
     ·have H := ifF hb40 H; refine WL_guardN rfl hb40 rfl rfl rfl ?_; refine WL_guardN rfl hb40 rfl rfl rfl ?_; refine WL_guardN rfl hb40 rfl rfl rfl ?_; refine WL_val (rn_pickF (v := (.bool false)) rfl hb40 rfl) rfl ?_; refine WL_val (rn_move (v := (.bool false)) rfl) rfl ?_; refine WL_guardN rfl rfl rfl rfl rfl ?_; refine WL_guardN rfl rfl rfl rfl rfl ?_; refine WL_guardN rfl rfl rfl rfl rfl ?_; refine WL_guardN rfl rfl rfl rfl rfl ?_; refine WL_val (rn_pickF (v := (.bool false)) rfl rfl rfl) rfl ?_; refine WL_val (rn_move (v := (.bool false)) rfl) rfl ?_; refine WL_guardN rfl rfl rfl rfl rfl ?_; refine WL_guardN rfl rfl rfl rfl rfl ?_; refine WL_guardN rfl rfl rfl rfl rfl ?_; refine WL_val (rn_pickF (v := (.bool false)) rfl rfl rfl) rfl ?_; refine WL_val (rn_assign (v := (.bool false)) rfl) rfl ?_; refine WL_nil ?_
      have hO : Owns G33 w39 w0.heap.size ([]) := hO
      have H := Option.some.inj H; subst H
      exact ⟨_, G33, upds_self _ _ ⟨rfl, trivial⟩, Gle.refl _, hS, hO⟩
    ·have H := ifF hb37 H; refine WL_guardN rfl hb37 rfl rfl rfl ?_; refine WL_guardN rfl hb37 rfl rfl rfl ?_; refine WL_guardN rfl hb37 rfl rfl rfl ?_; refine WL_val (rn_pickF (v := (.bool false)) rfl hb37 rfl) rfl ?_; refine WL_val (rn_move (v := (.bool false)) rfl) rfl ?_; refine WL_guardN rfl rfl rfl rfl rfl ?_; refine WL_guardN rfl rfl rfl rfl rfl ?_; refine WL_guardN rfl rfl rfl rfl rfl ?_; refine WL_val (rn_pickF (v := (.bool false)) rfl rfl rfl) rfl ?_; refine WL_val (rn_move (v := (.bool false)) rfl) rfl ?_; refine WL_guardN rfl rfl rfl rfl rfl ?_; refine WL_guardN rfl rfl rfl rfl rfl ?_; refine WL_guardN rfl rfl rfl rfl rfl ?_; refine WL_guardN rfl rfl rfl rfl rfl ?_; refine WL_val (rn_pickF (v := (.bool false)) rfl rfl rfl) rfl ?_; refine WL_val (rn_move (v := (.bool false)) rfl) rfl ?_; refine WL_guardN rfl rfl rfl rfl rfl ?_; refine WL_guardN rfl rfl rfl rfl rfl ?_; refine WL_guardN rfl rfl rfl rfl rfl ?_; refine WL_val (rn_pickF (v := (.bool false)) rfl rfl rfl) rfl ?_; refine WL_val (rn_assign (v := (.bool false)) rfl) rfl ?_; refine WL_nil ?_
     have hO : Owns G33 w36 w0.heap.size ([]) := hO
     have H := Option.some.inj H; subst H
     exact ⟨_, G33, upds_self _ _ ⟨rfl, trivial⟩, Gle.refl _, hS, hO⟩
   ·rintro F w49 ⟨Fb, G50, rfl, leG50, hS, hO⟩
    refine WC_ret ?_
    have H : some q34 = some r := H
    have H := Option.some.inj H; subst H
    exact ⟨rfl, hS.below⟩
set_option maxHeartbeats 1000000 in
theorem f5_ok {G0 : Gm} {w0 : World} (hS0 : Sat G0 w0) {x0 : TSpan}  {r : Bool} (H : f5 x0 = some r) :
  Calls Tryz.prog 5 #[.agg #[.int .i64 x0.Low, .int .i64 x0.High]] w0 (RetV w0 (.bool r)) := by
 have hS := Since.start hS0
 have hO : Owns G0 w0 w0.heap.size [] := Owns.nil (Nat.le_refl _)
 unfold f5 at H
 refine enter1 (N := 5) (shutV _ _) Tryz.func5 rfl rfl rfl rfl ?_; refine WC_seq ?_; refine WC_region ?_; refine WL_op rfl (OpP_newF (v := fun b => .pointer (some ⟨b, 0, none⟩)) (cs := [.int .i64 x0.Low, .int .i64 x0.High]) (e := 25) (rn_boxA rfl) hS.sat rfl (fun b1 G3 w2 hg hcb1 => ?_)); have hS := hS.grow hg; have hO := hO.grow hg
 have leG3 := hg.le
 refine WL_val (rn_assign (v := (.bool false)) rfl) rfl ?_; refine WL_nil ?_; refine WC_seq ?_; refine WC_region ?_; refine WL_val (rn_loadA ag25 (cs := [.int .i64 x0.Low, .int .i64 x0.High]) rfl rfl (fun j v hj => hS.sat.cell (hcb1.drop_take 0 2 j v hj))) rfl ?_; obtain ⟨y4, hy4, H⟩ := bnd H; refine WL_op rfl (OpP_callV cb15 (f15_ok (x0 := x0) (x1 := 1) (x2 := 60) hS.sat  hy4) rfl rfl (fun w5 hb => ?_)); have hS := hS.keep hb; have hO := hO.below hb; refine WL_val (rn_assign (v := (.bool y4)) rfl) rfl ?_; refine WL_nil ?_; refine WC_ret ?_
 have H : some y4 = some r := H
 have H := Option.some.inj H; subst H
 exact ⟨rfl, hS.below⟩
set_option maxHeartbeats 1000000 in
theorem f6_ok {G0 : Gm} {w0 : World} (hS0 : Sat G0 w0) {x0 : Int}  {r : Bool} (H : f6 x0 = some r) :
  Calls Tryz.prog 6 #[.int .i64 x0] w0 (RetV w0 (.bool r)) := by
 have hS := Since.start hS0
 have hO : Owns G0 w0 w0.heap.size [] := Owns.nil (Nat.le_refl _)
 unfold f6 at H
 refine enter1 (N := 5) (shutV _ _) Tryz.func6 rfl rfl rfl rfl ?_; refine WC_seq ?_; refine WC_region ?_; refine WL_val (rn_assign (v := (.bool false)) rfl) rfl ?_; refine WL_nil ?_; refine WC_seq ?_; refine WC_region ?_; refine WL_val (rn_move (v := (.int .i64 x0)) rfl) rfl ?_; obtain ⟨y1, hy1, H⟩ := bnd H; refine WL_op rfl (OpP_callV cb14 (f14_ok (x0 := x0) (x1 := 1) (x2 := 8) hS.sat  hy1) rfl rfl (fun w2 hb => ?_)); have hS := hS.keep hb; have hO := hO.below hb; refine WL_val (rn_assign (v := (.bool y1)) rfl) rfl ?_; refine WL_nil ?_; refine WC_ret ?_
 have H : some y1 = some r := H
 have H := Option.some.inj H; subst H
 exact ⟨rfl, hS.below⟩
set_option maxHeartbeats 1000000 in
theorem f13_ok {G0 : Gm} {w0 : World} (hS0 : Sat G0 w0) {x0 : (List Int)} {a1 : Option Addr} {n1 c1 : Nat} {x1 : (List Int)} {a2 : Option Addr} {n2 c2 : Nat} (h1 : RSl RInt 1 G0 a1 n1 c1 x0) (h2 : RSl RInt 1 G0 a2 n2 c2 x1) {r : Bool} (H : f13 x0 x1 = some r) :
  Calls Tryz.prog 13 #[.slice a1 n1 c1, .slice a2 n2 c2] w0 (RetV w0 (.bool r)) := by
 have hS := Since.start hS0
 have hO : Owns G0 w0 w0.heap.size [] := Owns.nil (Nat.le_refl _)
 unfold f13 at H
 refine enter1 (N := 26) (shutV _ _) Tryz.func13 rfl rfl rfl rfl ?_; refine WC_seq ?_; refine WC_region ?_; refine WL_val (rn_assign (v := (.bool false)) rfl) rfl ?_; refine WL_nil ?_; refine WC_seq ?_; refine WC_seq ?_; refine WC_region ?_; refine WL_val (rn_move (v := (.slice a1 n1 c1)) rfl) rfl ?_; refine WL_val (rn_len sl22 rfl rfl h1.1) rfl ?_; refine WL_val (rn_move (v := (.slice a2 n2 c2)) rfl) rfl ?_; refine WL_val (rn_len sl22 rfl rfl h2.1) rfl ?_; refine WL_val (rn_neq rfl rfl) rfl ?_; refine WL_nil ?_; refine WC_cond rfl (fun hb3 => ?_) (fun hb3 => ?_)
 ·have H := ifT hb3 H; refine WC_seq ?_; refine WC_region ?_; refine WL_val (rn_assign (v := (.bool false)) rfl) rfl ?_; refine WL_nil ?_; refine WC_ret ?_
  have H : some false = some r := H
  have H := Option.some.inj H; subst H
  exact ⟨rfl, hS.below⟩
 ·have H := ifF hb3 H; refine WC_skip ?_; refine WC_seq ?_; refine WC_seq ?_; refine WC_region ?_; refine WL_val (rn_assign (v := (.int .i64 0)) rfl) rfl ?_; refine WL_nil ?_; obtain ⟨q6, hq6, H⟩ := bnd H; refine WC_cut (fun F w => ∃ (p5 : Unit) (Fb : Fr) (G : Gm), q6 = .inl p5 ∧ F = upds Fb [] ∧ Gle G0 G ∧ Since w0.heap.size G0 w0 G w ∧ Owns G w w0.heap.size []) ?_ ?_
  ·refine WC_block (WC_loop hq6 (fun s4 F w => ∃ (Fb : Fr) (G : Gm), F = upds Fb [(0, .slice a1 n1 c1), (1, .slice a2 n2 c2), (5, .int .i64 s4)] ∧ Gle G0 G ∧ Since w0.heap.size G0 w0 G w ∧ Owns G w w0.heap.size []) ?_ ?_)
   ·have hO : Owns G0 w0 w0.heap.size ([]) := hO
    exact ⟨_, G0, upds_self _ _ ⟨rfl, rfl, rfl, trivial⟩, Gle.refl _, hS, hO⟩
   ·rintro s4 F w8 t7 ⟨Fb, G9, rfl, leG9, hS, hO⟩
    intro H1 hqq6
    have Hoq6 := H; have H := H1
    unfold f13_b0 at H
    refine WC_seq ?_; refine WC_seq ?_; refine WC_region ?_; refine WL_val (rn_move (v := (.int .i64 s4)) rfl) rfl ?_; refine WL_val (rn_move (v := (.slice a1 n1 c1)) rfl) rfl ?_; refine WL_val (rn_len sl22 rfl rfl (h1.mono RInt_mono leG9).1) rfl ?_; refine WL_val (rn_lss rfl rfl) rfl ?_; refine WL_nil ?_; refine WC_cond rfl (fun hb10 => ?_) (fun hb10 => ?_)
    ·have H := ifT hb10 H; refine WC_skip ?_; refine WC_seq ?_; refine WC_block ?_; refine WC_seq ?_; have hS := hS.keep (below_drew _); have hO := hO.below (below_drew _)
     refine WC_regionD mixedO (fun _ w => Sat G9 w ∧ True) (.fl 0 (.fl 1 (.fl 2 (.fl 3 (.fl 4 (.on 5 (.on 6 (.on 7 (.on 8 .nil))))))))) (by kernel_rfl) rfl (by kernel_rfl) (fun _ => ⟨hS.sat, trivial⟩) ?_
     refine WD_val rfl (fun w hw => rn_move (v := (.slice a1 n1 c1)) rfl) rfl ?_; refine WD_val rfl (fun w hw => rn_move (v := (.int .i64 s4)) rfl) rfl ?_; obtain ⟨y11, hy11, H⟩ := bnd H; refine WD_idx rfl sl22 (h1.mono RInt_mono leG9) hy11 rfl rfl rfl ?_
     rintro b12 o12 _ hcb12 _ ⟨⟩
     refine WD_val rfl (fun w hw => rn_load na3 rfl (hw.1.cell (hcb12 0 _ rfl))) rfl ?_; refine WD_val rfl (fun w hw => rn_move (v := (.slice a2 n2 c2)) rfl) rfl ?_; refine WD_op rfl rfl (OpP_val (rn_move (v := (.int .i64 s4)) rfl) rfl ?_); refine ⟨fun _ _ => ⟨hS.sat, trivial⟩, ?_⟩; obtain ⟨y13, hy13, H⟩ := bnd H; refine WD_op rfl rfl (OpP_idx sl22 (h2.mono RInt_mono leG9) hy13 rfl rfl rfl ?_)
     rintro b14 o14 _ hcb14 _ ⟨⟩
     refine ⟨fun _ _ => ⟨hS.sat, trivial⟩, ?_⟩; refine WD_op rfl rfl (OpP_val (rn_load na3 rfl (hS.sat.cell (hcb14 0 _ rfl))) rfl ?_); refine ⟨fun _ _ => ⟨hS.sat, trivial⟩, ?_⟩; refine WD_op rfl rfl (OpP_val (rn_neq rfl rfl) rfl ?_)
     refine ⟨fun _ h => noneed (by kernel_rfl) h, ?_⟩
     refine WD_nil ?_; refine WC_cond rfl (fun hb15 => ?_) (fun hb15 => ?_)
     ·have H := ifT hb15 H; refine WC_seq ?_; refine WC_region ?_; refine WL_val (rn_assign (v := (.bool false)) rfl) rfl ?_; refine WL_nil ?_; refine WC_ret ?_; have H := Option.some.inj H; subst H
      have hres := hqq6 _ rfl
      subst hres; have H := Hoq6
      have H : some false = some r := H
      have H := Option.some.inj H; subst H
      exact ⟨rfl, hS.below⟩
     ·have H := ifF hb15 H; refine WC_skip ?_; refine WC_region ?_; refine WL_val (rn_move (v := (.int .i64 s4)) rfl) rfl ?_; refine WL_val (rn_add rfl rfl) rfl ?_; refine WL_val (rn_assign (v := (.int .i64 (IntKind.i64.wrap (s4 + 1)))) rfl) rfl ?_; refine WL_nil ?_
      have hO : Owns G9 w8.drew w0.heap.size ([]) := hO
      have H := Option.some.inj H; subst H; refine ⟨_, rfl, ?_⟩
      exact ⟨_, G9, upds_self _ _ ⟨rfl, rfl, rfl, trivial⟩, leG9, hS, hO⟩
    ·have H := ifF hb10 H; refine WC_exit rfl ?_
     have hO : Owns G9 w8 w0.heap.size ([]) := hO
     have H := Option.some.inj H; subst H
     have hres := hqq6 _ rfl
     subst hres
     exact ⟨_, _, G9, rfl, rfl, leG9, hS, hO⟩
  ·rintro F w16 ⟨p5, Fb, G17, rfl, rfl, leG17, hS, hO⟩
   refine WC_seq ?_; refine WC_region ?_; refine WL_val (rn_assign (v := (.bool true)) rfl) rfl ?_; refine WL_nil ?_; refine WC_ret ?_
   have H : some true = some r := H
   have H := Option.some.inj H; subst H
   exact ⟨rfl, hS.below⟩
set_option maxHeartbeats 1000000 in
theorem f68_ok {G0 : Gm} {w0 : World} (hS0 : Sat G0 w0) {x0 : (List Int)} {a1 : Option Addr} {n1 c1 : Nat} {x1 : (Int → Option Bool)} {k2 : Nat} {fi2 ca2 : List Value} (h1 : RSl RInt 1 G0 a1 n1 c1 x0) (hf2 : FnOk30 G0 k2 fi2 ca2 x1) {r : Int} (H : f68 x0 x1 = some r) :
  Calls Tryz.prog 68 #[.slice a1 n1 c1, .func (.func k2) (fi2).toArray (ca2).toArray] w0 (RetV w0 (.int .i64 r)) := by
 have hS := Since.start hS0
 have hO : Owns G0 w0 w0.heap.size [] := Owns.nil (Nat.le_refl _)
 unfold f68 at H
 refine enter1 (N := 19) (shutV _ _) Tryz.func68 rfl rfl rfl rfl ?_; refine WC_seq ?_; refine WC_region ?_; refine WL_val (rn_assign (v := (.int .i64 0)) rfl) rfl ?_; refine WL_nil ?_; refine WC_seq ?_; refine WC_seq ?_; refine WC_region ?_; refine WL_val (rn_move (v := (.slice a1 n1 c1)) rfl) rfl ?_; refine WL_val (rn_len sl22 rfl rfl h1.1) rfl ?_; refine WL_val (rn_move (v := (.int .i64 0)) rfl) rfl ?_; refine WL_nil ?_; obtain ⟨q5, hq5, H⟩ := bnd H; refine WC_cut (fun F w => ∃ (p4 : Unit) (Fb : Fr) (G : Gm), q5 = .inl p4 ∧ F = upds Fb [] ∧ Gle G0 G ∧ Since w0.heap.size G0 w0 G w ∧ Owns G w w0.heap.size []) ?_ ?_
 ·refine WC_block (WC_loop hq5 (fun s3 F w => ∃ (Fb : Fr) (G : Gm), F = upds Fb [(0, .slice a1 n1 c1), (1, .func (.func k2) (fi2).toArray (ca2).toArray), (7, .int .i64 (x0.length : Int)), (8, .int .i64 s3)] ∧ Gle G0 G ∧ Since w0.heap.size G0 w0 G w ∧ Owns G w w0.heap.size []) ?_ ?_)
  ·have hO : Owns G0 w0 w0.heap.size ([]) := hO
   exact ⟨_, G0, upds_self _ _ ⟨rfl, rfl, rfl, rfl, trivial⟩, Gle.refl _, hS, hO⟩
  ·rintro s3 F w7 t6 ⟨Fb, G8, rfl, leG8, hS, hO⟩
   intro H1 hqq5
   have Hoq5 := H; have H := H1
   unfold f68_b0 at H
   refine WC_seq ?_; refine WC_region ?_; refine WL_val (rn_lss rfl rfl) rfl ?_; refine WL_nil ?_; refine WC_seq ?_; refine WC_cond rfl (fun hb9 => ?_) (fun hb9 => ?_)
   ·have H := ifT hb9 H; refine WC_skip ?_; refine WC_seq ?_; refine WC_block ?_; refine WC_seq ?_; refine WC_region ?_; refine WL_val (rn_move (v := (.int .i64 s3)) rfl) rfl ?_; refine WL_val (rn_assign (v := (.int .i64 s3)) rfl) rfl ?_; refine WL_nil ?_; refine WC_seq ?_; refine WC_region ?_; refine WL_val (rn_move (v := (.func (.func k2) (fi2).toArray (ca2).toArray)) rfl) rfl ?_; refine WL_val (rn_move (v := (.slice a1 n1 c1)) rfl) rfl ?_; refine WL_val (rn_move (v := (.int .i64 s3)) rfl) rfl ?_; obtain ⟨y10, hy10, H⟩ := bnd H; refine WL_idx sl22 (h1.mono RInt_mono leG8) hy10 rfl rfl rfl ?_
    rintro b11 o11 _ hcb11 _ ⟨⟩
    refine WL_val (rn_load na3 rfl (hS.sat.cell (hcb11 0 _ rfl))) rfl ?_; obtain ⟨y12, hy12, H⟩ := bnd H; refine WL_op rfl (OpP_callVF hf2.1 (hf2.2 _ _ leG8 hS.sat y10 _  hy12) rfl rfl rfl (fun w13 hb => ?_)); have hS := hS.keep hb; have hO := hO.below hb; refine WL_nil ?_; refine WC_cond rfl (fun hb14 => ?_) (fun hb14 => ?_)
    ·have H := ifT hb14 H; refine WC_seq ?_; refine WC_region ?_; refine WL_val (rn_move (v := (.int .i64 s3)) rfl) rfl ?_; refine WL_val (rn_assign (v := (.int .i64 s3)) rfl) rfl ?_; refine WL_nil ?_; refine WC_ret ?_; have H := Option.some.inj H; subst H
     have hres := hqq5 _ rfl
     subst hres; have H := Hoq5
     have H : some s3 = some r := H
     have H := Option.some.inj H; subst H
     exact ⟨rfl, hS.below⟩
    ·have H := ifF hb14 H; refine WC_skip ?_; refine WC_region ?_; refine WL_val (rn_add rfl rfl) rfl ?_; refine WL_val (rn_move (v := (.int .i64 (IntKind.i64.wrap (s3 + 1)))) rfl) rfl ?_; refine WL_nil ?_
     have hO : Owns G8 w13 w0.heap.size ([]) := hO
     have H := Option.some.inj H; subst H; refine ⟨_, rfl, ?_⟩
     exact ⟨_, G8, upds_self _ _ ⟨rfl, rfl, rfl, rfl, trivial⟩, leG8, hS, hO⟩
   ·have H := ifF hb9 H; refine WC_exit rfl ?_
    have hO : Owns G8 w7 w0.heap.size ([]) := hO
    have H := Option.some.inj H; subst H
    have hres := hqq5 _ rfl
    subst hres
    exact ⟨_, _, G8, rfl, rfl, leG8, hS, hO⟩
 ·rintro F w15 ⟨p4, Fb, G16, rfl, rfl, leG16, hS, hO⟩
  refine WC_seq ?_; refine WC_region ?_; refine WL_val (rn_assign (v := (.int .i64 (-1))) rfl) rfl ?_; refine WL_nil ?_; refine WC_ret ?_
  have H : some (-1) = some r := H
  have H := Option.some.inj H; subst H
  exact ⟨rfl, hS.below⟩
set_option maxHeartbeats 1000000 in
theorem f34_ok {G0 : Gm} {w0 : World} (hS0 : Sat G0 w0) {x0 : (List Int)} {a1 : Option Addr} {n1 c1 : Nat} {x1 : (Int → Option Bool)} {k2 : Nat} {fi2 ca2 : List Value} (h1 : RSl RInt 1 G0 a1 n1 c1 x0) (hf2 : FnOk30 G0 k2 fi2 ca2 x1) {r : Bool} (H : f34 x0 x1 = some r) :
  Calls Tryz.prog 34 #[.slice a1 n1 c1, .func (.func k2) (fi2).toArray (ca2).toArray] w0 (RetV w0 (.bool r)) := by
 have hS := Since.start hS0
 have hO : Owns G0 w0 w0.heap.size [] := Owns.nil (Nat.le_refl _)
 unfold f34 at H
 refine enter1 (N := 9) (shutV _ _) Tryz.func34 rfl rfl rfl rfl ?_; refine WC_seq ?_; refine WC_region ?_; refine WL_val (rn_assign (v := (.bool false)) rfl) rfl ?_; refine WL_nil ?_; refine WC_seq ?_; refine WC_region ?_; refine WL_val (rn_move (v := (.slice a1 n1 c1)) rfl) rfl ?_; refine WL_val (rn_move (v := (.func (.func k2) (fi2).toArray (ca2).toArray)) rfl) rfl ?_; obtain ⟨y3, hy3, H⟩ := bnd H; refine WL_op rfl (OpP_callV cb68 (f68_ok (x0 := x0) (x1 := x1) hS.sat h1 hf2 hy3) rfl rfl (fun w4 hb => ?_)); have hS := hS.keep hb; have hO := hO.below hb; refine WL_val (rn_geq rfl rfl) rfl ?_; refine WL_val (rn_assign (v := (.bool (decide (0 ≤ y3)))) rfl) rfl ?_; refine WL_nil ?_; refine WC_ret ?_
 have H : some (decide (0 ≤ y3)) = some r := H
 have H := Option.some.inj H; subst H
 exact ⟨rfl, hS.below⟩
set_option maxHeartbeats 1000000 in
theorem f7_ok {G0 : Gm} {w0 : World} {r : Bool} (hw : Sat G0 w0) (H : f7 = some r) : Calls Tryz.prog 7 #[] w0 (RetV w0 (.bool r)) := by
 cases H
 exact Ev.known11_ok _
set_option maxHeartbeats 1000000 in
theorem f27_ok {G0 : Gm} {w0 : World} (hS0 : Sat G0 w0) {x0 : TSpan} {x1 : Int} {x2 : Int}  {r : Bool} (H : f27 x0 x1 x2 = some r) :
  Calls Tryz.prog 27 #[.agg #[.int .i64 x0.Low, .int .i64 x0.High], .int .i64 x1, .int .i64 x2] w0 (RetV w0 (.bool r)) := by
 have hS := Since.start hS0
 have hO : Owns G0 w0 w0.heap.size [] := Owns.nil (Nat.le_refl _)
 unfold f27 at H
 refine enter1 (N := 24) (shutV _ _) Tryz.func27 rfl rfl rfl rfl ?_; refine WC_seq ?_; refine WC_region ?_; refine WL_op rfl (OpP_newF (v := fun b => .pointer (some ⟨b, 0, none⟩)) (cs := [.int .i64 x0.Low, .int .i64 x0.High]) (e := 25) (rn_boxA rfl) hS.sat rfl (fun b1 G3 w2 hg hcb1 => ?_)); have hS := hS.grow hg; have hO := hO.grow hg
 have leG3 := hg.le
 refine WL_val (rn_assign (v := (.bool false)) rfl) rfl ?_; refine WL_nil ?_; refine WC_seq ?_; obtain ⟨q4, hq4, H⟩ := bnd H; refine WC_cut (fun F w => ∃ (Fb : Fr), F = upds Fb [(6, .bool q4)] ∧ w2 = w) ?_ ?_
 ·have Hoq4 := H; have H := hq4; refine WC_region ?_; refine WL_val (rn_fld fd25_0 rfl) rfl ?_; refine WL_val (rn_load na3 rfl (hS.sat.cell (hcb1 0 _ rfl))) rfl ?_; refine WL_val (rn_move (v := (.int .i64 x1)) rfl) rfl ?_; refine WL_val (rn_geq rfl rfl) rfl ?_; refine WL_val (rn_move (v := (.bool (decide (x1 ≤ x0.Low)))) rfl) rfl ?_
  rcases bcases (decide (x1 ≤ x0.Low)) with hb5 | hb5
  ·have H := ifT hb5 H; refine WL_guardY rfl hb5 rfl rfl ?_; refine WL_val (rn_fld fd25_0 rfl) rfl ?_; refine WL_guardY rfl hb5 rfl rfl ?_; refine WL_val (rn_load na3 rfl (hS.sat.cell (hcb1 0 _ rfl))) rfl ?_; refine WL_guardY rfl hb5 rfl rfl ?_; refine WL_val (rn_fld fd25_1 rfl) rfl ?_; refine WL_guardY rfl hb5 rfl rfl ?_; refine WL_val (rn_load na3 rfl (hS.sat.cell (hcb1 1 _ rfl))) rfl ?_; refine WL_guardY rfl hb5 rfl rfl ?_; refine WL_val (rn_leq rfl rfl) rfl ?_; refine WL_val (rn_pickT (v := (.bool (decide (x0.Low ≤ x0.High)))) rfl hb5 rfl) rfl ?_; refine WL_val (rn_move (v := (.bool (decide (x0.Low ≤ x0.High)))) rfl) rfl ?_
   rcases bcases (decide (x0.Low ≤ x0.High)) with hb6 | hb6
   ·have H := ifT hb6 H; refine WL_guardY rfl hb6 rfl rfl ?_; refine WL_val (rn_fld fd25_1 rfl) rfl ?_; refine WL_guardY rfl hb6 rfl rfl ?_; refine WL_val (rn_load na3 rfl (hS.sat.cell (hcb1 1 _ rfl))) rfl ?_; refine WL_guardY rfl hb6 rfl rfl ?_; refine WL_val (rn_move (v := (.int .i64 x2)) rfl) rfl ?_; refine WL_guardY rfl hb6 rfl rfl ?_; refine WL_val (rn_leq rfl rfl) rfl ?_; refine WL_val (rn_pickT (v := (.bool (decide (x0.High ≤ x2)))) rfl hb6 rfl) rfl ?_; refine WL_val (rn_assign (v := (.bool (decide (x0.High ≤ x2)))) rfl) rfl ?_; refine WL_nil ?_; have H := Option.some.inj H; subst H
    exact ⟨_, upds_self _ _ ⟨rfl, trivial⟩, rfl⟩
   ·have H := ifF hb6 H; refine WL_guardN rfl hb6 rfl rfl rfl ?_; refine WL_guardN rfl hb6 rfl rfl rfl ?_; refine WL_guardN rfl hb6 rfl rfl rfl ?_; refine WL_guardN rfl hb6 rfl rfl rfl ?_; refine WL_val (rn_pickF (v := (.bool false)) rfl hb6 rfl) rfl ?_; refine WL_val (rn_assign (v := (.bool false)) rfl) rfl ?_; refine WL_nil ?_; have H := Option.some.inj H; subst H
    exact ⟨_, upds_self _ _ ⟨rfl, trivial⟩, rfl⟩
  ·have H := ifF hb5 H; refine WL_guardN rfl hb5 rfl rfl rfl ?_; refine WL_guardN rfl hb5 rfl rfl rfl ?_; refine WL_guardN rfl hb5 rfl rfl rfl ?_; refine WL_guardN rfl hb5 rfl rfl rfl ?_; refine WL_guardN rfl hb5 rfl rfl rfl ?_; refine WL_val (rn_pickF (v := (.bool false)) rfl hb5 rfl) rfl ?_; refine WL_val (rn_move (v := (.bool false)) rfl) rfl ?_; refine WL_guardN rfl rfl rfl rfl rfl ?_; refine WL_guardN rfl rfl rfl rfl rfl ?_; refine WL_guardN rfl rfl rfl rfl rfl ?_; refine WL_guardN rfl rfl rfl rfl rfl ?_; refine WL_val (rn_pickF (v := (.bool false)) rfl rfl rfl) rfl ?_; refine WL_val (rn_assign (v := (.bool false)) rfl) rfl ?_; refine WL_nil ?_; have H := Option.some.inj H; subst H
   exact ⟨_, upds_self _ _ ⟨rfl, trivial⟩, rfl⟩
 ·rintro F wl ⟨Fb, rfl, rfl⟩
  refine WC_ret ?_
  have H : some q4 = some r := H
  have H := Option.some.inj H; subst H
  exact ⟨rfl, hS.below⟩
set_option maxHeartbeats 1000000 in
theorem f28_ok {G0 : Gm} {w0 : World} (hS0 : Sat G0 w0) {x0 : Int} {x1 : Int} {x2 : Int}  {r : Bool} (H : f28 x0 x1 x2 = some r) :
  Calls Tryz.prog 28 #[.int .i64 x0, .int .i64 x1, .int .i64 x2] w0 (RetV w0 (.bool r)) := by
 have hS := Since.start hS0
 have hO : Owns G0 w0 w0.heap.size [] := Owns.nil (Nat.le_refl _)
 unfold f28 at H
 refine enter1 (N := 15) (shutV _ _) Tryz.func28 rfl rfl rfl rfl ?_; refine WC_seq ?_; refine WC_region ?_; refine WL_val (rn_assign (v := (.bool false)) rfl) rfl ?_; refine WL_nil ?_; refine WC_seq ?_; obtain ⟨q1, hq1, H⟩ := bnd H; refine WC_cut (fun F w => ∃ (Fb : Fr), F = upds Fb [(6, .bool q1)] ∧ w0 = w) ?_ ?_
 ·have Hoq1 := H; have H := hq1; refine WC_region ?_; refine WL_val (rn_move (v := (.int .i64 x0)) rfl) rfl ?_; refine WL_val (rn_move (v := (.int .i64 x1)) rfl) rfl ?_; refine WL_val (rn_geq rfl rfl) rfl ?_; refine WL_val (rn_move (v := (.bool (decide (x1 ≤ x0)))) rfl) rfl ?_
  rcases bcases (decide (x1 ≤ x0)) with hb2 | hb2
  ·have H := ifT hb2 H; refine WL_guardY rfl hb2 rfl rfl ?_; refine WL_val (rn_move (v := (.int .i64 x0)) rfl) rfl ?_; refine WL_guardY rfl hb2 rfl rfl ?_; refine WL_val (rn_move (v := (.int .i64 x2)) rfl) rfl ?_; refine WL_guardY rfl hb2 rfl rfl ?_; refine WL_val (rn_leq rfl rfl) rfl ?_; refine WL_val (rn_pickT (v := (.bool (decide (x0 ≤ x2)))) rfl hb2 rfl) rfl ?_; refine WL_val (rn_assign (v := (.bool (decide (x0 ≤ x2)))) rfl) rfl ?_; refine WL_nil ?_; have H := Option.some.inj H; subst H
   exact ⟨_, upds_self _ _ ⟨rfl, trivial⟩, rfl⟩
  ·have H := ifF hb2 H; refine WL_guardN rfl hb2 rfl rfl rfl ?_; refine WL_guardN rfl hb2 rfl rfl rfl ?_; refine WL_guardN rfl hb2 rfl rfl rfl ?_; refine WL_val (rn_pickF (v := (.bool false)) rfl hb2 rfl) rfl ?_; refine WL_val (rn_assign (v := (.bool false)) rfl) rfl ?_; refine WL_nil ?_; have H := Option.some.inj H; subst H
   exact ⟨_, upds_self _ _ ⟨rfl, trivial⟩, rfl⟩
 ·rintro F wl ⟨Fb, rfl, rfl⟩
  refine WC_ret ?_
  have H : some q1 = some r := H
  have H := Option.some.inj H; subst H
  exact ⟨rfl, hS.below⟩
set_option maxHeartbeats 1000000 in
theorem f58_ok {G0 : Gm} {w0 : World} (hS0 : Sat G0 w0) {x0 : Int}  {r : Bool} (H : f58 x0 = some r) :
  Calls Tryz.prog 58 #[.int .i64 x0] w0 (RetV w0 (.bool r)) := by
 have hS := Since.start hS0
 have hO : Owns G0 w0 w0.heap.size [] := Owns.nil (Nat.le_refl _)
 unfold f58 at H
 refine enter1 (N := 6) (shutV _ _) Tryz.func58 rfl rfl rfl rfl ?_; refine WC_seq ?_; refine WC_region ?_; refine WL_val (rn_assign (v := (.bool false)) rfl) rfl ?_; refine WL_nil ?_; refine WC_seq ?_; refine WC_region ?_; refine WL_val (rn_move (v := (.int .i64 x0)) rfl) rfl ?_; obtain ⟨y1, hy1, H⟩ := bnd H; refine WL_op rfl (OpP_callV cb28 (f28_ok (x0 := x0) (x1 := (-1000)) (x2 := 1000) hS.sat  hy1) rfl rfl (fun w2 hb => ?_)); have hS := hS.keep hb; have hO := hO.below hb; refine WL_val (rn_not rfl) rfl ?_; refine WL_val (rn_assign (v := (.bool (!y1))) rfl) rfl ?_; refine WL_nil ?_; refine WC_ret ?_
 have H : some (!y1) = some r := H
 have H := Option.some.inj H; subst H
 exact ⟨rfl, hS.below⟩
set_option maxHeartbeats 1000000 in
theorem f101_ok {G0 : Gm} {w0 : World} (hS0 : Sat G0 w0) {x0 : (List TSpan)} {a1 : Option Addr} {n1 c1 : Nat} {x1 : (TSpan → Option Bool)} {k2 : Nat} {fi2 ca2 : List Value} (h1 : RSl RTSpan 2 G0 a1 n1 c1 x0) (hf2 : FnOk29 G0 k2 fi2 ca2 x1) {r : Int} (H : f101 x0 x1 = some r) :
  Calls Tryz.prog 101 #[.slice a1 n1 c1, .func (.func k2) (fi2).toArray (ca2).toArray] w0 (RetV w0 (.int .i64 r)) := by
 have hS := Since.start hS0
 have hO : Owns G0 w0 w0.heap.size [] := Owns.nil (Nat.le_refl _)
 unfold f101 at H
 refine enter1 (N := 19) (shutV _ _) Tryz.func101 rfl rfl rfl rfl ?_; refine WC_seq ?_; refine WC_region ?_; refine WL_val (rn_assign (v := (.int .i64 0)) rfl) rfl ?_; refine WL_nil ?_; refine WC_seq ?_; refine WC_seq ?_; refine WC_region ?_; refine WL_val (rn_move (v := (.slice a1 n1 c1)) rfl) rfl ?_; refine WL_val (rn_len sl23 rfl rfl h1.1) rfl ?_; refine WL_val (rn_move (v := (.int .i64 0)) rfl) rfl ?_; refine WL_nil ?_; obtain ⟨q5, hq5, H⟩ := bnd H; refine WC_cut (fun F w => ∃ (p4 : Unit) (Fb : Fr) (G : Gm), q5 = .inl p4 ∧ F = upds Fb [] ∧ Gle G0 G ∧ Since w0.heap.size G0 w0 G w ∧ Owns G w w0.heap.size []) ?_ ?_
 ·refine WC_block (WC_loop hq5 (fun s3 F w => ∃ (Fb : Fr) (G : Gm), F = upds Fb [(0, .slice a1 n1 c1), (1, .func (.func k2) (fi2).toArray (ca2).toArray), (7, .int .i64 (x0.length : Int)), (8, .int .i64 s3)] ∧ Gle G0 G ∧ Since w0.heap.size G0 w0 G w ∧ Owns G w w0.heap.size []) ?_ ?_)
  ·have hO : Owns G0 w0 w0.heap.size ([]) := hO
   exact ⟨_, G0, upds_self _ _ ⟨rfl, rfl, rfl, rfl, trivial⟩, Gle.refl _, hS, hO⟩
  ·rintro s3 F w7 t6 ⟨Fb, G8, rfl, leG8, hS, hO⟩
   intro H1 hqq5
   have Hoq5 := H; have H := H1
   unfold f101_b0 at H
   refine WC_seq ?_; refine WC_region ?_; refine WL_val (rn_lss rfl rfl) rfl ?_; refine WL_nil ?_; refine WC_seq ?_; refine WC_cond rfl (fun hb9 => ?_) (fun hb9 => ?_)
   ·have H := ifT hb9 H; refine WC_skip ?_; refine WC_seq ?_; refine WC_block ?_; refine WC_seq ?_; refine WC_region ?_; refine WL_val (rn_move (v := (.int .i64 s3)) rfl) rfl ?_; refine WL_val (rn_assign (v := (.int .i64 s3)) rfl) rfl ?_; refine WL_nil ?_; refine WC_seq ?_; refine WC_region ?_; refine WL_val (rn_move (v := (.func (.func k2) (fi2).toArray (ca2).toArray)) rfl) rfl ?_; refine WL_val (rn_move (v := (.slice a1 n1 c1)) rfl) rfl ?_; refine WL_val (rn_move (v := (.int .i64 s3)) rfl) rfl ?_; obtain ⟨y10, hy10, H⟩ := bnd H; refine WL_idx sl23 (h1.mono RTSpan_mono leG8) hy10 rfl rfl rfl ?_
    rintro b11 o11 _ hcb11 _ ⟨⟩
    refine WL_val (rn_loadA ag25 (cs := [.int .i64 y10.Low, .int .i64 y10.High]) rfl rfl (fun j v hj => hS.sat.cell (hcb11.drop_take 0 2 j v hj))) rfl ?_; obtain ⟨y12, hy12, H⟩ := bnd H; refine WL_op rfl (OpP_callVF hf2.1 (hf2.2 _ _ leG8 hS.sat y10 _  hy12) rfl rfl rfl (fun w13 hb => ?_)); have hS := hS.keep hb; have hO := hO.below hb; refine WL_nil ?_; refine WC_cond rfl (fun hb14 => ?_) (fun hb14 => ?_)
    ·have H := ifT hb14 H; refine WC_seq ?_; refine WC_region ?_; refine WL_val (rn_move (v := (.int .i64 s3)) rfl) rfl ?_; refine WL_val (rn_assign (v := (.int .i64 s3)) rfl) rfl ?_; refine WL_nil ?_; refine WC_ret ?_; have H := Option.some.inj H; subst H
     have hres := hqq5 _ rfl
     subst hres; have H := Hoq5
     have H : some s3 = some r := H
     have H := Option.some.inj H; subst H
     exact ⟨rfl, hS.below⟩
    ·have H := ifF hb14 H; refine WC_skip ?_; refine WC_region ?_; refine WL_val (rn_add rfl rfl) rfl ?_; refine WL_val (rn_move (v := (.int .i64 (IntKind.i64.wrap (s3 + 1)))) rfl) rfl ?_; refine WL_nil ?_
     have hO : Owns G8 w13 w0.heap.size ([]) := hO
     have H := Option.some.inj H; subst H; refine ⟨_, rfl, ?_⟩
     exact ⟨_, G8, upds_self _ _ ⟨rfl, rfl, rfl, rfl, trivial⟩, leG8, hS, hO⟩
   ·have H := ifF hb9 H; refine WC_exit rfl ?_
    have hO : Owns G8 w7 w0.heap.size ([]) := hO
    have H := Option.some.inj H; subst H
    have hres := hqq5 _ rfl
    subst hres
    exact ⟨_, _, G8, rfl, rfl, leG8, hS, hO⟩
 ·rintro F w15 ⟨p4, Fb, G16, rfl, rfl, leG16, hS, hO⟩
  refine WC_seq ?_; refine WC_region ?_; refine WL_val (rn_assign (v := (.int .i64 (-1))) rfl) rfl ?_; refine WL_nil ?_; refine WC_ret ?_
  have H : some (-1) = some r := H
  have H := Option.some.inj H; subst H
  exact ⟨rfl, hS.below⟩
set_option maxHeartbeats 1000000 in
theorem f59_ok {G0 : Gm} {w0 : World} (hS0 : Sat G0 w0) {x0 : (List TSpan)} {a1 : Option Addr} {n1 c1 : Nat} {x1 : (TSpan → Option Bool)} {k2 : Nat} {fi2 ca2 : List Value} (h1 : RSl RTSpan 2 G0 a1 n1 c1 x0) (hf2 : FnOk29 G0 k2 fi2 ca2 x1) {r : Bool} (H : f59 x0 x1 = some r) :
  Calls Tryz.prog 59 #[.slice a1 n1 c1, .func (.func k2) (fi2).toArray (ca2).toArray] w0 (RetV w0 (.bool r)) := by
 have hS := Since.start hS0
 have hO : Owns G0 w0 w0.heap.size [] := Owns.nil (Nat.le_refl _)
 unfold f59 at H
 refine enter1 (N := 9) (shutV _ _) Tryz.func59 rfl rfl rfl rfl ?_; refine WC_seq ?_; refine WC_region ?_; refine WL_val (rn_assign (v := (.bool false)) rfl) rfl ?_; refine WL_nil ?_; refine WC_seq ?_; refine WC_region ?_; refine WL_val (rn_move (v := (.slice a1 n1 c1)) rfl) rfl ?_; refine WL_val (rn_move (v := (.func (.func k2) (fi2).toArray (ca2).toArray)) rfl) rfl ?_; obtain ⟨y3, hy3, H⟩ := bnd H; refine WL_op rfl (OpP_callV cb101 (f101_ok (x0 := x0) (x1 := x1) hS.sat h1 hf2 hy3) rfl rfl (fun w4 hb => ?_)); have hS := hS.keep hb; have hO := hO.below hb; refine WL_val (rn_geq rfl rfl) rfl ?_; refine WL_val (rn_assign (v := (.bool (decide (0 ≤ y3)))) rfl) rfl ?_; refine WL_nil ?_; refine WC_ret ?_
 have H : some (decide (0 ≤ y3)) = some r := H
 have H := Option.some.inj H; subst H
 exact ⟨rfl, hS.below⟩
set_option maxHeartbeats 1000000 in
theorem f60_ok {G0 : Gm} {w0 : World} (hS0 : Sat G0 w0) {x0 : TSpan}  {r : Bool} (H : f60 x0 = some r) :
  Calls Tryz.prog 60 #[.agg #[.int .i64 x0.Low, .int .i64 x0.High]] w0 (RetV w0 (.bool r)) := by
 have hS := Since.start hS0
 have hO : Owns G0 w0 w0.heap.size [] := Owns.nil (Nat.le_refl _)
 unfold f60 at H
 refine enter1 (N := 6) (shutV _ _) Tryz.func60 rfl rfl rfl rfl ?_; refine WC_seq ?_; refine WC_region ?_; refine WL_op rfl (OpP_newF (v := fun b => .pointer (some ⟨b, 0, none⟩)) (cs := [.int .i64 x0.Low, .int .i64 x0.High]) (e := 25) (rn_boxA rfl) hS.sat rfl (fun b1 G3 w2 hg hcb1 => ?_)); have hS := hS.grow hg; have hO := hO.grow hg
 have leG3 := hg.le
 refine WL_val (rn_assign (v := (.bool false)) rfl) rfl ?_; refine WL_nil ?_; refine WC_seq ?_; refine WC_region ?_; refine WL_val (rn_loadA ag25 (cs := [.int .i64 x0.Low, .int .i64 x0.High]) rfl rfl (fun j v hj => hS.sat.cell (hcb1.drop_take 0 2 j v hj))) rfl ?_; obtain ⟨y4, hy4, H⟩ := bnd H; refine WL_op rfl (OpP_callV cb27 (f27_ok (x0 := x0) (x1 := 0) (x2 := 1000) hS.sat  hy4) rfl rfl (fun w5 hb => ?_)); have hS := hS.keep hb; have hO := hO.below hb; refine WL_val (rn_not rfl) rfl ?_; refine WL_val (rn_assign (v := (.bool (!y4))) rfl) rfl ?_; refine WL_nil ?_; refine WC_ret ?_
 have H : some (!y4) = some r := H
 have H := Option.some.inj H; subst H
 exact ⟨rfl, hS.below⟩
set_option maxHeartbeats 1000000 in
theorem f26_ok {G0 : Gm} {w0 : World} (hS0 : Sat G0 w0) {x0 : TShipPass} {a1 : Option Addr} {n1 c1 : Nat} {a2 : Option Addr} {n2 c2 : Nat} (h1 : RSl RInt 1 G0 a1 n1 c1 x0.Tides) (h2 : RSl RTSpan 2 G0 a2 n2 c2 x0.Swell) {r : Bool} (H : f26 x0 = some r) :
  Calls Tryz.prog 26 #[.agg #[.slice a1 n1 c1, .int .i64 x0.Depth, .int .i64 x0.Draft, .slice a2 n2 c2, .int .i64 x0.Light.Low, .int .i64 x0.Light.High]] w0 (RetV w0 (.bool r)) := by
 have hS := Since.start hS0
 have hO : Owns G0 w0 w0.heap.size [] := Owns.nil (Nat.le_refl _)
 unfold f26 at H
 refine enter1 (N := 40) (shutV _ _) Tryz.func26 rfl rfl rfl rfl ?_; refine WC_seq ?_; refine WC_region ?_; refine WL_op rfl (OpP_newF (v := fun b => .pointer (some ⟨b, 0, none⟩)) (cs := [.slice a1 n1 c1, .int .i64 x0.Depth, .int .i64 x0.Draft, .slice a2 n2 c2, .int .i64 x0.Light.Low, .int .i64 x0.Light.High]) (e := 27) (rn_boxA rfl) hS.sat rfl (fun b3 G5 w4 hg hcb3 => ?_)); have hS := hS.grow hg; have hO := hO.grow hg
 have leG5 := hg.le
 refine WL_val (rn_assign (v := (.bool false)) rfl) rfl ?_; refine WL_nil ?_; refine WC_seq ?_; obtain ⟨q6, hq6, H⟩ := bnd H; refine WC_cut (fun F w => ∃ (Fb : Fr) (G : Gm), F = upds Fb [(2, .bool q6)] ∧ Gle G5 G ∧ Since w0.heap.size G0 w0 G w ∧ Owns G w w0.heap.size []) ?_ ?_
 ·have Hoq6 := H; have H := hq6; refine WC_region ?_; refine WL_val (rn_fld fd27_0 rfl) rfl ?_; refine WL_val (rn_load na22 rfl (hS.sat.cell (hcb3 0 _ rfl))) rfl ?_; refine WL_val (rn_len sl22 rfl rfl (h1.mono RInt_mono leG5).1) rfl ?_; obtain ⟨y7, hy7, H⟩ := bnd H; refine WL_op rfl (OpP_callV cb28 (f28_ok (x0 := (x0.Tides.length : Int)) (x1 := 1) (x2 := 50) hS.sat  hy7) rfl rfl (fun w8 hb => ?_)); have hS := hS.keep hb; have hO := hO.below hb; refine WL_val (rn_move (v := (.bool y7)) rfl) rfl ?_
  rcases bcases y7 with hb9 | hb9
  ·have H := ifT hb9 H; refine WL_guardY rfl hb9 rfl rfl ?_; refine WL_val (rn_fld fd27_3 rfl) rfl ?_; refine WL_guardY rfl hb9 rfl rfl ?_; refine WL_val (rn_load na23 rfl (hS.sat.cell (hcb3 3 _ rfl))) rfl ?_; refine WL_guardY rfl hb9 rfl rfl ?_; refine WL_val (rn_len sl23 rfl rfl (h2.mono RTSpan_mono leG5).1) rfl ?_; refine WL_guardY rfl hb9 rfl rfl ?_; obtain ⟨y10, hy10, H⟩ := bnd H; refine WL_op rfl (OpP_callV cb28 (f28_ok (x0 := (x0.Swell.length : Int)) (x1 := 1) (x2 := 60) hS.sat  hy10) rfl rfl (fun w11 hb => ?_)); have hS := hS.keep hb; have hO := hO.below hb; refine WL_val (rn_pickT (v := (.bool y10)) rfl hb9 rfl) rfl ?_; refine WL_val (rn_move (v := (.bool y10)) rfl) rfl ?_
   rcases bcases y10 with hb12 | hb12
   ·have H := ifT hb12 H; refine WL_guardY rfl hb12 rfl rfl ?_; refine WL_val (rn_fld fd27_1 rfl) rfl ?_; refine WL_guardY rfl hb12 rfl rfl ?_; refine WL_val (rn_load na3 rfl (hS.sat.cell (hcb3 1 _ rfl))) rfl ?_; refine WL_guardY rfl hb12 rfl rfl ?_; obtain ⟨y13, hy13, H⟩ := bnd H; refine WL_op rfl (OpP_callV cb28 (f28_ok (x0 := x0.Depth) (x1 := 0) (x2 := 1000) hS.sat  hy13) rfl rfl (fun w14 hb => ?_)); have hS := hS.keep hb; have hO := hO.below hb; refine WL_val (rn_pickT (v := (.bool y13)) rfl hb12 rfl) rfl ?_; refine WL_val (rn_move (v := (.bool y13)) rfl) rfl ?_
    rcases bcases y13 with hb15 | hb15
    ·have H := ifT hb15 H; refine WL_guardY rfl hb15 rfl rfl ?_; refine WL_val (rn_fld fd27_2 rfl) rfl ?_; refine WL_guardY rfl hb15 rfl rfl ?_; refine WL_val (rn_load na3 rfl (hS.sat.cell (hcb3 2 _ rfl))) rfl ?_; refine WL_guardY rfl hb15 rfl rfl ?_; obtain ⟨y16, hy16, H⟩ := bnd H; refine WL_op rfl (OpP_callV cb28 (f28_ok (x0 := x0.Draft) (x1 := 0) (x2 := 1000) hS.sat  hy16) rfl rfl (fun w17 hb => ?_)); have hS := hS.keep hb; have hO := hO.below hb; refine WL_val (rn_pickT (v := (.bool y16)) rfl hb15 rfl) rfl ?_; refine WL_val (rn_move (v := (.bool y16)) rfl) rfl ?_
     rcases bcases y16 with hb18 | hb18
     ·have H := ifT hb18 H; refine WL_guardY rfl hb18 rfl rfl ?_; refine WL_val (rn_fld fd27_4 rfl) rfl ?_; refine WL_guardY rfl hb18 rfl rfl ?_; refine WL_val (rn_loadA ag25 (cs := [.int .i64 x0.Light.Low, .int .i64 x0.Light.High]) rfl rfl (fun j v hj => hS.sat.cell (hcb3.drop_take 4 2 j v hj))) rfl ?_; refine WL_guardY rfl hb18 rfl rfl ?_; obtain ⟨y19, hy19, H⟩ := bnd H; refine WL_op rfl (OpP_callV cb27 (f27_ok (x0 := x0.Light) (x1 := 0) (x2 := 23) hS.sat  hy19) rfl rfl (fun w20 hb => ?_)); have hS := hS.keep hb; have hO := hO.below hb; refine WL_val (rn_pickT (v := (.bool y19)) rfl hb18 rfl) rfl ?_; refine WL_val (rn_move (v := (.bool y19)) rfl) rfl ?_
      rcases bcases y19 with hb21 | hb21
      ·have H := ifT hb21 H; refine WL_guardY rfl hb21 rfl rfl ?_; refine WL_val (rn_fld fd27_0 rfl) rfl ?_; refine WL_guardY rfl hb21 rfl rfl ?_; refine WL_val (rn_load na22 rfl (hS.sat.cell (hcb3 0 _ rfl))) rfl ?_; refine WL_guardY rfl hb21 rfl rfl ?_
       have hF22 : FnOk30 G5 58 [] [] (fun (z0 : Int) => f58 z0) := ⟨cb58, fun G1 W1 hl hw z0 r1 H1 => f58_ok (x0 := z0) hw  H1⟩
       obtain ⟨y23, hy23, H⟩ := bnd H; refine WL_op rfl (OpP_callV cb34 (f34_ok (x0 := x0.Tides) (x1 := (fun (z0 : Int) => f58 z0)) hS.sat (h1.mono RInt_mono leG5) hF22 hy23) rfl rfl (fun w24 hb => ?_)); have hS := hS.keep hb; have hO := hO.below hb; refine WL_guardY rfl hb21 rfl rfl ?_; refine WL_val (rn_not rfl) rfl ?_; refine WL_val (rn_pickT (v := (.bool (!y23))) rfl hb21 rfl) rfl ?_; refine WL_val (rn_move (v := (.bool (!y23))) rfl) rfl ?_
       rcases bcases (!y23) with hb25 | hb25
       ·have H := ifT hb25 H; refine WL_guardY rfl hb25 rfl rfl ?_; refine WL_val (rn_fld fd27_3 rfl) rfl ?_; refine WL_guardY rfl hb25 rfl rfl ?_; refine WL_val (rn_load na23 rfl (hS.sat.cell (hcb3 3 _ rfl))) rfl ?_; refine WL_guardY rfl hb25 rfl rfl ?_
        have hF26 : FnOk29 G5 60 [] [] (fun (z0 : TSpan) => f60 z0) := ⟨cb60, fun G1 W1 hl hw z0 r1 H1 => f60_ok (x0 := z0) hw  H1⟩
        obtain ⟨y27, hy27, H⟩ := bnd H; refine WL_op rfl (OpP_callV cb59 (f59_ok (x0 := x0.Swell) (x1 := (fun (z0 : TSpan) => f60 z0)) hS.sat (h2.mono RTSpan_mono leG5) hF26 hy27) rfl rfl (fun w28 hb => ?_)); have hS := hS.keep hb; have hO := hO.below hb; refine WL_guardY rfl hb25 rfl rfl ?_; refine WL_val (rn_not rfl) rfl ?_; refine WL_val (rn_pickT (v := (.bool (!y27))) rfl hb25 rfl) rfl ?_; refine WL_val (rn_assign (v := (.bool (!y27))) rfl) rfl ?_; refine WL_nil ?_
        have hO : Owns G5 w28 w0.heap.size ([]) := hO
        have H := Option.some.inj H; subst H
        exact ⟨_, G5, upds_self _ _ ⟨rfl, trivial⟩, Gle.refl _, hS, hO⟩
       ·have H := ifF hb25 H; refine WL_guardN rfl hb25 rfl rfl rfl ?_; refine WL_guardN rfl hb25 rfl rfl rfl ?_; refine WL_guardN rfl hb25 rfl rfl rfl ?_; refine WL_guardN rfl hb25 rfl rfl rfl ?_; refine WL_val (rn_pickF (v := (.bool false)) rfl hb25 rfl) rfl ?_; refine WL_val (rn_assign (v := (.bool false)) rfl) rfl ?_; refine WL_nil ?_
        have hO : Owns G5 w24 w0.heap.size ([]) := hO
        have H := Option.some.inj H; subst H
        exact ⟨_, G5, upds_self _ _ ⟨rfl, trivial⟩, Gle.refl _, hS, hO⟩
      ·have H := ifF hb21 H; refine WL_guardN rfl hb21 rfl rfl rfl ?_; refine WL_guardN rfl hb21 rfl rfl rfl ?_; refine WL_guardN rfl hb21 rfl rfl rfl ?_; refine WL_guardN rfl hb21 rfl rfl rfl ?_; refine WL_val (rn_pickF (v := (.bool false)) rfl hb21 rfl) rfl ?_; refine WL_val (rn_move (v := (.bool false)) rfl) rfl ?_; refine WL_guardN rfl rfl rfl rfl rfl ?_; refine WL_guardN rfl rfl rfl rfl rfl ?_; refine WL_guardN rfl rfl rfl rfl rfl ?_; refine WL_guardN rfl rfl rfl rfl rfl ?_; refine WL_val (rn_pickF (v := (.bool false)) rfl rfl rfl) rfl ?_; refine WL_val (rn_assign (v := (.bool false)) rfl) rfl ?_; refine WL_nil ?_
       have hO : Owns G5 w20 w0.heap.size ([]) := hO
       have H := Option.some.inj H; subst H
       exact ⟨_, G5, upds_self _ _ ⟨rfl, trivial⟩, Gle.refl _, hS, hO⟩
     ·have H := ifF hb18 H; refine WL_guardN rfl hb18 rfl rfl rfl ?_; refine WL_guardN rfl hb18 rfl rfl rfl ?_; refine WL_guardN rfl hb18 rfl rfl rfl ?_; refine WL_val (rn_pickF (v := (.bool false)) rfl hb18 rfl) rfl ?_; refine WL_val (rn_move (v := (.bool false)) rfl) rfl ?_; refine WL_guardN rfl rfl rfl rfl rfl ?_; refine WL_guardN rfl rfl rfl rfl rfl ?_; refine WL_guardN rfl rfl rfl rfl rfl ?_; refine WL_guardN rfl rfl rfl rfl rfl ?_; refine WL_val (rn_pickF (v := (.bool false)) rfl rfl rfl) rfl ?_; refine WL_val (rn_move (v := (.bool false)) rfl) rfl ?_; refine WL_guardN rfl rfl rfl rfl rfl ?_; refine WL_guardN rfl rfl rfl rfl rfl ?_; refine WL_guardN rfl rfl rfl rfl rfl ?_; refine WL_guardN rfl rfl rfl rfl rfl ?_; refine WL_val (rn_pickF (v := (.bool false)) rfl rfl rfl) rfl ?_; refine WL_val (rn_assign (v := (.bool false)) rfl) rfl ?_; refine WL_nil ?_
      have hO : Owns G5 w17 w0.heap.size ([]) := hO
      have H := Option.some.inj H; subst H
      exact ⟨_, G5, upds_self _ _ ⟨rfl, trivial⟩, Gle.refl _, hS, hO⟩
    ·have H := ifF hb15 H; refine WL_guardN rfl hb15 rfl rfl rfl ?_; refine WL_guardN rfl hb15 rfl rfl rfl ?_; refine WL_guardN rfl hb15 rfl rfl rfl ?_; refine WL_val (rn_pickF (v := (.bool false)) rfl hb15 rfl) rfl ?_; refine WL_val (rn_move (v := (.bool false)) rfl) rfl ?_; refine WL_guardN rfl rfl rfl rfl rfl ?_; refine WL_guardN rfl rfl rfl rfl rfl ?_; refine WL_guardN rfl rfl rfl rfl rfl ?_; refine WL_val (rn_pickF (v := (.bool false)) rfl rfl rfl) rfl ?_; refine WL_val (rn_move (v := (.bool false)) rfl) rfl ?_; refine WL_guardN rfl rfl rfl rfl rfl ?_; refine WL_guardN rfl rfl rfl rfl rfl ?_; refine WL_guardN rfl rfl rfl rfl rfl ?_; refine WL_guardN rfl rfl rfl rfl rfl ?_; refine WL_val (rn_pickF (v := (.bool false)) rfl rfl rfl) rfl ?_; refine WL_val (rn_move (v := (.bool false)) rfl) rfl ?_; refine WL_guardN rfl rfl rfl rfl rfl ?_; refine WL_guardN rfl rfl rfl rfl rfl ?_; refine WL_guardN rfl rfl rfl rfl rfl ?_; refine WL_guardN rfl rfl rfl rfl rfl ?_; refine WL_val (rn_pickF (v := (.bool false)) rfl rfl rfl) rfl ?_; refine WL_val (rn_assign (v := (.bool false)) rfl) rfl ?_; refine WL_nil ?_
     have hO : Owns G5 w14 w0.heap.size ([]) := hO
     have H := Option.some.inj H; subst H
     exact ⟨_, G5, upds_self _ _ ⟨rfl, trivial⟩, Gle.refl _, hS, hO⟩
   ·have H := ifF hb12 H; refine WL_guardN rfl hb12 rfl rfl rfl ?_; refine WL_guardN rfl hb12 rfl rfl rfl ?_; refine WL_guardN rfl hb12 rfl rfl rfl ?_; refine WL_val (rn_pickF (v := (.bool false)) rfl hb12 rfl) rfl ?_; refine WL_val (rn_move (v := (.bool false)) rfl) rfl ?_; refine WL_guardN rfl rfl rfl rfl rfl ?_; refine WL_guardN rfl rfl rfl rfl rfl ?_; refine WL_guardN rfl rfl rfl rfl rfl ?_; refine WL_val (rn_pickF (v := (.bool false)) rfl rfl rfl) rfl ?_; refine WL_val (rn_move (v := (.bool false)) rfl) rfl ?_; refine WL_guardN rfl rfl rfl rfl rfl ?_; refine WL_guardN rfl rfl rfl rfl rfl ?_; refine WL_guardN rfl rfl rfl rfl rfl ?_; refine WL_val (rn_pickF (v := (.bool false)) rfl rfl rfl) rfl ?_; refine WL_val (rn_move (v := (.bool false)) rfl) rfl ?_; refine WL_guardN rfl rfl rfl rfl rfl ?_; refine WL_guardN rfl rfl rfl rfl rfl ?_; refine WL_guardN rfl rfl rfl rfl rfl ?_; refine WL_guardN rfl rfl rfl rfl rfl ?_; refine WL_val (rn_pickF (v := (.bool false)) rfl rfl rfl) rfl ?_; refine WL_val (rn_move (v := (.bool false)) rfl) rfl ?_; refine WL_guardN rfl rfl rfl rfl rfl ?_; refine WL_guardN rfl rfl rfl rfl rfl ?_; refine WL_guardN rfl rfl rfl rfl rfl ?_; refine WL_guardN rfl rfl rfl rfl rfl ?_; refine WL_val (rn_pickF (v := (.bool false)) rfl rfl rfl) rfl ?_; refine WL_val (rn_assign (v := (.bool false)) rfl) rfl ?_; refine WL_nil ?_
    have hO : Owns G5 w11 w0.heap.size ([]) := hO
    have H := Option.some.inj H; subst H
    exact ⟨_, G5, upds_self _ _ ⟨rfl, trivial⟩, Gle.refl _, hS, hO⟩
  ·have H := ifF hb9 H; refine WL_guardN rfl hb9 rfl rfl rfl ?_; refine WL_guardN rfl hb9 rfl rfl rfl ?_; refine WL_guardN rfl hb9 rfl rfl rfl ?_; refine WL_guardN rfl hb9 rfl rfl rfl ?_; refine WL_val (rn_pickF (v := (.bool false)) rfl hb9 rfl) rfl ?_; refine WL_val (rn_move (v := (.bool false)) rfl) rfl ?_; refine WL_guardN rfl rfl rfl rfl rfl ?_; refine WL_guardN rfl rfl rfl rfl rfl ?_; refine WL_guardN rfl rfl rfl rfl rfl ?_; refine WL_val (rn_pickF (v := (.bool false)) rfl rfl rfl) rfl ?_; refine WL_val (rn_move (v := (.bool false)) rfl) rfl ?_; refine WL_guardN rfl rfl rfl rfl rfl ?_; refine WL_guardN rfl rfl rfl rfl rfl ?_; refine WL_guardN rfl rfl rfl rfl rfl ?_; refine WL_val (rn_pickF (v := (.bool false)) rfl rfl rfl) rfl ?_; refine WL_val (rn_move (v := (.bool false)) rfl) rfl ?_; refine WL_guardN rfl rfl rfl rfl rfl ?_; refine WL_guardN rfl rfl rfl rfl rfl ?_; refine WL_guardN rfl rfl rfl rfl rfl ?_; refine WL_val (rn_pickF (v := (.bool false)) rfl rfl rfl) rfl ?_; refine WL_val (rn_move (v := (.bool false)) rfl) rfl ?_; refine WL_guardN rfl rfl rfl rfl rfl ?_; refine WL_guardN rfl rfl rfl rfl rfl ?_; refine WL_guardN rfl rfl rfl rfl rfl ?_; refine WL_guardN rfl rfl rfl rfl rfl ?_; refine WL_val (rn_pickF (v := (.bool false)) rfl rfl rfl) rfl ?_; refine WL_val (rn_move (v := (.bool false)) rfl) rfl ?_; refine WL_guardN rfl rfl rfl rfl rfl ?_; refine WL_guardN rfl rfl rfl rfl rfl ?_; refine WL_guardN rfl rfl rfl rfl rfl ?_; refine WL_guardN rfl rfl rfl rfl rfl ?_; refine WL_val (rn_pickF (v := (.bool false)) rfl rfl rfl) rfl ?_; refine WL_val (rn_assign (v := (.bool false)) rfl) rfl ?_; refine WL_nil ?_
   have hO : Owns G5 w8 w0.heap.size ([]) := hO
   have H := Option.some.inj H; subst H
   exact ⟨_, G5, upds_self _ _ ⟨rfl, trivial⟩, Gle.refl _, hS, hO⟩
 ·rintro F w29 ⟨Fb, G30, rfl, leG30, hS, hO⟩
  refine WC_ret ?_
  have H : some q6 = some r := H
  have H := Option.some.inj H; subst H
  exact ⟨rfl, hS.below⟩
set_option maxHeartbeats 1000000 in
theorem f135_ok {G0 : Gm} {w0 : World} (hS0 : Sat G0 w0) {x0 : TPass} {a1 : Option Addr} {n1 c1 : Nat} {a2 : Option Addr} {n2 c2 : Nat} {x1 : TShipCall} (h1 : RSl RInt 1 G0 a1 n1 c1 x0.ShipPass.Tides) (h2 : RSl RTSpan 2 G0 a2 n2 c2 x0.ShipPass.Swell) {r : Bool} (H : f135 x0 x1 = some r) :
  Calls Tryz.prog 135 #[.agg #[.slice a1 n1 c1, .int .i64 x0.ShipPass.Depth, .int .i64 x0.ShipPass.Draft, .slice a2 n2 c2, .int .i64 x0.ShipPass.Light.Low, .int .i64 x0.ShipPass.Light.High, .int .i64 x0.swell], .agg #[.int .i64 x1.Day, .int .i64 x1.Hour]] w0 (RetV w0 (.bool r)) := by
 have hS := Since.start hS0
 have hO : Owns G0 w0 w0.heap.size [] := Owns.nil (Nat.le_refl _)
 unfold f135 at H
 refine enter1 (N := 16) (shutV _ _) Tryz.func135 rfl rfl rfl rfl ?_; refine WC_seq ?_; refine WC_region ?_; refine WL_op rfl (OpP_newF (v := fun b => .pointer (some ⟨b, 0, none⟩)) (cs := [.slice a1 n1 c1, .int .i64 x0.ShipPass.Depth, .int .i64 x0.ShipPass.Draft, .slice a2 n2 c2, .int .i64 x0.ShipPass.Light.Low, .int .i64 x0.ShipPass.Light.High, .int .i64 x0.swell]) (e := 199) (rn_boxA rfl) hS.sat rfl (fun b3 G5 w4 hg hcb3 => ?_)); have hS := hS.grow hg; have hO := hO.grow hg
 have leG5 := hg.le
 refine WL_op rfl (OpP_newF (v := fun b => .pointer (some ⟨b, 0, none⟩)) (cs := [.int .i64 x1.Day, .int .i64 x1.Hour]) (e := 47) (rn_boxA rfl) hS.sat rfl (fun b6 G8 w7 hg hcb6 => ?_)); have hS := hS.grow hg; have hO := hO.grow hg
 have leG8 := hg.le
 refine WL_val (rn_assign (v := (.bool false)) rfl) rfl ?_; refine WL_nil ?_; refine WC_seq ?_; refine WC_region ?_; refine WL_val (rn_fld fd47_1 rfl) rfl ?_; refine WL_val (rn_load na3 rfl (hS.sat.cell (hcb6 1 _ rfl))) rfl ?_; refine WL_val (rn_fld fd199_0 rfl) rfl ?_; refine WL_val (rn_fld fd27_4 rfl) rfl ?_; refine WL_val (rn_fld fd25_0 rfl) rfl ?_; refine WL_val (rn_load na3 rfl ((hS.sat.le leG8).cell (hcb3 4 _ rfl))) rfl ?_; refine WL_val (rn_fld fd199_0 rfl) rfl ?_; refine WL_val (rn_fld fd27_4 rfl) rfl ?_; refine WL_val (rn_fld fd25_1 rfl) rfl ?_; refine WL_val (rn_load na3 rfl ((hS.sat.le leG8).cell (hcb3 5 _ rfl))) rfl ?_; obtain ⟨y9, hy9, H⟩ := bnd H; refine WL_op rfl (OpP_callV cb28 (f28_ok (x0 := x1.Hour) (x1 := x0.ShipPass.Light.Low) (x2 := x0.ShipPass.Light.High) hS.sat  hy9) rfl rfl (fun w10 hb => ?_)); have hS := hS.keep hb; have hO := hO.below hb; refine WL_val (rn_assign (v := (.bool y9)) rfl) rfl ?_; refine WL_nil ?_; refine WC_ret ?_
 have H : some y9 = some r := H
 have H := Option.some.inj H; subst H
 exact ⟨rfl, hS.below⟩
set_option maxHeartbeats 1000000 in
theorem f136_ok {G0 : Gm} {w0 : World} (hS0 : Sat G0 w0) {x0 : TPass} {a1 : Option Addr} {n1 c1 : Nat} {a2 : Option Addr} {n2 c2 : Nat} {x1 : TShipCall} (h1 : RSl RInt 1 G0 a1 n1 c1 x0.ShipPass.Tides) (h2 : RSl RTSpan 2 G0 a2 n2 c2 x0.ShipPass.Swell) {r : Bool} (H : f136 x0 x1 = some r) :
  Calls Tryz.prog 136 #[.agg #[.slice a1 n1 c1, .int .i64 x0.ShipPass.Depth, .int .i64 x0.ShipPass.Draft, .slice a2 n2 c2, .int .i64 x0.ShipPass.Light.Low, .int .i64 x0.ShipPass.Light.High, .int .i64 x0.swell], .agg #[.int .i64 x1.Day, .int .i64 x1.Hour]] w0 (RetV w0 (.bool r)) := by
 have hS := Since.start hS0
 have hO : Owns G0 w0 w0.heap.size [] := Owns.nil (Nat.le_refl _)
 unfold f136 at H
 refine enter1 (N := 34) (shutV _ _) Tryz.func136 rfl rfl rfl rfl ?_; refine WC_seq ?_; refine WC_region ?_; refine WL_op rfl (OpP_newF (v := fun b => .pointer (some ⟨b, 0, none⟩)) (cs := [.slice a1 n1 c1, .int .i64 x0.ShipPass.Depth, .int .i64 x0.ShipPass.Draft, .slice a2 n2 c2, .int .i64 x0.ShipPass.Light.Low, .int .i64 x0.ShipPass.Light.High, .int .i64 x0.swell]) (e := 199) (rn_boxA rfl) hS.sat rfl (fun b3 G5 w4 hg hcb3 => ?_)); have hS := hS.grow hg; have hO := hO.grow hg
 have leG5 := hg.le
 refine WL_op rfl (OpP_newF (v := fun b => .pointer (some ⟨b, 0, none⟩)) (cs := [.int .i64 x1.Day, .int .i64 x1.Hour]) (e := 47) (rn_boxA rfl) hS.sat rfl (fun b6 G8 w7 hg hcb6 => ?_)); have hS := hS.grow hg; have hO := hO.grow hg
 have leG8 := hg.le
 refine WL_val (rn_assign (v := (.bool false)) rfl) rfl ?_; refine WL_nil ?_; refine WC_seq ?_; have hS := hS.keep (below_drew _); have hO := hO.below (below_drew _)
 refine WC_regionD mixedO (fun _ w => Sat G8 w ∧ True) (.fl 0 (.fl 1 (.fl 2 (.fl 3 (.fl 4 (.fl 5 (.fl 6 (.fl 7 (.fl 8 (.on 9 (.on 10 (.on 11 (.on 12 (.on 13 (.on 14 (.on 15 (.on 16 .nil))))))))))))))))) (by kernel_rfl) rfl (by kernel_rfl) (fun _ => ⟨hS.sat, trivial⟩) ?_
 refine WD_val rfl (fun w hw => rn_fld fd199_0 rfl) rfl ?_; refine WD_val rfl (fun w hw => rn_fld fd27_0 rfl) rfl ?_; refine WD_val rfl (fun w hw => rn_load na22 rfl ((hw.1.le leG8).cell (hcb3 0 _ rfl))) rfl ?_; refine WD_val rfl (fun w hw => rn_fld fd47_0 rfl) rfl ?_; refine WD_val rfl (fun w hw => rn_load na3 rfl (hw.1.cell (hcb6 0 _ rfl))) rfl ?_; refine WD_val rfl (fun w hw => rn_mul rfl rfl) rfl ?_; refine WD_val rfl (fun w hw => rn_fld fd47_1 rfl) rfl ?_; refine WD_val rfl (fun w hw => rn_load na3 rfl (hw.1.cell (hcb6 1 _ rfl))) rfl ?_; refine WD_val rfl (fun w hw => rn_add rfl rfl) rfl ?_; refine WD_op rfl rfl (OpP_val (rn_fld fd199_0 rfl) rfl ?_); refine ⟨fun _ _ => ⟨hS.sat, trivial⟩, ?_⟩; refine WD_op rfl rfl (OpP_val (rn_fld fd27_0 rfl) rfl ?_); refine ⟨fun _ _ => ⟨hS.sat, trivial⟩, ?_⟩; refine WD_op rfl rfl (OpP_val (rn_load na22 rfl ((hS.sat.le leG8).cell (hcb3 0 _ rfl))) rfl ?_); refine ⟨fun _ _ => ⟨hS.sat, trivial⟩, ?_⟩
 have l0_2 := leG5.trans leG8
 refine WD_op rfl rfl (OpP_val (rn_len sl22 rfl rfl (h1.mono RInt_mono l0_2).1) rfl ?_); refine ⟨fun _ _ => ⟨hS.sat, trivial⟩, ?_⟩; obtain ⟨y9, hy9, H⟩ := bnd H; refine WD_op rfl rfl (OpP_val (rn_remV rfl rfl hy9) rfl ?_); refine ⟨fun _ _ => ⟨hS.sat, trivial⟩, ?_⟩; obtain ⟨y10, hy10, H⟩ := bnd H; refine WD_op rfl rfl (OpP_idx sl22 (h1.mono RInt_mono l0_2) hy10 rfl rfl rfl ?_)
 rintro b11 o11 _ hcb11 _ ⟨⟩
 refine ⟨fun _ h => noneed (by kernel_rfl) h, ?_⟩
 refine WD_op rfl rfl (OpP_val (rn_load na3 rfl (hS.sat.cell (hcb11 0 _ rfl))) rfl ?_)
 refine ⟨fun _ h => noneed (by kernel_rfl) h, ?_⟩
 refine WD_op rfl rfl (OpP_val (rn_assign (v := (.int .i64 y10)) rfl) rfl ?_)
 refine ⟨fun _ h => noneed (by kernel_rfl) h, ?_⟩
 refine WD_nil ?_; refine WC_seq ?_; refine WC_region ?_; refine WL_val (rn_fld fd199_0 rfl) rfl ?_; refine WL_val (rn_fld fd27_1 rfl) rfl ?_; refine WL_val (rn_load na3 rfl ((hS.sat.le leG8).cell (hcb3 1 _ rfl))) rfl ?_; refine WL_val (rn_move (v := (.int .i64 y10)) rfl) rfl ?_; refine WL_val (rn_add rfl rfl) rfl ?_; refine WL_val (rn_fld fd199_1 rfl) rfl ?_; refine WL_val (rn_load na3 rfl ((hS.sat.le leG8).cell (hcb3 6 _ rfl))) rfl ?_; refine WL_val (rn_sub rfl rfl) rfl ?_; refine WL_val (rn_fld fd199_0 rfl) rfl ?_; refine WL_val (rn_fld fd27_2 rfl) rfl ?_; refine WL_val (rn_load na3 rfl ((hS.sat.le leG8).cell (hcb3 2 _ rfl))) rfl ?_; refine WL_val (rn_geq rfl rfl) rfl ?_; refine WL_val (rn_assign (v := (.bool (decide (x0.ShipPass.Draft ≤ (IntKind.i64.wrap ((IntKind.i64.wrap (x0.ShipPass.Depth + y10)) - x0.swell)))))) rfl) rfl ?_; refine WL_nil ?_; refine WC_ret ?_
 have H : some (decide (x0.ShipPass.Draft ≤ (IntKind.i64.wrap ((IntKind.i64.wrap (x0.ShipPass.Depth + y10)) - x0.swell)))) = some r := H
 have H := Option.some.inj H; subst H
 exact ⟨rfl, hS.below⟩
set_option maxHeartbeats 1000000 in
theorem f102_ok {G0 : Gm} {w0 : World} (hS0 : Sat G0 w0) {x0 : TPass} {a1 : Option Addr} {n1 c1 : Nat} {a2 : Option Addr} {n2 c2 : Nat} {x1 : TShipCall} (h1 : RSl RInt 1 G0 a1 n1 c1 x0.ShipPass.Tides) (h2 : RSl RTSpan 2 G0 a2 n2 c2 x0.ShipPass.Swell) {r : Bool} (H : f102 x0 x1 = some r) :
  Calls Tryz.prog 102 #[.agg #[.slice a1 n1 c1, .int .i64 x0.ShipPass.Depth, .int .i64 x0.ShipPass.Draft, .slice a2 n2 c2, .int .i64 x0.ShipPass.Light.Low, .int .i64 x0.ShipPass.Light.High, .int .i64 x0.swell], .agg #[.int .i64 x1.Day, .int .i64 x1.Hour]] w0 (RetV w0 (.bool r)) := by
 have hS := Since.start hS0
 have hO : Owns G0 w0 w0.heap.size [] := Owns.nil (Nat.le_refl _)
 unfold f102 at H
 refine enter1 (N := 20) (shutV _ _) Tryz.func102 rfl rfl rfl rfl ?_; refine WC_seq ?_; refine WC_region ?_; refine WL_op rfl (OpP_newF (v := fun b => .pointer (some ⟨b, 0, none⟩)) (cs := [.slice a1 n1 c1, .int .i64 x0.ShipPass.Depth, .int .i64 x0.ShipPass.Draft, .slice a2 n2 c2, .int .i64 x0.ShipPass.Light.Low, .int .i64 x0.ShipPass.Light.High, .int .i64 x0.swell]) (e := 199) (rn_boxA rfl) hS.sat rfl (fun b3 G5 w4 hg hcb3 => ?_)); have hS := hS.grow hg; have hO := hO.grow hg
 have leG5 := hg.le
 refine WL_op rfl (OpP_newF (v := fun b => .pointer (some ⟨b, 0, none⟩)) (cs := [.int .i64 x1.Day, .int .i64 x1.Hour]) (e := 47) (rn_boxA rfl) hS.sat rfl (fun b6 G8 w7 hg hcb6 => ?_)); have hS := hS.grow hg; have hO := hO.grow hg
 have leG8 := hg.le
 refine WL_val (rn_assign (v := (.bool false)) rfl) rfl ?_; refine WL_nil ?_; refine WC_seq ?_; refine WC_seq ?_; refine WC_region ?_; refine WL_val (rn_loadA ag199 (cs := [.slice a1 n1 c1, .int .i64 x0.ShipPass.Depth, .int .i64 x0.ShipPass.Draft, .slice a2 n2 c2, .int .i64 x0.ShipPass.Light.Low, .int .i64 x0.ShipPass.Light.High, .int .i64 x0.swell]) rfl rfl (fun j v hj => (hS.sat.le leG8).cell (hcb3.drop_take 0 7 j v hj))) rfl ?_
 have l0_2 := leG5.trans leG8
 have hF9 : FnOk148 G8 135 [.agg #[.slice a1 n1 c1, .int .i64 x0.ShipPass.Depth, .int .i64 x0.ShipPass.Draft, .slice a2 n2 c2, .int .i64 x0.ShipPass.Light.Low, .int .i64 x0.ShipPass.Light.High, .int .i64 x0.swell]] [] (fun (z0 : TShipCall) => f135 x0 z0) := ⟨cb135, fun G1 W1 hl hw z0 r1 H1 => f135_ok (x0 := x0) (x1 := z0) hw ((h1.mono RInt_mono l0_2).mono RInt_mono hl) ((h2.mono RTSpan_mono l0_2).mono RTSpan_mono hl) H1⟩
 refine WL_val (rn_func (vs := [.agg #[.slice a1 n1 c1, .int .i64 x0.ShipPass.Depth, .int .i64 x0.ShipPass.Draft, .slice a2 n2 c2, .int .i64 x0.ShipPass.Light.Low, .int .i64 x0.ShipPass.Light.High, .int .i64 x0.swell]]) (us := []) rfl rfl) rfl ?_; refine WL_val (rn_loadA ag199 (cs := [.slice a1 n1 c1, .int .i64 x0.ShipPass.Depth, .int .i64 x0.ShipPass.Draft, .slice a2 n2 c2, .int .i64 x0.ShipPass.Light.Low, .int .i64 x0.ShipPass.Light.High, .int .i64 x0.swell]) rfl rfl (fun j v hj => (hS.sat.le leG8).cell (hcb3.drop_take 0 7 j v hj))) rfl ?_
 have hF10 : FnOk148 G8 136 [.agg #[.slice a1 n1 c1, .int .i64 x0.ShipPass.Depth, .int .i64 x0.ShipPass.Draft, .slice a2 n2 c2, .int .i64 x0.ShipPass.Light.Low, .int .i64 x0.ShipPass.Light.High, .int .i64 x0.swell]] [] (fun (z0 : TShipCall) => f136 x0 z0) := ⟨cb136, fun G1 W1 hl hw z0 r1 H1 => f136_ok (x0 := x0) (x1 := z0) hw ((h1.mono RInt_mono l0_2).mono RInt_mono hl) ((h2.mono RTSpan_mono l0_2).mono RTSpan_mono hl) H1⟩
 refine WL_val (rn_func (vs := [.agg #[.slice a1 n1 c1, .int .i64 x0.ShipPass.Depth, .int .i64 x0.ShipPass.Draft, .slice a2 n2 c2, .int .i64 x0.ShipPass.Light.Low, .int .i64 x0.ShipPass.Light.High, .int .i64 x0.swell]]) (us := []) rfl rfl) rfl ?_
 refine WL_val (v := (.agg #[.func (.func 135) ([.agg #[.slice a1 n1 c1, .int .i64 x0.ShipPass.Depth, .int .i64 x0.ShipPass.Draft, .slice a2 n2 c2, .int .i64 x0.ShipPass.Light.Low, .int .i64 x0.ShipPass.Light.High, .int .i64 x0.swell]]).toArray ([]).toArray, .func (.func 136) ([.agg #[.slice a1 n1 c1, .int .i64 x0.ShipPass.Depth, .int .i64 x0.ShipPass.Draft, .slice a2 n2 c2, .int .i64 x0.ShipPass.Light.Low, .int .i64 x0.ShipPass.Light.High, .int .i64 x0.swell]]).toArray ([]).toArray])) (by kernel_rfl) rfl ?_
 refine WL_val (rn_move (v := (.int .i64 0)) rfl) rfl ?_; refine WL_nil ?_; refine WC_block (WC_loopI ?_); refine WI_step ?_; refine WC_seq ?_; refine WC_region ?_
 refine WL_val (v := (.bool true)) (by kernel_rfl) rfl ?_
 refine WL_nil ?_; refine WC_seq ?_; refine WC_condT _ rfl rfl ?_; refine WC_skip ?_; refine WC_seq ?_; refine WC_block ?_; refine WC_seq ?_; refine WC_region ?_
 refine WL_val (v := (.func (.func 135) ([.agg #[.slice a1 n1 c1, .int .i64 x0.ShipPass.Depth, .int .i64 x0.ShipPass.Draft, .slice a2 n2 c2, .int .i64 x0.ShipPass.Light.Low, .int .i64 x0.ShipPass.Light.High, .int .i64 x0.swell]]).toArray ([]).toArray)) (by kernel_rfl) rfl ?_
 refine WL_val (rn_assign (v := (.func (.func 135) ([.agg #[.slice a1 n1 c1, .int .i64 x0.ShipPass.Depth, .int .i64 x0.ShipPass.Draft, .slice a2 n2 c2, .int .i64 x0.ShipPass.Light.Low, .int .i64 x0.ShipPass.Light.High, .int .i64 x0.swell]]).toArray ([]).toArray)) rfl) rfl ?_; refine WL_nil ?_; refine WC_seq ?_; refine WC_region ?_; refine WL_val (rn_move (v := (.func (.func 135) ([.agg #[.slice a1 n1 c1, .int .i64 x0.ShipPass.Depth, .int .i64 x0.ShipPass.Draft, .slice a2 n2 c2, .int .i64 x0.ShipPass.Light.Low, .int .i64 x0.ShipPass.Light.High, .int .i64 x0.swell]]).toArray ([]).toArray)) rfl) rfl ?_; refine WL_val (rn_loadA ag47 (cs := [.int .i64 x1.Day, .int .i64 x1.Hour]) rfl rfl (fun j v hj => hS.sat.cell (hcb6.drop_take 0 2 j v hj))) rfl ?_; obtain ⟨y11, hy11, H⟩ := bnd H; refine WL_op rfl (OpP_callVF hF9.1 (hF9.2 _ _ (Gle.refl _) hS.sat x1 _  hy11) rfl rfl rfl (fun w12 hb => ?_)); have hS := hS.keep hb; have hO := hO.below hb; refine WL_val (rn_not rfl) rfl ?_; refine WL_nil ?_; refine WC_cond rfl (fun hb13 => ?_) (fun hb13 => ?_)
 ·have H := ifT hb13 H; refine WC_seq ?_; refine WC_region ?_; refine WL_val (rn_assign (v := (.bool false)) rfl) rfl ?_; refine WL_nil ?_; refine WC_ret ?_
  have H : some false = some r := H
  have H := Option.some.inj H; subst H
  exact ⟨rfl, hS.below⟩
 ·have H := ifF hb13 H; refine WC_skip ?_; refine WC_region ?_
  refine WL_val (v := (.int .i64 1)) (by kernel_rfl) rfl ?_
  refine WL_val (rn_move (v := (.int .i64 1)) rfl) rfl ?_; refine WL_nil ?_; refine WI_step ?_; refine WC_seq ?_; refine WC_region ?_
  refine WL_val (v := (.bool true)) (by kernel_rfl) rfl ?_
  refine WL_nil ?_; refine WC_seq ?_; refine WC_condT _ rfl rfl ?_; refine WC_skip ?_; refine WC_seq ?_; refine WC_block ?_; refine WC_seq ?_; refine WC_region ?_
  refine WL_val (v := (.func (.func 136) ([.agg #[.slice a1 n1 c1, .int .i64 x0.ShipPass.Depth, .int .i64 x0.ShipPass.Draft, .slice a2 n2 c2, .int .i64 x0.ShipPass.Light.Low, .int .i64 x0.ShipPass.Light.High, .int .i64 x0.swell]]).toArray ([]).toArray)) (by kernel_rfl) rfl ?_
  refine WL_val (rn_assign (v := (.func (.func 136) ([.agg #[.slice a1 n1 c1, .int .i64 x0.ShipPass.Depth, .int .i64 x0.ShipPass.Draft, .slice a2 n2 c2, .int .i64 x0.ShipPass.Light.Low, .int .i64 x0.ShipPass.Light.High, .int .i64 x0.swell]]).toArray ([]).toArray)) rfl) rfl ?_; refine WL_nil ?_; refine WC_seq ?_; refine WC_region ?_; refine WL_val (rn_move (v := (.func (.func 136) ([.agg #[.slice a1 n1 c1, .int .i64 x0.ShipPass.Depth, .int .i64 x0.ShipPass.Draft, .slice a2 n2 c2, .int .i64 x0.ShipPass.Light.Low, .int .i64 x0.ShipPass.Light.High, .int .i64 x0.swell]]).toArray ([]).toArray)) rfl) rfl ?_; refine WL_val (rn_loadA ag47 (cs := [.int .i64 x1.Day, .int .i64 x1.Hour]) rfl rfl (fun j v hj => hS.sat.cell (hcb6.drop_take 0 2 j v hj))) rfl ?_; obtain ⟨y14, hy14, H⟩ := bnd H; refine WL_op rfl (OpP_callVF hF10.1 (hF10.2 _ _ (Gle.refl _) hS.sat x1 _  hy14) rfl rfl rfl (fun w15 hb => ?_)); have hS := hS.keep hb; have hO := hO.below hb; refine WL_val (rn_not rfl) rfl ?_; refine WL_nil ?_; refine WC_cond rfl (fun hb16 => ?_) (fun hb16 => ?_)
  ·have H := ifT hb16 H; refine WC_seq ?_; refine WC_region ?_; refine WL_val (rn_assign (v := (.bool false)) rfl) rfl ?_; refine WL_nil ?_; refine WC_ret ?_
   have H : some false = some r := H
   have H := Option.some.inj H; subst H
   exact ⟨rfl, hS.below⟩
  ·have H := ifF hb16 H; refine WC_skip ?_; refine WC_region ?_
   refine WL_val (v := (.int .i64 2)) (by kernel_rfl) rfl ?_
   refine WL_val (rn_move (v := (.int .i64 2)) rfl) rfl ?_; refine WL_nil ?_; refine WI_step ?_; refine WC_seq ?_; refine WC_region ?_
   refine WL_val (v := (.bool false)) (by kernel_rfl) rfl ?_
   refine WL_nil ?_; refine WC_seq ?_; refine WC_condF _ rfl rfl ?_; refine WC_exit rfl ?_; refine WC_seq ?_; refine WC_region ?_; refine WL_val (rn_assign (v := (.bool true)) rfl) rfl ?_; refine WL_nil ?_; refine WC_ret ?_
   have H : some true = some r := H
   have H := Option.some.inj H; subst H
   exact ⟨rfl, hS.below⟩
set_option maxHeartbeats 1000000 in
theorem f62_ok {G0 : Gm} {w0 : World} (hS0 : Sat G0 w0) {x0 : TShipPass} {a1 : Option Addr} {n1 c1 : Nat} {a2 : Option Addr} {n2 c2 : Nat} {x1 : TShipCall} (h1 : RSl RInt 1 G0 a1 n1 c1 x0.Tides) (h2 : RSl RTSpan 2 G0 a2 n2 c2 x0.Swell) {r : Bool} (H : f62 x0 x1 = some r) :
  Calls Tryz.prog 62 #[.agg #[.slice a1 n1 c1, .int .i64 x0.Depth, .int .i64 x0.Draft, .slice a2 n2 c2, .int .i64 x0.Light.Low, .int .i64 x0.Light.High], .agg #[.int .i64 x1.Day, .int .i64 x1.Hour]] w0 (RetV w0 (.bool r)) := by
 have hS := Since.start hS0
 have hO : Owns G0 w0 w0.heap.size [] := Owns.nil (Nat.le_refl _)
 unfold f62 at H
 refine enter1 (N := 16) (shutV _ _) Tryz.func62 rfl rfl rfl rfl ?_; refine WC_seq ?_; refine WC_region ?_; refine WL_op rfl (OpP_newF (v := fun b => .pointer (some ⟨b, 0, none⟩)) (cs := [.slice a1 n1 c1, .int .i64 x0.Depth, .int .i64 x0.Draft, .slice a2 n2 c2, .int .i64 x0.Light.Low, .int .i64 x0.Light.High]) (e := 27) (rn_boxA rfl) hS.sat rfl (fun b3 G5 w4 hg hcb3 => ?_)); have hS := hS.grow hg; have hO := hO.grow hg
 have leG5 := hg.le
 refine WL_op rfl (OpP_newF (v := fun b => .pointer (some ⟨b, 0, none⟩)) (cs := [.int .i64 x1.Day, .int .i64 x1.Hour]) (e := 47) (rn_boxA rfl) hS.sat rfl (fun b6 G8 w7 hg hcb6 => ?_)); have hS := hS.grow hg; have hO := hO.grow hg
 have leG8 := hg.le
 refine WL_val (rn_assign (v := (.bool false)) rfl) rfl ?_; refine WL_nil ?_; refine WC_seq ?_; have hS := hS.keep (below_drew _); have hO := hO.below (below_drew _)
 refine WC_regionD mixedO (fun _ w => Sat G8 w ∧ True) (.fl 0 (.fl 1 (.fl 2 (.fl 3 (.fl 4 (.fl 5 (.fl 6 (.fl 7 (.fl 8 (.on 9 (.on 10 (.on 11 .nil)))))))))))) (by kernel_rfl) rfl (by kernel_rfl) (fun _ => ⟨hS.sat, trivial⟩) ?_
 refine WD_val rfl (fun w hw => rn_loadA ag27 (cs := [.slice a1 n1 c1, .int .i64 x0.Depth, .int .i64 x0.Draft, .slice a2 n2 c2, .int .i64 x0.Light.Low, .int .i64 x0.Light.High]) rfl rfl (fun j v hj => (hw.1.le leG8).cell (hcb3.drop_take 0 6 j v hj))) rfl ?_; refine WD_val rfl (fun w hw => rn_fld fd27_3 rfl) rfl ?_; refine WD_val rfl (fun w hw => rn_load na23 rfl ((hw.1.le leG8).cell (hcb3 3 _ rfl))) rfl ?_; refine WD_val rfl (fun w hw => rn_fld fd47_0 rfl) rfl ?_; refine WD_val rfl (fun w hw => rn_load na3 rfl (hw.1.cell (hcb6 0 _ rfl))) rfl ?_; obtain ⟨y9, hy9, H⟩ := bnd H
 have l0_2 := leG5.trans leG8
 refine WD_idx rfl sl23 (h2.mono RTSpan_mono l0_2) hy9 rfl rfl rfl ?_
 rintro b10 o10 _ hcb10 _ ⟨⟩
 refine WD_val rfl (fun w hw => rn_fld fd25_1 rfl) rfl ?_; refine WD_val rfl (fun w hw => rn_load na3 rfl (hw.1.cell (hcb10 1 _ rfl))) rfl ?_
 refine WD_val (v := (.agg #[.slice a1 n1 c1, .int .i64 x0.Depth, .int .i64 x0.Draft, .slice a2 n2 c2, .int .i64 x0.Light.Low, .int .i64 x0.Light.High, .int .i64 y9.High])) rfl (fun w hw => by kernel_rfl) rfl ?_
 refine WD_op rfl rfl (OpP_val (rn_loadA ag47 (cs := [.int .i64 x1.Day, .int .i64 x1.Hour]) rfl rfl (fun j v hj => hS.sat.cell (hcb6.drop_take 0 2 j v hj))) rfl ?_); refine ⟨fun _ _ => ⟨hS.sat, trivial⟩, ?_⟩; obtain ⟨y11, hy11, H⟩ := bnd H; refine WD_op rfl rfl (OpP_callV cb102 (f102_ok (x0 := (⟨x0, y9.High⟩ : TPass)) (x1 := x1) hS.sat (h1.mono RInt_mono l0_2) (h2.mono RTSpan_mono l0_2) hy11) rfl rfl (fun w12 hb => ?_)); have hS := hS.keep hb; have hO := hO.below hb
 refine ⟨fun _ h => noneed (by kernel_rfl) h, ?_⟩
 refine WD_op rfl rfl (OpP_val (rn_assign (v := (.bool y11)) rfl) rfl ?_)
 refine ⟨fun _ h => noneed (by kernel_rfl) h, ?_⟩
 refine WD_nil ?_; refine WC_ret ?_
 have H : some y11 = some r := H
 have H := Option.some.inj H; subst H
 exact ⟨rfl, hS.below⟩
set_option maxHeartbeats 1000000 in
theorem callsF_lp {sure : TShipCall → Option Bool} {n : Nat} : ∀ (m : Nat) (c : TShipCall) (l : List TShipCall), callsF sure n m c = some l → lp (fun s : Nat × TShipCall => match s.1 with | 0 => none | m + 1 => if s.2.Day < (n : Int) then some (Sum.inl (m, nextC s.2)) else some (Sum.inr ())) (m, c) = some ()
 | 0, _, _, h => by cases h
 | m + 1, c, l, h => by
  rw [lp_eq]
  simp only [callsF] at h ⊢
  split at h
  ·rename_i hd
   obtain ⟨s, _, h⟩ := bnd h; obtain ⟨l', h1, _⟩ := bnd h
   simp only [hd, if_true]
   exact callsF_lp m _ l' h1
  ·rename_i hd
   simp only [hd, if_false]
set_option maxHeartbeats 1000000 in
theorem f61_ok {G : Gm} {x0 : TShipPass} {x1 : TShipCall} {b1 b2 : Nat} {a1 : Option Addr} {n1 c1 : Nat} {a2 : Option Addr} {n2 c2 : Nat} (hc1 : Cells G b1 0 [.int .i64 x1.Day, .int .i64 x1.Hour]) (hc2 : Cells G b2 0 [.slice a1 n1 c1, .int .i64 x0.Depth, .int .i64 x0.Draft, .slice a2 n2 c2, .int .i64 x0.Light.Low, .int .i64 x0.Light.High]) (h1 : RSl RInt 1 G a1 n1 c1 x0.Tides) (h2 : RSl RTSpan 2 G a2 n2 c2 x0.Swell) {xs : List TShipCall} (H : callsL (f62 x0) x0.Swell.length x1 = some xs) :
  IterOk Tryz.prog 61 [] [.pointer (some ⟨b1, 0, none⟩), .pointer (some ⟨b2, 0, none⟩)] G encC xs := by
 intro l B G0 w0 J Jx G1 L1 w hle hS hO hmono hy h0
 refine enterI (l := l) (N := 33) Tryz.func61 rfl rfl rfl rfl ?_; refine WC_seq ?_; refine WC_region ?_; refine WL_val (rn_loadA ag47 (cs := [.int .i64 x1.Day, .int .i64 x1.Hour]) rfl rfl (fun j v hj => hS.sat.cell ((hc1.mono hle).drop_take 0 2 j v hj))) rfl ?_
 refine WL_op rfl (OpP_newO (v := fun b => .pointer (some ⟨b, 0, none⟩)) (cs := [.int .i64 0, .int .i64 0]) (e := 47) (by kernel_rfl) hS.sat hO rfl 2 1 rfl (by decide) (fun b4 w1 hb hO => ?_))
 have hS := hS.keep hb
 have h0 := hmono _ _ _ _ _ _ h0 (Gle.refl _) (.below hb)
 refine WL_op rfl (OpP_storeJ (vs := [.int .i64 x1.Day, .int .i64 x1.Hour]) sz47 hS hO (k := 0) rfl rfl rfl rfl rfl (one_all rfl) (Nat.le_of_ble_eq_true rfl) (fun w2 hk hS hO => ?_))
 have h0 := hmono _ _ _ _ _ _ h0 (Gle.refl _) hk
 have hO : Owns G1 w2 B (⟨47, 2, 1, .slice (some ⟨b4, 0, none⟩) 1 1, [.int .i64 x1.Day, .int .i64 x1.Hour]⟩ :: L1) := hO
 refine WL_nil ?_; refine WC_block (WC_loop (callsF_lp _ _ _ H) (fun s F w' => ∃ (Fb : Fr) (b : Nat) (G' : Gm) (L' : List Row) (k : Nat), F = upds Fb [(0, .func (.yield l) #[] #[]), (2, .pointer (some ⟨b2, 0, none⟩)), (4, .pointer (some ⟨b, 0, none⟩))] ∧ Gle G1 G' ∧ Since B G0 w0 G' w' ∧ Owns G' w' B (⟨47, 2, 1, .slice (some ⟨b, 0, none⟩) 1 1, [.int .i64 s.2.Day, .int .i64 s.2.Hour]⟩ :: L') ∧ J G' L' k w' ∧ k ≤ xs.length ∧ callsF (f62 x0) x0.Swell.length s.1 s.2 = some (xs.drop k)) ?_ ?_)
 ·exact ⟨_, b4, G1, L1, 0, upds_self _ _ ⟨rfl, rfl, rfl, trivial⟩, Gle.refl _, hS, hO, h0, Nat.zero_le _, H⟩
 ·rintro ⟨m, c⟩ F w' t ⟨Fb, b, G', L', k, rfl, hle2, hS, hO, hJ, hkl, hrest⟩ hbody hres
  have hG := hle.trans hle2
  cases m with
  | zero => cases hrest
  | succ m =>
  simp only [callsF] at hrest
  simp only at hbody
  refine WC_seq ?_; refine WC_seq ?_; refine WC_region ?_; refine WL_val (rn_fld fd47_0 rfl) rfl ?_; refine WL_val (rn_load na3 rfl (own_cell hO (k := 0) rfl (j := 0) rfl)) rfl ?_; refine WL_val (rn_fld fd27_3 rfl) rfl ?_; refine WL_val (rn_load na23 rfl (hS.sat.cell ((hc2.mono hG) 3 _ rfl))) rfl ?_; refine WL_val (rn_len (m := x0.Swell.length) sl23 rfl rfl h2.1) rfl ?_; refine WL_val (rn_lss rfl rfl) rfl ?_; refine WL_nil ?_; refine WC_cond rfl (fun hb => ?_) (fun hb => ?_)
  ·have hd : c.Day < (x0.Swell.length : Int) := of_decide_eq_true hb
   rw [if_pos hd] at hbody hrest
   have hbody := Option.some.inj hbody
   subst hbody; obtain ⟨s, hs, hrest⟩ := bnd hrest; obtain ⟨l', hl', hrest⟩ := bnd hrest
   have hrest := Option.some.inj hrest
   refine WC_skip ?_; refine WC_seq ?_; refine WC_cut (fun F w' => ∃ (Fb : Fr) (b : Nat) (G' : Gm) (L' : List Row) (k : Nat), F = upds Fb [(0, .func (.yield l) #[] #[]), (2, .pointer (some ⟨b2, 0, none⟩)), (4, .pointer (some ⟨b, 0, none⟩))] ∧ Gle G1 G' ∧ Since B G0 w0 G' w' ∧ Owns G' w' B (⟨47, 2, 1, .slice (some ⟨b, 0, none⟩) 1 1, [.int .i64 (nextC c).Day, .int .i64 (nextC c).Hour]⟩ :: L') ∧ J G' L' k w' ∧ k ≤ xs.length ∧ l' = xs.drop k) ?_ ?_
   ·refine WC_block ?_; refine WC_seq ?_; refine WC_cut (fun F w' => ∃ (Fb : Fr) (G' : Gm) (L' : List Row) (k : Nat), F = upds Fb [(0, .func (.yield l) #[] #[]), (2, .pointer (some ⟨b2, 0, none⟩)), (4, .pointer (some ⟨b, 0, none⟩)), (20, .bool false)] ∧ Gle G1 G' ∧ Since B G0 w0 G' w' ∧ Owns G' w' B (⟨47, 2, 1, .slice (some ⟨b, 0, none⟩) 1 1, [.int .i64 c.Day, .int .i64 c.Hour]⟩ :: L') ∧ J G' L' k w' ∧ k ≤ xs.length ∧ l' = xs.drop k) ?_ ?_
    ·refine WC_seq ?_; refine WC_region ?_; refine WL_val (rn_loadA ag27 (cs := [.slice a1 n1 c1, .int .i64 x0.Depth, .int .i64 x0.Draft, .slice a2 n2 c2, .int .i64 x0.Light.Low, .int .i64 x0.Light.High]) rfl rfl (fun j v hj => hS.sat.cell ((hc2.mono hG).drop_take 0 6 j v hj))) rfl ?_; refine WL_val (rn_loadA ag47 (cs := [.int .i64 c.Day, .int .i64 c.Hour]) rfl rfl (fun j v hj => own_sub hO (k := 0) rfl 0 2 j v hj)) rfl ?_; refine WL_op rfl (OpP_callV cb62 (f62_ok (x0 := x0) (x1 := c) hS.sat (h1.mono RInt_mono hG) (h2.mono RTSpan_mono hG) hs) rfl rfl (fun w3 hb3 => ?_)); have hS := hS.keep hb3; have hO := hO.below hb3
     have hJ := hmono _ _ _ _ _ _ hJ (Gle.refl _) (.below hb3)
     refine WL_val (rn_move (v := .bool s) rfl) rfl ?_
     rcases bcases s with hs1 | hs1
     ·subst hs1
      have hcons : xs.drop k = c :: l' := hrest.symm
      have hk : xs[k]? = some c := by
       have := congrArg (fun l => l[0]?) hcons
       simpa using this
      have hl'' : l' = xs.drop (k + 1) := by
       have := congrArg List.tail hcons
       simpa using this.symm
      refine WL_guardY rfl rfl rfl rfl (WL_val (rn_move (v := .func (.yield l) #[] #[]) rfl) rfl ?_); refine WL_guardY rfl rfl rfl rfl (WL_val (rn_loadA ag47 (cs := [.int .i64 c.Day, .int .i64 c.Hour]) rfl rfl (fun j v hj => own_sub hO (k := 0) rfl 0 2 j v hj)) rfl ?_); refine WL_guardY rfl rfl rfl rfl (WL_yield (al := encC c) (hy G' L' [⟨47, 2, 1, .slice (some ⟨b, 0, none⟩) 1 1, [.int .i64 c.Day, .int .i64 c.Hour]⟩] k w3 c hle2 hJ hS hO hk) rfl rfl rfl ?_)
      rintro e w4 ⟨hkeep, ⟨rfl, G4, L4, le4, hS, hO, hJ⟩ | ⟨rfl, hjx⟩⟩
      ·refine ⟨_, rfl, hkeep, ?_⟩; refine WL_guardY rfl rfl rfl rfl (WL_val (rn_not rfl) rfl ?_); refine WL_val (rn_pickT rfl rfl rfl) rfl ?_; refine WL_nil ?_; refine WC_condF false rfl rfl ?_; refine WC_skip ?_
       exact ⟨_, G4, L4, k + 1, upds_self _ _ ⟨rfl, rfl, rfl, rfl, trivial⟩, hle2.trans le4, hS, hO, hJ, (List.getElem?_eq_some_iff.1 hk).1, hl''⟩
      ·refine ⟨_, rfl, hkeep, ?_⟩; refine WL_guardY rfl rfl rfl rfl (WL_val (rn_not rfl) rfl ?_); refine WL_val (rn_pickT rfl rfl rfl) rfl ?_; refine WL_nil ?_; refine WC_condT true rfl rfl ?_; refine WC_ret ?_
       exact fun hkp => ⟨⟨_, rfl⟩, hkp, .inr hjx⟩
     ·subst hs1
      have hl'' : l' = xs.drop k := hrest
      refine WL_guardN rfl rfl rfl rfl rfl ?_; refine WL_guardN rfl rfl rfl rfl rfl ?_; refine WL_guardN rfl rfl rfl rfl rfl ?_; refine WL_guardN rfl rfl rfl rfl rfl ?_; refine WL_val (rn_pickF rfl rfl rfl) rfl ?_; refine WL_nil ?_; refine WC_condF false rfl rfl ?_; refine WC_skip ?_
      exact ⟨_, G', L', k, upds_self _ _ ⟨rfl, rfl, rfl, rfl, trivial⟩, hle2, hS, hO, hJ, hkl, hl''⟩
    ·rintro F w5 ⟨Fb, G5, L5, k5, rfl, hle5, hS, hO, hJ, hkl5, hl5⟩
     refine WC_seq ?_; refine WC_region ?_; refine WL_val (rn_fld fd47_1 rfl) rfl ?_; refine WL_val (rn_load na3 rfl (own_cell hO (k := 0) rfl (j := 1) rfl)) rfl ?_; refine WL_val (rn_add rfl rfl) rfl ?_; refine WL_val (rn_fld fd47_1 rfl) rfl ?_; refine WL_op rfl (OpP_storeJ (vs := [.int .i64 (IntKind.i64.wrap (c.Hour + 1))]) sz3 hS hO (k := 0) rfl rfl rfl rfl rfl (one_all rfl) (Nat.le_of_ble_eq_true rfl) (fun w6 hk hS hO => ?_))
     have hJ := hmono _ _ _ _ _ _ hJ (Gle.refl _) hk
     have hO : Owns G5 w6 B (⟨47, 2, 1, .slice (some ⟨b, 0, none⟩) 1 1, [.int .i64 c.Day, .int .i64 (IntKind.i64.wrap (c.Hour + 1))]⟩ :: L5) := hO
     refine WL_nil ?_; refine WC_seq ?_; refine WC_region ?_; refine WL_val (rn_fld fd47_1 rfl) rfl ?_; refine WL_val (rn_load na3 rfl (own_cell hO (k := 0) rfl (j := 1) rfl)) rfl ?_; refine WL_val (rn_eql rfl rfl) rfl ?_; refine WL_nil ?_; refine WC_cond rfl (fun hb7 => ?_) (fun hb7 => ?_)
     ·have hn : nextC c = ⟨IntKind.i64.wrap (c.Day + 1), 0⟩ := by unfold nextC; rw [if_pos hb7]
      rw [hn]
      refine WC_region ?_; refine WL_val (rn_fld fd47_0 rfl) rfl ?_; refine WL_val (rn_load na3 rfl (own_cell hO (k := 0) rfl (j := 0) rfl)) rfl ?_; refine WL_val (rn_add rfl rfl) rfl ?_
      refine WL_val (v := .agg #[.int .i64 (IntKind.i64.wrap (c.Day + 1)), .int .i64 0]) (by kernel_rfl) rfl ?_
      refine WL_op rfl (OpP_storeJ (vs := [.int .i64 (IntKind.i64.wrap (c.Day + 1)), .int .i64 0]) sz47 hS hO (k := 0) rfl rfl rfl rfl rfl (one_all rfl) (Nat.le_of_ble_eq_true rfl) (fun w8 hk8 hS hO => ?_))
      have hJ := hmono _ _ _ _ _ _ hJ (Gle.refl _) hk8
      have hO : Owns G5 w8 B (⟨47, 2, 1, .slice (some ⟨b, 0, none⟩) 1 1, [.int .i64 (IntKind.i64.wrap (c.Day + 1)), .int .i64 0]⟩ :: L5) := hO
      refine WL_nil ?_
      exact ⟨_, b, G5, L5, k5, upds_self _ _ ⟨rfl, rfl, rfl, trivial⟩, hle5, hS, hO, hJ, hkl5, hl5⟩
     ·have hn : nextC c = ⟨c.Day, IntKind.i64.wrap (c.Hour + 1)⟩ := by unfold nextC; rw [if_neg (by rw [hb7]; decide)]
      rw [hn]
      refine WC_skip ?_
      exact ⟨_, b, G5, L5, k5, upds_self _ _ ⟨rfl, rfl, rfl, trivial⟩, hle5, hS, hO, hJ, hkl5, hl5⟩
   ·rintro F w9 ⟨Fb, b, G9, L9, k9, rfl, hle9, hS, hO, hJ, hkl9, hl9⟩
    refine WC_seq ?_; refine WC_region ?_; refine WL_val (rn_loadA ag47 (cs := [.int .i64 (nextC c).Day, .int .i64 (nextC c).Hour]) rfl rfl (fun j v hj => own_sub hO (k := 0) rfl 0 2 j v hj)) rfl ?_; refine WL_nil ?_; refine WC_region ?_
    refine WL_op rfl (OpP_newO (v := fun b => .pointer (some ⟨b, 0, none⟩)) (cs := [.int .i64 0, .int .i64 0]) (e := 47) (by kernel_rfl) hS.sat hO rfl 2 1 rfl (by decide) (fun b10 w10 hb hO => ?_))
    have hS := hS.keep hb
    have hJ := hmono _ _ _ _ _ _ hJ (Gle.refl _) (.below hb)
    refine WL_op rfl (OpP_storeJ (vs := [.int .i64 (nextC c).Day, .int .i64 (nextC c).Hour]) sz47 hS hO (k := 0) rfl rfl rfl rfl rfl (one_all rfl) (Nat.le_of_ble_eq_true rfl) (fun w11 hk hS hO => ?_))
    have hJ := hmono _ _ _ _ _ _ hJ (Gle.refl _) hk
    have hO := hO.drop 1; refine WL_nil ?_
    exact ⟨(m, nextC c), rfl, _, b10, G9, L9, k9, upds_self _ _ ⟨rfl, rfl, rfl, trivial⟩, hle9, hS, hO, hJ, hkl9, hl9 ▸ hl'⟩
  ·have hge : ¬ c.Day < (x0.Swell.length : Int) := of_decide_eq_false hb
   rw [if_neg hge] at hbody hrest
   refine WC_exit rfl ?_
   intro hkp
   have hk0 : xs.drop k = [] := (Option.some.inj hrest).symm
   have hkn : k = xs.length := by
    have := List.drop_eq_nil_iff.1 hk0
    omega
   exact ⟨⟨_, rfl⟩, hkp, .inl ⟨G', L', hle2, hS, by simpa using hO.drop 0, hkn ▸ hJ⟩⟩

set_option maxHeartbeats 1000000 in
theorem f29_ok : ∀ (n : Nat) {B : Nat} {G0 : Gm} {w0 : World} {Gc : Gm} {wc : World} {Lq : List Row} {x0 : TSpot} {bq1 : Nat} {rq1 : Nat} {m1 : (List ((Int × Int) × Bool))} {bq2 : Nat} {x2 : TSpan} {bq3 : Nat} {x3 : TShipPass} {a2 : Option Addr} {n2 c2 : Nat} {a3 : Option Addr} {n3 c3 : Nat} {bq4 : Nat} {m4 : List TShipCall} {aq4 : Option Addr} {nq4 cq4 : Nat} {clq4 : List Value} {bq5 : Nat} (hS : Since B G0 w0 Gc wc) (hO : Owns Gc wc B (⟨89, 2, (m1).length, .map (some rq1), kvs kvI2 vvB (m1)⟩ :: ⟨32, 1, 1, .slice (some ⟨bq4, 0, none⟩) 1 1, [.slice aq4 nq4 cq4]⟩ :: ⟨47, 2, nq4, .slice aq4 nq4 cq4, clq4⟩ :: Lq)) (hcq1 : Cells Gc bq1 0 [.map (some rq1)]) (hcq2 : Cells Gc bq2 0 [.int .i64 x2.Low, .int .i64 x2.High]) (hcq3 : Cells Gc bq3 0 [.slice a2 n2 c2, .int .i64 x3.Depth, .int .i64 x3.Draft, .slice a3 n3 c3, .int .i64 x3.Light.Low, .int .i64 x3.Light.High]) (hcq5 : Cells Gc bq5 0 [.func (.func 29) (([] : List Value)).toArray ([.pointer (some ⟨bq1, 0, none⟩), .pointer (some ⟨bq2, 0, none⟩), .pointer (some ⟨bq3, 0, none⟩), .pointer (some ⟨bq4, 0, none⟩), .pointer (some ⟨bq5, 0, none⟩)] : List Value).toArray]) (h2 : RSl RInt 1 Gc a2 n2 c2 x3.Tides) (h3 : RSl RTSpan 2 Gc a3 n3 c3 x3.Swell) (hnq4 : nq4 = m4.length) (hrq4 : Rd RTShipCall 2 Gc clq4 m4) {r : Bool × (List ((Int × Int) × Bool)) × (List TShipCall)} (H : f29 x2 x3 n x0 m1 m4 = some r),
  Calls Tryz.prog 29 #[.agg #[.int .i64 x0.day, .int .i64 x0.left], .pointer (some ⟨bq1, 0, none⟩), .pointer (some ⟨bq2, 0, none⟩), .pointer (some ⟨bq3, 0, none⟩), .pointer (some ⟨bq4, 0, none⟩), .pointer (some ⟨bq5, 0, none⟩)] wc (RetO B G0 w0 Gc wc (fun G L' v => ∃ (ap2 : Option Addr) (np2 cp2 : Nat) (clp2 : List Value), v = .bool r.1 ∧ L' = ⟨89, 2, (r.2.1).length, .map (some rq1), kvs kvI2 vvB (r.2.1)⟩ :: ⟨32, 1, 1, .slice (some ⟨bq4, 0, none⟩) 1 1, [.slice ap2 np2 cp2]⟩ :: ⟨47, 2, np2, .slice ap2 np2 cp2, clp2⟩ :: Lq ∧ np2 = r.2.2.length ∧ Rd RTShipCall 2 G clp2 r.2.2)) := by
 intro n
 induction n with
 | zero => intro B G0 w0 Gc wc Lq x0 bq1 rq1 m1 bq2 x2 bq3 x3 a2 n2 c2 a3 n3 c3 bq4 m4 aq4 nq4 cq4 clq4 bq5 hS hO hcq1 hcq2 hcq3 hcq5 h2 h3 hnq4 hrq4 r H; simp [f29] at H
 | succ n ih =>
  intro B G0 w0 Gc wc Lq x0 bq1 rq1 m1 bq2 x2 bq3 x3 a2 n2 c2 a3 n3 c3 bq4 m4 aq4 nq4 cq4 clq4 bq5 hS hO hcq1 hcq2 hcq3 hcq5 h2 h3 hnq4 hrq4 r H
  obtain ⟨rec, hrec⟩ : ∃ f, f = f29 x2 x3 n := ⟨_, rfl⟩
  have H : f29_F x2 x3 (f29 x2 x3 n) x0 m1 m4 = some r := H
  rw [← hrec] at H
  unfold f29_F at H
  refine enterL (N := 63) (rs := [.cell 7 4]) hO.base Tryz.func29 rfl rfl rfl rfl ?_; refine WC_seq ?_; refine WC_region ?_; refine WL_op rfl (OpP_newF (v := fun b => .pointer (some ⟨b, 0, none⟩)) (cs := [.int .i64 x0.day, .int .i64 x0.left]) (e := 89) (rn_boxA rfl) hS.sat rfl (fun b6 G8 w7 hg hcb6 => ?_)); have hS := hS.grow hg; have hO := hO.grow hg
  have leG8 := hg.le
  refine WL_op rfl (OpP_newO (v := fun b => .pointer (some ⟨b, 0, none⟩)) (cs := [.bool false]) (e := 4) (by kernel_rfl) hS.sat hO rfl 1 1 rfl (by decide) (fun b9 w10 hb hO => ?_))
  have hS := hS.keep hb; refine WL_nil ?_; refine WC_scope ?_; refine WC_seq ?_; refine WC_seq ?_; refine WC_region ?_; refine WL_val (rn_fld fd89_1 rfl) rfl ?_; refine WL_val (rn_load na3 rfl (hS.sat.cell (hcb6 1 _ rfl))) rfl ?_; refine WL_val (rn_eql rfl rfl) rfl ?_; refine WL_nil ?_; refine WC_cond rfl (fun hb12 => ?_) (fun hb12 => ?_)
  ·have H := ifT hb12 H; refine WC_seq ?_; refine WC_region ?_; refine WL_op rfl (OpP_store (vs := [.bool true]) sz4 hS hO (k := 0) rfl rfl rfl rfl rfl (one_all rfl) (Nat.le_of_ble_eq_true rfl) (fun w13 hS hO => ?_))
   have hO : Owns G8 w13 B ((⟨4, 1, 1, .slice (some ⟨b9, 0, none⟩) 1 1, [.bool true]⟩ :: ⟨89, 2, (m1).length, .map (some rq1), kvs kvI2 vvB (m1)⟩ :: ⟨32, 1, 1, .slice (some ⟨bq4, 0, none⟩) 1 1, [.slice aq4 nq4 cq4]⟩ :: ⟨47, 2, nq4, .slice aq4 nq4 cq4, clq4⟩ :: Lq)) := hO
   refine WL_nil ?_; refine WC_ret ?_
   have H : some (true, (m1), m4) = some r := H
   have H := Option.some.inj H; subst H; refine ⟨[.bool true], ⟨⟨_, rfl, ld_one na4 (own_cell hO (k := 0) rfl (j := 0) rfl)⟩, trivial⟩, ?_⟩; have hO := hO.drop 0
   have hO : Owns G8 w13 B ((⟨89, 2, (m1).length, .map (some rq1), kvs kvI2 vvB (m1)⟩ :: ⟨32, 1, 1, .slice (some ⟨bq4, 0, none⟩) 1 1, [.slice aq4 nq4 cq4]⟩ :: ⟨47, 2, nq4, .slice aq4 nq4 cq4, clq4⟩ :: Lq)) := hO
   exact ⟨_, _, leG8, hS, hO, aq4, nq4, cq4, clq4, rfl, rfl, hnq4, (hrq4.mono RTShipCall_mono leG8)⟩
  ·have H := ifF hb12 H; refine WC_skip ?_; refine WC_seq ?_; refine WC_seq ?_; refine WC_region ?_; refine WL_val (rn_load na86 rfl ((hS.sat.le leG8).cell (hcq1 0 _ rfl))) rfl ?_; refine WL_val (rn_loadA ag89 (cs := [.int .i64 x0.day, .int .i64 x0.left]) rfl rfl (fun j v hj => hS.sat.cell (hcb6.drop_take 0 2 j v hj))) rfl ?_; refine WL_val (v := (.bool ((lookM (m1) (x0.day, x0.left)).getD false))) (rn_lookup (k := 1) (vv := vvB) (z := false) (a := (x0.day, x0.left)) mp86 (keyOk_I2 in89 fl89) zi4 hO rfl rfl rfl) rfl ?_; refine WL_nil ?_; refine WC_cond rfl (fun hb14 => ?_) (fun hb14 => ?_)
   ·have H := ifT hb14 H; refine WC_seq ?_; refine WC_region ?_; refine WL_op rfl (OpP_store (vs := [.bool false]) sz4 hS hO (k := 0) rfl rfl rfl rfl rfl (one_all rfl) (Nat.le_of_ble_eq_true rfl) (fun w15 hS hO => ?_))
    have hO : Owns G8 w15 B ((⟨4, 1, 1, .slice (some ⟨b9, 0, none⟩) 1 1, [.bool false]⟩ :: ⟨89, 2, (m1).length, .map (some rq1), kvs kvI2 vvB (m1)⟩ :: ⟨32, 1, 1, .slice (some ⟨bq4, 0, none⟩) 1 1, [.slice aq4 nq4 cq4]⟩ :: ⟨47, 2, nq4, .slice aq4 nq4 cq4, clq4⟩ :: Lq)) := hO
    refine WL_nil ?_; refine WC_ret ?_
    have H : some (false, (m1), m4) = some r := H
    have H := Option.some.inj H; subst H; refine ⟨[.bool false], ⟨⟨_, rfl, ld_one na4 (own_cell hO (k := 0) rfl (j := 0) rfl)⟩, trivial⟩, ?_⟩; have hO := hO.drop 0
    have hO : Owns G8 w15 B ((⟨89, 2, (m1).length, .map (some rq1), kvs kvI2 vvB (m1)⟩ :: ⟨32, 1, 1, .slice (some ⟨bq4, 0, none⟩) 1 1, [.slice aq4 nq4 cq4]⟩ :: ⟨47, 2, nq4, .slice aq4 nq4 cq4, clq4⟩ :: Lq)) := hO
    exact ⟨_, _, leG8, hS, hO, aq4, nq4, cq4, clq4, rfl, rfl, hnq4, (hrq4.mono RTShipCall_mono leG8)⟩
   ·have H := ifF hb14 H; refine WC_skip ?_; refine WC_seq ?_; refine WC_label ?_; refine WC_seq ?_; refine WC_seq ?_; refine WC_region ?_; refine WL_val (rn_fld fd89_0 rfl) rfl ?_; refine WL_val (rn_load na3 rfl (hS.sat.cell (hcb6 0 _ rfl))) rfl ?_; refine WL_val (rn_fld fd25_0 rfl) rfl ?_; refine WL_val (rn_load na3 rfl ((hS.sat.le leG8).cell (hcq2 0 _ rfl))) rfl ?_; refine WL_val (rn_add rfl rfl) rfl ?_
    refine WL_op rfl (OpP_newO (v := fun b => .pointer (some ⟨b, 0, none⟩)) (cs := [.int .i64 0]) (e := 3) (by kernel_rfl) hS.sat hO rfl 1 1 rfl (by decide) (fun b16 w17 hb hO => ?_))
    have hS := hS.keep hb; refine WL_op rfl (OpP_store (vs := [.int .i64 (IntKind.i64.wrap (x0.day + x2.Low))]) sz3 hS hO (k := 0) rfl rfl rfl rfl rfl (one_all rfl) (Nat.le_of_ble_eq_true rfl) (fun w19 hS hO => ?_))
    have hO : Owns G8 w19 B ((⟨3, 1, 1, .slice (some ⟨b16, 0, none⟩) 1 1, [.int .i64 (IntKind.i64.wrap (x0.day + x2.Low))]⟩ :: ⟨4, 1, 1, .slice (some ⟨b9, 0, none⟩) 1 1, [.bool false]⟩ :: ⟨89, 2, (m1).length, .map (some rq1), kvs kvI2 vvB (m1)⟩ :: ⟨32, 1, 1, .slice (some ⟨bq4, 0, none⟩) 1 1, [.slice aq4 nq4 cq4]⟩ :: ⟨47, 2, nq4, .slice aq4 nq4 cq4, clq4⟩ :: Lq)) := hO
    refine WL_nil ?_; obtain ⟨q22, hq22, H⟩ := bnd H; refine WC_cut (fun F w => ∃ (p21 : Bool × (List TShipCall) × (List ((Int × Int) × Bool))) (Fb : Fr) (G : Gm) (ap21_0 : Option Addr) (np21_0 cp21_0 : Nat) (clap21_0 : List Value), q22 = .inl p21 ∧ F = upds Fb [(1, .pointer (some ⟨bq1, 0, none⟩)), (6, .pointer (some ⟨b6, 0, none⟩)), (7, .pointer (some ⟨b9, 0, none⟩))] ∧ Gle G8 G ∧ Since B G0 w0 G w ∧ Owns G w B (⟨4, 1, 1, .slice (some ⟨b9, 0, none⟩) 1 1, [.bool p21.1]⟩ :: ⟨89, 2, (p21.2.2).length, .map (some rq1), kvs kvI2 vvB (p21.2.2)⟩ :: ⟨32, 1, 1, .slice (some ⟨bq4, 0, none⟩) 1 1, [.slice ap21_0 np21_0 cp21_0]⟩ :: ⟨47, 2, np21_0, .slice ap21_0 np21_0 cp21_0, clap21_0⟩ :: Lq) ∧ np21_0 = p21.2.1.length ∧ Rd RTShipCall 2 G clap21_0 p21.2.1) ?_ ?_
    ·refine WC_block (WC_loop hq22 (fun s20 F w => ∃ (Fb : Fr) (G : Gm) (bs20_0 : Nat) (as20_1 : Option Addr) (ns20_1 cs20_1 : Nat) (clas20_1 : List Value), F = upds Fb [(1, .pointer (some ⟨bq1, 0, none⟩)), (2, .pointer (some ⟨bq2, 0, none⟩)), (3, .pointer (some ⟨bq3, 0, none⟩)), (4, .pointer (some ⟨bq4, 0, none⟩)), (5, .pointer (some ⟨bq5, 0, none⟩)), (6, .pointer (some ⟨b6, 0, none⟩)), (7, .pointer (some ⟨b9, 0, none⟩)), (8, .pointer (some ⟨bs20_0, 0, none⟩))] ∧ Gle G8 G ∧ Since B G0 w0 G w ∧ Owns G w B (⟨3, 1, 1, .slice (some ⟨bs20_0, 0, none⟩) 1 1, [.int .i64 s20.1]⟩ :: ⟨4, 1, 1, .slice (some ⟨b9, 0, none⟩) 1 1, [.bool s20.2.1]⟩ :: ⟨89, 2, (s20.2.2.2).length, .map (some rq1), kvs kvI2 vvB (s20.2.2.2)⟩ :: ⟨32, 1, 1, .slice (some ⟨bq4, 0, none⟩) 1 1, [.slice as20_1 ns20_1 cs20_1]⟩ :: ⟨47, 2, ns20_1, .slice as20_1 ns20_1 cs20_1, clas20_1⟩ :: Lq) ∧ ns20_1 = s20.2.2.1.length ∧ Rd RTShipCall 2 G clas20_1 s20.2.2.1) ?_ ?_)
     ·have hO : Owns G8 w19 B ((⟨3, 1, 1, .slice (some ⟨b16, 0, none⟩) 1 1, [.int .i64 (IntKind.i64.wrap (x0.day + x2.Low))]⟩ :: ⟨4, 1, 1, .slice (some ⟨b9, 0, none⟩) 1 1, [.bool false]⟩ :: ⟨89, 2, (m1).length, .map (some rq1), kvs kvI2 vvB (m1)⟩ :: ⟨32, 1, 1, .slice (some ⟨bq4, 0, none⟩) 1 1, [.slice aq4 nq4 cq4]⟩ :: ⟨47, 2, nq4, .slice aq4 nq4 cq4, clq4⟩ :: Lq)) := hO
      exact ⟨_, G8, b16, aq4, nq4, cq4, clq4, upds_self _ _ ⟨rfl, rfl, rfl, rfl, rfl, rfl, rfl, rfl, trivial⟩, Gle.refl _, hS, hO, hnq4, (hrq4.mono RTShipCall_mono leG8)⟩
     ·rintro s20 F w24 t23 ⟨Fb, G25, bs20_0, as20_1, ns20_1, cs20_1, clas20_1, rfl, leG25, hS, hO, hnhs20_1, hs20_1⟩
      intro H1 hqq22
      have Hoq22 := H; have H := H1
      unfold f29_b0 at H
      refine WC_seq ?_; refine WC_seq ?_; refine WC_region ?_; refine WL_val (rn_load na3 rfl (own_cell hO (k := 0) rfl (j := 0) rfl)) rfl ?_; refine WL_val (rn_fld fd89_0 rfl) rfl ?_; refine WL_val (rn_load na3 rfl ((hS.sat.le leG25).cell (hcb6 0 _ rfl))) rfl ?_; refine WL_val (rn_fld fd25_1 rfl) rfl ?_
      have l0_2 := leG8.trans leG25
      refine WL_val (rn_load na3 rfl ((hS.sat.le l0_2).cell (hcq2 1 _ rfl))) rfl ?_; refine WL_val (rn_add rfl rfl) rfl ?_; refine WL_val (rn_leq rfl rfl) rfl ?_; refine WL_nil ?_; refine WC_cond rfl (fun hb26 => ?_) (fun hb26 => ?_)
      ·have H := ifT hb26 H; refine WC_skip ?_; refine WC_seq ?_; obtain ⟨q27, hq27, H⟩ := bnd H; refine WC_cut (fun F w => ∃ (p28 : Int × Bool × (List TShipCall) × (List ((Int × Int) × Bool))) (Fb : Fr) (G : Gm) (ap28_0 : Option Addr) (np28_0 cp28_0 : Nat) (clap28_0 : List Value), q27 = .inl p28 ∧ F = upds Fb [(1, .pointer (some ⟨bq1, 0, none⟩)), (2, .pointer (some ⟨bq2, 0, none⟩)), (3, .pointer (some ⟨bq3, 0, none⟩)), (4, .pointer (some ⟨bq4, 0, none⟩)), (5, .pointer (some ⟨bq5, 0, none⟩)), (6, .pointer (some ⟨b6, 0, none⟩)), (7, .pointer (some ⟨b9, 0, none⟩)), (8, .pointer (some ⟨bs20_0, 0, none⟩))] ∧ Gle G25 G ∧ Since B G0 w0 G w ∧ Owns G w B (⟨3, 1, 1, .slice (some ⟨bs20_0, 0, none⟩) 1 1, [.int .i64 p28.1]⟩ :: ⟨4, 1, 1, .slice (some ⟨b9, 0, none⟩) 1 1, [.bool p28.2.1]⟩ :: ⟨89, 2, (p28.2.2.2).length, .map (some rq1), kvs kvI2 vvB (p28.2.2.2)⟩ :: ⟨32, 1, 1, .slice (some ⟨bq4, 0, none⟩) 1 1, [.slice ap28_0 np28_0 cp28_0]⟩ :: ⟨47, 2, np28_0, .slice ap28_0 np28_0 cp28_0, clap28_0⟩ :: Lq) ∧ np28_0 = p28.2.2.1.length ∧ Rd RTShipCall 2 G clap28_0 p28.2.2.1) ?_ ?_
       ·have Hoq27 := H; have H := hq27; refine WC_block ?_; refine WC_seq ?_; refine WC_seq ?_; refine WC_region ?_; refine WL_val (rn_load na3 rfl (own_cell hO (k := 0) rfl (j := 0) rfl)) rfl ?_; refine WL_val (rn_fld fd27_3 rfl) rfl ?_; refine WL_val (rn_load na23 rfl ((hS.sat.le l0_2).cell (hcq3 3 _ rfl))) rfl ?_; refine WL_val (rn_len sl23 rfl rfl (h3.mono RTSpan_mono l0_2).1) rfl ?_; refine WL_val (rn_geq rfl rfl) rfl ?_; refine WL_nil ?_; refine WC_cond rfl (fun hb29 => ?_) (fun hb29 => ?_)
        ·have H := ifT hb29 H; refine WC_exit rfl ?_; have hO := hO.drop 0
         have hO : Owns G25 w24 B ((⟨4, 1, 1, .slice (some ⟨b9, 0, none⟩) 1 1, [.bool s20.2.1]⟩ :: ⟨89, 2, (s20.2.2.2).length, .map (some rq1), kvs kvI2 vvB (s20.2.2.2)⟩ :: ⟨32, 1, 1, .slice (some ⟨bq4, 0, none⟩) 1 1, [.slice as20_1 ns20_1 cs20_1]⟩ :: ⟨47, 2, ns20_1, .slice as20_1 ns20_1 cs20_1, clas20_1⟩ :: Lq)) := hO
         have H := Option.some.inj H; subst H; have H := Hoq27; have H := Option.some.inj H; subst H
         have hres := hqq22 _ rfl
         subst hres
         exact ⟨_, _, G25, as20_1, ns20_1, cs20_1, clas20_1, rfl, upds_self _ _ ⟨rfl, rfl, rfl, trivial⟩, leG25, hS, hO, hnhs20_1, hs20_1⟩
        ·have H := ifF hb29 H; refine WC_skip ?_; refine WC_seq ?_; refine WC_region ?_; refine WL_val (rn_loadA ag27 (cs := [.slice a2 n2 c2, .int .i64 x3.Depth, .int .i64 x3.Draft, .slice a3 n3 c3, .int .i64 x3.Light.Low, .int .i64 x3.Light.High]) rfl rfl (fun j v hj => (hS.sat.le l0_2).cell (hcq3.drop_take 0 6 j v hj))) rfl ?_; refine WL_val (rn_load na3 rfl (own_cell hO (k := 0) rfl (j := 0) rfl)) rfl ?_
         refine WL_val (v := (.agg #[.int .i64 s20.1, .int .i64 0])) (by kernel_rfl) rfl ?_
         refine WL_op rfl (OpP_in1 (N' := 6) [.agg #[.slice a2 n2 c2, .int .i64 x3.Depth, .int .i64 x3.Draft, .slice a3 n3 c3, .int .i64 x3.Light.Low, .int .i64 x3.Light.High], .agg #[.int .i64 s20.1, .int .i64 0]] cb30 Tryz.func30 rfl rfl rfl rfl rfl rfl ?_); refine WC_seq ?_; refine WC_region ?_; refine WL_op rfl (OpP_newF (v := fun b => .pointer (some ⟨b, 0, none⟩)) (cs := [.slice a2 n2 c2, .int .i64 x3.Depth, .int .i64 x3.Draft, .slice a3 n3 c3, .int .i64 x3.Light.Low, .int .i64 x3.Light.High]) (e := 27) (rn_boxA rfl) hS.sat rfl (fun b30 G32 w31 hg hcb30 => ?_)); have hS := hS.grow hg; have hO := hO.grow hg
         have leG32 := hg.le
         refine WL_op rfl (OpP_newF (v := fun b => .pointer (some ⟨b, 0, none⟩)) (cs := [.int .i64 s20.1, .int .i64 0]) (e := 47) (rn_boxA rfl) hS.sat rfl (fun b33 G35 w34 hg hcb33 => ?_)); have hS := hS.grow hg; have hO := hO.grow hg
         have leG35 := hg.le
         refine WL_val (rn_assign (v := .nilFunc) rfl) rfl ?_; refine WL_nil ?_; refine WC_seq ?_; refine WC_region ?_; obtain ⟨y36, hy36, H⟩ := bnd H
         have l0_4 := (l0_2.trans leG32).trans leG35
         have hI37 := f61_ok (x0 := x3) (x1 := (⟨s20.1, 0⟩ : TShipCall)) hcb33 (hcb30.mono leG35) (h2.mono RInt_mono l0_4) (h3.mono RTSpan_mono l0_4) hy36
         refine WL_val (rn_func (vs := []) (us := [.pointer (some ⟨b33, 0, none⟩), .pointer (some ⟨b30, 0, none⟩)]) rfl rfl) rfl ?_; refine WL_val (rn_assign (v := (.func (.func 61) ([]).toArray ([.pointer (some ⟨b33, 0, none⟩), .pointer (some ⟨b30, 0, none⟩)]).toArray)) rfl) rfl ?_; refine WL_nil ?_; refine WC_ret ?_; refine ⟨(.func (.func 61) ([]).toArray ([.pointer (some ⟨b33, 0, none⟩), .pointer (some ⟨b30, 0, none⟩)]).toArray), rfl, ?_⟩
         have hO : Owns G35 w34 B ((⟨3, 1, 1, .slice (some ⟨bs20_0, 0, none⟩) 1 1, [.int .i64 s20.1]⟩ :: ⟨4, 1, 1, .slice (some ⟨b9, 0, none⟩) 1 1, [.bool s20.2.1]⟩ :: ⟨89, 2, (s20.2.2.2).length, .map (some rq1), kvs kvI2 vvB (s20.2.2.2)⟩ :: ⟨32, 1, 1, .slice (some ⟨bq4, 0, none⟩) 1 1, [.slice as20_1 ns20_1 cs20_1]⟩ :: ⟨47, 2, ns20_1, .slice as20_1 ns20_1 cs20_1, clas20_1⟩ :: Lq)) := hO
         refine WL_nil ?_; refine WC_block ?_
         have hO : Owns G35 w34 B ((⟨3, 1, 1, .slice (some ⟨bs20_0, 0, none⟩) 1 1, [.int .i64 s20.1]⟩ :: ⟨4, 1, 1, .slice (some ⟨b9, 0, none⟩) 1 1, [.bool s20.2.1]⟩ :: ⟨89, 2, (s20.2.2.2).length, .map (some rq1), kvs kvI2 vvB (s20.2.2.2)⟩ :: ⟨32, 1, 1, .slice (some ⟨bq4, 0, none⟩) 1 1, [.slice as20_1 ns20_1 cs20_1]⟩ :: ⟨47, 2, ns20_1, .slice as20_1 ns20_1 cs20_1, clas20_1⟩ :: Lq)) := hO
         have l2_4 := leG32.trans leG35
         obtain ⟨q40, hq40, H⟩ := bnd H; refine WC_range (xs := y36) (enc := encC) (bd := f29_b1 rec x0) (fi := []) (ca := [.pointer (some ⟨b33, 0, none⟩), .pointer (some ⟨b30, 0, none⟩)]) cb61 hI37 rfl (fun _ => rfl) rfl hq40 (fun (s38 : Int × Bool × (List TShipCall) × (List ((Int × Int) × Bool))) (G : Gm) (L : List Row) => ∃ (as38_0 : Option Addr) (ns38_0 cs38_0 : Nat) (clas38_0 : List Value), L = (⟨3, 1, 1, .slice (some ⟨bs20_0, 0, none⟩) 1 1, [.int .i64 s38.1]⟩ :: ⟨4, 1, 1, .slice (some ⟨b9, 0, none⟩) 1 1, [.bool s38.2.1]⟩ :: ⟨89, 2, (s38.2.2.2).length, .map (some rq1), kvs kvI2 vvB (s38.2.2.2)⟩ :: ⟨32, 1, 1, .slice (some ⟨bq4, 0, none⟩) 1 1, [.slice as38_0 ns38_0 cs38_0]⟩ :: ⟨47, 2, ns38_0, .slice as38_0 ns38_0 cs38_0, clas38_0⟩ :: Lq) ∧ ns38_0 = s38.2.2.1.length ∧ Rd RTShipCall 2 G clas38_0 s38.2.2.1) (fun (p66 : (Int × Bool × (List TShipCall) × (List ((Int × Int) × Bool))) ⊕ (Int × Bool × (List TShipCall) × (List ((Int × Int) × Bool)))) (c67 : Code) (G : Gm) (L : List Row) => (∃ (s38 : Int × Bool × (List TShipCall) × (List ((Int × Int) × Bool))), ∃ (as38_0 : Option Addr) (ns38_0 cs38_0 : Nat) (clas38_0 : List Value), .inl s38 = p66 ∧ c67 = (.exit 1) ∧ L = (⟨3, 1, 1, .slice (some ⟨bs20_0, 0, none⟩) 1 1, [.int .i64 s38.1]⟩ :: ⟨4, 1, 1, .slice (some ⟨b9, 0, none⟩) 1 1, [.bool s38.2.1]⟩ :: ⟨89, 2, (s38.2.2.2).length, .map (some rq1), kvs kvI2 vvB (s38.2.2.2)⟩ :: ⟨32, 1, 1, .slice (some ⟨bq4, 0, none⟩) 1 1, [.slice as38_0 ns38_0 cs38_0]⟩ :: ⟨47, 2, ns38_0, .slice as38_0 ns38_0 cs38_0, clas38_0⟩ :: Lq) ∧ ns38_0 = s38.2.2.1.length ∧ Rd RTShipCall 2 G clas38_0 s38.2.2.1) ∨ (∃ (s38 : Int × Bool × (List TShipCall) × (List ((Int × Int) × Bool))), ∃ (as38_0 : Option Addr) (ns38_0 cs38_0 : Nat) (clas38_0 : List Value), .inr s38 = p66 ∧ c67 = .ret ∧ L = (⟨3, 1, 1, .slice (some ⟨bs20_0, 0, none⟩) 1 1, [.int .i64 s38.1]⟩ :: ⟨4, 1, 1, .slice (some ⟨b9, 0, none⟩) 1 1, [.bool s38.2.1]⟩ :: ⟨89, 2, (s38.2.2.2).length, .map (some rq1), kvs kvI2 vvB (s38.2.2.2)⟩ :: ⟨32, 1, 1, .slice (some ⟨bq4, 0, none⟩) 1 1, [.slice as38_0 ns38_0 cs38_0]⟩ :: ⟨47, 2, ns38_0, .slice as38_0 ns38_0 cs38_0, clas38_0⟩ :: Lq) ∧ ns38_0 = s38.2.2.1.length ∧ Rd RTShipCall 2 G clas38_0 s38.2.2.1)) ?_ hS hO ⟨as20_1, ns20_1, cs20_1, clas20_1, rfl, hnhs20_1, (hs20_1.mono RTShipCall_mono l2_4)⟩ [1] ?_ ?_ ?_
         ·rintro s38 G1 G2 L hle ⟨as38_0, ns38_0, cs38_0, clas38_0, rfl, hnhs38_0, hs38_0⟩
          exact ⟨as38_0, ns38_0, cs38_0, clas38_0, rfl, hnhs38_0, hs38_0.mono RTShipCall_mono hle⟩
         ·rintro l68 y39 s38 t41 G43 w42 L69 Lx44 leG43 hS hO ⟨as38_0, ns38_0, cs38_0, clas38_0, rfl, hnhs38_0, hs38_0⟩ H1 hqq40
          have hO : Owns G43 w42 B ((⟨3, 1, 1, .slice (some ⟨bs20_0, 0, none⟩) 1 1, [.int .i64 s38.1]⟩ :: ⟨4, 1, 1, .slice (some ⟨b9, 0, none⟩) 1 1, [.bool s38.2.1]⟩ :: ⟨89, 2, (s38.2.2.2).length, .map (some rq1), kvs kvI2 vvB (s38.2.2.2)⟩ :: ⟨32, 1, 1, .slice (some ⟨bq4, 0, none⟩) 1 1, [.slice as38_0 ns38_0 cs38_0]⟩ :: ⟨47, 2, ns38_0, .slice as38_0 ns38_0 cs38_0, clas38_0⟩ :: (Lq ++ Lx44))) := hO
          have Hoq40 := H; have H := H1
          unfold f29_b1 at H
          refine WC_region ?_
          refine WL_op rfl (OpP_newO (v := fun b => .pointer (some ⟨b, 0, none⟩)) (cs := [.int .i64 0, .int .i64 0]) (e := 47) (by kernel_rfl) hS.sat hO rfl 2 1 rfl (by decide) (fun b45 w46 hb hO => ?_))
          have hS := hS.keep hb; refine WL_op rfl (OpP_store (vs := [.int .i64 y39.Day, .int .i64 y39.Hour]) sz47 hS hO (k := 0) rfl rfl rfl rfl rfl (one_all rfl) (Nat.le_of_ble_eq_true rfl) (fun w48 hS hO => ?_))
          have hO : Owns G43 w48 B ((⟨47, 2, 1, .slice (some ⟨b45, 0, none⟩) 1 1, [.int .i64 y39.Day, .int .i64 y39.Hour]⟩ :: ⟨3, 1, 1, .slice (some ⟨bs20_0, 0, none⟩) 1 1, [.int .i64 s38.1]⟩ :: ⟨4, 1, 1, .slice (some ⟨b9, 0, none⟩) 1 1, [.bool s38.2.1]⟩ :: ⟨89, 2, (s38.2.2.2).length, .map (some rq1), kvs kvI2 vvB (s38.2.2.2)⟩ :: ⟨32, 1, 1, .slice (some ⟨bq4, 0, none⟩) 1 1, [.slice as38_0 ns38_0 cs38_0]⟩ :: ⟨47, 2, ns38_0, .slice as38_0 ns38_0 cs38_0, clas38_0⟩ :: (Lq ++ Lx44))) := hO
          obtain ⟨G49, leG49, hS, hO, hqG49, _⟩ := hO.freeze hS (k := 0) rfl
          have hcG49 : Cells G49 b45 0 [.int .i64 y39.Day, .int .i64 y39.Hour] := (hqG49 _ _ _ _ rfl)
          refine WL_nil ?_
          intro w50 hfix
          have hS := hS.fix hfix; have hO := hO.fix hfix; refine WC_block ?_; refine WC_seq ?_; refine WC_seq ?_; refine WC_region ?_; refine WL_val (rn_fld fd47_0 rfl) rfl ?_; refine WL_val (rn_load na3 rfl (hS.sat.cell (hcG49 0 _ rfl))) rfl ?_; refine WL_val (rn_load na3 rfl (own_cell hO (k := 0) rfl (j := 0) rfl)) rfl ?_; refine WL_val (rn_neq rfl rfl) rfl ?_; refine WL_nil ?_; refine WC_cond rfl (fun hb51 => ?_) (fun hb51 => ?_)
          ·have H := ifT hb51 H; refine WC_exit rfl ?_
           have hO : Owns G49 w50 B ((⟨3, 1, 1, .slice (some ⟨bs20_0, 0, none⟩) 1 1, [.int .i64 s38.1]⟩ :: ⟨4, 1, 1, .slice (some ⟨b9, 0, none⟩) 1 1, [.bool s38.2.1]⟩ :: ⟨89, 2, (s38.2.2.2).length, .map (some rq1), kvs kvI2 vvB (s38.2.2.2)⟩ :: ⟨32, 1, 1, .slice (some ⟨bq4, 0, none⟩) 1 1, [.slice as38_0 ns38_0 cs38_0]⟩ :: ⟨47, 2, ns38_0, .slice as38_0 ns38_0 cs38_0, clas38_0⟩ :: (Lq ++ Lx44))) := hO
           have H := Option.some.inj H; subst H
           exact ⟨_, rfl, _, (⟨3, 1, 1, .slice (some ⟨bs20_0, 0, none⟩) 1 1, [.int .i64 s38.1]⟩ :: ⟨4, 1, 1, .slice (some ⟨b9, 0, none⟩) 1 1, [.bool s38.2.1]⟩ :: ⟨89, 2, (s38.2.2.2).length, .map (some rq1), kvs kvI2 vvB (s38.2.2.2)⟩ :: ⟨32, 1, 1, .slice (some ⟨bq4, 0, none⟩) 1 1, [.slice as38_0 ns38_0 cs38_0]⟩ :: ⟨47, 2, ns38_0, .slice as38_0 ns38_0 cs38_0, clas38_0⟩ :: Lq), leG49, hS, hO, Or.inl (⟨_, as38_0, ns38_0, cs38_0, clas38_0, rfl, rfl, rfl, hnhs38_0, (hs38_0.mono RTShipCall_mono leG49)⟩)⟩
          ·have H := ifF hb51 H; refine WC_skip ?_; refine WC_seq ?_; refine WC_region ?_; refine WL_val (rn_load na32 rfl (own_cell hO (k := 3) rfl (j := 0) rfl)) rfl ?_; refine WL_val (rn_loadA ag47 (cs := [.int .i64 y39.Day, .int .i64 y39.Hour]) rfl rfl (fun j v hj => hS.sat.cell (hcG49.drop_take 0 2 j v hj))) rfl ?_
           refine WL_op rfl (OpP_newF (v := fun b => .slice (some ⟨b, 0, none⟩) 1 1) (cs := [.int .i64 y39.Day, .int .i64 y39.Hour]) (e := 47) (by kernel_rfl) hS.sat rfl (fun b52 G54 w53 hg hcb52 => ?_))
           have hS := hS.grow hg; have hO := hO.grow hg
           have leG54 := hg.le
           have hfb52 : RSl RTShipCall 2 G54 (some ⟨b52, 0, none⟩) 1 1 [y39] := RSl.of_rd hcb52 (Rd.cons (c := [.int .i64 y39.Day, .int .i64 y39.Hour]) rfl rfl (Rd.nil RTShipCall 2 _)) rfl (by decide)
           obtain ⟨y55, hy55, H⟩ := bnd H
           have l5_7 := leG49.trans leG54
           refine WL_op rfl (OpP_append (k := 4) sl32 RTShipCall_one hS hO rfl hnhs38_0 (hs38_0.mono RTShipCall_mono l5_7) hfb52 hy55 rfl rfl rfl rfl rfl (fun aw56 cw56 w56 clw56 hS hO hrw56 => ?_))
           have hO : Owns G54 w56 B ((⟨3, 1, 1, .slice (some ⟨bs20_0, 0, none⟩) 1 1, [.int .i64 s38.1]⟩ :: ⟨4, 1, 1, .slice (some ⟨b9, 0, none⟩) 1 1, [.bool s38.2.1]⟩ :: ⟨89, 2, (s38.2.2.2).length, .map (some rq1), kvs kvI2 vvB (s38.2.2.2)⟩ :: ⟨32, 1, 1, .slice (some ⟨bq4, 0, none⟩) 1 1, [.slice as38_0 ns38_0 cs38_0]⟩ :: ⟨47, 2, y55.length, .slice aw56 y55.length cw56, clw56⟩ :: (Lq ++ Lx44))) := hO
           refine WL_op rfl (OpP_store (vs := [.slice aw56 y55.length cw56]) sz32 hS hO (k := 3) rfl rfl rfl rfl rfl (one_all rfl) (Nat.le_of_ble_eq_true rfl) (fun w57 hS hO => ?_))
           have hO : Owns G54 w57 B ((⟨3, 1, 1, .slice (some ⟨bs20_0, 0, none⟩) 1 1, [.int .i64 s38.1]⟩ :: ⟨4, 1, 1, .slice (some ⟨b9, 0, none⟩) 1 1, [.bool s38.2.1]⟩ :: ⟨89, 2, (s38.2.2.2).length, .map (some rq1), kvs kvI2 vvB (s38.2.2.2)⟩ :: ⟨32, 1, 1, .slice (some ⟨bq4, 0, none⟩) 1 1, [.slice aw56 y55.length cw56]⟩ :: ⟨47, 2, y55.length, .slice aw56 y55.length cw56, clw56⟩ :: (Lq ++ Lx44))) := hO
           refine WL_nil ?_; refine WC_seq ?_; refine WC_seq ?_; refine WC_region ?_
           have l0_7 := (l0_4.trans leG43).trans l5_7
           refine WL_val (rn_load na87 rfl ((hS.sat.le l0_7).cell (hcq5 0 _ rfl))) rfl ?_; refine WL_val (rn_load na3 rfl (own_cell hO (k := 0) rfl (j := 0) rfl)) rfl ?_; refine WL_val (rn_fld fd89_1 rfl) rfl ?_
           have l1_7 := (((leG25.trans leG32).trans leG35).trans leG43).trans l5_7
           refine WL_val (rn_load na3 rfl ((hS.sat.le l1_7).cell (hcb6 1 _ rfl))) rfl ?_; refine WL_val (rn_sub rfl rfl) rfl ?_
           refine WL_val (v := (.agg #[.int .i64 s38.1, .int .i64 (IntKind.i64.wrap (x0.left - 1))])) (by kernel_rfl) rfl ?_
           have hO := hO.front (k := 4) rfl; have hO := hO.front (k := 4) rfl; have hO := hO.front (k := 4) rfl
           have hO : Owns G54 w57 B ((⟨89, 2, (s38.2.2.2).length, .map (some rq1), kvs kvI2 vvB (s38.2.2.2)⟩ :: ⟨32, 1, 1, .slice (some ⟨bq4, 0, none⟩) 1 1, [.slice aw56 y55.length cw56]⟩ :: ⟨47, 2, y55.length, .slice aw56 y55.length cw56, clw56⟩ :: ⟨3, 1, 1, .slice (some ⟨bs20_0, 0, none⟩) 1 1, [.int .i64 s38.1]⟩ :: ⟨4, 1, 1, .slice (some ⟨b9, 0, none⟩) 1 1, [.bool s38.2.1]⟩ :: (Lq ++ Lx44))) := hO
           obtain ⟨y58, hy58, H⟩ := bnd H
           refine WL_op rfl (OpP_lent (fi := []) (al := [.agg #[.int .i64 s38.1, .int .i64 (IntKind.i64.wrap (x0.left - 1))]]) (ca := [.pointer (some ⟨bq1, 0, none⟩), .pointer (some ⟨bq2, 0, none⟩), .pointer (some ⟨bq3, 0, none⟩), .pointer (some ⟨bq4, 0, none⟩), .pointer (some ⟨bq5, 0, none⟩)]) cb29 (ih (x0 := (⟨s38.1, IntKind.i64.wrap (x0.left - 1)⟩ : TSpot)) (m1 := (s38.2.2.2)) (m4 := y55) hS hO (hcq1.mono l0_7) (hcq2.mono l0_7) (hcq3.mono l0_7) (hcq5.mono l0_7) (h2.mono RInt_mono l0_7) (h3.mono RTSpan_mono l0_7) rfl hrw56 (by rw [← hrec]; exact hy58)) rfl rfl rfl (fun vG60 G60 w59 L61 leG60 hS hO hvG60 => ?_))
           obtain ⟨aG602, nG602, cG602, clG602, rfl, rfl, hnG602, hrG602⟩ := hvG60
           have hO : Owns G60 w59 B ((⟨89, 2, (y58.2.1).length, .map (some rq1), kvs kvI2 vvB (y58.2.1)⟩ :: ⟨32, 1, 1, .slice (some ⟨bq4, 0, none⟩) 1 1, [.slice aG602 nG602 cG602]⟩ :: ⟨47, 2, nG602, .slice aG602 nG602 cG602, clG602⟩ :: ⟨3, 1, 1, .slice (some ⟨bs20_0, 0, none⟩) 1 1, [.int .i64 s38.1]⟩ :: ⟨4, 1, 1, .slice (some ⟨b9, 0, none⟩) 1 1, [.bool s38.2.1]⟩ :: (Lq ++ Lx44))) := hO
           refine WL_nil ?_; refine WC_cond rfl (fun hb62 => ?_) (fun hb62 => ?_)
           ·have H := ifT hb62 H; refine WC_seq ?_; refine WC_region ?_; refine WL_op rfl (OpP_store (vs := [.bool true]) sz4 hS hO (k := 4) rfl rfl rfl rfl rfl (one_all rfl) (Nat.le_of_ble_eq_true rfl) (fun w63 hS hO => ?_))
            have hO : Owns G60 w63 B ((⟨89, 2, (y58.2.1).length, .map (some rq1), kvs kvI2 vvB (y58.2.1)⟩ :: ⟨32, 1, 1, .slice (some ⟨bq4, 0, none⟩) 1 1, [.slice aG602 nG602 cG602]⟩ :: ⟨47, 2, nG602, .slice aG602 nG602 cG602, clG602⟩ :: ⟨3, 1, 1, .slice (some ⟨bs20_0, 0, none⟩) 1 1, [.int .i64 s38.1]⟩ :: ⟨4, 1, 1, .slice (some ⟨b9, 0, none⟩) 1 1, [.bool true]⟩ :: (Lq ++ Lx44))) := hO
            refine WL_nil ?_; refine WC_ret ?_; have hO := hO.front (k := 2) rfl; have hO := hO.front (k := 2) rfl; have hO := hO.front (k := 2) rfl; have hO := hO.front (k := 4) rfl; have hO := hO.front (k := 4) rfl
            have hO : Owns G60 w63 B ((⟨3, 1, 1, .slice (some ⟨bs20_0, 0, none⟩) 1 1, [.int .i64 s38.1]⟩ :: ⟨4, 1, 1, .slice (some ⟨b9, 0, none⟩) 1 1, [.bool true]⟩ :: ⟨89, 2, (y58.2.1).length, .map (some rq1), kvs kvI2 vvB (y58.2.1)⟩ :: ⟨32, 1, 1, .slice (some ⟨bq4, 0, none⟩) 1 1, [.slice aG602 nG602 cG602]⟩ :: ⟨47, 2, nG602, .slice aG602 nG602 cG602, clG602⟩ :: (Lq ++ Lx44))) := hO
            have hO : Owns G60 w63 B ((⟨3, 1, 1, .slice (some ⟨bs20_0, 0, none⟩) 1 1, [.int .i64 s38.1]⟩ :: ⟨4, 1, 1, .slice (some ⟨b9, 0, none⟩) 1 1, [.bool true]⟩ :: ⟨89, 2, (y58.2.1).length, .map (some rq1), kvs kvI2 vvB (y58.2.1)⟩ :: ⟨32, 1, 1, .slice (some ⟨bq4, 0, none⟩) 1 1, [.slice aG602 nG602 cG602]⟩ :: ⟨47, 2, nG602, .slice aG602 nG602 cG602, clG602⟩ :: (Lq ++ Lx44))) := hO
            have H := Option.some.inj H; subst H
            have l5_8 := l5_7.trans leG60
            exact ⟨_, rfl, _, (⟨3, 1, 1, .slice (some ⟨bs20_0, 0, none⟩) 1 1, [.int .i64 s38.1]⟩ :: ⟨4, 1, 1, .slice (some ⟨b9, 0, none⟩) 1 1, [.bool true]⟩ :: ⟨89, 2, (y58.2.1).length, .map (some rq1), kvs kvI2 vvB (y58.2.1)⟩ :: ⟨32, 1, 1, .slice (some ⟨bq4, 0, none⟩) 1 1, [.slice aG602 nG602 cG602]⟩ :: ⟨47, 2, nG602, .slice aG602 nG602 cG602, clG602⟩ :: Lq), l5_8, hS, hO, Or.inr (⟨_, aG602, nG602, cG602, clG602, rfl, rfl, rfl, hnG602, hrG602⟩)⟩
           ·have H := ifF hb62 H; refine WC_skip ?_; refine WC_seq ?_; refine WC_region ?_; refine WL_val (rn_load na32 rfl (own_cell hO (k := 1) rfl (j := 0) rfl)) rfl ?_; refine WL_val (rn_load na32 rfl (own_cell hO (k := 1) rfl (j := 0) rfl)) rfl ?_; refine WL_val (rn_len (m := y58.2.2.length) sl32 rfl rfl hnG602) rfl ?_; refine WL_val (rn_sub rfl rfl) rfl ?_; obtain ⟨y64, hy64, H⟩ := bnd H; obtain ⟨hl0, hl1, hl2, _⟩ := subL_some hy64
            have hln : nG602 = y58.2.2.length := hnG602
            obtain ⟨_, hnc, ay64, cy64, cly64, hsl, hOy64, hry64⟩ := hO.resl (k := 2) rfl hnG602 hrG602 hy64 rfl
            refine WL_val (v := (.slice ay64 y64.length cy64)) ((rn_sliceH sl32 rfl rfl (by omega) (by omega) hnc _).trans (congrArg (fun v => Result.ok (Next.value v) _) hsl)) rfl ?_
            have hO : Owns G60 w59 B ((⟨89, 2, (y58.2.1).length, .map (some rq1), kvs kvI2 vvB (y58.2.1)⟩ :: ⟨32, 1, 1, .slice (some ⟨bq4, 0, none⟩) 1 1, [.slice aG602 nG602 cG602]⟩ :: ⟨47, 2, y64.length, .slice ay64 y64.length cy64, cly64⟩ :: ⟨3, 1, 1, .slice (some ⟨bs20_0, 0, none⟩) 1 1, [.int .i64 s38.1]⟩ :: ⟨4, 1, 1, .slice (some ⟨b9, 0, none⟩) 1 1, [.bool s38.2.1]⟩ :: (Lq ++ Lx44))) := hOy64
            refine WL_op rfl (OpP_store (vs := [.slice ay64 y64.length cy64]) sz32 hS hO (k := 1) rfl rfl rfl rfl rfl (one_all rfl) (Nat.le_of_ble_eq_true rfl) (fun w65 hS hO => ?_))
            have hO : Owns G60 w65 B ((⟨89, 2, (y58.2.1).length, .map (some rq1), kvs kvI2 vvB (y58.2.1)⟩ :: ⟨32, 1, 1, .slice (some ⟨bq4, 0, none⟩) 1 1, [.slice ay64 y64.length cy64]⟩ :: ⟨47, 2, y64.length, .slice ay64 y64.length cy64, cly64⟩ :: ⟨3, 1, 1, .slice (some ⟨bs20_0, 0, none⟩) 1 1, [.int .i64 s38.1]⟩ :: ⟨4, 1, 1, .slice (some ⟨b9, 0, none⟩) 1 1, [.bool s38.2.1]⟩ :: (Lq ++ Lx44))) := hO
            refine WL_nil ?_; refine WC_exit rfl ?_; have hO := hO.front (k := 2) rfl; have hO := hO.front (k := 2) rfl; have hO := hO.front (k := 2) rfl; have hO := hO.front (k := 4) rfl; have hO := hO.front (k := 4) rfl
            have hO : Owns G60 w65 B ((⟨3, 1, 1, .slice (some ⟨bs20_0, 0, none⟩) 1 1, [.int .i64 s38.1]⟩ :: ⟨4, 1, 1, .slice (some ⟨b9, 0, none⟩) 1 1, [.bool s38.2.1]⟩ :: ⟨89, 2, (y58.2.1).length, .map (some rq1), kvs kvI2 vvB (y58.2.1)⟩ :: ⟨32, 1, 1, .slice (some ⟨bq4, 0, none⟩) 1 1, [.slice ay64 y64.length cy64]⟩ :: ⟨47, 2, y64.length, .slice ay64 y64.length cy64, cly64⟩ :: (Lq ++ Lx44))) := hO
            have hO : Owns G60 w65 B ((⟨3, 1, 1, .slice (some ⟨bs20_0, 0, none⟩) 1 1, [.int .i64 s38.1]⟩ :: ⟨4, 1, 1, .slice (some ⟨b9, 0, none⟩) 1 1, [.bool s38.2.1]⟩ :: ⟨89, 2, (y58.2.1).length, .map (some rq1), kvs kvI2 vvB (y58.2.1)⟩ :: ⟨32, 1, 1, .slice (some ⟨bq4, 0, none⟩) 1 1, [.slice ay64 y64.length cy64]⟩ :: ⟨47, 2, y64.length, .slice ay64 y64.length cy64, cly64⟩ :: (Lq ++ Lx44))) := hO
            have H := Option.some.inj H; subst H
            have l5_8 := l5_7.trans leG60
            exact ⟨_, rfl, _, (⟨3, 1, 1, .slice (some ⟨bs20_0, 0, none⟩) 1 1, [.int .i64 s38.1]⟩ :: ⟨4, 1, 1, .slice (some ⟨b9, 0, none⟩) 1 1, [.bool s38.2.1]⟩ :: ⟨89, 2, (y58.2.1).length, .map (some rq1), kvs kvI2 vvB (y58.2.1)⟩ :: ⟨32, 1, 1, .slice (some ⟨bq4, 0, none⟩) 1 1, [.slice ay64 y64.length cy64]⟩ :: ⟨47, 2, y64.length, .slice ay64 y64.length cy64, cly64⟩ :: Lq), l5_8, hS, hO, Or.inl (⟨_, ay64, y64.length, cy64, cly64, rfl, rfl, rfl, rfl, hry64⟩)⟩
         ·rintro s38 G71 w70 L72 hres leG71 hS hO ⟨as38_0, ns38_0, cs38_0, clas38_0, rfl, hnhs38_0, hs38_0⟩
          subst hres
          have hO : Owns G71 w70 B ((⟨3, 1, 1, .slice (some ⟨bs20_0, 0, none⟩) 1 1, [.int .i64 s38.1]⟩ :: ⟨4, 1, 1, .slice (some ⟨b9, 0, none⟩) 1 1, [.bool s38.2.1]⟩ :: ⟨89, 2, (s38.2.2.2).length, .map (some rq1), kvs kvI2 vvB (s38.2.2.2)⟩ :: ⟨32, 1, 1, .slice (some ⟨bq4, 0, none⟩) 1 1, [.slice as38_0 ns38_0 cs38_0]⟩ :: ⟨47, 2, ns38_0, .slice as38_0 ns38_0 cs38_0, clas38_0⟩ :: Lq)) := hO
          have H := Option.some.inj H; subst H
          have l2_5 := l2_4.trans leG71
          exact ⟨_, _, G71, as38_0, ns38_0, cs38_0, clas38_0, rfl, upds_self _ _ ⟨rfl, rfl, rfl, rfl, rfl, rfl, rfl, rfl, trivial⟩, l2_5, hS, hO, hnhs38_0, hs38_0⟩
         ·rintro _ _ G71z w70z _ hres _ leG71z hS hO (⟨s38, as38_0, ns38_0, cs38_0, clas38_0, rfl, rfl, rfl, hnhs38_0, hs38_0⟩ | ⟨s38, as38_0, ns38_0, cs38_0, clas38_0, rfl, rfl, rfl, hnhs38_0, hs38_0⟩)
          ·subst hres; refine WC_exit rfl ?_
           have hO : Owns G71z w70z B ((⟨3, 1, 1, .slice (some ⟨bs20_0, 0, none⟩) 1 1, [.int .i64 s38.1]⟩ :: ⟨4, 1, 1, .slice (some ⟨b9, 0, none⟩) 1 1, [.bool s38.2.1]⟩ :: ⟨89, 2, (s38.2.2.2).length, .map (some rq1), kvs kvI2 vvB (s38.2.2.2)⟩ :: ⟨32, 1, 1, .slice (some ⟨bq4, 0, none⟩) 1 1, [.slice as38_0 ns38_0 cs38_0]⟩ :: ⟨47, 2, ns38_0, .slice as38_0 ns38_0 cs38_0, clas38_0⟩ :: Lq)) := hO
           have H := Option.some.inj H; subst H
           have l2_5 := l2_4.trans leG71z
           exact ⟨_, _, G71z, as38_0, ns38_0, cs38_0, clas38_0, rfl, upds_self _ _ ⟨rfl, rfl, rfl, rfl, rfl, rfl, rfl, rfl, trivial⟩, l2_5, hS, hO, hnhs38_0, hs38_0⟩
          ·subst hres; refine WC_ret ?_; have H := Option.some.inj H; subst H; have H := Hoq27; have H := Option.some.inj H; subst H
           have hres := hqq22 _ rfl
           subst hres; have H := Hoq22
           have H : some (s38.2.1, (s38.2.2.2), s38.2.2.1) = some r := H
           have H := Option.some.inj H; subst H; refine ⟨[.bool s38.2.1], ⟨⟨_, rfl, ld_one na4 (own_cell hO (k := 1) rfl (j := 0) rfl)⟩, trivial⟩, ?_⟩; have hO := hO.drop 0; have hO := hO.drop 0
           have hO : Owns G71z w70z B ((⟨89, 2, (s38.2.2.2).length, .map (some rq1), kvs kvI2 vvB (s38.2.2.2)⟩ :: ⟨32, 1, 1, .slice (some ⟨bq4, 0, none⟩) 1 1, [.slice as38_0 ns38_0 cs38_0]⟩ :: ⟨47, 2, ns38_0, .slice as38_0 ns38_0 cs38_0, clas38_0⟩ :: Lq)) := hO
           have l0_5 := l0_4.trans leG71z
           exact ⟨_, _, l0_5, hS, hO, as38_0, ns38_0, cs38_0, clas38_0, rfl, rfl, hnhs38_0, hs38_0⟩
       ·rintro F w74 ⟨p28, Fb, G75, ap28_0, np28_0, cp28_0, clap28_0, rfl, rfl, leG75, hS, hO, hnhp28_0, hp28_0⟩
        refine WC_seq ?_; refine WC_seq ?_; refine WC_region ?_; refine WL_val (rn_load na3 rfl (own_cell hO (k := 0) rfl (j := 0) rfl)) rfl ?_; refine WL_nil ?_; refine WC_region ?_
        refine WL_op rfl (OpP_newO (v := fun b => .pointer (some ⟨b, 0, none⟩)) (cs := [.int .i64 0]) (e := 3) (by kernel_rfl) hS.sat hO rfl 1 1 rfl (by decide) (fun b76 w77 hb hO => ?_))
        have hS := hS.keep hb; refine WL_op rfl (OpP_store (vs := [.int .i64 p28.1]) sz3 hS hO (k := 0) rfl rfl rfl rfl rfl (one_all rfl) (Nat.le_of_ble_eq_true rfl) (fun w79 hS hO => ?_))
        have hO : Owns G75 w79 B ((⟨3, 1, 1, .slice (some ⟨b76, 0, none⟩) 1 1, [.int .i64 p28.1]⟩ :: ⟨3, 1, 1, .slice (some ⟨bs20_0, 0, none⟩) 1 1, [.int .i64 p28.1]⟩ :: ⟨4, 1, 1, .slice (some ⟨b9, 0, none⟩) 1 1, [.bool p28.2.1]⟩ :: ⟨89, 2, (p28.2.2.2).length, .map (some rq1), kvs kvI2 vvB (p28.2.2.2)⟩ :: ⟨32, 1, 1, .slice (some ⟨bq4, 0, none⟩) 1 1, [.slice ap28_0 np28_0 cp28_0]⟩ :: ⟨47, 2, np28_0, .slice ap28_0 np28_0 cp28_0, clap28_0⟩ :: Lq)) := hO
        refine WL_nil ?_; refine WC_region ?_; refine WL_val (rn_load na3 rfl (own_cell hO (k := 0) rfl (j := 0) rfl)) rfl ?_; refine WL_val (rn_add rfl rfl) rfl ?_; refine WL_op rfl (OpP_store (vs := [.int .i64 (IntKind.i64.wrap (p28.1 + 1))]) sz3 hS hO (k := 0) rfl rfl rfl rfl rfl (one_all rfl) (Nat.le_of_ble_eq_true rfl) (fun w80 hS hO => ?_))
        have hO : Owns G75 w80 B ((⟨3, 1, 1, .slice (some ⟨b76, 0, none⟩) 1 1, [.int .i64 (IntKind.i64.wrap (p28.1 + 1))]⟩ :: ⟨3, 1, 1, .slice (some ⟨bs20_0, 0, none⟩) 1 1, [.int .i64 p28.1]⟩ :: ⟨4, 1, 1, .slice (some ⟨b9, 0, none⟩) 1 1, [.bool p28.2.1]⟩ :: ⟨89, 2, (p28.2.2.2).length, .map (some rq1), kvs kvI2 vvB (p28.2.2.2)⟩ :: ⟨32, 1, 1, .slice (some ⟨bq4, 0, none⟩) 1 1, [.slice ap28_0 np28_0 cp28_0]⟩ :: ⟨47, 2, np28_0, .slice ap28_0 np28_0 cp28_0, clap28_0⟩ :: Lq)) := hO
        refine WL_nil ?_; have hO := hO.drop 1
        have hO : Owns G75 w80 B ((⟨3, 1, 1, .slice (some ⟨b76, 0, none⟩) 1 1, [.int .i64 (IntKind.i64.wrap (p28.1 + 1))]⟩ :: ⟨4, 1, 1, .slice (some ⟨b9, 0, none⟩) 1 1, [.bool p28.2.1]⟩ :: ⟨89, 2, (p28.2.2.2).length, .map (some rq1), kvs kvI2 vvB (p28.2.2.2)⟩ :: ⟨32, 1, 1, .slice (some ⟨bq4, 0, none⟩) 1 1, [.slice ap28_0 np28_0 cp28_0]⟩ :: ⟨47, 2, np28_0, .slice ap28_0 np28_0 cp28_0, clap28_0⟩ :: Lq)) := hO
        have H := Option.some.inj H; subst H; refine ⟨_, rfl, ?_⟩
        have l1_3 := leG25.trans leG75
        exact ⟨_, G75, b76, ap28_0, np28_0, cp28_0, clap28_0, upds_self _ _ ⟨rfl, rfl, rfl, rfl, rfl, rfl, rfl, rfl, trivial⟩, l1_3, hS, hO, hnhp28_0, hp28_0⟩
      ·have H := ifF hb26 H; refine WC_exit rfl ?_; have hO := hO.drop 0
       have hO : Owns G25 w24 B ((⟨4, 1, 1, .slice (some ⟨b9, 0, none⟩) 1 1, [.bool s20.2.1]⟩ :: ⟨89, 2, (s20.2.2.2).length, .map (some rq1), kvs kvI2 vvB (s20.2.2.2)⟩ :: ⟨32, 1, 1, .slice (some ⟨bq4, 0, none⟩) 1 1, [.slice as20_1 ns20_1 cs20_1]⟩ :: ⟨47, 2, ns20_1, .slice as20_1 ns20_1 cs20_1, clas20_1⟩ :: Lq)) := hO
       have H := Option.some.inj H; subst H
       have hres := hqq22 _ rfl
       subst hres
       exact ⟨_, _, G25, as20_1, ns20_1, cs20_1, clas20_1, rfl, upds_self _ _ ⟨rfl, rfl, rfl, trivial⟩, leG25, hS, hO, hnhs20_1, hs20_1⟩
    ·rintro F w84 ⟨p21, Fb, G85, ap21_0, np21_0, cp21_0, clap21_0, rfl, rfl, leG85, hS, hO, hnhp21_0, hp21_0⟩
     refine WC_seq ?_; refine WC_region ?_
     have l0_2 := leG8.trans leG85
     refine WL_val (rn_load na86 rfl ((hS.sat.le l0_2).cell (hcq1 0 _ rfl))) rfl ?_; refine WL_val (rn_loadA ag89 (cs := [.int .i64 x0.day, .int .i64 x0.left]) rfl rfl (fun j v hj => (hS.sat.le leG85).cell (hcb6.drop_take 0 2 j v hj))) rfl ?_; refine WL_op rfl (OpP_mapUpdate (k := 1) (vv := vvB) (v := true) (a := (x0.day, x0.left)) mp86 (keyOk_I2 in89 fl89) hS hO rfl rfl rfl rfl rfl (fun w86 hS hO => ?_))
     have hO : Owns G85 w86 B ((⟨4, 1, 1, .slice (some ⟨b9, 0, none⟩) 1 1, [.bool p21.1]⟩ :: ⟨89, 2, (updM (p21.2.2) (x0.day, x0.left) true).length, .map (some rq1), kvs kvI2 vvB (updM (p21.2.2) (x0.day, x0.left) true)⟩ :: ⟨32, 1, 1, .slice (some ⟨bq4, 0, none⟩) 1 1, [.slice ap21_0 np21_0 cp21_0]⟩ :: ⟨47, 2, np21_0, .slice ap21_0 np21_0 cp21_0, clap21_0⟩ :: Lq)) := hO
     refine WL_nil ?_; refine WC_seq ?_; refine WC_region ?_; refine WL_op rfl (OpP_store (vs := [.bool false]) sz4 hS hO (k := 0) rfl rfl rfl rfl rfl (one_all rfl) (Nat.le_of_ble_eq_true rfl) (fun w87 hS hO => ?_))
     have hO : Owns G85 w87 B ((⟨4, 1, 1, .slice (some ⟨b9, 0, none⟩) 1 1, [.bool false]⟩ :: ⟨89, 2, (updM (p21.2.2) (x0.day, x0.left) true).length, .map (some rq1), kvs kvI2 vvB (updM (p21.2.2) (x0.day, x0.left) true)⟩ :: ⟨32, 1, 1, .slice (some ⟨bq4, 0, none⟩) 1 1, [.slice ap21_0 np21_0 cp21_0]⟩ :: ⟨47, 2, np21_0, .slice ap21_0 np21_0 cp21_0, clap21_0⟩ :: Lq)) := hO
     refine WL_nil ?_; refine WC_ret ?_
     have H : some (false, (updM (p21.2.2) (x0.day, x0.left) true), p21.2.1) = some r := H
     have H := Option.some.inj H; subst H; refine ⟨[.bool false], ⟨⟨_, rfl, ld_one na4 (own_cell hO (k := 0) rfl (j := 0) rfl)⟩, trivial⟩, ?_⟩; have hO := hO.drop 0
     have hO : Owns G85 w87 B ((⟨89, 2, (updM (p21.2.2) (x0.day, x0.left) true).length, .map (some rq1), kvs kvI2 vvB (updM (p21.2.2) (x0.day, x0.left) true)⟩ :: ⟨32, 1, 1, .slice (some ⟨bq4, 0, none⟩) 1 1, [.slice ap21_0 np21_0 cp21_0]⟩ :: ⟨47, 2, np21_0, .slice ap21_0 np21_0 cp21_0, clap21_0⟩ :: Lq)) := hO
     exact ⟨_, _, l0_2, hS, hO, ap21_0, np21_0, cp21_0, clap21_0, rfl, rfl, hnhp21_0, hp21_0⟩
set_option maxHeartbeats 1000000 in
theorem f8_ok {G0 : Gm} {w0 : World} (hS0 : Sat G0 w0) {x0 : TShipPass} {a1 : Option Addr} {n1 c1 : Nat} {a2 : Option Addr} {n2 c2 : Nat} {x1 : TSpan} {x2 : Int} (h1 : RSl RInt 1 G0 a1 n1 c1 x0.Tides) (h2 : RSl RTSpan 2 G0 a2 n2 c2 x0.Swell) {r : (List TShipCall) × Int} (H : f8 x0 x1 x2 = some r) :
  Calls Tryz.prog 8 #[.agg #[.slice a1 n1 c1, .int .i64 x0.Depth, .int .i64 x0.Draft, .slice a2 n2 c2, .int .i64 x0.Light.Low, .int .i64 x0.Light.High], .agg #[.int .i64 x1.Low, .int .i64 x1.High], .int .i64 x2] w0 (RetG G0 w0 (fun G v => ∃ (ra0 : Option Addr) (rn0 rc0 : Nat), v = .tuple #[.slice ra0 rn0 rc0, .int .i64 r.2] ∧ RSl RTShipCall 2 G ra0 rn0 rc0 r.1)) := by
 have hS := Since.start hS0
 have hO : Owns G0 w0 w0.heap.size [] := Owns.nil (Nat.le_refl _)
 unfold f8 at H
 refine enter2 (N := 32) (shutG _ _ _) Tryz.func8 rfl rfl rfl rfl ?_; refine WC_seq ?_; refine WC_region ?_; refine WL_op rfl (OpP_newF (v := fun b => .pointer (some ⟨b, 0, none⟩)) (cs := [.slice a1 n1 c1, .int .i64 x0.Depth, .int .i64 x0.Draft, .slice a2 n2 c2, .int .i64 x0.Light.Low, .int .i64 x0.Light.High]) (e := 27) (rn_boxA rfl) hS.sat rfl (fun b3 G5 w4 hg hcb3 => ?_)); have hS := hS.grow hg; have hO := hO.grow hg
 have leG5 := hg.le
 refine WL_op rfl (OpP_newF (v := fun b => .pointer (some ⟨b, 0, none⟩)) (cs := [.int .i64 x1.Low, .int .i64 x1.High]) (e := 25) (rn_boxA rfl) hS.sat rfl (fun b6 G8 w7 hg hcb6 => ?_)); have hS := hS.grow hg; have hO := hO.grow hg
 have leG8 := hg.le
 refine WL_val (rn_assign (v := (.slice none 0 0)) rfl) rfl ?_; refine WL_val (rn_assign (v := (.int .i64 0)) rfl) rfl ?_; refine WL_nil ?_; refine WC_seq ?_; refine WC_seq ?_; obtain ⟨q9, hq9, H⟩ := bnd H; refine WC_cut (fun F w => ∃ (Fb : Fr) (G : Gm), F = upds Fb [(2, .int .i64 x2), (3, .pointer (some ⟨b3, 0, none⟩)), (4, .pointer (some ⟨b6, 0, none⟩)), (23, .bool q9)] ∧ Gle G8 G ∧ Since w0.heap.size G0 w0 G w ∧ Owns G w w0.heap.size []) ?_ ?_
 ·have Hoq9 := H; have H := hq9; refine WC_region ?_; refine WL_val (rn_loadA ag27 (cs := [.slice a1 n1 c1, .int .i64 x0.Depth, .int .i64 x0.Draft, .slice a2 n2 c2, .int .i64 x0.Light.Low, .int .i64 x0.Light.High]) rfl rfl (fun j v hj => (hS.sat.le leG8).cell (hcb3.drop_take 0 6 j v hj))) rfl ?_; obtain ⟨y10, hy10, H⟩ := bnd H
  have l0_2 := leG5.trans leG8
  refine WL_op rfl (OpP_callV cb26 (f26_ok (x0 := x0) hS.sat (h1.mono RInt_mono l0_2) (h2.mono RTSpan_mono l0_2) hy10) rfl rfl (fun w11 hb => ?_)); have hS := hS.keep hb; have hO := hO.below hb; refine WL_val (rn_not rfl) rfl ?_; refine WL_val (rn_move (v := (.bool (!y10))) rfl) rfl ?_
  rcases bcases (!y10) with hb12 | hb12
  ·have H := ifT hb12 H; refine WL_guardN rfl hb12 rfl rfl rfl ?_; refine WL_guardN rfl hb12 rfl rfl rfl ?_; refine WL_guardN rfl hb12 rfl rfl rfl ?_; refine WL_val (rn_pickT (v := (.bool true)) rfl hb12 rfl) rfl ?_; refine WL_val (rn_move (v := (.bool true)) rfl) rfl ?_; refine WL_guardN rfl rfl rfl rfl rfl ?_; refine WL_guardN rfl rfl rfl rfl rfl ?_; refine WL_guardN rfl rfl rfl rfl rfl ?_; refine WL_val (rn_pickT (v := (.bool true)) rfl rfl rfl) rfl ?_; refine WL_nil ?_
   have hO : Owns G8 w11 w0.heap.size ([]) := hO
   have H := Option.some.inj H; subst H
   exact ⟨_, G8, upds_self _ _ ⟨rfl, rfl, rfl, rfl, trivial⟩, Gle.refl _, hS, hO⟩
  ·have H := ifF hb12 H; refine WL_guardY rfl hb12 rfl rfl ?_; refine WL_val (rn_loadA ag25 (cs := [.int .i64 x1.Low, .int .i64 x1.High]) rfl rfl (fun j v hj => hS.sat.cell (hcb6.drop_take 0 2 j v hj))) rfl ?_; refine WL_guardY rfl hb12 rfl rfl ?_; obtain ⟨y13, hy13, H⟩ := bnd H; refine WL_op rfl (OpP_callV cb27 (f27_ok (x0 := x1) (x1 := 1) (x2 := 60) hS.sat  hy13) rfl rfl (fun w14 hb => ?_)); have hS := hS.keep hb; have hO := hO.below hb; refine WL_guardY rfl hb12 rfl rfl ?_; refine WL_val (rn_not rfl) rfl ?_; refine WL_val (rn_pickF (v := (.bool (!y13))) rfl hb12 rfl) rfl ?_; refine WL_val (rn_move (v := (.bool (!y13))) rfl) rfl ?_
   rcases bcases (!y13) with hb15 | hb15
   ·have H := ifT hb15 H; refine WL_guardN rfl hb15 rfl rfl rfl ?_; refine WL_guardN rfl hb15 rfl rfl rfl ?_; refine WL_guardN rfl hb15 rfl rfl rfl ?_; refine WL_val (rn_pickT (v := (.bool true)) rfl hb15 rfl) rfl ?_; refine WL_nil ?_
    have hO : Owns G8 w14 w0.heap.size ([]) := hO
    have H := Option.some.inj H; subst H
    exact ⟨_, G8, upds_self _ _ ⟨rfl, rfl, rfl, rfl, trivial⟩, Gle.refl _, hS, hO⟩
   ·have H := ifF hb15 H; refine WL_guardY rfl hb15 rfl rfl ?_; refine WL_val (rn_move (v := (.int .i64 x2)) rfl) rfl ?_; refine WL_guardY rfl hb15 rfl rfl ?_; obtain ⟨y16, hy16, H⟩ := bnd H; refine WL_op rfl (OpP_callV cb28 (f28_ok (x0 := x2) (x1 := 1) (x2 := 8) hS.sat  hy16) rfl rfl (fun w17 hb => ?_)); have hS := hS.keep hb; have hO := hO.below hb; refine WL_guardY rfl hb15 rfl rfl ?_; refine WL_val (rn_not rfl) rfl ?_; refine WL_val (rn_pickF (v := (.bool (!y16))) rfl hb15 rfl) rfl ?_; refine WL_nil ?_
    have hO : Owns G8 w17 w0.heap.size ([]) := hO
    have H := Option.some.inj H; subst H
    exact ⟨_, G8, upds_self _ _ ⟨rfl, rfl, rfl, rfl, trivial⟩, Gle.refl _, hS, hO⟩
 ·rintro F w18 ⟨Fb, G19, rfl, leG19, hS, hO⟩
  refine WC_cond rfl (fun hb20 => ?_) (fun hb20 => ?_)
  ·have H := ifT hb20 H; refine WC_seq ?_; refine WC_region ?_; refine WL_val (rn_assign (v := (.slice none 0 0)) rfl) rfl ?_; refine WL_val (rn_assign (v := (.int .i64 2)) rfl) rfl ?_; refine WL_nil ?_; refine WC_ret ?_
   have H : some ([], 2) = some r := H
   have H := Option.some.inj H; subst H
   exact ⟨_, _, rfl, hS.toGrow, _, _, _, rfl, (RSl.nil RTShipCall 2 G19 none)⟩
  ·have H := ifF hb20 H; refine WC_skip ?_; refine WC_seq ?_; refine WC_region ?_
   refine WL_op rfl (OpP_newO (v := fun b => .pointer (some ⟨b, 0, none⟩)) (cs := [.slice none 0 0]) (e := 32) (by kernel_rfl) hS.sat hO rfl 1 1 rfl (by decide) (fun b21 w22 hb hO => ?_))
   have hS := hS.keep hb; refine WL_nil ?_; refine WC_seq ?_; refine WC_region ?_; refine WL_op rfl (OpP_makeMap (e := 89) hS hO rfl (fun r24 w25 hS hO => ?_))
   have hO : Owns G19 w25 w0.heap.size ([⟨89, 2, ([] : (List ((Int × Int) × Bool))).length, .map (some r24), kvs kvI2 vvB ([] : (List ((Int × Int) × Bool)))⟩, ⟨32, 1, 1, .slice (some ⟨b21, 0, none⟩) 1 1, [.slice none 0 0]⟩]) := hO
   refine WL_op rfl (OpP_newO (v := fun b => .pointer (some ⟨b, 0, none⟩)) (cs := [.map none]) (e := 86) (by kernel_rfl) hS.sat hO rfl 1 1 rfl (by decide) (fun b27 w28 hb hO => ?_))
   have hS := hS.keep hb; refine WL_op rfl (OpP_store (vs := [.map (some r24)]) sz86 hS hO (k := 0) rfl rfl rfl rfl rfl (one_all rfl) (Nat.le_of_ble_eq_true rfl) (fun w30 hS hO => ?_))
   have hO : Owns G19 w30 w0.heap.size ([⟨86, 1, 1, .slice (some ⟨b27, 0, none⟩) 1 1, [.map (some r24)]⟩, ⟨89, 2, ([] : (List ((Int × Int) × Bool))).length, .map (some r24), kvs kvI2 vvB ([] : (List ((Int × Int) × Bool)))⟩, ⟨32, 1, 1, .slice (some ⟨b21, 0, none⟩) 1 1, [.slice none 0 0]⟩]) := hO
   obtain ⟨G31, leG31, hS, hO, hqG31, _⟩ := hO.freeze hS (k := 0) rfl
   have hcG31 : Cells G31 b27 0 [.map (some r24)] := (hqG31 _ _ _ _ rfl)
   refine WL_nil ?_; refine WC_seq ?_; refine WC_region ?_
   refine WL_op rfl (OpP_newO (v := fun b => .pointer (some ⟨b, 0, none⟩)) (cs := [.nilFunc]) (e := 87) (by kernel_rfl) hS.sat hO rfl 1 1 rfl (by decide) (fun b32 w33 hb hO => ?_))
   have hS := hS.keep hb; refine WL_nil ?_; refine WC_seq ?_; refine WC_region ?_; have hO := hO.cons_nil 47 2; refine WL_val (v := (.func (.func 29) (([] : List Value)).toArray ([.pointer (some ⟨b27, 0, none⟩), .pointer (some ⟨b6, 0, none⟩), .pointer (some ⟨b3, 0, none⟩), .pointer (some ⟨b21, 0, none⟩), .pointer (some ⟨b32, 0, none⟩)] : List Value).toArray)) (rn_func (vs := []) (us := [.pointer (some ⟨b27, 0, none⟩), .pointer (some ⟨b6, 0, none⟩), .pointer (some ⟨b3, 0, none⟩), .pointer (some ⟨b21, 0, none⟩), .pointer (some ⟨b32, 0, none⟩)]) rfl rfl) rfl ?_; refine WL_op rfl (OpP_store (vs := [.func (.func 29) (([] : List Value)).toArray ([.pointer (some ⟨b27, 0, none⟩), .pointer (some ⟨b6, 0, none⟩), .pointer (some ⟨b3, 0, none⟩), .pointer (some ⟨b21, 0, none⟩), .pointer (some ⟨b32, 0, none⟩)] : List Value).toArray]) sz87 hS hO (k := 1) rfl rfl rfl rfl rfl (one_all rfl) (Nat.le_of_ble_eq_true rfl) (fun w36 hS hO => ?_))
   have hO : Owns G31 w36 w0.heap.size ([⟨47, 2, 0, .slice none 0 0, []⟩, ⟨87, 1, 1, .slice (some ⟨b32, 0, none⟩) 1 1, [.func (.func 29) (([] : List Value)).toArray ([.pointer (some ⟨b27, 0, none⟩), .pointer (some ⟨b6, 0, none⟩), .pointer (some ⟨b3, 0, none⟩), .pointer (some ⟨b21, 0, none⟩), .pointer (some ⟨b32, 0, none⟩)] : List Value).toArray]⟩, ⟨89, 2, ([] : (List ((Int × Int) × Bool))).length, .map (some r24), kvs kvI2 vvB ([] : (List ((Int × Int) × Bool)))⟩, ⟨32, 1, 1, .slice (some ⟨b21, 0, none⟩) 1 1, [.slice none 0 0]⟩]) := hO
   obtain ⟨G37, leG37, hS, hO, hqG37, _⟩ := hO.freeze hS (k := 1) rfl
   have hcG37 : Cells G37 b32 0 [.func (.func 29) (([] : List Value)).toArray ([.pointer (some ⟨b27, 0, none⟩), .pointer (some ⟨b6, 0, none⟩), .pointer (some ⟨b3, 0, none⟩), .pointer (some ⟨b21, 0, none⟩), .pointer (some ⟨b32, 0, none⟩)] : List Value).toArray] := (hqG37 _ _ _ _ rfl)
   refine WL_nil ?_; refine WC_seq ?_; refine WC_seq ?_; refine WC_region ?_; refine WL_val (rn_load na87 rfl (hS.sat.cell (hcG37 0 _ rfl))) rfl ?_; refine WL_val (rn_move (v := (.int .i64 x2)) rfl) rfl ?_
   refine WL_val (v := (.agg #[.int .i64 0, .int .i64 x2])) (by kernel_rfl) rfl ?_
   have hO := hO.front (k := 0) rfl; have hO := hO.front (k := 2) rfl; have hO := hO.front (k := 2) rfl
   have hO : Owns G37 w36 w0.heap.size ([⟨89, 2, ([] : (List ((Int × Int) × Bool))).length, .map (some r24), kvs kvI2 vvB ([] : (List ((Int × Int) × Bool)))⟩, ⟨32, 1, 1, .slice (some ⟨b21, 0, none⟩) 1 1, [.slice none 0 0]⟩, ⟨47, 2, 0, .slice none 0 0, []⟩]) := hO
   have l2_5 := (leG19.trans leG31).trans leG37
   have l1_5 := leG8.trans l2_5
   have l0_5 := leG5.trans l1_5
   obtain ⟨y38, hy38, H⟩ := bnd H; refine WL_op rfl (OpP_lent (fi := []) (al := [.agg #[.int .i64 0, .int .i64 x2]]) (ca := [.pointer (some ⟨b27, 0, none⟩), .pointer (some ⟨b6, 0, none⟩), .pointer (some ⟨b3, 0, none⟩), .pointer (some ⟨b21, 0, none⟩), .pointer (some ⟨b32, 0, none⟩)]) cb29 (f29_ok _ (x0 := (⟨0, x2⟩ : TSpot)) (m1 := ([] : (List ((Int × Int) × Bool)))) (m4 := []) hS hO (hcG31.mono leG37) (hcb6.mono l2_5) (hcb3.mono l1_5) hcG37 (h1.mono RInt_mono l0_5) (h2.mono RTSpan_mono l0_5) rfl ((Rd.nil RTShipCall 2 G31).mono RTShipCall_mono leG37) hy38) rfl rfl rfl (fun vG40 G40 w39 L41 leG40 hS hO hvG40 => ?_)); obtain ⟨aG402, nG402, cG402, clG402, rfl, rfl, hnG402, hrG402⟩ := hvG40
   have hO : Owns G40 w39 w0.heap.size ([⟨89, 2, (y38.2.1).length, .map (some r24), kvs kvI2 vvB (y38.2.1)⟩, ⟨32, 1, 1, .slice (some ⟨b21, 0, none⟩) 1 1, [.slice aG402 nG402 cG402]⟩, ⟨47, 2, nG402, .slice aG402 nG402 cG402, clG402⟩]) := hO
   refine WL_val (rn_not rfl) rfl ?_; refine WL_nil ?_; refine WC_cond rfl (fun hb42 => ?_) (fun hb42 => ?_)
   ·have H := ifT hb42 H; refine WC_seq ?_; refine WC_region ?_; refine WL_val (rn_assign (v := (.slice none 0 0)) rfl) rfl ?_; refine WL_val (rn_assign (v := (.int .i64 5)) rfl) rfl ?_; refine WL_nil ?_; refine WC_ret ?_
    have H : some ([], 5) = some r := H
    have H := Option.some.inj H; subst H
    exact ⟨_, _, rfl, hS.toGrow, _, _, _, rfl, (RSl.nil RTShipCall 2 G40 none)⟩
   ·have H := ifF hb42 H; refine WC_skip ?_; refine WC_seq ?_; refine WC_region ?_; refine WL_val (rn_load na32 rfl (own_cell hO (k := 1) rfl (j := 0) rfl)) rfl ?_; refine WL_val (rn_assign (v := (.slice aG402 nG402 cG402)) rfl) rfl ?_; refine WL_val (rn_assign (v := (.int .i64 0)) rfl) rfl ?_; refine WL_nil ?_; refine WC_ret ?_; obtain ⟨G43, leG43, hS, hO, hfG43⟩ := hO.freezeS hS RTShipCall_mono (k := 2) rfl hrG402 hnG402
    have H : some (y38.2.2, 0) = some r := H
    have H := Option.some.inj H; subst H
    exact ⟨_, _, rfl, hS.toGrow, _, _, _, rfl, hfG43⟩
set_option maxHeartbeats 1000000 in
theorem f63_ok {G0 : Gm} {w0 : World} (hS0 : Sat G0 w0) {x0 : TShipPass} {a1 : Option Addr} {n1 c1 : Nat} {a2 : Option Addr} {n2 c2 : Nat} {x1 : Int} (h1 : RSl RInt 1 G0 a1 n1 c1 x0.Tides) (h2 : RSl RTSpan 2 G0 a2 n2 c2 x0.Swell) {r : Bool} (H : f63 x0 x1 = some r) :
  Calls Tryz.prog 63 #[.agg #[.slice a1 n1 c1, .int .i64 x0.Depth, .int .i64 x0.Draft, .slice a2 n2 c2, .int .i64 x0.Light.Low, .int .i64 x0.Light.High], .int .i64 x1] w0 (RetV w0 (.bool r)) := by
 have hS := Since.start hS0
 have hO : Owns G0 w0 w0.heap.size [] := Owns.nil (Nat.le_refl _)
 unfold f63 at H
 refine enter1 (N := 11) (shutV _ _) Tryz.func63 rfl rfl rfl rfl ?_; refine WC_seq ?_; refine WC_region ?_; refine WL_op rfl (OpP_newF (v := fun b => .pointer (some ⟨b, 0, none⟩)) (cs := [.slice a1 n1 c1, .int .i64 x0.Depth, .int .i64 x0.Draft, .slice a2 n2 c2, .int .i64 x0.Light.Low, .int .i64 x0.Light.High]) (e := 27) (rn_boxA rfl) hS.sat rfl (fun b3 G5 w4 hg hcb3 => ?_)); have hS := hS.grow hg; have hO := hO.grow hg
 have leG5 := hg.le
 refine WL_val (rn_assign (v := (.bool false)) rfl) rfl ?_; refine WL_nil ?_; refine WC_seq ?_; refine WC_region ?_; refine WL_val (rn_move (v := (.int .i64 x1)) rfl) rfl ?_; refine WL_val (rn_fld fd27_3 rfl) rfl ?_; refine WL_val (rn_load na23 rfl (hS.sat.cell (hcb3 3 _ rfl))) rfl ?_; refine WL_val (rn_len sl23 rfl rfl (h2.mono RTSpan_mono leG5).1) rfl ?_; refine WL_val (rn_sub rfl rfl) rfl ?_; obtain ⟨y6, hy6, H⟩ := bnd H; refine WL_op rfl (OpP_callV cb14 (f14_ok (x0 := x1) (x1 := 0) (x2 := IntKind.i64.wrap ((x0.Swell.length : Int) - 1)) hS.sat  hy6) rfl rfl (fun w7 hb => ?_)); have hS := hS.keep hb; have hO := hO.below hb; refine WL_val (rn_assign (v := (.bool y6)) rfl) rfl ?_; refine WL_nil ?_; refine WC_ret ?_
 have H : some y6 = some r := H
 have H := Option.some.inj H; subst H
 exact ⟨rfl, hS.below⟩
set_option maxHeartbeats 1000000 in
theorem f31_ok {G0 : Gm} {w0 : World} (hS0 : Sat G0 w0) {x0 : TShipPass} {a1 : Option Addr} {n1 c1 : Nat} {a2 : Option Addr} {n2 c2 : Nat} {x1 : TShipCall} (h1 : RSl RInt 1 G0 a1 n1 c1 x0.Tides) (h2 : RSl RTSpan 2 G0 a2 n2 c2 x0.Swell) {r : Bool} (H : f31 x0 x1 = some r) :
  Calls Tryz.prog 31 #[.agg #[.slice a1 n1 c1, .int .i64 x0.Depth, .int .i64 x0.Draft, .slice a2 n2 c2, .int .i64 x0.Light.Low, .int .i64 x0.Light.High], .agg #[.int .i64 x1.Day, .int .i64 x1.Hour]] w0 (RetV w0 (.bool r)) := by
 have hS := Since.start hS0
 have hO : Owns G0 w0 w0.heap.size [] := Owns.nil (Nat.le_refl _)
 unfold f31 at H
 refine enter1 (N := 14) (shutV _ _) Tryz.func31 rfl rfl rfl rfl ?_; refine WC_seq ?_; refine WC_region ?_; refine WL_op rfl (OpP_newF (v := fun b => .pointer (some ⟨b, 0, none⟩)) (cs := [.slice a1 n1 c1, .int .i64 x0.Depth, .int .i64 x0.Draft, .slice a2 n2 c2, .int .i64 x0.Light.Low, .int .i64 x0.Light.High]) (e := 27) (rn_boxA rfl) hS.sat rfl (fun b3 G5 w4 hg hcb3 => ?_)); have hS := hS.grow hg; have hO := hO.grow hg
 have leG5 := hg.le
 refine WL_op rfl (OpP_newF (v := fun b => .pointer (some ⟨b, 0, none⟩)) (cs := [.int .i64 x1.Day, .int .i64 x1.Hour]) (e := 47) (rn_boxA rfl) hS.sat rfl (fun b6 G8 w7 hg hcb6 => ?_)); have hS := hS.grow hg; have hO := hO.grow hg
 have leG8 := hg.le
 refine WL_val (rn_assign (v := (.bool false)) rfl) rfl ?_; refine WL_nil ?_; refine WC_seq ?_; obtain ⟨q9, hq9, H⟩ := bnd H; refine WC_cut (fun F w => ∃ (Fb : Fr) (G : Gm), F = upds Fb [(4, .bool q9)] ∧ Gle G8 G ∧ Since w0.heap.size G0 w0 G w ∧ Owns G w w0.heap.size []) ?_ ?_
 ·have Hoq9 := H; have H := hq9; refine WC_region ?_; refine WL_val (rn_loadA ag27 (cs := [.slice a1 n1 c1, .int .i64 x0.Depth, .int .i64 x0.Draft, .slice a2 n2 c2, .int .i64 x0.Light.Low, .int .i64 x0.Light.High]) rfl rfl (fun j v hj => (hS.sat.le leG8).cell (hcb3.drop_take 0 6 j v hj))) rfl ?_; refine WL_val (rn_fld fd47_0 rfl) rfl ?_; refine WL_val (rn_load na3 rfl (hS.sat.cell (hcb6 0 _ rfl))) rfl ?_; obtain ⟨y10, hy10, H⟩ := bnd H
  have l0_2 := leG5.trans leG8
  refine WL_op rfl (OpP_callV cb63 (f63_ok (x0 := x0) (x1 := x1.Day) hS.sat (h1.mono RInt_mono l0_2) (h2.mono RTSpan_mono l0_2) hy10) rfl rfl (fun w11 hb => ?_)); have hS := hS.keep hb; have hO := hO.below hb; refine WL_val (rn_move (v := (.bool y10)) rfl) rfl ?_
  rcases bcases y10 with hb12 | hb12
  ·have H := ifT hb12 H; refine WL_guardY rfl hb12 rfl rfl ?_; refine WL_val (rn_fld fd47_1 rfl) rfl ?_; refine WL_guardY rfl hb12 rfl rfl ?_; refine WL_val (rn_load na3 rfl (hS.sat.cell (hcb6 1 _ rfl))) rfl ?_; refine WL_guardY rfl hb12 rfl rfl ?_; obtain ⟨y13, hy13, H⟩ := bnd H; refine WL_op rfl (OpP_callV cb14 (f14_ok (x0 := x1.Hour) (x1 := 0) (x2 := 23) hS.sat  hy13) rfl rfl (fun w14 hb => ?_)); have hS := hS.keep hb; have hO := hO.below hb; refine WL_val (rn_pickT (v := (.bool y13)) rfl hb12 rfl) rfl ?_; refine WL_val (rn_assign (v := (.bool y13)) rfl) rfl ?_; refine WL_nil ?_
   have hO : Owns G8 w14 w0.heap.size ([]) := hO
   have H := Option.some.inj H; subst H
   exact ⟨_, G8, upds_self _ _ ⟨rfl, trivial⟩, Gle.refl _, hS, hO⟩
  ·have H := ifF hb12 H; refine WL_guardN rfl hb12 rfl rfl rfl ?_; refine WL_guardN rfl hb12 rfl rfl rfl ?_; refine WL_guardN rfl hb12 rfl rfl rfl ?_; refine WL_val (rn_pickF (v := (.bool false)) rfl hb12 rfl) rfl ?_; refine WL_val (rn_assign (v := (.bool false)) rfl) rfl ?_; refine WL_nil ?_
   have hO : Owns G8 w11 w0.heap.size ([]) := hO
   have H := Option.some.inj H; subst H
   exact ⟨_, G8, upds_self _ _ ⟨rfl, trivial⟩, Gle.refl _, hS, hO⟩
 ·rintro F w15 ⟨Fb, G16, rfl, leG16, hS, hO⟩
  refine WC_ret ?_
  have H : some q9 = some r := H
  have H := Option.some.inj H; subst H
  exact ⟨rfl, hS.below⟩
set_option maxHeartbeats 1000000 in
theorem f64_ok {G0 : Gm} {w0 : World} (hS0 : Sat G0 w0) {x0 : TShipPass} {a1 : Option Addr} {n1 c1 : Nat} {a2 : Option Addr} {n2 c2 : Nat} {x1 : TShipCall} {x2 : Int} (h1 : RSl RInt 1 G0 a1 n1 c1 x0.Tides) (h2 : RSl RTSpan 2 G0 a2 n2 c2 x0.Swell) {r : Bool} (H : f64 x0 x1 x2 = some r) :
  Calls Tryz.prog 64 #[.agg #[.slice a1 n1 c1, .int .i64 x0.Depth, .int .i64 x0.Draft, .slice a2 n2 c2, .int .i64 x0.Light.Low, .int .i64 x0.Light.High], .agg #[.int .i64 x1.Day, .int .i64 x1.Hour], .int .i64 x2] w0 (RetV w0 (.bool r)) := by
 have hS := Since.start hS0
 have hO : Owns G0 w0 w0.heap.size [] := Owns.nil (Nat.le_refl _)
 unfold f64 at H
 refine enter1 (N := 42) (shutV _ _) Tryz.func64 rfl rfl rfl rfl ?_; refine WC_seq ?_; refine WC_region ?_; refine WL_op rfl (OpP_newF (v := fun b => .pointer (some ⟨b, 0, none⟩)) (cs := [.slice a1 n1 c1, .int .i64 x0.Depth, .int .i64 x0.Draft, .slice a2 n2 c2, .int .i64 x0.Light.Low, .int .i64 x0.Light.High]) (e := 27) (rn_boxA rfl) hS.sat rfl (fun b3 G5 w4 hg hcb3 => ?_)); have hS := hS.grow hg; have hO := hO.grow hg
 have leG5 := hg.le
 refine WL_op rfl (OpP_newF (v := fun b => .pointer (some ⟨b, 0, none⟩)) (cs := [.int .i64 x1.Day, .int .i64 x1.Hour]) (e := 47) (rn_boxA rfl) hS.sat rfl (fun b6 G8 w7 hg hcb6 => ?_)); have hS := hS.grow hg; have hO := hO.grow hg
 have leG8 := hg.le
 refine WL_val (rn_assign (v := (.bool false)) rfl) rfl ?_; refine WL_nil ?_; refine WC_seq ?_; have hS := hS.keep (below_drew _); have hO := hO.below (below_drew _)
 refine WC_regionD mixedO (fun _ w => Sat G8 w ∧ True) (.fl 0 (.fl 1 (.fl 2 (.fl 3 (.fl 4 (.fl 5 (.fl 6 (.fl 7 (.on 8 (.on 9 (.on 10 (.on 11 (.on 12 (.on 13 (.on 14 .nil))))))))))))))) (by kernel_rfl) rfl (by kernel_rfl) (fun _ => ⟨hS.sat, trivial⟩) ?_
 refine WD_val rfl (fun w hw => rn_fld fd27_0 rfl) rfl ?_; refine WD_val rfl (fun w hw => rn_load na22 rfl ((hw.1.le leG8).cell (hcb3 0 _ rfl))) rfl ?_; refine WD_val rfl (fun w hw => rn_fld fd47_0 rfl) rfl ?_; refine WD_val rfl (fun w hw => rn_load na3 rfl (hw.1.cell (hcb6 0 _ rfl))) rfl ?_; refine WD_val rfl (fun w hw => rn_mul rfl rfl) rfl ?_; refine WD_val rfl (fun w hw => rn_fld fd47_1 rfl) rfl ?_; refine WD_val rfl (fun w hw => rn_load na3 rfl (hw.1.cell (hcb6 1 _ rfl))) rfl ?_; refine WD_val rfl (fun w hw => rn_add rfl rfl) rfl ?_; refine WD_op rfl rfl (OpP_val (rn_fld fd27_0 rfl) rfl ?_); refine ⟨fun _ _ => ⟨hS.sat, trivial⟩, ?_⟩; refine WD_op rfl rfl (OpP_val (rn_load na22 rfl ((hS.sat.le leG8).cell (hcb3 0 _ rfl))) rfl ?_); refine ⟨fun _ _ => ⟨hS.sat, trivial⟩, ?_⟩
 have l0_2 := leG5.trans leG8
 refine WD_op rfl rfl (OpP_val (rn_len sl22 rfl rfl (h1.mono RInt_mono l0_2).1) rfl ?_); refine ⟨fun _ _ => ⟨hS.sat, trivial⟩, ?_⟩; obtain ⟨y9, hy9, H⟩ := bnd H; refine WD_op rfl rfl (OpP_val (rn_remV rfl rfl hy9) rfl ?_); refine ⟨fun _ _ => ⟨hS.sat, trivial⟩, ?_⟩; obtain ⟨y10, hy10, H⟩ := bnd H; refine WD_op rfl rfl (OpP_idx sl22 (h1.mono RInt_mono l0_2) hy10 rfl rfl rfl ?_)
 rintro b11 o11 _ hcb11 _ ⟨⟩
 refine ⟨fun _ h => noneed (by kernel_rfl) h, ?_⟩
 refine WD_op rfl rfl (OpP_val (rn_load na3 rfl (hS.sat.cell (hcb11 0 _ rfl))) rfl ?_)
 refine ⟨fun _ h => noneed (by kernel_rfl) h, ?_⟩
 refine WD_op rfl rfl (OpP_val (rn_assign (v := (.int .i64 y10)) rfl) rfl ?_)
 refine ⟨fun _ h => noneed (by kernel_rfl) h, ?_⟩
 refine WD_nil ?_; refine WC_seq ?_; obtain ⟨q12, hq12, H⟩ := bnd H; refine WC_cut (fun F w => ∃ (Fb : Fr) (G : Gm), F = upds Fb [(6, .bool q12)] ∧ Gle G8 G ∧ Since w0.heap.size G0 w0 G w ∧ Owns G w w0.heap.size []) ?_ ?_
 ·have Hoq12 := H; have H := hq12; refine WC_region ?_; refine WL_val (rn_fld fd47_1 rfl) rfl ?_; refine WL_val (rn_load na3 rfl (hS.sat.cell (hcb6 1 _ rfl))) rfl ?_; refine WL_val (rn_fld fd27_4 rfl) rfl ?_; refine WL_val (rn_fld fd25_0 rfl) rfl ?_; refine WL_val (rn_load na3 rfl ((hS.sat.le leG8).cell (hcb3 4 _ rfl))) rfl ?_; refine WL_val (rn_fld fd27_4 rfl) rfl ?_; refine WL_val (rn_fld fd25_1 rfl) rfl ?_; refine WL_val (rn_load na3 rfl ((hS.sat.le leG8).cell (hcb3 5 _ rfl))) rfl ?_; obtain ⟨y13, hy13, H⟩ := bnd H; refine WL_op rfl (OpP_callV cb14 (f14_ok (x0 := x1.Hour) (x1 := x0.Light.Low) (x2 := x0.Light.High) hS.sat  hy13) rfl rfl (fun w14 hb => ?_)); have hS := hS.keep hb; have hO := hO.below hb; refine WL_val (rn_move (v := (.bool y13)) rfl) rfl ?_
  rcases bcases y13 with hb15 | hb15
  ·have H := ifT hb15 H; refine WL_guardY rfl hb15 rfl rfl ?_; refine WL_val (rn_fld fd27_1 rfl) rfl ?_; refine WL_guardY rfl hb15 rfl rfl ?_; refine WL_val (rn_load na3 rfl ((hS.sat.le leG8).cell (hcb3 1 _ rfl))) rfl ?_; refine WL_guardY rfl hb15 rfl rfl ?_; refine WL_val (rn_move (v := (.int .i64 y10)) rfl) rfl ?_; refine WL_guardY rfl hb15 rfl rfl ?_; refine WL_val (rn_add rfl rfl) rfl ?_; refine WL_guardY rfl hb15 rfl rfl ?_; refine WL_val (rn_move (v := (.int .i64 x2)) rfl) rfl ?_; refine WL_guardY rfl hb15 rfl rfl ?_; refine WL_val (rn_sub rfl rfl) rfl ?_; refine WL_guardY rfl hb15 rfl rfl ?_; refine WL_val (rn_fld fd27_2 rfl) rfl ?_; refine WL_guardY rfl hb15 rfl rfl ?_; refine WL_val (rn_load na3 rfl ((hS.sat.le leG8).cell (hcb3 2 _ rfl))) rfl ?_; refine WL_guardY rfl hb15 rfl rfl ?_; refine WL_val (rn_geq rfl rfl) rfl ?_; refine WL_val (rn_pickT (v := (.bool (decide (x0.Draft ≤ (IntKind.i64.wrap ((IntKind.i64.wrap (x0.Depth + y10)) - x2)))))) rfl hb15 rfl) rfl ?_; refine WL_val (rn_assign (v := (.bool (decide (x0.Draft ≤ (IntKind.i64.wrap ((IntKind.i64.wrap (x0.Depth + y10)) - x2)))))) rfl) rfl ?_; refine WL_nil ?_
   have hO : Owns G8 w14 w0.heap.size ([]) := hO
   have H := Option.some.inj H; subst H
   exact ⟨_, G8, upds_self _ _ ⟨rfl, trivial⟩, Gle.refl _, hS, hO⟩
  ·have H := ifF hb15 H; refine WL_guardN rfl hb15 rfl rfl rfl ?_; refine WL_guardN rfl hb15 rfl rfl rfl ?_; refine WL_guardN rfl hb15 rfl rfl rfl ?_; refine WL_guardN rfl hb15 rfl rfl rfl ?_; refine WL_guardN rfl hb15 rfl rfl rfl ?_; refine WL_guardN rfl hb15 rfl rfl rfl ?_; refine WL_guardN rfl hb15 rfl rfl rfl ?_; refine WL_guardN rfl hb15 rfl rfl rfl ?_; refine WL_guardN rfl hb15 rfl rfl rfl ?_; refine WL_val (rn_pickF (v := (.bool false)) rfl hb15 rfl) rfl ?_; refine WL_val (rn_assign (v := (.bool false)) rfl) rfl ?_; refine WL_nil ?_
   have hO : Owns G8 w14 w0.heap.size ([]) := hO
   have H := Option.some.inj H; subst H
   exact ⟨_, G8, upds_self _ _ ⟨rfl, trivial⟩, Gle.refl _, hS, hO⟩
 ·rintro F w16 ⟨Fb, G17, rfl, leG17, hS, hO⟩
  refine WC_ret ?_
  have H : some q12 = some r := H
  have H := Option.some.inj H; subst H
  exact ⟨rfl, hS.below⟩
set_option maxHeartbeats 1000000 in
theorem f32_ok {G0 : Gm} {w0 : World} (hS0 : Sat G0 w0) {x0 : TShipPass} {a1 : Option Addr} {n1 c1 : Nat} {a2 : Option Addr} {n2 c2 : Nat} {x1 : TShipCall} (h1 : RSl RInt 1 G0 a1 n1 c1 x0.Tides) (h2 : RSl RTSpan 2 G0 a2 n2 c2 x0.Swell) {r : Bool} (H : f32 x0 x1 = some r) :
  Calls Tryz.prog 32 #[.agg #[.slice a1 n1 c1, .int .i64 x0.Depth, .int .i64 x0.Draft, .slice a2 n2 c2, .int .i64 x0.Light.Low, .int .i64 x0.Light.High], .agg #[.int .i64 x1.Day, .int .i64 x1.Hour]] w0 (RetV w0 (.bool r)) := by
 have hS := Since.start hS0
 have hO : Owns G0 w0 w0.heap.size [] := Owns.nil (Nat.le_refl _)
 unfold f32 at H
 refine enter1 (N := 15) (shutV _ _) Tryz.func32 rfl rfl rfl rfl ?_; refine WC_seq ?_; refine WC_region ?_; refine WL_op rfl (OpP_newF (v := fun b => .pointer (some ⟨b, 0, none⟩)) (cs := [.slice a1 n1 c1, .int .i64 x0.Depth, .int .i64 x0.Draft, .slice a2 n2 c2, .int .i64 x0.Light.Low, .int .i64 x0.Light.High]) (e := 27) (rn_boxA rfl) hS.sat rfl (fun b3 G5 w4 hg hcb3 => ?_)); have hS := hS.grow hg; have hO := hO.grow hg
 have leG5 := hg.le
 refine WL_op rfl (OpP_newF (v := fun b => .pointer (some ⟨b, 0, none⟩)) (cs := [.int .i64 x1.Day, .int .i64 x1.Hour]) (e := 47) (rn_boxA rfl) hS.sat rfl (fun b6 G8 w7 hg hcb6 => ?_)); have hS := hS.grow hg; have hO := hO.grow hg
 have leG8 := hg.le
 refine WL_val (rn_assign (v := (.bool false)) rfl) rfl ?_; refine WL_nil ?_; refine WC_seq ?_; have hS := hS.keep (below_drew _); have hO := hO.below (below_drew _)
 refine WC_regionD mixedO (fun _ w => Sat G8 w ∧ True) (.fl 0 (.fl 1 (.fl 2 (.fl 3 (.on 4 (.on 5 (.on 6 (.on 7 (.on 8 (.on 9 (.on 10 .nil))))))))))) (by kernel_rfl) rfl (by kernel_rfl) (fun _ => ⟨hS.sat, trivial⟩) ?_
 refine WD_val rfl (fun w hw => rn_loadA ag27 (cs := [.slice a1 n1 c1, .int .i64 x0.Depth, .int .i64 x0.Draft, .slice a2 n2 c2, .int .i64 x0.Light.Low, .int .i64 x0.Light.High]) rfl rfl (fun j v hj => (hw.1.le leG8).cell (hcb3.drop_take 0 6 j v hj))) rfl ?_; refine WD_val rfl (fun w hw => rn_loadA ag47 (cs := [.int .i64 x1.Day, .int .i64 x1.Hour]) rfl rfl (fun j v hj => hw.1.cell (hcb6.drop_take 0 2 j v hj))) rfl ?_; refine WD_val rfl (fun w hw => rn_fld fd27_3 rfl) rfl ?_; refine WD_val rfl (fun w hw => rn_load na23 rfl ((hw.1.le leG8).cell (hcb3 3 _ rfl))) rfl ?_; refine WD_op rfl rfl (OpP_val (rn_fld fd47_0 rfl) rfl ?_); refine ⟨fun _ _ => ⟨hS.sat, trivial⟩, ?_⟩; refine WD_op rfl rfl (OpP_val (rn_load na3 rfl (hS.sat.cell (hcb6 0 _ rfl))) rfl ?_); refine ⟨fun _ _ => ⟨hS.sat, trivial⟩, ?_⟩; obtain ⟨y9, hy9, H⟩ := bnd H
 have l0_2 := leG5.trans leG8
 refine WD_op rfl rfl (OpP_idx sl23 (h2.mono RTSpan_mono l0_2) hy9 rfl rfl rfl ?_)
 rintro b10 o10 _ hcb10 _ ⟨⟩
 refine ⟨fun _ _ => ⟨hS.sat, trivial⟩, ?_⟩; refine WD_op rfl rfl (OpP_val (rn_fld fd25_1 rfl) rfl ?_); refine ⟨fun _ _ => ⟨hS.sat, trivial⟩, ?_⟩; refine WD_op rfl rfl (OpP_val (rn_load na3 rfl (hS.sat.cell (hcb10 1 _ rfl))) rfl ?_); refine ⟨fun _ _ => ⟨hS.sat, trivial⟩, ?_⟩; obtain ⟨y11, hy11, H⟩ := bnd H; refine WD_op rfl rfl (OpP_callV cb64 (f64_ok (x0 := x0) (x1 := x1) (x2 := y9.High) hS.sat (h1.mono RInt_mono l0_2) (h2.mono RTSpan_mono l0_2) hy11) rfl rfl (fun w12 hb => ?_)); have hS := hS.keep hb; have hO := hO.below hb
 refine ⟨fun _ h => noneed (by kernel_rfl) h, ?_⟩
 refine WD_op rfl rfl (OpP_val (rn_assign (v := (.bool y11)) rfl) rfl ?_)
 refine ⟨fun _ h => noneed (by kernel_rfl) h, ?_⟩
 refine WD_nil ?_; refine WC_ret ?_
 have H : some y11 = some r := H
 have H := Option.some.inj H; subst H
 exact ⟨rfl, hS.below⟩
set_option maxHeartbeats 1000000 in
theorem f9_ok {G0 : Gm} {w0 : World} (hS0 : Sat G0 w0) {x0 : TShipPass} {a1 : Option Addr} {n1 c1 : Nat} {a2 : Option Addr} {n2 c2 : Nat} {x1 : TSpan} {x2 : Int} {x3 : (List TShipCall)} {a3 : Option Addr} {n3 c3 : Nat} (h1 : RSl RInt 1 G0 a1 n1 c1 x0.Tides) (h2 : RSl RTSpan 2 G0 a2 n2 c2 x0.Swell) (h3 : RSl RTShipCall 2 G0 a3 n3 c3 x3) {r : Bool} (H : f9 x0 x1 x2 x3 = some r) :
  Calls Tryz.prog 9 #[.agg #[.slice a1 n1 c1, .int .i64 x0.Depth, .int .i64 x0.Draft, .slice a2 n2 c2, .int .i64 x0.Light.Low, .int .i64 x0.Light.High], .agg #[.int .i64 x1.Low, .int .i64 x1.High], .int .i64 x2, .slice a3 n3 c3] w0 (RetV w0 (.bool r)) := by
 have hS := Since.start hS0
 have hO : Owns G0 w0 w0.heap.size [] := Owns.nil (Nat.le_refl _)
 unfold f9 at H
 refine enter1 (N := 57) (shutV _ _) Tryz.func9 rfl rfl rfl rfl ?_; refine WC_seq ?_; refine WC_region ?_; refine WL_op rfl (OpP_newF (v := fun b => .pointer (some ⟨b, 0, none⟩)) (cs := [.slice a1 n1 c1, .int .i64 x0.Depth, .int .i64 x0.Draft, .slice a2 n2 c2, .int .i64 x0.Light.Low, .int .i64 x0.Light.High]) (e := 27) (rn_boxA rfl) hS.sat rfl (fun b4 G6 w5 hg hcb4 => ?_)); have hS := hS.grow hg; have hO := hO.grow hg
 have leG6 := hg.le
 refine WL_op rfl (OpP_newF (v := fun b => .pointer (some ⟨b, 0, none⟩)) (cs := [.int .i64 x1.Low, .int .i64 x1.High]) (e := 25) (rn_boxA rfl) hS.sat rfl (fun b7 G9 w8 hg hcb7 => ?_)); have hS := hS.grow hg; have hO := hO.grow hg
 have leG9 := hg.le
 refine WL_val (rn_assign (v := (.bool false)) rfl) rfl ?_; refine WL_nil ?_; refine WC_seq ?_; refine WC_region ?_; refine WL_val (rn_assign (v := (.int .i64 0)) rfl) rfl ?_; refine WL_nil ?_; refine WC_seq ?_; refine WC_seq ?_; refine WC_region ?_; refine WL_val (rn_assign (v := (.int .i64 0)) rfl) rfl ?_; refine WL_nil ?_; obtain ⟨q12, hq12, H⟩ := bnd H; refine WC_cut (fun F w => ∃ (p11 : Unit) (Fb : Fr) (G : Gm), q12 = .inl p11 ∧ F = upds Fb [(2, .int .i64 x2), (3, .slice a3 n3 c3)] ∧ Gle G9 G ∧ Since w0.heap.size G0 w0 G w ∧ Owns G w w0.heap.size []) ?_ ?_
 ·refine WC_block (WC_loop hq12 (fun s10 F w => ∃ (Fb : Fr) (G : Gm), F = upds Fb [(2, .int .i64 x2), (3, .slice a3 n3 c3), (4, .pointer (some ⟨b4, 0, none⟩)), (5, .pointer (some ⟨b7, 0, none⟩)), (9, .int .i64 s10.1), (10, .int .i64 s10.2)] ∧ Gle G9 G ∧ Since w0.heap.size G0 w0 G w ∧ Owns G w w0.heap.size []) ?_ ?_)
  ·have hO : Owns G9 w8 w0.heap.size ([]) := hO
   exact ⟨_, G9, upds_self _ _ ⟨rfl, rfl, rfl, rfl, rfl, rfl, trivial⟩, Gle.refl _, hS, hO⟩
  ·rintro s10 F w14 t13 ⟨Fb, G15, rfl, leG15, hS, hO⟩
   intro H1 hqq12
   have Hoq12 := H; have H := H1
   unfold f9_b0 at H
   refine WC_seq ?_; refine WC_seq ?_; refine WC_region ?_; refine WL_val (rn_move (v := (.int .i64 s10.2)) rfl) rfl ?_; refine WL_val (rn_move (v := (.slice a3 n3 c3)) rfl) rfl ?_
   have l0_3 := (leG6.trans leG9).trans leG15
   refine WL_val (rn_len sl32 rfl rfl (h3.mono RTShipCall_mono l0_3).1) rfl ?_; refine WL_val (rn_lss rfl rfl) rfl ?_; refine WL_nil ?_; refine WC_cond rfl (fun hb16 => ?_) (fun hb16 => ?_)
   ·have H := ifT hb16 H; refine WC_skip ?_; refine WC_seq ?_; refine WC_block ?_; refine WC_seq ?_; refine WC_seq ?_; obtain ⟨q17, hq17, H⟩ := bnd H; refine WC_cut (fun F w => ∃ (Fb : Fr) (G : Gm), F = upds Fb [(2, .int .i64 x2), (3, .slice a3 n3 c3), (4, .pointer (some ⟨b4, 0, none⟩)), (5, .pointer (some ⟨b7, 0, none⟩)), (10, .int .i64 s10.2), (47, .bool q17)] ∧ Gle G15 G ∧ Since w0.heap.size G0 w0 G w ∧ Owns G w w0.heap.size []) ?_ ?_
    ·have Hoq17 := H; have H := hq17; have hS := hS.keep (below_drew _); have hO := hO.below (below_drew _)
     refine WC_regionD mixedO (fun _ w => Sat G15 w ∧ True) (.fl 0 (.fl 1 (.on 2 (.on 3 (.on 4 (.on 5 (.on 6 (.on 7 (.fl 8 (.fl 9 (.on 10 (.on 11 (.on 12 (.on 13 (.on 14 (.on 15 (.on 16 (.fl 17 (.fl 18 (.fl 19 (.fl 20 (.fl 21 (.fl 22 (.fl 23 (.fl 24 (.fl 25 (.on 26 (.on 27 (.on 28 (.on 29 (.on 30 .nil))))))))))))))))))))))))))))))) (by kernel_rfl) rfl (by kernel_rfl) (fun _ => ⟨hS.sat, trivial⟩) ?_
     refine WD_val rfl (fun w hw => rn_loadA ag27 (cs := [.slice a1 n1 c1, .int .i64 x0.Depth, .int .i64 x0.Draft, .slice a2 n2 c2, .int .i64 x0.Light.Low, .int .i64 x0.Light.High]) rfl rfl (fun j v hj => (hw.1.le (leG9.trans leG15)).cell (hcb4.drop_take 0 6 j v hj))) rfl ?_; refine WD_val rfl (fun w hw => rn_move (v := (.slice a3 n3 c3)) rfl) rfl ?_; refine WD_op rfl rfl (OpP_val (rn_move (v := (.int .i64 s10.2)) rfl) rfl ?_); refine ⟨fun _ _ => ⟨hS.sat, trivial⟩, ?_⟩; obtain ⟨y18, hy18, H⟩ := bnd H; refine WD_op rfl rfl (OpP_idx sl32 (h3.mono RTShipCall_mono l0_3) hy18 rfl rfl rfl ?_)
     rintro b19 o19 _ hcb19 _ ⟨⟩
     refine ⟨fun _ _ => ⟨hS.sat, trivial⟩, ?_⟩; refine WD_op rfl rfl (OpP_val (rn_loadA ag47 (cs := [.int .i64 y18.Day, .int .i64 y18.Hour]) rfl rfl (fun j v hj => hS.sat.cell (hcb19.drop_take 0 2 j v hj))) rfl ?_); refine ⟨fun _ _ => ⟨hS.sat, trivial⟩, ?_⟩; obtain ⟨y20, hy20, H⟩ := bnd H; refine WD_op rfl rfl (OpP_callV cb31 (f31_ok (x0 := x0) (x1 := y18) hS.sat (h1.mono RInt_mono l0_3) (h2.mono RTSpan_mono l0_3) hy20) rfl rfl (fun w21 hb => ?_)); have hS := hS.keep hb; have hO := hO.below hb; refine ⟨fun _ _ => ⟨hS.sat, trivial⟩, ?_⟩; refine WD_op rfl rfl (OpP_val (rn_not rfl) rfl ?_); refine ⟨fun _ _ => ⟨hS.sat, trivial⟩, ?_⟩; refine WD_op rfl rfl (OpP_val (rn_move (v := (.bool (!y20))) rfl) rfl ?_); refine ⟨fun _ _ => ⟨hS.sat, trivial⟩, ?_⟩
     rcases bcases (!y20) with hb22 | hb22
     ·have H := ifT hb22 H; refine WD_skip rfl rfl hb22 rfl rfl rfl ?_; refine WD_skip rfl rfl hb22 rfl rfl rfl ?_; refine WD_skipS rfl rfl hb22 rfl rfl rfl (fun _ _ => ⟨hS.sat, trivial⟩) ?_; refine WD_skipS rfl rfl hb22 rfl rfl rfl (fun _ _ => ⟨hS.sat, trivial⟩) ?_; refine WD_skipS rfl rfl hb22 rfl rfl rfl (fun _ _ => ⟨hS.sat, trivial⟩) ?_; refine WD_skipS rfl rfl hb22 rfl rfl rfl (fun _ _ => ⟨hS.sat, trivial⟩) ?_; refine WD_skipS rfl rfl hb22 rfl rfl rfl (fun _ _ => ⟨hS.sat, trivial⟩) ?_; refine WD_op rfl rfl (OpP_val (rn_pickT (v := (.bool true)) rfl hb22 rfl) rfl ?_); refine ⟨fun _ _ => ⟨hS.sat, trivial⟩, ?_⟩; refine WD_op rfl rfl (OpP_val (rn_move (v := (.bool true)) rfl) rfl ?_); refine ⟨fun _ _ => ⟨hS.sat, trivial⟩, ?_⟩; refine WD_skip rfl rfl rfl rfl rfl rfl ?_; refine WD_skip rfl rfl rfl rfl rfl rfl ?_; refine WD_skip rfl rfl rfl rfl rfl rfl ?_; refine WD_skip rfl rfl rfl rfl rfl rfl ?_; refine WD_skip rfl rfl rfl rfl rfl rfl ?_; refine WD_skip rfl rfl rfl rfl rfl rfl ?_; refine WD_skip rfl rfl rfl rfl rfl rfl ?_; refine WD_skip rfl rfl rfl rfl rfl rfl ?_; refine WD_skip rfl rfl rfl rfl rfl rfl ?_; refine WD_skipS rfl rfl rfl rfl rfl rfl (fun _ _ => ⟨hS.sat, trivial⟩) ?_; refine WD_skipS rfl rfl rfl rfl rfl rfl (fun _ _ => ⟨hS.sat, trivial⟩) ?_
      refine WD_skipS rfl rfl rfl rfl rfl rfl (fun _ h => noneed (by kernel_rfl) h) ?_
      refine WD_skipS rfl rfl rfl rfl rfl rfl (fun _ h => noneed (by kernel_rfl) h) ?_
      refine WD_op rfl rfl (OpP_val (rn_pickT (v := (.bool true)) rfl rfl rfl) rfl ?_)
      refine ⟨fun _ h => noneed (by kernel_rfl) h, ?_⟩
      refine WD_nil ?_
      have hO : Owns G15 w21 w0.heap.size ([]) := hO
      have H := Option.some.inj H; subst H
      exact ⟨_, G15, upds_self _ _ ⟨rfl, rfl, rfl, rfl, rfl, rfl, trivial⟩, Gle.refl _, hS, hO⟩
     ·have H := ifF hb22 H; refine WD_valY rfl rfl hb22 rfl rfl (fun w hw => rn_loadA ag27 (cs := [.slice a1 n1 c1, .int .i64 x0.Depth, .int .i64 x0.Draft, .slice a2 n2 c2, .int .i64 x0.Light.Low, .int .i64 x0.Light.High]) rfl rfl (fun j v hj => (hw.1.le (leG9.trans leG15)).cell (hcb4.drop_take 0 6 j v hj))) rfl ?_; refine WD_valY rfl rfl hb22 rfl rfl (fun w hw => rn_move (v := (.slice a3 n3 c3)) rfl) rfl ?_; refine WD_opY rfl rfl rfl hb22 rfl rfl (OpP_val (rn_move (v := (.int .i64 s10.2)) rfl) rfl ?_); refine ⟨fun _ _ => ⟨hS.sat, trivial⟩, ?_⟩; refine WD_opY rfl rfl rfl hb22 rfl rfl (OpP_idx sl32 (h3.mono RTShipCall_mono l0_3) hy18 rfl rfl rfl ?_)
      rintro b23 o23 _ hcb23 _ ⟨⟩
      refine ⟨fun _ _ => ⟨hS.sat, trivial⟩, ?_⟩; refine WD_opY rfl rfl rfl hb22 rfl rfl (OpP_val (rn_loadA ag47 (cs := [.int .i64 y18.Day, .int .i64 y18.Hour]) rfl rfl (fun j v hj => hS.sat.cell (hcb23.drop_take 0 2 j v hj))) rfl ?_); refine ⟨fun _ _ => ⟨hS.sat, trivial⟩, ?_⟩; obtain ⟨y24, hy24, H⟩ := bnd H; refine WD_opY rfl rfl rfl hb22 rfl rfl (OpP_callV cb32 (f32_ok (x0 := x0) (x1 := y18) hS.sat (h1.mono RInt_mono l0_3) (h2.mono RTSpan_mono l0_3) hy24) rfl rfl (fun w25 hb => ?_)); have hS := hS.keep hb; have hO := hO.below hb; refine ⟨fun _ _ => ⟨hS.sat, trivial⟩, ?_⟩; refine WD_opY rfl rfl rfl hb22 rfl rfl (OpP_val (rn_not rfl) rfl ?_); refine ⟨fun _ _ => ⟨hS.sat, trivial⟩, ?_⟩; refine WD_op rfl rfl (OpP_val (rn_pickF (v := (.bool (!y24))) rfl hb22 rfl) rfl ?_); refine ⟨fun _ _ => ⟨hS.sat, trivial⟩, ?_⟩; refine WD_op rfl rfl (OpP_val (rn_move (v := (.bool (!y24))) rfl) rfl ?_); refine ⟨fun _ _ => ⟨hS.sat, trivial⟩, ?_⟩
      rcases bcases (!y24) with hb26 | hb26
      ·have H := ifT hb26 H; refine WD_skip rfl rfl hb26 rfl rfl rfl ?_; refine WD_skip rfl rfl hb26 rfl rfl rfl ?_; refine WD_skip rfl rfl hb26 rfl rfl rfl ?_; refine WD_skip rfl rfl hb26 rfl rfl rfl ?_; refine WD_skip rfl rfl hb26 rfl rfl rfl ?_; refine WD_skip rfl rfl hb26 rfl rfl rfl ?_; refine WD_skip rfl rfl hb26 rfl rfl rfl ?_; refine WD_skip rfl rfl hb26 rfl rfl rfl ?_; refine WD_skip rfl rfl hb26 rfl rfl rfl ?_; refine WD_skipS rfl rfl hb26 rfl rfl rfl (fun _ _ => ⟨hS.sat, trivial⟩) ?_; refine WD_skipS rfl rfl hb26 rfl rfl rfl (fun _ _ => ⟨hS.sat, trivial⟩) ?_
       refine WD_skipS rfl rfl hb26 rfl rfl rfl (fun _ h => noneed (by kernel_rfl) h) ?_
       refine WD_skipS rfl rfl hb26 rfl rfl rfl (fun _ h => noneed (by kernel_rfl) h) ?_
       refine WD_op rfl rfl (OpP_val (rn_pickT (v := (.bool true)) rfl hb26 rfl) rfl ?_)
       refine ⟨fun _ h => noneed (by kernel_rfl) h, ?_⟩
       refine WD_nil ?_
       have hO : Owns G15 w25 w0.heap.size ([]) := hO
       have H := Option.some.inj H; subst H
       exact ⟨_, G15, upds_self _ _ ⟨rfl, rfl, rfl, rfl, rfl, rfl, trivial⟩, Gle.refl _, hS, hO⟩
      ·have H := ifF hb26 H; refine WD_valY rfl rfl hb26 rfl rfl (fun w hw => rn_move (v := (.slice a3 n3 c3)) rfl) rfl ?_; refine WD_valY rfl rfl hb26 rfl rfl (fun w hw => rn_move (v := (.int .i64 s10.2)) rfl) rfl ?_; refine WD_idxY rfl rfl hb26 rfl rfl sl32 (h3.mono RTShipCall_mono l0_3) hy18 rfl rfl rfl ?_
       rintro b27 o27 _ hcb27 _ ⟨⟩
       refine WD_valY rfl rfl hb26 rfl rfl (fun w hw => rn_fld fd47_0 rfl) rfl ?_; refine WD_valY rfl rfl hb26 rfl rfl (fun w hw => rn_load na3 rfl (hw.1.cell (hcb27 0 _ rfl))) rfl ?_; refine WD_valY rfl rfl hb26 rfl rfl (fun w hw => rn_move (v := (.int .i64 s10.1)) rfl) rfl ?_; refine WD_valY rfl rfl hb26 rfl rfl (fun w hw => rn_sub rfl rfl) rfl ?_; refine WD_valY rfl rfl hb26 rfl rfl (fun w hw => rn_fld fd25_0 rfl) rfl ?_; refine WD_valY rfl rfl hb26 rfl rfl (fun w hw => rn_load na3 rfl ((hw.1.le leG15).cell (hcb7 0 _ rfl))) rfl ?_; refine WD_opY rfl rfl rfl hb26 rfl rfl (OpP_val (rn_fld fd25_1 rfl) rfl ?_); refine ⟨fun _ _ => ⟨hS.sat, trivial⟩, ?_⟩; refine WD_opY rfl rfl rfl hb26 rfl rfl (OpP_val (rn_load na3 rfl ((hS.sat.le leG15).cell (hcb7 1 _ rfl))) rfl ?_); refine ⟨fun _ _ => ⟨hS.sat, trivial⟩, ?_⟩; obtain ⟨y28, hy28, H⟩ := bnd H; refine WD_opY rfl rfl rfl hb26 rfl rfl (OpP_callV cb14 (f14_ok (x0 := IntKind.i64.wrap (y18.Day - s10.1)) (x1 := x1.Low) (x2 := x1.High) hS.sat  hy28) rfl rfl (fun w29 hb => ?_)); have hS := hS.keep hb; have hO := hO.below hb
       refine ⟨fun _ h => noneed (by kernel_rfl) h, ?_⟩
       refine WD_opY rfl rfl rfl hb26 rfl rfl (OpP_val (rn_not rfl) rfl ?_)
       refine ⟨fun _ h => noneed (by kernel_rfl) h, ?_⟩
       refine WD_op rfl rfl (OpP_val (rn_pickF (v := (.bool (!y28))) rfl hb26 rfl) rfl ?_)
       refine ⟨fun _ h => noneed (by kernel_rfl) h, ?_⟩
       refine WD_nil ?_
       have hO : Owns G15 w29 w0.heap.size ([]) := hO
       have H := Option.some.inj H; subst H
       exact ⟨_, G15, upds_self _ _ ⟨rfl, rfl, rfl, rfl, rfl, rfl, trivial⟩, Gle.refl _, hS, hO⟩
    ·rintro F w30 ⟨Fb, G31, rfl, leG31, hS, hO⟩
     refine WC_cond rfl (fun hb32 => ?_) (fun hb32 => ?_)
     ·have H := ifT hb32 H; refine WC_seq ?_; refine WC_region ?_; refine WL_val (rn_assign (v := (.bool false)) rfl) rfl ?_; refine WL_nil ?_; refine WC_ret ?_; have H := Option.some.inj H; subst H
      have hres := hqq12 _ rfl
      subst hres; have H := Hoq12
      have H : some false = some r := H
      have H := Option.some.inj H; subst H
      exact ⟨rfl, hS.below⟩
     ·have H := ifF hb32 H; refine WC_skip ?_; refine WC_region ?_; refine WL_val (rn_move (v := (.slice a3 n3 c3)) rfl) rfl ?_; refine WL_val (rn_move (v := (.int .i64 s10.2)) rfl) rfl ?_; obtain ⟨y33, hy33, H⟩ := bnd H
      have l0_4 := l0_3.trans leG31
      refine WL_idx sl32 (h3.mono RTShipCall_mono l0_4) hy33 rfl rfl rfl ?_
      rintro b34 o34 _ hcb34 _ ⟨⟩
      refine WL_val (rn_fld fd47_0 rfl) rfl ?_; refine WL_val (rn_load na3 rfl (hS.sat.cell (hcb34 0 _ rfl))) rfl ?_; refine WL_val (rn_assign (v := (.int .i64 y33.Day)) rfl) rfl ?_; refine WL_nil ?_; refine WC_region ?_; refine WL_val (rn_move (v := (.int .i64 s10.2)) rfl) rfl ?_; refine WL_val (rn_add rfl rfl) rfl ?_; refine WL_val (rn_assign (v := (.int .i64 (IntKind.i64.wrap (s10.2 + 1)))) rfl) rfl ?_; refine WL_nil ?_
      have hO : Owns G31 w30 w0.heap.size ([]) := hO
      have H := Option.some.inj H; subst H; refine ⟨_, rfl, ?_⟩
      have l2_4 := leG15.trans leG31
      exact ⟨_, G31, upds_self _ _ ⟨rfl, rfl, rfl, rfl, rfl, rfl, trivial⟩, l2_4, hS, hO⟩
   ·have H := ifF hb16 H; refine WC_exit rfl ?_
    have hO : Owns G15 w14 w0.heap.size ([]) := hO
    have H := Option.some.inj H; subst H
    have hres := hqq12 _ rfl
    subst hres
    exact ⟨_, _, G15, rfl, upds_self _ _ ⟨rfl, rfl, trivial⟩, leG15, hS, hO⟩
 ·rintro F w35 ⟨p11, Fb, G36, rfl, rfl, leG36, hS, hO⟩
  refine WC_seq ?_; refine WC_region ?_; refine WL_val (rn_move (v := (.slice a3 n3 c3)) rfl) rfl ?_
  have l0_3 := (leG6.trans leG9).trans leG36
  refine WL_val (rn_len sl32 rfl rfl (h3.mono RTShipCall_mono l0_3).1) rfl ?_; refine WL_val (rn_move (v := (.int .i64 x2)) rfl) rfl ?_; refine WL_val (rn_eql rfl rfl) rfl ?_; refine WL_val (rn_assign (v := (.bool ((x3.length : Int) == x2))) rfl) rfl ?_; refine WL_nil ?_; refine WC_ret ?_
  have H : some ((x3.length : Int) == x2) = some r := H
  have H := Option.some.inj H; subst H
  exact ⟨rfl, hS.below⟩
set_option maxHeartbeats 1000000 in
theorem f36_ok {G0 : Gm} {w0 : World} (hS0 : Sat G0 w0) {x0 : Int} {x1 : Int} {x2 : Int}  {r : Bool} (H : f36 x0 x1 x2 = some r) :
  Calls Tryz.prog 36 #[.int .i64 x0, .int .i64 x1, .int .i64 x2] w0 (RetV w0 (.bool r)) := by
 have hS := Since.start hS0
 have hO : Owns G0 w0 w0.heap.size [] := Owns.nil (Nat.le_refl _)
 unfold f36 at H
 refine enter1 (N := 15) (shutV _ _) Tryz.func36 rfl rfl rfl rfl ?_; refine WC_seq ?_; refine WC_region ?_; refine WL_val (rn_assign (v := (.bool false)) rfl) rfl ?_; refine WL_nil ?_; refine WC_seq ?_; obtain ⟨q1, hq1, H⟩ := bnd H; refine WC_cut (fun F w => ∃ (Fb : Fr), F = upds Fb [(6, .bool q1)] ∧ w0 = w) ?_ ?_
 ·have Hoq1 := H; have H := hq1; refine WC_region ?_; refine WL_val (rn_move (v := (.int .i64 x0)) rfl) rfl ?_; refine WL_val (rn_move (v := (.int .i64 x1)) rfl) rfl ?_; refine WL_val (rn_geq rfl rfl) rfl ?_; refine WL_val (rn_move (v := (.bool (decide (x1 ≤ x0)))) rfl) rfl ?_
  rcases bcases (decide (x1 ≤ x0)) with hb2 | hb2
  ·have H := ifT hb2 H; refine WL_guardY rfl hb2 rfl rfl ?_; refine WL_val (rn_move (v := (.int .i64 x0)) rfl) rfl ?_; refine WL_guardY rfl hb2 rfl rfl ?_; refine WL_val (rn_move (v := (.int .i64 x2)) rfl) rfl ?_; refine WL_guardY rfl hb2 rfl rfl ?_; refine WL_val (rn_leq rfl rfl) rfl ?_; refine WL_val (rn_pickT (v := (.bool (decide (x0 ≤ x2)))) rfl hb2 rfl) rfl ?_; refine WL_val (rn_assign (v := (.bool (decide (x0 ≤ x2)))) rfl) rfl ?_; refine WL_nil ?_; have H := Option.some.inj H; subst H
   exact ⟨_, upds_self _ _ ⟨rfl, trivial⟩, rfl⟩
  ·have H := ifF hb2 H; refine WL_guardN rfl hb2 rfl rfl rfl ?_; refine WL_guardN rfl hb2 rfl rfl rfl ?_; refine WL_guardN rfl hb2 rfl rfl rfl ?_; refine WL_val (rn_pickF (v := (.bool false)) rfl hb2 rfl) rfl ?_; refine WL_val (rn_assign (v := (.bool false)) rfl) rfl ?_; refine WL_nil ?_; have H := Option.some.inj H; subst H
   exact ⟨_, upds_self _ _ ⟨rfl, trivial⟩, rfl⟩
 ·rintro F wl ⟨Fb, rfl, rfl⟩
  refine WC_ret ?_
  have H : some q1 = some r := H
  have H := Option.some.inj H; subst H
  exact ⟨rfl, hS.below⟩
set_option maxHeartbeats 1000000 in
theorem f69_ok {G0 : Gm} {w0 : World} (hS0 : Sat G0 w0) {x0 : (List TLandMemory)} {a1 : Option Addr} {n1 c1 : Nat} {x1 : (TLandMemory → Option Bool)} {k2 : Nat} {fi2 ca2 : List Value} (h1 : RSl RTLandMemory 4 G0 a1 n1 c1 x0) (hf2 : FnOk96 G0 k2 fi2 ca2 x1) {r : Int} (H : f69 x0 x1 = some r) :
  Calls Tryz.prog 69 #[.slice a1 n1 c1, .func (.func k2) (fi2).toArray (ca2).toArray] w0 (RetV w0 (.int .i64 r)) := by
 have hS := Since.start hS0
 have hO : Owns G0 w0 w0.heap.size [] := Owns.nil (Nat.le_refl _)
 unfold f69 at H
 refine enter1 (N := 19) (shutV _ _) Tryz.func69 rfl rfl rfl rfl ?_; refine WC_seq ?_; refine WC_region ?_; refine WL_val (rn_assign (v := (.int .i64 0)) rfl) rfl ?_; refine WL_nil ?_; refine WC_seq ?_; refine WC_seq ?_; refine WC_region ?_; refine WL_val (rn_move (v := (.slice a1 n1 c1)) rfl) rfl ?_; refine WL_val (rn_len sl41 rfl rfl h1.1) rfl ?_; refine WL_val (rn_move (v := (.int .i64 0)) rfl) rfl ?_; refine WL_nil ?_; obtain ⟨q5, hq5, H⟩ := bnd H; refine WC_cut (fun F w => ∃ (p4 : Unit) (Fb : Fr) (G : Gm), q5 = .inl p4 ∧ F = upds Fb [] ∧ Gle G0 G ∧ Since w0.heap.size G0 w0 G w ∧ Owns G w w0.heap.size []) ?_ ?_
 ·refine WC_block (WC_loop hq5 (fun s3 F w => ∃ (Fb : Fr) (G : Gm), F = upds Fb [(0, .slice a1 n1 c1), (1, .func (.func k2) (fi2).toArray (ca2).toArray), (7, .int .i64 (x0.length : Int)), (8, .int .i64 s3)] ∧ Gle G0 G ∧ Since w0.heap.size G0 w0 G w ∧ Owns G w w0.heap.size []) ?_ ?_)
  ·have hO : Owns G0 w0 w0.heap.size ([]) := hO
   exact ⟨_, G0, upds_self _ _ ⟨rfl, rfl, rfl, rfl, trivial⟩, Gle.refl _, hS, hO⟩
  ·rintro s3 F w7 t6 ⟨Fb, G8, rfl, leG8, hS, hO⟩
   intro H1 hqq5
   have Hoq5 := H; have H := H1
   unfold f69_b0 at H
   refine WC_seq ?_; refine WC_region ?_; refine WL_val (rn_lss rfl rfl) rfl ?_; refine WL_nil ?_; refine WC_seq ?_; refine WC_cond rfl (fun hb9 => ?_) (fun hb9 => ?_)
   ·have H := ifT hb9 H; refine WC_skip ?_; refine WC_seq ?_; refine WC_block ?_; refine WC_seq ?_; refine WC_region ?_; refine WL_val (rn_move (v := (.int .i64 s3)) rfl) rfl ?_; refine WL_val (rn_assign (v := (.int .i64 s3)) rfl) rfl ?_; refine WL_nil ?_; refine WC_seq ?_; refine WC_region ?_; refine WL_val (rn_move (v := (.func (.func k2) (fi2).toArray (ca2).toArray)) rfl) rfl ?_; refine WL_val (rn_move (v := (.slice a1 n1 c1)) rfl) rfl ?_; refine WL_val (rn_move (v := (.int .i64 s3)) rfl) rfl ?_; obtain ⟨y10, hy10, H⟩ := bnd H; refine WL_idx sl41 (h1.mono RTLandMemory_mono leG8) hy10 rfl rfl rfl ?_
    rintro b11 o11 _ hcb11 _ ⟨⟩
    refine WL_val (rn_loadA ag49 (cs := [.int .i64 y10.From, .int .i64 y10.To, .int .i64 y10.Years.Low, .int .i64 y10.Years.High]) rfl rfl (fun j v hj => hS.sat.cell (hcb11.drop_take 0 4 j v hj))) rfl ?_; obtain ⟨y12, hy12, H⟩ := bnd H; refine WL_op rfl (OpP_callVF hf2.1 (hf2.2 _ _ leG8 hS.sat y10 _  hy12) rfl rfl rfl (fun w13 hb => ?_)); have hS := hS.keep hb; have hO := hO.below hb; refine WL_nil ?_; refine WC_cond rfl (fun hb14 => ?_) (fun hb14 => ?_)
    ·have H := ifT hb14 H; refine WC_seq ?_; refine WC_region ?_; refine WL_val (rn_move (v := (.int .i64 s3)) rfl) rfl ?_; refine WL_val (rn_assign (v := (.int .i64 s3)) rfl) rfl ?_; refine WL_nil ?_; refine WC_ret ?_; have H := Option.some.inj H; subst H
     have hres := hqq5 _ rfl
     subst hres; have H := Hoq5
     have H : some s3 = some r := H
     have H := Option.some.inj H; subst H
     exact ⟨rfl, hS.below⟩
    ·have H := ifF hb14 H; refine WC_skip ?_; refine WC_region ?_; refine WL_val (rn_add rfl rfl) rfl ?_; refine WL_val (rn_move (v := (.int .i64 (IntKind.i64.wrap (s3 + 1)))) rfl) rfl ?_; refine WL_nil ?_
     have hO : Owns G8 w13 w0.heap.size ([]) := hO
     have H := Option.some.inj H; subst H; refine ⟨_, rfl, ?_⟩
     exact ⟨_, G8, upds_self _ _ ⟨rfl, rfl, rfl, rfl, trivial⟩, leG8, hS, hO⟩
   ·have H := ifF hb9 H; refine WC_exit rfl ?_
    have hO : Owns G8 w7 w0.heap.size ([]) := hO
    have H := Option.some.inj H; subst H
    have hres := hqq5 _ rfl
    subst hres
    exact ⟨_, _, G8, rfl, rfl, leG8, hS, hO⟩
 ·rintro F w15 ⟨p4, Fb, G16, rfl, rfl, leG16, hS, hO⟩
  refine WC_seq ?_; refine WC_region ?_; refine WL_val (rn_assign (v := (.int .i64 (-1))) rfl) rfl ?_; refine WL_nil ?_; refine WC_ret ?_
  have H : some (-1) = some r := H
  have H := Option.some.inj H; subst H
  exact ⟨rfl, hS.below⟩
set_option maxHeartbeats 1000000 in
theorem f37_ok {G0 : Gm} {w0 : World} (hS0 : Sat G0 w0) {x0 : (List TLandMemory)} {a1 : Option Addr} {n1 c1 : Nat} {x1 : (TLandMemory → Option Bool)} {k2 : Nat} {fi2 ca2 : List Value} (h1 : RSl RTLandMemory 4 G0 a1 n1 c1 x0) (hf2 : FnOk96 G0 k2 fi2 ca2 x1) {r : Bool} (H : f37 x0 x1 = some r) :
  Calls Tryz.prog 37 #[.slice a1 n1 c1, .func (.func k2) (fi2).toArray (ca2).toArray] w0 (RetV w0 (.bool r)) := by
 have hS := Since.start hS0
 have hO : Owns G0 w0 w0.heap.size [] := Owns.nil (Nat.le_refl _)
 unfold f37 at H
 refine enter1 (N := 9) (shutV _ _) Tryz.func37 rfl rfl rfl rfl ?_; refine WC_seq ?_; refine WC_region ?_; refine WL_val (rn_assign (v := (.bool false)) rfl) rfl ?_; refine WL_nil ?_; refine WC_seq ?_; refine WC_region ?_; refine WL_val (rn_move (v := (.slice a1 n1 c1)) rfl) rfl ?_; refine WL_val (rn_move (v := (.func (.func k2) (fi2).toArray (ca2).toArray)) rfl) rfl ?_; obtain ⟨y3, hy3, H⟩ := bnd H; refine WL_op rfl (OpP_callV cb69 (f69_ok (x0 := x0) (x1 := x1) hS.sat h1 hf2 hy3) rfl rfl (fun w4 hb => ?_)); have hS := hS.keep hb; have hO := hO.below hb; refine WL_val (rn_geq rfl rfl) rfl ?_; refine WL_val (rn_assign (v := (.bool (decide (0 ≤ y3)))) rfl) rfl ?_; refine WL_nil ?_; refine WC_ret ?_
 have H : some (decide (0 ≤ y3)) = some r := H
 have H := Option.some.inj H; subst H
 exact ⟨rfl, hS.below⟩
set_option maxHeartbeats 1000000 in
theorem f103_ok {G0 : Gm} {w0 : World} (hS0 : Sat G0 w0) {x0 : (List TLandEvent)} {a1 : Option Addr} {n1 c1 : Nat} {x1 : (TLandEvent → Option Bool)} {k2 : Nat} {fi2 ca2 : List Value} (h1 : RSl RTLandEvent 2 G0 a1 n1 c1 x0) (hf2 : FnOk152 G0 k2 fi2 ca2 x1) {r : Int} (H : f103 x0 x1 = some r) :
  Calls Tryz.prog 103 #[.slice a1 n1 c1, .func (.func k2) (fi2).toArray (ca2).toArray] w0 (RetV w0 (.int .i64 r)) := by
 have hS := Since.start hS0
 have hO : Owns G0 w0 w0.heap.size [] := Owns.nil (Nat.le_refl _)
 unfold f103 at H
 refine enter1 (N := 19) (shutV _ _) Tryz.func103 rfl rfl rfl rfl ?_; refine WC_seq ?_; refine WC_region ?_; refine WL_val (rn_assign (v := (.int .i64 0)) rfl) rfl ?_; refine WL_nil ?_; refine WC_seq ?_; refine WC_seq ?_; refine WC_region ?_; refine WL_val (rn_move (v := (.slice a1 n1 c1)) rfl) rfl ?_; refine WL_val (rn_len sl40 rfl rfl h1.1) rfl ?_; refine WL_val (rn_move (v := (.int .i64 0)) rfl) rfl ?_; refine WL_nil ?_; obtain ⟨q5, hq5, H⟩ := bnd H; refine WC_cut (fun F w => ∃ (p4 : Unit) (Fb : Fr) (G : Gm), q5 = .inl p4 ∧ F = upds Fb [] ∧ Gle G0 G ∧ Since w0.heap.size G0 w0 G w ∧ Owns G w w0.heap.size []) ?_ ?_
 ·refine WC_block (WC_loop hq5 (fun s3 F w => ∃ (Fb : Fr) (G : Gm), F = upds Fb [(0, .slice a1 n1 c1), (1, .func (.func k2) (fi2).toArray (ca2).toArray), (7, .int .i64 (x0.length : Int)), (8, .int .i64 s3)] ∧ Gle G0 G ∧ Since w0.heap.size G0 w0 G w ∧ Owns G w w0.heap.size []) ?_ ?_)
  ·have hO : Owns G0 w0 w0.heap.size ([]) := hO
   exact ⟨_, G0, upds_self _ _ ⟨rfl, rfl, rfl, rfl, trivial⟩, Gle.refl _, hS, hO⟩
  ·rintro s3 F w7 t6 ⟨Fb, G8, rfl, leG8, hS, hO⟩
   intro H1 hqq5
   have Hoq5 := H; have H := H1
   unfold f103_b0 at H
   refine WC_seq ?_; refine WC_region ?_; refine WL_val (rn_lss rfl rfl) rfl ?_; refine WL_nil ?_; refine WC_seq ?_; refine WC_cond rfl (fun hb9 => ?_) (fun hb9 => ?_)
   ·have H := ifT hb9 H; refine WC_skip ?_; refine WC_seq ?_; refine WC_block ?_; refine WC_seq ?_; refine WC_region ?_; refine WL_val (rn_move (v := (.int .i64 s3)) rfl) rfl ?_; refine WL_val (rn_assign (v := (.int .i64 s3)) rfl) rfl ?_; refine WL_nil ?_; refine WC_seq ?_; refine WC_region ?_; refine WL_val (rn_move (v := (.func (.func k2) (fi2).toArray (ca2).toArray)) rfl) rfl ?_; refine WL_val (rn_move (v := (.slice a1 n1 c1)) rfl) rfl ?_; refine WL_val (rn_move (v := (.int .i64 s3)) rfl) rfl ?_; obtain ⟨y10, hy10, H⟩ := bnd H; refine WL_idx sl40 (h1.mono RTLandEvent_mono leG8) hy10 rfl rfl rfl ?_
    rintro b11 o11 _ hcb11 _ ⟨⟩
    refine WL_val (rn_loadA ag45 (cs := [.int .i64 y10.Strip, .int .i64 y10.Holder]) rfl rfl (fun j v hj => hS.sat.cell (hcb11.drop_take 0 2 j v hj))) rfl ?_; obtain ⟨y12, hy12, H⟩ := bnd H; refine WL_op rfl (OpP_callVF hf2.1 (hf2.2 _ _ leG8 hS.sat y10 _  hy12) rfl rfl rfl (fun w13 hb => ?_)); have hS := hS.keep hb; have hO := hO.below hb; refine WL_nil ?_; refine WC_cond rfl (fun hb14 => ?_) (fun hb14 => ?_)
    ·have H := ifT hb14 H; refine WC_seq ?_; refine WC_region ?_; refine WL_val (rn_move (v := (.int .i64 s3)) rfl) rfl ?_; refine WL_val (rn_assign (v := (.int .i64 s3)) rfl) rfl ?_; refine WL_nil ?_; refine WC_ret ?_; have H := Option.some.inj H; subst H
     have hres := hqq5 _ rfl
     subst hres; have H := Hoq5
     have H : some s3 = some r := H
     have H := Option.some.inj H; subst H
     exact ⟨rfl, hS.below⟩
    ·have H := ifF hb14 H; refine WC_skip ?_; refine WC_region ?_; refine WL_val (rn_add rfl rfl) rfl ?_; refine WL_val (rn_move (v := (.int .i64 (IntKind.i64.wrap (s3 + 1)))) rfl) rfl ?_; refine WL_nil ?_
     have hO : Owns G8 w13 w0.heap.size ([]) := hO
     have H := Option.some.inj H; subst H; refine ⟨_, rfl, ?_⟩
     exact ⟨_, G8, upds_self _ _ ⟨rfl, rfl, rfl, rfl, trivial⟩, leG8, hS, hO⟩
   ·have H := ifF hb9 H; refine WC_exit rfl ?_
    have hO : Owns G8 w7 w0.heap.size ([]) := hO
    have H := Option.some.inj H; subst H
    have hres := hqq5 _ rfl
    subst hres
    exact ⟨_, _, G8, rfl, rfl, leG8, hS, hO⟩
 ·rintro F w15 ⟨p4, Fb, G16, rfl, rfl, leG16, hS, hO⟩
  refine WC_seq ?_; refine WC_region ?_; refine WL_val (rn_assign (v := (.int .i64 (-1))) rfl) rfl ?_; refine WL_nil ?_; refine WC_ret ?_
  have H : some (-1) = some r := H
  have H := Option.some.inj H; subst H
  exact ⟨rfl, hS.below⟩
set_option maxHeartbeats 1000000 in
theorem f65_ok {G0 : Gm} {w0 : World} (hS0 : Sat G0 w0) {x0 : (List TLandEvent)} {a1 : Option Addr} {n1 c1 : Nat} {x1 : (TLandEvent → Option Bool)} {k2 : Nat} {fi2 ca2 : List Value} (h1 : RSl RTLandEvent 2 G0 a1 n1 c1 x0) (hf2 : FnOk152 G0 k2 fi2 ca2 x1) {r : Bool} (H : f65 x0 x1 = some r) :
  Calls Tryz.prog 65 #[.slice a1 n1 c1, .func (.func k2) (fi2).toArray (ca2).toArray] w0 (RetV w0 (.bool r)) := by
 have hS := Since.start hS0
 have hO : Owns G0 w0 w0.heap.size [] := Owns.nil (Nat.le_refl _)
 unfold f65 at H
 refine enter1 (N := 9) (shutV _ _) Tryz.func65 rfl rfl rfl rfl ?_; refine WC_seq ?_; refine WC_region ?_; refine WL_val (rn_assign (v := (.bool false)) rfl) rfl ?_; refine WL_nil ?_; refine WC_seq ?_; refine WC_region ?_; refine WL_val (rn_move (v := (.slice a1 n1 c1)) rfl) rfl ?_; refine WL_val (rn_move (v := (.func (.func k2) (fi2).toArray (ca2).toArray)) rfl) rfl ?_; obtain ⟨y3, hy3, H⟩ := bnd H; refine WL_op rfl (OpP_callV cb103 (f103_ok (x0 := x0) (x1 := x1) hS.sat h1 hf2 hy3) rfl rfl (fun w4 hb => ?_)); have hS := hS.keep hb; have hO := hO.below hb; refine WL_val (rn_geq rfl rfl) rfl ?_; refine WL_val (rn_assign (v := (.bool (decide (0 ≤ y3)))) rfl) rfl ?_; refine WL_nil ?_; refine WC_ret ?_
 have H : some (decide (0 ≤ y3)) = some r := H
 have H := Option.some.inj H; subst H
 exact ⟨rfl, hS.below⟩
set_option maxHeartbeats 1000000 in
theorem f66_ok {G0 : Gm} {w0 : World} (hS0 : Sat G0 w0) {x0 : TLandEvent} {x1 : TLandBook} {bq1 : Nat} {a1 : Option Addr} {n1 c1 : Nat} {a2 : Option Addr} {n2 c2 : Nat} {a3 : Option Addr} {n3 c3 : Nat} (hcq1 : Cells G0 bq1 0 [.slice a1 n1 c1, .slice a2 n2 c2, .slice a3 n3 c3]) (h1 : RSl RTLandPerson 2 G0 a1 n1 c1 x1.People) (h2 : RSl RTLandEvent 2 G0 a2 n2 c2 x1.Events) (h3 : RSl RTLandMemory 4 G0 a3 n3 c3 x1.Memories) {r : Bool} (H : f66 x0 x1 = some r) :
  Calls Tryz.prog 66 #[.agg #[.int .i64 x0.Strip, .int .i64 x0.Holder], .pointer (some ⟨bq1, 0, none⟩)] w0 (RetV w0 (.bool r)) := by
 have hS := Since.start hS0
 have hO : Owns G0 w0 w0.heap.size [] := Owns.nil (Nat.le_refl _)
 unfold f66 at H
 refine enter1 (N := 18) (shutV _ _) Tryz.func66 rfl rfl rfl rfl ?_; refine WC_seq ?_; refine WC_region ?_; refine WL_op rfl (OpP_newF (v := fun b => .pointer (some ⟨b, 0, none⟩)) (cs := [.int .i64 x0.Strip, .int .i64 x0.Holder]) (e := 45) (rn_boxA rfl) hS.sat rfl (fun b4 G6 w5 hg hcb4 => ?_)); have hS := hS.grow hg; have hO := hO.grow hg
 have leG6 := hg.le
 refine WL_val (rn_assign (v := (.bool false)) rfl) rfl ?_; refine WL_nil ?_; refine WC_seq ?_; obtain ⟨q7, hq7, H⟩ := bnd H; refine WC_cut (fun F w => ∃ (Fb : Fr) (G : Gm), F = upds Fb [(3, .bool q7)] ∧ Gle G6 G ∧ Since w0.heap.size G0 w0 G w ∧ Owns G w w0.heap.size []) ?_ ?_
 ·have Hoq7 := H; have H := hq7; refine WC_region ?_; refine WL_val (rn_fld fd45_0 rfl) rfl ?_; refine WL_val (rn_load na3 rfl (hS.sat.cell (hcb4 0 _ rfl))) rfl ?_; obtain ⟨y8, hy8, H⟩ := bnd H; refine WL_op rfl (OpP_callV cb36 (f36_ok (x0 := x0.Strip) (x1 := 0) (x2 := 5) hS.sat  hy8) rfl rfl (fun w9 hb => ?_)); have hS := hS.keep hb; have hO := hO.below hb; refine WL_val (rn_not rfl) rfl ?_; refine WL_val (rn_move (v := (.bool (!y8))) rfl) rfl ?_
  rcases bcases (!y8) with hb10 | hb10
  ·have H := ifT hb10 H; refine WL_guardN rfl hb10 rfl rfl rfl ?_; refine WL_guardN rfl hb10 rfl rfl rfl ?_; refine WL_guardN rfl hb10 rfl rfl rfl ?_; refine WL_guardN rfl hb10 rfl rfl rfl ?_; refine WL_guardN rfl hb10 rfl rfl rfl ?_; refine WL_guardN rfl hb10 rfl rfl rfl ?_; refine WL_guardN rfl hb10 rfl rfl rfl ?_; refine WL_guardN rfl hb10 rfl rfl rfl ?_; refine WL_val (rn_pickT (v := (.bool true)) rfl hb10 rfl) rfl ?_; refine WL_val (rn_assign (v := (.bool true)) rfl) rfl ?_; refine WL_nil ?_
   have hO : Owns G6 w9 w0.heap.size ([]) := hO
   have H := Option.some.inj H; subst H
   exact ⟨_, G6, upds_self _ _ ⟨rfl, trivial⟩, Gle.refl _, hS, hO⟩
  ·have H := ifF hb10 H; refine WL_guardY rfl hb10 rfl rfl ?_; refine WL_val (rn_fld fd45_1 rfl) rfl ?_; refine WL_guardY rfl hb10 rfl rfl ?_; refine WL_val (rn_load na3 rfl (hS.sat.cell (hcb4 1 _ rfl))) rfl ?_; refine WL_guardY rfl hb10 rfl rfl ?_; refine WL_val (rn_fld fd43_0 rfl) rfl ?_; refine WL_guardY rfl hb10 rfl rfl ?_; refine WL_val (rn_load na39 rfl ((hS.sat.le leG6).cell (hcq1 0 _ rfl))) rfl ?_; refine WL_guardY rfl hb10 rfl rfl ?_; refine WL_val (rn_len sl39 rfl rfl (h1.mono RTLandPerson_mono leG6).1) rfl ?_; refine WL_guardY rfl hb10 rfl rfl ?_; refine WL_val (rn_sub rfl rfl) rfl ?_; refine WL_guardY rfl hb10 rfl rfl ?_; obtain ⟨y11, hy11, H⟩ := bnd H; refine WL_op rfl (OpP_callV cb36 (f36_ok (x0 := x0.Holder) (x1 := 0) (x2 := IntKind.i64.wrap ((x1.People.length : Int) - 1)) hS.sat  hy11) rfl rfl (fun w12 hb => ?_)); have hS := hS.keep hb; have hO := hO.below hb; refine WL_guardY rfl hb10 rfl rfl ?_; refine WL_val (rn_not rfl) rfl ?_; refine WL_val (rn_pickF (v := (.bool (!y11))) rfl hb10 rfl) rfl ?_; refine WL_val (rn_assign (v := (.bool (!y11))) rfl) rfl ?_; refine WL_nil ?_
   have hO : Owns G6 w12 w0.heap.size ([]) := hO
   have H := Option.some.inj H; subst H
   exact ⟨_, G6, upds_self _ _ ⟨rfl, trivial⟩, Gle.refl _, hS, hO⟩
 ·rintro F w13 ⟨Fb, G14, rfl, leG14, hS, hO⟩
  refine WC_ret ?_
  have H : some q7 = some r := H
  have H := Option.some.inj H; subst H
  exact ⟨rfl, hS.below⟩
set_option maxHeartbeats 1000000 in
theorem f67_ok {G0 : Gm} {w0 : World} (hS0 : Sat G0 w0) {x0 : TLandMemory} {x1 : TLandBook} {bq1 : Nat} {a1 : Option Addr} {n1 c1 : Nat} {a2 : Option Addr} {n2 c2 : Nat} {a3 : Option Addr} {n3 c3 : Nat} (hcq1 : Cells G0 bq1 0 [.slice a1 n1 c1, .slice a2 n2 c2, .slice a3 n3 c3]) (h1 : RSl RTLandPerson 2 G0 a1 n1 c1 x1.People) (h2 : RSl RTLandEvent 2 G0 a2 n2 c2 x1.Events) (h3 : RSl RTLandMemory 4 G0 a3 n3 c3 x1.Memories) {r : Bool} (H : f67 x0 x1 = some r) :
  Calls Tryz.prog 67 #[.agg #[.int .i64 x0.From, .int .i64 x0.To, .int .i64 x0.Years.Low, .int .i64 x0.Years.High], .pointer (some ⟨bq1, 0, none⟩)] w0 (RetV w0 (.bool r)) := by
 have hS := Since.start hS0
 have hO : Owns G0 w0 w0.heap.size [] := Owns.nil (Nat.le_refl _)
 unfold f67 at H
 refine enter1 (N := 50) (shutV _ _) Tryz.func67 rfl rfl rfl rfl ?_; refine WC_seq ?_; refine WC_region ?_; refine WL_op rfl (OpP_newF (v := fun b => .pointer (some ⟨b, 0, none⟩)) (cs := [.int .i64 x0.From, .int .i64 x0.To, .int .i64 x0.Years.Low, .int .i64 x0.Years.High]) (e := 49) (rn_boxA rfl) hS.sat rfl (fun b4 G6 w5 hg hcb4 => ?_)); have hS := hS.grow hg; have hO := hO.grow hg
 have leG6 := hg.le
 refine WL_val (rn_assign (v := (.bool false)) rfl) rfl ?_; refine WL_nil ?_; refine WC_seq ?_; obtain ⟨q7, hq7, H⟩ := bnd H; refine WC_cut (fun F w => ∃ (Fb : Fr) (G : Gm), F = upds Fb [(3, .bool q7)] ∧ Gle G6 G ∧ Since w0.heap.size G0 w0 G w ∧ Owns G w w0.heap.size []) ?_ ?_
 ·have Hoq7 := H; have H := hq7; refine WC_region ?_; refine WL_val (rn_fld fd49_0 rfl) rfl ?_; refine WL_val (rn_load na3 rfl (hS.sat.cell (hcb4 0 _ rfl))) rfl ?_; refine WL_val (rn_fld fd43_1 rfl) rfl ?_; refine WL_val (rn_load na40 rfl ((hS.sat.le leG6).cell (hcq1 1 _ rfl))) rfl ?_; refine WL_val (rn_len sl40 rfl rfl (h2.mono RTLandEvent_mono leG6).1) rfl ?_; refine WL_val (rn_sub rfl rfl) rfl ?_; obtain ⟨y8, hy8, H⟩ := bnd H; refine WL_op rfl (OpP_callV cb36 (f36_ok (x0 := x0.From) (x1 := 0) (x2 := IntKind.i64.wrap ((x1.Events.length : Int) - 1)) hS.sat  hy8) rfl rfl (fun w9 hb => ?_)); have hS := hS.keep hb; have hO := hO.below hb; refine WL_val (rn_not rfl) rfl ?_; refine WL_val (rn_move (v := (.bool (!y8))) rfl) rfl ?_
  rcases bcases (!y8) with hb10 | hb10
  ·have H := ifT hb10 H; refine WL_guardN rfl hb10 rfl rfl rfl ?_; refine WL_guardN rfl hb10 rfl rfl rfl ?_; refine WL_guardN rfl hb10 rfl rfl rfl ?_; refine WL_guardN rfl hb10 rfl rfl rfl ?_; refine WL_guardN rfl hb10 rfl rfl rfl ?_; refine WL_guardN rfl hb10 rfl rfl rfl ?_; refine WL_guardN rfl hb10 rfl rfl rfl ?_; refine WL_guardN rfl hb10 rfl rfl rfl ?_; refine WL_val (rn_pickT (v := (.bool true)) rfl hb10 rfl) rfl ?_; refine WL_val (rn_move (v := (.bool true)) rfl) rfl ?_; refine WL_guardN rfl rfl rfl rfl rfl ?_; refine WL_guardN rfl rfl rfl rfl rfl ?_; refine WL_guardN rfl rfl rfl rfl rfl ?_; refine WL_guardN rfl rfl rfl rfl rfl ?_; refine WL_guardN rfl rfl rfl rfl rfl ?_; refine WL_val (rn_pickT (v := (.bool true)) rfl rfl rfl) rfl ?_; refine WL_val (rn_move (v := (.bool true)) rfl) rfl ?_; refine WL_guardN rfl rfl rfl rfl rfl ?_; refine WL_guardN rfl rfl rfl rfl rfl ?_; refine WL_guardN rfl rfl rfl rfl rfl ?_; refine WL_guardN rfl rfl rfl rfl rfl ?_; refine WL_val (rn_pickT (v := (.bool true)) rfl rfl rfl) rfl ?_; refine WL_val (rn_move (v := (.bool true)) rfl) rfl ?_; refine WL_guardN rfl rfl rfl rfl rfl ?_; refine WL_guardN rfl rfl rfl rfl rfl ?_; refine WL_guardN rfl rfl rfl rfl rfl ?_; refine WL_guardN rfl rfl rfl rfl rfl ?_; refine WL_guardN rfl rfl rfl rfl rfl ?_; refine WL_guardN rfl rfl rfl rfl rfl ?_; refine WL_guardN rfl rfl rfl rfl rfl ?_; refine WL_val (rn_pickT (v := (.bool true)) rfl rfl rfl) rfl ?_; refine WL_val (rn_move (v := (.bool true)) rfl) rfl ?_; refine WL_guardN rfl rfl rfl rfl rfl ?_; refine WL_guardN rfl rfl rfl rfl rfl ?_; refine WL_guardN rfl rfl rfl rfl rfl ?_; refine WL_guardN rfl rfl rfl rfl rfl ?_; refine WL_val (rn_pickT (v := (.bool true)) rfl rfl rfl) rfl ?_; refine WL_val (rn_assign (v := (.bool true)) rfl) rfl ?_; refine WL_nil ?_
   have hO : Owns G6 w9 w0.heap.size ([]) := hO
   have H := Option.some.inj H; subst H
   exact ⟨_, G6, upds_self _ _ ⟨rfl, trivial⟩, Gle.refl _, hS, hO⟩
  ·have H := ifF hb10 H; refine WL_guardY rfl hb10 rfl rfl ?_; refine WL_val (rn_fld fd49_1 rfl) rfl ?_; refine WL_guardY rfl hb10 rfl rfl ?_; refine WL_val (rn_load na3 rfl (hS.sat.cell (hcb4 1 _ rfl))) rfl ?_; refine WL_guardY rfl hb10 rfl rfl ?_; refine WL_val (rn_fld fd43_1 rfl) rfl ?_; refine WL_guardY rfl hb10 rfl rfl ?_; refine WL_val (rn_load na40 rfl ((hS.sat.le leG6).cell (hcq1 1 _ rfl))) rfl ?_; refine WL_guardY rfl hb10 rfl rfl ?_; refine WL_val (rn_len sl40 rfl rfl (h2.mono RTLandEvent_mono leG6).1) rfl ?_; refine WL_guardY rfl hb10 rfl rfl ?_; refine WL_val (rn_sub rfl rfl) rfl ?_; refine WL_guardY rfl hb10 rfl rfl ?_; obtain ⟨y11, hy11, H⟩ := bnd H; refine WL_op rfl (OpP_callV cb36 (f36_ok (x0 := x0.To) (x1 := 0) (x2 := IntKind.i64.wrap ((x1.Events.length : Int) - 1)) hS.sat  hy11) rfl rfl (fun w12 hb => ?_)); have hS := hS.keep hb; have hO := hO.below hb; refine WL_guardY rfl hb10 rfl rfl ?_; refine WL_val (rn_not rfl) rfl ?_; refine WL_val (rn_pickF (v := (.bool (!y11))) rfl hb10 rfl) rfl ?_; refine WL_val (rn_move (v := (.bool (!y11))) rfl) rfl ?_
   rcases bcases (!y11) with hb13 | hb13
   ·have H := ifT hb13 H; refine WL_guardN rfl hb13 rfl rfl rfl ?_; refine WL_guardN rfl hb13 rfl rfl rfl ?_; refine WL_guardN rfl hb13 rfl rfl rfl ?_; refine WL_guardN rfl hb13 rfl rfl rfl ?_; refine WL_guardN rfl hb13 rfl rfl rfl ?_; refine WL_val (rn_pickT (v := (.bool true)) rfl hb13 rfl) rfl ?_; refine WL_val (rn_move (v := (.bool true)) rfl) rfl ?_; refine WL_guardN rfl rfl rfl rfl rfl ?_; refine WL_guardN rfl rfl rfl rfl rfl ?_; refine WL_guardN rfl rfl rfl rfl rfl ?_; refine WL_guardN rfl rfl rfl rfl rfl ?_; refine WL_val (rn_pickT (v := (.bool true)) rfl rfl rfl) rfl ?_; refine WL_val (rn_move (v := (.bool true)) rfl) rfl ?_; refine WL_guardN rfl rfl rfl rfl rfl ?_; refine WL_guardN rfl rfl rfl rfl rfl ?_; refine WL_guardN rfl rfl rfl rfl rfl ?_; refine WL_guardN rfl rfl rfl rfl rfl ?_; refine WL_guardN rfl rfl rfl rfl rfl ?_; refine WL_guardN rfl rfl rfl rfl rfl ?_; refine WL_guardN rfl rfl rfl rfl rfl ?_; refine WL_val (rn_pickT (v := (.bool true)) rfl rfl rfl) rfl ?_; refine WL_val (rn_move (v := (.bool true)) rfl) rfl ?_; refine WL_guardN rfl rfl rfl rfl rfl ?_; refine WL_guardN rfl rfl rfl rfl rfl ?_; refine WL_guardN rfl rfl rfl rfl rfl ?_; refine WL_guardN rfl rfl rfl rfl rfl ?_; refine WL_val (rn_pickT (v := (.bool true)) rfl rfl rfl) rfl ?_; refine WL_val (rn_assign (v := (.bool true)) rfl) rfl ?_; refine WL_nil ?_
    have hO : Owns G6 w12 w0.heap.size ([]) := hO
    have H := Option.some.inj H; subst H
    exact ⟨_, G6, upds_self _ _ ⟨rfl, trivial⟩, Gle.refl _, hS, hO⟩
   ·have H := ifF hb13 H; refine WL_guardY rfl hb13 rfl rfl ?_; refine WL_val (rn_fld fd49_0 rfl) rfl ?_; refine WL_guardY rfl hb13 rfl rfl ?_; refine WL_val (rn_load na3 rfl (hS.sat.cell (hcb4 0 _ rfl))) rfl ?_; refine WL_guardY rfl hb13 rfl rfl ?_; refine WL_val (rn_fld fd49_1 rfl) rfl ?_; refine WL_guardY rfl hb13 rfl rfl ?_; refine WL_val (rn_load na3 rfl (hS.sat.cell (hcb4 1 _ rfl))) rfl ?_; refine WL_guardY rfl hb13 rfl rfl ?_; refine WL_val (rn_eql rfl rfl) rfl ?_; refine WL_val (rn_pickF (v := (.bool (x0.From == x0.To))) rfl hb13 rfl) rfl ?_; refine WL_val (rn_move (v := (.bool (x0.From == x0.To))) rfl) rfl ?_
    rcases bcases (x0.From == x0.To) with hb14 | hb14
    ·have H := ifT hb14 H; refine WL_guardN rfl hb14 rfl rfl rfl ?_; refine WL_guardN rfl hb14 rfl rfl rfl ?_; refine WL_guardN rfl hb14 rfl rfl rfl ?_; refine WL_guardN rfl hb14 rfl rfl rfl ?_; refine WL_val (rn_pickT (v := (.bool true)) rfl hb14 rfl) rfl ?_; refine WL_val (rn_move (v := (.bool true)) rfl) rfl ?_; refine WL_guardN rfl rfl rfl rfl rfl ?_; refine WL_guardN rfl rfl rfl rfl rfl ?_; refine WL_guardN rfl rfl rfl rfl rfl ?_; refine WL_guardN rfl rfl rfl rfl rfl ?_; refine WL_guardN rfl rfl rfl rfl rfl ?_; refine WL_guardN rfl rfl rfl rfl rfl ?_; refine WL_guardN rfl rfl rfl rfl rfl ?_; refine WL_val (rn_pickT (v := (.bool true)) rfl rfl rfl) rfl ?_; refine WL_val (rn_move (v := (.bool true)) rfl) rfl ?_; refine WL_guardN rfl rfl rfl rfl rfl ?_; refine WL_guardN rfl rfl rfl rfl rfl ?_; refine WL_guardN rfl rfl rfl rfl rfl ?_; refine WL_guardN rfl rfl rfl rfl rfl ?_; refine WL_val (rn_pickT (v := (.bool true)) rfl rfl rfl) rfl ?_; refine WL_val (rn_assign (v := (.bool true)) rfl) rfl ?_; refine WL_nil ?_
     have hO : Owns G6 w12 w0.heap.size ([]) := hO
     have H := Option.some.inj H; subst H
     exact ⟨_, G6, upds_self _ _ ⟨rfl, trivial⟩, Gle.refl _, hS, hO⟩
    ·have H := ifF hb14 H; refine WL_guardY rfl hb14 rfl rfl ?_; refine WL_val (rn_fld fd49_2 rfl) rfl ?_; refine WL_guardY rfl hb14 rfl rfl ?_; refine WL_val (rn_fld fd25_0 rfl) rfl ?_; refine WL_guardY rfl hb14 rfl rfl ?_; refine WL_val (rn_load na3 rfl (hS.sat.cell (hcb4 2 _ rfl))) rfl ?_; refine WL_guardY rfl hb14 rfl rfl ?_; refine WL_val (rn_lss rfl rfl) rfl ?_; refine WL_val (rn_pickF (v := (.bool (decide (x0.Years.Low < (-1000))))) rfl hb14 rfl) rfl ?_; refine WL_val (rn_move (v := (.bool (decide (x0.Years.Low < (-1000))))) rfl) rfl ?_
     rcases bcases (decide (x0.Years.Low < (-1000))) with hb15 | hb15
     ·have H := ifT hb15 H; refine WL_guardN rfl hb15 rfl rfl rfl ?_; refine WL_guardN rfl hb15 rfl rfl rfl ?_; refine WL_guardN rfl hb15 rfl rfl rfl ?_; refine WL_guardN rfl hb15 rfl rfl rfl ?_; refine WL_guardN rfl hb15 rfl rfl rfl ?_; refine WL_guardN rfl hb15 rfl rfl rfl ?_; refine WL_guardN rfl hb15 rfl rfl rfl ?_; refine WL_val (rn_pickT (v := (.bool true)) rfl hb15 rfl) rfl ?_; refine WL_val (rn_move (v := (.bool true)) rfl) rfl ?_; refine WL_guardN rfl rfl rfl rfl rfl ?_; refine WL_guardN rfl rfl rfl rfl rfl ?_; refine WL_guardN rfl rfl rfl rfl rfl ?_; refine WL_guardN rfl rfl rfl rfl rfl ?_; refine WL_val (rn_pickT (v := (.bool true)) rfl rfl rfl) rfl ?_; refine WL_val (rn_assign (v := (.bool true)) rfl) rfl ?_; refine WL_nil ?_
      have hO : Owns G6 w12 w0.heap.size ([]) := hO
      have H := Option.some.inj H; subst H
      exact ⟨_, G6, upds_self _ _ ⟨rfl, trivial⟩, Gle.refl _, hS, hO⟩
     ·have H := ifF hb15 H; refine WL_guardY rfl hb15 rfl rfl ?_; refine WL_val (rn_fld fd49_2 rfl) rfl ?_; refine WL_guardY rfl hb15 rfl rfl ?_; refine WL_val (rn_fld fd25_0 rfl) rfl ?_; refine WL_guardY rfl hb15 rfl rfl ?_; refine WL_val (rn_load na3 rfl (hS.sat.cell (hcb4 2 _ rfl))) rfl ?_; refine WL_guardY rfl hb15 rfl rfl ?_; refine WL_val (rn_fld fd49_2 rfl) rfl ?_; refine WL_guardY rfl hb15 rfl rfl ?_; refine WL_val (rn_fld fd25_1 rfl) rfl ?_; refine WL_guardY rfl hb15 rfl rfl ?_; refine WL_val (rn_load na3 rfl (hS.sat.cell (hcb4 3 _ rfl))) rfl ?_; refine WL_guardY rfl hb15 rfl rfl ?_; refine WL_val (rn_gtr rfl rfl) rfl ?_; refine WL_val (rn_pickF (v := (.bool (decide (x0.Years.High < x0.Years.Low)))) rfl hb15 rfl) rfl ?_; refine WL_val (rn_move (v := (.bool (decide (x0.Years.High < x0.Years.Low)))) rfl) rfl ?_
      rcases bcases (decide (x0.Years.High < x0.Years.Low)) with hb16 | hb16
      ·have H := ifT hb16 H; refine WL_guardN rfl hb16 rfl rfl rfl ?_; refine WL_guardN rfl hb16 rfl rfl rfl ?_; refine WL_guardN rfl hb16 rfl rfl rfl ?_; refine WL_guardN rfl hb16 rfl rfl rfl ?_; refine WL_val (rn_pickT (v := (.bool true)) rfl hb16 rfl) rfl ?_; refine WL_val (rn_assign (v := (.bool true)) rfl) rfl ?_; refine WL_nil ?_
       have hO : Owns G6 w12 w0.heap.size ([]) := hO
       have H := Option.some.inj H; subst H
       exact ⟨_, G6, upds_self _ _ ⟨rfl, trivial⟩, Gle.refl _, hS, hO⟩
      ·have H := ifF hb16 H; refine WL_guardY rfl hb16 rfl rfl ?_; refine WL_val (rn_fld fd49_2 rfl) rfl ?_; refine WL_guardY rfl hb16 rfl rfl ?_; refine WL_val (rn_fld fd25_1 rfl) rfl ?_; refine WL_guardY rfl hb16 rfl rfl ?_; refine WL_val (rn_load na3 rfl (hS.sat.cell (hcb4 3 _ rfl))) rfl ?_; refine WL_guardY rfl hb16 rfl rfl ?_; refine WL_val (rn_gtr rfl rfl) rfl ?_; refine WL_val (rn_pickF (v := (.bool (decide (1000 < x0.Years.High)))) rfl hb16 rfl) rfl ?_; refine WL_val (rn_assign (v := (.bool (decide (1000 < x0.Years.High)))) rfl) rfl ?_; refine WL_nil ?_
       have hO : Owns G6 w12 w0.heap.size ([]) := hO
       have H := Option.some.inj H; subst H
       exact ⟨_, G6, upds_self _ _ ⟨rfl, trivial⟩, Gle.refl _, hS, hO⟩
 ·rintro F w17 ⟨Fb, G18, rfl, leG18, hS, hO⟩
  refine WC_ret ?_
  have H : some q7 = some r := H
  have H := Option.some.inj H; subst H
  exact ⟨rfl, hS.below⟩
end Go.Proofs.YtoklmemeanmfdaaGreat
