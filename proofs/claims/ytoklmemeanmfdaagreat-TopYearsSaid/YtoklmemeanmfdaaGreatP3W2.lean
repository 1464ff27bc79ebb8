/-
  The walks: each Go function computes its plain function (printed by a program of ours).
-/
import Derived.Test.YtoklmemeanmfdaaGreatRd
import Derived.Test.YtoklmemeanmfdaaGreatBsC
import Derived.Test.YtoklmemeanmfdaaGreatLib
import Derived.Test.YtoklmemeanmfdaaGreatKnF
import Derived.Test.YtoklmemeanmfdaaGreatP3W1
namespace Go.Proofs.YtoklmemeanmfdaaGreat
open Go.RowKit
set_option linter.unusedVariables false

set_option maxRecDepth 20000
set_option linter.unusedVariables false
set_option maxHeartbeats 1000000 in
theorem f33_ok {G0 : Gm} {w0 : World} (hS0 : Sat G0 w0) {x0 : TLandBook} {a1 : Option Addr} {n1 c1 : Nat} {a2 : Option Addr} {n2 c2 : Nat} {a3 : Option Addr} {n3 c3 : Nat} (h1 : RSl RTLandPerson 2 G0 a1 n1 c1 x0.People) (h2 : RSl RTLandEvent 2 G0 a2 n2 c2 x0.Events) (h3 : RSl RTLandMemory 4 G0 a3 n3 c3 x0.Memories) {r : Bool} (H : f33 x0 = some r) :
  Calls Tryz.prog 33 #[.agg #[.slice a1 n1 c1, .slice a2 n2 c2, .slice a3 n3 c3]] w0 (RetV w0 (.bool r)) := by
 have hS := Since.start hS0
 have hO : Owns G0 w0 w0.heap.size [] := Owns.nil (Nat.le_refl _)
 unfold f33 at H
 refine enter1 (N := 58) (shutV _ _) Tryz.func33 rfl rfl rfl rfl ?_; refine WC_seq ?_; refine WC_region ?_; refine WL_op rfl (OpP_newF (v := fun b => .pointer (some ⟨b, 0, none⟩)) (cs := [.slice a1 n1 c1, .slice a2 n2 c2, .slice a3 n3 c3]) (e := 43) (rn_boxA rfl) hS.sat rfl (fun b4 G6 w5 hg hcb4 => ?_)); have hS := hS.grow hg; have hO := hO.grow hg
 have leG6 := hg.le
 refine WL_val (rn_assign (v := (.bool false)) rfl) rfl ?_; refine WL_nil ?_; refine WC_seq ?_; refine WC_seq ?_; refine WC_region ?_; refine WL_val (rn_fld fd43_0 rfl) rfl ?_; refine WL_val (rn_load na39 rfl (hS.sat.cell (hcb4 0 _ rfl))) rfl ?_; refine WL_val (rn_len sl39 rfl rfl (h1.mono RTLandPerson_mono leG6).1) rfl ?_; refine WL_val (rn_move (v := (.int .i64 0)) rfl) rfl ?_; refine WL_nil ?_; obtain ⟨q9, hq9, H⟩ := bnd H; refine WC_cut (fun F w => ∃ (p8 : Unit) (Fb : Fr) (G : Gm), q9 = .inl p8 ∧ F = upds Fb [(1, .pointer (some ⟨b4, 0, none⟩))] ∧ Gle G6 G ∧ Since w0.heap.size G0 w0 G w ∧ Owns G w w0.heap.size []) ?_ ?_
 ·refine WC_block (WC_loop hq9 (fun s7 F w => ∃ (Fb : Fr) (G : Gm), F = upds Fb [(1, .pointer (some ⟨b4, 0, none⟩)), (6, .slice a1 n1 c1), (7, .int .i64 (x0.People.length : Int)), (8, .int .i64 s7)] ∧ Gle G6 G ∧ Since w0.heap.size G0 w0 G w ∧ Owns G w w0.heap.size []) ?_ ?_)
  ·have hO : Owns G6 w5 w0.heap.size ([]) := hO
   exact ⟨_, G6, upds_self _ _ ⟨rfl, rfl, rfl, rfl, trivial⟩, Gle.refl _, hS, hO⟩
  ·rintro s7 F w11 t10 ⟨Fb, G12, rfl, leG12, hS, hO⟩
   intro H1 hqq9
   have Hoq9 := H; have H := H1
   unfold f33_b0 at H
   refine WC_seq ?_; refine WC_region ?_; refine WL_val (rn_lss rfl rfl) rfl ?_; refine WL_nil ?_; refine WC_seq ?_; refine WC_cond rfl (fun hb13 => ?_) (fun hb13 => ?_)
   ·have H := ifT hb13 H; refine WC_skip ?_; refine WC_seq ?_; refine WC_block ?_; refine WC_seq ?_; refine WC_region ?_; refine WL_val (rn_move (v := (.int .i64 s7)) rfl) rfl ?_; obtain ⟨y14, hy14, H⟩ := bnd H
    have l0_2 := leG6.trans leG12
    refine WL_idx sl39 (h1.mono RTLandPerson_mono l0_2) hy14 rfl rfl rfl ?_
    rintro b15 o15 _ hcb15 _ ⟨⟩
    refine WL_val (rn_loadA ag38 (cs := [.int .i64 y14.Mother, .int .i64 y14.Adopted]) rfl rfl (fun j v hj => hS.sat.cell (hcb15.drop_take 0 2 j v hj))) rfl ?_
    refine WL_op rfl (OpP_newO (v := fun b => .pointer (some ⟨b, 0, none⟩)) (cs := [.int .i64 0, .int .i64 0]) (e := 38) (by kernel_rfl) hS.sat hO rfl 2 1 rfl (by decide) (fun b16 w17 hb hO => ?_))
    have hS := hS.keep hb; refine WL_val (rn_assign (v := (.int .i64 s7)) rfl) rfl ?_; refine WL_op rfl (OpP_store (vs := [.int .i64 y14.Mother, .int .i64 y14.Adopted]) sz38 hS hO (k := 0) rfl rfl rfl rfl rfl (one_all rfl) (Nat.le_of_ble_eq_true rfl) (fun w19 hS hO => ?_))
    have hO : Owns G12 w19 w0.heap.size ([⟨38, 2, 1, .slice (some ⟨b16, 0, none⟩) 1 1, [.int .i64 y14.Mother, .int .i64 y14.Adopted]⟩]) := hO
    obtain ⟨G20, leG20, hS, hO, hqG20, _⟩ := hO.freeze hS (k := 0) rfl
    have hcG20 : Cells G20 b16 0 [.int .i64 y14.Mother, .int .i64 y14.Adopted] := (hqG20 _ _ _ _ rfl)
    refine WL_nil ?_; refine WC_seq ?_; obtain ⟨q21, hq21, H⟩ := bnd H; refine WC_cut (fun F w => ∃ (Fb : Fr) (G : Gm), F = upds Fb [(1, .pointer (some ⟨b4, 0, none⟩)), (6, .slice a1 n1 c1), (7, .int .i64 (x0.People.length : Int)), (8, .int .i64 s7), (26, .bool q21)] ∧ Gle G20 G ∧ Since w0.heap.size G0 w0 G w ∧ Owns G w w0.heap.size []) ?_ ?_
    ·have Hoq21 := H; have H := hq21; refine WC_region ?_; refine WL_val (rn_fld fd38_0 rfl) rfl ?_; refine WL_val (rn_load na3 rfl (hS.sat.cell (hcG20 0 _ rfl))) rfl ?_; refine WL_val (rn_move (v := (.int .i64 s7)) rfl) rfl ?_; refine WL_val (rn_sub rfl rfl) rfl ?_; obtain ⟨y22, hy22, H⟩ := bnd H; refine WL_op rfl (OpP_callV cb36 (f36_ok (x0 := y14.Mother) (x1 := (-1)) (x2 := IntKind.i64.wrap (s7 - 1)) hS.sat  hy22) rfl rfl (fun w23 hb => ?_)); have hS := hS.keep hb; have hO := hO.below hb; refine WL_val (rn_not rfl) rfl ?_; refine WL_val (rn_move (v := (.bool (!y22))) rfl) rfl ?_
     rcases bcases (!y22) with hb24 | hb24
     ·have H := ifT hb24 H; refine WL_guardN rfl hb24 rfl rfl rfl ?_; refine WL_guardN rfl hb24 rfl rfl rfl ?_; refine WL_guardN rfl hb24 rfl rfl rfl ?_; refine WL_guardN rfl hb24 rfl rfl rfl ?_; refine WL_guardN rfl hb24 rfl rfl rfl ?_; refine WL_guardN rfl hb24 rfl rfl rfl ?_; refine WL_val (rn_pickT (v := (.bool true)) rfl hb24 rfl) rfl ?_; refine WL_nil ?_
      have hO : Owns G20 w23 w0.heap.size ([]) := hO
      have H := Option.some.inj H; subst H
      exact ⟨_, G20, upds_self _ _ ⟨rfl, rfl, rfl, rfl, rfl, trivial⟩, Gle.refl _, hS, hO⟩
     ·have H := ifF hb24 H; refine WL_guardY rfl hb24 rfl rfl ?_; refine WL_val (rn_fld fd38_1 rfl) rfl ?_; refine WL_guardY rfl hb24 rfl rfl ?_; refine WL_val (rn_load na3 rfl (hS.sat.cell (hcG20 1 _ rfl))) rfl ?_; refine WL_guardY rfl hb24 rfl rfl ?_; refine WL_val (rn_move (v := (.int .i64 s7)) rfl) rfl ?_; refine WL_guardY rfl hb24 rfl rfl ?_; refine WL_val (rn_sub rfl rfl) rfl ?_; refine WL_guardY rfl hb24 rfl rfl ?_; obtain ⟨y25, hy25, H⟩ := bnd H; refine WL_op rfl (OpP_callV cb36 (f36_ok (x0 := y14.Adopted) (x1 := (-1)) (x2 := IntKind.i64.wrap (s7 - 1)) hS.sat  hy25) rfl rfl (fun w26 hb => ?_)); have hS := hS.keep hb; have hO := hO.below hb; refine WL_guardY rfl hb24 rfl rfl ?_; refine WL_val (rn_not rfl) rfl ?_; refine WL_val (rn_pickF (v := (.bool (!y25))) rfl hb24 rfl) rfl ?_; refine WL_nil ?_
      have hO : Owns G20 w26 w0.heap.size ([]) := hO
      have H := Option.some.inj H; subst H
      exact ⟨_, G20, upds_self _ _ ⟨rfl, rfl, rfl, rfl, rfl, trivial⟩, Gle.refl _, hS, hO⟩
    ·rintro F w27 ⟨Fb, G28, rfl, leG28, hS, hO⟩
     refine WC_cond rfl (fun hb29 => ?_) (fun hb29 => ?_)
     ·have H := ifT hb29 H; refine WC_seq ?_; refine WC_region ?_; refine WL_val (rn_assign (v := (.bool false)) rfl) rfl ?_; refine WL_nil ?_; refine WC_ret ?_; have H := Option.some.inj H; subst H
      have hres := hqq9 _ rfl
      subst hres; have H := Hoq9
      have H : some false = some r := H
      have H := Option.some.inj H; subst H
      exact ⟨rfl, hS.below⟩
     ·have H := ifF hb29 H; refine WC_skip ?_; refine WC_region ?_; refine WL_val (rn_add rfl rfl) rfl ?_; refine WL_val (rn_move (v := (.int .i64 (IntKind.i64.wrap (s7 + 1)))) rfl) rfl ?_; refine WL_nil ?_
      have hO : Owns G28 w27 w0.heap.size ([]) := hO
      have H := Option.some.inj H; subst H; refine ⟨_, rfl, ?_⟩
      have l1_4 := (leG12.trans leG20).trans leG28
      exact ⟨_, G28, upds_self _ _ ⟨rfl, rfl, rfl, rfl, trivial⟩, l1_4, hS, hO⟩
   ·have H := ifF hb13 H; refine WC_exit rfl ?_
    have hO : Owns G12 w11 w0.heap.size ([]) := hO
    have H := Option.some.inj H; subst H
    have hres := hqq9 _ rfl
    subst hres
    exact ⟨_, _, G12, rfl, upds_self _ _ ⟨rfl, trivial⟩, leG12, hS, hO⟩
 ·rintro F w30 ⟨p8, Fb, G31, rfl, rfl, leG31, hS, hO⟩
  refine WC_seq ?_; obtain ⟨q32, hq32, H⟩ := bnd H; refine WC_cut (fun F w => ∃ (Fb : Fr) (G : Gm), F = upds Fb [(2, .bool q32)] ∧ Gle G31 G ∧ Since w0.heap.size G0 w0 G w ∧ Owns G w w0.heap.size []) ?_ ?_
  ·have Hoq32 := H; have H := hq32; refine WC_region ?_; refine WL_val (rn_fld fd43_0 rfl) rfl ?_; refine WL_val (rn_load na39 rfl ((hS.sat.le leG31).cell (hcb4 0 _ rfl))) rfl ?_
   have l0_2 := leG6.trans leG31
   refine WL_val (rn_len sl39 rfl rfl (h1.mono RTLandPerson_mono l0_2).1) rfl ?_; obtain ⟨y33, hy33, H⟩ := bnd H; refine WL_op rfl (OpP_callV cb36 (f36_ok (x0 := (x0.People.length : Int)) (x1 := 1) (x2 := 10) hS.sat  hy33) rfl rfl (fun w34 hb => ?_)); have hS := hS.keep hb; have hO := hO.below hb; refine WL_val (rn_move (v := (.bool y33)) rfl) rfl ?_
   rcases bcases y33 with hb35 | hb35
   ·have H := ifT hb35 H; refine WL_guardY rfl hb35 rfl rfl ?_; refine WL_val (rn_fld fd43_1 rfl) rfl ?_; refine WL_guardY rfl hb35 rfl rfl ?_; refine WL_val (rn_load na40 rfl ((hS.sat.le leG31).cell (hcb4 1 _ rfl))) rfl ?_; refine WL_guardY rfl hb35 rfl rfl ?_; refine WL_val (rn_len sl40 rfl rfl (h2.mono RTLandEvent_mono l0_2).1) rfl ?_; refine WL_guardY rfl hb35 rfl rfl ?_; obtain ⟨y36, hy36, H⟩ := bnd H; refine WL_op rfl (OpP_callV cb36 (f36_ok (x0 := (x0.Events.length : Int)) (x1 := 1) (x2 := 7) hS.sat  hy36) rfl rfl (fun w37 hb => ?_)); have hS := hS.keep hb; have hO := hO.below hb; refine WL_val (rn_pickT (v := (.bool y36)) rfl hb35 rfl) rfl ?_; refine WL_val (rn_move (v := (.bool y36)) rfl) rfl ?_
    rcases bcases y36 with hb38 | hb38
    ·have H := ifT hb38 H; refine WL_guardY rfl hb38 rfl rfl ?_; refine WL_val (rn_fld fd43_2 rfl) rfl ?_; refine WL_guardY rfl hb38 rfl rfl ?_; refine WL_val (rn_load na41 rfl ((hS.sat.le leG31).cell (hcb4 2 _ rfl))) rfl ?_; refine WL_guardY rfl hb38 rfl rfl ?_; refine WL_val (rn_len sl41 rfl rfl (h3.mono RTLandMemory_mono l0_2).1) rfl ?_; refine WL_guardY rfl hb38 rfl rfl ?_; refine WL_val (rn_leq rfl rfl) rfl ?_; refine WL_val (rn_pickT (v := (.bool (decide ((x0.Memories.length : Int) ≤ 10)))) rfl hb38 rfl) rfl ?_; refine WL_val (rn_move (v := (.bool (decide ((x0.Memories.length : Int) ≤ 10)))) rfl) rfl ?_
     rcases bcases (decide ((x0.Memories.length : Int) ≤ 10)) with hb39 | hb39
     ·have H := ifT hb39 H; refine WL_guardY rfl hb39 rfl rfl ?_; refine WL_val (rn_fld fd43_1 rfl) rfl ?_; refine WL_guardY rfl hb39 rfl rfl ?_; refine WL_val (rn_load na40 rfl ((hS.sat.le leG31).cell (hcb4 1 _ rfl))) rfl ?_; refine WL_guardY rfl hb39 rfl rfl ?_
      have hF40 : FnOk152 G31 66 [] [.pointer (some ⟨b4, 0, none⟩)] (fun (z0 : TLandEvent) => f66 z0 x0) := ⟨cb66, fun G1 W1 hl hw z0 r1 H1 => f66_ok (x0 := z0) (x1 := x0) hw ((hcb4.mono leG31).mono hl) ((h1.mono RTLandPerson_mono l0_2).mono RTLandPerson_mono hl) ((h2.mono RTLandEvent_mono l0_2).mono RTLandEvent_mono hl) ((h3.mono RTLandMemory_mono l0_2).mono RTLandMemory_mono hl) H1⟩
      refine WL_val (rn_func (vs := []) (us := [.pointer (some ⟨b4, 0, none⟩)]) rfl rfl) rfl ?_; refine WL_guardY rfl hb39 rfl rfl ?_; obtain ⟨y41, hy41, H⟩ := bnd H; refine WL_op rfl (OpP_callV cb65 (f65_ok (x0 := x0.Events) (x1 := (fun (z0 : TLandEvent) => f66 z0 x0)) hS.sat (h2.mono RTLandEvent_mono l0_2) hF40 hy41) rfl rfl (fun w42 hb => ?_)); have hS := hS.keep hb; have hO := hO.below hb; refine WL_guardY rfl hb39 rfl rfl ?_; refine WL_val (rn_not rfl) rfl ?_; refine WL_val (rn_pickT (v := (.bool (!y41))) rfl hb39 rfl) rfl ?_; refine WL_val (rn_move (v := (.bool (!y41))) rfl) rfl ?_
      rcases bcases (!y41) with hb43 | hb43
      ·have H := ifT hb43 H; refine WL_guardY rfl hb43 rfl rfl ?_; refine WL_val (rn_fld fd43_2 rfl) rfl ?_; refine WL_guardY rfl hb43 rfl rfl ?_; refine WL_val (rn_load na41 rfl ((hS.sat.le leG31).cell (hcb4 2 _ rfl))) rfl ?_; refine WL_guardY rfl hb43 rfl rfl ?_
       have hF44 : FnOk96 G31 67 [] [.pointer (some ⟨b4, 0, none⟩)] (fun (z0 : TLandMemory) => f67 z0 x0) := ⟨cb67, fun G1 W1 hl hw z0 r1 H1 => f67_ok (x0 := z0) (x1 := x0) hw ((hcb4.mono leG31).mono hl) ((h1.mono RTLandPerson_mono l0_2).mono RTLandPerson_mono hl) ((h2.mono RTLandEvent_mono l0_2).mono RTLandEvent_mono hl) ((h3.mono RTLandMemory_mono l0_2).mono RTLandMemory_mono hl) H1⟩
       refine WL_val (rn_func (vs := []) (us := [.pointer (some ⟨b4, 0, none⟩)]) rfl rfl) rfl ?_; refine WL_guardY rfl hb43 rfl rfl ?_; obtain ⟨y45, hy45, H⟩ := bnd H; refine WL_op rfl (OpP_callV cb37 (f37_ok (x0 := x0.Memories) (x1 := (fun (z0 : TLandMemory) => f67 z0 x0)) hS.sat (h3.mono RTLandMemory_mono l0_2) hF44 hy45) rfl rfl (fun w46 hb => ?_)); have hS := hS.keep hb; have hO := hO.below hb; refine WL_guardY rfl hb43 rfl rfl ?_; refine WL_val (rn_not rfl) rfl ?_; refine WL_val (rn_pickT (v := (.bool (!y45))) rfl hb43 rfl) rfl ?_; refine WL_val (rn_assign (v := (.bool (!y45))) rfl) rfl ?_; refine WL_nil ?_
       have hO : Owns G31 w46 w0.heap.size ([]) := hO
       have H := Option.some.inj H; subst H
       exact ⟨_, G31, upds_self _ _ ⟨rfl, trivial⟩, Gle.refl _, hS, hO⟩
      ·have H := ifF hb43 H; refine WL_guardN rfl hb43 rfl rfl rfl ?_; refine WL_guardN rfl hb43 rfl rfl rfl ?_; refine WL_guardN rfl hb43 rfl rfl rfl ?_; refine WL_guardN rfl hb43 rfl rfl rfl ?_; refine WL_guardN rfl hb43 rfl rfl rfl ?_; refine WL_val (rn_pickF (v := (.bool false)) rfl hb43 rfl) rfl ?_; refine WL_val (rn_assign (v := (.bool false)) rfl) rfl ?_; refine WL_nil ?_
       have hO : Owns G31 w42 w0.heap.size ([]) := hO
       have H := Option.some.inj H; subst H
       exact ⟨_, G31, upds_self _ _ ⟨rfl, trivial⟩, Gle.refl _, hS, hO⟩
     ·have H := ifF hb39 H; refine WL_guardN rfl hb39 rfl rfl rfl ?_; refine WL_guardN rfl hb39 rfl rfl rfl ?_; refine WL_guardN rfl hb39 rfl rfl rfl ?_; refine WL_guardN rfl hb39 rfl rfl rfl ?_; refine WL_guardN rfl hb39 rfl rfl rfl ?_; refine WL_val (rn_pickF (v := (.bool false)) rfl hb39 rfl) rfl ?_; refine WL_val (rn_move (v := (.bool false)) rfl) rfl ?_; refine WL_guardN rfl rfl rfl rfl rfl ?_; refine WL_guardN rfl rfl rfl rfl rfl ?_; refine WL_guardN rfl rfl rfl rfl rfl ?_; refine WL_guardN rfl rfl rfl rfl rfl ?_; refine WL_guardN rfl rfl rfl rfl rfl ?_; refine WL_val (rn_pickF (v := (.bool false)) rfl rfl rfl) rfl ?_; refine WL_val (rn_assign (v := (.bool false)) rfl) rfl ?_; refine WL_nil ?_
      have hO : Owns G31 w37 w0.heap.size ([]) := hO
      have H := Option.some.inj H; subst H
      exact ⟨_, G31, upds_self _ _ ⟨rfl, trivial⟩, Gle.refl _, hS, hO⟩
    ·have H := ifF hb38 H; refine WL_guardN rfl hb38 rfl rfl rfl ?_; refine WL_guardN rfl hb38 rfl rfl rfl ?_; refine WL_guardN rfl hb38 rfl rfl rfl ?_; refine WL_guardN rfl hb38 rfl rfl rfl ?_; refine WL_val (rn_pickF (v := (.bool false)) rfl hb38 rfl) rfl ?_; refine WL_val (rn_move (v := (.bool false)) rfl) rfl ?_; refine WL_guardN rfl rfl rfl rfl rfl ?_; refine WL_guardN rfl rfl rfl rfl rfl ?_; refine WL_guardN rfl rfl rfl rfl rfl ?_; refine WL_guardN rfl rfl rfl rfl rfl ?_; refine WL_guardN rfl rfl rfl rfl rfl ?_; refine WL_val (rn_pickF (v := (.bool false)) rfl rfl rfl) rfl ?_; refine WL_val (rn_move (v := (.bool false)) rfl) rfl ?_; refine WL_guardN rfl rfl rfl rfl rfl ?_; refine WL_guardN rfl rfl rfl rfl rfl ?_; refine WL_guardN rfl rfl rfl rfl rfl ?_; refine WL_guardN rfl rfl rfl rfl rfl ?_; refine WL_guardN rfl rfl rfl rfl rfl ?_; refine WL_val (rn_pickF (v := (.bool false)) rfl rfl rfl) rfl ?_; refine WL_val (rn_assign (v := (.bool false)) rfl) rfl ?_; refine WL_nil ?_
     have hO : Owns G31 w37 w0.heap.size ([]) := hO
     have H := Option.some.inj H; subst H
     exact ⟨_, G31, upds_self _ _ ⟨rfl, trivial⟩, Gle.refl _, hS, hO⟩
   ·have H := ifF hb35 H; refine WL_guardN rfl hb35 rfl rfl rfl ?_; refine WL_guardN rfl hb35 rfl rfl rfl ?_; refine WL_guardN rfl hb35 rfl rfl rfl ?_; refine WL_guardN rfl hb35 rfl rfl rfl ?_; refine WL_val (rn_pickF (v := (.bool false)) rfl hb35 rfl) rfl ?_; refine WL_val (rn_move (v := (.bool false)) rfl) rfl ?_; refine WL_guardN rfl rfl rfl rfl rfl ?_; refine WL_guardN rfl rfl rfl rfl rfl ?_; refine WL_guardN rfl rfl rfl rfl rfl ?_; refine WL_guardN rfl rfl rfl rfl rfl ?_; refine WL_val (rn_pickF (v := (.bool false)) rfl rfl rfl) rfl ?_; refine WL_val (rn_move (v := (.bool false)) rfl) rfl ?_; refine WL_guardN rfl rfl rfl rfl rfl ?_; refine WL_guardN rfl rfl rfl rfl rfl ?_; refine WL_guardN rfl rfl rfl rfl rfl ?_; refine WL_guardN rfl rfl rfl rfl rfl ?_; refine WL_guardN rfl rfl rfl rfl rfl ?_; refine WL_val (rn_pickF (v := (.bool false)) rfl rfl rfl) rfl ?_; refine WL_val (rn_move (v := (.bool false)) rfl) rfl ?_; refine WL_guardN rfl rfl rfl rfl rfl ?_; refine WL_guardN rfl rfl rfl rfl rfl ?_; refine WL_guardN rfl rfl rfl rfl rfl ?_; refine WL_guardN rfl rfl rfl rfl rfl ?_; refine WL_guardN rfl rfl rfl rfl rfl ?_; refine WL_val (rn_pickF (v := (.bool false)) rfl rfl rfl) rfl ?_; refine WL_val (rn_assign (v := (.bool false)) rfl) rfl ?_; refine WL_nil ?_
    have hO : Owns G31 w34 w0.heap.size ([]) := hO
    have H := Option.some.inj H; subst H
    exact ⟨_, G31, upds_self _ _ ⟨rfl, trivial⟩, Gle.refl _, hS, hO⟩
  ·rintro F w47 ⟨Fb, G48, rfl, leG48, hS, hO⟩
   refine WC_ret ?_
   have H : some q32 = some r := H
   have H := Option.some.inj H; subst H
   exact ⟨rfl, hS.below⟩
set_option maxHeartbeats 1000000 in
theorem f35_ok {G0 : Gm} {w0 : World} (hS0 : Sat G0 w0) {x0 : Int}  {r : Bool} (H : f35 x0 = some r) :
  Calls Tryz.prog 35 #[.int .i64 x0] w0 (RetV w0 (.bool r)) := by
 have hS := Since.start hS0
 have hO : Owns G0 w0 w0.heap.size [] := Owns.nil (Nat.le_refl _)
 unfold f35 at H
 refine enter1 (N := 6) (shutV _ _) Tryz.func35 rfl rfl rfl rfl ?_; refine WC_seq ?_; refine WC_region ?_; refine WL_val (rn_assign (v := (.bool false)) rfl) rfl ?_; refine WL_nil ?_; refine WC_seq ?_; refine WC_region ?_; refine WL_val (rn_move (v := (.int .i64 x0)) rfl) rfl ?_; obtain ⟨y1, hy1, H⟩ := bnd H; refine WL_op rfl (OpP_callV cb36 (f36_ok (x0 := x0) (x1 := 0) (x2 := 1000) hS.sat  hy1) rfl rfl (fun w2 hb => ?_)); have hS := hS.keep hb; have hO := hO.below hb; refine WL_val (rn_not rfl) rfl ?_; refine WL_val (rn_assign (v := (.bool (!y1))) rfl) rfl ?_; refine WL_nil ?_; refine WC_ret ?_
 have H : some (!y1) = some r := H
 have H := Option.some.inj H; subst H
 exact ⟨rfl, hS.below⟩
set_option maxHeartbeats 1000000 in
theorem f38_ok {G0 : Gm} {w0 : World} (hS0 : Sat G0 w0) {x0 : TLandMemory} {x1 : (List Int)} {bq1 : Nat} {a1 : Option Addr} {n1 c1 : Nat} (hcq1 : Cells G0 bq1 0 [.slice a1 n1 c1]) (h1 : RSl RInt 1 G0 a1 n1 c1 x1) {r : Bool} (H : f38 x0 x1 = some r) :
  Calls Tryz.prog 38 #[.agg #[.int .i64 x0.From, .int .i64 x0.To, .int .i64 x0.Years.Low, .int .i64 x0.Years.High], .pointer (some ⟨bq1, 0, none⟩)] w0 (RetV w0 (.bool r)) := by
 have hS := Since.start hS0
 have hO : Owns G0 w0 w0.heap.size [] := Owns.nil (Nat.le_refl _)
 unfold f38 at H
 refine enter1 (N := 23) (shutV _ _) Tryz.func38 rfl rfl rfl rfl ?_; refine WC_seq ?_; refine WC_region ?_; refine WL_op rfl (OpP_newF (v := fun b => .pointer (some ⟨b, 0, none⟩)) (cs := [.int .i64 x0.From, .int .i64 x0.To, .int .i64 x0.Years.Low, .int .i64 x0.Years.High]) (e := 49) (rn_boxA rfl) hS.sat rfl (fun b2 G4 w3 hg hcb2 => ?_)); have hS := hS.grow hg; have hO := hO.grow hg
 have leG4 := hg.le
 refine WL_val (rn_assign (v := (.bool false)) rfl) rfl ?_; refine WL_nil ?_; refine WC_seq ?_; have hS := hS.keep (below_drew _); have hO := hO.below (below_drew _)
 refine WC_regionD mixedO (fun _ w => Sat G4 w ∧ True) (.fl 0 (.fl 1 (.fl 2 (.fl 3 (.fl 4 (.fl 5 (.fl 6 (.fl 7 (.fl 8 (.fl 9 (.fl 10 (.fl 11 (.fl 12 (.fl 13 (.on 14 (.on 15 (.on 16 (.on 17 (.on 18 (.on 19 .nil)))))))))))))))))))) (by kernel_rfl) rfl (by kernel_rfl) (fun _ => ⟨hS.sat, trivial⟩) ?_
 refine WD_val rfl (fun w hw => rn_load na22 rfl ((hw.1.le leG4).cell (hcq1 0 _ rfl))) rfl ?_; refine WD_val rfl (fun w hw => rn_fld fd49_1 rfl) rfl ?_; refine WD_val rfl (fun w hw => rn_load na3 rfl (hw.1.cell (hcb2 1 _ rfl))) rfl ?_; obtain ⟨y5, hy5, H⟩ := bnd H; refine WD_idx rfl sl22 (h1.mono RInt_mono leG4) hy5 rfl rfl rfl ?_
 rintro b6 o6 _ hcb6 _ ⟨⟩
 refine WD_val rfl (fun w hw => rn_load na3 rfl (hw.1.cell (hcb6 0 _ rfl))) rfl ?_; refine WD_val rfl (fun w hw => rn_load na22 rfl ((hw.1.le leG4).cell (hcq1 0 _ rfl))) rfl ?_; refine WD_val rfl (fun w hw => rn_fld fd49_0 rfl) rfl ?_; refine WD_val rfl (fun w hw => rn_load na3 rfl (hw.1.cell (hcb2 0 _ rfl))) rfl ?_; obtain ⟨y7, hy7, H⟩ := bnd H; refine WD_idx rfl sl22 (h1.mono RInt_mono leG4) hy7 rfl rfl rfl ?_
 rintro b8 o8 _ hcb8 _ ⟨⟩
 refine WD_val rfl (fun w hw => rn_load na3 rfl (hw.1.cell (hcb8 0 _ rfl))) rfl ?_; refine WD_val rfl (fun w hw => rn_sub rfl rfl) rfl ?_; refine WD_val rfl (fun w hw => rn_fld fd49_2 rfl) rfl ?_; refine WD_val rfl (fun w hw => rn_fld fd25_0 rfl) rfl ?_; refine WD_val rfl (fun w hw => rn_load na3 rfl (hw.1.cell (hcb2 2 _ rfl))) rfl ?_; refine WD_op rfl rfl (OpP_val (rn_fld fd49_2 rfl) rfl ?_); refine ⟨fun _ _ => ⟨hS.sat, trivial⟩, ?_⟩; refine WD_op rfl rfl (OpP_val (rn_fld fd25_1 rfl) rfl ?_); refine ⟨fun _ _ => ⟨hS.sat, trivial⟩, ?_⟩; refine WD_op rfl rfl (OpP_val (rn_load na3 rfl (hS.sat.cell (hcb2 3 _ rfl))) rfl ?_); refine ⟨fun _ _ => ⟨hS.sat, trivial⟩, ?_⟩; obtain ⟨y9, hy9, H⟩ := bnd H; refine WD_op rfl rfl (OpP_callV cb36 (f36_ok (x0 := IntKind.i64.wrap (y5 - y7)) (x1 := x0.Years.Low) (x2 := x0.Years.High) hS.sat  hy9) rfl rfl (fun w10 hb => ?_)); have hS := hS.keep hb; have hO := hO.below hb
 refine ⟨fun _ h => noneed (by kernel_rfl) h, ?_⟩
 refine WD_op rfl rfl (OpP_val (rn_not rfl) rfl ?_)
 refine ⟨fun _ h => noneed (by kernel_rfl) h, ?_⟩
 refine WD_op rfl rfl (OpP_val (rn_assign (v := (.bool (!y9))) rfl) rfl ?_)
 refine ⟨fun _ h => noneed (by kernel_rfl) h, ?_⟩
 refine WD_nil ?_; refine WC_ret ?_
 have H : some (!y9) = some r := H
 have H := Option.some.inj H; subst H
 exact ⟨rfl, hS.below⟩
set_option maxHeartbeats 1000000 in
theorem f10_ok {G0 : Gm} {w0 : World} (hS0 : Sat G0 w0) {x0 : TLandBook} {a1 : Option Addr} {n1 c1 : Nat} {a2 : Option Addr} {n2 c2 : Nat} {a3 : Option Addr} {n3 c3 : Nat} {x1 : (List Int)} {a4 : Option Addr} {n4 c4 : Nat} (h1 : RSl RTLandPerson 2 G0 a1 n1 c1 x0.People) (h2 : RSl RTLandEvent 2 G0 a2 n2 c2 x0.Events) (h3 : RSl RTLandMemory 4 G0 a3 n3 c3 x0.Memories) (h4 : RSl RInt 1 G0 a4 n4 c4 x1) {r : Bool × Int} (H : f10 x0 x1 = some r) :
  Calls Tryz.prog 10 #[.agg #[.slice a1 n1 c1, .slice a2 n2 c2, .slice a3 n3 c3], .slice a4 n4 c4] w0 (RetV w0 (.tuple #[.bool r.1, .int .i64 r.2])) := by
 have hS := Since.start hS0
 have hO : Owns G0 w0 w0.heap.size [] := Owns.nil (Nat.le_refl _)
 unfold f10 at H
 refine enter2 (N := 26) (shutV _ _) Tryz.func10 rfl rfl rfl rfl ?_; refine WC_seq ?_; refine WC_region ?_; refine WL_op rfl (OpP_newF (v := fun b => .pointer (some ⟨b, 0, none⟩)) (cs := [.slice a1 n1 c1, .slice a2 n2 c2, .slice a3 n3 c3]) (e := 43) (rn_boxA rfl) hS.sat rfl (fun b5 G7 w6 hg hcb5 => ?_)); have hS := hS.grow hg; have hO := hO.grow hg
 have leG7 := hg.le
 refine WL_op rfl (OpP_newF (v := fun b => .pointer (some ⟨b, 0, none⟩)) (cs := [.slice a4 n4 c4]) (e := 22) (rn_box1 rfl rfl) hS.sat rfl (fun b8 G10 w9 hg hcb8 => ?_)); have hS := hS.grow hg; have hO := hO.grow hg
 have leG10 := hg.le
 refine WL_val (rn_assign (v := (.bool false)) rfl) rfl ?_; refine WL_val (rn_assign (v := (.int .i64 0)) rfl) rfl ?_; refine WL_nil ?_; refine WC_seq ?_; refine WC_seq ?_; obtain ⟨q11, hq11, H⟩ := bnd H; refine WC_cut (fun F w => ∃ (Fb : Fr) (G : Gm), F = upds Fb [(2, .pointer (some ⟨b5, 0, none⟩)), (3, .pointer (some ⟨b8, 0, none⟩)), (20, .bool q11)] ∧ Gle G10 G ∧ Since w0.heap.size G0 w0 G w ∧ Owns G w w0.heap.size []) ?_ ?_
 ·have Hoq11 := H; have H := hq11; refine WC_region ?_; refine WL_val (rn_loadA ag43 (cs := [.slice a1 n1 c1, .slice a2 n2 c2, .slice a3 n3 c3]) rfl rfl (fun j v hj => (hS.sat.le leG10).cell (hcb5.drop_take 0 3 j v hj))) rfl ?_; obtain ⟨y12, hy12, H⟩ := bnd H
  have l0_2 := leG7.trans leG10
  refine WL_op rfl (OpP_callV cb33 (f33_ok (x0 := x0) hS.sat (h1.mono RTLandPerson_mono l0_2) (h2.mono RTLandEvent_mono l0_2) (h3.mono RTLandMemory_mono l0_2) hy12) rfl rfl (fun w13 hb => ?_)); have hS := hS.keep hb; have hO := hO.below hb; refine WL_val (rn_not rfl) rfl ?_; refine WL_val (rn_move (v := (.bool (!y12))) rfl) rfl ?_
  rcases bcases (!y12) with hb14 | hb14
  ·have H := ifT hb14 H; refine WL_guardN rfl hb14 rfl rfl rfl ?_; refine WL_guardN rfl hb14 rfl rfl rfl ?_; refine WL_guardN rfl hb14 rfl rfl rfl ?_; refine WL_guardN rfl hb14 rfl rfl rfl ?_; refine WL_guardN rfl hb14 rfl rfl rfl ?_; refine WL_guardN rfl hb14 rfl rfl rfl ?_; refine WL_val (rn_pickT (v := (.bool true)) rfl hb14 rfl) rfl ?_; refine WL_val (rn_move (v := (.bool true)) rfl) rfl ?_; refine WL_guardN rfl rfl rfl rfl rfl ?_; refine WL_guardN rfl rfl rfl rfl rfl ?_; refine WL_val (rn_pickT (v := (.bool true)) rfl rfl rfl) rfl ?_; refine WL_nil ?_
   have hO : Owns G10 w13 w0.heap.size ([]) := hO
   have H := Option.some.inj H; subst H
   exact ⟨_, G10, upds_self _ _ ⟨rfl, rfl, rfl, trivial⟩, Gle.refl _, hS, hO⟩
  ·have H := ifF hb14 H; refine WL_guardY rfl hb14 rfl rfl ?_; refine WL_val (rn_load na22 rfl (hS.sat.cell (hcb8 0 _ rfl))) rfl ?_; refine WL_guardY rfl hb14 rfl rfl ?_; refine WL_val (rn_len sl22 rfl rfl (h4.mono RInt_mono l0_2).1) rfl ?_; refine WL_guardY rfl hb14 rfl rfl ?_; refine WL_val (rn_fld fd43_1 rfl) rfl ?_; refine WL_guardY rfl hb14 rfl rfl ?_; refine WL_val (rn_load na40 rfl ((hS.sat.le leG10).cell (hcb5 1 _ rfl))) rfl ?_; refine WL_guardY rfl hb14 rfl rfl ?_; refine WL_val (rn_len sl40 rfl rfl (h2.mono RTLandEvent_mono l0_2).1) rfl ?_; refine WL_guardY rfl hb14 rfl rfl ?_; refine WL_val (rn_neq rfl rfl) rfl ?_; refine WL_val (rn_pickF (v := (.bool ((x1.length : Int) != (x0.Events.length : Int)))) rfl hb14 rfl) rfl ?_; refine WL_val (rn_move (v := (.bool ((x1.length : Int) != (x0.Events.length : Int)))) rfl) rfl ?_
   rcases bcases ((x1.length : Int) != (x0.Events.length : Int)) with hb15 | hb15
   ·have H := ifT hb15 H; refine WL_guardN rfl hb15 rfl rfl rfl ?_; refine WL_guardN rfl hb15 rfl rfl rfl ?_; refine WL_val (rn_pickT (v := (.bool true)) rfl hb15 rfl) rfl ?_; refine WL_nil ?_
    have hO : Owns G10 w13 w0.heap.size ([]) := hO
    have H := Option.some.inj H; subst H
    exact ⟨_, G10, upds_self _ _ ⟨rfl, rfl, rfl, trivial⟩, Gle.refl _, hS, hO⟩
   ·have H := ifF hb15 H; refine WL_guardY rfl hb15 rfl rfl ?_; refine WL_val (rn_load na22 rfl (hS.sat.cell (hcb8 0 _ rfl))) rfl ?_; refine WL_guardY rfl hb15 rfl rfl ?_
    have hF16 : FnOk30 G10 35 [] [] (fun (z0 : Int) => f35 z0) := ⟨cb35, fun G1 W1 hl hw z0 r1 H1 => f35_ok (x0 := z0) hw  H1⟩
    obtain ⟨y17, hy17, H⟩ := bnd H; refine WL_op rfl (OpP_callV cb34 (f34_ok (x0 := x1) (x1 := (fun (z0 : Int) => f35 z0)) hS.sat (h4.mono RInt_mono l0_2) hF16 hy17) rfl rfl (fun w18 hb => ?_)); have hS := hS.keep hb; have hO := hO.below hb; refine WL_val (rn_pickF (v := (.bool y17)) rfl hb15 rfl) rfl ?_; refine WL_nil ?_
    have hO : Owns G10 w18 w0.heap.size ([]) := hO
    have H := Option.some.inj H; subst H
    exact ⟨_, G10, upds_self _ _ ⟨rfl, rfl, rfl, trivial⟩, Gle.refl _, hS, hO⟩
 ·rintro F w19 ⟨Fb, G20, rfl, leG20, hS, hO⟩
  refine WC_cond rfl (fun hb21 => ?_) (fun hb21 => ?_)
  ·have H := ifT hb21 H; refine WC_seq ?_; refine WC_region ?_; refine WL_val (rn_assign (v := (.bool false)) rfl) rfl ?_; refine WL_val (rn_assign (v := (.int .i64 2)) rfl) rfl ?_; refine WL_nil ?_; refine WC_ret ?_
   have H : some (false, 2) = some r := H
   have H := Option.some.inj H; subst H
   exact ⟨rfl, hS.below⟩
  ·have H := ifF hb21 H; refine WC_skip ?_; refine WC_seq ?_; refine WC_region ?_; refine WL_val (rn_fld fd43_2 rfl) rfl ?_
   have l1_3 := leG10.trans leG20
   refine WL_val (rn_load na41 rfl ((hS.sat.le l1_3).cell (hcb5 2 _ rfl))) rfl ?_
   have l0_3 := leG7.trans l1_3
   have hF22 : FnOk96 G20 38 [] [.pointer (some ⟨b8, 0, none⟩)] (fun (z0 : TLandMemory) => f38 z0 x1) := ⟨cb38, fun G1 W1 hl hw z0 r1 H1 => f38_ok (x0 := z0) (x1 := x1) hw ((hcb8.mono leG20).mono hl) ((h4.mono RInt_mono l0_3).mono RInt_mono hl) H1⟩
   refine WL_val (rn_func (vs := []) (us := [.pointer (some ⟨b8, 0, none⟩)]) rfl rfl) rfl ?_; obtain ⟨y23, hy23, H⟩ := bnd H; refine WL_op rfl (OpP_callV cb37 (f37_ok (x0 := x0.Memories) (x1 := (fun (z0 : TLandMemory) => f38 z0 x1)) hS.sat (h3.mono RTLandMemory_mono l0_3) hF22 hy23) rfl rfl (fun w24 hb => ?_)); have hS := hS.keep hb; have hO := hO.below hb; refine WL_val (rn_not rfl) rfl ?_; refine WL_val (rn_assign (v := (.bool (!y23))) rfl) rfl ?_; refine WL_val (rn_assign (v := (.int .i64 0)) rfl) rfl ?_; refine WL_nil ?_; refine WC_ret ?_
   have H : some (!y23, 0) = some r := H
   have H := Option.some.inj H; subst H
   exact ⟨rfl, hS.below⟩
set_option maxHeartbeats 1000000 in
theorem f105_ok {G0 : Gm} {w0 : World} (hS0 : Sat G0 w0) {x0 : Int} {x1 : Int}  {r : Bool} (H : f105 x0 x1 = some r) :
  Calls Tryz.prog 105 #[.int .i64 x0, .int .i64 x1] w0 (RetV w0 (.bool r)) := by
 have hS := Since.start hS0
 have hO : Owns G0 w0 w0.heap.size [] := Owns.nil (Nat.le_refl _)
 unfold f105 at H
 refine enter1 (N := 10) (shutV _ _) Tryz.func105 rfl rfl rfl rfl ?_; refine WC_seq ?_; refine WC_region ?_; refine WL_val (rn_assign (v := (.bool false)) rfl) rfl ?_; refine WL_nil ?_; refine WC_seq ?_; refine WC_region ?_; refine WL_val (rn_move (v := (.int .i64 x0)) rfl) rfl ?_; refine WL_val (rn_move (v := (.int .i64 x1)) rfl) rfl ?_; obtain ⟨y1, hy1, H⟩ := bnd H; refine WL_val (rn_shr rfl rfl hy1) rfl ?_; refine WL_val (rn_and rfl rfl) rfl ?_; refine WL_val (rn_eql rfl rfl) rfl ?_; refine WL_val (rn_assign (v := (.bool ((andI .i64 y1 1) == 1))) rfl) rfl ?_; refine WL_nil ?_; refine WC_ret ?_
 have H : some ((andI .i64 y1 1) == 1) = some r := H
 have H := Option.some.inj H; subst H
 exact ⟨rfl, hS.below⟩
set_option maxHeartbeats 1000000 in
theorem f70_ok {G0 : Gm} {w0 : World} (hS0 : Sat G0 w0) {x0 : TLandBook} {bq0 : Nat} {rm4 : Nat} {a1 : Option Addr} {n1 c1 : Nat} {a2 : Option Addr} {n2 c2 : Nat} {a3 : Option Addr} {n3 c3 : Nat} {x1 : Int} (hcq0 : Cells G0 bq0 0 [.slice a1 n1 c1, .slice a2 n2 c2, .slice a3 n3 c3, .map (some rm4)]) (h1 : RSl RTLandPerson 2 G0 a1 n1 c1 x0.People) (h2 : RSl RTLandEvent 2 G0 a2 n2 c2 x0.Events) (h3 : RSl RTLandMemory 4 G0 a3 n3 c3 x0.Memories) {r : (Tb 64) × Bool} (H : f70 x0 x1 = some r) :
  Calls Tryz.prog 70 #[.pointer (some ⟨bq0, 0, none⟩), .int .i64 x1] w0 (RetV w0 (.tuple #[.agg (cellsT r.1).toArray, .bool r.2])) := by
 have hS := Since.start hS0
 have hO : Owns G0 w0 w0.heap.size [] := Owns.nil (Nat.le_refl _)
 unfold f70 at H
 refine enterG (N := 175) (shutV _ _) [.cell 4 99, .tmp 5] Tryz.func70 rfl rfl rfl rfl ?_; refine WC_seq ?_; refine WC_region ?_
 refine WL_op rfl (OpP_newO (v := fun b => .pointer (some ⟨b, 0, none⟩)) (cs := (cellsT (Tb.zero 64))) (e := 99) (by kernel_rfl) hS.sat hO rfl 64 1 (cellsT_len _) (by decide) (fun b5 w6 hb hO => ?_))
 have hS := hS.keep hb; refine WL_val (rn_assign (v := (.bool false)) rfl) rfl ?_; refine WL_nil ?_; refine WC_scope ?_; refine WC_seq ?_; refine WC_region ?_
 refine WL_op rfl (OpP_newO (v := fun b => .pointer (some ⟨b, 0, none⟩)) (cs := (cellsT (Tb.zero 64))) (e := 99) (by kernel_rfl) hS.sat hO rfl 64 1 (cellsT_len _) (by decide) (fun b8 w9 hb hO => ?_))
 have hS := hS.keep hb; refine WL_nil ?_; refine WC_seq ?_; refine WC_seq ?_; refine WC_region ?_; refine WL_val (rn_move (v := (.int .i64 0)) rfl) rfl ?_; refine WL_nil ?_; obtain ⟨q13, hq13, H⟩ := bnd H; refine WC_cut (fun F w => ∃ (Fb : Fr) (G : Gm), F = upds Fb [(0, .pointer (some ⟨bq0, 0, none⟩)), (1, .int .i64 x1), (4, .pointer (some ⟨b5, 0, none⟩)), (6, .pointer (some ⟨b8, 0, none⟩))] ∧ Gle G0 G ∧ Since w0.heap.size G0 w0 G w ∧ Owns G w w0.heap.size [⟨99, 64, 1, .slice (some ⟨b8, 0, none⟩) 1 1, cellsT q13.1⟩, ⟨99, 64, 1, .slice (some ⟨b5, 0, none⟩) 1 1, cellsT q13.2⟩]) ?_ ?_
 ·refine WC_block (WC_loop hq13 (fun s11 F w => ∃ (Fb : Fr) (G : Gm), F = upds Fb [(0, .pointer (some ⟨bq0, 0, none⟩)), (1, .int .i64 x1), (4, .pointer (some ⟨b5, 0, none⟩)), (6, .pointer (some ⟨b8, 0, none⟩)), (25, .int .i64 s11.1)] ∧ Gle G0 G ∧ Since w0.heap.size G0 w0 G w ∧ Owns G w w0.heap.size [⟨99, 64, 1, .slice (some ⟨b8, 0, none⟩) 1 1, cellsT s11.2.1⟩, ⟨99, 64, 1, .slice (some ⟨b5, 0, none⟩) 1 1, cellsT s11.2.2⟩]) ?_ ?_)
  ·have hO : Owns G0 w9 w0.heap.size ([⟨99, 64, 1, .slice (some ⟨b8, 0, none⟩) 1 1, cellsT (Tb.zero 64)⟩, ⟨99, 64, 1, .slice (some ⟨b5, 0, none⟩) 1 1, cellsT (Tb.zero 64)⟩]) := hO
   exact ⟨_, G0, upds_self _ _ ⟨rfl, rfl, rfl, rfl, rfl, trivial⟩, Gle.refl _, hS, hO⟩
  ·rintro s11 F w15 t14 ⟨Fb, G16, rfl, leG16, hS, hO⟩
   intro H1 hqq13
   have Hoq13 := H; have H := H1
   unfold f70_b0 at H
   refine WC_seq ?_; refine WC_region ?_; refine WL_val (rn_lss rfl rfl) rfl ?_; refine WL_nil ?_; refine WC_seq ?_; refine WC_cond rfl (fun hb17 => ?_) (fun hb17 => ?_)
   ·have H := ifT hb17 H; refine WC_skip ?_; refine WC_seq ?_; refine WC_block ?_; refine WC_seq ?_; refine WC_region ?_; refine WL_val (rn_move (v := (.int .i64 s11.1)) rfl) rfl ?_; refine WL_val (rn_assign (v := (.int .i64 s11.1)) rfl) rfl ?_; refine WL_nil ?_; refine WC_seq ?_; refine WC_region ?_; refine WL_val (rn_move (v := (.int .i64 0)) rfl) rfl ?_; refine WL_nil ?_; obtain ⟨q20, hq20, H⟩ := bnd H; refine WC_cut (fun F w => ∃ (Fb : Fr) (G : Gm), F = upds Fb [(0, .pointer (some ⟨bq0, 0, none⟩)), (1, .int .i64 x1), (4, .pointer (some ⟨b5, 0, none⟩)), (6, .pointer (some ⟨b8, 0, none⟩)), (25, .int .i64 s11.1)] ∧ Gle G16 G ∧ Since w0.heap.size G0 w0 G w ∧ Owns G w w0.heap.size [⟨99, 64, 1, .slice (some ⟨b8, 0, none⟩) 1 1, cellsT q20.1⟩, ⟨99, 64, 1, .slice (some ⟨b5, 0, none⟩) 1 1, cellsT q20.2⟩]) ?_ ?_
    ·refine WC_block (WC_loop hq20 (fun s18 F w => ∃ (Fb : Fr) (G : Gm), F = upds Fb [(0, .pointer (some ⟨bq0, 0, none⟩)), (1, .int .i64 x1), (4, .pointer (some ⟨b5, 0, none⟩)), (6, .pointer (some ⟨b8, 0, none⟩)), (7, .int .i64 s11.1), (25, .int .i64 s11.1), (28, .int .i64 s18.1)] ∧ Gle G16 G ∧ Since w0.heap.size G0 w0 G w ∧ Owns G w w0.heap.size [⟨99, 64, 1, .slice (some ⟨b8, 0, none⟩) 1 1, cellsT s18.2.1⟩, ⟨99, 64, 1, .slice (some ⟨b5, 0, none⟩) 1 1, cellsT s18.2.2⟩]) ?_ ?_)
     ·have hO : Owns G16 w15 w0.heap.size ([⟨99, 64, 1, .slice (some ⟨b8, 0, none⟩) 1 1, cellsT s11.2.1⟩, ⟨99, 64, 1, .slice (some ⟨b5, 0, none⟩) 1 1, cellsT s11.2.2⟩]) := hO
      exact ⟨_, G16, upds_self _ _ ⟨rfl, rfl, rfl, rfl, rfl, rfl, rfl, trivial⟩, Gle.refl _, hS, hO⟩
     ·rintro s18 F w22 t21 ⟨Fb, G23, rfl, leG23, hS, hO⟩
      intro H1 hqq20
      have Hoq20 := H; have H := H1
      unfold f70_b1 at H
      refine WC_seq ?_; refine WC_region ?_; refine WL_val (rn_lss rfl rfl) rfl ?_; refine WL_nil ?_; refine WC_seq ?_; refine WC_cond rfl (fun hb24 => ?_) (fun hb24 => ?_)
      ·have H := ifT hb24 H; refine WC_skip ?_; refine WC_seq ?_; obtain ⟨q25, hq25, H⟩ := bnd H; refine WC_cut (fun F w => ∃ (Fb : Fr) (G : Gm), F = upds Fb [(0, .pointer (some ⟨bq0, 0, none⟩)), (1, .int .i64 x1), (4, .pointer (some ⟨b5, 0, none⟩)), (6, .pointer (some ⟨b8, 0, none⟩)), (7, .int .i64 s11.1), (25, .int .i64 s11.1), (28, .int .i64 s18.1)] ∧ Gle G23 G ∧ Since w0.heap.size G0 w0 G w ∧ Owns G w w0.heap.size [⟨99, 64, 1, .slice (some ⟨b8, 0, none⟩) 1 1, cellsT q25⟩, ⟨99, 64, 1, .slice (some ⟨b5, 0, none⟩) 1 1, cellsT s18.2.2⟩]) ?_ ?_
       ·have Hoq25 := H; have H := hq25; refine WC_block ?_; refine WC_seq ?_; refine WC_region ?_; refine WL_val (rn_move (v := (.int .i64 s18.1)) rfl) rfl ?_; refine WL_val (rn_assign (v := (.int .i64 s18.1)) rfl) rfl ?_; refine WL_nil ?_; refine WC_seq ?_; refine WC_region ?_; refine WL_val (rn_move (v := (.int .i64 s11.1)) rfl) rfl ?_; refine WL_val (rn_move (v := (.int .i64 s18.1)) rfl) rfl ?_; refine WL_val (rn_neq rfl rfl) rfl ?_; refine WL_nil ?_; refine WC_cond rfl (fun hb26 => ?_) (fun hb26 => ?_)
        ·have H := ifT hb26 H; refine WC_region ?_; refine WL_val (rn_move (v := (.int .i64 s11.1)) rfl) rfl ?_; refine WL_val (rn_move (v := (.int .i64 s18.1)) rfl) rfl ?_; obtain ⟨j27, hj27, H⟩ := bnd H; refine WL_val (rn_idxA ar99 rfl rfl hj27) rfl ?_; obtain ⟨j28, hj28, H⟩ := bnd H
         have hl29 : 0 + j27 * 8 + j28 * 1 < 64 := by have := (ckI_some hj27).2; have := (ckI_some hj28).2; omega
         refine WL_val (rn_idxA ar97 rfl rfl hj28) rfl ?_; refine WL_op rfl (OpP_storeT sz3 hS hO (k := 0) rfl rfl rfl hl29 (fun w30 hS hO => ?_))
         have hO : Owns G23 w30 w0.heap.size ([⟨99, 64, 1, .slice (some ⟨b8, 0, none⟩) 1 1, cellsT (tset s18.2.1 (0 + j27 * 8 + j28 * 1) 2000)⟩, ⟨99, 64, 1, .slice (some ⟨b5, 0, none⟩) 1 1, cellsT s18.2.2⟩]) := hO
         refine WL_nil ?_
         have hO : Owns G23 w30 w0.heap.size ([⟨99, 64, 1, .slice (some ⟨b8, 0, none⟩) 1 1, cellsT (tset s18.2.1 (0 + j27 * 8 + j28 * 1) 2000)⟩, ⟨99, 64, 1, .slice (some ⟨b5, 0, none⟩) 1 1, cellsT s18.2.2⟩]) := hO
         have H := Option.some.inj H; subst H
         exact ⟨_, G23, upds_self _ _ ⟨rfl, rfl, rfl, rfl, rfl, rfl, rfl, trivial⟩, Gle.refl _, hS, hO⟩
        ·have H := ifF hb26 H; refine WC_skip ?_
         have hO : Owns G23 w22 w0.heap.size ([⟨99, 64, 1, .slice (some ⟨b8, 0, none⟩) 1 1, cellsT s18.2.1⟩, ⟨99, 64, 1, .slice (some ⟨b5, 0, none⟩) 1 1, cellsT s18.2.2⟩]) := hO
         have H := Option.some.inj H; subst H
         exact ⟨_, G23, upds_self _ _ ⟨rfl, rfl, rfl, rfl, rfl, rfl, rfl, trivial⟩, Gle.refl _, hS, hO⟩
       ·rintro F w31 ⟨Fb, G32, rfl, leG32, hS, hO⟩
        refine WC_region ?_; refine WL_val (rn_add rfl rfl) rfl ?_; refine WL_val (rn_move (v := (.int .i64 (IntKind.i64.wrap (s18.1 + 1)))) rfl) rfl ?_; refine WL_nil ?_
        have hO : Owns G32 w31 w0.heap.size ([⟨99, 64, 1, .slice (some ⟨b8, 0, none⟩) 1 1, cellsT q25⟩, ⟨99, 64, 1, .slice (some ⟨b5, 0, none⟩) 1 1, cellsT s18.2.2⟩]) := hO
        have H := Option.some.inj H; subst H; refine ⟨_, rfl, ?_⟩
        have l1_3 := leG23.trans leG32
        exact ⟨_, G32, upds_self _ _ ⟨rfl, rfl, rfl, rfl, rfl, rfl, rfl, trivial⟩, l1_3, hS, hO⟩
      ·have H := ifF hb24 H; refine WC_exit rfl ?_
       have hO : Owns G23 w22 w0.heap.size ([⟨99, 64, 1, .slice (some ⟨b8, 0, none⟩) 1 1, cellsT s18.2.1⟩, ⟨99, 64, 1, .slice (some ⟨b5, 0, none⟩) 1 1, cellsT s18.2.2⟩]) := hO
       have H := Option.some.inj H; subst H
       have hres := hqq20 _ rfl
       subst hres
       exact ⟨_, G23, upds_self _ _ ⟨rfl, rfl, rfl, rfl, rfl, trivial⟩, leG23, hS, hO⟩
    ·rintro F w33 ⟨Fb, G34, rfl, leG34, hS, hO⟩
     refine WC_region ?_; refine WL_val (rn_add rfl rfl) rfl ?_; refine WL_val (rn_move (v := (.int .i64 (IntKind.i64.wrap (s11.1 + 1)))) rfl) rfl ?_; refine WL_nil ?_
     have hO : Owns G34 w33 w0.heap.size ([⟨99, 64, 1, .slice (some ⟨b8, 0, none⟩) 1 1, cellsT q20.1⟩, ⟨99, 64, 1, .slice (some ⟨b5, 0, none⟩) 1 1, cellsT q20.2⟩]) := hO
     have H := Option.some.inj H; subst H; refine ⟨_, rfl, ?_⟩
     have l0_2 := leG16.trans leG34
     exact ⟨_, G34, upds_self _ _ ⟨rfl, rfl, rfl, rfl, rfl, trivial⟩, l0_2, hS, hO⟩
   ·have H := ifF hb17 H; refine WC_exit rfl ?_
    have hO : Owns G16 w15 w0.heap.size ([⟨99, 64, 1, .slice (some ⟨b8, 0, none⟩) 1 1, cellsT s11.2.1⟩, ⟨99, 64, 1, .slice (some ⟨b5, 0, none⟩) 1 1, cellsT s11.2.2⟩]) := hO
    have H := Option.some.inj H; subst H
    have hres := hqq13 _ rfl
    subst hres
    exact ⟨_, G16, upds_self _ _ ⟨rfl, rfl, rfl, rfl, trivial⟩, leG16, hS, hO⟩
 ·rintro F w35 ⟨Fb, G36, rfl, leG36, hS, hO⟩
  refine WC_seq ?_; refine WC_region ?_; refine WL_val (v := (.func (.func 104) ([] : List Value).toArray ([.pointer (some ⟨b8, 0, none⟩)] : List Value).toArray)) (rn_func (vs := []) (us := [.pointer (some ⟨b8, 0, none⟩)]) rfl rfl) rfl ?_; refine WL_val (rn_assign (v := (.func (.func 104) ([] : List Value).toArray ([.pointer (some ⟨b8, 0, none⟩)] : List Value).toArray)) rfl) rfl ?_; refine WL_nil ?_; refine WC_seq ?_; refine WC_seq ?_; refine WC_region ?_; refine WL_val (rn_move (v := (.pointer (some ⟨bq0, 0, none⟩))) rfl) rfl ?_
  refine WL_val (v := (.pointer (some ⟨bq0, 0, none⟩))) (by kernel_rfl) rfl ?_
  refine WL_val (rn_fld fd162_0 rfl) rfl ?_; refine WL_val (rn_fld fd43_1 rfl) rfl ?_; refine WL_val (rn_load na40 rfl ((hS.sat.le leG36).cell (hcq0 1 _ rfl))) rfl ?_; refine WL_val (rn_len sl40 rfl rfl (h2.mono RTLandEvent_mono leG36).1) rfl ?_; refine WL_val (rn_move (v := (.int .i64 0)) rfl) rfl ?_; refine WL_nil ?_; obtain ⟨q39, hq39, H⟩ := bnd H; refine WC_cut (fun F w => ∃ (Fb : Fr) (G : Gm), F = upds Fb [(0, .pointer (some ⟨bq0, 0, none⟩)), (1, .int .i64 x1), (4, .pointer (some ⟨b5, 0, none⟩)), (6, .pointer (some ⟨b8, 0, none⟩)), (9, .func (.func 104) ([] : List Value).toArray ([.pointer (some ⟨b8, 0, none⟩)] : List Value).toArray)] ∧ Gle G36 G ∧ Since w0.heap.size G0 w0 G w ∧ Owns G w w0.heap.size [⟨99, 64, 1, .slice (some ⟨b8, 0, none⟩) 1 1, cellsT q39.1⟩, ⟨99, 64, 1, .slice (some ⟨b5, 0, none⟩) 1 1, cellsT q39.2⟩]) ?_ ?_
  ·refine WC_block (WC_loop hq39 (fun s37 F w => ∃ (Fb : Fr) (G : Gm), F = upds Fb [(0, .pointer (some ⟨bq0, 0, none⟩)), (1, .int .i64 x1), (4, .pointer (some ⟨b5, 0, none⟩)), (6, .pointer (some ⟨b8, 0, none⟩)), (9, .func (.func 104) ([] : List Value).toArray ([.pointer (some ⟨b8, 0, none⟩)] : List Value).toArray), (46, .int .i64 (x0.Events.length : Int)), (47, .int .i64 s37.1)] ∧ Gle G36 G ∧ Since w0.heap.size G0 w0 G w ∧ Owns G w w0.heap.size [⟨99, 64, 1, .slice (some ⟨b8, 0, none⟩) 1 1, cellsT s37.2.1⟩, ⟨99, 64, 1, .slice (some ⟨b5, 0, none⟩) 1 1, cellsT s37.2.2⟩]) ?_ ?_)
   ·have hO : Owns G36 w35 w0.heap.size ([⟨99, 64, 1, .slice (some ⟨b8, 0, none⟩) 1 1, cellsT q13.1⟩, ⟨99, 64, 1, .slice (some ⟨b5, 0, none⟩) 1 1, cellsT q13.2⟩]) := hO
    exact ⟨_, G36, upds_self _ _ ⟨rfl, rfl, rfl, rfl, rfl, rfl, rfl, trivial⟩, Gle.refl _, hS, hO⟩
   ·rintro s37 F w41 t40 ⟨Fb, G42, rfl, leG42, hS, hO⟩
    intro H1 hqq39
    have Hoq39 := H; have H := H1
    unfold f70_b2 at H
    refine WC_seq ?_; refine WC_region ?_; refine WL_val (rn_lss rfl rfl) rfl ?_; refine WL_nil ?_; refine WC_seq ?_; refine WC_cond rfl (fun hb43 => ?_) (fun hb43 => ?_)
    ·have H := ifT hb43 H; refine WC_skip ?_; refine WC_seq ?_; obtain ⟨q44, hq44, H⟩ := bnd H; refine WC_cut (fun F w => ∃ (Fb : Fr) (G : Gm), F = upds Fb [(0, .pointer (some ⟨bq0, 0, none⟩)), (1, .int .i64 x1), (4, .pointer (some ⟨b5, 0, none⟩)), (6, .pointer (some ⟨b8, 0, none⟩)), (9, .func (.func 104) ([] : List Value).toArray ([.pointer (some ⟨b8, 0, none⟩)] : List Value).toArray), (46, .int .i64 (x0.Events.length : Int)), (47, .int .i64 s37.1)] ∧ Gle G42 G ∧ Since w0.heap.size G0 w0 G w ∧ Owns G w w0.heap.size [⟨99, 64, 1, .slice (some ⟨b8, 0, none⟩) 1 1, cellsT q44⟩, ⟨99, 64, 1, .slice (some ⟨b5, 0, none⟩) 1 1, cellsT s37.2.2⟩]) ?_ ?_
     ·have Hoq44 := H; have H := hq44; refine WC_block ?_; refine WC_seq ?_; refine WC_region ?_; refine WL_val (rn_move (v := (.int .i64 s37.1)) rfl) rfl ?_; refine WL_val (rn_assign (v := (.int .i64 s37.1)) rfl) rfl ?_; refine WL_nil ?_; refine WC_seq ?_; obtain ⟨q45, hq45, H⟩ := bnd H; refine WC_cut (fun F w => ∃ (Fb : Fr) (G : Gm), F = upds Fb [(0, .pointer (some ⟨bq0, 0, none⟩)), (1, .int .i64 x1), (4, .pointer (some ⟨b5, 0, none⟩)), (6, .pointer (some ⟨b8, 0, none⟩)), (9, .func (.func 104) ([] : List Value).toArray ([.pointer (some ⟨b8, 0, none⟩)] : List Value).toArray), (10, .int .i64 s37.1), (46, .int .i64 (x0.Events.length : Int)), (47, .int .i64 s37.1)] ∧ Gle G42 G ∧ Since w0.heap.size G0 w0 G w ∧ Owns G w w0.heap.size [⟨99, 64, 1, .slice (some ⟨b8, 0, none⟩) 1 1, cellsT q45⟩, ⟨99, 64, 1, .slice (some ⟨b5, 0, none⟩) 1 1, cellsT s37.2.2⟩]) ?_ ?_
      ·have Hoq45 := H; have H := hq45; refine WC_region ?_; refine WL_val (rn_move (v := (.func (.func 104) ([] : List Value).toArray ([.pointer (some ⟨b8, 0, none⟩)] : List Value).toArray)) rfl) rfl ?_; refine WL_val (rn_move (v := (.int .i64 s37.1)) rfl) rfl ?_; refine WL_op rfl (OpP_inC1 (N' := 20) (fi := []) (al := [.int .i64 7, .int .i64 s37.1, .int .i64 1000]) (ca := [.pointer (some ⟨b8, 0, none⟩)]) cb104 Tryz.func104 rfl rfl rfl rfl rfl rfl rfl ?_); refine WC_seq ?_; refine WC_region ?_; refine WL_val (rn_assign (v := (.bool false)) rfl) rfl ?_; refine WL_nil ?_; refine WC_seq ?_; refine WC_seq ?_; refine WC_region ?_; refine WL_val (rn_move (v := (.int .i64 1000)) rfl) rfl ?_; refine WL_val (rn_move (v := (.int .i64 7)) rfl) rfl ?_; refine WL_val (rn_move (v := (.int .i64 s37.1)) rfl) rfl ?_
       refine WL_val (rn_idxA ar99 rfl rfl (show ckI 7 8 = some 7 by decide)) rfl ?_
       obtain ⟨j46, hj46, H⟩ := bnd H
       have hl47 : 0 + 7 * 8 + j46 * 1 < 64 := by have := (ckI_some hj46).2; omega
       refine WL_val (rn_idxA ar97 rfl rfl hj46) rfl ?_; refine WL_val (rn_load na3 rfl (tab_cell hO (k := 0) rfl hl47)) rfl ?_; refine WL_val (rn_geq rfl rfl) rfl ?_; refine WL_nil ?_; refine WC_cond rfl (fun hb48 => ?_) (fun hb48 => ?_)
       ·have H := ifT hb48 H; refine WC_seq ?_; refine WC_region ?_; refine WL_val (rn_assign (v := (.bool false)) rfl) rfl ?_; refine WL_nil ?_; refine WC_ret ?_; refine ⟨(.bool false), rfl, ?_⟩
        have hO : Owns G42 w41 w0.heap.size ([⟨99, 64, 1, .slice (some ⟨b8, 0, none⟩) 1 1, cellsT s37.2.1⟩, ⟨99, 64, 1, .slice (some ⟨b5, 0, none⟩) 1 1, cellsT s37.2.2⟩]) := hO
        refine WL_nil ?_
        have hO : Owns G42 w41 w0.heap.size ([⟨99, 64, 1, .slice (some ⟨b8, 0, none⟩) 1 1, cellsT s37.2.1⟩, ⟨99, 64, 1, .slice (some ⟨b5, 0, none⟩) 1 1, cellsT s37.2.2⟩]) := hO
        have H := Option.some.inj H; subst H
        exact ⟨_, G42, upds_self _ _ ⟨rfl, rfl, rfl, rfl, rfl, rfl, rfl, rfl, trivial⟩, Gle.refl _, hS, hO⟩
       ·have H := ifF hb48 H; refine WC_skip ?_; refine WC_seq ?_; refine WC_region ?_; refine WL_val (rn_move (v := (.int .i64 7)) rfl) rfl ?_; refine WL_val (rn_move (v := (.int .i64 s37.1)) rfl) rfl ?_; refine WL_val (rn_move (v := (.int .i64 1000)) rfl) rfl ?_
        refine WL_val (rn_idxA ar99 rfl rfl (show ckI 7 8 = some 7 by decide)) rfl ?_
        obtain ⟨j49, hj49, H⟩ := bnd H
        have hl50 : 0 + 7 * 8 + j49 * 1 < 64 := by have := (ckI_some hj49).2; omega
        refine WL_val (rn_idxA ar97 rfl rfl hj49) rfl ?_; refine WL_op rfl (OpP_storeT sz3 hS hO (k := 0) rfl rfl rfl hl50 (fun w51 hS hO => ?_))
        have hO : Owns G42 w51 w0.heap.size ([⟨99, 64, 1, .slice (some ⟨b8, 0, none⟩) 1 1, cellsT (tset s37.2.1 (0 + 7 * 8 + j49 * 1) 1000)⟩, ⟨99, 64, 1, .slice (some ⟨b5, 0, none⟩) 1 1, cellsT s37.2.2⟩]) := hO
        refine WL_nil ?_; refine WC_seq ?_; refine WC_region ?_; refine WL_val (rn_assign (v := (.bool true)) rfl) rfl ?_; refine WL_nil ?_; refine WC_ret ?_; refine ⟨(.bool true), rfl, ?_⟩
        have hO : Owns G42 w51 w0.heap.size ([⟨99, 64, 1, .slice (some ⟨b8, 0, none⟩) 1 1, cellsT (tset s37.2.1 (0 + 7 * 8 + j49 * 1) 1000)⟩, ⟨99, 64, 1, .slice (some ⟨b5, 0, none⟩) 1 1, cellsT s37.2.2⟩]) := hO
        refine WL_nil ?_
        have hO : Owns G42 w51 w0.heap.size ([⟨99, 64, 1, .slice (some ⟨b8, 0, none⟩) 1 1, cellsT (tset s37.2.1 (0 + 7 * 8 + j49 * 1) 1000)⟩, ⟨99, 64, 1, .slice (some ⟨b5, 0, none⟩) 1 1, cellsT s37.2.2⟩]) := hO
        have H := Option.some.inj H; subst H
        exact ⟨_, G42, upds_self _ _ ⟨rfl, rfl, rfl, rfl, rfl, rfl, rfl, rfl, trivial⟩, Gle.refl _, hS, hO⟩
      ·rintro F w52 ⟨Fb, G53, rfl, leG53, hS, hO⟩
       refine WC_region ?_; refine WL_val (rn_move (v := (.func (.func 104) ([] : List Value).toArray ([.pointer (some ⟨b8, 0, none⟩)] : List Value).toArray)) rfl) rfl ?_; refine WL_val (rn_move (v := (.int .i64 s37.1)) rfl) rfl ?_; refine WL_op rfl (OpP_inC1 (N' := 20) (fi := []) (al := [.int .i64 s37.1, .int .i64 7, .int .i64 0]) (ca := [.pointer (some ⟨b8, 0, none⟩)]) cb104 Tryz.func104 rfl rfl rfl rfl rfl rfl rfl ?_); refine WC_seq ?_; refine WC_region ?_; refine WL_val (rn_assign (v := (.bool false)) rfl) rfl ?_; refine WL_nil ?_; refine WC_seq ?_; refine WC_seq ?_; refine WC_region ?_; refine WL_val (rn_move (v := (.int .i64 0)) rfl) rfl ?_; refine WL_val (rn_move (v := (.int .i64 s37.1)) rfl) rfl ?_; refine WL_val (rn_move (v := (.int .i64 7)) rfl) rfl ?_; obtain ⟨j54, hj54, H⟩ := bnd H; refine WL_val (rn_idxA ar99 rfl rfl hj54) rfl ?_
       have hl55 : 0 + j54 * 8 + 7 * 1 < 64 := by have := (ckI_some hj54).2; omega
       refine WL_val (rn_idxA ar97 rfl rfl (show ckI 7 8 = some 7 by decide)) rfl ?_
       refine WL_val (rn_load na3 rfl (tab_cell hO (k := 0) rfl hl55)) rfl ?_; refine WL_val (rn_geq rfl rfl) rfl ?_; refine WL_nil ?_; refine WC_cond rfl (fun hb56 => ?_) (fun hb56 => ?_)
       ·have H := ifT hb56 H; refine WC_seq ?_; refine WC_region ?_; refine WL_val (rn_assign (v := (.bool false)) rfl) rfl ?_; refine WL_nil ?_; refine WC_ret ?_; refine ⟨(.bool false), rfl, ?_⟩
        have hO : Owns G53 w52 w0.heap.size ([⟨99, 64, 1, .slice (some ⟨b8, 0, none⟩) 1 1, cellsT q45⟩, ⟨99, 64, 1, .slice (some ⟨b5, 0, none⟩) 1 1, cellsT s37.2.2⟩]) := hO
        refine WL_nil ?_
        have hO : Owns G53 w52 w0.heap.size ([⟨99, 64, 1, .slice (some ⟨b8, 0, none⟩) 1 1, cellsT q45⟩, ⟨99, 64, 1, .slice (some ⟨b5, 0, none⟩) 1 1, cellsT s37.2.2⟩]) := hO
        have H := Option.some.inj H; subst H
        exact ⟨_, G53, upds_self _ _ ⟨rfl, rfl, rfl, rfl, rfl, rfl, rfl, trivial⟩, leG53, hS, hO⟩
       ·have H := ifF hb56 H; refine WC_skip ?_; refine WC_seq ?_; refine WC_region ?_; refine WL_val (rn_move (v := (.int .i64 s37.1)) rfl) rfl ?_; refine WL_val (rn_move (v := (.int .i64 7)) rfl) rfl ?_; refine WL_val (rn_move (v := (.int .i64 0)) rfl) rfl ?_; obtain ⟨j57, hj57, H⟩ := bnd H; refine WL_val (rn_idxA ar99 rfl rfl hj57) rfl ?_
        have hl58 : 0 + j57 * 8 + 7 * 1 < 64 := by have := (ckI_some hj57).2; omega
        refine WL_val (rn_idxA ar97 rfl rfl (show ckI 7 8 = some 7 by decide)) rfl ?_
        refine WL_op rfl (OpP_storeT sz3 hS hO (k := 0) rfl rfl rfl hl58 (fun w59 hS hO => ?_))
        have hO : Owns G53 w59 w0.heap.size ([⟨99, 64, 1, .slice (some ⟨b8, 0, none⟩) 1 1, cellsT (tset q45 (0 + j57 * 8 + 7 * 1) 0)⟩, ⟨99, 64, 1, .slice (some ⟨b5, 0, none⟩) 1 1, cellsT s37.2.2⟩]) := hO
        refine WL_nil ?_; refine WC_seq ?_; refine WC_region ?_; refine WL_val (rn_assign (v := (.bool true)) rfl) rfl ?_; refine WL_nil ?_; refine WC_ret ?_; refine ⟨(.bool true), rfl, ?_⟩
        have hO : Owns G53 w59 w0.heap.size ([⟨99, 64, 1, .slice (some ⟨b8, 0, none⟩) 1 1, cellsT (tset q45 (0 + j57 * 8 + 7 * 1) 0)⟩, ⟨99, 64, 1, .slice (some ⟨b5, 0, none⟩) 1 1, cellsT s37.2.2⟩]) := hO
        refine WL_nil ?_
        have hO : Owns G53 w59 w0.heap.size ([⟨99, 64, 1, .slice (some ⟨b8, 0, none⟩) 1 1, cellsT (tset q45 (0 + j57 * 8 + 7 * 1) 0)⟩, ⟨99, 64, 1, .slice (some ⟨b5, 0, none⟩) 1 1, cellsT s37.2.2⟩]) := hO
        have H := Option.some.inj H; subst H
        exact ⟨_, G53, upds_self _ _ ⟨rfl, rfl, rfl, rfl, rfl, rfl, rfl, trivial⟩, leG53, hS, hO⟩
     ·rintro F w60 ⟨Fb, G61, rfl, leG61, hS, hO⟩
      refine WC_region ?_; refine WL_val (rn_add rfl rfl) rfl ?_; refine WL_val (rn_move (v := (.int .i64 (IntKind.i64.wrap (s37.1 + 1)))) rfl) rfl ?_; refine WL_nil ?_
      have hO : Owns G61 w60 w0.heap.size ([⟨99, 64, 1, .slice (some ⟨b8, 0, none⟩) 1 1, cellsT q44⟩, ⟨99, 64, 1, .slice (some ⟨b5, 0, none⟩) 1 1, cellsT s37.2.2⟩]) := hO
      have H := Option.some.inj H; subst H; refine ⟨_, rfl, ?_⟩
      have l1_3 := leG42.trans leG61
      exact ⟨_, G61, upds_self _ _ ⟨rfl, rfl, rfl, rfl, rfl, rfl, rfl, trivial⟩, l1_3, hS, hO⟩
    ·have H := ifF hb43 H; refine WC_exit rfl ?_
     have hO : Owns G42 w41 w0.heap.size ([⟨99, 64, 1, .slice (some ⟨b8, 0, none⟩) 1 1, cellsT s37.2.1⟩, ⟨99, 64, 1, .slice (some ⟨b5, 0, none⟩) 1 1, cellsT s37.2.2⟩]) := hO
     have H := Option.some.inj H; subst H
     have hres := hqq39 _ rfl
     subst hres
     exact ⟨_, G42, upds_self _ _ ⟨rfl, rfl, rfl, rfl, rfl, trivial⟩, leG42, hS, hO⟩
  ·rintro F w62 ⟨Fb, G63, rfl, leG63, hS, hO⟩
   refine WC_seq ?_; refine WC_seq ?_; refine WC_region ?_; refine WL_val (rn_move (v := (.pointer (some ⟨bq0, 0, none⟩))) rfl) rfl ?_
   refine WL_val (v := (.pointer (some ⟨bq0, 0, none⟩))) (by kernel_rfl) rfl ?_
   refine WL_val (rn_fld fd162_0 rfl) rfl ?_; refine WL_val (rn_fld fd43_2 rfl) rfl ?_
   have l0_2 := leG36.trans leG63
   refine WL_val (rn_load na41 rfl ((hS.sat.le l0_2).cell (hcq0 2 _ rfl))) rfl ?_; refine WL_val (rn_len sl41 rfl rfl (h3.mono RTLandMemory_mono l0_2).1) rfl ?_; refine WL_val (rn_move (v := (.int .i64 0)) rfl) rfl ?_; refine WL_nil ?_; obtain ⟨q66, hq66, H⟩ := bnd H; refine WC_cut (fun F w => ∃ (Fb : Fr) (G : Gm), F = upds Fb [(0, .pointer (some ⟨bq0, 0, none⟩)), (4, .pointer (some ⟨b5, 0, none⟩)), (6, .pointer (some ⟨b8, 0, none⟩)), (9, .func (.func 104) ([] : List Value).toArray ([.pointer (some ⟨b8, 0, none⟩)] : List Value).toArray)] ∧ Gle G63 G ∧ Since w0.heap.size G0 w0 G w ∧ Owns G w w0.heap.size [⟨99, 64, 1, .slice (some ⟨b8, 0, none⟩) 1 1, cellsT q66.1⟩, ⟨99, 64, 1, .slice (some ⟨b5, 0, none⟩) 1 1, cellsT q66.2⟩]) ?_ ?_
   ·refine WC_block (WC_loop hq66 (fun s64 F w => ∃ (Fb : Fr) (G : Gm), F = upds Fb [(0, .pointer (some ⟨bq0, 0, none⟩)), (1, .int .i64 x1), (4, .pointer (some ⟨b5, 0, none⟩)), (6, .pointer (some ⟨b8, 0, none⟩)), (9, .func (.func 104) ([] : List Value).toArray ([.pointer (some ⟨b8, 0, none⟩)] : List Value).toArray), (61, .slice a3 n3 c3), (62, .int .i64 (x0.Memories.length : Int)), (63, .int .i64 s64.1)] ∧ Gle G63 G ∧ Since w0.heap.size G0 w0 G w ∧ Owns G w w0.heap.size [⟨99, 64, 1, .slice (some ⟨b8, 0, none⟩) 1 1, cellsT s64.2.1⟩, ⟨99, 64, 1, .slice (some ⟨b5, 0, none⟩) 1 1, cellsT s64.2.2⟩]) ?_ ?_)
    ·have hO : Owns G63 w62 w0.heap.size ([⟨99, 64, 1, .slice (some ⟨b8, 0, none⟩) 1 1, cellsT q39.1⟩, ⟨99, 64, 1, .slice (some ⟨b5, 0, none⟩) 1 1, cellsT q39.2⟩]) := hO
     exact ⟨_, G63, upds_self _ _ ⟨rfl, rfl, rfl, rfl, rfl, rfl, rfl, rfl, trivial⟩, Gle.refl _, hS, hO⟩
    ·rintro s64 F w68 t67 ⟨Fb, G69, rfl, leG69, hS, hO⟩
     intro H1 hqq66
     have Hoq66 := H; have H := H1
     unfold f70_b3 at H
     refine WC_seq ?_; refine WC_region ?_; refine WL_val (rn_lss rfl rfl) rfl ?_; refine WL_nil ?_; refine WC_seq ?_; refine WC_cond rfl (fun hb70 => ?_) (fun hb70 => ?_)
     ·have H := ifT hb70 H; refine WC_skip ?_; refine WC_seq ?_; obtain ⟨q71, hq71, H⟩ := bnd H; refine WC_cut (fun F w => ∃ (Fb : Fr) (G : Gm), F = upds Fb [(0, .pointer (some ⟨bq0, 0, none⟩)), (1, .int .i64 x1), (4, .pointer (some ⟨b5, 0, none⟩)), (6, .pointer (some ⟨b8, 0, none⟩)), (9, .func (.func 104) ([] : List Value).toArray ([.pointer (some ⟨b8, 0, none⟩)] : List Value).toArray), (61, .slice a3 n3 c3), (62, .int .i64 (x0.Memories.length : Int)), (63, .int .i64 s64.1)] ∧ Gle G69 G ∧ Since w0.heap.size G0 w0 G w ∧ Owns G w w0.heap.size [⟨99, 64, 1, .slice (some ⟨b8, 0, none⟩) 1 1, cellsT q71⟩, ⟨99, 64, 1, .slice (some ⟨b5, 0, none⟩) 1 1, cellsT s64.2.2⟩]) ?_ ?_
      ·have Hoq71 := H; have H := hq71; refine WC_block ?_; refine WC_seq ?_; refine WC_region ?_; refine WL_val (rn_move (v := (.int .i64 s64.1)) rfl) rfl ?_; obtain ⟨y72, hy72, H⟩ := bnd H
       have l0_3 := l0_2.trans leG69
       refine WL_idx sl41 (h3.mono RTLandMemory_mono l0_3) hy72 rfl rfl rfl ?_
       rintro b73 o73 _ hcb73 _ ⟨⟩
       refine WL_val (rn_loadA ag49 (cs := [.int .i64 y72.From, .int .i64 y72.To, .int .i64 y72.Years.Low, .int .i64 y72.Years.High]) rfl rfl (fun j v hj => hS.sat.cell (hcb73.drop_take 0 4 j v hj))) rfl ?_
       refine WL_op rfl (OpP_newO (v := fun b => .pointer (some ⟨b, 0, none⟩)) (cs := [.int .i64 0, .int .i64 0, .int .i64 0, .int .i64 0]) (e := 49) (by kernel_rfl) hS.sat hO rfl 4 1 rfl (by decide) (fun b74 w75 hb hO => ?_))
       have hS := hS.keep hb; refine WL_val (rn_assign (v := (.int .i64 s64.1)) rfl) rfl ?_; refine WL_op rfl (OpP_store (vs := [.int .i64 y72.From, .int .i64 y72.To, .int .i64 y72.Years.Low, .int .i64 y72.Years.High]) sz49 hS hO (k := 0) rfl rfl rfl rfl rfl (one_all rfl) (Nat.le_of_ble_eq_true rfl) (fun w77 hS hO => ?_))
       have hO : Owns G69 w77 w0.heap.size ([⟨49, 4, 1, .slice (some ⟨b74, 0, none⟩) 1 1, [.int .i64 y72.From, .int .i64 y72.To, .int .i64 y72.Years.Low, .int .i64 y72.Years.High]⟩, ⟨99, 64, 1, .slice (some ⟨b8, 0, none⟩) 1 1, cellsT s64.2.1⟩, ⟨99, 64, 1, .slice (some ⟨b5, 0, none⟩) 1 1, cellsT s64.2.2⟩]) := hO
       obtain ⟨G78, leG78, hS, hO, hqG78, _⟩ := hO.freeze hS (k := 0) rfl
       have hcG78 : Cells G78 b74 0 [.int .i64 y72.From, .int .i64 y72.To, .int .i64 y72.Years.Low, .int .i64 y72.Years.High] := (hqG78 _ _ _ _ rfl)
       refine WL_nil ?_; refine WC_seq ?_; refine WC_region ?_; refine WL_val (rn_move (v := (.int .i64 x1)) rfl) rfl ?_; refine WL_val (rn_move (v := (.int .i64 s64.1)) rfl) rfl ?_; obtain ⟨y79, hy79, H⟩ := bnd H; refine WL_op rfl (OpP_callV cb105 (f105_ok (x0 := x1) (x1 := s64.1) hS.sat  hy79) rfl rfl (fun w80 hb => ?_)); have hS := hS.keep hb; have hO := hO.below hb; refine WL_nil ?_; refine WC_cond rfl (fun hb81 => ?_) (fun hb81 => ?_)
       ·have H := ifT hb81 H; refine WC_seq ?_; obtain ⟨q82, hq82, H⟩ := bnd H; refine WC_cut (fun F w => ∃ (Fb : Fr) (G : Gm), F = upds Fb [(0, .pointer (some ⟨bq0, 0, none⟩)), (1, .int .i64 x1), (4, .pointer (some ⟨b5, 0, none⟩)), (6, .pointer (some ⟨b8, 0, none⟩)), (9, .func (.func 104) ([] : List Value).toArray ([.pointer (some ⟨b8, 0, none⟩)] : List Value).toArray), (12, .pointer (some ⟨b74, 0, none⟩)), (61, .slice a3 n3 c3), (62, .int .i64 (x0.Memories.length : Int)), (63, .int .i64 s64.1)] ∧ Gle G78 G ∧ Since w0.heap.size G0 w0 G w ∧ Owns G w w0.heap.size [⟨99, 64, 1, .slice (some ⟨b8, 0, none⟩) 1 1, cellsT q82⟩, ⟨99, 64, 1, .slice (some ⟨b5, 0, none⟩) 1 1, cellsT s64.2.2⟩]) ?_ ?_
        ·have Hoq82 := H; have H := hq82; refine WC_region ?_; refine WL_val (rn_move (v := (.func (.func 104) ([] : List Value).toArray ([.pointer (some ⟨b8, 0, none⟩)] : List Value).toArray)) rfl) rfl ?_; refine WL_val (rn_fld fd49_0 rfl) rfl ?_; refine WL_val (rn_load na3 rfl (hS.sat.cell (hcG78 0 _ rfl))) rfl ?_; refine WL_val (rn_fld fd49_1 rfl) rfl ?_; refine WL_val (rn_load na3 rfl (hS.sat.cell (hcG78 1 _ rfl))) rfl ?_; refine WL_val (rn_fld fd49_2 rfl) rfl ?_; refine WL_val (rn_fld fd25_1 rfl) rfl ?_; refine WL_val (rn_load na3 rfl (hS.sat.cell (hcG78 3 _ rfl))) rfl ?_; refine WL_op rfl (OpP_inC1 (N' := 20) (fi := []) (al := [.int .i64 y72.From, .int .i64 y72.To, .int .i64 y72.Years.High]) (ca := [.pointer (some ⟨b8, 0, none⟩)]) cb104 Tryz.func104 rfl rfl rfl rfl rfl rfl rfl ?_); refine WC_seq ?_; refine WC_region ?_; refine WL_val (rn_assign (v := (.bool false)) rfl) rfl ?_; refine WL_nil ?_; refine WC_seq ?_; refine WC_seq ?_; refine WC_region ?_; refine WL_val (rn_move (v := (.int .i64 y72.Years.High)) rfl) rfl ?_; refine WL_val (rn_move (v := (.int .i64 y72.From)) rfl) rfl ?_; refine WL_val (rn_move (v := (.int .i64 y72.To)) rfl) rfl ?_; obtain ⟨j83, hj83, H⟩ := bnd H; refine WL_val (rn_idxA ar99 rfl rfl hj83) rfl ?_; obtain ⟨j84, hj84, H⟩ := bnd H
         have hl85 : 0 + j83 * 8 + j84 * 1 < 64 := by have := (ckI_some hj83).2; have := (ckI_some hj84).2; omega
         refine WL_val (rn_idxA ar97 rfl rfl hj84) rfl ?_; refine WL_val (rn_load na3 rfl (tab_cell hO (k := 0) rfl hl85)) rfl ?_; refine WL_val (rn_geq rfl rfl) rfl ?_; refine WL_nil ?_; refine WC_cond rfl (fun hb86 => ?_) (fun hb86 => ?_)
         ·have H := ifT hb86 H; refine WC_seq ?_; refine WC_region ?_; refine WL_val (rn_assign (v := (.bool false)) rfl) rfl ?_; refine WL_nil ?_; refine WC_ret ?_; refine ⟨(.bool false), rfl, ?_⟩
          have hO : Owns G78 w80 w0.heap.size ([⟨99, 64, 1, .slice (some ⟨b8, 0, none⟩) 1 1, cellsT s64.2.1⟩, ⟨99, 64, 1, .slice (some ⟨b5, 0, none⟩) 1 1, cellsT s64.2.2⟩]) := hO
          refine WL_nil ?_
          have hO : Owns G78 w80 w0.heap.size ([⟨99, 64, 1, .slice (some ⟨b8, 0, none⟩) 1 1, cellsT s64.2.1⟩, ⟨99, 64, 1, .slice (some ⟨b5, 0, none⟩) 1 1, cellsT s64.2.2⟩]) := hO
          have H := Option.some.inj H; subst H
          exact ⟨_, G78, upds_self _ _ ⟨rfl, rfl, rfl, rfl, rfl, rfl, rfl, rfl, rfl, trivial⟩, Gle.refl _, hS, hO⟩
         ·have H := ifF hb86 H; refine WC_skip ?_; refine WC_seq ?_; refine WC_region ?_; refine WL_val (rn_move (v := (.int .i64 y72.From)) rfl) rfl ?_; refine WL_val (rn_move (v := (.int .i64 y72.To)) rfl) rfl ?_; refine WL_val (rn_move (v := (.int .i64 y72.Years.High)) rfl) rfl ?_; obtain ⟨j87, hj87, H⟩ := bnd H; refine WL_val (rn_idxA ar99 rfl rfl hj87) rfl ?_; obtain ⟨j88, hj88, H⟩ := bnd H
          have hl89 : 0 + j87 * 8 + j88 * 1 < 64 := by have := (ckI_some hj87).2; have := (ckI_some hj88).2; omega
          refine WL_val (rn_idxA ar97 rfl rfl hj88) rfl ?_; refine WL_op rfl (OpP_storeT sz3 hS hO (k := 0) rfl rfl rfl hl89 (fun w90 hS hO => ?_))
          have hO : Owns G78 w90 w0.heap.size ([⟨99, 64, 1, .slice (some ⟨b8, 0, none⟩) 1 1, cellsT (tset s64.2.1 (0 + j87 * 8 + j88 * 1) y72.Years.High)⟩, ⟨99, 64, 1, .slice (some ⟨b5, 0, none⟩) 1 1, cellsT s64.2.2⟩]) := hO
          refine WL_nil ?_; refine WC_seq ?_; refine WC_region ?_; refine WL_val (rn_assign (v := (.bool true)) rfl) rfl ?_; refine WL_nil ?_; refine WC_ret ?_; refine ⟨(.bool true), rfl, ?_⟩
          have hO : Owns G78 w90 w0.heap.size ([⟨99, 64, 1, .slice (some ⟨b8, 0, none⟩) 1 1, cellsT (tset s64.2.1 (0 + j87 * 8 + j88 * 1) y72.Years.High)⟩, ⟨99, 64, 1, .slice (some ⟨b5, 0, none⟩) 1 1, cellsT s64.2.2⟩]) := hO
          refine WL_nil ?_
          have hO : Owns G78 w90 w0.heap.size ([⟨99, 64, 1, .slice (some ⟨b8, 0, none⟩) 1 1, cellsT (tset s64.2.1 (0 + j87 * 8 + j88 * 1) y72.Years.High)⟩, ⟨99, 64, 1, .slice (some ⟨b5, 0, none⟩) 1 1, cellsT s64.2.2⟩]) := hO
          have H := Option.some.inj H; subst H
          exact ⟨_, G78, upds_self _ _ ⟨rfl, rfl, rfl, rfl, rfl, rfl, rfl, rfl, rfl, trivial⟩, Gle.refl _, hS, hO⟩
        ·rintro F w91 ⟨Fb, G92, rfl, leG92, hS, hO⟩
         refine WC_region ?_; refine WL_val (rn_move (v := (.func (.func 104) ([] : List Value).toArray ([.pointer (some ⟨b8, 0, none⟩)] : List Value).toArray)) rfl) rfl ?_; refine WL_val (rn_fld fd49_1 rfl) rfl ?_; refine WL_val (rn_load na3 rfl ((hS.sat.le leG92).cell (hcG78 1 _ rfl))) rfl ?_; refine WL_val (rn_fld fd49_0 rfl) rfl ?_; refine WL_val (rn_load na3 rfl ((hS.sat.le leG92).cell (hcG78 0 _ rfl))) rfl ?_; refine WL_val (rn_fld fd49_2 rfl) rfl ?_; refine WL_val (rn_fld fd25_0 rfl) rfl ?_; refine WL_val (rn_load na3 rfl ((hS.sat.le leG92).cell (hcG78 2 _ rfl))) rfl ?_; refine WL_val (rn_neg rfl) rfl ?_; refine WL_op rfl (OpP_inC1 (N' := 20) (fi := []) (al := [.int .i64 y72.To, .int .i64 y72.From, .int .i64 (IntKind.i64.wrap (0 - y72.Years.Low))]) (ca := [.pointer (some ⟨b8, 0, none⟩)]) cb104 Tryz.func104 rfl rfl rfl rfl rfl rfl rfl ?_); refine WC_seq ?_; refine WC_region ?_; refine WL_val (rn_assign (v := (.bool false)) rfl) rfl ?_; refine WL_nil ?_; refine WC_seq ?_; refine WC_seq ?_; refine WC_region ?_; refine WL_val (rn_move (v := (.int .i64 (IntKind.i64.wrap (0 - y72.Years.Low)))) rfl) rfl ?_; refine WL_val (rn_move (v := (.int .i64 y72.To)) rfl) rfl ?_; refine WL_val (rn_move (v := (.int .i64 y72.From)) rfl) rfl ?_; obtain ⟨j93, hj93, H⟩ := bnd H; refine WL_val (rn_idxA ar99 rfl rfl hj93) rfl ?_; obtain ⟨j94, hj94, H⟩ := bnd H
         have hl95 : 0 + j93 * 8 + j94 * 1 < 64 := by have := (ckI_some hj93).2; have := (ckI_some hj94).2; omega
         refine WL_val (rn_idxA ar97 rfl rfl hj94) rfl ?_; refine WL_val (rn_load na3 rfl (tab_cell hO (k := 0) rfl hl95)) rfl ?_; refine WL_val (rn_geq rfl rfl) rfl ?_; refine WL_nil ?_; refine WC_cond rfl (fun hb96 => ?_) (fun hb96 => ?_)
         ·have H := ifT hb96 H; refine WC_seq ?_; refine WC_region ?_; refine WL_val (rn_assign (v := (.bool false)) rfl) rfl ?_; refine WL_nil ?_; refine WC_ret ?_; refine ⟨(.bool false), rfl, ?_⟩
          have hO : Owns G92 w91 w0.heap.size ([⟨99, 64, 1, .slice (some ⟨b8, 0, none⟩) 1 1, cellsT q82⟩, ⟨99, 64, 1, .slice (some ⟨b5, 0, none⟩) 1 1, cellsT s64.2.2⟩]) := hO
          refine WL_nil ?_
          have hO : Owns G92 w91 w0.heap.size ([⟨99, 64, 1, .slice (some ⟨b8, 0, none⟩) 1 1, cellsT q82⟩, ⟨99, 64, 1, .slice (some ⟨b5, 0, none⟩) 1 1, cellsT s64.2.2⟩]) := hO
          have H := Option.some.inj H; subst H
          have l3_5 := leG78.trans leG92
          exact ⟨_, G92, upds_self _ _ ⟨rfl, rfl, rfl, rfl, rfl, rfl, rfl, rfl, trivial⟩, l3_5, hS, hO⟩
         ·have H := ifF hb96 H; refine WC_skip ?_; refine WC_seq ?_; refine WC_region ?_; refine WL_val (rn_move (v := (.int .i64 y72.To)) rfl) rfl ?_; refine WL_val (rn_move (v := (.int .i64 y72.From)) rfl) rfl ?_; refine WL_val (rn_move (v := (.int .i64 (IntKind.i64.wrap (0 - y72.Years.Low)))) rfl) rfl ?_; obtain ⟨j97, hj97, H⟩ := bnd H; refine WL_val (rn_idxA ar99 rfl rfl hj97) rfl ?_; obtain ⟨j98, hj98, H⟩ := bnd H
          have hl99 : 0 + j97 * 8 + j98 * 1 < 64 := by have := (ckI_some hj97).2; have := (ckI_some hj98).2; omega
          refine WL_val (rn_idxA ar97 rfl rfl hj98) rfl ?_; refine WL_op rfl (OpP_storeT sz3 hS hO (k := 0) rfl rfl rfl hl99 (fun w100 hS hO => ?_))
          have hO : Owns G92 w100 w0.heap.size ([⟨99, 64, 1, .slice (some ⟨b8, 0, none⟩) 1 1, cellsT (tset q82 (0 + j97 * 8 + j98 * 1) (IntKind.i64.wrap (0 - y72.Years.Low)))⟩, ⟨99, 64, 1, .slice (some ⟨b5, 0, none⟩) 1 1, cellsT s64.2.2⟩]) := hO
          refine WL_nil ?_; refine WC_seq ?_; refine WC_region ?_; refine WL_val (rn_assign (v := (.bool true)) rfl) rfl ?_; refine WL_nil ?_; refine WC_ret ?_; refine ⟨(.bool true), rfl, ?_⟩
          have hO : Owns G92 w100 w0.heap.size ([⟨99, 64, 1, .slice (some ⟨b8, 0, none⟩) 1 1, cellsT (tset q82 (0 + j97 * 8 + j98 * 1) (IntKind.i64.wrap (0 - y72.Years.Low)))⟩, ⟨99, 64, 1, .slice (some ⟨b5, 0, none⟩) 1 1, cellsT s64.2.2⟩]) := hO
          refine WL_nil ?_
          have hO : Owns G92 w100 w0.heap.size ([⟨99, 64, 1, .slice (some ⟨b8, 0, none⟩) 1 1, cellsT (tset q82 (0 + j97 * 8 + j98 * 1) (IntKind.i64.wrap (0 - y72.Years.Low)))⟩, ⟨99, 64, 1, .slice (some ⟨b5, 0, none⟩) 1 1, cellsT s64.2.2⟩]) := hO
          have H := Option.some.inj H; subst H
          have l3_5 := leG78.trans leG92
          exact ⟨_, G92, upds_self _ _ ⟨rfl, rfl, rfl, rfl, rfl, rfl, rfl, rfl, trivial⟩, l3_5, hS, hO⟩
       ·have H := ifF hb81 H; refine WC_skip ?_
        have hO : Owns G78 w80 w0.heap.size ([⟨99, 64, 1, .slice (some ⟨b8, 0, none⟩) 1 1, cellsT s64.2.1⟩, ⟨99, 64, 1, .slice (some ⟨b5, 0, none⟩) 1 1, cellsT s64.2.2⟩]) := hO
        have H := Option.some.inj H; subst H
        exact ⟨_, G78, upds_self _ _ ⟨rfl, rfl, rfl, rfl, rfl, rfl, rfl, rfl, trivial⟩, leG78, hS, hO⟩
      ·rintro F w101 ⟨Fb, G102, rfl, leG102, hS, hO⟩
       refine WC_region ?_; refine WL_val (rn_add rfl rfl) rfl ?_; refine WL_val (rn_move (v := (.int .i64 (IntKind.i64.wrap (s64.1 + 1)))) rfl) rfl ?_; refine WL_nil ?_
       have hO : Owns G102 w101 w0.heap.size ([⟨99, 64, 1, .slice (some ⟨b8, 0, none⟩) 1 1, cellsT q71⟩, ⟨99, 64, 1, .slice (some ⟨b5, 0, none⟩) 1 1, cellsT s64.2.2⟩]) := hO
       have H := Option.some.inj H; subst H; refine ⟨_, rfl, ?_⟩
       have l2_4 := leG69.trans leG102
       exact ⟨_, G102, upds_self _ _ ⟨rfl, rfl, rfl, rfl, rfl, rfl, rfl, rfl, trivial⟩, l2_4, hS, hO⟩
     ·have H := ifF hb70 H; refine WC_exit rfl ?_
      have hO : Owns G69 w68 w0.heap.size ([⟨99, 64, 1, .slice (some ⟨b8, 0, none⟩) 1 1, cellsT s64.2.1⟩, ⟨99, 64, 1, .slice (some ⟨b5, 0, none⟩) 1 1, cellsT s64.2.2⟩]) := hO
      have H := Option.some.inj H; subst H
      have hres := hqq66 _ rfl
      subst hres
      exact ⟨_, G69, upds_self _ _ ⟨rfl, rfl, rfl, rfl, trivial⟩, leG69, hS, hO⟩
   ·rintro F w103 ⟨Fb, G104, rfl, leG104, hS, hO⟩
    refine WC_seq ?_; refine WC_region ?_; refine WL_val (rn_move (v := (.pointer (some ⟨bq0, 0, none⟩))) rfl) rfl ?_
    refine WL_val (v := (.pointer (some ⟨bq0, 0, none⟩))) (by kernel_rfl) rfl ?_
    refine WL_val (rn_fld fd162_0 rfl) rfl ?_; refine WL_val (rn_fld fd43_1 rfl) rfl ?_
    have l0_3 := l0_2.trans leG104
    refine WL_val (rn_load na40 rfl ((hS.sat.le l0_3).cell (hcq0 1 _ rfl))) rfl ?_; refine WL_val (rn_len sl40 rfl rfl (h2.mono RTLandEvent_mono l0_3).1) rfl ?_; refine WL_val (rn_add rfl rfl) rfl ?_; refine WL_val (rn_assign (v := (.int .i64 (IntKind.i64.wrap ((x0.Events.length : Int) + 1)))) rfl) rfl ?_; refine WL_nil ?_; refine WC_seq ?_; refine WC_region ?_; refine WL_val (rn_move (v := (.int .i64 (IntKind.i64.wrap ((x0.Events.length : Int) + 1)))) rfl) rfl ?_; obtain ⟨_, hm108, H⟩ := bnd H; refine WL_op rfl (OpP_make0 sl22 hS hO hm108 rfl rfl rfl rfl (fun b105 w106 hS hO => ?_)); refine WL_val (rn_assign (v := (.slice (some ⟨b105, 0, none⟩) 0 ((IntKind.i64.wrap ((x0.Events.length : Int) + 1)).toNat))) rfl) rfl ?_; refine WL_nil ?_; refine WC_seq ?_; refine WC_seq ?_; refine WC_region ?_; refine WL_val (rn_move (v := (.pointer (some ⟨bq0, 0, none⟩))) rfl) rfl ?_
    refine WL_val (v := (.pointer (some ⟨bq0, 0, none⟩))) (by kernel_rfl) rfl ?_
    refine WL_val (rn_fld fd162_0 rfl) rfl ?_; refine WL_val (rn_fld fd43_1 rfl) rfl ?_; refine WL_val (rn_load na40 rfl ((hS.sat.le l0_3).cell (hcq0 1 _ rfl))) rfl ?_; refine WL_val (rn_len sl40 rfl rfl (h2.mono RTLandEvent_mono l0_3).1) rfl ?_; refine WL_val (rn_move (v := (.int .i64 0)) rfl) rfl ?_; refine WL_nil ?_; obtain ⟨q111, hq111, H⟩ := bnd H; refine WC_cut (fun F w => ∃ (Fb : Fr) (G : Gm) (aq111_0 : Option Addr) (nq111_0 cq111_0 : Nat) (claq111_0 : List Value), F = upds Fb [(4, .pointer (some ⟨b5, 0, none⟩)), (6, .pointer (some ⟨b8, 0, none⟩)), (9, .func (.func 104) ([] : List Value).toArray ([.pointer (some ⟨b8, 0, none⟩)] : List Value).toArray), (13, .int .i64 (IntKind.i64.wrap ((x0.Events.length : Int) + 1))), (14, .slice aq111_0 nq111_0 cq111_0)] ∧ Gle G104 G ∧ Since w0.heap.size G0 w0 G w ∧ Owns G w w0.heap.size [⟨3, 1, nq111_0, .slice aq111_0 nq111_0 cq111_0, claq111_0⟩, ⟨99, 64, 1, .slice (some ⟨b8, 0, none⟩) 1 1, cellsT q111.2.1⟩, ⟨99, 64, 1, .slice (some ⟨b5, 0, none⟩) 1 1, cellsT q111.2.2⟩] ∧ nq111_0 = q111.1.length ∧ Rd RInt 1 G claq111_0 q111.1) ?_ ?_
    ·refine WC_block (WC_loop hq111 (fun s109 F w => ∃ (Fb : Fr) (G : Gm) (as109_0 : Option Addr) (ns109_0 cs109_0 : Nat) (clas109_0 : List Value), F = upds Fb [(4, .pointer (some ⟨b5, 0, none⟩)), (6, .pointer (some ⟨b8, 0, none⟩)), (9, .func (.func 104) ([] : List Value).toArray ([.pointer (some ⟨b8, 0, none⟩)] : List Value).toArray), (13, .int .i64 (IntKind.i64.wrap ((x0.Events.length : Int) + 1))), (14, .slice as109_0 ns109_0 cs109_0), (105, .int .i64 (x0.Events.length : Int)), (106, .int .i64 s109.2.1)] ∧ Gle G104 G ∧ Since w0.heap.size G0 w0 G w ∧ Owns G w w0.heap.size [⟨3, 1, ns109_0, .slice as109_0 ns109_0 cs109_0, clas109_0⟩, ⟨99, 64, 1, .slice (some ⟨b8, 0, none⟩) 1 1, cellsT s109.2.2.1⟩, ⟨99, 64, 1, .slice (some ⟨b5, 0, none⟩) 1 1, cellsT s109.2.2.2⟩] ∧ ns109_0 = s109.1.length ∧ Rd RInt 1 G clas109_0 s109.1) ?_ ?_)
     ·have hO : Owns G104 w106 w0.heap.size ([⟨3, 1, 0, .slice (some ⟨b105, 0, none⟩) 0 ((IntKind.i64.wrap ((x0.Events.length : Int) + 1)).toNat), []⟩, ⟨99, 64, 1, .slice (some ⟨b8, 0, none⟩) 1 1, cellsT q66.1⟩, ⟨99, 64, 1, .slice (some ⟨b5, 0, none⟩) 1 1, cellsT q66.2⟩]) := hO
      exact ⟨_, G104, (some ⟨b105, 0, none⟩), 0, ((IntKind.i64.wrap ((x0.Events.length : Int) + 1)).toNat), [], upds_self _ _ ⟨rfl, rfl, rfl, rfl, rfl, rfl, rfl, trivial⟩, Gle.refl _, hS, hO, rfl, (Rd.nil RInt 1 G104)⟩
     ·rintro s109 F w113 t112 ⟨Fb, G114, as109_0, ns109_0, cs109_0, clas109_0, rfl, leG114, hS, hO, hnhs109_0, hs109_0⟩
      intro H1 hqq111
      have Hoq111 := H; have H := H1
      unfold f70_b4 at H
      refine WC_seq ?_; refine WC_region ?_; refine WL_val (rn_lss rfl rfl) rfl ?_; refine WL_nil ?_; refine WC_seq ?_; refine WC_cond rfl (fun hb115 => ?_) (fun hb115 => ?_)
      ·have H := ifT hb115 H; refine WC_skip ?_; refine WC_seq ?_; refine WC_block ?_; refine WC_seq ?_; refine WC_region ?_; refine WL_val (rn_move (v := (.int .i64 s109.2.1)) rfl) rfl ?_; refine WL_val (rn_assign (v := (.int .i64 s109.2.1)) rfl) rfl ?_; refine WL_nil ?_; refine WC_region ?_; refine WL_val (rn_move (v := (.slice as109_0 ns109_0 cs109_0)) rfl) rfl ?_; refine WL_val (rn_move (v := (.int .i64 s109.2.1)) rfl) rfl ?_
       refine WL_op rfl (OpP_newF (v := fun b => .slice (some ⟨b, 0, none⟩) 1 1) (cs := [.int .i64 s109.2.1]) (e := 3) (by kernel_rfl) hS.sat rfl (fun b116 G118 w117 hg hcb116 => ?_))
       have hS := hS.grow hg; have hO := hO.grow hg
       have leG118 := hg.le
       have hfb116 : RSl RInt 1 G118 (some ⟨b116, 0, none⟩) 1 1 [s109.2.1] := RSl.of_rd hcb116 (Rd.cons (c := [.int .i64 s109.2.1]) rfl rfl (Rd.nil RInt 1 _)) rfl (by decide)
       obtain ⟨y119, hy119, H⟩ := bnd H; refine WL_op rfl (OpP_append (k := 0) sl22 RInt_one hS hO rfl hnhs109_0 (hs109_0.mono RInt_mono leG118) hfb116 hy119 rfl rfl rfl rfl rfl (fun aw120 cw120 w120 clw120 hS hO hrw120 => ?_))
       have hO : Owns G118 w120 w0.heap.size ([⟨3, 1, y119.length, .slice aw120 y119.length cw120, clw120⟩, ⟨99, 64, 1, .slice (some ⟨b8, 0, none⟩) 1 1, cellsT s109.2.2.1⟩, ⟨99, 64, 1, .slice (some ⟨b5, 0, none⟩) 1 1, cellsT s109.2.2.2⟩]) := hO
       refine WL_val (rn_assign (v := (.slice aw120 y119.length cw120)) rfl) rfl ?_; refine WL_nil ?_; refine WC_region ?_; refine WL_val (rn_add rfl rfl) rfl ?_; refine WL_val (rn_move (v := (.int .i64 (IntKind.i64.wrap (s109.2.1 + 1)))) rfl) rfl ?_; refine WL_nil ?_
       have hO : Owns G118 w120 w0.heap.size ([⟨3, 1, y119.length, .slice aw120 y119.length cw120, clw120⟩, ⟨99, 64, 1, .slice (some ⟨b8, 0, none⟩) 1 1, cellsT s109.2.2.1⟩, ⟨99, 64, 1, .slice (some ⟨b5, 0, none⟩) 1 1, cellsT s109.2.2.2⟩]) := hO
       have H := Option.some.inj H; subst H; refine ⟨_, rfl, ?_⟩
       have l3_5 := leG114.trans leG118
       exact ⟨_, G118, aw120, y119.length, cw120, clw120, upds_self _ _ ⟨rfl, rfl, rfl, rfl, rfl, rfl, rfl, trivial⟩, l3_5, hS, hO, rfl, hrw120⟩
      ·have H := ifF hb115 H; refine WC_exit rfl ?_
       have hO : Owns G114 w113 w0.heap.size ([⟨3, 1, ns109_0, .slice as109_0 ns109_0 cs109_0, clas109_0⟩, ⟨99, 64, 1, .slice (some ⟨b8, 0, none⟩) 1 1, cellsT s109.2.2.1⟩, ⟨99, 64, 1, .slice (some ⟨b5, 0, none⟩) 1 1, cellsT s109.2.2.2⟩]) := hO
       have H := Option.some.inj H; subst H
       have hres := hqq111 _ rfl
       subst hres
       exact ⟨_, G114, as109_0, ns109_0, cs109_0, clas109_0, upds_self _ _ ⟨rfl, rfl, rfl, rfl, rfl, trivial⟩, leG114, hS, hO, hnhs109_0, hs109_0⟩
    ·rintro F w121 ⟨Fb, G122, aq111_0, nq111_0, cq111_0, claq111_0, rfl, leG122, hS, hO, hnhq111_0, hq111_0⟩
     refine WC_seq ?_; refine WC_region ?_; refine WL_val (rn_move (v := (.slice aq111_0 nq111_0 cq111_0)) rfl) rfl ?_
     refine WL_op rfl (OpP_newF (v := fun b => .slice (some ⟨b, 0, none⟩) 1 1) (cs := [.int .i64 7]) (e := 3) (by kernel_rfl) hS.sat rfl (fun b123 G125 w124 hg hcb123 => ?_))
     have hS := hS.grow hg; have hO := hO.grow hg
     have leG125 := hg.le
     have hfb123 : RSl RInt 1 G125 (some ⟨b123, 0, none⟩) 1 1 [7] := RSl.of_rd hcb123 (Rd.cons (c := [.int .i64 7]) rfl rfl (Rd.nil RInt 1 _)) rfl (by decide)
     obtain ⟨y126, hy126, H⟩ := bnd H; refine WL_op rfl (OpP_append (k := 0) sl22 RInt_one hS hO rfl hnhq111_0 (hq111_0.mono RInt_mono leG125) hfb123 hy126 rfl rfl rfl rfl rfl (fun aw127 cw127 w127 clw127 hS hO hrw127 => ?_))
     have hO : Owns G125 w127 w0.heap.size ([⟨3, 1, y126.length, .slice aw127 y126.length cw127, clw127⟩, ⟨99, 64, 1, .slice (some ⟨b8, 0, none⟩) 1 1, cellsT q111.2.1⟩, ⟨99, 64, 1, .slice (some ⟨b5, 0, none⟩) 1 1, cellsT q111.2.2⟩]) := hO
     refine WL_val (rn_assign (v := (.slice aw127 y126.length cw127)) rfl) rfl ?_; refine WL_nil ?_; refine WC_seq ?_; refine WC_label ?_; refine WC_seq ?_; refine WC_seq ?_; refine WC_region ?_; refine WL_val (rn_move (v := (.int .i64 (IntKind.i64.wrap ((x0.Events.length : Int) + 1)))) rfl) rfl ?_; refine WL_val (rn_add rfl rfl) rfl ?_; refine WL_val (rn_move (v := (.int .i64 0)) rfl) rfl ?_; refine WL_nil ?_; obtain ⟨q130, hq130, H⟩ := bnd H; refine WC_cut (fun F w => ∃ (p129 : (Tb 64) × (Tb 64)) (Fb : Fr) (G : Gm), q130 = .inl p129 ∧ F = upds Fb [(4, .pointer (some ⟨b5, 0, none⟩)), (6, .pointer (some ⟨b8, 0, none⟩))] ∧ Gle G125 G ∧ Since w0.heap.size G0 w0 G w ∧ Owns G w w0.heap.size [⟨3, 1, y126.length, .slice aw127 y126.length cw127, clw127⟩, ⟨99, 64, 1, .slice (some ⟨b8, 0, none⟩) 1 1, cellsT p129.1⟩, ⟨99, 64, 1, .slice (some ⟨b5, 0, none⟩) 1 1, cellsT p129.2⟩]) ?_ ?_
     ·refine WC_block (WC_loop hq130 (fun s128 F w => ∃ (Fb : Fr) (G : Gm), F = upds Fb [(4, .pointer (some ⟨b5, 0, none⟩)), (6, .pointer (some ⟨b8, 0, none⟩)), (9, .func (.func 104) ([] : List Value).toArray ([.pointer (some ⟨b8, 0, none⟩)] : List Value).toArray), (14, .slice aw127 y126.length cw127), (118, .int .i64 (IntKind.i64.wrap ((IntKind.i64.wrap ((x0.Events.length : Int) + 1)) + 1))), (119, .int .i64 s128.1)] ∧ Gle G125 G ∧ Since w0.heap.size G0 w0 G w ∧ Owns G w w0.heap.size [⟨3, 1, y126.length, .slice aw127 y126.length cw127, clw127⟩, ⟨99, 64, 1, .slice (some ⟨b8, 0, none⟩) 1 1, cellsT s128.2.1⟩, ⟨99, 64, 1, .slice (some ⟨b5, 0, none⟩) 1 1, cellsT s128.2.2⟩]) ?_ ?_)
      ·have hO : Owns G125 w127 w0.heap.size ([⟨3, 1, y126.length, .slice aw127 y126.length cw127, clw127⟩, ⟨99, 64, 1, .slice (some ⟨b8, 0, none⟩) 1 1, cellsT q111.2.1⟩, ⟨99, 64, 1, .slice (some ⟨b5, 0, none⟩) 1 1, cellsT q111.2.2⟩]) := hO
       exact ⟨_, G125, upds_self _ _ ⟨rfl, rfl, rfl, rfl, rfl, rfl, trivial⟩, Gle.refl _, hS, hO⟩
      ·rintro s128 F w132 t131 ⟨Fb, G133, rfl, leG133, hS, hO⟩
       intro H1 hqq130
       have Hoq130 := H; have H := H1
       unfold f70_b5 at H
       refine WC_seq ?_; refine WC_region ?_; refine WL_val (rn_lss rfl rfl) rfl ?_; refine WL_nil ?_; refine WC_seq ?_; refine WC_cond rfl (fun hb134 => ?_) (fun hb134 => ?_)
       ·have H := ifT hb134 H; refine WC_skip ?_; refine WC_seq ?_; refine WC_block ?_; refine WC_seq ?_; refine WC_region ?_; refine WL_val (rn_assign (v := (.bool false)) rfl) rfl ?_; refine WL_nil ?_; refine WC_seq ?_; refine WC_seq ?_; refine WC_region ?_; refine WL_val (rn_move (v := (.slice aw127 y126.length cw127)) rfl) rfl ?_; refine WL_val (rn_len (m := y126.length) sl22 rfl rfl rfl) rfl ?_; refine WL_val (rn_move (v := (.int .i64 0)) rfl) rfl ?_; refine WL_nil ?_; obtain ⟨q137, hq137, H⟩ := bnd H; refine WC_cut (fun F w => ∃ (Fb : Fr) (G : Gm), F = upds Fb [(4, .pointer (some ⟨b5, 0, none⟩)), (6, .pointer (some ⟨b8, 0, none⟩)), (9, .func (.func 104) ([] : List Value).toArray ([.pointer (some ⟨b8, 0, none⟩)] : List Value).toArray), (14, .slice aw127 y126.length cw127), (16, .bool q137.1), (118, .int .i64 (IntKind.i64.wrap ((IntKind.i64.wrap ((x0.Events.length : Int) + 1)) + 1))), (119, .int .i64 s128.1)] ∧ Gle G133 G ∧ Since w0.heap.size G0 w0 G w ∧ Owns G w w0.heap.size [⟨3, 1, y126.length, .slice aw127 y126.length cw127, clw127⟩, ⟨99, 64, 1, .slice (some ⟨b8, 0, none⟩) 1 1, cellsT q137.2.1⟩, ⟨99, 64, 1, .slice (some ⟨b5, 0, none⟩) 1 1, cellsT q137.2.2⟩]) ?_ ?_
        ·refine WC_block (WC_loop hq137 (fun s135 F w => ∃ (Fb : Fr) (G : Gm), F = upds Fb [(4, .pointer (some ⟨b5, 0, none⟩)), (6, .pointer (some ⟨b8, 0, none⟩)), (9, .func (.func 104) ([] : List Value).toArray ([.pointer (some ⟨b8, 0, none⟩)] : List Value).toArray), (14, .slice aw127 y126.length cw127), (16, .bool s135.1), (118, .int .i64 (IntKind.i64.wrap ((IntKind.i64.wrap ((x0.Events.length : Int) + 1)) + 1))), (119, .int .i64 s128.1), (121, .slice aw127 y126.length cw127), (122, .int .i64 (y126.length : Int)), (123, .int .i64 s135.2.1)] ∧ Gle G133 G ∧ Since w0.heap.size G0 w0 G w ∧ Owns G w w0.heap.size [⟨3, 1, y126.length, .slice aw127 y126.length cw127, clw127⟩, ⟨99, 64, 1, .slice (some ⟨b8, 0, none⟩) 1 1, cellsT s135.2.2.1⟩, ⟨99, 64, 1, .slice (some ⟨b5, 0, none⟩) 1 1, cellsT s135.2.2.2⟩]) ?_ ?_)
         ·have hO : Owns G133 w132 w0.heap.size ([⟨3, 1, y126.length, .slice aw127 y126.length cw127, clw127⟩, ⟨99, 64, 1, .slice (some ⟨b8, 0, none⟩) 1 1, cellsT s128.2.1⟩, ⟨99, 64, 1, .slice (some ⟨b5, 0, none⟩) 1 1, cellsT s128.2.2⟩]) := hO
          exact ⟨_, G133, upds_self _ _ ⟨rfl, rfl, rfl, rfl, rfl, rfl, rfl, rfl, rfl, rfl, trivial⟩, Gle.refl _, hS, hO⟩
         ·rintro s135 F w139 t138 ⟨Fb, G140, rfl, leG140, hS, hO⟩
          intro H1 hqq137
          have Hoq137 := H; have H := H1
          unfold f70_b6 at H
          refine WC_seq ?_; refine WC_region ?_; refine WL_val (rn_lss rfl rfl) rfl ?_; refine WL_nil ?_; refine WC_seq ?_; refine WC_cond rfl (fun hb141 => ?_) (fun hb141 => ?_)
          ·have H := ifT hb141 H; refine WC_skip ?_; refine WC_seq ?_; refine WC_block ?_; refine WC_seq ?_; refine WC_region ?_; obtain ⟨y142, hy142, H⟩ := bnd H
           have l5_7 := leG133.trans leG140
           refine WL_idxO sl22 hO (k := 0) rfl rfl (hrw127.mono RInt_mono l5_7) hy142 rfl rfl rfl ?_
           rintro b143 ob143 _ hb143 _ hcb143 ⟨⟩
           refine WL_val (rn_load na3 rfl (own_cellB hO (k := 0) rfl hb143 _ 0 (hcb143 0 _ rfl))) rfl ?_; refine WL_val (rn_assign (v := (.int .i64 y142)) rfl) rfl ?_; refine WL_nil ?_; refine WC_seq ?_; refine WC_region ?_; refine WL_val (rn_move (v := (.slice aw127 y126.length cw127)) rfl) rfl ?_; refine WL_val (rn_len (m := y126.length) sl22 rfl rfl rfl) rfl ?_; refine WL_val (rn_move (v := (.int .i64 0)) rfl) rfl ?_; refine WL_nil ?_; obtain ⟨q146, hq146, H⟩ := bnd H; refine WC_cut (fun F w => ∃ (Fb : Fr) (G : Gm), F = upds Fb [(4, .pointer (some ⟨b5, 0, none⟩)), (6, .pointer (some ⟨b8, 0, none⟩)), (9, .func (.func 104) ([] : List Value).toArray ([.pointer (some ⟨b8, 0, none⟩)] : List Value).toArray), (14, .slice aw127 y126.length cw127), (16, .bool q146.1), (118, .int .i64 (IntKind.i64.wrap ((IntKind.i64.wrap ((x0.Events.length : Int) + 1)) + 1))), (119, .int .i64 s128.1), (121, .slice aw127 y126.length cw127), (122, .int .i64 (y126.length : Int)), (123, .int .i64 s135.2.1)] ∧ Gle G140 G ∧ Since w0.heap.size G0 w0 G w ∧ Owns G w w0.heap.size [⟨3, 1, y126.length, .slice aw127 y126.length cw127, clw127⟩, ⟨99, 64, 1, .slice (some ⟨b8, 0, none⟩) 1 1, cellsT q146.2.1⟩, ⟨99, 64, 1, .slice (some ⟨b5, 0, none⟩) 1 1, cellsT q146.2.2⟩]) ?_ ?_
           ·refine WC_block (WC_loop hq146 (fun s144 F w => ∃ (Fb : Fr) (G : Gm), F = upds Fb [(4, .pointer (some ⟨b5, 0, none⟩)), (6, .pointer (some ⟨b8, 0, none⟩)), (9, .func (.func 104) ([] : List Value).toArray ([.pointer (some ⟨b8, 0, none⟩)] : List Value).toArray), (14, .slice aw127 y126.length cw127), (16, .bool s144.1), (18, .int .i64 y142), (118, .int .i64 (IntKind.i64.wrap ((IntKind.i64.wrap ((x0.Events.length : Int) + 1)) + 1))), (119, .int .i64 s128.1), (121, .slice aw127 y126.length cw127), (122, .int .i64 (y126.length : Int)), (123, .int .i64 s135.2.1), (127, .slice aw127 y126.length cw127), (128, .int .i64 (y126.length : Int)), (129, .int .i64 s144.2.1)] ∧ Gle G140 G ∧ Since w0.heap.size G0 w0 G w ∧ Owns G w w0.heap.size [⟨3, 1, y126.length, .slice aw127 y126.length cw127, clw127⟩, ⟨99, 64, 1, .slice (some ⟨b8, 0, none⟩) 1 1, cellsT s144.2.2.1⟩, ⟨99, 64, 1, .slice (some ⟨b5, 0, none⟩) 1 1, cellsT s144.2.2.2⟩]) ?_ ?_)
            ·have hO : Owns G140 w139 w0.heap.size ([⟨3, 1, y126.length, .slice aw127 y126.length cw127, clw127⟩, ⟨99, 64, 1, .slice (some ⟨b8, 0, none⟩) 1 1, cellsT s135.2.2.1⟩, ⟨99, 64, 1, .slice (some ⟨b5, 0, none⟩) 1 1, cellsT s135.2.2.2⟩]) := hO
             exact ⟨_, G140, upds_self _ _ ⟨rfl, rfl, rfl, rfl, rfl, rfl, rfl, rfl, rfl, rfl, rfl, rfl, rfl, rfl, trivial⟩, Gle.refl _, hS, hO⟩
            ·rintro s144 F w148 t147 ⟨Fb, G149, rfl, leG149, hS, hO⟩
             intro H1 hqq146
             have Hoq146 := H; have H := H1
             unfold f70_b7 at H
             refine WC_seq ?_; refine WC_region ?_; refine WL_val (rn_lss rfl rfl) rfl ?_; refine WL_nil ?_; refine WC_seq ?_; refine WC_cond rfl (fun hb150 => ?_) (fun hb150 => ?_)
             ·have H := ifT hb150 H; refine WC_skip ?_; refine WC_seq ?_; refine WC_block ?_; refine WC_seq ?_; refine WC_region ?_; obtain ⟨y151, hy151, H⟩ := bnd H
              have l5_8 := l5_7.trans leG149
              refine WL_idxO sl22 hO (k := 0) rfl rfl (hrw127.mono RInt_mono l5_8) hy151 rfl rfl rfl ?_
              rintro b152 ob152 _ hb152 _ hcb152 ⟨⟩
              refine WL_val (rn_load na3 rfl (own_cellB hO (k := 0) rfl hb152 _ 0 (hcb152 0 _ rfl))) rfl ?_; refine WL_val (rn_assign (v := (.int .i64 y151)) rfl) rfl ?_; refine WL_nil ?_; refine WC_seq ?_; refine WC_region ?_; refine WL_val (rn_move (v := (.slice aw127 y126.length cw127)) rfl) rfl ?_; refine WL_val (rn_len (m := y126.length) sl22 rfl rfl rfl) rfl ?_; refine WL_val (rn_move (v := (.int .i64 0)) rfl) rfl ?_; refine WL_nil ?_; obtain ⟨q155, hq155, H⟩ := bnd H; refine WC_cut (fun F w => ∃ (Fb : Fr) (G : Gm), F = upds Fb [(4, .pointer (some ⟨b5, 0, none⟩)), (6, .pointer (some ⟨b8, 0, none⟩)), (9, .func (.func 104) ([] : List Value).toArray ([.pointer (some ⟨b8, 0, none⟩)] : List Value).toArray), (14, .slice aw127 y126.length cw127), (16, .bool q155.1), (18, .int .i64 y142), (118, .int .i64 (IntKind.i64.wrap ((IntKind.i64.wrap ((x0.Events.length : Int) + 1)) + 1))), (119, .int .i64 s128.1), (121, .slice aw127 y126.length cw127), (122, .int .i64 (y126.length : Int)), (123, .int .i64 s135.2.1), (127, .slice aw127 y126.length cw127), (128, .int .i64 (y126.length : Int)), (129, .int .i64 s144.2.1)] ∧ Gle G149 G ∧ Since w0.heap.size G0 w0 G w ∧ Owns G w w0.heap.size [⟨3, 1, y126.length, .slice aw127 y126.length cw127, clw127⟩, ⟨99, 64, 1, .slice (some ⟨b8, 0, none⟩) 1 1, cellsT q155.2.1⟩, ⟨99, 64, 1, .slice (some ⟨b5, 0, none⟩) 1 1, cellsT q155.2.2⟩]) ?_ ?_
              ·refine WC_block (WC_loop hq155 (fun s153 F w => ∃ (Fb : Fr) (G : Gm), F = upds Fb [(4, .pointer (some ⟨b5, 0, none⟩)), (6, .pointer (some ⟨b8, 0, none⟩)), (9, .func (.func 104) ([] : List Value).toArray ([.pointer (some ⟨b8, 0, none⟩)] : List Value).toArray), (14, .slice aw127 y126.length cw127), (16, .bool s153.1), (18, .int .i64 y142), (20, .int .i64 y151), (118, .int .i64 (IntKind.i64.wrap ((IntKind.i64.wrap ((x0.Events.length : Int) + 1)) + 1))), (119, .int .i64 s128.1), (121, .slice aw127 y126.length cw127), (122, .int .i64 (y126.length : Int)), (123, .int .i64 s135.2.1), (127, .slice aw127 y126.length cw127), (128, .int .i64 (y126.length : Int)), (129, .int .i64 s144.2.1), (133, .slice aw127 y126.length cw127), (134, .int .i64 (y126.length : Int)), (135, .int .i64 s153.2.1)] ∧ Gle G149 G ∧ Since w0.heap.size G0 w0 G w ∧ Owns G w w0.heap.size [⟨3, 1, y126.length, .slice aw127 y126.length cw127, clw127⟩, ⟨99, 64, 1, .slice (some ⟨b8, 0, none⟩) 1 1, cellsT s153.2.2.1⟩, ⟨99, 64, 1, .slice (some ⟨b5, 0, none⟩) 1 1, cellsT s153.2.2.2⟩]) ?_ ?_)
               ·have hO : Owns G149 w148 w0.heap.size ([⟨3, 1, y126.length, .slice aw127 y126.length cw127, clw127⟩, ⟨99, 64, 1, .slice (some ⟨b8, 0, none⟩) 1 1, cellsT s144.2.2.1⟩, ⟨99, 64, 1, .slice (some ⟨b5, 0, none⟩) 1 1, cellsT s144.2.2.2⟩]) := hO
                exact ⟨_, G149, upds_self _ _ ⟨rfl, rfl, rfl, rfl, rfl, rfl, rfl, rfl, rfl, rfl, rfl, rfl, rfl, rfl, rfl, rfl, rfl, rfl, trivial⟩, Gle.refl _, hS, hO⟩
               ·rintro s153 F w157 t156 ⟨Fb, G158, rfl, leG158, hS, hO⟩
                intro H1 hqq155
                have Hoq155 := H; have H := H1
                unfold f70_b8 at H
                refine WC_seq ?_; refine WC_region ?_; refine WL_val (rn_lss rfl rfl) rfl ?_; refine WL_nil ?_; refine WC_seq ?_; refine WC_cond rfl (fun hb159 => ?_) (fun hb159 => ?_)
                ·have H := ifT hb159 H; refine WC_skip ?_; refine WC_seq ?_; obtain ⟨q160, hq160, H⟩ := bnd H; refine WC_cut (fun F w => ∃ (Fb : Fr) (G : Gm), F = upds Fb [(4, .pointer (some ⟨b5, 0, none⟩)), (6, .pointer (some ⟨b8, 0, none⟩)), (9, .func (.func 104) ([] : List Value).toArray ([.pointer (some ⟨b8, 0, none⟩)] : List Value).toArray), (14, .slice aw127 y126.length cw127), (16, .bool q160.1), (18, .int .i64 y142), (20, .int .i64 y151), (118, .int .i64 (IntKind.i64.wrap ((IntKind.i64.wrap ((x0.Events.length : Int) + 1)) + 1))), (119, .int .i64 s128.1), (121, .slice aw127 y126.length cw127), (122, .int .i64 (y126.length : Int)), (123, .int .i64 s135.2.1), (127, .slice aw127 y126.length cw127), (128, .int .i64 (y126.length : Int)), (129, .int .i64 s144.2.1), (133, .slice aw127 y126.length cw127), (134, .int .i64 (y126.length : Int)), (135, .int .i64 s153.2.1)] ∧ Gle G158 G ∧ Since w0.heap.size G0 w0 G w ∧ Owns G w w0.heap.size [⟨3, 1, y126.length, .slice aw127 y126.length cw127, clw127⟩, ⟨99, 64, 1, .slice (some ⟨b8, 0, none⟩) 1 1, cellsT q160.2⟩, ⟨99, 64, 1, .slice (some ⟨b5, 0, none⟩) 1 1, cellsT s153.2.2.2⟩]) ?_ ?_
                 ·have Hoq160 := H; have H := hq160; refine WC_block ?_; refine WC_seq ?_; refine WC_region ?_; obtain ⟨y161, hy161, H⟩ := bnd H
                  have l5_9 := l5_8.trans leG158
                  refine WL_idxO sl22 hO (k := 0) rfl rfl (hrw127.mono RInt_mono l5_9) hy161 rfl rfl rfl ?_
                  rintro b162 ob162 _ hb162 _ hcb162 ⟨⟩
                  refine WL_val (rn_load na3 rfl (own_cellB hO (k := 0) rfl hb162 _ 0 (hcb162 0 _ rfl))) rfl ?_; refine WL_val (rn_assign (v := (.int .i64 y161)) rfl) rfl ?_; refine WL_nil ?_; refine WC_seq ?_; obtain ⟨q163, hq163, H⟩ := bnd H; refine WC_cut (fun F w => ∃ (Fb : Fr) (G : Gm), F = upds Fb [(4, .pointer (some ⟨b5, 0, none⟩)), (6, .pointer (some ⟨b8, 0, none⟩)), (9, .func (.func 104) ([] : List Value).toArray ([.pointer (some ⟨b8, 0, none⟩)] : List Value).toArray), (14, .slice aw127 y126.length cw127), (16, .bool s153.1), (18, .int .i64 y142), (20, .int .i64 y151), (118, .int .i64 (IntKind.i64.wrap ((IntKind.i64.wrap ((x0.Events.length : Int) + 1)) + 1))), (119, .int .i64 s128.1), (121, .slice aw127 y126.length cw127), (122, .int .i64 (y126.length : Int)), (123, .int .i64 s135.2.1), (127, .slice aw127 y126.length cw127), (128, .int .i64 (y126.length : Int)), (129, .int .i64 s144.2.1), (133, .slice aw127 y126.length cw127), (134, .int .i64 (y126.length : Int)), (135, .int .i64 s153.2.1), (153, .bool q163.1)] ∧ Gle G158 G ∧ Since w0.heap.size G0 w0 G w ∧ Owns G w w0.heap.size [⟨3, 1, y126.length, .slice aw127 y126.length cw127, clw127⟩, ⟨99, 64, 1, .slice (some ⟨b8, 0, none⟩) 1 1, cellsT q163.2⟩, ⟨99, 64, 1, .slice (some ⟨b5, 0, none⟩) 1 1, cellsT s153.2.2.2⟩]) ?_ ?_
                  ·have Hoq163 := H; have H := hq163; have hS := hS.keep (below_drew _); have hO := hO.below (below_drew _)
                   refine WC_regionD mixedO (fun _ w => Sat G158 w ∧ Owns G158 w w0.heap.size [⟨3, 1, y126.length, .slice aw127 y126.length cw127, clw127⟩, ⟨99, 64, 1, .slice (some ⟨b8, 0, none⟩) 1 1, cellsT s153.2.2.1⟩, ⟨99, 64, 1, .slice (some ⟨b5, 0, none⟩) 1 1, cellsT s153.2.2.2⟩]) (.fl 0 (.fl 1 (.fl 2 (.fl 3 (.fl 4 (.fl 5 (.fl 6 (.fl 7 (.fl 8 (.fl 9 (.on 10 (.on 11 (.on 12 (.on 13 (.on 14 .nil))))))))))))))) (by kernel_rfl) rfl (by kernel_rfl) (fun _ => ⟨hS.sat, hO⟩) ?_
                   refine WD_val rfl (fun w hw => rn_move (v := (.func (.func 104) ([] : List Value).toArray ([.pointer (some ⟨b8, 0, none⟩)] : List Value).toArray)) rfl) rfl ?_; refine WD_val rfl (fun w hw => rn_move (v := (.int .i64 y151)) rfl) rfl ?_; refine WD_val rfl (fun w hw => rn_move (v := (.int .i64 y161)) rfl) rfl ?_; refine WD_val rfl (fun w hw => rn_move (v := (.int .i64 y151)) rfl) rfl ?_; refine WD_val rfl (fun w hw => rn_move (v := (.int .i64 y142)) rfl) rfl ?_; obtain ⟨j164, hj164, H⟩ := bnd H; refine WD_val rfl (fun w hw => rn_idxA ar99 rfl rfl hj164) rfl ?_; obtain ⟨j165, hj165, H⟩ := bnd H
                   have hl166 : 0 + j164 * 8 + j165 * 1 < 64 := by have := (ckI_some hj164).2; have := (ckI_some hj165).2; omega
                   refine WD_val rfl (fun w hw => rn_idxA ar97 rfl rfl hj165) rfl ?_; refine WD_val rfl (fun w hw => rn_load na3 rfl (tab_cell hw.2 (k := 1) rfl hl166)) rfl ?_; refine WD_val rfl (fun w hw => rn_move (v := (.int .i64 y142)) rfl) rfl ?_; refine WD_val rfl (fun w hw => rn_move (v := (.int .i64 y161)) rfl) rfl ?_; obtain ⟨j167, hj167, H⟩ := bnd H; refine WD_op rfl rfl (OpP_val (rn_idxA ar99 rfl rfl hj167) rfl ?_); refine ⟨fun _ _ => ⟨hS.sat, hO⟩, ?_⟩; obtain ⟨j168, hj168, H⟩ := bnd H
                   have hl169 : 0 + j167 * 8 + j168 * 1 < 64 := by have := (ckI_some hj167).2; have := (ckI_some hj168).2; omega
                   refine WD_op rfl rfl (OpP_val (rn_idxA ar97 rfl rfl hj168) rfl ?_); refine ⟨fun _ _ => ⟨hS.sat, hO⟩, ?_⟩; refine WD_op rfl rfl (OpP_val (rn_load na3 rfl (tab_cell hO (k := 1) rfl hl169)) rfl ?_); refine ⟨fun _ _ => ⟨hS.sat, hO⟩, ?_⟩; refine WD_op rfl rfl (OpP_val (rn_add rfl rfl) rfl ?_); refine ⟨fun _ _ => ⟨hS.sat, hO⟩, ?_⟩; refine WD_op rfl rfl (OpP_inC1 (N' := 20) (fi := []) (al := [.int .i64 y151, .int .i64 y161, .int .i64 (IntKind.i64.wrap ((tget s153.2.2.1 (0 + j164 * 8 + j165 * 1)) + (tget s153.2.2.1 (0 + j167 * 8 + j168 * 1))))]) (ca := [.pointer (some ⟨b8, 0, none⟩)]) cb104 Tryz.func104 rfl rfl rfl rfl rfl rfl rfl ?_); refine WC_seq ?_; refine WC_region ?_; refine WL_val (rn_assign (v := (.bool false)) rfl) rfl ?_; refine WL_nil ?_; refine WC_seq ?_; refine WC_seq ?_; refine WC_region ?_; refine WL_val (rn_move (v := (.int .i64 (IntKind.i64.wrap ((tget s153.2.2.1 (0 + j164 * 8 + j165 * 1)) + (tget s153.2.2.1 (0 + j167 * 8 + j168 * 1)))))) rfl) rfl ?_; refine WL_val (rn_move (v := (.int .i64 y151)) rfl) rfl ?_; refine WL_val (rn_move (v := (.int .i64 y161)) rfl) rfl ?_; obtain ⟨j170, hj170, H⟩ := bnd H; refine WL_val (rn_idxA ar99 rfl rfl hj170) rfl ?_; obtain ⟨j171, hj171, H⟩ := bnd H
                   have hl172 : 0 + j170 * 8 + j171 * 1 < 64 := by have := (ckI_some hj170).2; have := (ckI_some hj171).2; omega
                   refine WL_val (rn_idxA ar97 rfl rfl hj171) rfl ?_; refine WL_val (rn_load na3 rfl (tab_cell hO (k := 1) rfl hl172)) rfl ?_; refine WL_val (rn_geq rfl rfl) rfl ?_; refine WL_nil ?_; refine WC_cond rfl (fun hb173 => ?_) (fun hb173 => ?_)
                   ·have H := ifT hb173 H; refine WC_seq ?_; refine WC_region ?_; refine WL_val (rn_assign (v := (.bool false)) rfl) rfl ?_; refine WL_nil ?_; refine WC_ret ?_; refine ⟨(.bool false), rfl, ?_⟩
                    have hO : Owns G158 w157.drew w0.heap.size ([⟨3, 1, y126.length, .slice aw127 y126.length cw127, clw127⟩, ⟨99, 64, 1, .slice (some ⟨b8, 0, none⟩) 1 1, cellsT s153.2.2.1⟩, ⟨99, 64, 1, .slice (some ⟨b5, 0, none⟩) 1 1, cellsT s153.2.2.2⟩]) := hO
                    refine ⟨fun _ h => noneed (by kernel_rfl) h, ?_⟩
                    refine WD_nil ?_
                    have hO : Owns G158 w157.drew w0.heap.size ([⟨3, 1, y126.length, .slice aw127 y126.length cw127, clw127⟩, ⟨99, 64, 1, .slice (some ⟨b8, 0, none⟩) 1 1, cellsT s153.2.2.1⟩, ⟨99, 64, 1, .slice (some ⟨b5, 0, none⟩) 1 1, cellsT s153.2.2.2⟩]) := hO
                    have H := Option.some.inj H; subst H
                    exact ⟨_, G158, upds_self _ _ ⟨rfl, rfl, rfl, rfl, rfl, rfl, rfl, rfl, rfl, rfl, rfl, rfl, rfl, rfl, rfl, rfl, rfl, rfl, rfl, trivial⟩, Gle.refl _, hS, hO⟩
                   ·have H := ifF hb173 H; refine WC_skip ?_; refine WC_seq ?_; refine WC_region ?_; refine WL_val (rn_move (v := (.int .i64 y151)) rfl) rfl ?_; refine WL_val (rn_move (v := (.int .i64 y161)) rfl) rfl ?_; refine WL_val (rn_move (v := (.int .i64 (IntKind.i64.wrap ((tget s153.2.2.1 (0 + j164 * 8 + j165 * 1)) + (tget s153.2.2.1 (0 + j167 * 8 + j168 * 1)))))) rfl) rfl ?_; obtain ⟨j174, hj174, H⟩ := bnd H; refine WL_val (rn_idxA ar99 rfl rfl hj174) rfl ?_; obtain ⟨j175, hj175, H⟩ := bnd H
                    have hl176 : 0 + j174 * 8 + j175 * 1 < 64 := by have := (ckI_some hj174).2; have := (ckI_some hj175).2; omega
                    refine WL_val (rn_idxA ar97 rfl rfl hj175) rfl ?_; refine WL_op rfl (OpP_storeT sz3 hS hO (k := 1) rfl rfl rfl hl176 (fun w177 hS hO => ?_))
                    have hO : Owns G158 w177 w0.heap.size ([⟨3, 1, y126.length, .slice aw127 y126.length cw127, clw127⟩, ⟨99, 64, 1, .slice (some ⟨b8, 0, none⟩) 1 1, cellsT (tset s153.2.2.1 (0 + j174 * 8 + j175 * 1) (IntKind.i64.wrap ((tget s153.2.2.1 (0 + j164 * 8 + j165 * 1)) + (tget s153.2.2.1 (0 + j167 * 8 + j168 * 1)))))⟩, ⟨99, 64, 1, .slice (some ⟨b5, 0, none⟩) 1 1, cellsT s153.2.2.2⟩]) := hO
                    refine WL_nil ?_; refine WC_seq ?_; refine WC_region ?_; refine WL_val (rn_assign (v := (.bool true)) rfl) rfl ?_; refine WL_nil ?_; refine WC_ret ?_; refine ⟨(.bool true), rfl, ?_⟩
                    have hO : Owns G158 w177 w0.heap.size ([⟨3, 1, y126.length, .slice aw127 y126.length cw127, clw127⟩, ⟨99, 64, 1, .slice (some ⟨b8, 0, none⟩) 1 1, cellsT (tset s153.2.2.1 (0 + j174 * 8 + j175 * 1) (IntKind.i64.wrap ((tget s153.2.2.1 (0 + j164 * 8 + j165 * 1)) + (tget s153.2.2.1 (0 + j167 * 8 + j168 * 1)))))⟩, ⟨99, 64, 1, .slice (some ⟨b5, 0, none⟩) 1 1, cellsT s153.2.2.2⟩]) := hO
                    refine ⟨fun _ h => noneed (by kernel_rfl) h, ?_⟩
                    refine WD_nil ?_
                    have hO : Owns G158 w177 w0.heap.size ([⟨3, 1, y126.length, .slice aw127 y126.length cw127, clw127⟩, ⟨99, 64, 1, .slice (some ⟨b8, 0, none⟩) 1 1, cellsT (tset s153.2.2.1 (0 + j174 * 8 + j175 * 1) (IntKind.i64.wrap ((tget s153.2.2.1 (0 + j164 * 8 + j165 * 1)) + (tget s153.2.2.1 (0 + j167 * 8 + j168 * 1)))))⟩, ⟨99, 64, 1, .slice (some ⟨b5, 0, none⟩) 1 1, cellsT s153.2.2.2⟩]) := hO
                    have H := Option.some.inj H; subst H
                    exact ⟨_, G158, upds_self _ _ ⟨rfl, rfl, rfl, rfl, rfl, rfl, rfl, rfl, rfl, rfl, rfl, rfl, rfl, rfl, rfl, rfl, rfl, rfl, rfl, trivial⟩, Gle.refl _, hS, hO⟩
                  ·rintro F w178 ⟨Fb, G179, rfl, leG179, hS, hO⟩
                   refine WC_cond rfl (fun hb180 => ?_) (fun hb180 => ?_)
                   ·have H := ifT hb180 H; refine WC_region ?_; refine WL_val (rn_assign (v := (.bool true)) rfl) rfl ?_; refine WL_nil ?_
                    have hO : Owns G179 w178 w0.heap.size ([⟨3, 1, y126.length, .slice aw127 y126.length cw127, clw127⟩, ⟨99, 64, 1, .slice (some ⟨b8, 0, none⟩) 1 1, cellsT q163.2⟩, ⟨99, 64, 1, .slice (some ⟨b5, 0, none⟩) 1 1, cellsT s153.2.2.2⟩]) := hO
                    have H := Option.some.inj H; subst H
                    exact ⟨_, G179, upds_self _ _ ⟨rfl, rfl, rfl, rfl, rfl, rfl, rfl, rfl, rfl, rfl, rfl, rfl, rfl, rfl, rfl, rfl, rfl, rfl, trivial⟩, leG179, hS, hO⟩
                   ·have H := ifF hb180 H; refine WC_skip ?_
                    have hO : Owns G179 w178 w0.heap.size ([⟨3, 1, y126.length, .slice aw127 y126.length cw127, clw127⟩, ⟨99, 64, 1, .slice (some ⟨b8, 0, none⟩) 1 1, cellsT q163.2⟩, ⟨99, 64, 1, .slice (some ⟨b5, 0, none⟩) 1 1, cellsT s153.2.2.2⟩]) := hO
                    have H := Option.some.inj H; subst H
                    exact ⟨_, G179, upds_self _ _ ⟨rfl, rfl, rfl, rfl, rfl, rfl, rfl, rfl, rfl, rfl, rfl, rfl, rfl, rfl, rfl, rfl, rfl, rfl, trivial⟩, leG179, hS, hO⟩
                 ·rintro F w181 ⟨Fb, G182, rfl, leG182, hS, hO⟩
                  refine WC_region ?_; refine WL_val (rn_add rfl rfl) rfl ?_; refine WL_val (rn_move (v := (.int .i64 (IntKind.i64.wrap (s153.2.1 + 1)))) rfl) rfl ?_; refine WL_nil ?_
                  have hO : Owns G182 w181 w0.heap.size ([⟨3, 1, y126.length, .slice aw127 y126.length cw127, clw127⟩, ⟨99, 64, 1, .slice (some ⟨b8, 0, none⟩) 1 1, cellsT q160.2⟩, ⟨99, 64, 1, .slice (some ⟨b5, 0, none⟩) 1 1, cellsT s153.2.2.2⟩]) := hO
                  have H := Option.some.inj H; subst H; refine ⟨_, rfl, ?_⟩
                  have l8_10 := leG158.trans leG182
                  exact ⟨_, G182, upds_self _ _ ⟨rfl, rfl, rfl, rfl, rfl, rfl, rfl, rfl, rfl, rfl, rfl, rfl, rfl, rfl, rfl, rfl, rfl, rfl, trivial⟩, l8_10, hS, hO⟩
                ·have H := ifF hb159 H; refine WC_exit rfl ?_
                 have hO : Owns G158 w157 w0.heap.size ([⟨3, 1, y126.length, .slice aw127 y126.length cw127, clw127⟩, ⟨99, 64, 1, .slice (some ⟨b8, 0, none⟩) 1 1, cellsT s153.2.2.1⟩, ⟨99, 64, 1, .slice (some ⟨b5, 0, none⟩) 1 1, cellsT s153.2.2.2⟩]) := hO
                 have H := Option.some.inj H; subst H
                 have hres := hqq155 _ rfl
                 subst hres
                 exact ⟨_, G158, upds_self _ _ ⟨rfl, rfl, rfl, rfl, rfl, rfl, rfl, rfl, rfl, rfl, rfl, rfl, rfl, rfl, trivial⟩, leG158, hS, hO⟩
              ·rintro F w183 ⟨Fb, G184, rfl, leG184, hS, hO⟩
               refine WC_region ?_; refine WL_val (rn_add rfl rfl) rfl ?_; refine WL_val (rn_move (v := (.int .i64 (IntKind.i64.wrap (s144.2.1 + 1)))) rfl) rfl ?_; refine WL_nil ?_
               have hO : Owns G184 w183 w0.heap.size ([⟨3, 1, y126.length, .slice aw127 y126.length cw127, clw127⟩, ⟨99, 64, 1, .slice (some ⟨b8, 0, none⟩) 1 1, cellsT q155.2.1⟩, ⟨99, 64, 1, .slice (some ⟨b5, 0, none⟩) 1 1, cellsT q155.2.2⟩]) := hO
               have H := Option.some.inj H; subst H; refine ⟨_, rfl, ?_⟩
               have l7_9 := leG149.trans leG184
               exact ⟨_, G184, upds_self _ _ ⟨rfl, rfl, rfl, rfl, rfl, rfl, rfl, rfl, rfl, rfl, rfl, rfl, rfl, rfl, trivial⟩, l7_9, hS, hO⟩
             ·have H := ifF hb150 H; refine WC_exit rfl ?_
              have hO : Owns G149 w148 w0.heap.size ([⟨3, 1, y126.length, .slice aw127 y126.length cw127, clw127⟩, ⟨99, 64, 1, .slice (some ⟨b8, 0, none⟩) 1 1, cellsT s144.2.2.1⟩, ⟨99, 64, 1, .slice (some ⟨b5, 0, none⟩) 1 1, cellsT s144.2.2.2⟩]) := hO
              have H := Option.some.inj H; subst H
              have hres := hqq146 _ rfl
              subst hres
              exact ⟨_, G149, upds_self _ _ ⟨rfl, rfl, rfl, rfl, rfl, rfl, rfl, rfl, rfl, rfl, trivial⟩, leG149, hS, hO⟩
           ·rintro F w185 ⟨Fb, G186, rfl, leG186, hS, hO⟩
            refine WC_region ?_; refine WL_val (rn_add rfl rfl) rfl ?_; refine WL_val (rn_move (v := (.int .i64 (IntKind.i64.wrap (s135.2.1 + 1)))) rfl) rfl ?_; refine WL_nil ?_
            have hO : Owns G186 w185 w0.heap.size ([⟨3, 1, y126.length, .slice aw127 y126.length cw127, clw127⟩, ⟨99, 64, 1, .slice (some ⟨b8, 0, none⟩) 1 1, cellsT q146.2.1⟩, ⟨99, 64, 1, .slice (some ⟨b5, 0, none⟩) 1 1, cellsT q146.2.2⟩]) := hO
            have H := Option.some.inj H; subst H; refine ⟨_, rfl, ?_⟩
            have l6_8 := leG140.trans leG186
            exact ⟨_, G186, upds_self _ _ ⟨rfl, rfl, rfl, rfl, rfl, rfl, rfl, rfl, rfl, rfl, trivial⟩, l6_8, hS, hO⟩
          ·have H := ifF hb141 H; refine WC_exit rfl ?_
           have hO : Owns G140 w139 w0.heap.size ([⟨3, 1, y126.length, .slice aw127 y126.length cw127, clw127⟩, ⟨99, 64, 1, .slice (some ⟨b8, 0, none⟩) 1 1, cellsT s135.2.2.1⟩, ⟨99, 64, 1, .slice (some ⟨b5, 0, none⟩) 1 1, cellsT s135.2.2.2⟩]) := hO
           have H := Option.some.inj H; subst H
           have hres := hqq137 _ rfl
           subst hres
           exact ⟨_, G140, upds_self _ _ ⟨rfl, rfl, rfl, rfl, rfl, rfl, rfl, trivial⟩, leG140, hS, hO⟩
        ·rintro F w187 ⟨Fb, G188, rfl, leG188, hS, hO⟩
         refine WC_seq ?_; refine WC_seq ?_; refine WC_region ?_; refine WL_val (rn_move (v := (.slice aw127 y126.length cw127)) rfl) rfl ?_; refine WL_val (rn_len (m := y126.length) sl22 rfl rfl rfl) rfl ?_; refine WL_val (rn_move (v := (.int .i64 0)) rfl) rfl ?_; refine WL_nil ?_; obtain ⟨q191, hq191, H⟩ := bnd H; refine WC_cut (fun F w => ∃ (p190 : Unit) (Fb : Fr), q191 = .inl p190 ∧ F = upds Fb [(4, .pointer (some ⟨b5, 0, none⟩)), (6, .pointer (some ⟨b8, 0, none⟩)), (9, .func (.func 104) ([] : List Value).toArray ([.pointer (some ⟨b8, 0, none⟩)] : List Value).toArray), (14, .slice aw127 y126.length cw127), (16, .bool q137.1), (118, .int .i64 (IntKind.i64.wrap ((IntKind.i64.wrap ((x0.Events.length : Int) + 1)) + 1))), (119, .int .i64 s128.1)] ∧ w187 = w) ?_ ?_
         ·refine WC_block (WC_loop hq191 (fun s189 F w => ∃ (Fb : Fr), F = upds Fb [(4, .pointer (some ⟨b5, 0, none⟩)), (6, .pointer (some ⟨b8, 0, none⟩)), (9, .func (.func 104) ([] : List Value).toArray ([.pointer (some ⟨b8, 0, none⟩)] : List Value).toArray), (14, .slice aw127 y126.length cw127), (16, .bool q137.1), (118, .int .i64 (IntKind.i64.wrap ((IntKind.i64.wrap ((x0.Events.length : Int) + 1)) + 1))), (119, .int .i64 s128.1), (157, .slice aw127 y126.length cw127), (158, .int .i64 (y126.length : Int)), (159, .int .i64 s189)] ∧ w187 = w) ?_ ?_)
          ·exact ⟨_, upds_self _ _ ⟨rfl, rfl, rfl, rfl, rfl, rfl, rfl, rfl, rfl, rfl, trivial⟩, rfl⟩
          ·rintro s189 F wl t192 ⟨Fb, rfl, rfl⟩
           intro H1 hqq191
           have Hoq191 := H; have H := H1
           unfold f70_b9 at H
           refine WC_seq ?_; refine WC_region ?_; refine WL_val (rn_lss rfl rfl) rfl ?_; refine WL_nil ?_; refine WC_seq ?_; refine WC_cond rfl (fun hb195 => ?_) (fun hb195 => ?_)
           ·have H := ifT hb195 H; refine WC_skip ?_; refine WC_seq ?_; refine WC_block ?_; refine WC_seq ?_; refine WC_region ?_; obtain ⟨y196, hy196, H⟩ := bnd H
            have l5_7 := leG133.trans leG188
            refine WL_idxO sl22 hO (k := 0) rfl rfl (hrw127.mono RInt_mono l5_7) hy196 rfl rfl rfl ?_
            rintro b197 ob197 _ hb197 _ hcb197 ⟨⟩
            refine WL_val (rn_load na3 rfl (own_cellB hO (k := 0) rfl hb197 _ 0 (hcb197 0 _ rfl))) rfl ?_; refine WL_val (rn_assign (v := (.int .i64 y196)) rfl) rfl ?_; refine WL_nil ?_; refine WC_seq ?_; refine WC_region ?_; refine WL_val (rn_move (v := (.int .i64 y196)) rfl) rfl ?_; refine WL_val (rn_move (v := (.int .i64 y196)) rfl) rfl ?_; obtain ⟨j198, hj198, H⟩ := bnd H; refine WL_val (rn_idxA ar99 rfl rfl hj198) rfl ?_; obtain ⟨j199, hj199, H⟩ := bnd H
            have hl200 : 0 + j198 * 8 + j199 * 1 < 64 := by have := (ckI_some hj198).2; have := (ckI_some hj199).2; omega
            refine WL_val (rn_idxA ar97 rfl rfl hj199) rfl ?_; refine WL_val (rn_load na3 rfl (tab_cell hO (k := 1) rfl hl200)) rfl ?_; refine WL_val (rn_lss rfl rfl) rfl ?_; refine WL_nil ?_; refine WC_cond rfl (fun hb201 => ?_) (fun hb201 => ?_)
            ·have H := ifT hb201 H; refine WC_seq ?_; refine WC_region ?_
             refine WL_val (v := (.agg (cellsT (Tb.zero 64)).toArray)) (by kernel_rfl) rfl ?_
             refine WL_op rfl (OpP_storeTT sz99 hS hO (k := 2) rfl rfl rfl (fun w202 hS hO => ?_))
             have hO : Owns G188 w202 w0.heap.size ([⟨3, 1, y126.length, .slice aw127 y126.length cw127, clw127⟩, ⟨99, 64, 1, .slice (some ⟨b8, 0, none⟩) 1 1, cellsT q137.2.1⟩, ⟨99, 64, 1, .slice (some ⟨b5, 0, none⟩) 1 1, cellsT (Tb.zero 64)⟩]) := hO
             refine WL_val (rn_assign (v := (.bool false)) rfl) rfl ?_; refine WL_nil ?_; refine WC_ret ?_; have H := Option.some.inj H; subst H
             have hres := hqq191 _ rfl
             subst hres; have H := Hoq191; have H := Option.some.inj H; subst H
             have hres := hqq130 _ rfl
             subst hres; have H := Hoq130
             have H : some (Tb.zero 64, false) = some r := H
             have H := Option.some.inj H; subst H
             exact ⟨[.agg (cellsT (Tb.zero 64)).toArray, .bool false], ⟨⟨_, rfl, ld_agg (cs := (cellsT (Tb.zero 64))) ag99 (cellsT_len _) (fun j v hj => by rw [Nat.zero_add]; exact own_cell hO (k := 2) rfl hj)⟩, rfl, trivial⟩, ⟨rfl, hS.below⟩⟩
            ·have H := ifF hb201 H; refine WC_skip ?_; refine WC_region ?_; refine WL_val (rn_add rfl rfl) rfl ?_; refine WL_val (rn_move (v := (.int .i64 (IntKind.i64.wrap (s189 + 1)))) rfl) rfl ?_; refine WL_nil ?_; have H := Option.some.inj H; subst H; refine ⟨_, rfl, ?_⟩
             exact ⟨_, upds_self _ _ ⟨rfl, rfl, rfl, rfl, rfl, rfl, rfl, rfl, rfl, rfl, trivial⟩, rfl⟩
           ·have H := ifF hb195 H; refine WC_exit rfl ?_; have H := Option.some.inj H; subst H
            have hres := hqq191 _ rfl
            subst hres
            exact ⟨_, _, rfl, upds_self _ _ ⟨rfl, rfl, rfl, rfl, rfl, rfl, rfl, trivial⟩, rfl⟩
         ·rintro F wl ⟨p190, Fb, rfl, rfl, rfl⟩
          refine WC_seq ?_; refine WC_region ?_; refine WL_val (rn_move (v := (.bool q137.1)) rfl) rfl ?_; refine WL_val (rn_not rfl) rfl ?_; refine WL_nil ?_; refine WC_cond rfl (fun hb205 => ?_) (fun hb205 => ?_)
          ·have H := ifT hb205 H; refine WC_exit rfl ?_
           have hO : Owns G188 w187 w0.heap.size ([⟨3, 1, y126.length, .slice aw127 y126.length cw127, clw127⟩, ⟨99, 64, 1, .slice (some ⟨b8, 0, none⟩) 1 1, cellsT q137.2.1⟩, ⟨99, 64, 1, .slice (some ⟨b5, 0, none⟩) 1 1, cellsT q137.2.2⟩]) := hO
           have H := Option.some.inj H; subst H
           have hres := hqq130 _ rfl
           subst hres
           have l5_7 := leG133.trans leG188
           exact ⟨_, _, G188, rfl, upds_self _ _ ⟨rfl, rfl, trivial⟩, l5_7, hS, hO⟩
          ·have H := ifF hb205 H; refine WC_skip ?_; refine WC_region ?_; refine WL_val (rn_add rfl rfl) rfl ?_; refine WL_val (rn_move (v := (.int .i64 (IntKind.i64.wrap (s128.1 + 1)))) rfl) rfl ?_; refine WL_nil ?_
           have hO : Owns G188 w187 w0.heap.size ([⟨3, 1, y126.length, .slice aw127 y126.length cw127, clw127⟩, ⟨99, 64, 1, .slice (some ⟨b8, 0, none⟩) 1 1, cellsT q137.2.1⟩, ⟨99, 64, 1, .slice (some ⟨b5, 0, none⟩) 1 1, cellsT q137.2.2⟩]) := hO
           have H := Option.some.inj H; subst H; refine ⟨_, rfl, ?_⟩
           have l5_7 := leG133.trans leG188
           exact ⟨_, G188, upds_self _ _ ⟨rfl, rfl, rfl, rfl, rfl, rfl, trivial⟩, l5_7, hS, hO⟩
       ·have H := ifF hb134 H; refine WC_exit rfl ?_
        have hO : Owns G133 w132 w0.heap.size ([⟨3, 1, y126.length, .slice aw127 y126.length cw127, clw127⟩, ⟨99, 64, 1, .slice (some ⟨b8, 0, none⟩) 1 1, cellsT s128.2.1⟩, ⟨99, 64, 1, .slice (some ⟨b5, 0, none⟩) 1 1, cellsT s128.2.2⟩]) := hO
        have H := Option.some.inj H; subst H
        have hres := hqq130 _ rfl
        subst hres
        exact ⟨_, _, G133, rfl, upds_self _ _ ⟨rfl, rfl, trivial⟩, leG133, hS, hO⟩
     ·rintro F w207 ⟨p129, Fb, G208, rfl, rfl, leG208, hS, hO⟩
      refine WC_seq ?_; refine WC_region ?_; refine WL_val (rn_loadT ag99 hO (k := 1) rfl rfl) rfl ?_; refine WL_op rfl (OpP_storeTT sz99 hS hO (k := 2) rfl rfl rfl (fun w209 hS hO => ?_))
      have hO : Owns G208 w209 w0.heap.size ([⟨3, 1, y126.length, .slice aw127 y126.length cw127, clw127⟩, ⟨99, 64, 1, .slice (some ⟨b8, 0, none⟩) 1 1, cellsT p129.1⟩, ⟨99, 64, 1, .slice (some ⟨b5, 0, none⟩) 1 1, cellsT p129.1⟩]) := hO
      refine WL_val (rn_assign (v := (.bool true)) rfl) rfl ?_; refine WL_nil ?_; refine WC_ret ?_
      have H : some (p129.1, true) = some r := H
      have H := Option.some.inj H; subst H
      exact ⟨[.agg (cellsT p129.1).toArray, .bool true], ⟨⟨_, rfl, ld_agg (cs := (cellsT p129.1)) ag99 (cellsT_len _) (fun j v hj => by rw [Nat.zero_add]; exact own_cell hO (k := 2) rfl hj)⟩, rfl, trivial⟩, ⟨rfl, hS.below⟩⟩
set_option maxHeartbeats 1000000 in
theorem f71_ok {G0 : Gm} {w0 : World} (hS0 : Sat G0 w0) {x0 : TLandBook} {bq0 : Nat} {rm4 : Nat} {a1 : Option Addr} {n1 c1 : Nat} {a2 : Option Addr} {n2 c2 : Nat} {a3 : Option Addr} {n3 c3 : Nat} (hcq0 : Cells G0 bq0 0 [.slice a1 n1 c1, .slice a2 n2 c2, .slice a3 n3 c3, .map (some rm4)]) (h1 : RSl RTLandPerson 2 G0 a1 n1 c1 x0.People) (h2 : RSl RTLandEvent 2 G0 a2 n2 c2 x0.Events) (h3 : RSl RTLandMemory 4 G0 a3 n3 c3 x0.Memories) {r : Int} (H : f71 x0 = some r) :
  Calls Tryz.prog 71 #[.pointer (some ⟨bq0, 0, none⟩)] w0 (RetV w0 (.int .i64 r)) := by
 have hS := Since.start hS0
 have hO : Owns G0 w0 w0.heap.size [] := Owns.nil (Nat.le_refl _)
 unfold f71 at H
 refine enter1 (N := 11) (shutV _ _) Tryz.func71 rfl rfl rfl rfl ?_; refine WC_seq ?_; refine WC_region ?_; refine WL_val (rn_assign (v := (.int .i64 0)) rfl) rfl ?_; refine WL_nil ?_; refine WC_seq ?_; refine WC_region ?_; refine WL_val (rn_move (v := (.pointer (some ⟨bq0, 0, none⟩))) rfl) rfl ?_
 refine WL_val (v := (.pointer (some ⟨bq0, 0, none⟩))) (by kernel_rfl) rfl ?_
 refine WL_val (rn_fld fd162_0 rfl) rfl ?_; refine WL_val (rn_fld fd43_2 rfl) rfl ?_; refine WL_val (rn_load na41 rfl (hS.sat.cell (hcq0 2 _ rfl))) rfl ?_; refine WL_val (rn_len sl41 rfl rfl h3.1) rfl ?_; obtain ⟨y5, hy5, H⟩ := bnd H; refine WL_val (rn_shl rfl rfl hy5) rfl ?_; refine WL_val (rn_sub rfl rfl) rfl ?_; refine WL_val (rn_assign (v := (.int .i64 (IntKind.i64.wrap (y5 - 1)))) rfl) rfl ?_; refine WL_nil ?_; refine WC_ret ?_
 have H : some (IntKind.i64.wrap (y5 - 1)) = some r := H
 have H := Option.some.inj H; subst H
 exact ⟨rfl, hS.below⟩
set_option maxHeartbeats 1000000 in
theorem f39_ok {G0 : Gm} {w0 : World} (hS0 : Sat G0 w0) {x0 : TLandBook} {a1 : Option Addr} {n1 c1 : Nat} {a2 : Option Addr} {n2 c2 : Nat} {a3 : Option Addr} {n3 c3 : Nat} {x1 : Bool} (h1 : RSl RTLandPerson 2 G0 a1 n1 c1 x0.People) (h2 : RSl RTLandEvent 2 G0 a2 n2 c2 x0.Events) (h3 : RSl RTLandMemory 4 G0 a3 n3 c3 x0.Memories) {r : (Tb 64) × Int} (H : f39 x0 x1 = some r) :
  Calls Tryz.prog 39 #[.agg #[.slice a1 n1 c1, .slice a2 n2 c2, .slice a3 n3 c3], .bool x1] w0 (RetV w0 (.tuple #[.agg (cellsT r.1).toArray, .int .i64 r.2])) := by
 have hS := Since.start hS0
 have hO : Owns G0 w0 w0.heap.size [] := Owns.nil (Nat.le_refl _)
 unfold f39 at H
 refine enterG (N := 29) (shutV _ _) [.cell 4 99, .tmp 5] Tryz.func39 rfl rfl rfl rfl ?_; refine WC_seq ?_; refine WC_region ?_; refine WL_op rfl (OpP_newF (v := fun b => .pointer (some ⟨b, 0, none⟩)) (cs := [.slice a1 n1 c1, .slice a2 n2 c2, .slice a3 n3 c3]) (e := 43) (rn_boxA rfl) hS.sat rfl (fun b4 G6 w5 hg hcb4 => ?_)); have hS := hS.grow hg; have hO := hO.grow hg
 have leG6 := hg.le
 refine WL_op rfl (OpP_newO (v := fun b => .pointer (some ⟨b, 0, none⟩)) (cs := (cellsT (Tb.zero 64))) (e := 99) (by kernel_rfl) hS.sat hO rfl 64 1 (cellsT_len _) (by decide) (fun b7 w8 hb hO => ?_))
 have hS := hS.keep hb; refine WL_val (rn_assign (v := (.int .i64 0)) rfl) rfl ?_; refine WL_nil ?_; refine WC_seq ?_; refine WC_seq ?_; obtain ⟨q10, hq10, H⟩ := bnd H; refine WC_cut (fun F w => ∃ (Fb : Fr) (G : Gm), F = upds Fb [(2, .pointer (some ⟨b4, 0, none⟩)), (4, .pointer (some ⟨b7, 0, none⟩)), (14, .bool q10)] ∧ Gle G6 G ∧ Since w0.heap.size G0 w0 G w ∧ Owns G w w0.heap.size [⟨99, 64, 1, .slice (some ⟨b7, 0, none⟩) 1 1, cellsT (Tb.zero 64)⟩]) ?_ ?_
 ·have Hoq10 := H; have H := hq10; refine WC_region ?_; refine WL_val (rn_loadA ag43 (cs := [.slice a1 n1 c1, .slice a2 n2 c2, .slice a3 n3 c3]) rfl rfl (fun j v hj => hS.sat.cell (hcb4.drop_take 0 3 j v hj))) rfl ?_; obtain ⟨y11, hy11, H⟩ := bnd H; refine WL_op rfl (OpP_callV cb33 (f33_ok (x0 := x0) hS.sat (h1.mono RTLandPerson_mono leG6) (h2.mono RTLandEvent_mono leG6) (h3.mono RTLandMemory_mono leG6) hy11) rfl rfl (fun w12 hb => ?_)); have hS := hS.keep hb; have hO := hO.below hb; refine WL_val (rn_not rfl) rfl ?_; refine WL_val (rn_move (v := (.bool (!y11))) rfl) rfl ?_
  rcases bcases (!y11) with hb13 | hb13
  ·have H := ifT hb13 H; refine WL_guardN rfl hb13 rfl rfl rfl ?_; refine WL_guardN rfl hb13 rfl rfl rfl ?_; refine WL_val (rn_pickT (v := (.bool true)) rfl hb13 rfl) rfl ?_; refine WL_nil ?_
   have hO : Owns G6 w12 w0.heap.size ([⟨99, 64, 1, .slice (some ⟨b7, 0, none⟩) 1 1, cellsT (Tb.zero 64)⟩]) := hO
   have H := Option.some.inj H; subst H
   exact ⟨_, G6, upds_self _ _ ⟨rfl, rfl, rfl, trivial⟩, Gle.refl _, hS, hO⟩
  ·have H := ifF hb13 H; refine WL_guardY rfl hb13 rfl rfl ?_; refine WL_val (rn_move (v := (.bool x1)) rfl) rfl ?_; refine WL_guardY rfl hb13 rfl rfl ?_; refine WL_val (rn_not rfl) rfl ?_; refine WL_val (rn_pickF (v := (.bool (!x1))) rfl hb13 rfl) rfl ?_; refine WL_nil ?_
   have hO : Owns G6 w12 w0.heap.size ([⟨99, 64, 1, .slice (some ⟨b7, 0, none⟩) 1 1, cellsT (Tb.zero 64)⟩]) := hO
   have H := Option.some.inj H; subst H
   exact ⟨_, G6, upds_self _ _ ⟨rfl, rfl, rfl, trivial⟩, Gle.refl _, hS, hO⟩
 ·rintro F w14 ⟨Fb, G15, rfl, leG15, hS, hO⟩
  refine WC_cond rfl (fun hb16 => ?_) (fun hb16 => ?_)
  ·have H := ifT hb16 H; refine WC_seq ?_; refine WC_region ?_
   refine WL_val (v := (.agg (cellsT (Tb.zero 64)).toArray)) (by kernel_rfl) rfl ?_
   refine WL_op rfl (OpP_storeTT sz99 hS hO (k := 0) rfl rfl rfl (fun w17 hS hO => ?_))
   have hO : Owns G15 w17 w0.heap.size ([⟨99, 64, 1, .slice (some ⟨b7, 0, none⟩) 1 1, cellsT (Tb.zero 64)⟩]) := hO
   refine WL_val (rn_assign (v := (.int .i64 2)) rfl) rfl ?_; refine WL_nil ?_; refine WC_ret ?_
   have H : some (Tb.zero 64, 2) = some r := H
   have H := Option.some.inj H; subst H
   exact ⟨[.agg (cellsT (Tb.zero 64)).toArray, .int .i64 2], ⟨⟨_, rfl, ld_agg (cs := (cellsT (Tb.zero 64))) ag99 (cellsT_len _) (fun j v hj => by rw [Nat.zero_add]; exact own_cell hO (k := 0) rfl hj)⟩, rfl, trivial⟩, ⟨rfl, hS.below⟩⟩
  ·have H := ifF hb16 H; refine WC_skip ?_; refine WC_seq ?_; have hS := hS.keep (below_drew _); have hO := hO.below (below_drew _)
   refine WC_regionD mixedO (fun _ w => Sat G15 w ∧ Owns G15 w w0.heap.size [⟨99, 64, 1, .slice (some ⟨b7, 0, none⟩) 1 1, cellsT (Tb.zero 64)⟩]) (.fl 0 (.fl 2 (.two 1 (.two 3 (.two 4 (.two 5 (.fl 6 (.fl 7 (.fl 8 (.on 9 (.on 10 (.on 11 .nil)))))) 9 (.on 5 (.on 6 (.fl 7 (.fl 8 (.on 10 (.on 11 .nil))))))) 9 (.on 4 (.on 5 (.on 6 (.fl 7 (.fl 8 (.on 10 (.on 11 .nil)))))))) 9 (.on 3 (.on 4 (.on 5 (.on 6 (.fl 7 (.fl 8 (.on 10 (.on 11 .nil))))))))) 9 (.on 1 (.on 3 (.on 4 (.on 5 (.on 6 (.fl 7 (.fl 8 (.on 10 (.on 11 .nil)))))))))))) (by kernel_rfl) rfl (by kernel_rfl) (fun _ => ⟨hS.sat, hO⟩) ?_
   refine WD_val rfl (fun w hw => rn_loadA ag43 (cs := [.slice a1 n1 c1, .slice a2 n2 c2, .slice a3 n3 c3]) rfl rfl (fun j v hj => (hw.1.le leG15).cell (hcb4.drop_take 0 3 j v hj))) rfl ?_; refine WD_val rfl (fun w hw => rn_loadA ag43 (cs := [.slice a1 n1 c1, .slice a2 n2 c2, .slice a3 n3 c3]) rfl rfl (fun j v hj => (hw.1.le leG15).cell (hcb4.drop_take 0 3 j v hj))) rfl ?_; refine WD_two ?_ ?_
   ·refine WD_op rfl rfl (OpP_in1 (N' := 7) [.agg #[.slice a1 n1 c1, .slice a2 n2 c2, .slice a3 n3 c3]] cb42 Tryz.func42 rfl rfl rfl rfl rfl rfl ?_); refine WC_seq ?_; refine WC_region ?_; refine WL_op rfl (OpP_newF (v := fun b => .pointer (some ⟨b, 0, none⟩)) (cs := [.slice a1 n1 c1, .slice a2 n2 c2, .slice a3 n3 c3]) (e := 43) (rn_boxA rfl) hS.sat rfl (fun b18 G20 w19 hg hcb18 => ?_)); have hS := hS.grow hg; have hO := hO.grow hg
    have leG20 := hg.le
    refine WL_val (rn_assign (v := (.pointer none)) rfl) rfl ?_; refine WL_nil ?_; refine WC_seq ?_; refine WC_region ?_; refine WL_val (rn_loadA ag43 (cs := [.slice a1 n1 c1, .slice a2 n2 c2, .slice a3 n3 c3]) rfl rfl (fun j v hj => hS.sat.cell (hcb18.drop_take 0 3 j v hj))) rfl ?_; refine WL_op rfl (OpP_makeMap (e := 157) hS hO rfl (fun r21 w22 hS hO => ?_))
    have hO : Owns G20 w22 w0.heap.size ([⟨157, 2, ([] : (List (Int × Bool))).length, .map (some r21), kvs kvI vvB ([] : (List (Int × Bool)))⟩, ⟨99, 64, 1, .slice (some ⟨b7, 0, none⟩) 1 1, cellsT (Tb.zero 64)⟩]) := hO
    refine WL_val (v := (.agg #[.slice a1 n1 c1, .slice a2 n2 c2, .slice a3 n3 c3, .map (some r21)])) (by kernel_rfl) rfl ?_
    refine WL_op rfl (OpP_newF (v := fun b => .pointer (some ⟨b, 0, none⟩)) (cs := [.slice a1 n1 c1, .slice a2 n2 c2, .slice a3 n3 c3, .map (some r21)]) (e := 162) (rn_boxA rfl) hS.sat rfl (fun b24 G26 w25 hg hcb24 => ?_)); have hS := hS.grow hg; have hO := hO.grow hg
    have leG26 := hg.le
    refine WL_val (rn_assign (v := (.pointer (some ⟨b24, 0, none⟩))) rfl) rfl ?_; refine WL_nil ?_; refine WC_ret ?_; refine ⟨(.pointer (some ⟨b24, 0, none⟩)), rfl, ?_⟩
    have hO : Owns G26 w25 w0.heap.size ([⟨157, 2, ([] : (List (Int × Bool))).length, .map (some r21), kvs kvI vvB ([] : (List (Int × Bool)))⟩, ⟨99, 64, 1, .slice (some ⟨b7, 0, none⟩) 1 1, cellsT (Tb.zero 64)⟩]) := hO
    have l2_4 := leG20.trans leG26
    refine ⟨fun _ _ => ⟨hS.sat.le l2_4, (hO.drop 0).le l2_4⟩, ?_⟩; refine WD_two ?_ ?_
    ·refine WD_op rfl rfl (OpP_in1 (N' := 7) [.agg #[.slice a1 n1 c1, .slice a2 n2 c2, .slice a3 n3 c3]] cb42 Tryz.func42 rfl rfl rfl rfl rfl rfl ?_); refine WC_seq ?_; refine WC_region ?_; refine WL_op rfl (OpP_newF (v := fun b => .pointer (some ⟨b, 0, none⟩)) (cs := [.slice a1 n1 c1, .slice a2 n2 c2, .slice a3 n3 c3]) (e := 43) (rn_boxA rfl) hS.sat rfl (fun b27 G29 w28 hg hcb27 => ?_)); have hS := hS.grow hg; have hO := hO.grow hg
     have leG29 := hg.le
     refine WL_val (rn_assign (v := (.pointer none)) rfl) rfl ?_; refine WL_nil ?_; refine WC_seq ?_; refine WC_region ?_; refine WL_val (rn_loadA ag43 (cs := [.slice a1 n1 c1, .slice a2 n2 c2, .slice a3 n3 c3]) rfl rfl (fun j v hj => hS.sat.cell (hcb27.drop_take 0 3 j v hj))) rfl ?_; refine WL_op rfl (OpP_makeMap (e := 157) hS hO rfl (fun r30 w31 hS hO => ?_))
     have hO : Owns G29 w31 w0.heap.size ([⟨157, 2, ([] : (List (Int × Bool))).length, .map (some r30), kvs kvI vvB ([] : (List (Int × Bool)))⟩, ⟨157, 2, ([] : (List (Int × Bool))).length, .map (some r21), kvs kvI vvB ([] : (List (Int × Bool)))⟩, ⟨99, 64, 1, .slice (some ⟨b7, 0, none⟩) 1 1, cellsT (Tb.zero 64)⟩]) := hO
     refine WL_val (v := (.agg #[.slice a1 n1 c1, .slice a2 n2 c2, .slice a3 n3 c3, .map (some r30)])) (by kernel_rfl) rfl ?_
     refine WL_op rfl (OpP_newF (v := fun b => .pointer (some ⟨b, 0, none⟩)) (cs := [.slice a1 n1 c1, .slice a2 n2 c2, .slice a3 n3 c3, .map (some r30)]) (e := 162) (rn_boxA rfl) hS.sat rfl (fun b33 G35 w34 hg hcb33 => ?_)); have hS := hS.grow hg; have hO := hO.grow hg
     have leG35 := hg.le
     refine WL_val (rn_assign (v := (.pointer (some ⟨b33, 0, none⟩))) rfl) rfl ?_; refine WL_nil ?_; refine WC_ret ?_; refine ⟨(.pointer (some ⟨b33, 0, none⟩)), rfl, ?_⟩
     have hO : Owns G35 w34 w0.heap.size ([⟨157, 2, ([] : (List (Int × Bool))).length, .map (some r30), kvs kvI vvB ([] : (List (Int × Bool)))⟩, ⟨157, 2, ([] : (List (Int × Bool))).length, .map (some r21), kvs kvI vvB ([] : (List (Int × Bool)))⟩, ⟨99, 64, 1, .slice (some ⟨b7, 0, none⟩) 1 1, cellsT (Tb.zero 64)⟩]) := hO
     have l2_6 := (l2_4.trans leG29).trans leG35
     refine ⟨fun _ _ => ⟨hS.sat.le l2_6, ((hO.drop 1).drop 0).le l2_6⟩, ?_⟩; refine WD_two ?_ ?_
     ·have l0_6 := (leG6.trans leG15).trans l2_6
      obtain ⟨y36, hy36, H⟩ := bnd H
      have hx38 := f71_ok (x0 := x0) hS.sat hcb33 (h1.mono RTLandPerson_mono l0_6) (h2.mono RTLandEvent_mono l0_6) (h3.mono RTLandMemory_mono l0_6) hy36
      refine WD_op rfl rfl (OpP_callV cb71 hx38 rfl rfl (fun w37 hb => ?_)); have hS := hS.keep hb; have hO := hO.below hb; refine ⟨fun _ _ => ⟨hS.sat.le l2_6, ((hO.drop 1).drop 0).le l2_6⟩, ?_⟩; refine WD_two ?_ ?_
      ·have l4_6 := leG29.trans leG35
       obtain ⟨y39, hy39, H⟩ := bnd H
       have hx41 := f70_ok (x0 := x0) (x1 := y36) hS.sat (hcb24.mono l4_6) (h1.mono RTLandPerson_mono l0_6) (h2.mono RTLandEvent_mono l0_6) (h3.mono RTLandMemory_mono l0_6) hy39
       refine WD_op rfl rfl (OpP_callV cb70 hx41 rfl rfl (fun w40 hb => ?_)); have hS := hS.keep hb; have hO := hO.below hb; refine ⟨fun _ _ => ⟨hS.sat.le l2_6, ((hO.drop 1).drop 0).le l2_6⟩, ?_⟩; refine WD_val rfl (fun w hw => rn_move (v := (.tuple #[.agg (cellsT y39.1).toArray, .bool y39.2])) rfl) rfl ?_; refine WD_val rfl (fun w hw => rn_extract (v := (.agg (cellsT y39.1).toArray)) rfl rfl) rfl ?_; refine WD_val rfl (fun w hw => rn_extract (v := (.bool y39.2)) rfl rfl) rfl ?_
       refine WD_op rfl rfl (OpP_newO (v := fun b => .pointer (some ⟨b, 0, none⟩)) (cs := (cellsT (Tb.zero 64))) (e := 99) (by kernel_rfl) hS.sat hO rfl 64 1 (cellsT_len _) (by decide) (fun b42 w43 hb hO => ?_))
       have hS := hS.keep hb; refine ⟨fun _ _ => ⟨hS.sat.le l2_6, (((hO.drop 2).drop 1).drop 0).le l2_6⟩, ?_⟩; refine WD_op rfl rfl (OpP_storeTT sz99 hS hO (k := 0) rfl rfl rfl (fun w45 hS hO => ?_))
       have hO : Owns G35 w45 w0.heap.size ([⟨99, 64, 1, .slice (some ⟨b42, 0, none⟩) 1 1, cellsT y39.1⟩, ⟨157, 2, ([] : (List (Int × Bool))).length, .map (some r30), kvs kvI vvB ([] : (List (Int × Bool)))⟩, ⟨157, 2, ([] : (List (Int × Bool))).length, .map (some r21), kvs kvI vvB ([] : (List (Int × Bool)))⟩, ⟨99, 64, 1, .slice (some ⟨b7, 0, none⟩) 1 1, cellsT (Tb.zero 64)⟩]) := hO
       refine ⟨fun _ _ => ⟨hS.sat.le l2_6, (((hO.drop 2).drop 1).drop 0).le l2_6⟩, ?_⟩; refine WD_op rfl rfl (OpP_val (rn_assign (v := (.bool y39.2)) rfl) rfl ?_)
       refine ⟨fun _ h => noneed (by kernel_rfl) h, ?_⟩
       refine WD_nil ?_; refine WC_seq ?_; refine WC_seq ?_; refine WC_region ?_; refine WL_val (rn_move (v := (.bool y39.2)) rfl) rfl ?_; refine WL_val (rn_not rfl) rfl ?_; refine WL_nil ?_; refine WC_cond rfl (fun hb46 => ?_) (fun hb46 => ?_)
       ·have H := ifT hb46 H; refine WC_seq ?_; refine WC_region ?_
        refine WL_val (v := (.agg (cellsT (Tb.zero 64)).toArray)) (by kernel_rfl) rfl ?_
        refine WL_op rfl (OpP_storeTT sz99 hS hO (k := 3) rfl rfl rfl (fun w47 hS hO => ?_))
        have hO : Owns G35 w47 w0.heap.size ([⟨99, 64, 1, .slice (some ⟨b42, 0, none⟩) 1 1, cellsT y39.1⟩, ⟨157, 2, ([] : (List (Int × Bool))).length, .map (some r30), kvs kvI vvB ([] : (List (Int × Bool)))⟩, ⟨157, 2, ([] : (List (Int × Bool))).length, .map (some r21), kvs kvI vvB ([] : (List (Int × Bool)))⟩, ⟨99, 64, 1, .slice (some ⟨b7, 0, none⟩) 1 1, cellsT (Tb.zero 64)⟩]) := hO
        refine WL_val (rn_assign (v := (.int .i64 7)) rfl) rfl ?_; refine WL_nil ?_; refine WC_ret ?_
        have H : some (Tb.zero 64, 7) = some r := H
        have H := Option.some.inj H; subst H
        exact ⟨[.agg (cellsT (Tb.zero 64)).toArray, .int .i64 7], ⟨⟨_, rfl, ld_agg (cs := (cellsT (Tb.zero 64))) ag99 (cellsT_len _) (fun j v hj => by rw [Nat.zero_add]; exact own_cell hO (k := 3) rfl hj)⟩, rfl, trivial⟩, ⟨rfl, hS.below⟩⟩
       ·have H := ifF hb46 H; refine WC_skip ?_; refine WC_seq ?_; refine WC_region ?_; refine WL_val (rn_loadT ag99 hO (k := 0) rfl rfl) rfl ?_; refine WL_op rfl (OpP_storeTT sz99 hS hO (k := 3) rfl rfl rfl (fun w48 hS hO => ?_))
        have hO : Owns G35 w48 w0.heap.size ([⟨99, 64, 1, .slice (some ⟨b42, 0, none⟩) 1 1, cellsT y39.1⟩, ⟨157, 2, ([] : (List (Int × Bool))).length, .map (some r30), kvs kvI vvB ([] : (List (Int × Bool)))⟩, ⟨157, 2, ([] : (List (Int × Bool))).length, .map (some r21), kvs kvI vvB ([] : (List (Int × Bool)))⟩, ⟨99, 64, 1, .slice (some ⟨b7, 0, none⟩) 1 1, cellsT y39.1⟩]) := hO
        refine WL_val (rn_assign (v := (.int .i64 0)) rfl) rfl ?_; refine WL_nil ?_; refine WC_ret ?_
        have H : some (y39.1, 0) = some r := H
        have H := Option.some.inj H; subst H
        exact ⟨[.agg (cellsT y39.1).toArray, .int .i64 0], ⟨⟨_, rfl, ld_agg (cs := (cellsT y39.1)) ag99 (cellsT_len _) (fun j v hj => by rw [Nat.zero_add]; exact own_cell hO (k := 3) rfl hj)⟩, rfl, trivial⟩, ⟨rfl, hS.below⟩⟩
      ·refine WD_op rfl rfl (OpP_newO (v := fun b => .pointer (some ⟨b, 0, none⟩)) (cs := (cellsT (Tb.zero 64))) (e := 99) (by kernel_rfl) hS.sat hO rfl 64 1 (cellsT_len _) (by decide) (fun b39 w40 hb hO => ?_))
       have hS := hS.keep hb; refine ⟨fun _ _ => ⟨hS.sat.le l2_6, (((hO.drop 2).drop 1).drop 0).le l2_6⟩, ?_⟩
       have l4_6 := leG29.trans leG35
       obtain ⟨y42, hy42, H⟩ := bnd H
       have hx44 := f70_ok (x0 := x0) (x1 := y36) hS.sat (hcb24.mono l4_6) (h1.mono RTLandPerson_mono l0_6) (h2.mono RTLandEvent_mono l0_6) (h3.mono RTLandMemory_mono l0_6) hy42
       refine WD_op rfl rfl (OpP_callV cb70 hx44 rfl rfl (fun w43 hb => ?_)); have hS := hS.keep hb; have hO := hO.below hb; refine ⟨fun _ _ => ⟨hS.sat.le l2_6, (((hO.drop 2).drop 1).drop 0).le l2_6⟩, ?_⟩; refine WD_op rfl rfl (OpP_val (rn_move (v := (.tuple #[.agg (cellsT y42.1).toArray, .bool y42.2])) rfl) rfl ?_); refine ⟨fun _ _ => ⟨hS.sat.le l2_6, (((hO.drop 2).drop 1).drop 0).le l2_6⟩, ?_⟩; refine WD_val rfl (fun w hw => rn_extract (v := (.agg (cellsT y42.1).toArray)) rfl rfl) rfl ?_; refine WD_val rfl (fun w hw => rn_extract (v := (.bool y42.2)) rfl rfl) rfl ?_; refine WD_op rfl rfl (OpP_storeTT sz99 hS hO (k := 0) rfl rfl rfl (fun w45 hS hO => ?_))
       have hO : Owns G35 w45 w0.heap.size ([⟨99, 64, 1, .slice (some ⟨b39, 0, none⟩) 1 1, cellsT y42.1⟩, ⟨157, 2, ([] : (List (Int × Bool))).length, .map (some r30), kvs kvI vvB ([] : (List (Int × Bool)))⟩, ⟨157, 2, ([] : (List (Int × Bool))).length, .map (some r21), kvs kvI vvB ([] : (List (Int × Bool)))⟩, ⟨99, 64, 1, .slice (some ⟨b7, 0, none⟩) 1 1, cellsT (Tb.zero 64)⟩]) := hO
       refine ⟨fun _ _ => ⟨hS.sat.le l2_6, (((hO.drop 2).drop 1).drop 0).le l2_6⟩, ?_⟩; refine WD_op rfl rfl (OpP_val (rn_assign (v := (.bool y42.2)) rfl) rfl ?_)
       refine ⟨fun _ h => noneed (by kernel_rfl) h, ?_⟩
       refine WD_nil ?_; refine WC_seq ?_; refine WC_seq ?_; refine WC_region ?_; refine WL_val (rn_move (v := (.bool y42.2)) rfl) rfl ?_; refine WL_val (rn_not rfl) rfl ?_; refine WL_nil ?_; refine WC_cond rfl (fun hb46 => ?_) (fun hb46 => ?_)
       ·have H := ifT hb46 H; refine WC_seq ?_; refine WC_region ?_
        refine WL_val (v := (.agg (cellsT (Tb.zero 64)).toArray)) (by kernel_rfl) rfl ?_
        refine WL_op rfl (OpP_storeTT sz99 hS hO (k := 3) rfl rfl rfl (fun w47 hS hO => ?_))
        have hO : Owns G35 w47 w0.heap.size ([⟨99, 64, 1, .slice (some ⟨b39, 0, none⟩) 1 1, cellsT y42.1⟩, ⟨157, 2, ([] : (List (Int × Bool))).length, .map (some r30), kvs kvI vvB ([] : (List (Int × Bool)))⟩, ⟨157, 2, ([] : (List (Int × Bool))).length, .map (some r21), kvs kvI vvB ([] : (List (Int × Bool)))⟩, ⟨99, 64, 1, .slice (some ⟨b7, 0, none⟩) 1 1, cellsT (Tb.zero 64)⟩]) := hO
        refine WL_val (rn_assign (v := (.int .i64 7)) rfl) rfl ?_; refine WL_nil ?_; refine WC_ret ?_
        have H : some (Tb.zero 64, 7) = some r := H
        have H := Option.some.inj H; subst H
        exact ⟨[.agg (cellsT (Tb.zero 64)).toArray, .int .i64 7], ⟨⟨_, rfl, ld_agg (cs := (cellsT (Tb.zero 64))) ag99 (cellsT_len _) (fun j v hj => by rw [Nat.zero_add]; exact own_cell hO (k := 3) rfl hj)⟩, rfl, trivial⟩, ⟨rfl, hS.below⟩⟩
       ·have H := ifF hb46 H; refine WC_skip ?_; refine WC_seq ?_; refine WC_region ?_; refine WL_val (rn_loadT ag99 hO (k := 0) rfl rfl) rfl ?_; refine WL_op rfl (OpP_storeTT sz99 hS hO (k := 3) rfl rfl rfl (fun w48 hS hO => ?_))
        have hO : Owns G35 w48 w0.heap.size ([⟨99, 64, 1, .slice (some ⟨b39, 0, none⟩) 1 1, cellsT y42.1⟩, ⟨157, 2, ([] : (List (Int × Bool))).length, .map (some r30), kvs kvI vvB ([] : (List (Int × Bool)))⟩, ⟨157, 2, ([] : (List (Int × Bool))).length, .map (some r21), kvs kvI vvB ([] : (List (Int × Bool)))⟩, ⟨99, 64, 1, .slice (some ⟨b7, 0, none⟩) 1 1, cellsT y42.1⟩]) := hO
        refine WL_val (rn_assign (v := (.int .i64 0)) rfl) rfl ?_; refine WL_nil ?_; refine WC_ret ?_
        have H : some (y42.1, 0) = some r := H
        have H := Option.some.inj H; subst H
        exact ⟨[.agg (cellsT y42.1).toArray, .int .i64 0], ⟨⟨_, rfl, ld_agg (cs := (cellsT y42.1)) ag99 (cellsT_len _) (fun j v hj => by rw [Nat.zero_add]; exact own_cell hO (k := 3) rfl hj)⟩, rfl, trivial⟩, ⟨rfl, hS.below⟩⟩
     ·refine WD_op rfl rfl (OpP_newO (v := fun b => .pointer (some ⟨b, 0, none⟩)) (cs := (cellsT (Tb.zero 64))) (e := 99) (by kernel_rfl) hS.sat hO rfl 64 1 (cellsT_len _) (by decide) (fun b36 w37 hb hO => ?_))
      have hS := hS.keep hb; refine ⟨fun _ _ => ⟨hS.sat.le l2_6, (((hO.drop 2).drop 1).drop 0).le l2_6⟩, ?_⟩
      have l0_6 := (leG6.trans leG15).trans l2_6
      obtain ⟨y39, hy39, H⟩ := bnd H
      have hx41 := f71_ok (x0 := x0) hS.sat hcb33 (h1.mono RTLandPerson_mono l0_6) (h2.mono RTLandEvent_mono l0_6) (h3.mono RTLandMemory_mono l0_6) hy39
      refine WD_op rfl rfl (OpP_callV cb71 hx41 rfl rfl (fun w40 hb => ?_)); have hS := hS.keep hb; have hO := hO.below hb; refine ⟨fun _ _ => ⟨hS.sat.le l2_6, (((hO.drop 2).drop 1).drop 0).le l2_6⟩, ?_⟩
      have l4_6 := leG29.trans leG35
      obtain ⟨y42, hy42, H⟩ := bnd H
      have hx44 := f70_ok (x0 := x0) (x1 := y39) hS.sat (hcb24.mono l4_6) (h1.mono RTLandPerson_mono l0_6) (h2.mono RTLandEvent_mono l0_6) (h3.mono RTLandMemory_mono l0_6) hy42
      refine WD_op rfl rfl (OpP_callV cb70 hx44 rfl rfl (fun w43 hb => ?_)); have hS := hS.keep hb; have hO := hO.below hb; refine ⟨fun _ _ => ⟨hS.sat.le l2_6, (((hO.drop 2).drop 1).drop 0).le l2_6⟩, ?_⟩; refine WD_op rfl rfl (OpP_val (rn_move (v := (.tuple #[.agg (cellsT y42.1).toArray, .bool y42.2])) rfl) rfl ?_); refine ⟨fun _ _ => ⟨hS.sat.le l2_6, (((hO.drop 2).drop 1).drop 0).le l2_6⟩, ?_⟩; refine WD_val rfl (fun w hw => rn_extract (v := (.agg (cellsT y42.1).toArray)) rfl rfl) rfl ?_; refine WD_val rfl (fun w hw => rn_extract (v := (.bool y42.2)) rfl rfl) rfl ?_; refine WD_op rfl rfl (OpP_storeTT sz99 hS hO (k := 0) rfl rfl rfl (fun w45 hS hO => ?_))
      have hO : Owns G35 w45 w0.heap.size ([⟨99, 64, 1, .slice (some ⟨b36, 0, none⟩) 1 1, cellsT y42.1⟩, ⟨157, 2, ([] : (List (Int × Bool))).length, .map (some r30), kvs kvI vvB ([] : (List (Int × Bool)))⟩, ⟨157, 2, ([] : (List (Int × Bool))).length, .map (some r21), kvs kvI vvB ([] : (List (Int × Bool)))⟩, ⟨99, 64, 1, .slice (some ⟨b7, 0, none⟩) 1 1, cellsT (Tb.zero 64)⟩]) := hO
      refine ⟨fun _ _ => ⟨hS.sat.le l2_6, (((hO.drop 2).drop 1).drop 0).le l2_6⟩, ?_⟩; refine WD_op rfl rfl (OpP_val (rn_assign (v := (.bool y42.2)) rfl) rfl ?_)
      refine ⟨fun _ h => noneed (by kernel_rfl) h, ?_⟩
      refine WD_nil ?_; refine WC_seq ?_; refine WC_seq ?_; refine WC_region ?_; refine WL_val (rn_move (v := (.bool y42.2)) rfl) rfl ?_; refine WL_val (rn_not rfl) rfl ?_; refine WL_nil ?_; refine WC_cond rfl (fun hb46 => ?_) (fun hb46 => ?_)
      ·have H := ifT hb46 H; refine WC_seq ?_; refine WC_region ?_
       refine WL_val (v := (.agg (cellsT (Tb.zero 64)).toArray)) (by kernel_rfl) rfl ?_
       refine WL_op rfl (OpP_storeTT sz99 hS hO (k := 3) rfl rfl rfl (fun w47 hS hO => ?_))
       have hO : Owns G35 w47 w0.heap.size ([⟨99, 64, 1, .slice (some ⟨b36, 0, none⟩) 1 1, cellsT y42.1⟩, ⟨157, 2, ([] : (List (Int × Bool))).length, .map (some r30), kvs kvI vvB ([] : (List (Int × Bool)))⟩, ⟨157, 2, ([] : (List (Int × Bool))).length, .map (some r21), kvs kvI vvB ([] : (List (Int × Bool)))⟩, ⟨99, 64, 1, .slice (some ⟨b7, 0, none⟩) 1 1, cellsT (Tb.zero 64)⟩]) := hO
       refine WL_val (rn_assign (v := (.int .i64 7)) rfl) rfl ?_; refine WL_nil ?_; refine WC_ret ?_
       have H : some (Tb.zero 64, 7) = some r := H
       have H := Option.some.inj H; subst H
       exact ⟨[.agg (cellsT (Tb.zero 64)).toArray, .int .i64 7], ⟨⟨_, rfl, ld_agg (cs := (cellsT (Tb.zero 64))) ag99 (cellsT_len _) (fun j v hj => by rw [Nat.zero_add]; exact own_cell hO (k := 3) rfl hj)⟩, rfl, trivial⟩, ⟨rfl, hS.below⟩⟩
      ·have H := ifF hb46 H; refine WC_skip ?_; refine WC_seq ?_; refine WC_region ?_; refine WL_val (rn_loadT ag99 hO (k := 0) rfl rfl) rfl ?_; refine WL_op rfl (OpP_storeTT sz99 hS hO (k := 3) rfl rfl rfl (fun w48 hS hO => ?_))
       have hO : Owns G35 w48 w0.heap.size ([⟨99, 64, 1, .slice (some ⟨b36, 0, none⟩) 1 1, cellsT y42.1⟩, ⟨157, 2, ([] : (List (Int × Bool))).length, .map (some r30), kvs kvI vvB ([] : (List (Int × Bool)))⟩, ⟨157, 2, ([] : (List (Int × Bool))).length, .map (some r21), kvs kvI vvB ([] : (List (Int × Bool)))⟩, ⟨99, 64, 1, .slice (some ⟨b7, 0, none⟩) 1 1, cellsT y42.1⟩]) := hO
       refine WL_val (rn_assign (v := (.int .i64 0)) rfl) rfl ?_; refine WL_nil ?_; refine WC_ret ?_
       have H : some (y42.1, 0) = some r := H
       have H := Option.some.inj H; subst H
       exact ⟨[.agg (cellsT y42.1).toArray, .int .i64 0], ⟨⟨_, rfl, ld_agg (cs := (cellsT y42.1)) ag99 (cellsT_len _) (fun j v hj => by rw [Nat.zero_add]; exact own_cell hO (k := 3) rfl hj)⟩, rfl, trivial⟩, ⟨rfl, hS.below⟩⟩
    ·refine WD_op rfl rfl (OpP_newO (v := fun b => .pointer (some ⟨b, 0, none⟩)) (cs := (cellsT (Tb.zero 64))) (e := 99) (by kernel_rfl) hS.sat hO rfl 64 1 (cellsT_len _) (by decide) (fun b27 w28 hb hO => ?_))
     have hS := hS.keep hb; refine ⟨fun _ _ => ⟨hS.sat.le l2_4, ((hO.drop 1).drop 0).le l2_4⟩, ?_⟩; refine WD_op rfl rfl (OpP_in1 (N' := 7) [.agg #[.slice a1 n1 c1, .slice a2 n2 c2, .slice a3 n3 c3]] cb42 Tryz.func42 rfl rfl rfl rfl rfl rfl ?_); refine WC_seq ?_; refine WC_region ?_; refine WL_op rfl (OpP_newF (v := fun b => .pointer (some ⟨b, 0, none⟩)) (cs := [.slice a1 n1 c1, .slice a2 n2 c2, .slice a3 n3 c3]) (e := 43) (rn_boxA rfl) hS.sat rfl (fun b30 G32 w31 hg hcb30 => ?_)); have hS := hS.grow hg; have hO := hO.grow hg
     have leG32 := hg.le
     refine WL_val (rn_assign (v := (.pointer none)) rfl) rfl ?_; refine WL_nil ?_; refine WC_seq ?_; refine WC_region ?_; refine WL_val (rn_loadA ag43 (cs := [.slice a1 n1 c1, .slice a2 n2 c2, .slice a3 n3 c3]) rfl rfl (fun j v hj => hS.sat.cell (hcb30.drop_take 0 3 j v hj))) rfl ?_; refine WL_op rfl (OpP_makeMap (e := 157) hS hO rfl (fun r33 w34 hS hO => ?_))
     have hO : Owns G32 w34 w0.heap.size ([⟨157, 2, ([] : (List (Int × Bool))).length, .map (some r33), kvs kvI vvB ([] : (List (Int × Bool)))⟩, ⟨99, 64, 1, .slice (some ⟨b27, 0, none⟩) 1 1, cellsT (Tb.zero 64)⟩, ⟨157, 2, ([] : (List (Int × Bool))).length, .map (some r21), kvs kvI vvB ([] : (List (Int × Bool)))⟩, ⟨99, 64, 1, .slice (some ⟨b7, 0, none⟩) 1 1, cellsT (Tb.zero 64)⟩]) := hO
     refine WL_val (v := (.agg #[.slice a1 n1 c1, .slice a2 n2 c2, .slice a3 n3 c3, .map (some r33)])) (by kernel_rfl) rfl ?_
     refine WL_op rfl (OpP_newF (v := fun b => .pointer (some ⟨b, 0, none⟩)) (cs := [.slice a1 n1 c1, .slice a2 n2 c2, .slice a3 n3 c3, .map (some r33)]) (e := 162) (rn_boxA rfl) hS.sat rfl (fun b36 G38 w37 hg hcb36 => ?_)); have hS := hS.grow hg; have hO := hO.grow hg
     have leG38 := hg.le
     refine WL_val (rn_assign (v := (.pointer (some ⟨b36, 0, none⟩))) rfl) rfl ?_; refine WL_nil ?_; refine WC_ret ?_; refine ⟨(.pointer (some ⟨b36, 0, none⟩)), rfl, ?_⟩
     have hO : Owns G38 w37 w0.heap.size ([⟨157, 2, ([] : (List (Int × Bool))).length, .map (some r33), kvs kvI vvB ([] : (List (Int × Bool)))⟩, ⟨99, 64, 1, .slice (some ⟨b27, 0, none⟩) 1 1, cellsT (Tb.zero 64)⟩, ⟨157, 2, ([] : (List (Int × Bool))).length, .map (some r21), kvs kvI vvB ([] : (List (Int × Bool)))⟩, ⟨99, 64, 1, .slice (some ⟨b7, 0, none⟩) 1 1, cellsT (Tb.zero 64)⟩]) := hO
     have l2_6 := (l2_4.trans leG32).trans leG38
     refine ⟨fun _ _ => ⟨hS.sat.le l2_6, (((hO.drop 2).drop 1).drop 0).le l2_6⟩, ?_⟩
     have l0_6 := (leG6.trans leG15).trans l2_6
     obtain ⟨y39, hy39, H⟩ := bnd H
     have hx41 := f71_ok (x0 := x0) hS.sat hcb36 (h1.mono RTLandPerson_mono l0_6) (h2.mono RTLandEvent_mono l0_6) (h3.mono RTLandMemory_mono l0_6) hy39
     refine WD_op rfl rfl (OpP_callV cb71 hx41 rfl rfl (fun w40 hb => ?_)); have hS := hS.keep hb; have hO := hO.below hb; refine ⟨fun _ _ => ⟨hS.sat.le l2_6, (((hO.drop 2).drop 1).drop 0).le l2_6⟩, ?_⟩
     have l4_6 := leG32.trans leG38
     obtain ⟨y42, hy42, H⟩ := bnd H
     have hx44 := f70_ok (x0 := x0) (x1 := y39) hS.sat (hcb24.mono l4_6) (h1.mono RTLandPerson_mono l0_6) (h2.mono RTLandEvent_mono l0_6) (h3.mono RTLandMemory_mono l0_6) hy42
     refine WD_op rfl rfl (OpP_callV cb70 hx44 rfl rfl (fun w43 hb => ?_)); have hS := hS.keep hb; have hO := hO.below hb; refine ⟨fun _ _ => ⟨hS.sat.le l2_6, (((hO.drop 2).drop 1).drop 0).le l2_6⟩, ?_⟩; refine WD_op rfl rfl (OpP_val (rn_move (v := (.tuple #[.agg (cellsT y42.1).toArray, .bool y42.2])) rfl) rfl ?_); refine ⟨fun _ _ => ⟨hS.sat.le l2_6, (((hO.drop 2).drop 1).drop 0).le l2_6⟩, ?_⟩; refine WD_val rfl (fun w hw => rn_extract (v := (.agg (cellsT y42.1).toArray)) rfl rfl) rfl ?_; refine WD_val rfl (fun w hw => rn_extract (v := (.bool y42.2)) rfl rfl) rfl ?_; refine WD_op rfl rfl (OpP_storeTT sz99 hS hO (k := 1) rfl rfl rfl (fun w45 hS hO => ?_))
     have hO : Owns G38 w45 w0.heap.size ([⟨157, 2, ([] : (List (Int × Bool))).length, .map (some r33), kvs kvI vvB ([] : (List (Int × Bool)))⟩, ⟨99, 64, 1, .slice (some ⟨b27, 0, none⟩) 1 1, cellsT y42.1⟩, ⟨157, 2, ([] : (List (Int × Bool))).length, .map (some r21), kvs kvI vvB ([] : (List (Int × Bool)))⟩, ⟨99, 64, 1, .slice (some ⟨b7, 0, none⟩) 1 1, cellsT (Tb.zero 64)⟩]) := hO
     refine ⟨fun _ _ => ⟨hS.sat.le l2_6, (((hO.drop 2).drop 1).drop 0).le l2_6⟩, ?_⟩; refine WD_op rfl rfl (OpP_val (rn_assign (v := (.bool y42.2)) rfl) rfl ?_)
     refine ⟨fun _ h => noneed (by kernel_rfl) h, ?_⟩
     refine WD_nil ?_; refine WC_seq ?_; refine WC_seq ?_; refine WC_region ?_; refine WL_val (rn_move (v := (.bool y42.2)) rfl) rfl ?_; refine WL_val (rn_not rfl) rfl ?_; refine WL_nil ?_; refine WC_cond rfl (fun hb46 => ?_) (fun hb46 => ?_)
     ·have H := ifT hb46 H; refine WC_seq ?_; refine WC_region ?_
      refine WL_val (v := (.agg (cellsT (Tb.zero 64)).toArray)) (by kernel_rfl) rfl ?_
      refine WL_op rfl (OpP_storeTT sz99 hS hO (k := 3) rfl rfl rfl (fun w47 hS hO => ?_))
      have hO : Owns G38 w47 w0.heap.size ([⟨157, 2, ([] : (List (Int × Bool))).length, .map (some r33), kvs kvI vvB ([] : (List (Int × Bool)))⟩, ⟨99, 64, 1, .slice (some ⟨b27, 0, none⟩) 1 1, cellsT y42.1⟩, ⟨157, 2, ([] : (List (Int × Bool))).length, .map (some r21), kvs kvI vvB ([] : (List (Int × Bool)))⟩, ⟨99, 64, 1, .slice (some ⟨b7, 0, none⟩) 1 1, cellsT (Tb.zero 64)⟩]) := hO
      refine WL_val (rn_assign (v := (.int .i64 7)) rfl) rfl ?_; refine WL_nil ?_; refine WC_ret ?_
      have H : some (Tb.zero 64, 7) = some r := H
      have H := Option.some.inj H; subst H
      exact ⟨[.agg (cellsT (Tb.zero 64)).toArray, .int .i64 7], ⟨⟨_, rfl, ld_agg (cs := (cellsT (Tb.zero 64))) ag99 (cellsT_len _) (fun j v hj => by rw [Nat.zero_add]; exact own_cell hO (k := 3) rfl hj)⟩, rfl, trivial⟩, ⟨rfl, hS.below⟩⟩
     ·have H := ifF hb46 H; refine WC_skip ?_; refine WC_seq ?_; refine WC_region ?_; refine WL_val (rn_loadT ag99 hO (k := 1) rfl rfl) rfl ?_; refine WL_op rfl (OpP_storeTT sz99 hS hO (k := 3) rfl rfl rfl (fun w48 hS hO => ?_))
      have hO : Owns G38 w48 w0.heap.size ([⟨157, 2, ([] : (List (Int × Bool))).length, .map (some r33), kvs kvI vvB ([] : (List (Int × Bool)))⟩, ⟨99, 64, 1, .slice (some ⟨b27, 0, none⟩) 1 1, cellsT y42.1⟩, ⟨157, 2, ([] : (List (Int × Bool))).length, .map (some r21), kvs kvI vvB ([] : (List (Int × Bool)))⟩, ⟨99, 64, 1, .slice (some ⟨b7, 0, none⟩) 1 1, cellsT y42.1⟩]) := hO
      refine WL_val (rn_assign (v := (.int .i64 0)) rfl) rfl ?_; refine WL_nil ?_; refine WC_ret ?_
      have H : some (y42.1, 0) = some r := H
      have H := Option.some.inj H; subst H
      exact ⟨[.agg (cellsT y42.1).toArray, .int .i64 0], ⟨⟨_, rfl, ld_agg (cs := (cellsT y42.1)) ag99 (cellsT_len _) (fun j v hj => by rw [Nat.zero_add]; exact own_cell hO (k := 3) rfl hj)⟩, rfl, trivial⟩, ⟨rfl, hS.below⟩⟩
   ·refine WD_op rfl rfl (OpP_newO (v := fun b => .pointer (some ⟨b, 0, none⟩)) (cs := (cellsT (Tb.zero 64))) (e := 99) (by kernel_rfl) hS.sat hO rfl 64 1 (cellsT_len _) (by decide) (fun b18 w19 hb hO => ?_))
    have hS := hS.keep hb; refine ⟨fun _ _ => ⟨hS.sat, (hO.drop 0)⟩, ?_⟩; refine WD_op rfl rfl (OpP_in1 (N' := 7) [.agg #[.slice a1 n1 c1, .slice a2 n2 c2, .slice a3 n3 c3]] cb42 Tryz.func42 rfl rfl rfl rfl rfl rfl ?_); refine WC_seq ?_; refine WC_region ?_; refine WL_op rfl (OpP_newF (v := fun b => .pointer (some ⟨b, 0, none⟩)) (cs := [.slice a1 n1 c1, .slice a2 n2 c2, .slice a3 n3 c3]) (e := 43) (rn_boxA rfl) hS.sat rfl (fun b21 G23 w22 hg hcb21 => ?_)); have hS := hS.grow hg; have hO := hO.grow hg
    have leG23 := hg.le
    refine WL_val (rn_assign (v := (.pointer none)) rfl) rfl ?_; refine WL_nil ?_; refine WC_seq ?_; refine WC_region ?_; refine WL_val (rn_loadA ag43 (cs := [.slice a1 n1 c1, .slice a2 n2 c2, .slice a3 n3 c3]) rfl rfl (fun j v hj => hS.sat.cell (hcb21.drop_take 0 3 j v hj))) rfl ?_; refine WL_op rfl (OpP_makeMap (e := 157) hS hO rfl (fun r24 w25 hS hO => ?_))
    have hO : Owns G23 w25 w0.heap.size ([⟨157, 2, ([] : (List (Int × Bool))).length, .map (some r24), kvs kvI vvB ([] : (List (Int × Bool)))⟩, ⟨99, 64, 1, .slice (some ⟨b18, 0, none⟩) 1 1, cellsT (Tb.zero 64)⟩, ⟨99, 64, 1, .slice (some ⟨b7, 0, none⟩) 1 1, cellsT (Tb.zero 64)⟩]) := hO
    refine WL_val (v := (.agg #[.slice a1 n1 c1, .slice a2 n2 c2, .slice a3 n3 c3, .map (some r24)])) (by kernel_rfl) rfl ?_
    refine WL_op rfl (OpP_newF (v := fun b => .pointer (some ⟨b, 0, none⟩)) (cs := [.slice a1 n1 c1, .slice a2 n2 c2, .slice a3 n3 c3, .map (some r24)]) (e := 162) (rn_boxA rfl) hS.sat rfl (fun b27 G29 w28 hg hcb27 => ?_)); have hS := hS.grow hg; have hO := hO.grow hg
    have leG29 := hg.le
    refine WL_val (rn_assign (v := (.pointer (some ⟨b27, 0, none⟩))) rfl) rfl ?_; refine WL_nil ?_; refine WC_ret ?_; refine ⟨(.pointer (some ⟨b27, 0, none⟩)), rfl, ?_⟩
    have hO : Owns G29 w28 w0.heap.size ([⟨157, 2, ([] : (List (Int × Bool))).length, .map (some r24), kvs kvI vvB ([] : (List (Int × Bool)))⟩, ⟨99, 64, 1, .slice (some ⟨b18, 0, none⟩) 1 1, cellsT (Tb.zero 64)⟩, ⟨99, 64, 1, .slice (some ⟨b7, 0, none⟩) 1 1, cellsT (Tb.zero 64)⟩]) := hO
    have l2_4 := leG23.trans leG29
    refine ⟨fun _ _ => ⟨hS.sat.le l2_4, ((hO.drop 1).drop 0).le l2_4⟩, ?_⟩; refine WD_op rfl rfl (OpP_in1 (N' := 7) [.agg #[.slice a1 n1 c1, .slice a2 n2 c2, .slice a3 n3 c3]] cb42 Tryz.func42 rfl rfl rfl rfl rfl rfl ?_); refine WC_seq ?_; refine WC_region ?_; refine WL_op rfl (OpP_newF (v := fun b => .pointer (some ⟨b, 0, none⟩)) (cs := [.slice a1 n1 c1, .slice a2 n2 c2, .slice a3 n3 c3]) (e := 43) (rn_boxA rfl) hS.sat rfl (fun b30 G32 w31 hg hcb30 => ?_)); have hS := hS.grow hg; have hO := hO.grow hg
    have leG32 := hg.le
    refine WL_val (rn_assign (v := (.pointer none)) rfl) rfl ?_; refine WL_nil ?_; refine WC_seq ?_; refine WC_region ?_; refine WL_val (rn_loadA ag43 (cs := [.slice a1 n1 c1, .slice a2 n2 c2, .slice a3 n3 c3]) rfl rfl (fun j v hj => hS.sat.cell (hcb30.drop_take 0 3 j v hj))) rfl ?_; refine WL_op rfl (OpP_makeMap (e := 157) hS hO rfl (fun r33 w34 hS hO => ?_))
    have hO : Owns G32 w34 w0.heap.size ([⟨157, 2, ([] : (List (Int × Bool))).length, .map (some r33), kvs kvI vvB ([] : (List (Int × Bool)))⟩, ⟨157, 2, ([] : (List (Int × Bool))).length, .map (some r24), kvs kvI vvB ([] : (List (Int × Bool)))⟩, ⟨99, 64, 1, .slice (some ⟨b18, 0, none⟩) 1 1, cellsT (Tb.zero 64)⟩, ⟨99, 64, 1, .slice (some ⟨b7, 0, none⟩) 1 1, cellsT (Tb.zero 64)⟩]) := hO
    refine WL_val (v := (.agg #[.slice a1 n1 c1, .slice a2 n2 c2, .slice a3 n3 c3, .map (some r33)])) (by kernel_rfl) rfl ?_
    refine WL_op rfl (OpP_newF (v := fun b => .pointer (some ⟨b, 0, none⟩)) (cs := [.slice a1 n1 c1, .slice a2 n2 c2, .slice a3 n3 c3, .map (some r33)]) (e := 162) (rn_boxA rfl) hS.sat rfl (fun b36 G38 w37 hg hcb36 => ?_)); have hS := hS.grow hg; have hO := hO.grow hg
    have leG38 := hg.le
    refine WL_val (rn_assign (v := (.pointer (some ⟨b36, 0, none⟩))) rfl) rfl ?_; refine WL_nil ?_; refine WC_ret ?_; refine ⟨(.pointer (some ⟨b36, 0, none⟩)), rfl, ?_⟩
    have hO : Owns G38 w37 w0.heap.size ([⟨157, 2, ([] : (List (Int × Bool))).length, .map (some r33), kvs kvI vvB ([] : (List (Int × Bool)))⟩, ⟨157, 2, ([] : (List (Int × Bool))).length, .map (some r24), kvs kvI vvB ([] : (List (Int × Bool)))⟩, ⟨99, 64, 1, .slice (some ⟨b18, 0, none⟩) 1 1, cellsT (Tb.zero 64)⟩, ⟨99, 64, 1, .slice (some ⟨b7, 0, none⟩) 1 1, cellsT (Tb.zero 64)⟩]) := hO
    have l2_6 := (l2_4.trans leG32).trans leG38
    refine ⟨fun _ _ => ⟨hS.sat.le l2_6, (((hO.drop 2).drop 1).drop 0).le l2_6⟩, ?_⟩
    have l0_6 := (leG6.trans leG15).trans l2_6
    obtain ⟨y39, hy39, H⟩ := bnd H
    have hx41 := f71_ok (x0 := x0) hS.sat hcb36 (h1.mono RTLandPerson_mono l0_6) (h2.mono RTLandEvent_mono l0_6) (h3.mono RTLandMemory_mono l0_6) hy39
    refine WD_op rfl rfl (OpP_callV cb71 hx41 rfl rfl (fun w40 hb => ?_)); have hS := hS.keep hb; have hO := hO.below hb; refine ⟨fun _ _ => ⟨hS.sat.le l2_6, (((hO.drop 2).drop 1).drop 0).le l2_6⟩, ?_⟩
    have l4_6 := leG32.trans leG38
    obtain ⟨y42, hy42, H⟩ := bnd H
    have hx44 := f70_ok (x0 := x0) (x1 := y39) hS.sat (hcb27.mono l4_6) (h1.mono RTLandPerson_mono l0_6) (h2.mono RTLandEvent_mono l0_6) (h3.mono RTLandMemory_mono l0_6) hy42
    refine WD_op rfl rfl (OpP_callV cb70 hx44 rfl rfl (fun w43 hb => ?_)); have hS := hS.keep hb; have hO := hO.below hb; refine ⟨fun _ _ => ⟨hS.sat.le l2_6, (((hO.drop 2).drop 1).drop 0).le l2_6⟩, ?_⟩; refine WD_op rfl rfl (OpP_val (rn_move (v := (.tuple #[.agg (cellsT y42.1).toArray, .bool y42.2])) rfl) rfl ?_); refine ⟨fun _ _ => ⟨hS.sat.le l2_6, (((hO.drop 2).drop 1).drop 0).le l2_6⟩, ?_⟩; refine WD_val rfl (fun w hw => rn_extract (v := (.agg (cellsT y42.1).toArray)) rfl rfl) rfl ?_; refine WD_val rfl (fun w hw => rn_extract (v := (.bool y42.2)) rfl rfl) rfl ?_; refine WD_op rfl rfl (OpP_storeTT sz99 hS hO (k := 2) rfl rfl rfl (fun w45 hS hO => ?_))
    have hO : Owns G38 w45 w0.heap.size ([⟨157, 2, ([] : (List (Int × Bool))).length, .map (some r33), kvs kvI vvB ([] : (List (Int × Bool)))⟩, ⟨157, 2, ([] : (List (Int × Bool))).length, .map (some r24), kvs kvI vvB ([] : (List (Int × Bool)))⟩, ⟨99, 64, 1, .slice (some ⟨b18, 0, none⟩) 1 1, cellsT y42.1⟩, ⟨99, 64, 1, .slice (some ⟨b7, 0, none⟩) 1 1, cellsT (Tb.zero 64)⟩]) := hO
    refine ⟨fun _ _ => ⟨hS.sat.le l2_6, (((hO.drop 2).drop 1).drop 0).le l2_6⟩, ?_⟩; refine WD_op rfl rfl (OpP_val (rn_assign (v := (.bool y42.2)) rfl) rfl ?_)
    refine ⟨fun _ h => noneed (by kernel_rfl) h, ?_⟩
    refine WD_nil ?_; refine WC_seq ?_; refine WC_seq ?_; refine WC_region ?_; refine WL_val (rn_move (v := (.bool y42.2)) rfl) rfl ?_; refine WL_val (rn_not rfl) rfl ?_; refine WL_nil ?_; refine WC_cond rfl (fun hb46 => ?_) (fun hb46 => ?_)
    ·have H := ifT hb46 H; refine WC_seq ?_; refine WC_region ?_
     refine WL_val (v := (.agg (cellsT (Tb.zero 64)).toArray)) (by kernel_rfl) rfl ?_
     refine WL_op rfl (OpP_storeTT sz99 hS hO (k := 3) rfl rfl rfl (fun w47 hS hO => ?_))
     have hO : Owns G38 w47 w0.heap.size ([⟨157, 2, ([] : (List (Int × Bool))).length, .map (some r33), kvs kvI vvB ([] : (List (Int × Bool)))⟩, ⟨157, 2, ([] : (List (Int × Bool))).length, .map (some r24), kvs kvI vvB ([] : (List (Int × Bool)))⟩, ⟨99, 64, 1, .slice (some ⟨b18, 0, none⟩) 1 1, cellsT y42.1⟩, ⟨99, 64, 1, .slice (some ⟨b7, 0, none⟩) 1 1, cellsT (Tb.zero 64)⟩]) := hO
     refine WL_val (rn_assign (v := (.int .i64 7)) rfl) rfl ?_; refine WL_nil ?_; refine WC_ret ?_
     have H : some (Tb.zero 64, 7) = some r := H
     have H := Option.some.inj H; subst H
     exact ⟨[.agg (cellsT (Tb.zero 64)).toArray, .int .i64 7], ⟨⟨_, rfl, ld_agg (cs := (cellsT (Tb.zero 64))) ag99 (cellsT_len _) (fun j v hj => by rw [Nat.zero_add]; exact own_cell hO (k := 3) rfl hj)⟩, rfl, trivial⟩, ⟨rfl, hS.below⟩⟩
    ·have H := ifF hb46 H; refine WC_skip ?_; refine WC_seq ?_; refine WC_region ?_; refine WL_val (rn_loadT ag99 hO (k := 2) rfl rfl) rfl ?_; refine WL_op rfl (OpP_storeTT sz99 hS hO (k := 3) rfl rfl rfl (fun w48 hS hO => ?_))
     have hO : Owns G38 w48 w0.heap.size ([⟨157, 2, ([] : (List (Int × Bool))).length, .map (some r33), kvs kvI vvB ([] : (List (Int × Bool)))⟩, ⟨157, 2, ([] : (List (Int × Bool))).length, .map (some r24), kvs kvI vvB ([] : (List (Int × Bool)))⟩, ⟨99, 64, 1, .slice (some ⟨b18, 0, none⟩) 1 1, cellsT y42.1⟩, ⟨99, 64, 1, .slice (some ⟨b7, 0, none⟩) 1 1, cellsT y42.1⟩]) := hO
     refine WL_val (rn_assign (v := (.int .i64 0)) rfl) rfl ?_; refine WL_nil ?_; refine WC_ret ?_
     have H : some (y42.1, 0) = some r := H
     have H := Option.some.inj H; subst H
     exact ⟨[.agg (cellsT y42.1).toArray, .int .i64 0], ⟨⟨_, rfl, ld_agg (cs := (cellsT y42.1)) ag99 (cellsT_len _) (fun j v hj => by rw [Nat.zero_add]; exact own_cell hO (k := 3) rfl hj)⟩, rfl, trivial⟩, ⟨rfl, hS.below⟩⟩
set_option maxHeartbeats 1000000 in
theorem f40_ok {G0 : Gm} {w0 : World} (hS0 : Sat G0 w0) {x0 : (Tb 64)} {x1 : Int} {x2 : Int}  {r : TSpan} (H : f40 x0 x1 x2 = some r) :
  Calls Tryz.prog 40 #[.agg (cellsT x0).toArray, .int .i64 x1, .int .i64 x2] w0 (RetV w0 (.agg #[.int .i64 r.Low, .int .i64 r.High])) := by
 have hS := Since.start hS0
 have hO : Owns G0 w0 w0.heap.size [] := Owns.nil (Nat.le_refl _)
 unfold f40 at H
 refine enterG (N := 19) (shutV _ _) [.cell 6 25] Tryz.func40 rfl rfl rfl rfl ?_; refine WC_seq ?_; refine WC_region ?_; refine WL_op rfl (OpP_newF (v := fun b => .pointer (some ⟨b, 0, none⟩)) (cs := (cellsT x0)) (e := 99) (rn_boxA rfl) hS.sat rfl (fun b1 G3 w2 hg hcb1 => ?_)); have hS := hS.grow hg; have hO := hO.grow hg
 have leG3 := hg.le
 refine WL_op rfl (OpP_newO (v := fun b => .pointer (some ⟨b, 0, none⟩)) (cs := [.int .i64 0, .int .i64 0]) (e := 25) (by kernel_rfl) hS.sat hO rfl 2 1 rfl (by decide) (fun b4 w5 hb hO => ?_))
 have hS := hS.keep hb; refine WL_nil ?_; refine WC_seq ?_; have hS := hS.keep (below_drew _); have hO := hO.below (below_drew _)
 refine WC_regionD mixedO (fun _ w => Sat G3 w ∧ Owns G3 w w0.heap.size [⟨25, 2, 1, .slice (some ⟨b4, 0, none⟩) 1 1, [.int .i64 0, .int .i64 0]⟩]) (.fl 0 (.fl 1 (.fl 2 (.fl 3 (.fl 4 (.fl 5 (.fl 6 (.fl 7 (.on 8 (.on 9 (.on 10 (.on 11 (.on 12 .nil))))))))))))) (by kernel_rfl) rfl (by kernel_rfl) (fun _ => ⟨hS.sat, hO⟩) ?_
 refine WD_val rfl (fun w hw => rn_move (v := (.int .i64 x2)) rfl) rfl ?_; refine WD_val rfl (fun w hw => rn_move (v := (.int .i64 x1)) rfl) rfl ?_; obtain ⟨j7, hj7, H⟩ := bnd H; refine WD_val rfl (fun w hw => rn_idxA ar99 rfl rfl hj7) rfl ?_; obtain ⟨j8, hj8, H⟩ := bnd H
 have hl9 : 0 + j7 * 8 + j8 * 1 < 64 := by have := (ckI_some hj7).2; have := (ckI_some hj8).2; omega
 refine WD_val rfl (fun w hw => rn_idxA ar97 rfl rfl hj8) rfl ?_; refine WD_val rfl (fun w hw => rn_load na3 rfl (tab_cellG (hw.1) hcb1 hl9)) rfl ?_; refine WD_val rfl (fun w hw => rn_neg rfl) rfl ?_; refine WD_val rfl (fun w hw => rn_move (v := (.int .i64 x1)) rfl) rfl ?_; refine WD_val rfl (fun w hw => rn_move (v := (.int .i64 x2)) rfl) rfl ?_; obtain ⟨j10, hj10, H⟩ := bnd H; refine WD_op rfl rfl (OpP_val (rn_idxA ar99 rfl rfl hj10) rfl ?_); refine ⟨fun _ _ => ⟨hS.sat, hO⟩, ?_⟩; obtain ⟨j11, hj11, H⟩ := bnd H
 have hl12 : 0 + j10 * 8 + j11 * 1 < 64 := by have := (ckI_some hj10).2; have := (ckI_some hj11).2; omega
 refine WD_op rfl rfl (OpP_val (rn_idxA ar97 rfl rfl hj11) rfl ?_); refine ⟨fun _ _ => ⟨hS.sat, hO⟩, ?_⟩; refine WD_op rfl rfl (OpP_val (rn_load na3 rfl (tab_cellG (hS.sat) hcb1 hl12)) rfl ?_); refine ⟨fun _ _ => ⟨hS.sat, hO⟩, ?_⟩
 refine WD_op rfl rfl (OpP_val (v := (.agg #[.int .i64 (IntKind.i64.wrap (0 - (tget x0 (0 + j7 * 8 + j8 * 1)))), .int .i64 (tget x0 (0 + j10 * 8 + j11 * 1))])) (by kernel_rfl) rfl ?_)
 refine ⟨fun _ h => noneed (by kernel_rfl) h, ?_⟩
 refine WD_op rfl rfl (OpP_store (vs := [.int .i64 (IntKind.i64.wrap (0 - (tget x0 (0 + j7 * 8 + j8 * 1)))), .int .i64 (tget x0 (0 + j10 * 8 + j11 * 1))]) sz25 hS hO (k := 0) rfl rfl rfl rfl rfl (one_all rfl) (Nat.le_of_ble_eq_true rfl) (fun w13 hS hO => ?_))
 have hO : Owns G3 w13 w0.heap.size ([⟨25, 2, 1, .slice (some ⟨b4, 0, none⟩) 1 1, [.int .i64 (IntKind.i64.wrap (0 - (tget x0 (0 + j7 * 8 + j8 * 1)))), .int .i64 (tget x0 (0 + j10 * 8 + j11 * 1))]⟩]) := hO
 obtain ⟨G14, leG14, hS, hO, hqG14, _⟩ := hO.freeze hS (k := 0) rfl
 have hcG14 : Cells G14 b4 0 [.int .i64 (IntKind.i64.wrap (0 - (tget x0 (0 + j7 * 8 + j8 * 1)))), .int .i64 (tget x0 (0 + j10 * 8 + j11 * 1))] := (hqG14 _ _ _ _ rfl)
 refine ⟨fun _ h => noneed (by kernel_rfl) h, ?_⟩
 refine WD_nil ?_; refine WC_ret ?_
 have H : some (⟨IntKind.i64.wrap (0 - (tget x0 (0 + j7 * 8 + j8 * 1))), tget x0 (0 + j10 * 8 + j11 * 1)⟩ : TSpan) = some r := H
 have H := Option.some.inj H; subst H
 exact ⟨[.agg #[.int .i64 (IntKind.i64.wrap (0 - (tget x0 (0 + j7 * 8 + j8 * 1)))), .int .i64 (tget x0 (0 + j10 * 8 + j11 * 1))]], ⟨⟨_, rfl, ld_agg (cs := [.int .i64 (IntKind.i64.wrap (0 - (tget x0 (0 + j7 * 8 + j8 * 1)))), .int .i64 (tget x0 (0 + j10 * 8 + j11 * 1))]) ag25 rfl (fun j v hj => hS.sat.cell (hcG14 j v hj))⟩, trivial⟩, ⟨rfl, hS.below⟩⟩
set_option maxHeartbeats 1000000 in
theorem f11_ok {G0 : Gm} {w0 : World} (hS0 : Sat G0 w0) {x0 : TLandBook} {a1 : Option Addr} {n1 c1 : Nat} {a2 : Option Addr} {n2 c2 : Nat} {a3 : Option Addr} {n3 c3 : Nat} (h1 : RSl RTLandPerson 2 G0 a1 n1 c1 x0.People) (h2 : RSl RTLandEvent 2 G0 a2 n2 c2 x0.Events) (h3 : RSl RTLandMemory 4 G0 a3 n3 c3 x0.Memories) {r : (List Int) × Int} (H : f11 x0 = some r) :
  Calls Tryz.prog 11 #[.agg #[.slice a1 n1 c1, .slice a2 n2 c2, .slice a3 n3 c3]] w0 (RetG G0 w0 (fun G v => ∃ (ra0 : Option Addr) (rn0 rc0 : Nat), v = .tuple #[.slice ra0 rn0 rc0, .int .i64 r.2] ∧ RSl RInt 1 G ra0 rn0 rc0 r.1)) := by
 have hS := Since.start hS0
 have hO : Owns G0 w0 w0.heap.size [] := Owns.nil (Nat.le_refl _)
 unfold f11 at H
 refine enter2 (N := 31) (shutG _ _ _) Tryz.func11 rfl rfl rfl rfl ?_; refine WC_seq ?_; refine WC_region ?_; refine WL_op rfl (OpP_newF (v := fun b => .pointer (some ⟨b, 0, none⟩)) (cs := [.slice a1 n1 c1, .slice a2 n2 c2, .slice a3 n3 c3]) (e := 43) (rn_boxA rfl) hS.sat rfl (fun b4 G6 w5 hg hcb4 => ?_)); have hS := hS.grow hg; have hO := hO.grow hg
 have leG6 := hg.le
 refine WL_val (rn_assign (v := (.slice none 0 0)) rfl) rfl ?_; refine WL_val (rn_assign (v := (.int .i64 0)) rfl) rfl ?_; refine WL_nil ?_; refine WC_seq ?_; refine WC_region ?_; refine WL_val (rn_loadA ag43 (cs := [.slice a1 n1 c1, .slice a2 n2 c2, .slice a3 n3 c3]) rfl rfl (fun j v hj => hS.sat.cell (hcb4.drop_take 0 3 j v hj))) rfl ?_; obtain ⟨y7, hy7, H⟩ := bnd H; refine WL_op rfl (OpP_callV cb39 (f39_ok (x0 := x0) (x1 := true) hS.sat (h1.mono RTLandPerson_mono leG6) (h2.mono RTLandEvent_mono leG6) (h3.mono RTLandMemory_mono leG6) hy7) rfl rfl (fun w8 hb => ?_)); have hS := hS.keep hb; have hO := hO.below hb; refine WL_val (rn_move (v := (.tuple #[.agg (cellsT y7.1).toArray, .int .i64 y7.2])) rfl) rfl ?_; refine WL_val (rn_extract (v := (.agg (cellsT y7.1).toArray)) rfl rfl) rfl ?_; refine WL_val (rn_extract (v := (.int .i64 y7.2)) rfl rfl) rfl ?_
 refine WL_op rfl (OpP_newO (v := fun b => .pointer (some ⟨b, 0, none⟩)) (cs := (cellsT (Tb.zero 64))) (e := 99) (by kernel_rfl) hS.sat hO rfl 64 1 (cellsT_len _) (by decide) (fun b9 w10 hb hO => ?_))
 have hS := hS.keep hb; refine WL_op rfl (OpP_storeTT sz99 hS hO (k := 0) rfl rfl rfl (fun w12 hS hO => ?_))
 have hO : Owns G6 w12 w0.heap.size ([⟨99, 64, 1, .slice (some ⟨b9, 0, none⟩) 1 1, cellsT y7.1⟩]) := hO
 refine WL_val (rn_assign (v := (.int .i64 y7.2)) rfl) rfl ?_; refine WL_nil ?_; refine WC_seq ?_; refine WC_seq ?_; refine WC_region ?_; refine WL_val (rn_move (v := (.int .i64 y7.2)) rfl) rfl ?_; refine WL_val (rn_neq rfl rfl) rfl ?_; refine WL_nil ?_; refine WC_cond rfl (fun hb13 => ?_) (fun hb13 => ?_)
 ·have H := ifT hb13 H; refine WC_seq ?_; refine WC_region ?_; refine WL_val (rn_move (v := (.int .i64 y7.2)) rfl) rfl ?_; refine WL_val (rn_assign (v := (.slice none 0 0)) rfl) rfl ?_; refine WL_val (rn_assign (v := (.int .i64 y7.2)) rfl) rfl ?_; refine WL_nil ?_; refine WC_ret ?_
  have H : some ([], y7.2) = some r := H
  have H := Option.some.inj H; subst H
  exact ⟨_, _, rfl, hS.toGrow, _, _, _, rfl, (RSl.nil RInt 1 G6 none)⟩
 ·have H := ifF hb13 H; refine WC_skip ?_; refine WC_seq ?_; refine WC_region ?_; refine WL_val (rn_assign (v := (.slice none 0 0)) rfl) rfl ?_; refine WL_nil ?_; refine WC_seq ?_; refine WC_seq ?_; refine WC_region ?_; refine WL_val (rn_fld fd43_1 rfl) rfl ?_; refine WL_val (rn_load na40 rfl (hS.sat.cell (hcb4 1 _ rfl))) rfl ?_; refine WL_val (rn_len sl40 rfl rfl (h2.mono RTLandEvent_mono leG6).1) rfl ?_; refine WL_val (rn_move (v := (.int .i64 0)) rfl) rfl ?_; refine WL_nil ?_; have hO := hO.cons_nil 3 1; obtain ⟨q17, hq17, H⟩ := bnd H; refine WC_cut (fun F w => ∃ (Fb : Fr) (G : Gm) (aq17_0 : Option Addr) (nq17_0 cq17_0 : Nat) (claq17_0 : List Value), F = upds Fb [(6, .slice aq17_0 nq17_0 cq17_0)] ∧ Gle G6 G ∧ Since w0.heap.size G0 w0 G w ∧ Owns G w w0.heap.size [⟨3, 1, nq17_0, .slice aq17_0 nq17_0 cq17_0, claq17_0⟩, ⟨99, 64, 1, .slice (some ⟨b9, 0, none⟩) 1 1, cellsT q17.2⟩] ∧ nq17_0 = q17.1.length ∧ Rd RInt 1 G claq17_0 q17.1) ?_ ?_
  ·refine WC_block (WC_loop hq17 (fun s15 F w => ∃ (Fb : Fr) (G : Gm) (as15_0 : Option Addr) (ns15_0 cs15_0 : Nat) (clas15_0 : List Value), F = upds Fb [(4, .pointer (some ⟨b9, 0, none⟩)), (6, .slice as15_0 ns15_0 cs15_0), (18, .int .i64 (x0.Events.length : Int)), (19, .int .i64 s15.2.1)] ∧ Gle G6 G ∧ Since w0.heap.size G0 w0 G w ∧ Owns G w w0.heap.size [⟨3, 1, ns15_0, .slice as15_0 ns15_0 cs15_0, clas15_0⟩, ⟨99, 64, 1, .slice (some ⟨b9, 0, none⟩) 1 1, cellsT s15.2.2⟩] ∧ ns15_0 = s15.1.length ∧ Rd RInt 1 G clas15_0 s15.1) ?_ ?_)
   ·have hO : Owns G6 w12 w0.heap.size ([⟨3, 1, 0, .slice none 0 0, []⟩, ⟨99, 64, 1, .slice (some ⟨b9, 0, none⟩) 1 1, cellsT y7.1⟩]) := hO
    exact ⟨_, G6, none, 0, 0, [], upds_self _ _ ⟨rfl, rfl, rfl, rfl, trivial⟩, Gle.refl _, hS, hO, rfl, (Rd.nil RInt 1 G6)⟩
   ·rintro s15 F w19 t18 ⟨Fb, G20, as15_0, ns15_0, cs15_0, clas15_0, rfl, leG20, hS, hO, hnhs15_0, hs15_0⟩
    intro H1 hqq17
    have Hoq17 := H; have H := H1
    unfold f11_b0 at H
    refine WC_seq ?_; refine WC_region ?_; refine WL_val (rn_lss rfl rfl) rfl ?_; refine WL_nil ?_; refine WC_seq ?_; refine WC_cond rfl (fun hb21 => ?_) (fun hb21 => ?_)
    ·have H := ifT hb21 H; refine WC_skip ?_; refine WC_seq ?_; refine WC_block ?_; refine WC_seq ?_; refine WC_region ?_; refine WL_val (rn_move (v := (.int .i64 s15.2.1)) rfl) rfl ?_; refine WL_val (rn_assign (v := (.int .i64 s15.2.1)) rfl) rfl ?_; refine WL_nil ?_; refine WC_region ?_; refine WL_val (rn_move (v := (.slice as15_0 ns15_0 cs15_0)) rfl) rfl ?_; refine WL_val (rn_loadT ag99 hO (k := 1) rfl rfl) rfl ?_; refine WL_val (rn_move (v := (.int .i64 s15.2.1)) rfl) rfl ?_; obtain ⟨y22, hy22, H⟩ := bnd H; refine WL_op rfl (OpP_callV cb40 (f40_ok (x0 := s15.2.2) (x1 := 7) (x2 := s15.2.1) hS.sat  hy22) rfl rfl (fun w23 hb => ?_)); have hS := hS.keep hb; have hO := hO.below hb
     refine WL_val (v := (.int .i64 y22.Low)) (by kernel_rfl) rfl ?_
     refine WL_op rfl (OpP_newF (v := fun b => .slice (some ⟨b, 0, none⟩) 1 1) (cs := [.int .i64 y22.Low]) (e := 3) (by kernel_rfl) hS.sat rfl (fun b24 G26 w25 hg hcb24 => ?_))
     have hS := hS.grow hg; have hO := hO.grow hg
     have leG26 := hg.le
     have hfb24 : RSl RInt 1 G26 (some ⟨b24, 0, none⟩) 1 1 [y22.Low] := RSl.of_rd hcb24 (Rd.cons (c := [.int .i64 y22.Low]) rfl rfl (Rd.nil RInt 1 _)) rfl (by decide)
     obtain ⟨y27, hy27, H⟩ := bnd H; refine WL_op rfl (OpP_append (k := 0) sl22 RInt_one hS hO rfl hnhs15_0 (hs15_0.mono RInt_mono leG26) hfb24 hy27 rfl rfl rfl rfl rfl (fun aw28 cw28 w28 clw28 hS hO hrw28 => ?_))
     have hO : Owns G26 w28 w0.heap.size ([⟨3, 1, y27.length, .slice aw28 y27.length cw28, clw28⟩, ⟨99, 64, 1, .slice (some ⟨b9, 0, none⟩) 1 1, cellsT s15.2.2⟩]) := hO
     refine WL_val (rn_assign (v := (.slice aw28 y27.length cw28)) rfl) rfl ?_; refine WL_nil ?_; refine WC_region ?_; refine WL_val (rn_add rfl rfl) rfl ?_; refine WL_val (rn_move (v := (.int .i64 (IntKind.i64.wrap (s15.2.1 + 1)))) rfl) rfl ?_; refine WL_nil ?_
     have hO : Owns G26 w28 w0.heap.size ([⟨3, 1, y27.length, .slice aw28 y27.length cw28, clw28⟩, ⟨99, 64, 1, .slice (some ⟨b9, 0, none⟩) 1 1, cellsT s15.2.2⟩]) := hO
     have H := Option.some.inj H; subst H; refine ⟨_, rfl, ?_⟩
     have l1_3 := leG20.trans leG26
     exact ⟨_, G26, aw28, y27.length, cw28, clw28, upds_self _ _ ⟨rfl, rfl, rfl, rfl, trivial⟩, l1_3, hS, hO, rfl, hrw28⟩
    ·have H := ifF hb21 H; refine WC_exit rfl ?_
     have hO : Owns G20 w19 w0.heap.size ([⟨3, 1, ns15_0, .slice as15_0 ns15_0 cs15_0, clas15_0⟩, ⟨99, 64, 1, .slice (some ⟨b9, 0, none⟩) 1 1, cellsT s15.2.2⟩]) := hO
     have H := Option.some.inj H; subst H
     have hres := hqq17 _ rfl
     subst hres
     exact ⟨_, G20, as15_0, ns15_0, cs15_0, clas15_0, upds_self _ _ ⟨rfl, trivial⟩, leG20, hS, hO, hnhs15_0, hs15_0⟩
  ·rintro F w29 ⟨Fb, G30, aq17_0, nq17_0, cq17_0, claq17_0, rfl, leG30, hS, hO, hnhq17_0, hq17_0⟩
   refine WC_seq ?_; refine WC_region ?_; refine WL_val (rn_move (v := (.slice aq17_0 nq17_0 cq17_0)) rfl) rfl ?_; refine WL_val (rn_assign (v := (.slice aq17_0 nq17_0 cq17_0)) rfl) rfl ?_; refine WL_val (rn_assign (v := (.int .i64 0)) rfl) rfl ?_; refine WL_nil ?_; refine WC_ret ?_; obtain ⟨G31, leG31, hS, hO, hfG31⟩ := hO.freezeS hS RInt_mono (k := 0) rfl hq17_0 hnhq17_0
   have H : some (q17.1, 0) = some r := H
   have H := Option.some.inj H; subst H
   exact ⟨_, _, rfl, hS.toGrow, _, _, _, rfl, hfG31⟩
set_option maxHeartbeats 1000000 in
theorem f43_ok {G0 : Gm} {w0 : World} (hS0 : Sat G0 w0) {x0 : TLandBook} {bq0 : Nat} {rm4 : Nat} {a1 : Option Addr} {n1 c1 : Nat} {a2 : Option Addr} {n2 c2 : Nat} {a3 : Option Addr} {n3 c3 : Nat} {x1 : Int} {x2 : Int} (hcq0 : Cells G0 bq0 0 [.slice a1 n1 c1, .slice a2 n2 c2, .slice a3 n3 c3, .map (some rm4)]) (h1 : RSl RTLandPerson 2 G0 a1 n1 c1 x0.People) (h2 : RSl RTLandEvent 2 G0 a2 n2 c2 x0.Events) (h3 : RSl RTLandMemory 4 G0 a3 n3 c3 x0.Memories) {r : Bool} (H : f43 x0 x1 x2 = some r) :
  Calls Tryz.prog 43 #[.pointer (some ⟨bq0, 0, none⟩), .int .i64 x1, .int .i64 x2] w0 (RetV w0 (.bool r)) := by
 have hS := Since.start hS0
 have hO : Owns G0 w0 w0.heap.size [] := Owns.nil (Nat.le_refl _)
 unfold f43 at H
 refine enter1 (N := 29) (shutV _ _) Tryz.func43 rfl rfl rfl rfl ?_; refine WC_seq ?_; refine WC_region ?_; refine WL_val (rn_assign (v := (.bool false)) rfl) rfl ?_; refine WL_nil ?_; refine WC_seq ?_; refine WC_seq ?_; refine WC_region ?_; refine WL_val (rn_move (v := (.pointer (some ⟨bq0, 0, none⟩))) rfl) rfl ?_; refine WL_val (v := (.func (.func 74) ([.pointer (some ⟨bq0, 0, none⟩)] : List Value).toArray ([] : List Value).toArray)) (rn_func (vs := [.pointer (some ⟨bq0, 0, none⟩)]) (us := []) rfl rfl) rfl ?_; refine WL_val (rn_move (v := (.pointer (some ⟨bq0, 0, none⟩))) rfl) rfl ?_; refine WL_val (v := (.func (.func 75) ([.pointer (some ⟨bq0, 0, none⟩)] : List Value).toArray ([] : List Value).toArray)) (rn_func (vs := [.pointer (some ⟨bq0, 0, none⟩)]) (us := []) rfl rfl) rfl ?_; refine WL_val (rn_move (v := (.pointer (some ⟨bq0, 0, none⟩))) rfl) rfl ?_; refine WL_val (v := (.func (.func 76) ([.pointer (some ⟨bq0, 0, none⟩)] : List Value).toArray ([] : List Value).toArray)) (rn_func (vs := [.pointer (some ⟨bq0, 0, none⟩)]) (us := []) rfl rfl) rfl ?_
 refine WL_val (v := (.agg #[.func (.func 74) ([.pointer (some ⟨bq0, 0, none⟩)] : List Value).toArray ([] : List Value).toArray, .func (.func 75) ([.pointer (some ⟨bq0, 0, none⟩)] : List Value).toArray ([] : List Value).toArray, .func (.func 76) ([.pointer (some ⟨bq0, 0, none⟩)] : List Value).toArray ([] : List Value).toArray])) (by kernel_rfl) rfl ?_
 refine WL_val (rn_move (v := (.int .i64 0)) rfl) rfl ?_; refine WL_nil ?_; refine WC_block (WC_loopI ?_); refine WI_step ?_; refine WC_seq ?_; refine WC_region ?_
 refine WL_val (v := (.bool true)) (by kernel_rfl) rfl ?_
 refine WL_nil ?_; refine WC_seq ?_; refine WC_condT _ rfl rfl ?_; refine WC_skip ?_; refine WC_seq ?_; refine WC_block ?_; refine WC_seq ?_; refine WC_region ?_
 refine WL_val (v := (.func (.func 74) ([.pointer (some ⟨bq0, 0, none⟩)] : List Value).toArray ([] : List Value).toArray)) (by kernel_rfl) rfl ?_
 refine WL_val (rn_assign (v := (.func (.func 74) ([.pointer (some ⟨bq0, 0, none⟩)] : List Value).toArray ([] : List Value).toArray)) rfl) rfl ?_; refine WL_nil ?_; refine WC_seq ?_; obtain ⟨q5, hq5, H⟩ := bnd H; refine WC_cut (fun F w => ∃ (Fb : Fr), F = upds Fb [(1, .int .i64 x1), (2, .int .i64 x2), (15, .agg #[.func (.func 74) ([.pointer (some ⟨bq0, 0, none⟩)] : List Value).toArray ([] : List Value).toArray, .func (.func 75) ([.pointer (some ⟨bq0, 0, none⟩)] : List Value).toArray ([] : List Value).toArray, .func (.func 76) ([.pointer (some ⟨bq0, 0, none⟩)] : List Value).toArray ([] : List Value).toArray]), (16, .int .i64 0), (27, .bool q5)] ∧ w0 = w) ?_ ?_
 ·have Hoq5 := H; have H := hq5; refine WC_region ?_; refine WL_val (rn_move (v := (.int .i64 x1)) rfl) rfl ?_; refine WL_val (rn_move (v := (.int .i64 x2)) rfl) rfl ?_; refine WL_val (rn_neq rfl rfl) rfl ?_; refine WL_val (rn_move (v := (.bool (x1 != x2))) rfl) rfl ?_
  rcases bcases (x1 != x2) with hb6 | hb6
  ·have H := ifT hb6 H; refine WL_guardY rfl hb6 rfl rfl ?_; refine WL_val (rn_move (v := (.func (.func 74) ([.pointer (some ⟨bq0, 0, none⟩)] : List Value).toArray ([] : List Value).toArray)) rfl) rfl ?_; refine WL_guardY rfl hb6 rfl rfl ?_; refine WL_val (rn_move (v := (.int .i64 x1)) rfl) rfl ?_; refine WL_guardY rfl hb6 rfl rfl ?_; refine WL_val (rn_move (v := (.int .i64 x2)) rfl) rfl ?_; refine WL_guardY rfl hb6 rfl rfl ?_; refine WL_op rfl (OpP_inC1 (N' := 18) (fi := [.pointer (some ⟨bq0, 0, none⟩)]) (al := [.int .i64 x1, .int .i64 x2]) (ca := []) cb74 Tryz.func74 rfl rfl rfl rfl rfl rfl rfl ?_); refine WC_seq ?_; refine WC_region ?_; refine WL_val (rn_assign (v := (.bool false)) rfl) rfl ?_; refine WL_nil ?_; refine WC_seq ?_; refine WC_region ?_; refine WL_val (rn_move (v := (.pointer (some ⟨bq0, 0, none⟩))) rfl) rfl ?_
   refine WL_val (v := (.pointer (some ⟨bq0, 0, none⟩))) (by kernel_rfl) rfl ?_
   refine WL_val (rn_fld fd162_0 rfl) rfl ?_; refine WL_val (rn_fld fd43_0 rfl) rfl ?_; refine WL_val (rn_load na39 rfl (hS.sat.cell (hcq0 0 _ rfl))) rfl ?_; refine WL_val (rn_move (v := (.int .i64 x1)) rfl) rfl ?_; obtain ⟨y7, hy7, H⟩ := bnd H; refine WL_idx sl39 h1 hy7 rfl rfl rfl ?_
   rintro b8 o8 _ hcb8 _ ⟨⟩
   refine WL_val (rn_fld fd38_0 rfl) rfl ?_; refine WL_val (rn_load na3 rfl (hS.sat.cell (hcb8 0 _ rfl))) rfl ?_; refine WL_val (rn_move (v := (.int .i64 x2)) rfl) rfl ?_; refine WL_val (rn_eql rfl rfl) rfl ?_; refine WL_val (rn_assign (v := (.bool (y7.Mother == x2))) rfl) rfl ?_; refine WL_nil ?_; refine WC_ret ?_; refine ⟨(.bool (y7.Mother == x2)), rfl, ?_⟩
   have hO : Owns G0 w0 w0.heap.size ([]) := hO
   refine WL_val (rn_pickT (v := (.bool (y7.Mother == x2))) rfl hb6 rfl) rfl ?_; refine WL_nil ?_; have H := Option.some.inj H; subst H
   exact ⟨_, upds_self _ _ ⟨rfl, rfl, rfl, rfl, rfl, trivial⟩, rfl⟩
  ·have H := ifF hb6 H; refine WL_guardN rfl hb6 rfl rfl rfl ?_; refine WL_guardN rfl hb6 rfl rfl rfl ?_; refine WL_guardN rfl hb6 rfl rfl rfl ?_; refine WL_guardN rfl hb6 rfl rfl rfl ?_; refine WL_val (rn_pickF (v := (.bool false)) rfl hb6 rfl) rfl ?_; refine WL_nil ?_; have H := Option.some.inj H; subst H
   exact ⟨_, upds_self _ _ ⟨rfl, rfl, rfl, rfl, rfl, trivial⟩, rfl⟩
 ·rintro F wl ⟨Fb, rfl, rfl⟩
  refine WC_cond rfl (fun hb11 => ?_) (fun hb11 => ?_)
  ·have H := ifT hb11 H; refine WC_seq ?_; refine WC_region ?_; refine WL_val (rn_assign (v := (.bool true)) rfl) rfl ?_; refine WL_nil ?_; refine WC_ret ?_
   have H : some true = some r := H
   have H := Option.some.inj H; subst H
   exact ⟨rfl, hS.below⟩
  ·have H := ifF hb11 H; refine WC_skip ?_; refine WC_region ?_
   refine WL_val (v := (.int .i64 1)) (by kernel_rfl) rfl ?_
   refine WL_val (rn_move (v := (.int .i64 1)) rfl) rfl ?_; refine WL_nil ?_; refine WI_step ?_; refine WC_seq ?_; refine WC_region ?_
   refine WL_val (v := (.bool true)) (by kernel_rfl) rfl ?_
   refine WL_nil ?_; refine WC_seq ?_; refine WC_condT _ rfl rfl ?_; refine WC_skip ?_; refine WC_seq ?_; refine WC_block ?_; refine WC_seq ?_; refine WC_region ?_
   refine WL_val (v := (.func (.func 75) ([.pointer (some ⟨bq0, 0, none⟩)] : List Value).toArray ([] : List Value).toArray)) (by kernel_rfl) rfl ?_
   refine WL_val (rn_assign (v := (.func (.func 75) ([.pointer (some ⟨bq0, 0, none⟩)] : List Value).toArray ([] : List Value).toArray)) rfl) rfl ?_; refine WL_nil ?_; refine WC_seq ?_; obtain ⟨q12, hq12, H⟩ := bnd H; refine WC_cut (fun F w => ∃ (Fb : Fr), F = upds Fb [(1, .int .i64 x1), (2, .int .i64 x2), (15, .agg #[.func (.func 74) ([.pointer (some ⟨bq0, 0, none⟩)] : List Value).toArray ([] : List Value).toArray, .func (.func 75) ([.pointer (some ⟨bq0, 0, none⟩)] : List Value).toArray ([] : List Value).toArray, .func (.func 76) ([.pointer (some ⟨bq0, 0, none⟩)] : List Value).toArray ([] : List Value).toArray]), (16, .int .i64 1), (27, .bool q12)] ∧ w0 = w) ?_ ?_
   ·have Hoq12 := H; have H := hq12; refine WC_region ?_; refine WL_val (rn_move (v := (.int .i64 x1)) rfl) rfl ?_; refine WL_val (rn_move (v := (.int .i64 x2)) rfl) rfl ?_; refine WL_val (rn_neq rfl rfl) rfl ?_; refine WL_val (rn_move (v := (.bool (x1 != x2))) rfl) rfl ?_
    rcases bcases (x1 != x2) with hb13 | hb13
    ·have H := ifT hb13 H; refine WL_guardY rfl hb13 rfl rfl ?_; refine WL_val (rn_move (v := (.func (.func 75) ([.pointer (some ⟨bq0, 0, none⟩)] : List Value).toArray ([] : List Value).toArray)) rfl) rfl ?_; refine WL_guardY rfl hb13 rfl rfl ?_; refine WL_val (rn_move (v := (.int .i64 x1)) rfl) rfl ?_; refine WL_guardY rfl hb13 rfl rfl ?_; refine WL_val (rn_move (v := (.int .i64 x2)) rfl) rfl ?_; refine WL_guardY rfl hb13 rfl rfl ?_; refine WL_op rfl (OpP_inC1 (N' := 18) (fi := [.pointer (some ⟨bq0, 0, none⟩)]) (al := [.int .i64 x1, .int .i64 x2]) (ca := []) cb75 Tryz.func75 rfl rfl rfl rfl rfl rfl rfl ?_); refine WC_seq ?_; refine WC_region ?_; refine WL_val (rn_assign (v := (.bool false)) rfl) rfl ?_; refine WL_nil ?_; refine WC_seq ?_; refine WC_region ?_; refine WL_val (rn_move (v := (.pointer (some ⟨bq0, 0, none⟩))) rfl) rfl ?_
     refine WL_val (v := (.pointer (some ⟨bq0, 0, none⟩))) (by kernel_rfl) rfl ?_
     refine WL_val (rn_fld fd162_0 rfl) rfl ?_; refine WL_val (rn_fld fd43_0 rfl) rfl ?_; refine WL_val (rn_load na39 rfl (hS.sat.cell (hcq0 0 _ rfl))) rfl ?_; refine WL_val (rn_move (v := (.int .i64 x1)) rfl) rfl ?_; obtain ⟨y14, hy14, H⟩ := bnd H; refine WL_idx sl39 h1 hy14 rfl rfl rfl ?_
     rintro b15 o15 _ hcb15 _ ⟨⟩
     refine WL_val (rn_fld fd38_1 rfl) rfl ?_; refine WL_val (rn_load na3 rfl (hS.sat.cell (hcb15 1 _ rfl))) rfl ?_; refine WL_val (rn_move (v := (.int .i64 x2)) rfl) rfl ?_; refine WL_val (rn_eql rfl rfl) rfl ?_; refine WL_val (rn_assign (v := (.bool (y14.Adopted == x2))) rfl) rfl ?_; refine WL_nil ?_; refine WC_ret ?_; refine ⟨(.bool (y14.Adopted == x2)), rfl, ?_⟩
     have hO : Owns G0 w0 w0.heap.size ([]) := hO
     refine WL_val (rn_pickT (v := (.bool (y14.Adopted == x2))) rfl hb13 rfl) rfl ?_; refine WL_nil ?_; have H := Option.some.inj H; subst H
     exact ⟨_, upds_self _ _ ⟨rfl, rfl, rfl, rfl, rfl, trivial⟩, rfl⟩
    ·have H := ifF hb13 H; refine WL_guardN rfl hb13 rfl rfl rfl ?_; refine WL_guardN rfl hb13 rfl rfl rfl ?_; refine WL_guardN rfl hb13 rfl rfl rfl ?_; refine WL_guardN rfl hb13 rfl rfl rfl ?_; refine WL_val (rn_pickF (v := (.bool false)) rfl hb13 rfl) rfl ?_; refine WL_nil ?_; have H := Option.some.inj H; subst H
     exact ⟨_, upds_self _ _ ⟨rfl, rfl, rfl, rfl, rfl, trivial⟩, rfl⟩
   ·rintro F wl ⟨Fb, rfl, rfl⟩
    refine WC_cond rfl (fun hb18 => ?_) (fun hb18 => ?_)
    ·have H := ifT hb18 H; refine WC_seq ?_; refine WC_region ?_; refine WL_val (rn_assign (v := (.bool true)) rfl) rfl ?_; refine WL_nil ?_; refine WC_ret ?_
     have H : some true = some r := H
     have H := Option.some.inj H; subst H
     exact ⟨rfl, hS.below⟩
    ·have H := ifF hb18 H; refine WC_skip ?_; refine WC_region ?_
     refine WL_val (v := (.int .i64 2)) (by kernel_rfl) rfl ?_
     refine WL_val (rn_move (v := (.int .i64 2)) rfl) rfl ?_; refine WL_nil ?_; refine WI_step ?_; refine WC_seq ?_; refine WC_region ?_
     refine WL_val (v := (.bool true)) (by kernel_rfl) rfl ?_
     refine WL_nil ?_; refine WC_seq ?_; refine WC_condT _ rfl rfl ?_; refine WC_skip ?_; refine WC_seq ?_; refine WC_block ?_; refine WC_seq ?_; refine WC_region ?_
     refine WL_val (v := (.func (.func 76) ([.pointer (some ⟨bq0, 0, none⟩)] : List Value).toArray ([] : List Value).toArray)) (by kernel_rfl) rfl ?_
     refine WL_val (rn_assign (v := (.func (.func 76) ([.pointer (some ⟨bq0, 0, none⟩)] : List Value).toArray ([] : List Value).toArray)) rfl) rfl ?_; refine WL_nil ?_; refine WC_seq ?_; obtain ⟨q19, hq19, H⟩ := bnd H; refine WC_cut (fun F w => ∃ (Fb : Fr), F = upds Fb [(1, .int .i64 x1), (2, .int .i64 x2), (15, .agg #[.func (.func 74) ([.pointer (some ⟨bq0, 0, none⟩)] : List Value).toArray ([] : List Value).toArray, .func (.func 75) ([.pointer (some ⟨bq0, 0, none⟩)] : List Value).toArray ([] : List Value).toArray, .func (.func 76) ([.pointer (some ⟨bq0, 0, none⟩)] : List Value).toArray ([] : List Value).toArray]), (16, .int .i64 2), (27, .bool q19)] ∧ w0 = w) ?_ ?_
     ·have Hoq19 := H; have H := hq19; refine WC_region ?_; refine WL_val (rn_move (v := (.int .i64 x1)) rfl) rfl ?_; refine WL_val (rn_move (v := (.int .i64 x2)) rfl) rfl ?_; refine WL_val (rn_neq rfl rfl) rfl ?_; refine WL_val (rn_move (v := (.bool (x1 != x2))) rfl) rfl ?_
      rcases bcases (x1 != x2) with hb20 | hb20
      ·have H := ifT hb20 H; refine WL_guardY rfl hb20 rfl rfl ?_; refine WL_val (rn_move (v := (.func (.func 76) ([.pointer (some ⟨bq0, 0, none⟩)] : List Value).toArray ([] : List Value).toArray)) rfl) rfl ?_; refine WL_guardY rfl hb20 rfl rfl ?_; refine WL_val (rn_move (v := (.int .i64 x1)) rfl) rfl ?_; refine WL_guardY rfl hb20 rfl rfl ?_; refine WL_val (rn_move (v := (.int .i64 x2)) rfl) rfl ?_; refine WL_guardY rfl hb20 rfl rfl ?_; refine WL_op rfl (OpP_inC1 (N' := 32) (fi := [.pointer (some ⟨bq0, 0, none⟩)]) (al := [.int .i64 x1, .int .i64 x2]) (ca := []) cb76 Tryz.func76 rfl rfl rfl rfl rfl rfl rfl ?_); refine WC_seq ?_; refine WC_region ?_; refine WL_val (rn_assign (v := (.bool false)) rfl) rfl ?_; refine WL_nil ?_; refine WC_seq ?_; refine WC_region ?_; refine WL_val (rn_move (v := (.pointer (some ⟨bq0, 0, none⟩))) rfl) rfl ?_
       refine WL_val (v := (.pointer (some ⟨bq0, 0, none⟩))) (by kernel_rfl) rfl ?_
       refine WL_val (rn_fld fd162_0 rfl) rfl ?_; refine WL_val (rn_fld fd43_0 rfl) rfl ?_; refine WL_val (rn_load na39 rfl (hS.sat.cell (hcq0 0 _ rfl))) rfl ?_; refine WL_val (rn_move (v := (.int .i64 x1)) rfl) rfl ?_; obtain ⟨y21, hy21, H⟩ := bnd H; refine WL_idx sl39 h1 hy21 rfl rfl rfl ?_
       rintro b22 o22 _ hcb22 _ ⟨⟩
       refine WL_val (rn_fld fd38_0 rfl) rfl ?_; refine WL_val (rn_load na3 rfl (hS.sat.cell (hcb22 0 _ rfl))) rfl ?_; refine WL_val (rn_assign (v := (.int .i64 y21.Mother)) rfl) rfl ?_; refine WL_nil ?_; refine WC_seq ?_; obtain ⟨q23, hq23, H⟩ := bnd H; refine WC_cut (fun F w => ∃ (Fb : Fr), F = upds Fb [(6, .bool q23)] ∧ w0 = w) ?_ ?_
       ·have Hoq23 := H; have H := hq23; refine WC_region ?_; refine WL_val (rn_move (v := (.int .i64 y21.Mother)) rfl) rfl ?_; refine WL_val (rn_neq rfl rfl) rfl ?_; refine WL_val (rn_move (v := (.bool (y21.Mother != (-1)))) rfl) rfl ?_
        rcases bcases (y21.Mother != (-1)) with hb24 | hb24
        ·have H := ifT hb24 H; refine WL_guardY rfl hb24 rfl rfl ?_; refine WL_val (rn_move (v := (.int .i64 y21.Mother)) rfl) rfl ?_; refine WL_guardY rfl hb24 rfl rfl ?_; refine WL_val (rn_move (v := (.pointer (some ⟨bq0, 0, none⟩))) rfl) rfl ?_; refine WL_guardY rfl hb24 rfl rfl ?_
         refine WL_val (v := (.pointer (some ⟨bq0, 0, none⟩))) (by kernel_rfl) rfl ?_
         refine WL_guardY rfl hb24 rfl rfl ?_; refine WL_val (rn_fld fd162_0 rfl) rfl ?_; refine WL_guardY rfl hb24 rfl rfl ?_; refine WL_val (rn_fld fd43_0 rfl) rfl ?_; refine WL_guardY rfl hb24 rfl rfl ?_; refine WL_val (rn_load na39 rfl (hS.sat.cell (hcq0 0 _ rfl))) rfl ?_; refine WL_guardY rfl hb24 rfl rfl ?_; refine WL_val (rn_move (v := (.int .i64 x2)) rfl) rfl ?_; refine WL_guardY rfl hb24 rfl rfl ?_; obtain ⟨y25, hy25, H⟩ := bnd H; refine WL_idx sl39 h1 hy25 rfl rfl rfl ?_
         rintro b26 o26 _ hcb26 _ ⟨⟩
         refine WL_guardY rfl hb24 rfl rfl ?_; refine WL_val (rn_fld fd38_0 rfl) rfl ?_; refine WL_guardY rfl hb24 rfl rfl ?_; refine WL_val (rn_load na3 rfl (hS.sat.cell (hcb26 0 _ rfl))) rfl ?_; refine WL_guardY rfl hb24 rfl rfl ?_; refine WL_val (rn_eql rfl rfl) rfl ?_; refine WL_val (rn_pickT (v := (.bool (y21.Mother == y25.Mother))) rfl hb24 rfl) rfl ?_; refine WL_val (rn_assign (v := (.bool (y21.Mother == y25.Mother))) rfl) rfl ?_; refine WL_nil ?_; have H := Option.some.inj H; subst H
         exact ⟨_, upds_self _ _ ⟨rfl, trivial⟩, rfl⟩
        ·have H := ifF hb24 H; refine WL_guardN rfl hb24 rfl rfl rfl ?_; refine WL_guardN rfl hb24 rfl rfl rfl ?_; refine WL_guardN rfl hb24 rfl rfl rfl ?_; refine WL_guardN rfl hb24 rfl rfl rfl ?_; refine WL_guardN rfl hb24 rfl rfl rfl ?_; refine WL_guardN rfl hb24 rfl rfl rfl ?_; refine WL_guardN rfl hb24 rfl rfl rfl ?_; refine WL_guardN rfl hb24 rfl rfl rfl ?_; refine WL_guardN rfl hb24 rfl rfl rfl ?_; refine WL_guardN rfl hb24 rfl rfl rfl ?_; refine WL_guardN rfl hb24 rfl rfl rfl ?_; refine WL_val (rn_pickF (v := (.bool false)) rfl hb24 rfl) rfl ?_; refine WL_val (rn_assign (v := (.bool false)) rfl) rfl ?_; refine WL_nil ?_; have H := Option.some.inj H; subst H
         exact ⟨_, upds_self _ _ ⟨rfl, trivial⟩, rfl⟩
       ·rintro F wl ⟨Fb, rfl, rfl⟩
        refine WC_ret ?_; refine ⟨(.bool q23), rfl, ?_⟩
        have hO : Owns G0 w0 w0.heap.size ([]) := hO
        refine WL_val (rn_pickT (v := (.bool q23)) rfl hb20 rfl) rfl ?_; refine WL_nil ?_; have H := Option.some.inj H; subst H
        exact ⟨_, upds_self _ _ ⟨rfl, rfl, rfl, rfl, rfl, trivial⟩, rfl⟩
      ·have H := ifF hb20 H; refine WL_guardN rfl hb20 rfl rfl rfl ?_; refine WL_guardN rfl hb20 rfl rfl rfl ?_; refine WL_guardN rfl hb20 rfl rfl rfl ?_; refine WL_guardN rfl hb20 rfl rfl rfl ?_; refine WL_val (rn_pickF (v := (.bool false)) rfl hb20 rfl) rfl ?_; refine WL_nil ?_; have H := Option.some.inj H; subst H
       exact ⟨_, upds_self _ _ ⟨rfl, rfl, rfl, rfl, rfl, trivial⟩, rfl⟩
     ·rintro F wl ⟨Fb, rfl, rfl⟩
      refine WC_cond rfl (fun hb31 => ?_) (fun hb31 => ?_)
      ·have H := ifT hb31 H; refine WC_seq ?_; refine WC_region ?_; refine WL_val (rn_assign (v := (.bool true)) rfl) rfl ?_; refine WL_nil ?_; refine WC_ret ?_
       have H : some true = some r := H
       have H := Option.some.inj H; subst H
       exact ⟨rfl, hS.below⟩
      ·have H := ifF hb31 H; refine WC_skip ?_; refine WC_region ?_
       refine WL_val (v := (.int .i64 3)) (by kernel_rfl) rfl ?_
       refine WL_val (rn_move (v := (.int .i64 3)) rfl) rfl ?_; refine WL_nil ?_; refine WI_step ?_; refine WC_seq ?_; refine WC_region ?_
       refine WL_val (v := (.bool false)) (by kernel_rfl) rfl ?_
       refine WL_nil ?_; refine WC_seq ?_; refine WC_condF _ rfl rfl ?_; refine WC_exit rfl ?_; refine WC_seq ?_; refine WC_region ?_; refine WL_val (rn_assign (v := (.bool false)) rfl) rfl ?_; refine WL_nil ?_; refine WC_ret ?_
       have H : some false = some r := H
       have H := Option.some.inj H; subst H
       exact ⟨rfl, hS.below⟩
end Go.Proofs.YtoklmemeanmfdaaGreat
