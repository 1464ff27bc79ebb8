/-
  The walks: each Go function computes its plain function (printed by a program of ours).
-/
import Derived.Test.YtajejmbnmphngaaRd
import Derived.Test.YtajejmbnmphngaaBaseL
import Derived.Test.YtajejmbnmphngaaP13W3
namespace Go.Proofs.Ytajejmbnmphngaa
open Go.RowKit
set_option linter.unusedVariables false

set_option maxRecDepth 20000
set_option linter.unusedVariables false
set_option maxHeartbeats 1000000 in
theorem f13_ok {G0 : Gm} {w0 : World} (hS0 : Sat G0 w0) {x0 : TShipPass} {a1 : Option Addr} {n1 c1 : Nat} {a2 : Option Addr} {n2 c2 : Nat} {x1 : TShipCall} {x2 : Int} {x3 : TShipCall} (h1 : RSl RInt 1 G0 a1 n1 c1 x0.Tides) (h2 : RSl RTSpan 2 G0 a2 n2 c2 x0.Swell) {r : Bool} (H : f13 x0 x1 x2 x3 = some r) :
  Calls Try.prog 13 #[.agg #[.slice a1 n1 c1, .int .i64 x0.Depth, .int .i64 x0.Draft, .slice a2 n2 c2, .int .i64 x0.Light.Low, .int .i64 x0.Light.High], .agg #[.int .i64 x1.Day, .int .i64 x1.Hour], .int .i64 x2, .agg #[.int .i64 x3.Day, .int .i64 x3.Hour]] w0 (RetV w0 (.bool r)) := by
 have hS := Since.start hS0
 have hO : Owns G0 w0 w0.heap.size [] := Owns.nil (Nat.le_refl _)
 unfold f13 at H
 refine enter1 (N := 248) (shutV _ _) Try.func13 rfl rfl rfl rfl ?_; refine WC_seq ?_; refine WC_region ?_; refine WL_op rfl (OpP_newF (v := fun b => .pointer (some ⟨b, 0, none⟩)) (cs := [.slice a1 n1 c1, .int .i64 x0.Depth, .int .i64 x0.Draft, .slice a2 n2 c2, .int .i64 x0.Light.Low, .int .i64 x0.Light.High]) (e := 27) (rn_boxA rfl) hS.sat rfl (fun b3 G5 w4 hg hcb3 => ?_)); have hS := hS.grow hg; have hO := hO.grow hg
 have leG5 := hg.le
 refine WL_op rfl (OpP_newF (v := fun b => .pointer (some ⟨b, 0, none⟩)) (cs := [.int .i64 x1.Day, .int .i64 x1.Hour]) (e := 82) (rn_boxA rfl) hS.sat rfl (fun b6 G8 w7 hg hcb6 => ?_)); have hS := hS.grow hg; have hO := hO.grow hg
 have leG8 := hg.le
 refine WL_op rfl (OpP_newF (v := fun b => .pointer (some ⟨b, 0, none⟩)) (cs := [.int .i64 x3.Day, .int .i64 x3.Hour]) (e := 82) (rn_boxA rfl) hS.sat rfl (fun b9 G11 w10 hg hcb9 => ?_)); have hS := hS.grow hg; have hO := hO.grow hg
 have leG11 := hg.le
 refine WL_val (rn_assign (v := (.bool false)) rfl) rfl ?_; refine WL_nil ?_; refine WC_seq ?_; refine WC_seq ?_; obtain ⟨q12, hq12, H⟩ := bnd H; refine WC_cut (fun F w => ∃ (Fb : Fr) (G : Gm), F = upds Fb [(2, .int .i64 x2), (4, .pointer (some ⟨b3, 0, none⟩)), (5, .pointer (some ⟨b6, 0, none⟩)), (7, .pointer (some ⟨b9, 0, none⟩)), (42, .bool q12)] ∧ Gle G11 G ∧ Since w0.heap.size G0 w0 G w ∧ Owns G w w0.heap.size []) ?_ ?_
 ·have Hoq12 := H; have H := hq12; refine WC_region ?_
  have l1_3 := leG8.trans leG11
  refine WL_val (rn_loadA ag27 (cs := [.slice a1 n1 c1, .int .i64 x0.Depth, .int .i64 x0.Draft, .slice a2 n2 c2, .int .i64 x0.Light.Low, .int .i64 x0.Light.High]) rfl rfl (fun j v hj => (hS.sat.le l1_3).cell (hcb3.drop_take 0 6 j v hj))) rfl ?_; obtain ⟨y13, hy13, H⟩ := bnd H
  have l0_3 := leG5.trans l1_3
  refine WL_op rfl (OpP_callV cb16 (f16_ok (x0 := x0) hS.sat (h1.mono RInt_mono l0_3) (h2.mono RTSpan_mono l0_3) hy13) rfl rfl (fun w14 hb => ?_)); have hS := hS.keep hb; have hO := hO.below hb; refine WL_val (rn_not rfl) rfl ?_; refine WL_val (rn_move (v := (.bool (!y13))) rfl) rfl ?_
  rcases bcases (!y13) with hb15 | hb15
  ·have H := ifT hb15 H; refine WL_guardN rfl hb15 rfl rfl rfl ?_; refine WL_guardN rfl hb15 rfl rfl rfl ?_; refine WL_guardN rfl hb15 rfl rfl rfl ?_; refine WL_val (rn_pickT (v := (.bool true)) rfl hb15 rfl) rfl ?_; refine WL_val (rn_move (v := (.bool true)) rfl) rfl ?_; refine WL_guardN rfl rfl rfl rfl rfl ?_; refine WL_guardN rfl rfl rfl rfl rfl ?_; refine WL_guardN rfl rfl rfl rfl rfl ?_; refine WL_guardN rfl rfl rfl rfl rfl ?_; refine WL_val (rn_pickT (v := (.bool true)) rfl rfl rfl) rfl ?_; refine WL_val (rn_move (v := (.bool true)) rfl) rfl ?_; refine WL_guardN rfl rfl rfl rfl rfl ?_; refine WL_guardN rfl rfl rfl rfl rfl ?_; refine WL_guardN rfl rfl rfl rfl rfl ?_; refine WL_guardN rfl rfl rfl rfl rfl ?_; refine WL_val (rn_pickT (v := (.bool true)) rfl rfl rfl) rfl ?_; refine WL_nil ?_
   have hO : Owns G11 w14 w0.heap.size ([]) := hO
   have H := Option.some.inj H; subst H
   exact ⟨_, G11, upds_self _ _ ⟨rfl, rfl, rfl, rfl, rfl, trivial⟩, Gle.refl _, hS, hO⟩
  ·have H := ifF hb15 H; refine WL_guardY rfl hb15 rfl rfl ?_; refine WL_val (rn_loadA ag27 (cs := [.slice a1 n1 c1, .int .i64 x0.Depth, .int .i64 x0.Draft, .slice a2 n2 c2, .int .i64 x0.Light.Low, .int .i64 x0.Light.High]) rfl rfl (fun j v hj => (hS.sat.le l1_3).cell (hcb3.drop_take 0 6 j v hj))) rfl ?_; refine WL_guardY rfl hb15 rfl rfl ?_; obtain ⟨y16, hy16, H⟩ := bnd H; refine WL_op rfl (OpP_callV cb19 (f19_ok (x0 := x0) hS.sat (h1.mono RInt_mono l0_3) (h2.mono RTSpan_mono l0_3) hy16) rfl rfl (fun w17 hb => ?_)); have hS := hS.keep hb; have hO := hO.below hb; refine WL_guardY rfl hb15 rfl rfl ?_; refine WL_val (rn_not rfl) rfl ?_; refine WL_val (rn_pickF (v := (.bool (!y16))) rfl hb15 rfl) rfl ?_; refine WL_val (rn_move (v := (.bool (!y16))) rfl) rfl ?_
   rcases bcases (!y16) with hb18 | hb18
   ·have H := ifT hb18 H; refine WL_guardN rfl hb18 rfl rfl rfl ?_; refine WL_guardN rfl hb18 rfl rfl rfl ?_; refine WL_guardN rfl hb18 rfl rfl rfl ?_; refine WL_guardN rfl hb18 rfl rfl rfl ?_; refine WL_val (rn_pickT (v := (.bool true)) rfl hb18 rfl) rfl ?_; refine WL_val (rn_move (v := (.bool true)) rfl) rfl ?_; refine WL_guardN rfl rfl rfl rfl rfl ?_; refine WL_guardN rfl rfl rfl rfl rfl ?_; refine WL_guardN rfl rfl rfl rfl rfl ?_; refine WL_guardN rfl rfl rfl rfl rfl ?_; refine WL_val (rn_pickT (v := (.bool true)) rfl rfl rfl) rfl ?_; refine WL_nil ?_
    have hO : Owns G11 w17 w0.heap.size ([]) := hO
    have H := Option.some.inj H; subst H
    exact ⟨_, G11, upds_self _ _ ⟨rfl, rfl, rfl, rfl, rfl, trivial⟩, Gle.refl _, hS, hO⟩
   ·have H := ifF hb18 H; refine WL_guardY rfl hb18 rfl rfl ?_; refine WL_val (rn_loadA ag27 (cs := [.slice a1 n1 c1, .int .i64 x0.Depth, .int .i64 x0.Draft, .slice a2 n2 c2, .int .i64 x0.Light.Low, .int .i64 x0.Light.High]) rfl rfl (fun j v hj => (hS.sat.le l1_3).cell (hcb3.drop_take 0 6 j v hj))) rfl ?_; refine WL_guardY rfl hb18 rfl rfl ?_; refine WL_val (rn_loadA ag82 (cs := [.int .i64 x1.Day, .int .i64 x1.Hour]) rfl rfl (fun j v hj => (hS.sat.le leG11).cell (hcb6.drop_take 0 2 j v hj))) rfl ?_; refine WL_guardY rfl hb18 rfl rfl ?_; obtain ⟨y19, hy19, H⟩ := bnd H; refine WL_op rfl (OpP_callV cb50 (f50_ok (x0 := x0) (x1 := x1) hS.sat (h1.mono RInt_mono l0_3) (h2.mono RTSpan_mono l0_3) hy19) rfl rfl (fun w20 hb => ?_)); have hS := hS.keep hb; have hO := hO.below hb; refine WL_guardY rfl hb18 rfl rfl ?_; refine WL_val (rn_not rfl) rfl ?_; refine WL_val (rn_pickF (v := (.bool (!y19))) rfl hb18 rfl) rfl ?_; refine WL_val (rn_move (v := (.bool (!y19))) rfl) rfl ?_
    rcases bcases (!y19) with hb21 | hb21
    ·have H := ifT hb21 H; refine WL_guardN rfl hb21 rfl rfl rfl ?_; refine WL_guardN rfl hb21 rfl rfl rfl ?_; refine WL_guardN rfl hb21 rfl rfl rfl ?_; refine WL_guardN rfl hb21 rfl rfl rfl ?_; refine WL_val (rn_pickT (v := (.bool true)) rfl hb21 rfl) rfl ?_; refine WL_nil ?_
     have hO : Owns G11 w20 w0.heap.size ([]) := hO
     have H := Option.some.inj H; subst H
     exact ⟨_, G11, upds_self _ _ ⟨rfl, rfl, rfl, rfl, rfl, trivial⟩, Gle.refl _, hS, hO⟩
    ·have H := ifF hb21 H; refine WL_guardY rfl hb21 rfl rfl ?_; refine WL_val (rn_loadA ag27 (cs := [.slice a1 n1 c1, .int .i64 x0.Depth, .int .i64 x0.Draft, .slice a2 n2 c2, .int .i64 x0.Light.Low, .int .i64 x0.Light.High]) rfl rfl (fun j v hj => (hS.sat.le l1_3).cell (hcb3.drop_take 0 6 j v hj))) rfl ?_; refine WL_guardY rfl hb21 rfl rfl ?_; refine WL_val (rn_loadA ag82 (cs := [.int .i64 x3.Day, .int .i64 x3.Hour]) rfl rfl (fun j v hj => hS.sat.cell (hcb9.drop_take 0 2 j v hj))) rfl ?_; refine WL_guardY rfl hb21 rfl rfl ?_; obtain ⟨y22, hy22, H⟩ := bnd H; refine WL_op rfl (OpP_callV cb50 (f50_ok (x0 := x0) (x1 := x3) hS.sat (h1.mono RInt_mono l0_3) (h2.mono RTSpan_mono l0_3) hy22) rfl rfl (fun w23 hb => ?_)); have hS := hS.keep hb; have hO := hO.below hb; refine WL_guardY rfl hb21 rfl rfl ?_; refine WL_val (rn_not rfl) rfl ?_; refine WL_val (rn_pickF (v := (.bool (!y22))) rfl hb21 rfl) rfl ?_; refine WL_nil ?_
     have hO : Owns G11 w23 w0.heap.size ([]) := hO
     have H := Option.some.inj H; subst H
     exact ⟨_, G11, upds_self _ _ ⟨rfl, rfl, rfl, rfl, rfl, trivial⟩, Gle.refl _, hS, hO⟩
 ·rintro F w24 ⟨Fb, G25, rfl, leG25, hS, hO⟩
  refine WC_cond rfl (fun hb26 => ?_) (fun hb26 => ?_)
  ·have H := ifT hb26 H; refine WC_seq ?_; refine WC_region ?_; obtain ⟨y27, hy27, H⟩ := bnd H; refine WL_op rfl (OpP_callV cb17 (f17_ok  hS.sat  hy27) rfl rfl (fun w28 hb => ?_)); have hS := hS.keep hb; have hO := hO.below hb; refine WL_val (rn_assign (v := (.bool y27)) rfl) rfl ?_; refine WL_nil ?_; refine WC_ret ?_
   have H : some y27 = some r := H
   have H := Option.some.inj H; subst H
   exact ⟨rfl, hS.below⟩
  ·have H := ifF hb26 H; refine WC_skip ?_; refine WC_seq ?_; refine WC_region ?_
   have l1_4 := (leG8.trans leG11).trans leG25
   refine WL_val (rn_loadA ag27 (cs := [.slice a1 n1 c1, .int .i64 x0.Depth, .int .i64 x0.Draft, .slice a2 n2 c2, .int .i64 x0.Light.Low, .int .i64 x0.Light.High]) rfl rfl (fun j v hj => (hS.sat.le l1_4).cell (hcb3.drop_take 0 6 j v hj))) rfl ?_
   have l2_4 := leG11.trans leG25
   refine WL_val (rn_loadA ag82 (cs := [.int .i64 x1.Day, .int .i64 x1.Hour]) rfl rfl (fun j v hj => (hS.sat.le l2_4).cell (hcb6.drop_take 0 2 j v hj))) rfl ?_; refine WL_val (rn_move (v := (.int .i64 x2)) rfl) rfl ?_; obtain ⟨y29, hy29, H⟩ := bnd H
   have l0_4 := leG5.trans l1_4
   refine WL_op rfl (OpP_callV cb52 (f52_ok (x0 := x0) (x1 := x1) (x2 := x2) hS.sat (h1.mono RInt_mono l0_4) (h2.mono RTSpan_mono l0_4) hy29) rfl rfl (fun w30 hb => ?_)); have hS := hS.keep hb; have hO := hO.below hb; refine WL_val (rn_move (v := (.tuple #[.bool y29.1, .int .i64 y29.2])) rfl) rfl ?_; refine WL_val (rn_extract (v := (.bool y29.1)) rfl rfl) rfl ?_; refine WL_val (rn_extract (v := (.int .i64 y29.2)) rfl rfl) rfl ?_; refine WL_val (rn_assign (v := (.bool y29.1)) rfl) rfl ?_; refine WL_val (rn_assign (v := (.int .i64 y29.2)) rfl) rfl ?_; refine WL_nil ?_; refine WC_seq ?_; refine WC_seq ?_; obtain ⟨q31, hq31, H⟩ := bnd H; refine WC_cut (fun F w => ∃ (Fb : Fr), F = upds Fb [(4, .pointer (some ⟨b3, 0, none⟩)), (5, .pointer (some ⟨b6, 0, none⟩)), (7, .pointer (some ⟨b9, 0, none⟩)), (9, .bool y29.1), (10, .int .i64 y29.2), (70, .bool q31)] ∧ w30 = w) ?_ ?_
   ·have Hoq31 := H; have H := hq31; refine WC_region ?_; refine WL_val (rn_move (v := (.int .i64 x2)) rfl) rfl ?_; refine WL_val (rn_fld fd27_3 rfl) rfl ?_; refine WL_val (rn_load na23 rfl ((hS.sat.le l1_4).cell (hcb3 3 _ rfl))) rfl ?_; refine WL_val (rn_fld fd82_0 rfl) rfl ?_; refine WL_val (rn_load na3 rfl ((hS.sat.le l2_4).cell (hcb6 0 _ rfl))) rfl ?_; obtain ⟨y32, hy32, H⟩ := bnd H; refine WL_idx sl23 (h2.mono RTSpan_mono l0_4) hy32 rfl rfl rfl ?_
    rintro b33 o33 _ hcb33 _ ⟨⟩
    refine WL_val (rn_fld fd25_0 rfl) rfl ?_; refine WL_val (rn_load na3 rfl (hS.sat.cell (hcb33 0 _ rfl))) rfl ?_; refine WL_val (rn_lss rfl rfl) rfl ?_; refine WL_val (rn_move (v := (.bool (decide (x2 < y32.Low)))) rfl) rfl ?_
    rcases bcases (decide (x2 < y32.Low)) with hb34 | hb34
    ·have H := ifT hb34 H; refine WL_guardN rfl hb34 rfl rfl rfl ?_; refine WL_guardN rfl hb34 rfl rfl rfl ?_; refine WL_guardN rfl hb34 rfl rfl rfl ?_; refine WL_guardN rfl hb34 rfl rfl rfl ?_; refine WL_guardN rfl hb34 rfl rfl rfl ?_; refine WL_guardN rfl hb34 rfl rfl rfl ?_; refine WL_guardN rfl hb34 rfl rfl rfl ?_; refine WL_guardN rfl hb34 rfl rfl rfl ?_; refine WL_guardN rfl hb34 rfl rfl rfl ?_; refine WL_val (rn_pickT (v := (.bool true)) rfl hb34 rfl) rfl ?_; refine WL_nil ?_; have H := Option.some.inj H; subst H
     exact ⟨_, upds_self _ _ ⟨rfl, rfl, rfl, rfl, rfl, rfl, trivial⟩, rfl⟩
    ·have H := ifF hb34 H; refine WL_guardY rfl hb34 rfl rfl ?_; refine WL_val (rn_move (v := (.int .i64 x2)) rfl) rfl ?_; refine WL_guardY rfl hb34 rfl rfl ?_; refine WL_val (rn_fld fd27_3 rfl) rfl ?_; refine WL_guardY rfl hb34 rfl rfl ?_; refine WL_val (rn_load na23 rfl ((hS.sat.le l1_4).cell (hcb3 3 _ rfl))) rfl ?_; refine WL_guardY rfl hb34 rfl rfl ?_; refine WL_val (rn_fld fd82_0 rfl) rfl ?_; refine WL_guardY rfl hb34 rfl rfl ?_; refine WL_val (rn_load na3 rfl ((hS.sat.le l2_4).cell (hcb6 0 _ rfl))) rfl ?_; refine WL_guardY rfl hb34 rfl rfl ?_; refine WL_idx sl23 (h2.mono RTSpan_mono l0_4) hy32 rfl rfl rfl ?_
     rintro b35 o35 _ hcb35 _ ⟨⟩
     refine WL_guardY rfl hb34 rfl rfl ?_; refine WL_val (rn_fld fd25_1 rfl) rfl ?_; refine WL_guardY rfl hb34 rfl rfl ?_; refine WL_val (rn_load na3 rfl (hS.sat.cell (hcb35 1 _ rfl))) rfl ?_; refine WL_guardY rfl hb34 rfl rfl ?_; refine WL_val (rn_gtr rfl rfl) rfl ?_; refine WL_val (rn_pickF (v := (.bool (decide (y32.High < x2)))) rfl hb34 rfl) rfl ?_; refine WL_nil ?_; have H := Option.some.inj H; subst H
     exact ⟨_, upds_self _ _ ⟨rfl, rfl, rfl, rfl, rfl, rfl, trivial⟩, rfl⟩
   ·rintro F wl ⟨Fb, rfl, rfl⟩
    refine WC_cond rfl (fun hb38 => ?_) (fun hb38 => ?_)
    ·have H := ifT hb38 H; refine WC_seq ?_; obtain ⟨q39, hq39, H⟩ := bnd H; refine WC_cut (fun F w => ∃ (Fb : Fr) (G : Gm), F = upds Fb [(8, .bool q39)] ∧ Gle G25 G ∧ Since w0.heap.size G0 w0 G w ∧ Owns G w w0.heap.size []) ?_ ?_
     ·have Hoq39 := H; have H := hq39; refine WC_region ?_; refine WL_val (rn_move (v := (.int .i64 y29.2)) rfl) rfl ?_; refine WL_val (rn_eql rfl rfl) rfl ?_; refine WL_val (rn_move (v := (.bool (y29.2 == 2))) rfl) rfl ?_
      rcases bcases (y29.2 == 2) with hb40 | hb40
      ·have H := ifT hb40 H; refine WL_guardY rfl hb40 rfl rfl ?_; refine WL_val (rn_move (v := (.bool y29.1)) rfl) rfl ?_; refine WL_guardY rfl hb40 rfl rfl ?_; refine WL_val (rn_not rfl) rfl ?_; refine WL_val (rn_pickT (v := (.bool (!y29.1))) rfl hb40 rfl) rfl ?_; refine WL_val (rn_move (v := (.bool (!y29.1))) rfl) rfl ?_
       rcases bcases (!y29.1) with hb41 | hb41
       ·have H := ifT hb41 H; refine WL_guardY rfl hb41 rfl rfl ?_; obtain ⟨y42, hy42, H⟩ := bnd H; refine WL_op rfl (OpP_callV cb17 (f17_ok  hS.sat  hy42) rfl rfl (fun w43 hb => ?_)); have hS := hS.keep hb; have hO := hO.below hb; refine WL_val (rn_pickT (v := (.bool y42)) rfl hb41 rfl) rfl ?_; refine WL_val (rn_assign (v := (.bool y42)) rfl) rfl ?_; refine WL_nil ?_
        have hO : Owns G25 w43 w0.heap.size ([]) := hO
        have H := Option.some.inj H; subst H
        exact ⟨_, G25, upds_self _ _ ⟨rfl, trivial⟩, Gle.refl _, hS, hO⟩
       ·have H := ifF hb41 H; refine WL_guardN rfl hb41 rfl rfl rfl ?_; refine WL_val (rn_pickF (v := (.bool false)) rfl hb41 rfl) rfl ?_; refine WL_val (rn_assign (v := (.bool false)) rfl) rfl ?_; refine WL_nil ?_
        have hO : Owns G25 w30 w0.heap.size ([]) := hO
        have H := Option.some.inj H; subst H
        exact ⟨_, G25, upds_self _ _ ⟨rfl, trivial⟩, Gle.refl _, hS, hO⟩
      ·have H := ifF hb40 H; refine WL_guardN rfl hb40 rfl rfl rfl ?_; refine WL_guardN rfl hb40 rfl rfl rfl ?_; refine WL_val (rn_pickF (v := (.bool false)) rfl hb40 rfl) rfl ?_; refine WL_val (rn_move (v := (.bool false)) rfl) rfl ?_; refine WL_guardN rfl rfl rfl rfl rfl ?_; refine WL_val (rn_pickF (v := (.bool false)) rfl rfl rfl) rfl ?_; refine WL_val (rn_assign (v := (.bool false)) rfl) rfl ?_; refine WL_nil ?_
       have hO : Owns G25 w30 w0.heap.size ([]) := hO
       have H := Option.some.inj H; subst H
       exact ⟨_, G25, upds_self _ _ ⟨rfl, trivial⟩, Gle.refl _, hS, hO⟩
     ·rintro F w44 ⟨Fb, G45, rfl, leG45, hS, hO⟩
      refine WC_ret ?_
      have H : some q39 = some r := H
      have H := Option.some.inj H; subst H
      exact ⟨rfl, hS.below⟩
    ·have H := ifF hb38 H; refine WC_skip ?_; refine WC_seq ?_; refine WC_region ?_; refine WL_val (rn_loadA ag27 (cs := [.slice a1 n1 c1, .int .i64 x0.Depth, .int .i64 x0.Draft, .slice a2 n2 c2, .int .i64 x0.Light.Low, .int .i64 x0.Light.High]) rfl rfl (fun j v hj => (hS.sat.le l1_4).cell (hcb3.drop_take 0 6 j v hj))) rfl ?_; refine WL_val (rn_fld fd82_0 rfl) rfl ?_; refine WL_val (rn_load na3 rfl ((hS.sat.le l2_4).cell (hcb6 0 _ rfl))) rfl ?_; obtain ⟨y46, hy46, H⟩ := bnd H; refine WL_op rfl (OpP_callG cb45 (f45_ok (x0 := x0) (x1 := x1.Day) hS.sat (h1.mono RInt_mono l0_4) (h2.mono RTSpan_mono l0_4) hy46) rfl rfl (fun vy46 G48 w47 hg hvy46 => ?_)); obtain ⟨a49, n49, c49, a50, n50, c50, ⟨⟩, h49, h50⟩ := hvy46; have hS := hS.grow hg; have hO := hO.grow hg
     have leG48 := hg.le
     refine WL_val (rn_move (v := (.tuple #[.slice a49 n49 c49, .slice a50 n50 c50, .int .i64 y46.2.2])) rfl) rfl ?_; refine WL_val (rn_extract (v := (.slice a49 n49 c49)) rfl rfl) rfl ?_; refine WL_val (rn_extract (v := (.slice a50 n50 c50)) rfl rfl) rfl ?_; refine WL_val (rn_extract (v := (.int .i64 y46.2.2)) rfl rfl) rfl ?_; refine WL_val (rn_assign (v := (.slice a49 n49 c49)) rfl) rfl ?_; refine WL_val (rn_assign (v := (.slice a50 n50 c50)) rfl) rfl ?_; refine WL_val (rn_assign (v := (.int .i64 y46.2.2)) rfl) rfl ?_; refine WL_nil ?_; refine WC_seq ?_; refine WC_region ?_
     have l1_5 := l1_4.trans leG48
     refine WL_val (rn_loadA ag27 (cs := [.slice a1 n1 c1, .int .i64 x0.Depth, .int .i64 x0.Draft, .slice a2 n2 c2, .int .i64 x0.Light.Low, .int .i64 x0.Light.High]) rfl rfl (fun j v hj => (hS.sat.le l1_5).cell (hcb3.drop_take 0 6 j v hj))) rfl ?_
     have l3_5 := leG25.trans leG48
     refine WL_val (rn_loadA ag82 (cs := [.int .i64 x3.Day, .int .i64 x3.Hour]) rfl rfl (fun j v hj => (hS.sat.le l3_5).cell (hcb9.drop_take 0 2 j v hj))) rfl ?_; obtain ⟨y51, hy51, H⟩ := bnd H
     have l0_5 := l0_4.trans leG48
     refine WL_op rfl (OpP_callV cb48 (f48_ok (x0 := x0) (x1 := x3) hS.sat (h1.mono RInt_mono l0_5) (h2.mono RTSpan_mono l0_5) hy51) rfl rfl (fun w52 hb => ?_)); have hS := hS.keep hb; have hO := hO.below hb; refine WL_val (rn_move (v := (.tuple #[.agg #[.int .i64 y51.1.Day, .int .i64 y51.1.Hour], .int .i64 y51.2])) rfl) rfl ?_; refine WL_val (rn_extract (v := (.agg #[.int .i64 y51.1.Day, .int .i64 y51.1.Hour])) rfl rfl) rfl ?_; refine WL_val (rn_extract (v := (.int .i64 y51.2)) rfl rfl) rfl ?_
     refine WL_op rfl (OpP_newO (v := fun b => .pointer (some ⟨b, 0, none⟩)) (cs := [.int .i64 0, .int .i64 0]) (e := 82) (by kernel_rfl) hS.sat hO rfl 2 1 rfl (by decide) (fun b53 w54 hb hO => ?_))
     have hS := hS.keep hb; refine WL_op rfl (OpP_store (vs := [.int .i64 y51.1.Day, .int .i64 y51.1.Hour]) sz82 hS hO (k := 0) rfl rfl rfl rfl rfl (one_all rfl) (Nat.le_of_ble_eq_true rfl) (fun w56 hS hO => ?_))
     have hO : Owns G48 w56 w0.heap.size ([⟨82, 2, 1, .slice (some ⟨b53, 0, none⟩) 1 1, [.int .i64 y51.1.Day, .int .i64 y51.1.Hour]⟩]) := hO
     obtain ⟨G57, leG57, hS, hO, hqG57, _⟩ := hO.freeze hS (k := 0) rfl
     have hcG57 : Cells G57 b53 0 [.int .i64 y51.1.Day, .int .i64 y51.1.Hour] := (hqG57 _ _ _ _ rfl)
     refine WL_val (rn_assign (v := (.int .i64 y51.2)) rfl) rfl ?_; refine WL_nil ?_; refine WC_seq ?_; refine WC_seq ?_; obtain ⟨q58, hq58, H⟩ := bnd H; refine WC_cut (fun F w => ∃ (Fb : Fr), F = upds Fb [(4, .pointer (some ⟨b3, 0, none⟩)), (5, .pointer (some ⟨b6, 0, none⟩)), (7, .pointer (some ⟨b9, 0, none⟩)), (9, .bool y29.1), (11, .slice a49 n49 c49), (12, .slice a50 n50 c50), (14, .pointer (some ⟨b53, 0, none⟩)), (15, .int .i64 y51.2), (109, .bool q58)] ∧ w56 = w) ?_ ?_
     ·have Hoq58 := H; have H := hq58; refine WC_region ?_; refine WL_val (rn_move (v := (.int .i64 y29.2)) rfl) rfl ?_; refine WL_val (rn_neq rfl rfl) rfl ?_; refine WL_val (rn_move (v := (.bool (y29.2 != 0))) rfl) rfl ?_
      rcases bcases (y29.2 != 0) with hb59 | hb59
      ·have H := ifT hb59 H; refine WL_guardN rfl hb59 rfl rfl rfl ?_; refine WL_guardN rfl hb59 rfl rfl rfl ?_; refine WL_val (rn_pickT (v := (.bool true)) rfl hb59 rfl) rfl ?_; refine WL_val (rn_move (v := (.bool true)) rfl) rfl ?_; refine WL_guardN rfl rfl rfl rfl rfl ?_; refine WL_guardN rfl rfl rfl rfl rfl ?_; refine WL_guardN rfl rfl rfl rfl rfl ?_; refine WL_val (rn_pickT (v := (.bool true)) rfl rfl rfl) rfl ?_; refine WL_val (rn_move (v := (.bool true)) rfl) rfl ?_; refine WL_guardN rfl rfl rfl rfl rfl ?_; refine WL_guardN rfl rfl rfl rfl rfl ?_; refine WL_guardN rfl rfl rfl rfl rfl ?_; refine WL_val (rn_pickT (v := (.bool true)) rfl rfl rfl) rfl ?_; refine WL_nil ?_; have H := Option.some.inj H; subst H
       exact ⟨_, upds_self _ _ ⟨rfl, rfl, rfl, rfl, rfl, rfl, rfl, rfl, rfl, trivial⟩, rfl⟩
      ·have H := ifF hb59 H; refine WL_guardY rfl hb59 rfl rfl ?_; refine WL_val (rn_move (v := (.int .i64 y46.2.2)) rfl) rfl ?_; refine WL_guardY rfl hb59 rfl rfl ?_; refine WL_val (rn_neq rfl rfl) rfl ?_; refine WL_val (rn_pickF (v := (.bool (y46.2.2 != 0))) rfl hb59 rfl) rfl ?_; refine WL_val (rn_move (v := (.bool (y46.2.2 != 0))) rfl) rfl ?_
       rcases bcases (y46.2.2 != 0) with hb60 | hb60
       ·have H := ifT hb60 H; refine WL_guardN rfl hb60 rfl rfl rfl ?_; refine WL_guardN rfl hb60 rfl rfl rfl ?_; refine WL_guardN rfl hb60 rfl rfl rfl ?_; refine WL_val (rn_pickT (v := (.bool true)) rfl hb60 rfl) rfl ?_; refine WL_val (rn_move (v := (.bool true)) rfl) rfl ?_; refine WL_guardN rfl rfl rfl rfl rfl ?_; refine WL_guardN rfl rfl rfl rfl rfl ?_; refine WL_guardN rfl rfl rfl rfl rfl ?_; refine WL_val (rn_pickT (v := (.bool true)) rfl rfl rfl) rfl ?_; refine WL_nil ?_; have H := Option.some.inj H; subst H
        exact ⟨_, upds_self _ _ ⟨rfl, rfl, rfl, rfl, rfl, rfl, rfl, rfl, rfl, trivial⟩, rfl⟩
       ·have H := ifF hb60 H; refine WL_guardY rfl hb60 rfl rfl ?_; refine WL_val (rn_move (v := (.slice a49 n49 c49)) rfl) rfl ?_; refine WL_guardY rfl hb60 rfl rfl ?_; refine WL_val (rn_len sl22 rfl rfl (h49.mono RInt_mono leG57).1) rfl ?_; refine WL_guardY rfl hb60 rfl rfl ?_; refine WL_val (rn_gtr rfl rfl) rfl ?_; refine WL_val (rn_pickF (v := (.bool (decide (24 < (y46.1.length : Int))))) rfl hb60 rfl) rfl ?_; refine WL_val (rn_move (v := (.bool (decide (24 < (y46.1.length : Int))))) rfl) rfl ?_
        rcases bcases (decide (24 < (y46.1.length : Int))) with hb61 | hb61
        ·have H := ifT hb61 H; refine WL_guardN rfl hb61 rfl rfl rfl ?_; refine WL_guardN rfl hb61 rfl rfl rfl ?_; refine WL_guardN rfl hb61 rfl rfl rfl ?_; refine WL_val (rn_pickT (v := (.bool true)) rfl hb61 rfl) rfl ?_; refine WL_nil ?_; have H := Option.some.inj H; subst H
         exact ⟨_, upds_self _ _ ⟨rfl, rfl, rfl, rfl, rfl, rfl, rfl, rfl, rfl, trivial⟩, rfl⟩
        ·have H := ifF hb61 H; refine WL_guardY rfl hb61 rfl rfl ?_; refine WL_val (rn_move (v := (.slice a50 n50 c50)) rfl) rfl ?_; refine WL_guardY rfl hb61 rfl rfl ?_; refine WL_val (rn_len sl22 rfl rfl (h50.mono RInt_mono leG57).1) rfl ?_; refine WL_guardY rfl hb61 rfl rfl ?_; refine WL_val (rn_gtr rfl rfl) rfl ?_; refine WL_val (rn_pickF (v := (.bool (decide (24 < (y46.2.1.length : Int))))) rfl hb61 rfl) rfl ?_; refine WL_nil ?_; have H := Option.some.inj H; subst H
         exact ⟨_, upds_self _ _ ⟨rfl, rfl, rfl, rfl, rfl, rfl, rfl, rfl, rfl, trivial⟩, rfl⟩
     ·rintro F wl ⟨Fb, rfl, rfl⟩
      refine WC_cond rfl (fun hb64 => ?_) (fun hb64 => ?_)
      ·have H := ifT hb64 H; refine WC_seq ?_; refine WC_region ?_; refine WL_val (rn_assign (v := (.bool false)) rfl) rfl ?_; refine WL_nil ?_; refine WC_ret ?_
       have H : some false = some r := H
       have H := Option.some.inj H; subst H
       exact ⟨rfl, hS.below⟩
      ·have H := ifF hb64 H; refine WC_skip ?_; refine WC_seq ?_; have hS := hS.keep (below_drew _); have hO := hO.below (below_drew _)
       refine WC_regionD mixedO (fun _ w => Sat G57 w ∧ True) (.fl 0 (.fl 1 (.fl 2 (.fl 4 (.fl 5 (.fl 6 (.on 3 (.on 7 (.on 8 (.on 9 .nil)))))))))) (by kernel_rfl) rfl (by kernel_rfl) (fun _ => ⟨hS.sat, trivial⟩) ?_
       refine WD_val rfl (fun w hw => rn_move (v := (.slice a49 n49 c49)) rfl) rfl ?_; refine WD_val rfl (fun w hw => rn_fld fd82_1 rfl) rfl ?_; refine WD_val rfl (fun w hw => rn_load na3 rfl ((hw.1.le ((l2_4.trans leG48).trans leG57)).cell (hcb6 1 _ rfl))) rfl ?_; refine WD_val rfl (fun w hw => rn_move (v := (.slice a50 n50 c50)) rfl) rfl ?_; refine WD_val rfl (fun w hw => rn_fld fd82_1 rfl) rfl ?_; refine WD_val rfl (fun w hw => rn_load na3 rfl ((hw.1.le ((l2_4.trans leG48).trans leG57)).cell (hcb6 1 _ rfl))) rfl ?_; obtain ⟨y65, hy65, H⟩ := bnd H; refine WD_op rfl rfl (OpP_callV cb46 (f46_ok (x0 := y46.1) (x1 := x1.Hour) hS.sat (h49.mono RInt_mono leG57) hy65) rfl rfl (fun w66 hb => ?_)); have hS := hS.keep hb; have hO := hO.below hb; refine ⟨fun _ _ => ⟨hS.sat, trivial⟩, ?_⟩; obtain ⟨y67, hy67, H⟩ := bnd H; refine WD_op rfl rfl (OpP_callV cb46 (f46_ok (x0 := y46.2.1) (x1 := x1.Hour) hS.sat (h50.mono RInt_mono leG57) hy67) rfl rfl (fun w68 hb => ?_)); have hS := hS.keep hb; have hO := hO.below hb
       refine ⟨fun _ h => noneed (by kernel_rfl) h, ?_⟩
       refine WD_op rfl rfl (OpP_val (rn_assign (v := (.bool y65)) rfl) rfl ?_)
       refine ⟨fun _ h => noneed (by kernel_rfl) h, ?_⟩
       refine WD_op rfl rfl (OpP_val (rn_assign (v := (.bool y67)) rfl) rfl ?_)
       refine ⟨fun _ h => noneed (by kernel_rfl) h, ?_⟩
       refine WD_nil ?_; refine WC_seq ?_; refine WC_seq ?_; obtain ⟨q69, hq69, H⟩ := bnd H; refine WC_cut (fun F w => ∃ (Fb : Fr), F = upds Fb [(4, .pointer (some ⟨b3, 0, none⟩)), (5, .pointer (some ⟨b6, 0, none⟩)), (7, .pointer (some ⟨b9, 0, none⟩)), (14, .pointer (some ⟨b53, 0, none⟩)), (15, .int .i64 y51.2), (16, .bool y65), (136, .bool q69)] ∧ w68 = w) ?_ ?_
       ·have Hoq69 := H; have H := hq69; refine WC_region ?_; refine WL_val (rn_move (v := (.bool y65)) rfl) rfl ?_; refine WL_val (rn_move (v := (.bool y65)) rfl) rfl ?_
        rcases bcases y65 with hb70 | hb70
        ·have H := ifT hb70 H; refine WL_guardY rfl hb70 rfl rfl ?_; refine WL_val (rn_move (v := (.bool y29.1)) rfl) rfl ?_; refine WL_guardY rfl hb70 rfl rfl ?_; refine WL_val (rn_not rfl) rfl ?_; refine WL_val (rn_pickT (v := (.bool (!y29.1))) rfl hb70 rfl) rfl ?_; refine WL_val (rn_move (v := (.bool (!y29.1))) rfl) rfl ?_
         rcases bcases (!y29.1) with hb71 | hb71
         ·have H := ifT hb71 H; refine WL_guardN rfl hb71 rfl rfl rfl ?_; refine WL_guardN rfl hb71 rfl rfl rfl ?_; refine WL_guardU rfl rfl rfl rfl ?_; refine WL_guardU rfl rfl rfl rfl ?_; refine WL_guardN rfl hb71 rfl rfl rfl ?_; refine WL_val (rn_pickT (v := (.bool true)) rfl hb71 rfl) rfl ?_; refine WL_val (rn_move (v := (.bool true)) rfl) rfl ?_; refine WL_guardN rfl rfl rfl rfl rfl ?_; refine WL_guardN rfl rfl rfl rfl rfl ?_; refine WL_guardU rfl rfl rfl rfl ?_; refine WL_guardU rfl rfl rfl rfl ?_; refine WL_guardN rfl rfl rfl rfl rfl ?_; refine WL_val (rn_pickT (v := (.bool true)) rfl rfl rfl) rfl ?_; refine WL_nil ?_; have H := Option.some.inj H; subst H
          exact ⟨_, upds_self _ _ ⟨rfl, rfl, rfl, rfl, rfl, rfl, rfl, trivial⟩, rfl⟩
         ·have H := ifF hb71 H; refine WL_guardY rfl hb71 rfl rfl ?_; refine WL_val (rn_move (v := (.bool y29.1)) rfl) rfl ?_; refine WL_guardY rfl hb71 rfl rfl ?_; refine WL_val (rn_move (v := (.bool y29.1)) rfl) rfl ?_
          rcases bcases y29.1 with hb72 | hb72
          ·have H := ifT hb72 H; refine WL_guardY rfl hb72 rfl rfl ?_; refine WL_val (rn_move (v := (.bool y67)) rfl) rfl ?_; refine WL_guardY rfl hb72 rfl rfl ?_; refine WL_val (rn_not rfl) rfl ?_; refine WL_guardY rfl hb71 rfl rfl ?_; refine WL_val (rn_pickT (v := (.bool (!y67))) rfl hb72 rfl) rfl ?_; refine WL_val (rn_pickF (v := (.bool (!y67))) rfl hb71 rfl) rfl ?_; refine WL_val (rn_move (v := (.bool (!y67))) rfl) rfl ?_
           rcases bcases (!y67) with hb73 | hb73
           ·have H := ifT hb73 H; refine WL_guardN rfl hb73 rfl rfl rfl ?_; refine WL_guardN rfl hb73 rfl rfl rfl ?_; refine WL_guardU rfl rfl rfl rfl ?_; refine WL_guardU rfl rfl rfl rfl ?_; refine WL_guardN rfl hb73 rfl rfl rfl ?_; refine WL_val (rn_pickT (v := (.bool true)) rfl hb73 rfl) rfl ?_; refine WL_nil ?_; have H := Option.some.inj H; subst H
            exact ⟨_, upds_self _ _ ⟨rfl, rfl, rfl, rfl, rfl, rfl, rfl, trivial⟩, rfl⟩
           ·have H := ifF hb73 H; refine WL_guardY rfl hb73 rfl rfl ?_; refine WL_val (rn_move (v := (.bool y65)) rfl) rfl ?_; refine WL_guardY rfl hb73 rfl rfl ?_; refine WL_val (rn_move (v := (.bool y65)) rfl) rfl ?_; refine WL_guardY rfl hb70 rfl rfl ?_; refine WL_val (rn_move (v := (.bool y67)) rfl) rfl ?_; refine WL_guardY rfl hb70 rfl rfl ?_; refine WL_val (rn_not rfl) rfl ?_; refine WL_guardY rfl hb73 rfl rfl ?_; refine WL_val (rn_pickT (v := (.bool (!y67))) rfl hb70 rfl) rfl ?_; refine WL_val (rn_pickF (v := (.bool (!y67))) rfl hb73 rfl) rfl ?_; refine WL_nil ?_; have H := Option.some.inj H; subst H
            exact ⟨_, upds_self _ _ ⟨rfl, rfl, rfl, rfl, rfl, rfl, rfl, trivial⟩, rfl⟩
          ·have H := ifF hb72 H; refine WL_guardN rfl hb72 rfl rfl rfl ?_; refine WL_guardN rfl hb72 rfl rfl rfl ?_; refine WL_guardY rfl hb71 rfl rfl ?_; refine WL_val (rn_pickF (v := (.bool false)) rfl hb72 rfl) rfl ?_; refine WL_val (rn_pickF (v := (.bool false)) rfl hb71 rfl) rfl ?_; refine WL_val (rn_move (v := (.bool false)) rfl) rfl ?_; refine WL_guardY rfl rfl rfl rfl ?_; refine WL_val (rn_move (v := (.bool y65)) rfl) rfl ?_; refine WL_guardY rfl rfl rfl rfl ?_; refine WL_val (rn_move (v := (.bool y65)) rfl) rfl ?_; refine WL_guardY rfl hb70 rfl rfl ?_; refine WL_val (rn_move (v := (.bool y67)) rfl) rfl ?_; refine WL_guardY rfl hb70 rfl rfl ?_; refine WL_val (rn_not rfl) rfl ?_; refine WL_guardY rfl rfl rfl rfl ?_; refine WL_val (rn_pickT (v := (.bool (!y67))) rfl hb70 rfl) rfl ?_; refine WL_val (rn_pickF (v := (.bool (!y67))) rfl rfl rfl) rfl ?_; refine WL_nil ?_; have H := Option.some.inj H; subst H
           exact ⟨_, upds_self _ _ ⟨rfl, rfl, rfl, rfl, rfl, rfl, rfl, trivial⟩, rfl⟩
        ·have H := ifF hb70 H; refine WL_guardN rfl hb70 rfl rfl rfl ?_; refine WL_guardN rfl hb70 rfl rfl rfl ?_; refine WL_val (rn_pickF (v := (.bool false)) rfl hb70 rfl) rfl ?_; refine WL_val (rn_move (v := (.bool false)) rfl) rfl ?_; refine WL_guardY rfl rfl rfl rfl ?_; refine WL_val (rn_move (v := (.bool y29.1)) rfl) rfl ?_; refine WL_guardY rfl rfl rfl rfl ?_; refine WL_val (rn_move (v := (.bool y29.1)) rfl) rfl ?_
         rcases bcases y29.1 with hb74 | hb74
         ·have H := ifT hb74 H; refine WL_guardY rfl hb74 rfl rfl ?_; refine WL_val (rn_move (v := (.bool y67)) rfl) rfl ?_; refine WL_guardY rfl hb74 rfl rfl ?_; refine WL_val (rn_not rfl) rfl ?_; refine WL_guardY rfl rfl rfl rfl ?_; refine WL_val (rn_pickT (v := (.bool (!y67))) rfl hb74 rfl) rfl ?_; refine WL_val (rn_pickF (v := (.bool (!y67))) rfl rfl rfl) rfl ?_; refine WL_val (rn_move (v := (.bool (!y67))) rfl) rfl ?_
          rcases bcases (!y67) with hb75 | hb75
          ·have H := ifT hb75 H; refine WL_guardN rfl hb75 rfl rfl rfl ?_; refine WL_guardN rfl hb75 rfl rfl rfl ?_; refine WL_guardU rfl rfl rfl rfl ?_; refine WL_guardU rfl rfl rfl rfl ?_; refine WL_guardN rfl hb75 rfl rfl rfl ?_; refine WL_val (rn_pickT (v := (.bool true)) rfl hb75 rfl) rfl ?_; refine WL_nil ?_; have H := Option.some.inj H; subst H
           exact ⟨_, upds_self _ _ ⟨rfl, rfl, rfl, rfl, rfl, rfl, rfl, trivial⟩, rfl⟩
          ·have H := ifF hb75 H; refine WL_guardY rfl hb75 rfl rfl ?_; refine WL_val (rn_move (v := (.bool y65)) rfl) rfl ?_; refine WL_guardY rfl hb75 rfl rfl ?_; refine WL_val (rn_move (v := (.bool y65)) rfl) rfl ?_; refine WL_guardN rfl hb70 rfl rfl rfl ?_; refine WL_guardN rfl hb70 rfl rfl rfl ?_; refine WL_guardY rfl hb75 rfl rfl ?_; refine WL_val (rn_pickF (v := (.bool false)) rfl hb70 rfl) rfl ?_; refine WL_val (rn_pickF (v := (.bool false)) rfl hb75 rfl) rfl ?_; refine WL_nil ?_; have H := Option.some.inj H; subst H
           exact ⟨_, upds_self _ _ ⟨rfl, rfl, rfl, rfl, rfl, rfl, rfl, trivial⟩, rfl⟩
         ·have H := ifF hb74 H; refine WL_guardN rfl hb74 rfl rfl rfl ?_; refine WL_guardN rfl hb74 rfl rfl rfl ?_; refine WL_guardY rfl rfl rfl rfl ?_; refine WL_val (rn_pickF (v := (.bool false)) rfl hb74 rfl) rfl ?_; refine WL_val (rn_pickF (v := (.bool false)) rfl rfl rfl) rfl ?_; refine WL_val (rn_move (v := (.bool false)) rfl) rfl ?_; refine WL_guardY rfl rfl rfl rfl ?_; refine WL_val (rn_move (v := (.bool y65)) rfl) rfl ?_; refine WL_guardY rfl rfl rfl rfl ?_; refine WL_val (rn_move (v := (.bool y65)) rfl) rfl ?_; refine WL_guardN rfl hb70 rfl rfl rfl ?_; refine WL_guardN rfl hb70 rfl rfl rfl ?_; refine WL_guardY rfl rfl rfl rfl ?_; refine WL_val (rn_pickF (v := (.bool false)) rfl hb70 rfl) rfl ?_; refine WL_val (rn_pickF (v := (.bool false)) rfl rfl rfl) rfl ?_; refine WL_nil ?_; have H := Option.some.inj H; subst H
          exact ⟨_, upds_self _ _ ⟨rfl, rfl, rfl, rfl, rfl, rfl, rfl, trivial⟩, rfl⟩
       ·rintro F wl ⟨Fb, rfl, rfl⟩
        refine WC_cond rfl (fun hb78 => ?_) (fun hb78 => ?_)
        ·have H := ifT hb78 H; refine WC_seq ?_; refine WC_region ?_; refine WL_val (rn_assign (v := (.bool false)) rfl) rfl ?_; refine WL_nil ?_; refine WC_ret ?_
         have H : some false = some r := H
         have H := Option.some.inj H; subst H
         exact ⟨rfl, hS.below⟩
        ·have H := ifF hb78 H; refine WC_skip ?_; refine WC_seq ?_; obtain ⟨q79, hq79, H⟩ := bnd H; refine WC_cut (fun F w => ∃ (Fb : Fr), F = upds Fb [(4, .pointer (some ⟨b3, 0, none⟩)), (5, .pointer (some ⟨b6, 0, none⟩)), (7, .pointer (some ⟨b9, 0, none⟩)), (14, .pointer (some ⟨b53, 0, none⟩)), (15, .int .i64 y51.2), (16, .bool y65), (18, .bool q79)] ∧ w68 = w) ?_ ?_
         ·have Hoq79 := H; have H := hq79; refine WC_region ?_; refine WL_val (rn_fld fd82_0 rfl) rfl ?_
          have l2_6 := (l2_4.trans leG48).trans leG57
          refine WL_val (rn_load na3 rfl ((hS.sat.le l2_6).cell (hcb6 0 _ rfl))) rfl ?_; refine WL_val (rn_fld fd82_0 rfl) rfl ?_
          have l3_6 := l3_5.trans leG57
          refine WL_val (rn_load na3 rfl ((hS.sat.le l3_6).cell (hcb9 0 _ rfl))) rfl ?_; refine WL_val (rn_gtr rfl rfl) rfl ?_; refine WL_val (rn_move (v := (.bool (decide (x3.Day < x1.Day)))) rfl) rfl ?_
          rcases bcases (decide (x3.Day < x1.Day)) with hb80 | hb80
          ·have H := ifT hb80 H; refine WL_guardN rfl hb80 rfl rfl rfl ?_; refine WL_guardN rfl hb80 rfl rfl rfl ?_; refine WL_guardN rfl hb80 rfl rfl rfl ?_; refine WL_guardN rfl hb80 rfl rfl rfl ?_; refine WL_guardN rfl hb80 rfl rfl rfl ?_; refine WL_guardN rfl hb80 rfl rfl rfl ?_; refine WL_guardU rfl rfl rfl rfl ?_; refine WL_guardU rfl rfl rfl rfl ?_; refine WL_guardU rfl rfl rfl rfl ?_; refine WL_guardU rfl rfl rfl rfl ?_; refine WL_guardU rfl rfl rfl rfl ?_; refine WL_guardN rfl hb80 rfl rfl rfl ?_; refine WL_val (rn_pickT (v := (.bool true)) rfl hb80 rfl) rfl ?_; refine WL_val (rn_assign (v := (.bool true)) rfl) rfl ?_; refine WL_nil ?_; have H := Option.some.inj H; subst H
           exact ⟨_, upds_self _ _ ⟨rfl, rfl, rfl, rfl, rfl, rfl, rfl, trivial⟩, rfl⟩
          ·have H := ifF hb80 H; refine WL_guardY rfl hb80 rfl rfl ?_; refine WL_val (rn_fld fd82_0 rfl) rfl ?_; refine WL_guardY rfl hb80 rfl rfl ?_; refine WL_val (rn_load na3 rfl ((hS.sat.le l2_6).cell (hcb6 0 _ rfl))) rfl ?_; refine WL_guardY rfl hb80 rfl rfl ?_; refine WL_val (rn_fld fd82_0 rfl) rfl ?_; refine WL_guardY rfl hb80 rfl rfl ?_; refine WL_val (rn_load na3 rfl ((hS.sat.le l3_6).cell (hcb9 0 _ rfl))) rfl ?_; refine WL_guardY rfl hb80 rfl rfl ?_; refine WL_val (rn_eql rfl rfl) rfl ?_; refine WL_guardY rfl hb80 rfl rfl ?_; refine WL_val (rn_move (v := (.bool (x1.Day == x3.Day))) rfl) rfl ?_
           rcases bcases (x1.Day == x3.Day) with hb81 | hb81
           ·have H := ifT hb81 H; refine WL_guardY rfl hb81 rfl rfl ?_; refine WL_val (rn_fld fd82_1 rfl) rfl ?_; refine WL_guardY rfl hb81 rfl rfl ?_; refine WL_val (rn_load na3 rfl ((hS.sat.le l2_6).cell (hcb6 1 _ rfl))) rfl ?_; refine WL_guardY rfl hb81 rfl rfl ?_; refine WL_val (rn_fld fd82_1 rfl) rfl ?_; refine WL_guardY rfl hb81 rfl rfl ?_; refine WL_val (rn_load na3 rfl ((hS.sat.le l3_6).cell (hcb9 1 _ rfl))) rfl ?_; refine WL_guardY rfl hb81 rfl rfl ?_; refine WL_val (rn_geq rfl rfl) rfl ?_; refine WL_guardY rfl hb80 rfl rfl ?_; refine WL_val (rn_pickT (v := (.bool (decide (x3.Hour ≤ x1.Hour)))) rfl hb81 rfl) rfl ?_; refine WL_val (rn_pickF (v := (.bool (decide (x3.Hour ≤ x1.Hour)))) rfl hb80 rfl) rfl ?_; refine WL_val (rn_assign (v := (.bool (decide (x3.Hour ≤ x1.Hour)))) rfl) rfl ?_; refine WL_nil ?_; have H := Option.some.inj H; subst H
            exact ⟨_, upds_self _ _ ⟨rfl, rfl, rfl, rfl, rfl, rfl, rfl, trivial⟩, rfl⟩
           ·have H := ifF hb81 H; refine WL_guardN rfl hb81 rfl rfl rfl ?_; refine WL_guardN rfl hb81 rfl rfl rfl ?_; refine WL_guardN rfl hb81 rfl rfl rfl ?_; refine WL_guardN rfl hb81 rfl rfl rfl ?_; refine WL_guardN rfl hb81 rfl rfl rfl ?_; refine WL_guardY rfl hb80 rfl rfl ?_; refine WL_val (rn_pickF (v := (.bool false)) rfl hb81 rfl) rfl ?_; refine WL_val (rn_pickF (v := (.bool false)) rfl hb80 rfl) rfl ?_; refine WL_val (rn_assign (v := (.bool false)) rfl) rfl ?_; refine WL_nil ?_; have H := Option.some.inj H; subst H
            exact ⟨_, upds_self _ _ ⟨rfl, rfl, rfl, rfl, rfl, rfl, rfl, trivial⟩, rfl⟩
         ·rintro F wl ⟨Fb, rfl, rfl⟩
          refine WC_seq ?_; refine WC_seq ?_; refine WC_region ?_; refine WL_val (rn_move (v := (.int .i64 y51.2)) rfl) rfl ?_; refine WL_val (rn_neq rfl rfl) rfl ?_; refine WL_nil ?_; refine WC_cond rfl (fun hb84 => ?_) (fun hb84 => ?_)
          ·have H := ifT hb84 H; refine WC_seq ?_; obtain ⟨q85, hq85, H⟩ := bnd H; refine WC_cut (fun F w => ∃ (Fb : Fr) (G : Gm), F = upds Fb [(8, .bool q85)] ∧ Gle G57 G ∧ Since w0.heap.size G0 w0 G w ∧ Owns G w w0.heap.size []) ?_ ?_
           ·have Hoq85 := H; have H := hq85; refine WC_region ?_; refine WL_val (rn_move (v := (.int .i64 y51.2)) rfl) rfl ?_; refine WL_val (rn_eql rfl rfl) rfl ?_; refine WL_val (rn_move (v := (.bool (y51.2 == 5))) rfl) rfl ?_
            rcases bcases (y51.2 == 5) with hb86 | hb86
            ·have H := ifT hb86 H; refine WL_guardY rfl hb86 rfl rfl ?_; refine WL_val (rn_move (v := (.bool q79)) rfl) rfl ?_; refine WL_guardY rfl hb86 rfl rfl ?_; refine WL_val (rn_move (v := (.bool q79)) rfl) rfl ?_
             rcases bcases q79 with hb87 | hb87
             ·have H := ifT hb87 H; refine WL_guardY rfl hb87 rfl rfl ?_; refine WL_val (rn_move (v := (.bool y65)) rfl) rfl ?_; refine WL_guardY rfl hb86 rfl rfl ?_; refine WL_val (rn_pickT (v := (.bool y65)) rfl hb87 rfl) rfl ?_; refine WL_guardY rfl hb86 rfl rfl ?_; refine WL_val (rn_not rfl) rfl ?_; refine WL_val (rn_pickT (v := (.bool (!y65))) rfl hb86 rfl) rfl ?_; refine WL_val (rn_move (v := (.bool (!y65))) rfl) rfl ?_
              rcases bcases (!y65) with hb88 | hb88
              ·have H := ifT hb88 H; refine WL_guardY rfl hb88 rfl rfl ?_; obtain ⟨y89, hy89, H⟩ := bnd H; refine WL_op rfl (OpP_callV cb17 (f17_ok  hS.sat  hy89) rfl rfl (fun w90 hb => ?_)); have hS := hS.keep hb; have hO := hO.below hb; refine WL_val (rn_pickT (v := (.bool y89)) rfl hb88 rfl) rfl ?_; refine WL_val (rn_assign (v := (.bool y89)) rfl) rfl ?_; refine WL_nil ?_
               have hO : Owns G57 w90 w0.heap.size ([]) := hO
               have H := Option.some.inj H; subst H
               exact ⟨_, G57, upds_self _ _ ⟨rfl, trivial⟩, Gle.refl _, hS, hO⟩
              ·have H := ifF hb88 H; refine WL_guardN rfl hb88 rfl rfl rfl ?_; refine WL_val (rn_pickF (v := (.bool false)) rfl hb88 rfl) rfl ?_; refine WL_val (rn_assign (v := (.bool false)) rfl) rfl ?_; refine WL_nil ?_
               have hO : Owns G57 w68 w0.heap.size ([]) := hO
               have H := Option.some.inj H; subst H
               exact ⟨_, G57, upds_self _ _ ⟨rfl, trivial⟩, Gle.refl _, hS, hO⟩
             ·have H := ifF hb87 H; refine WL_guardN rfl hb87 rfl rfl rfl ?_; refine WL_guardY rfl hb86 rfl rfl ?_; refine WL_val (rn_pickF (v := (.bool false)) rfl hb87 rfl) rfl ?_; refine WL_guardY rfl hb86 rfl rfl ?_; refine WL_val (rn_not rfl) rfl ?_; refine WL_val (rn_pickT (v := (.bool true)) rfl hb86 rfl) rfl ?_; refine WL_val (rn_move (v := (.bool true)) rfl) rfl ?_; refine WL_guardY rfl rfl rfl rfl ?_; obtain ⟨y91, hy91, H⟩ := bnd H; refine WL_op rfl (OpP_callV cb17 (f17_ok  hS.sat  hy91) rfl rfl (fun w92 hb => ?_)); have hS := hS.keep hb; have hO := hO.below hb; refine WL_val (rn_pickT (v := (.bool y91)) rfl rfl rfl) rfl ?_; refine WL_val (rn_assign (v := (.bool y91)) rfl) rfl ?_; refine WL_nil ?_
              have hO : Owns G57 w92 w0.heap.size ([]) := hO
              have H := Option.some.inj H; subst H
              exact ⟨_, G57, upds_self _ _ ⟨rfl, trivial⟩, Gle.refl _, hS, hO⟩
            ·have H := ifF hb86 H; refine WL_guardN rfl hb86 rfl rfl rfl ?_; refine WL_guardN rfl hb86 rfl rfl rfl ?_; refine WL_guardU rfl rfl rfl rfl ?_; refine WL_guardN rfl hb86 rfl rfl rfl ?_; refine WL_guardN rfl hb86 rfl rfl rfl ?_; refine WL_val (rn_pickF (v := (.bool false)) rfl hb86 rfl) rfl ?_; refine WL_val (rn_move (v := (.bool false)) rfl) rfl ?_; refine WL_guardN rfl rfl rfl rfl rfl ?_; refine WL_val (rn_pickF (v := (.bool false)) rfl rfl rfl) rfl ?_; refine WL_val (rn_assign (v := (.bool false)) rfl) rfl ?_; refine WL_nil ?_
             have hO : Owns G57 w68 w0.heap.size ([]) := hO
             have H := Option.some.inj H; subst H
             exact ⟨_, G57, upds_self _ _ ⟨rfl, trivial⟩, Gle.refl _, hS, hO⟩
           ·rintro F w93 ⟨Fb, G94, rfl, leG94, hS, hO⟩
            refine WC_ret ?_
            have H : some q85 = some r := H
            have H := Option.some.inj H; subst H
            exact ⟨rfl, hS.below⟩
          ·have H := ifF hb84 H; refine WC_skip ?_; refine WC_seq ?_; refine WC_seq ?_; obtain ⟨q95, hq95, H⟩ := bnd H; refine WC_cut (fun F w => ∃ (Fb : Fr) (G : Gm), F = upds Fb [(4, .pointer (some ⟨b3, 0, none⟩)), (5, .pointer (some ⟨b6, 0, none⟩)), (14, .pointer (some ⟨b53, 0, none⟩)), (16, .bool y65), (18, .bool q79), (194, .bool q95)] ∧ Gle G57 G ∧ Since w0.heap.size G0 w0 G w ∧ Owns G w w0.heap.size []) ?_ ?_
           ·have Hoq95 := H; have H := hq95; refine WC_region ?_
            have l1_6 := l1_5.trans leG57
            refine WL_val (rn_loadA ag27 (cs := [.slice a1 n1 c1, .int .i64 x0.Depth, .int .i64 x0.Draft, .slice a2 n2 c2, .int .i64 x0.Light.Low, .int .i64 x0.Light.High]) rfl rfl (fun j v hj => (hS.sat.le l1_6).cell (hcb3.drop_take 0 6 j v hj))) rfl ?_; refine WL_val (rn_loadA ag82 (cs := [.int .i64 y51.1.Day, .int .i64 y51.1.Hour]) rfl rfl (fun j v hj => hS.sat.cell (hcG57.drop_take 0 2 j v hj))) rfl ?_; obtain ⟨y96, hy96, H⟩ := bnd H
            have l0_6 := l0_5.trans leG57
            refine WL_op rfl (OpP_callV cb50 (f50_ok (x0 := x0) (x1 := y51.1) hS.sat (h1.mono RInt_mono l0_6) (h2.mono RTSpan_mono l0_6) hy96) rfl rfl (fun w97 hb => ?_)); have hS := hS.keep hb; have hO := hO.below hb; refine WL_val (rn_not rfl) rfl ?_; refine WL_val (rn_move (v := (.bool (!y96))) rfl) rfl ?_
            rcases bcases (!y96) with hb98 | hb98
            ·have H := ifT hb98 H; refine WL_guardN rfl hb98 rfl rfl rfl ?_; refine WL_guardN rfl hb98 rfl rfl rfl ?_; refine WL_guardN rfl hb98 rfl rfl rfl ?_; refine WL_guardN rfl hb98 rfl rfl rfl ?_; refine WL_guardN rfl hb98 rfl rfl rfl ?_; refine WL_val (rn_pickT (v := (.bool true)) rfl hb98 rfl) rfl ?_; refine WL_val (rn_move (v := (.bool true)) rfl) rfl ?_; refine WL_guardN rfl rfl rfl rfl rfl ?_; refine WL_guardN rfl rfl rfl rfl rfl ?_; refine WL_guardN rfl rfl rfl rfl rfl ?_; refine WL_guardN rfl rfl rfl rfl rfl ?_; refine WL_guardN rfl rfl rfl rfl rfl ?_; refine WL_guardN rfl rfl rfl rfl rfl ?_; refine WL_guardU rfl rfl rfl rfl ?_; refine WL_guardU rfl rfl rfl rfl ?_; refine WL_guardU rfl rfl rfl rfl ?_; refine WL_guardU rfl rfl rfl rfl ?_; refine WL_guardU rfl rfl rfl rfl ?_; refine WL_guardN rfl rfl rfl rfl rfl ?_; refine WL_val (rn_pickT (v := (.bool true)) rfl rfl rfl) rfl ?_; refine WL_nil ?_
             have hO : Owns G57 w97 w0.heap.size ([]) := hO
             have H := Option.some.inj H; subst H
             exact ⟨_, G57, upds_self _ _ ⟨rfl, rfl, rfl, rfl, rfl, rfl, trivial⟩, Gle.refl _, hS, hO⟩
            ·have H := ifF hb98 H; refine WL_guardY rfl hb98 rfl rfl ?_; refine WL_val (rn_fld fd82_0 rfl) rfl ?_; refine WL_guardY rfl hb98 rfl rfl ?_; refine WL_val (rn_load na3 rfl (hS.sat.cell (hcG57 0 _ rfl))) rfl ?_; refine WL_guardY rfl hb98 rfl rfl ?_; refine WL_val (rn_fld fd82_0 rfl) rfl ?_; refine WL_guardY rfl hb98 rfl rfl ?_
             have l3_6 := l3_5.trans leG57
             refine WL_val (rn_load na3 rfl ((hS.sat.le l3_6).cell (hcb9 0 _ rfl))) rfl ?_; refine WL_guardY rfl hb98 rfl rfl ?_; refine WL_val (rn_lss rfl rfl) rfl ?_; refine WL_val (rn_pickF (v := (.bool (decide (y51.1.Day < x3.Day)))) rfl hb98 rfl) rfl ?_; refine WL_val (rn_move (v := (.bool (decide (y51.1.Day < x3.Day)))) rfl) rfl ?_
             rcases bcases (decide (y51.1.Day < x3.Day)) with hb99 | hb99
             ·have H := ifT hb99 H; refine WL_guardN rfl hb99 rfl rfl rfl ?_; refine WL_guardN rfl hb99 rfl rfl rfl ?_; refine WL_guardN rfl hb99 rfl rfl rfl ?_; refine WL_guardN rfl hb99 rfl rfl rfl ?_; refine WL_guardN rfl hb99 rfl rfl rfl ?_; refine WL_guardN rfl hb99 rfl rfl rfl ?_; refine WL_guardU rfl rfl rfl rfl ?_; refine WL_guardU rfl rfl rfl rfl ?_; refine WL_guardU rfl rfl rfl rfl ?_; refine WL_guardU rfl rfl rfl rfl ?_; refine WL_guardU rfl rfl rfl rfl ?_; refine WL_guardN rfl hb99 rfl rfl rfl ?_; refine WL_val (rn_pickT (v := (.bool true)) rfl hb99 rfl) rfl ?_; refine WL_nil ?_
              have hO : Owns G57 w97 w0.heap.size ([]) := hO
              have H := Option.some.inj H; subst H
              exact ⟨_, G57, upds_self _ _ ⟨rfl, rfl, rfl, rfl, rfl, rfl, trivial⟩, Gle.refl _, hS, hO⟩
             ·have H := ifF hb99 H; refine WL_guardY rfl hb99 rfl rfl ?_; refine WL_val (rn_fld fd82_0 rfl) rfl ?_; refine WL_guardY rfl hb99 rfl rfl ?_; refine WL_val (rn_load na3 rfl (hS.sat.cell (hcG57 0 _ rfl))) rfl ?_; refine WL_guardY rfl hb99 rfl rfl ?_; refine WL_val (rn_fld fd82_0 rfl) rfl ?_; refine WL_guardY rfl hb99 rfl rfl ?_; refine WL_val (rn_load na3 rfl ((hS.sat.le l3_6).cell (hcb9 0 _ rfl))) rfl ?_; refine WL_guardY rfl hb99 rfl rfl ?_; refine WL_val (rn_eql rfl rfl) rfl ?_; refine WL_guardY rfl hb99 rfl rfl ?_; refine WL_val (rn_move (v := (.bool (y51.1.Day == x3.Day))) rfl) rfl ?_
              rcases bcases (y51.1.Day == x3.Day) with hb100 | hb100
              ·have H := ifT hb100 H; refine WL_guardY rfl hb100 rfl rfl ?_; refine WL_val (rn_fld fd82_1 rfl) rfl ?_; refine WL_guardY rfl hb100 rfl rfl ?_; refine WL_val (rn_load na3 rfl (hS.sat.cell (hcG57 1 _ rfl))) rfl ?_; refine WL_guardY rfl hb100 rfl rfl ?_; refine WL_val (rn_fld fd82_1 rfl) rfl ?_; refine WL_guardY rfl hb100 rfl rfl ?_; refine WL_val (rn_load na3 rfl ((hS.sat.le l3_6).cell (hcb9 1 _ rfl))) rfl ?_; refine WL_guardY rfl hb100 rfl rfl ?_; refine WL_val (rn_lss rfl rfl) rfl ?_; refine WL_guardY rfl hb99 rfl rfl ?_; refine WL_val (rn_pickT (v := (.bool (decide (y51.1.Hour < x3.Hour)))) rfl hb100 rfl) rfl ?_; refine WL_val (rn_pickF (v := (.bool (decide (y51.1.Hour < x3.Hour)))) rfl hb99 rfl) rfl ?_; refine WL_nil ?_
               have hO : Owns G57 w97 w0.heap.size ([]) := hO
               have H := Option.some.inj H; subst H
               exact ⟨_, G57, upds_self _ _ ⟨rfl, rfl, rfl, rfl, rfl, rfl, trivial⟩, Gle.refl _, hS, hO⟩
              ·have H := ifF hb100 H; refine WL_guardN rfl hb100 rfl rfl rfl ?_; refine WL_guardN rfl hb100 rfl rfl rfl ?_; refine WL_guardN rfl hb100 rfl rfl rfl ?_; refine WL_guardN rfl hb100 rfl rfl rfl ?_; refine WL_guardN rfl hb100 rfl rfl rfl ?_; refine WL_guardY rfl hb99 rfl rfl ?_; refine WL_val (rn_pickF (v := (.bool false)) rfl hb100 rfl) rfl ?_; refine WL_val (rn_pickF (v := (.bool false)) rfl hb99 rfl) rfl ?_; refine WL_nil ?_
               have hO : Owns G57 w97 w0.heap.size ([]) := hO
               have H := Option.some.inj H; subst H
               exact ⟨_, G57, upds_self _ _ ⟨rfl, rfl, rfl, rfl, rfl, rfl, trivial⟩, Gle.refl _, hS, hO⟩
           ·rintro F w101 ⟨Fb, G102, rfl, leG102, hS, hO⟩
            refine WC_cond rfl (fun hb103 => ?_) (fun hb103 => ?_)
            ·have H := ifT hb103 H; refine WC_seq ?_; refine WC_region ?_; refine WL_val (rn_assign (v := (.bool false)) rfl) rfl ?_; refine WL_nil ?_; refine WC_ret ?_
             have H : some false = some r := H
             have H := Option.some.inj H; subst H
             exact ⟨rfl, hS.below⟩
            ·have H := ifF hb103 H; refine WC_skip ?_; refine WC_seq ?_; refine WC_region ?_
             have l1_7 := (l1_5.trans leG57).trans leG102
             refine WL_val (rn_loadA ag27 (cs := [.slice a1 n1 c1, .int .i64 x0.Depth, .int .i64 x0.Draft, .slice a2 n2 c2, .int .i64 x0.Light.Low, .int .i64 x0.Light.High]) rfl rfl (fun j v hj => (hS.sat.le l1_7).cell (hcb3.drop_take 0 6 j v hj))) rfl ?_; refine WL_val (rn_fld fd82_0 rfl) rfl ?_; refine WL_val (rn_load na3 rfl ((hS.sat.le leG102).cell (hcG57 0 _ rfl))) rfl ?_; obtain ⟨y104, hy104, H⟩ := bnd H
             have l0_7 := (l0_5.trans leG57).trans leG102
             refine WL_op rfl (OpP_callG cb45 (f45_ok (x0 := x0) (x1 := y51.1.Day) hS.sat (h1.mono RInt_mono l0_7) (h2.mono RTSpan_mono l0_7) hy104) rfl rfl (fun vy104 G106 w105 hg hvy104 => ?_)); obtain ⟨a107, n107, c107, a108, n108, c108, ⟨⟩, h107, h108⟩ := hvy104; have hS := hS.grow hg; have hO := hO.grow hg
             have leG106 := hg.le
             refine WL_val (rn_move (v := (.tuple #[.slice a107 n107 c107, .slice a108 n108 c108, .int .i64 y104.2.2])) rfl) rfl ?_; refine WL_val (rn_extract (v := (.slice a107 n107 c107)) rfl rfl) rfl ?_; refine WL_val (rn_extract (v := (.slice a108 n108 c108)) rfl rfl) rfl ?_; refine WL_val (rn_extract (v := (.int .i64 y104.2.2)) rfl rfl) rfl ?_; refine WL_val (rn_assign (v := (.slice a107 n107 c107)) rfl) rfl ?_; refine WL_val (rn_assign (v := (.slice a108 n108 c108)) rfl) rfl ?_; refine WL_val (rn_assign (v := (.int .i64 y104.2.2)) rfl) rfl ?_; refine WL_nil ?_; refine WC_seq ?_; obtain ⟨q109, hq109, H⟩ := bnd H; refine WC_cut (fun F w => ∃ (Fb : Fr), F = upds Fb [(14, .pointer (some ⟨b53, 0, none⟩)), (16, .bool y65), (18, .bool q79), (19, .slice a107 n107 c107), (21, .int .i64 y104.2.2), (22, .bool q109)] ∧ w105 = w) ?_ ?_
             ·have Hoq109 := H; have H := hq109; refine WC_region ?_; refine WL_val (rn_fld fd82_0 rfl) rfl ?_
              have l2_8 := (((l2_4.trans leG48).trans leG57).trans leG102).trans leG106
              refine WL_val (rn_load na3 rfl ((hS.sat.le l2_8).cell (hcb6 0 _ rfl))) rfl ?_; refine WL_val (rn_fld fd82_0 rfl) rfl ?_
              have l6_8 := leG102.trans leG106
              refine WL_val (rn_load na3 rfl ((hS.sat.le l6_8).cell (hcG57 0 _ rfl))) rfl ?_; refine WL_val (rn_lss rfl rfl) rfl ?_; refine WL_val (rn_move (v := (.bool (decide (x1.Day < y51.1.Day)))) rfl) rfl ?_
              rcases bcases (decide (x1.Day < y51.1.Day)) with hb110 | hb110
              ·have H := ifT hb110 H; refine WL_guardN rfl hb110 rfl rfl rfl ?_; refine WL_guardN rfl hb110 rfl rfl rfl ?_; refine WL_guardN rfl hb110 rfl rfl rfl ?_; refine WL_guardN rfl hb110 rfl rfl rfl ?_; refine WL_guardN rfl hb110 rfl rfl rfl ?_; refine WL_guardN rfl hb110 rfl rfl rfl ?_; refine WL_guardU rfl rfl rfl rfl ?_; refine WL_guardU rfl rfl rfl rfl ?_; refine WL_guardU rfl rfl rfl rfl ?_; refine WL_guardU rfl rfl rfl rfl ?_; refine WL_guardU rfl rfl rfl rfl ?_; refine WL_guardN rfl hb110 rfl rfl rfl ?_; refine WL_val (rn_pickT (v := (.bool true)) rfl hb110 rfl) rfl ?_; refine WL_val (rn_assign (v := (.bool true)) rfl) rfl ?_; refine WL_nil ?_; have H := Option.some.inj H; subst H
               exact ⟨_, upds_self _ _ ⟨rfl, rfl, rfl, rfl, rfl, rfl, trivial⟩, rfl⟩
              ·have H := ifF hb110 H; refine WL_guardY rfl hb110 rfl rfl ?_; refine WL_val (rn_fld fd82_0 rfl) rfl ?_; refine WL_guardY rfl hb110 rfl rfl ?_; refine WL_val (rn_load na3 rfl ((hS.sat.le l2_8).cell (hcb6 0 _ rfl))) rfl ?_; refine WL_guardY rfl hb110 rfl rfl ?_; refine WL_val (rn_fld fd82_0 rfl) rfl ?_; refine WL_guardY rfl hb110 rfl rfl ?_; refine WL_val (rn_load na3 rfl ((hS.sat.le l6_8).cell (hcG57 0 _ rfl))) rfl ?_; refine WL_guardY rfl hb110 rfl rfl ?_; refine WL_val (rn_eql rfl rfl) rfl ?_; refine WL_guardY rfl hb110 rfl rfl ?_; refine WL_val (rn_move (v := (.bool (x1.Day == y51.1.Day))) rfl) rfl ?_
               rcases bcases (x1.Day == y51.1.Day) with hb111 | hb111
               ·have H := ifT hb111 H; refine WL_guardY rfl hb111 rfl rfl ?_; refine WL_val (rn_fld fd82_1 rfl) rfl ?_; refine WL_guardY rfl hb111 rfl rfl ?_; refine WL_val (rn_load na3 rfl ((hS.sat.le l2_8).cell (hcb6 1 _ rfl))) rfl ?_; refine WL_guardY rfl hb111 rfl rfl ?_; refine WL_val (rn_fld fd82_1 rfl) rfl ?_; refine WL_guardY rfl hb111 rfl rfl ?_; refine WL_val (rn_load na3 rfl ((hS.sat.le l6_8).cell (hcG57 1 _ rfl))) rfl ?_; refine WL_guardY rfl hb111 rfl rfl ?_; refine WL_val (rn_lss rfl rfl) rfl ?_; refine WL_guardY rfl hb110 rfl rfl ?_; refine WL_val (rn_pickT (v := (.bool (decide (x1.Hour < y51.1.Hour)))) rfl hb111 rfl) rfl ?_; refine WL_val (rn_pickF (v := (.bool (decide (x1.Hour < y51.1.Hour)))) rfl hb110 rfl) rfl ?_; refine WL_val (rn_assign (v := (.bool (decide (x1.Hour < y51.1.Hour)))) rfl) rfl ?_; refine WL_nil ?_; have H := Option.some.inj H; subst H
                exact ⟨_, upds_self _ _ ⟨rfl, rfl, rfl, rfl, rfl, rfl, trivial⟩, rfl⟩
               ·have H := ifF hb111 H; refine WL_guardN rfl hb111 rfl rfl rfl ?_; refine WL_guardN rfl hb111 rfl rfl rfl ?_; refine WL_guardN rfl hb111 rfl rfl rfl ?_; refine WL_guardN rfl hb111 rfl rfl rfl ?_; refine WL_guardN rfl hb111 rfl rfl rfl ?_; refine WL_guardY rfl hb110 rfl rfl ?_; refine WL_val (rn_pickF (v := (.bool false)) rfl hb111 rfl) rfl ?_; refine WL_val (rn_pickF (v := (.bool false)) rfl hb110 rfl) rfl ?_; refine WL_val (rn_assign (v := (.bool false)) rfl) rfl ?_; refine WL_nil ?_; have H := Option.some.inj H; subst H
                exact ⟨_, upds_self _ _ ⟨rfl, rfl, rfl, rfl, rfl, rfl, trivial⟩, rfl⟩
             ·rintro F wl ⟨Fb, rfl, rfl⟩
              refine WC_seq ?_; obtain ⟨q114, hq114, H⟩ := bnd H; refine WC_cut (fun F w => ∃ (Fb : Fr) (G : Gm), F = upds Fb [(8, .bool q114)] ∧ Gle G106 G ∧ Since w0.heap.size G0 w0 G w ∧ Owns G w w0.heap.size []) ?_ ?_
              ·have Hoq114 := H; have H := hq114; refine WC_region ?_; refine WL_val (rn_move (v := (.int .i64 y104.2.2)) rfl) rfl ?_; refine WL_val (rn_eql rfl rfl) rfl ?_; refine WL_val (rn_move (v := (.bool (y104.2.2 == 0))) rfl) rfl ?_
               rcases bcases (y104.2.2 == 0) with hb115 | hb115
               ·have H := ifT hb115 H; refine WL_guardY rfl hb115 rfl rfl ?_; refine WL_val (rn_move (v := (.slice a107 n107 c107)) rfl) rfl ?_; refine WL_guardY rfl hb115 rfl rfl ?_; refine WL_val (rn_len sl22 rfl rfl h107.1) rfl ?_; refine WL_guardY rfl hb115 rfl rfl ?_; refine WL_val (rn_leq rfl rfl) rfl ?_; refine WL_val (rn_pickT (v := (.bool (decide ((y104.1.length : Int) ≤ 24)))) rfl hb115 rfl) rfl ?_; refine WL_val (rn_move (v := (.bool (decide ((y104.1.length : Int) ≤ 24)))) rfl) rfl ?_
                rcases bcases (decide ((y104.1.length : Int) ≤ 24)) with hb116 | hb116
                ·have H := ifT hb116 H; refine WL_guardY rfl hb116 rfl rfl ?_; refine WL_val (rn_move (v := (.slice a107 n107 c107)) rfl) rfl ?_; refine WL_guardY rfl hb116 rfl rfl ?_; refine WL_val (rn_fld fd82_1 rfl) rfl ?_; refine WL_guardY rfl hb116 rfl rfl ?_
                 have l6_8 := leG102.trans leG106
                 refine WL_val (rn_load na3 rfl ((hS.sat.le l6_8).cell (hcG57 1 _ rfl))) rfl ?_; refine WL_guardY rfl hb116 rfl rfl ?_; obtain ⟨y117, hy117, H⟩ := bnd H; refine WL_op rfl (OpP_callV cb46 (f46_ok (x0 := y104.1) (x1 := y51.1.Hour) hS.sat h107 hy117) rfl rfl (fun w118 hb => ?_)); have hS := hS.keep hb; have hO := hO.below hb; refine WL_val (rn_pickT (v := (.bool y117)) rfl hb116 rfl) rfl ?_; refine WL_val (rn_move (v := (.bool y117)) rfl) rfl ?_
                 rcases bcases y117 with hb119 | hb119
                 ·have H := ifT hb119 H; refine WL_guardY rfl hb119 rfl rfl ?_; refine WL_val (rn_move (v := (.bool q79)) rfl) rfl ?_; refine WL_guardY rfl hb119 rfl rfl ?_; refine WL_val (rn_move (v := (.bool q79)) rfl) rfl ?_
                  rcases bcases q79 with hb120 | hb120
                  ·have H := ifT hb120 H; refine WL_guardY rfl hb120 rfl rfl ?_; refine WL_val (rn_move (v := (.bool y65)) rfl) rfl ?_; refine WL_guardY rfl hb119 rfl rfl ?_; refine WL_val (rn_pickT (v := (.bool y65)) rfl hb120 rfl) rfl ?_; refine WL_guardY rfl hb119 rfl rfl ?_; refine WL_val (rn_move (v := (.bool y65)) rfl) rfl ?_
                   rcases bcases y65 with hb121 | hb121
                   ·have H := ifT hb121 H; refine WL_guardY rfl hb121 rfl rfl ?_; refine WL_val (rn_move (v := (.bool q109)) rfl) rfl ?_; refine WL_guardY rfl hb119 rfl rfl ?_; refine WL_val (rn_pickT (v := (.bool q109)) rfl hb121 rfl) rfl ?_; refine WL_guardY rfl hb119 rfl rfl ?_; refine WL_val (rn_not rfl) rfl ?_; refine WL_val (rn_pickT (v := (.bool (!q109))) rfl hb119 rfl) rfl ?_; refine WL_val (rn_move (v := (.bool (!q109))) rfl) rfl ?_
                    rcases bcases (!q109) with hb122 | hb122
                    ·have H := ifT hb122 H; refine WL_guardY rfl hb122 rfl rfl ?_; obtain ⟨y123, hy123, H⟩ := bnd H; refine WL_op rfl (OpP_callV cb17 (f17_ok  hS.sat  hy123) rfl rfl (fun w124 hb => ?_)); have hS := hS.keep hb; have hO := hO.below hb; refine WL_val (rn_pickT (v := (.bool y123)) rfl hb122 rfl) rfl ?_; refine WL_val (rn_assign (v := (.bool y123)) rfl) rfl ?_; refine WL_nil ?_
                     have hO : Owns G106 w124 w0.heap.size ([]) := hO
                     have H := Option.some.inj H; subst H
                     exact ⟨_, G106, upds_self _ _ ⟨rfl, trivial⟩, Gle.refl _, hS, hO⟩
                    ·have H := ifF hb122 H; refine WL_guardN rfl hb122 rfl rfl rfl ?_; refine WL_val (rn_pickF (v := (.bool false)) rfl hb122 rfl) rfl ?_; refine WL_val (rn_assign (v := (.bool false)) rfl) rfl ?_; refine WL_nil ?_
                     have hO : Owns G106 w118 w0.heap.size ([]) := hO
                     have H := Option.some.inj H; subst H
                     exact ⟨_, G106, upds_self _ _ ⟨rfl, trivial⟩, Gle.refl _, hS, hO⟩
                   ·have H := ifF hb121 H; refine WL_guardN rfl hb121 rfl rfl rfl ?_; refine WL_guardY rfl hb119 rfl rfl ?_; refine WL_val (rn_pickF (v := (.bool false)) rfl hb121 rfl) rfl ?_; refine WL_guardY rfl hb119 rfl rfl ?_; refine WL_val (rn_not rfl) rfl ?_; refine WL_val (rn_pickT (v := (.bool true)) rfl hb119 rfl) rfl ?_; refine WL_val (rn_move (v := (.bool true)) rfl) rfl ?_; refine WL_guardY rfl rfl rfl rfl ?_; obtain ⟨y125, hy125, H⟩ := bnd H; refine WL_op rfl (OpP_callV cb17 (f17_ok  hS.sat  hy125) rfl rfl (fun w126 hb => ?_)); have hS := hS.keep hb; have hO := hO.below hb; refine WL_val (rn_pickT (v := (.bool y125)) rfl rfl rfl) rfl ?_; refine WL_val (rn_assign (v := (.bool y125)) rfl) rfl ?_; refine WL_nil ?_
                    have hO : Owns G106 w126 w0.heap.size ([]) := hO
                    have H := Option.some.inj H; subst H
                    exact ⟨_, G106, upds_self _ _ ⟨rfl, trivial⟩, Gle.refl _, hS, hO⟩
                  ·have H := ifF hb120 H; refine WL_guardN rfl hb120 rfl rfl rfl ?_; refine WL_guardY rfl hb119 rfl rfl ?_; refine WL_val (rn_pickF (v := (.bool false)) rfl hb120 rfl) rfl ?_; refine WL_guardY rfl hb119 rfl rfl ?_; refine WL_val (rn_move (v := (.bool false)) rfl) rfl ?_; refine WL_guardN rfl rfl rfl rfl rfl ?_; refine WL_guardY rfl hb119 rfl rfl ?_; refine WL_val (rn_pickF (v := (.bool false)) rfl rfl rfl) rfl ?_; refine WL_guardY rfl hb119 rfl rfl ?_; refine WL_val (rn_not rfl) rfl ?_; refine WL_val (rn_pickT (v := (.bool true)) rfl hb119 rfl) rfl ?_; refine WL_val (rn_move (v := (.bool true)) rfl) rfl ?_; refine WL_guardY rfl rfl rfl rfl ?_; obtain ⟨y127, hy127, H⟩ := bnd H; refine WL_op rfl (OpP_callV cb17 (f17_ok  hS.sat  hy127) rfl rfl (fun w128 hb => ?_)); have hS := hS.keep hb; have hO := hO.below hb; refine WL_val (rn_pickT (v := (.bool y127)) rfl rfl rfl) rfl ?_; refine WL_val (rn_assign (v := (.bool y127)) rfl) rfl ?_; refine WL_nil ?_
                   have hO : Owns G106 w128 w0.heap.size ([]) := hO
                   have H := Option.some.inj H; subst H
                   exact ⟨_, G106, upds_self _ _ ⟨rfl, trivial⟩, Gle.refl _, hS, hO⟩
                 ·have H := ifF hb119 H; refine WL_guardN rfl hb119 rfl rfl rfl ?_; refine WL_guardN rfl hb119 rfl rfl rfl ?_; refine WL_guardU rfl rfl rfl rfl ?_; refine WL_guardN rfl hb119 rfl rfl rfl ?_; refine WL_guardN rfl hb119 rfl rfl rfl ?_; refine WL_guardU rfl rfl rfl rfl ?_; refine WL_guardN rfl hb119 rfl rfl rfl ?_; refine WL_guardN rfl hb119 rfl rfl rfl ?_; refine WL_val (rn_pickF (v := (.bool false)) rfl hb119 rfl) rfl ?_; refine WL_val (rn_move (v := (.bool false)) rfl) rfl ?_; refine WL_guardN rfl rfl rfl rfl rfl ?_; refine WL_val (rn_pickF (v := (.bool false)) rfl rfl rfl) rfl ?_; refine WL_val (rn_assign (v := (.bool false)) rfl) rfl ?_; refine WL_nil ?_
                  have hO : Owns G106 w118 w0.heap.size ([]) := hO
                  have H := Option.some.inj H; subst H
                  exact ⟨_, G106, upds_self _ _ ⟨rfl, trivial⟩, Gle.refl _, hS, hO⟩
                ·have H := ifF hb116 H; refine WL_guardN rfl hb116 rfl rfl rfl ?_; refine WL_guardN rfl hb116 rfl rfl rfl ?_; refine WL_guardN rfl hb116 rfl rfl rfl ?_; refine WL_guardN rfl hb116 rfl rfl rfl ?_; refine WL_val (rn_pickF (v := (.bool false)) rfl hb116 rfl) rfl ?_; refine WL_val (rn_move (v := (.bool false)) rfl) rfl ?_; refine WL_guardN rfl rfl rfl rfl rfl ?_; refine WL_guardN rfl rfl rfl rfl rfl ?_; refine WL_guardU rfl rfl rfl rfl ?_; refine WL_guardN rfl rfl rfl rfl rfl ?_; refine WL_guardN rfl rfl rfl rfl rfl ?_; refine WL_guardU rfl rfl rfl rfl ?_; refine WL_guardN rfl rfl rfl rfl rfl ?_; refine WL_guardN rfl rfl rfl rfl rfl ?_; refine WL_val (rn_pickF (v := (.bool false)) rfl rfl rfl) rfl ?_; refine WL_val (rn_move (v := (.bool false)) rfl) rfl ?_; refine WL_guardN rfl rfl rfl rfl rfl ?_; refine WL_val (rn_pickF (v := (.bool false)) rfl rfl rfl) rfl ?_; refine WL_val (rn_assign (v := (.bool false)) rfl) rfl ?_; refine WL_nil ?_
                 have hO : Owns G106 w105 w0.heap.size ([]) := hO
                 have H := Option.some.inj H; subst H
                 exact ⟨_, G106, upds_self _ _ ⟨rfl, trivial⟩, Gle.refl _, hS, hO⟩
               ·have H := ifF hb115 H; refine WL_guardN rfl hb115 rfl rfl rfl ?_; refine WL_guardN rfl hb115 rfl rfl rfl ?_; refine WL_guardN rfl hb115 rfl rfl rfl ?_; refine WL_val (rn_pickF (v := (.bool false)) rfl hb115 rfl) rfl ?_; refine WL_val (rn_move (v := (.bool false)) rfl) rfl ?_; refine WL_guardN rfl rfl rfl rfl rfl ?_; refine WL_guardN rfl rfl rfl rfl rfl ?_; refine WL_guardN rfl rfl rfl rfl rfl ?_; refine WL_guardN rfl rfl rfl rfl rfl ?_; refine WL_val (rn_pickF (v := (.bool false)) rfl rfl rfl) rfl ?_; refine WL_val (rn_move (v := (.bool false)) rfl) rfl ?_; refine WL_guardN rfl rfl rfl rfl rfl ?_; refine WL_guardN rfl rfl rfl rfl rfl ?_; refine WL_guardU rfl rfl rfl rfl ?_; refine WL_guardN rfl rfl rfl rfl rfl ?_; refine WL_guardN rfl rfl rfl rfl rfl ?_; refine WL_guardU rfl rfl rfl rfl ?_; refine WL_guardN rfl rfl rfl rfl rfl ?_; refine WL_guardN rfl rfl rfl rfl rfl ?_; refine WL_val (rn_pickF (v := (.bool false)) rfl rfl rfl) rfl ?_; refine WL_val (rn_move (v := (.bool false)) rfl) rfl ?_; refine WL_guardN rfl rfl rfl rfl rfl ?_; refine WL_val (rn_pickF (v := (.bool false)) rfl rfl rfl) rfl ?_; refine WL_val (rn_assign (v := (.bool false)) rfl) rfl ?_; refine WL_nil ?_
                have hO : Owns G106 w105 w0.heap.size ([]) := hO
                have H := Option.some.inj H; subst H
                exact ⟨_, G106, upds_self _ _ ⟨rfl, trivial⟩, Gle.refl _, hS, hO⟩
              ·rintro F w129 ⟨Fb, G130, rfl, leG130, hS, hO⟩
               refine WC_ret ?_
               have H : some q114 = some r := H
               have H := Option.some.inj H; subst H
               exact ⟨rfl, hS.below⟩
end Go.Proofs.Ytajejmbnmphngaa
