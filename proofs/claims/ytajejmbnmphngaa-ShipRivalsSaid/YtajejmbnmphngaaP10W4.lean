/-
  The walks: each Go function computes its plain function (printed by a program of ours).
-/
import Derived.Test.YtajejmbnmphngaaRd
import Derived.Test.YtajejmbnmphngaaBaseL
import Derived.Test.YtajejmbnmphngaaP10W3
namespace Go.Proofs.Ytajejmbnmphngaa
open Go.RowKit
set_option linter.unusedVariables false

set_option maxRecDepth 20000
set_option linter.unusedVariables false
set_option maxHeartbeats 1000000 in
theorem f27_ok {G0 : Gm} {w0 : World} (hS0 : Sat G0 w0) {x0 : TShipStore} {a1 : Option Addr} {n1 c1 : Nat} {a2 : Option Addr} {n2 c2 : Nat} {a3 : Option Addr} {n3 c3 : Nat} {x1 : (List Int)} {a4 : Option Addr} {n4 c4 : Nat} {x2 : Int} (h1 : RSl RInt 1 G0 a1 n1 c1 x0.Stock) (h2 : RSl RTSpan 2 G0 a2 n2 c2 x0.Use) (h3 : RSl RTShipLot 3 G0 a3 n3 c3 x0.Lots) (h4 : RSl RInt 1 G0 a4 n4 c4 x1) {r : Bool} (H : f27 x0 x1 x2 = some r) :
  Calls Try.prog 27 #[.agg #[.slice a1 n1 c1, .slice a2 n2 c2, .int .i64 x0.Gap.Low, .int .i64 x0.Gap.High, .slice a3 n3 c3, .int .i64 x0.Hold], .slice a4 n4 c4, .int .i64 x2] w0 (RetV w0 (.bool r)) := by
 have hS := Since.start hS0
 have hO : Owns G0 w0 w0.heap.size [] := Owns.nil (Nat.le_refl _)
 unfold f27 at H
 refine enter1 (N := 18) (shutV _ _) Try.func27 rfl rfl rfl rfl ?_; refine WC_seq ?_; refine WC_region ?_; refine WL_op rfl (OpP_newF (v := fun b => .pointer (some ⟨b, 0, none⟩)) (cs := [.slice a1 n1 c1, .slice a2 n2 c2, .int .i64 x0.Gap.Low, .int .i64 x0.Gap.High, .slice a3 n3 c3, .int .i64 x0.Hold]) (e := 42) (rn_boxA rfl) hS.sat rfl (fun b5 G7 w6 hg hcb5 => ?_)); have hS := hS.grow hg; have hO := hO.grow hg
 have leG7 := hg.le
 refine WL_val (rn_assign (v := (.bool false)) rfl) rfl ?_; refine WL_nil ?_; refine WC_seq ?_; obtain ⟨q8, hq8, H⟩ := bnd H; refine WC_cut (fun F w => ∃ (Fb : Fr) (G : Gm), F = upds Fb [(6, .bool q8)] ∧ Gle G7 G ∧ Since w0.heap.size G0 w0 G w ∧ Owns G w w0.heap.size []) ?_ ?_
 ·have Hoq8 := H; have H := hq8; refine WC_region ?_; refine WL_val (rn_loadA ag42 (cs := [.slice a1 n1 c1, .slice a2 n2 c2, .int .i64 x0.Gap.Low, .int .i64 x0.Gap.High, .slice a3 n3 c3, .int .i64 x0.Hold]) rfl rfl (fun j v hj => hS.sat.cell (hcb5.drop_take 0 6 j v hj))) rfl ?_; obtain ⟨y9, hy9, H⟩ := bnd H; refine WL_op rfl (OpP_callV cb36 (f36_ok (x0 := x0) hS.sat (h1.mono RInt_mono leG7) (h2.mono RTSpan_mono leG7) (h3.mono RTShipLot_mono leG7) hy9) rfl rfl (fun w10 hb => ?_)); have hS := hS.keep hb; have hO := hO.below hb; refine WL_val (rn_move (v := (.bool y9)) rfl) rfl ?_
  rcases bcases y9 with hb11 | hb11
  ·have H := ifT hb11 H; refine WL_guardY rfl hb11 rfl rfl ?_; refine WL_val (rn_loadA ag42 (cs := [.slice a1 n1 c1, .slice a2 n2 c2, .int .i64 x0.Gap.Low, .int .i64 x0.Gap.High, .slice a3 n3 c3, .int .i64 x0.Hold]) rfl rfl (fun j v hj => hS.sat.cell (hcb5.drop_take 0 6 j v hj))) rfl ?_; refine WL_guardY rfl hb11 rfl rfl ?_; refine WL_val (rn_move (v := (.slice a4 n4 c4)) rfl) rfl ?_; refine WL_guardY rfl hb11 rfl rfl ?_; obtain ⟨y12, hy12, H⟩ := bnd H; refine WL_op rfl (OpP_callV cb42 (f42_ok (x0 := x0) (x1 := x1) hS.sat (h1.mono RInt_mono leG7) (h2.mono RTSpan_mono leG7) (h3.mono RTShipLot_mono leG7) (h4.mono RInt_mono leG7) hy12) rfl rfl (fun w13 hb => ?_)); have hS := hS.keep hb; have hO := hO.below hb; refine WL_val (rn_pickT (v := (.bool y12)) rfl hb11 rfl) rfl ?_; refine WL_val (rn_move (v := (.bool y12)) rfl) rfl ?_
   rcases bcases y12 with hb14 | hb14
   ·have H := ifT hb14 H; refine WL_guardY rfl hb14 rfl rfl ?_; refine WL_val (rn_move (v := (.int .i64 x2)) rfl) rfl ?_; refine WL_guardY rfl hb14 rfl rfl ?_; obtain ⟨y15, hy15, H⟩ := bnd H; refine WL_op rfl (OpP_callV cb37 (f37_ok (x0 := x2) hS.sat  hy15) rfl rfl (fun w16 hb => ?_)); have hS := hS.keep hb; have hO := hO.below hb; refine WL_val (rn_pickT (v := (.bool y15)) rfl hb14 rfl) rfl ?_; refine WL_val (rn_assign (v := (.bool y15)) rfl) rfl ?_; refine WL_nil ?_
    have hO : Owns G7 w16 w0.heap.size ([]) := hO
    have H := Option.some.inj H; subst H
    exact ⟨_, G7, upds_self _ _ ⟨rfl, trivial⟩, Gle.refl _, hS, hO⟩
   ·have H := ifF hb14 H; refine WL_guardN rfl hb14 rfl rfl rfl ?_; refine WL_guardN rfl hb14 rfl rfl rfl ?_; refine WL_val (rn_pickF (v := (.bool false)) rfl hb14 rfl) rfl ?_; refine WL_val (rn_assign (v := (.bool false)) rfl) rfl ?_; refine WL_nil ?_
    have hO : Owns G7 w13 w0.heap.size ([]) := hO
    have H := Option.some.inj H; subst H
    exact ⟨_, G7, upds_self _ _ ⟨rfl, trivial⟩, Gle.refl _, hS, hO⟩
  ·have H := ifF hb11 H; refine WL_guardN rfl hb11 rfl rfl rfl ?_; refine WL_guardN rfl hb11 rfl rfl rfl ?_; refine WL_guardN rfl hb11 rfl rfl rfl ?_; refine WL_val (rn_pickF (v := (.bool false)) rfl hb11 rfl) rfl ?_; refine WL_val (rn_move (v := (.bool false)) rfl) rfl ?_; refine WL_guardN rfl rfl rfl rfl rfl ?_; refine WL_guardN rfl rfl rfl rfl rfl ?_; refine WL_val (rn_pickF (v := (.bool false)) rfl rfl rfl) rfl ?_; refine WL_val (rn_assign (v := (.bool false)) rfl) rfl ?_; refine WL_nil ?_
   have hO : Owns G7 w10 w0.heap.size ([]) := hO
   have H := Option.some.inj H; subst H
   exact ⟨_, G7, upds_self _ _ ⟨rfl, trivial⟩, Gle.refl _, hS, hO⟩
 ·rintro F w17 ⟨Fb, G18, rfl, leG18, hS, hO⟩
  refine WC_ret ?_
  have H : some q8 = some r := H
  have H := Option.some.inj H; subst H
  exact ⟨rfl, hS.below⟩
set_option maxHeartbeats 1000000 in
theorem f28_ok {G0 : Gm} {w0 : World} (hS0 : Sat G0 w0) {x0 : TShipStore} {a1 : Option Addr} {n1 c1 : Nat} {a2 : Option Addr} {n2 c2 : Nat} {a3 : Option Addr} {n3 c3 : Nat} {x1 : Int} {x2 : TShipTruth} {a4 : Option Addr} {n4 c4 : Nat} {a5 : Option Addr} {n5 c5 : Nat} {a6 : Option Addr} {n6 c6 : Nat} (h1 : RSl RInt 1 G0 a1 n1 c1 x0.Stock) (h2 : RSl RTSpan 2 G0 a2 n2 c2 x0.Use) (h3 : RSl RTShipLot 3 G0 a3 n3 c3 x0.Lots) (h4 : RSl RInt 1 G0 a4 n4 c4 x2.Uses) (h5 : RSl RInt 1 G0 a5 n5 c5 x2.Gaps) (h6 : RSl (RSlice RInt 1) 1 G0 a6 n6 c6 x2.Goods) {r : Bool} (H : f28 x0 x1 x2 = some r) :
  Calls Try.prog 28 #[.agg #[.slice a1 n1 c1, .slice a2 n2 c2, .int .i64 x0.Gap.Low, .int .i64 x0.Gap.High, .slice a3 n3 c3, .int .i64 x0.Hold], .int .i64 x1, .agg #[.slice a4 n4 c4, .slice a5 n5 c5, .slice a6 n6 c6]] w0 (RetV w0 (.bool r)) := by
 have hS := Since.start hS0
 have hO : Owns G0 w0 w0.heap.size [] := Owns.nil (Nat.le_refl _)
 unfold f28 at H
 refine enter1 (N := 141) (shutV _ _) Try.func28 rfl rfl rfl rfl ?_; refine WC_seq ?_; refine WC_region ?_; refine WL_op rfl (OpP_newF (v := fun b => .pointer (some ⟨b, 0, none⟩)) (cs := [.slice a1 n1 c1, .slice a2 n2 c2, .int .i64 x0.Gap.Low, .int .i64 x0.Gap.High, .slice a3 n3 c3, .int .i64 x0.Hold]) (e := 42) (rn_boxA rfl) hS.sat rfl (fun b7 G9 w8 hg hcb7 => ?_)); have hS := hS.grow hg; have hO := hO.grow hg
 have leG9 := hg.le
 refine WL_op rfl (OpP_newF (v := fun b => .pointer (some ⟨b, 0, none⟩)) (cs := [.slice a4 n4 c4, .slice a5 n5 c5, .slice a6 n6 c6]) (e := 45) (rn_boxA rfl) hS.sat rfl (fun b10 G12 w11 hg hcb10 => ?_)); have hS := hS.grow hg; have hO := hO.grow hg
 have leG12 := hg.le
 refine WL_val (rn_assign (v := (.bool false)) rfl) rfl ?_; refine WL_nil ?_; refine WC_seq ?_; refine WC_seq ?_; obtain ⟨q13, hq13, H⟩ := bnd H; refine WC_cut (fun F w => ∃ (Fb : Fr), F = upds Fb [(1, .int .i64 x1), (3, .pointer (some ⟨b7, 0, none⟩)), (5, .pointer (some ⟨b10, 0, none⟩)), (34, .bool q13)] ∧ w11 = w) ?_ ?_
 ·have Hoq13 := H; have H := hq13; refine WC_region ?_; refine WL_val (rn_fld fd45_0 rfl) rfl ?_; refine WL_val (rn_load na22 rfl (hS.sat.cell (hcb10 0 _ rfl))) rfl ?_
  have l0_2 := leG9.trans leG12
  refine WL_val (rn_len sl22 rfl rfl (h4.mono RInt_mono l0_2).1) rfl ?_; refine WL_val (rn_fld fd42_0 rfl) rfl ?_; refine WL_val (rn_load na22 rfl ((hS.sat.le leG12).cell (hcb7 0 _ rfl))) rfl ?_; refine WL_val (rn_len sl22 rfl rfl (h1.mono RInt_mono l0_2).1) rfl ?_; refine WL_val (rn_neq rfl rfl) rfl ?_; refine WL_val (rn_move (v := (.bool ((x2.Uses.length : Int) != (x0.Stock.length : Int)))) rfl) rfl ?_
  rcases bcases ((x2.Uses.length : Int) != (x0.Stock.length : Int)) with hb14 | hb14
  ·have H := ifT hb14 H; refine WL_guardN rfl hb14 rfl rfl rfl ?_; refine WL_guardN rfl hb14 rfl rfl rfl ?_; refine WL_guardN rfl hb14 rfl rfl rfl ?_; refine WL_guardN rfl hb14 rfl rfl rfl ?_; refine WL_guardN rfl hb14 rfl rfl rfl ?_; refine WL_guardN rfl hb14 rfl rfl rfl ?_; refine WL_guardN rfl hb14 rfl rfl rfl ?_; refine WL_val (rn_pickT (v := (.bool true)) rfl hb14 rfl) rfl ?_; refine WL_val (rn_move (v := (.bool true)) rfl) rfl ?_; refine WL_guardN rfl rfl rfl rfl rfl ?_; refine WL_guardN rfl rfl rfl rfl rfl ?_; refine WL_guardN rfl rfl rfl rfl rfl ?_; refine WL_guardN rfl rfl rfl rfl rfl ?_; refine WL_val (rn_pickT (v := (.bool true)) rfl rfl rfl) rfl ?_; refine WL_nil ?_; have H := Option.some.inj H; subst H
   exact ⟨_, upds_self _ _ ⟨rfl, rfl, rfl, rfl, trivial⟩, rfl⟩
  ·have H := ifF hb14 H; refine WL_guardY rfl hb14 rfl rfl ?_; refine WL_val (rn_fld fd45_2 rfl) rfl ?_; refine WL_guardY rfl hb14 rfl rfl ?_; refine WL_val (rn_load na43 rfl (hS.sat.cell (hcb10 2 _ rfl))) rfl ?_; refine WL_guardY rfl hb14 rfl rfl ?_; refine WL_val (rn_len sl43 rfl rfl (h6.mono (RSlice_mono RInt_mono) l0_2).1) rfl ?_; refine WL_guardY rfl hb14 rfl rfl ?_; refine WL_val (rn_fld fd42_3 rfl) rfl ?_; refine WL_guardY rfl hb14 rfl rfl ?_; refine WL_val (rn_load na40 rfl ((hS.sat.le leG12).cell (hcb7 4 _ rfl))) rfl ?_; refine WL_guardY rfl hb14 rfl rfl ?_; refine WL_val (rn_len sl40 rfl rfl (h3.mono RTShipLot_mono l0_2).1) rfl ?_; refine WL_guardY rfl hb14 rfl rfl ?_; refine WL_val (rn_neq rfl rfl) rfl ?_; refine WL_val (rn_pickF (v := (.bool ((x2.Goods.length : Int) != (x0.Lots.length : Int)))) rfl hb14 rfl) rfl ?_; refine WL_val (rn_move (v := (.bool ((x2.Goods.length : Int) != (x0.Lots.length : Int)))) rfl) rfl ?_
   rcases bcases ((x2.Goods.length : Int) != (x0.Lots.length : Int)) with hb15 | hb15
   ·have H := ifT hb15 H; refine WL_guardN rfl hb15 rfl rfl rfl ?_; refine WL_guardN rfl hb15 rfl rfl rfl ?_; refine WL_guardN rfl hb15 rfl rfl rfl ?_; refine WL_guardN rfl hb15 rfl rfl rfl ?_; refine WL_val (rn_pickT (v := (.bool true)) rfl hb15 rfl) rfl ?_; refine WL_nil ?_; have H := Option.some.inj H; subst H
    exact ⟨_, upds_self _ _ ⟨rfl, rfl, rfl, rfl, trivial⟩, rfl⟩
   ·have H := ifF hb15 H; refine WL_guardY rfl hb15 rfl rfl ?_; refine WL_val (rn_fld fd45_1 rfl) rfl ?_; refine WL_guardY rfl hb15 rfl rfl ?_; refine WL_val (rn_load na22 rfl (hS.sat.cell (hcb10 1 _ rfl))) rfl ?_; refine WL_guardY rfl hb15 rfl rfl ?_; refine WL_val (rn_len sl22 rfl rfl (h5.mono RInt_mono l0_2).1) rfl ?_; refine WL_guardY rfl hb15 rfl rfl ?_; refine WL_val (rn_gtr rfl rfl) rfl ?_; refine WL_val (rn_pickF (v := (.bool (decide (300 < (x2.Gaps.length : Int))))) rfl hb15 rfl) rfl ?_; refine WL_nil ?_; have H := Option.some.inj H; subst H
    exact ⟨_, upds_self _ _ ⟨rfl, rfl, rfl, rfl, trivial⟩, rfl⟩
 ·rintro F wl ⟨Fb, rfl, rfl⟩
  refine WC_cond rfl (fun hb18 => ?_) (fun hb18 => ?_)
  ·have H := ifT hb18 H; refine WC_seq ?_; refine WC_region ?_; refine WL_val (rn_assign (v := (.bool false)) rfl) rfl ?_; refine WL_nil ?_; refine WC_ret ?_
   have H : some false = some r := H
   have H := Option.some.inj H; subst H
   exact ⟨rfl, hS.below⟩
  ·have H := ifF hb18 H; refine WC_skip ?_; refine WC_seq ?_; refine WC_seq ?_; refine WC_region ?_; refine WL_val (rn_assign (v := (.int .i64 0)) rfl) rfl ?_; refine WL_nil ?_; obtain ⟨q21, hq21, H⟩ := bnd H; refine WC_cut (fun F w => ∃ (p20 : Unit) (Fb : Fr) (G : Gm), q21 = .inl p20 ∧ F = upds Fb [(1, .int .i64 x1), (3, .pointer (some ⟨b7, 0, none⟩)), (5, .pointer (some ⟨b10, 0, none⟩))] ∧ Gle G12 G ∧ Since w0.heap.size G0 w0 G w ∧ Owns G w w0.heap.size []) ?_ ?_
   ·refine WC_block (WC_loop hq21 (fun s19 F w => ∃ (Fb : Fr) (G : Gm), F = upds Fb [(1, .int .i64 x1), (3, .pointer (some ⟨b7, 0, none⟩)), (5, .pointer (some ⟨b10, 0, none⟩)), (7, .int .i64 s19)] ∧ Gle G12 G ∧ Since w0.heap.size G0 w0 G w ∧ Owns G w w0.heap.size []) ?_ ?_)
    ·have hO : Owns G12 w11 w0.heap.size ([]) := hO
     exact ⟨_, G12, upds_self _ _ ⟨rfl, rfl, rfl, rfl, trivial⟩, Gle.refl _, hS, hO⟩
    ·rintro s19 F w23 t22 ⟨Fb, G24, rfl, leG24, hS, hO⟩
     intro H1 hqq21
     have Hoq21 := H; have H := H1
     unfold f28_b0 at H
     refine WC_seq ?_; refine WC_seq ?_; refine WC_region ?_; refine WL_val (rn_move (v := (.int .i64 s19)) rfl) rfl ?_; refine WL_val (rn_fld fd45_0 rfl) rfl ?_; refine WL_val (rn_load na22 rfl ((hS.sat.le leG24).cell (hcb10 0 _ rfl))) rfl ?_
     have l0_3 := (leG9.trans leG12).trans leG24
     refine WL_val (rn_len sl22 rfl rfl (h4.mono RInt_mono l0_3).1) rfl ?_; refine WL_val (rn_lss rfl rfl) rfl ?_; refine WL_nil ?_; refine WC_cond rfl (fun hb25 => ?_) (fun hb25 => ?_)
     ·have H := ifT hb25 H; refine WC_skip ?_; refine WC_seq ?_; refine WC_block ?_; refine WC_seq ?_; have hS := hS.keep (below_drew _); have hO := hO.below (below_drew _)
      refine WC_regionD mixedO (fun _ w => Sat G24 w ∧ True) (.fl 0 (.fl 1 (.fl 2 (.fl 3 (.fl 4 (.fl 5 (.fl 6 (.fl 7 (.fl 8 (.fl 9 (.fl 10 (.fl 11 (.fl 12 (.on 13 (.on 14 (.on 15 (.on 16 (.on 17 (.on 18 .nil))))))))))))))))))) (by kernel_rfl) rfl (by kernel_rfl) (fun _ => ⟨hS.sat, trivial⟩) ?_
      refine WD_val rfl (fun w hw => rn_fld fd45_0 rfl) rfl ?_; refine WD_val rfl (fun w hw => rn_load na22 rfl ((hw.1.le leG24).cell (hcb10 0 _ rfl))) rfl ?_; refine WD_val rfl (fun w hw => rn_move (v := (.int .i64 s19)) rfl) rfl ?_; obtain ⟨y26, hy26, H⟩ := bnd H; refine WD_idx rfl sl22 (h4.mono RInt_mono l0_3) hy26 rfl rfl rfl ?_
      rintro b27 o27 _ hcb27 _ ⟨⟩
      refine WD_val rfl (fun w hw => rn_load na3 rfl (hw.1.cell (hcb27 0 _ rfl))) rfl ?_; refine WD_val rfl (fun w hw => rn_fld fd42_1 rfl) rfl ?_; refine WD_val rfl (fun w hw => rn_load na23 rfl ((hw.1.le (leG12.trans leG24)).cell (hcb7 1 _ rfl))) rfl ?_; refine WD_val rfl (fun w hw => rn_move (v := (.int .i64 s19)) rfl) rfl ?_; obtain ⟨y28, hy28, H⟩ := bnd H; refine WD_idx rfl sl23 (h2.mono RTSpan_mono l0_3) hy28 rfl rfl rfl ?_
      rintro b29 o29 _ hcb29 _ ⟨⟩
      refine WD_val rfl (fun w hw => rn_fld fd25_0 rfl) rfl ?_; refine WD_val rfl (fun w hw => rn_load na3 rfl (hw.1.cell (hcb29 0 _ rfl))) rfl ?_; refine WD_val rfl (fun w hw => rn_fld fd42_1 rfl) rfl ?_; refine WD_val rfl (fun w hw => rn_load na23 rfl ((hw.1.le (leG12.trans leG24)).cell (hcb7 1 _ rfl))) rfl ?_; refine WD_op rfl rfl (OpP_val (rn_move (v := (.int .i64 s19)) rfl) rfl ?_); refine ⟨fun _ _ => ⟨hS.sat, trivial⟩, ?_⟩; refine WD_op rfl rfl (OpP_idx sl23 (h2.mono RTSpan_mono l0_3) hy28 rfl rfl rfl ?_)
      rintro b30 o30 _ hcb30 _ ⟨⟩
      refine ⟨fun _ _ => ⟨hS.sat, trivial⟩, ?_⟩; refine WD_op rfl rfl (OpP_val (rn_fld fd25_1 rfl) rfl ?_); refine ⟨fun _ _ => ⟨hS.sat, trivial⟩, ?_⟩; refine WD_op rfl rfl (OpP_val (rn_load na3 rfl (hS.sat.cell (hcb30 1 _ rfl))) rfl ?_); refine ⟨fun _ _ => ⟨hS.sat, trivial⟩, ?_⟩; obtain ⟨y31, hy31, H⟩ := bnd H; refine WD_op rfl rfl (OpP_callV cb65 (f65_ok (x0 := y26) (x1 := y28.Low) (x2 := y28.High) hS.sat  hy31) rfl rfl (fun w32 hb => ?_)); have hS := hS.keep hb; have hO := hO.below hb
      refine ⟨fun _ h => noneed (by kernel_rfl) h, ?_⟩
      refine WD_op rfl rfl (OpP_val (rn_not rfl) rfl ?_)
      refine ⟨fun _ h => noneed (by kernel_rfl) h, ?_⟩
      refine WD_nil ?_; refine WC_cond rfl (fun hb33 => ?_) (fun hb33 => ?_)
      ·have H := ifT hb33 H; refine WC_seq ?_; refine WC_region ?_; refine WL_val (rn_assign (v := (.bool false)) rfl) rfl ?_; refine WL_nil ?_; refine WC_ret ?_; have H := Option.some.inj H; subst H
       have hres := hqq21 _ rfl
       subst hres; have H := Hoq21
       have H : some false = some r := H
       have H := Option.some.inj H; subst H
       exact ⟨rfl, hS.below⟩
      ·have H := ifF hb33 H; refine WC_skip ?_; refine WC_region ?_; refine WL_val (rn_move (v := (.int .i64 s19)) rfl) rfl ?_; refine WL_val (rn_add rfl rfl) rfl ?_; refine WL_val (rn_assign (v := (.int .i64 (IntKind.i64.wrap (s19 + 1)))) rfl) rfl ?_; refine WL_nil ?_
       have hO : Owns G24 w32 w0.heap.size ([]) := hO
       have H := Option.some.inj H; subst H; refine ⟨_, rfl, ?_⟩
       exact ⟨_, G24, upds_self _ _ ⟨rfl, rfl, rfl, rfl, trivial⟩, leG24, hS, hO⟩
     ·have H := ifF hb25 H; refine WC_exit rfl ?_
      have hO : Owns G24 w23 w0.heap.size ([]) := hO
      have H := Option.some.inj H; subst H
      have hres := hqq21 _ rfl
      subst hres
      exact ⟨_, _, G24, rfl, upds_self _ _ ⟨rfl, rfl, rfl, trivial⟩, leG24, hS, hO⟩
   ·rintro F w34 ⟨p20, Fb, G35, rfl, rfl, leG35, hS, hO⟩
    refine WC_seq ?_; refine WC_seq ?_; refine WC_region ?_; refine WL_val (rn_assign (v := (.int .i64 0)) rfl) rfl ?_; refine WL_nil ?_; obtain ⟨q38, hq38, H⟩ := bnd H; refine WC_cut (fun F w => ∃ (p37 : Unit) (Fb : Fr) (G : Gm), q38 = .inl p37 ∧ F = upds Fb [(1, .int .i64 x1), (3, .pointer (some ⟨b7, 0, none⟩)), (5, .pointer (some ⟨b10, 0, none⟩))] ∧ Gle G35 G ∧ Since w0.heap.size G0 w0 G w ∧ Owns G w w0.heap.size []) ?_ ?_
    ·refine WC_block (WC_loop hq38 (fun s36 F w => ∃ (Fb : Fr) (G : Gm), F = upds Fb [(1, .int .i64 x1), (3, .pointer (some ⟨b7, 0, none⟩)), (5, .pointer (some ⟨b10, 0, none⟩)), (8, .int .i64 s36)] ∧ Gle G35 G ∧ Since w0.heap.size G0 w0 G w ∧ Owns G w w0.heap.size []) ?_ ?_)
     ·have hO : Owns G35 w34 w0.heap.size ([]) := hO
      exact ⟨_, G35, upds_self _ _ ⟨rfl, rfl, rfl, rfl, trivial⟩, Gle.refl _, hS, hO⟩
     ·rintro s36 F w40 t39 ⟨Fb, G41, rfl, leG41, hS, hO⟩
      intro H1 hqq38
      have Hoq38 := H; have H := H1
      unfold f28_b1 at H
      refine WC_seq ?_; refine WC_seq ?_; refine WC_region ?_; refine WL_val (rn_move (v := (.int .i64 s36)) rfl) rfl ?_; refine WL_val (rn_fld fd45_2 rfl) rfl ?_
      have l2_4 := leG35.trans leG41
      refine WL_val (rn_load na43 rfl ((hS.sat.le l2_4).cell (hcb10 2 _ rfl))) rfl ?_
      have l0_4 := (leG9.trans leG12).trans l2_4
      refine WL_val (rn_len sl43 rfl rfl (h6.mono (RSlice_mono RInt_mono) l0_4).1) rfl ?_; refine WL_val (rn_lss rfl rfl) rfl ?_; refine WL_nil ?_; refine WC_cond rfl (fun hb42 => ?_) (fun hb42 => ?_)
      ·have H := ifT hb42 H; refine WC_skip ?_; refine WC_seq ?_; refine WC_block ?_; refine WC_seq ?_; refine WC_seq ?_; have hS := hS.keep (below_drew _); have hO := hO.below (below_drew _)
       refine WC_regionD mixedO (fun _ w => Sat G41 w ∧ True) (.fl 0 (.fl 1 (.fl 2 (.fl 3 (.fl 4 (.fl 5 (.on 6 (.on 7 (.on 8 (.on 9 .nil)))))))))) (by kernel_rfl) rfl (by kernel_rfl) (fun _ => ⟨hS.sat, trivial⟩) ?_
       refine WD_val rfl (fun w hw => rn_fld fd45_2 rfl) rfl ?_; refine WD_val rfl (fun w hw => rn_load na43 rfl ((hw.1.le l2_4).cell (hcb10 2 _ rfl))) rfl ?_; refine WD_val rfl (fun w hw => rn_move (v := (.int .i64 s36)) rfl) rfl ?_; obtain ⟨y43, hy43, H⟩ := bnd H; refine WD_idx rfl sl43 (h6.mono (RSlice_mono RInt_mono) l0_4) hy43 rfl rfl rfl ?_
       rintro b44 o44 _ hcb44 _ ⟨a45, n45, c45, ⟨⟩, h45⟩
       refine WD_val rfl (fun w hw => rn_load na22 rfl (hw.1.cell (hcb44 0 _ rfl))) rfl ?_; refine WD_val rfl (fun w hw => rn_len sl22 rfl rfl h45.1) rfl ?_; refine WD_op rfl rfl (OpP_val (rn_fld fd42_0 rfl) rfl ?_); refine ⟨fun _ _ => ⟨hS.sat, trivial⟩, ?_⟩
       have l1_4 := leG12.trans l2_4
       refine WD_op rfl rfl (OpP_val (rn_load na22 rfl ((hS.sat.le l1_4).cell (hcb7 0 _ rfl))) rfl ?_); refine ⟨fun _ _ => ⟨hS.sat, trivial⟩, ?_⟩; refine WD_op rfl rfl (OpP_val (rn_len sl22 rfl rfl (h1.mono RInt_mono l0_4).1) rfl ?_); refine ⟨fun _ _ => ⟨hS.sat, trivial⟩, ?_⟩; refine WD_op rfl rfl (OpP_val (rn_neq rfl rfl) rfl ?_)
       refine ⟨fun _ h => noneed (by kernel_rfl) h, ?_⟩
       refine WD_nil ?_; refine WC_cond rfl (fun hb46 => ?_) (fun hb46 => ?_)
       ·have H := ifT hb46 H; refine WC_seq ?_; refine WC_region ?_; refine WL_val (rn_assign (v := (.bool false)) rfl) rfl ?_; refine WL_nil ?_; refine WC_ret ?_; have H := Option.some.inj H; subst H
        have hres := hqq38 _ rfl
        subst hres; have H := Hoq38
        have H : some false = some r := H
        have H := Option.some.inj H; subst H
        exact ⟨rfl, hS.below⟩
       ·have H := ifF hb46 H; refine WC_skip ?_; refine WC_seq ?_; refine WC_region ?_; refine WL_val (rn_assign (v := (.int .i64 0)) rfl) rfl ?_; refine WL_nil ?_; obtain ⟨q49, hq49, H⟩ := bnd H; refine WC_cut (fun F w => ∃ (p48 : Unit) (Fb : Fr) (G : Gm), q49 = .inl p48 ∧ F = upds Fb [(1, .int .i64 x1), (3, .pointer (some ⟨b7, 0, none⟩)), (5, .pointer (some ⟨b10, 0, none⟩)), (8, .int .i64 s36)] ∧ Gle G41 G ∧ Since w0.heap.size G0 w0 G w ∧ Owns G w w0.heap.size []) ?_ ?_
        ·refine WC_block (WC_loop hq49 (fun s47 F w => ∃ (Fb : Fr) (G : Gm), F = upds Fb [(1, .int .i64 x1), (3, .pointer (some ⟨b7, 0, none⟩)), (5, .pointer (some ⟨b10, 0, none⟩)), (8, .int .i64 s36), (9, .int .i64 s47)] ∧ Gle G41 G ∧ Since w0.heap.size G0 w0 G w ∧ Owns G w w0.heap.size []) ?_ ?_)
         ·have hO : Owns G41 w40.drew w0.heap.size ([]) := hO
          exact ⟨_, G41, upds_self _ _ ⟨rfl, rfl, rfl, rfl, rfl, trivial⟩, Gle.refl _, hS, hO⟩
         ·rintro s47 F w51 t50 ⟨Fb, G52, rfl, leG52, hS, hO⟩
          intro H1 hqq49
          have Hoq49 := H; have H := H1
          unfold f28_b2 at H
          refine WC_seq ?_; refine WC_seq ?_; refine WC_region ?_; refine WL_val (rn_move (v := (.int .i64 s47)) rfl) rfl ?_; refine WL_val (rn_fld fd45_2 rfl) rfl ?_
          have l2_5 := l2_4.trans leG52
          refine WL_val (rn_load na43 rfl ((hS.sat.le l2_5).cell (hcb10 2 _ rfl))) rfl ?_; refine WL_val (rn_move (v := (.int .i64 s36)) rfl) rfl ?_
          have l0_5 := l0_4.trans leG52
          refine WL_idx sl43 (h6.mono (RSlice_mono RInt_mono) l0_5) hy43 rfl rfl rfl ?_
          rintro b53 o53 _ hcb53 _ ⟨a54, n54, c54, ⟨⟩, h54⟩
          refine WL_val (rn_load na22 rfl (hS.sat.cell (hcb53 0 _ rfl))) rfl ?_; refine WL_val (rn_len sl22 rfl rfl h54.1) rfl ?_; refine WL_val (rn_lss rfl rfl) rfl ?_; refine WL_nil ?_; refine WC_cond rfl (fun hb55 => ?_) (fun hb55 => ?_)
          ·have H := ifT hb55 H; refine WC_skip ?_; refine WC_seq ?_; refine WC_block ?_; refine WC_seq ?_; refine WC_region ?_; refine WL_val (rn_fld fd42_3 rfl) rfl ?_
           have l1_5 := l1_4.trans leG52
           refine WL_val (rn_load na40 rfl ((hS.sat.le l1_5).cell (hcb7 4 _ rfl))) rfl ?_; refine WL_val (rn_move (v := (.int .i64 s36)) rfl) rfl ?_; obtain ⟨y56, hy56, H⟩ := bnd H; refine WL_idx sl40 (h3.mono RTShipLot_mono l0_5) hy56 rfl rfl rfl ?_
           rintro b57 o57 _ hcb57 _ ⟨a58, n58, c58, ⟨⟩, h58⟩
           refine WL_val (rn_fld fd111_0 rfl) rfl ?_; refine WL_val (rn_load na23 rfl (hS.sat.cell (hcb57 0 _ rfl))) rfl ?_; refine WL_val (rn_move (v := (.int .i64 s47)) rfl) rfl ?_; obtain ⟨y59, hy59, H⟩ := bnd H; refine WL_idx sl23 h58 hy59 rfl rfl rfl ?_
           rintro b60 o60 _ hcb60 _ ⟨⟩
           refine WL_val (rn_loadA ag25 (cs := [.int .i64 y59.Low, .int .i64 y59.High]) rfl rfl (fun j v hj => hS.sat.cell (hcb60.drop_take 0 2 j v hj))) rfl ?_
           refine WL_op rfl (OpP_newO (v := fun b => .pointer (some ⟨b, 0, none⟩)) (cs := [.int .i64 0, .int .i64 0]) (e := 25) (by kernel_rfl) hS.sat hO rfl 2 1 rfl (by decide) (fun b61 w62 hb hO => ?_))
           have hS := hS.keep hb; refine WL_op rfl (OpP_store (vs := [.int .i64 y59.Low, .int .i64 y59.High]) sz25 hS hO (k := 0) rfl rfl rfl rfl rfl (one_all rfl) (Nat.le_of_ble_eq_true rfl) (fun w64 hS hO => ?_))
           have hO : Owns G52 w64 w0.heap.size ([⟨25, 2, 1, .slice (some ⟨b61, 0, none⟩) 1 1, [.int .i64 y59.Low, .int .i64 y59.High]⟩]) := hO
           obtain ⟨G65, leG65, hS, hO, hqG65, _⟩ := hO.freeze hS (k := 0) rfl
           have hcG65 : Cells G65 b61 0 [.int .i64 y59.Low, .int .i64 y59.High] := (hqG65 _ _ _ _ rfl)
           refine WL_nil ?_; refine WC_seq ?_; have hS := hS.keep (below_drew _); have hO := hO.below (below_drew _)
           refine WC_regionD mixedO (fun _ w => Sat G65 w ∧ True) (.fl 0 (.fl 1 (.fl 2 (.fl 3 (.fl 4 (.fl 5 (.fl 6 (.fl 7 (.fl 8 (.fl 9 (.on 10 (.on 11 (.on 12 (.on 13 .nil)))))))))))))) (by kernel_rfl) rfl (by kernel_rfl) (fun _ => ⟨hS.sat, trivial⟩) ?_
           refine WD_val rfl (fun w hw => rn_fld fd45_2 rfl) rfl ?_; refine WD_val rfl (fun w hw => rn_load na43 rfl ((hw.1.le (l2_5.trans leG65)).cell (hcb10 2 _ rfl))) rfl ?_; refine WD_val rfl (fun w hw => rn_move (v := (.int .i64 s36)) rfl) rfl ?_
           have l0_6 := l0_5.trans leG65
           refine WD_idx rfl sl43 (h6.mono (RSlice_mono RInt_mono) l0_6) hy43 rfl rfl rfl ?_
           rintro b66 o66 _ hcb66 _ ⟨a67, n67, c67, ⟨⟩, h67⟩
           refine WD_val rfl (fun w hw => rn_load na22 rfl (hw.1.cell (hcb66 0 _ rfl))) rfl ?_; refine WD_val rfl (fun w hw => rn_move (v := (.int .i64 s47)) rfl) rfl ?_; obtain ⟨y68, hy68, H⟩ := bnd H; refine WD_idx rfl sl22 h67 hy68 rfl rfl rfl ?_
           rintro b69 o69 _ hcb69 _ ⟨⟩
           refine WD_val rfl (fun w hw => rn_load na3 rfl (hw.1.cell (hcb69 0 _ rfl))) rfl ?_; refine WD_val rfl (fun w hw => rn_fld fd25_0 rfl) rfl ?_; refine WD_val rfl (fun w hw => rn_load na3 rfl (hw.1.cell (hcG65 0 _ rfl))) rfl ?_; refine WD_op rfl rfl (OpP_val (rn_fld fd25_1 rfl) rfl ?_); refine ⟨fun _ _ => ⟨hS.sat, trivial⟩, ?_⟩; refine WD_op rfl rfl (OpP_val (rn_load na3 rfl (hS.sat.cell (hcG65 1 _ rfl))) rfl ?_); refine ⟨fun _ _ => ⟨hS.sat, trivial⟩, ?_⟩; obtain ⟨y70, hy70, H⟩ := bnd H; refine WD_op rfl rfl (OpP_callV cb65 (f65_ok (x0 := y68) (x1 := y59.Low) (x2 := y59.High) hS.sat  hy70) rfl rfl (fun w71 hb => ?_)); have hS := hS.keep hb; have hO := hO.below hb
           refine ⟨fun _ h => noneed (by kernel_rfl) h, ?_⟩
           refine WD_op rfl rfl (OpP_val (rn_not rfl) rfl ?_)
           refine ⟨fun _ h => noneed (by kernel_rfl) h, ?_⟩
           refine WD_nil ?_; refine WC_cond rfl (fun hb72 => ?_) (fun hb72 => ?_)
           ·have H := ifT hb72 H; refine WC_seq ?_; refine WC_region ?_; refine WL_val (rn_assign (v := (.bool false)) rfl) rfl ?_; refine WL_nil ?_; refine WC_ret ?_; have H := Option.some.inj H; subst H
            have hres := hqq49 _ rfl
            subst hres; have H := Hoq49; have H := Option.some.inj H; subst H
            have hres := hqq38 _ rfl
            subst hres; have H := Hoq38
            have H : some false = some r := H
            have H := Option.some.inj H; subst H
            exact ⟨rfl, hS.below⟩
           ·have H := ifF hb72 H; refine WC_skip ?_; refine WC_region ?_; refine WL_val (rn_move (v := (.int .i64 s47)) rfl) rfl ?_; refine WL_val (rn_add rfl rfl) rfl ?_; refine WL_val (rn_assign (v := (.int .i64 (IntKind.i64.wrap (s47 + 1)))) rfl) rfl ?_; refine WL_nil ?_
            have hO : Owns G65 w71 w0.heap.size ([]) := hO
            have H := Option.some.inj H; subst H; refine ⟨_, rfl, ?_⟩
            have l4_6 := leG52.trans leG65
            exact ⟨_, G65, upds_self _ _ ⟨rfl, rfl, rfl, rfl, rfl, trivial⟩, l4_6, hS, hO⟩
          ·have H := ifF hb55 H; refine WC_exit rfl ?_
           have hO : Owns G52 w51 w0.heap.size ([]) := hO
           have H := Option.some.inj H; subst H
           have hres := hqq49 _ rfl
           subst hres
           exact ⟨_, _, G52, rfl, upds_self _ _ ⟨rfl, rfl, rfl, rfl, trivial⟩, leG52, hS, hO⟩
        ·rintro F w73 ⟨p48, Fb, G74, rfl, rfl, leG74, hS, hO⟩
         refine WC_region ?_; refine WL_val (rn_move (v := (.int .i64 s36)) rfl) rfl ?_; refine WL_val (rn_add rfl rfl) rfl ?_; refine WL_val (rn_assign (v := (.int .i64 (IntKind.i64.wrap (s36 + 1)))) rfl) rfl ?_; refine WL_nil ?_
         have hO : Owns G74 w73 w0.heap.size ([]) := hO
         have H := Option.some.inj H; subst H; refine ⟨_, rfl, ?_⟩
         have l3_5 := leG41.trans leG74
         exact ⟨_, G74, upds_self _ _ ⟨rfl, rfl, rfl, rfl, trivial⟩, l3_5, hS, hO⟩
      ·have H := ifF hb42 H; refine WC_exit rfl ?_
       have hO : Owns G41 w40 w0.heap.size ([]) := hO
       have H := Option.some.inj H; subst H
       have hres := hqq38 _ rfl
       subst hres
       exact ⟨_, _, G41, rfl, upds_self _ _ ⟨rfl, rfl, rfl, trivial⟩, leG41, hS, hO⟩
    ·rintro F w76 ⟨p37, Fb, G77, rfl, rfl, leG77, hS, hO⟩
     refine WC_seq ?_; refine WC_region ?_; refine WL_val (rn_assign (v := (.int .i64 0)) rfl) rfl ?_; refine WL_nil ?_; refine WC_seq ?_; refine WC_seq ?_; refine WC_region ?_; refine WL_val (rn_assign (v := (.int .i64 0)) rfl) rfl ?_; refine WL_nil ?_; obtain ⟨q80, hq80, H⟩ := bnd H; refine WC_cut (fun F w => ∃ (p79 : Int) (Fb : Fr) (G : Gm), q80 = .inl p79 ∧ F = upds Fb [(1, .int .i64 x1), (11, .int .i64 p79)] ∧ Gle G77 G ∧ Since w0.heap.size G0 w0 G w ∧ Owns G w w0.heap.size []) ?_ ?_
     ·refine WC_block (WC_loop hq80 (fun s78 F w => ∃ (Fb : Fr) (G : Gm), F = upds Fb [(1, .int .i64 x1), (3, .pointer (some ⟨b7, 0, none⟩)), (5, .pointer (some ⟨b10, 0, none⟩)), (11, .int .i64 s78.1), (12, .int .i64 s78.2)] ∧ Gle G77 G ∧ Since w0.heap.size G0 w0 G w ∧ Owns G w w0.heap.size []) ?_ ?_)
      ·have hO : Owns G77 w76 w0.heap.size ([]) := hO
       exact ⟨_, G77, upds_self _ _ ⟨rfl, rfl, rfl, rfl, rfl, trivial⟩, Gle.refl _, hS, hO⟩
      ·rintro s78 F w82 t81 ⟨Fb, G83, rfl, leG83, hS, hO⟩
       intro H1 hqq80
       have Hoq80 := H; have H := H1
       unfold f28_b3 at H
       refine WC_seq ?_; refine WC_seq ?_; refine WC_region ?_; refine WL_val (rn_move (v := (.int .i64 s78.2)) rfl) rfl ?_; refine WL_val (rn_fld fd45_1 rfl) rfl ?_
       have l2_5 := (leG35.trans leG77).trans leG83
       refine WL_val (rn_load na22 rfl ((hS.sat.le l2_5).cell (hcb10 1 _ rfl))) rfl ?_
       have l0_5 := (leG9.trans leG12).trans l2_5
       refine WL_val (rn_len sl22 rfl rfl (h5.mono RInt_mono l0_5).1) rfl ?_; refine WL_val (rn_lss rfl rfl) rfl ?_; refine WL_nil ?_; refine WC_cond rfl (fun hb84 => ?_) (fun hb84 => ?_)
       ·have H := ifT hb84 H; refine WC_skip ?_; refine WC_seq ?_; refine WC_block ?_; refine WC_seq ?_; refine WC_seq ?_; have hS := hS.keep (below_drew _); have hO := hO.below (below_drew _)
        refine WC_regionD mixedO (fun _ w => Sat G83 w ∧ True) (.fl 0 (.fl 1 (.fl 2 (.fl 3 (.fl 4 (.fl 5 (.fl 6 (.fl 7 (.on 8 (.on 9 (.on 10 (.on 11 (.on 12 .nil))))))))))))) (by kernel_rfl) rfl (by kernel_rfl) (fun _ => ⟨hS.sat, trivial⟩) ?_
        refine WD_val rfl (fun w hw => rn_fld fd45_1 rfl) rfl ?_; refine WD_val rfl (fun w hw => rn_load na22 rfl ((hw.1.le l2_5).cell (hcb10 1 _ rfl))) rfl ?_; refine WD_val rfl (fun w hw => rn_move (v := (.int .i64 s78.2)) rfl) rfl ?_; obtain ⟨y85, hy85, H⟩ := bnd H; refine WD_idx rfl sl22 (h5.mono RInt_mono l0_5) hy85 rfl rfl rfl ?_
        rintro b86 o86 _ hcb86 _ ⟨⟩
        refine WD_val rfl (fun w hw => rn_load na3 rfl (hw.1.cell (hcb86 0 _ rfl))) rfl ?_; refine WD_val rfl (fun w hw => rn_fld fd42_2 rfl) rfl ?_; refine WD_val rfl (fun w hw => rn_fld fd25_0 rfl) rfl ?_; refine WD_val rfl (fun w hw => rn_load na3 rfl ((hw.1.le (leG12.trans l2_5)).cell (hcb7 2 _ rfl))) rfl ?_; refine WD_op rfl rfl (OpP_val (rn_fld fd42_2 rfl) rfl ?_); refine ⟨fun _ _ => ⟨hS.sat, trivial⟩, ?_⟩; refine WD_op rfl rfl (OpP_val (rn_fld fd25_1 rfl) rfl ?_); refine ⟨fun _ _ => ⟨hS.sat, trivial⟩, ?_⟩
        have l1_5 := leG12.trans l2_5
        refine WD_op rfl rfl (OpP_val (rn_load na3 rfl ((hS.sat.le l1_5).cell (hcb7 3 _ rfl))) rfl ?_); refine ⟨fun _ _ => ⟨hS.sat, trivial⟩, ?_⟩; obtain ⟨y87, hy87, H⟩ := bnd H; refine WD_op rfl rfl (OpP_callV cb65 (f65_ok (x0 := y85) (x1 := x0.Gap.Low) (x2 := x0.Gap.High) hS.sat  hy87) rfl rfl (fun w88 hb => ?_)); have hS := hS.keep hb; have hO := hO.below hb
        refine ⟨fun _ h => noneed (by kernel_rfl) h, ?_⟩
        refine WD_op rfl rfl (OpP_val (rn_not rfl) rfl ?_)
        refine ⟨fun _ h => noneed (by kernel_rfl) h, ?_⟩
        refine WD_nil ?_; refine WC_cond rfl (fun hb89 => ?_) (fun hb89 => ?_)
        ·have H := ifT hb89 H; refine WC_seq ?_; refine WC_region ?_; refine WL_val (rn_assign (v := (.bool false)) rfl) rfl ?_; refine WL_nil ?_; refine WC_ret ?_; have H := Option.some.inj H; subst H
         have hres := hqq80 _ rfl
         subst hres; have H := Hoq80
         have H : some false = some r := H
         have H := Option.some.inj H; subst H
         exact ⟨rfl, hS.below⟩
        ·have H := ifF hb89 H; refine WC_skip ?_; refine WC_region ?_; refine WL_val (rn_move (v := (.int .i64 s78.1)) rfl) rfl ?_; refine WL_val (rn_fld fd45_1 rfl) rfl ?_; refine WL_val (rn_load na22 rfl ((hS.sat.le l2_5).cell (hcb10 1 _ rfl))) rfl ?_; refine WL_val (rn_move (v := (.int .i64 s78.2)) rfl) rfl ?_; refine WL_idx sl22 (h5.mono RInt_mono l0_5) hy85 rfl rfl rfl ?_
         rintro b90 o90 _ hcb90 _ ⟨⟩
         refine WL_val (rn_load na3 rfl (hS.sat.cell (hcb90 0 _ rfl))) rfl ?_; refine WL_val (rn_add rfl rfl) rfl ?_; refine WL_val (rn_assign (v := (.int .i64 (IntKind.i64.wrap (s78.1 + y85)))) rfl) rfl ?_; refine WL_nil ?_; refine WC_region ?_; refine WL_val (rn_move (v := (.int .i64 s78.2)) rfl) rfl ?_; refine WL_val (rn_add rfl rfl) rfl ?_; refine WL_val (rn_assign (v := (.int .i64 (IntKind.i64.wrap (s78.2 + 1)))) rfl) rfl ?_; refine WL_nil ?_
         have hO : Owns G83 w88 w0.heap.size ([]) := hO
         have H := Option.some.inj H; subst H; refine ⟨_, rfl, ?_⟩
         exact ⟨_, G83, upds_self _ _ ⟨rfl, rfl, rfl, rfl, rfl, trivial⟩, leG83, hS, hO⟩
       ·have H := ifF hb84 H; refine WC_exit rfl ?_
        have hO : Owns G83 w82 w0.heap.size ([]) := hO
        have H := Option.some.inj H; subst H
        have hres := hqq80 _ rfl
        subst hres
        exact ⟨_, _, G83, rfl, upds_self _ _ ⟨rfl, rfl, trivial⟩, leG83, hS, hO⟩
     ·rintro F w91 ⟨p79, Fb, G92, rfl, rfl, leG92, hS, hO⟩
      refine WC_seq ?_; refine WC_region ?_; refine WL_val (rn_move (v := (.int .i64 p79)) rfl) rfl ?_; refine WL_val (rn_move (v := (.int .i64 x1)) rfl) rfl ?_; refine WL_val (rn_geq rfl rfl) rfl ?_; refine WL_val (rn_assign (v := (.bool (decide (x1 ≤ p79)))) rfl) rfl ?_; refine WL_nil ?_; refine WC_ret ?_
      have H : some (decide (x1 ≤ p79)) = some r := H
      have H := Option.some.inj H; subst H
      exact ⟨rfl, hS.below⟩
set_option maxHeartbeats 1000000 in
theorem f40_ok {G0 : Gm} {w0 : World} (hS0 : Sat G0 w0) {x0 : TShipStore} {a1 : Option Addr} {n1 c1 : Nat} {a2 : Option Addr} {n2 c2 : Nat} {a3 : Option Addr} {n3 c3 : Nat} {x1 : (List Int)} {a4 : Option Addr} {n4 c4 : Nat} (h1 : RSl RInt 1 G0 a1 n1 c1 x0.Stock) (h2 : RSl RTSpan 2 G0 a2 n2 c2 x0.Use) (h3 : RSl RTShipLot 3 G0 a3 n3 c3 x0.Lots) (h4 : RSl RInt 1 G0 a4 n4 c4 x1) {r : Int} (H : f40 x0 x1 = some r) :
  Calls Try.prog 40 #[.agg #[.slice a1 n1 c1, .slice a2 n2 c2, .int .i64 x0.Gap.Low, .int .i64 x0.Gap.High, .slice a3 n3 c3, .int .i64 x0.Hold], .slice a4 n4 c4] w0 (RetV w0 (.int .i64 r)) := by
 have hS := Since.start hS0
 have hO : Owns G0 w0 w0.heap.size [] := Owns.nil (Nat.le_refl _)
 unfold f40 at H
 refine enter1 (N := 25) (shutV _ _) Try.func40 rfl rfl rfl rfl ?_; refine WC_seq ?_; refine WC_region ?_; refine WL_op rfl (OpP_newF (v := fun b => .pointer (some ⟨b, 0, none⟩)) (cs := [.slice a1 n1 c1, .slice a2 n2 c2, .int .i64 x0.Gap.Low, .int .i64 x0.Gap.High, .slice a3 n3 c3, .int .i64 x0.Hold]) (e := 42) (rn_boxA rfl) hS.sat rfl (fun b5 G7 w6 hg hcb5 => ?_)); have hS := hS.grow hg; have hO := hO.grow hg
 have leG7 := hg.le
 refine WL_val (rn_assign (v := (.int .i64 0)) rfl) rfl ?_; refine WL_nil ?_; refine WC_seq ?_; refine WC_region ?_; refine WL_val (rn_assign (v := (.int .i64 0)) rfl) rfl ?_; refine WL_nil ?_; refine WC_seq ?_; refine WC_seq ?_; refine WC_region ?_; refine WL_val (rn_assign (v := (.int .i64 0)) rfl) rfl ?_; refine WL_nil ?_; obtain ⟨q10, hq10, H⟩ := bnd H; refine WC_cut (fun F w => ∃ (Fb : Fr) (G : Gm), F = upds Fb [(5, .int .i64 q10)] ∧ Gle G7 G ∧ Since w0.heap.size G0 w0 G w ∧ Owns G w w0.heap.size []) ?_ ?_
 ·refine WC_block (WC_loop hq10 (fun s8 F w => ∃ (Fb : Fr) (G : Gm), F = upds Fb [(1, .slice a4 n4 c4), (2, .pointer (some ⟨b5, 0, none⟩)), (5, .int .i64 s8.1), (6, .int .i64 s8.2)] ∧ Gle G7 G ∧ Since w0.heap.size G0 w0 G w ∧ Owns G w w0.heap.size []) ?_ ?_)
  ·have hO : Owns G7 w6 w0.heap.size ([]) := hO
   exact ⟨_, G7, upds_self _ _ ⟨rfl, rfl, rfl, rfl, trivial⟩, Gle.refl _, hS, hO⟩
  ·rintro s8 F w12 t11 ⟨Fb, G13, rfl, leG13, hS, hO⟩
   intro H1 hqq10
   have Hoq10 := H; have H := H1
   unfold f40_b0 at H
   refine WC_seq ?_; refine WC_seq ?_; refine WC_region ?_; refine WL_val (rn_move (v := (.int .i64 s8.2)) rfl) rfl ?_; refine WL_val (rn_move (v := (.slice a4 n4 c4)) rfl) rfl ?_
   have l0_2 := leG7.trans leG13
   refine WL_val (rn_len sl22 rfl rfl (h4.mono RInt_mono l0_2).1) rfl ?_; refine WL_val (rn_lss rfl rfl) rfl ?_; refine WL_nil ?_; refine WC_cond rfl (fun hb14 => ?_) (fun hb14 => ?_)
   ·have H := ifT hb14 H; refine WC_skip ?_; refine WC_seq ?_; refine WC_block ?_; have hS := hS.keep (below_drew _); have hO := hO.below (below_drew _)
    refine WC_regionD mixedO (fun _ w => Sat G13 w ∧ True) (.fl 0 (.fl 1 (.fl 2 (.fl 3 (.on 4 (.on 5 (.on 6 (.on 7 (.on 8 (.on 9 (.on 10 (.on 11 .nil)))))))))))) (by kernel_rfl) rfl (by kernel_rfl) (fun _ => ⟨hS.sat, trivial⟩) ?_
    refine WD_val rfl (fun w hw => rn_move (v := (.int .i64 s8.1)) rfl) rfl ?_; refine WD_val rfl (fun w hw => rn_fld fd42_3 rfl) rfl ?_; refine WD_val rfl (fun w hw => rn_load na40 rfl ((hw.1.le leG13).cell (hcb5 4 _ rfl))) rfl ?_; refine WD_val rfl (fun w hw => rn_move (v := (.slice a4 n4 c4)) rfl) rfl ?_; refine WD_op rfl rfl (OpP_val (rn_move (v := (.int .i64 s8.2)) rfl) rfl ?_); refine ⟨fun _ _ => ⟨hS.sat, trivial⟩, ?_⟩; obtain ⟨y15, hy15, H⟩ := bnd H; refine WD_op rfl rfl (OpP_idx sl22 (h4.mono RInt_mono l0_2) hy15 rfl rfl rfl ?_)
    rintro b16 o16 _ hcb16 _ ⟨⟩
    refine ⟨fun _ _ => ⟨hS.sat, trivial⟩, ?_⟩; refine WD_op rfl rfl (OpP_val (rn_load na3 rfl (hS.sat.cell (hcb16 0 _ rfl))) rfl ?_); refine ⟨fun _ _ => ⟨hS.sat, trivial⟩, ?_⟩; obtain ⟨y17, hy17, H⟩ := bnd H; refine WD_op rfl rfl (OpP_idx sl40 (h3.mono RTShipLot_mono l0_2) hy17 rfl rfl rfl ?_)
    rintro b18 o18 _ hcb18 _ ⟨a19, n19, c19, ⟨⟩, h19⟩
    refine ⟨fun _ _ => ⟨hS.sat, trivial⟩, ?_⟩; refine WD_op rfl rfl (OpP_val (rn_fld fd111_2 rfl) rfl ?_); refine ⟨fun _ _ => ⟨hS.sat, trivial⟩, ?_⟩; refine WD_op rfl rfl (OpP_val (rn_load na3 rfl (hS.sat.cell (hcb18 2 _ rfl))) rfl ?_); refine ⟨fun _ _ => ⟨hS.sat, trivial⟩, ?_⟩; refine WD_op rfl rfl (OpP_val (rn_add rfl rfl) rfl ?_)
    refine ⟨fun _ h => noneed (by kernel_rfl) h, ?_⟩
    refine WD_op rfl rfl (OpP_val (rn_assign (v := (.int .i64 (IntKind.i64.wrap (s8.1 + y17.Cost)))) rfl) rfl ?_)
    refine ⟨fun _ h => noneed (by kernel_rfl) h, ?_⟩
    refine WD_nil ?_; refine WC_region ?_; refine WL_val (rn_move (v := (.int .i64 s8.2)) rfl) rfl ?_; refine WL_val (rn_add rfl rfl) rfl ?_; refine WL_val (rn_assign (v := (.int .i64 (IntKind.i64.wrap (s8.2 + 1)))) rfl) rfl ?_; refine WL_nil ?_
    have hO : Owns G13 w12.drew w0.heap.size ([]) := hO
    have H := Option.some.inj H; subst H; refine ⟨_, rfl, ?_⟩
    exact ⟨_, G13, upds_self _ _ ⟨rfl, rfl, rfl, rfl, trivial⟩, leG13, hS, hO⟩
   ·have H := ifF hb14 H; refine WC_exit rfl ?_
    have hO : Owns G13 w12 w0.heap.size ([]) := hO
    have H := Option.some.inj H; subst H
    have hres := hqq10 _ rfl
    subst hres
    exact ⟨_, G13, upds_self _ _ ⟨rfl, trivial⟩, leG13, hS, hO⟩
 ·rintro F w20 ⟨Fb, G21, rfl, leG21, hS, hO⟩
  refine WC_seq ?_; refine WC_region ?_; refine WL_val (rn_move (v := (.int .i64 q10)) rfl) rfl ?_; refine WL_val (rn_assign (v := (.int .i64 q10)) rfl) rfl ?_; refine WL_nil ?_; refine WC_ret ?_
  have H : some q10 = some r := H
  have H := Option.some.inj H; subst H
  exact ⟨rfl, hS.below⟩
set_option maxHeartbeats 1000000 in
theorem f41_ok {G0 : Gm} {w0 : World} (hS0 : Sat G0 w0) {x0 : TShipStore} {a1 : Option Addr} {n1 c1 : Nat} {a2 : Option Addr} {n2 c2 : Nat} {a3 : Option Addr} {n3 c3 : Nat} {x1 : (List Int)} {a4 : Option Addr} {n4 c4 : Nat} {x2 : Int} (h1 : RSl RInt 1 G0 a1 n1 c1 x0.Stock) (h2 : RSl RTSpan 2 G0 a2 n2 c2 x0.Use) (h3 : RSl RTShipLot 3 G0 a3 n3 c3 x0.Lots) (h4 : RSl RInt 1 G0 a4 n4 c4 x1) {r : Bool × Bool} (H : f41 x0 x1 x2 = some r) :
  Calls Try.prog 41 #[.agg #[.slice a1 n1 c1, .slice a2 n2 c2, .int .i64 x0.Gap.Low, .int .i64 x0.Gap.High, .slice a3 n3 c3, .int .i64 x0.Hold], .slice a4 n4 c4, .int .i64 x2] w0 (RetV w0 (.tuple #[.bool r.1, .bool r.2])) := by
 have hS := Since.start hS0
 have hO : Owns G0 w0 w0.heap.size [] := Owns.nil (Nat.le_refl _)
 unfold f41 at H
 refine enter2 (N := 40) (shutV _ _) Try.func41 rfl rfl rfl rfl ?_; refine WC_seq ?_; refine WC_region ?_; refine WL_op rfl (OpP_newF (v := fun b => .pointer (some ⟨b, 0, none⟩)) (cs := [.slice a1 n1 c1, .slice a2 n2 c2, .int .i64 x0.Gap.Low, .int .i64 x0.Gap.High, .slice a3 n3 c3, .int .i64 x0.Hold]) (e := 42) (rn_boxA rfl) hS.sat rfl (fun b5 G7 w6 hg hcb5 => ?_)); have hS := hS.grow hg; have hO := hO.grow hg
 have leG7 := hg.le
 refine WL_val (rn_assign (v := (.bool false)) rfl) rfl ?_; refine WL_val (rn_assign (v := (.bool false)) rfl) rfl ?_; refine WL_nil ?_; refine WC_seq ?_; refine WC_region ?_; refine WL_val (rn_loadA ag42 (cs := [.slice a1 n1 c1, .slice a2 n2 c2, .int .i64 x0.Gap.Low, .int .i64 x0.Gap.High, .slice a3 n3 c3, .int .i64 x0.Hold]) rfl rfl (fun j v hj => hS.sat.cell (hcb5.drop_take 0 6 j v hj))) rfl ?_; refine WL_val (rn_move (v := (.slice a4 n4 c4)) rfl) rfl ?_; refine WL_val (rn_move (v := (.int .i64 x2)) rfl) rfl ?_; obtain ⟨y8, hy8, H⟩ := bnd H; refine WL_op rfl (OpP_callG cb30 (f30_ok (x0 := x0) (x1 := x1) (x2 := x2) hS.sat (h1.mono RInt_mono leG7) (h2.mono RTSpan_mono leG7) (h3.mono RTShipLot_mono leG7) (h4.mono RInt_mono leG7) hy8) rfl rfl (fun vy8 G10 w9 hg hvy8 => ?_)); obtain ⟨a11, n11, c11, ⟨⟩, h11⟩ := hvy8; have hS := hS.grow hg; have hO := hO.grow hg
 have leG10 := hg.le
 refine WL_val (rn_move (v := (.tuple #[.slice a11 n11 c11, .int .i64 y8.2])) rfl) rfl ?_; refine WL_val (rn_extract (v := (.slice a11 n11 c11)) rfl rfl) rfl ?_; refine WL_val (rn_extract (v := (.int .i64 y8.2)) rfl rfl) rfl ?_; refine WL_val (rn_assign (v := (.slice a11 n11 c11)) rfl) rfl ?_; refine WL_val (rn_assign (v := (.int .i64 y8.2)) rfl) rfl ?_; refine WL_nil ?_; refine WC_seq ?_; refine WC_seq ?_; obtain ⟨q12, hq12, H⟩ := bnd H; refine WC_cut (fun F w => ∃ (Fb : Fr), F = upds Fb [(8, .slice a11 n11 c11), (27, .bool q12)] ∧ w9 = w) ?_ ?_
 ·have Hoq12 := H; have H := hq12; refine WC_region ?_; refine WL_val (rn_move (v := (.int .i64 y8.2)) rfl) rfl ?_; refine WL_val (rn_neq rfl rfl) rfl ?_; refine WL_val (rn_move (v := (.bool (y8.2 != 0))) rfl) rfl ?_
  rcases bcases (y8.2 != 0) with hb13 | hb13
  ·have H := ifT hb13 H; refine WL_guardN rfl hb13 rfl rfl rfl ?_; refine WL_guardN rfl hb13 rfl rfl rfl ?_; refine WL_guardN rfl hb13 rfl rfl rfl ?_; refine WL_guardN rfl hb13 rfl rfl rfl ?_; refine WL_guardN rfl hb13 rfl rfl rfl ?_; refine WL_guardN rfl hb13 rfl rfl rfl ?_; refine WL_val (rn_pickT (v := (.bool true)) rfl hb13 rfl) rfl ?_; refine WL_nil ?_; have H := Option.some.inj H; subst H
   exact ⟨_, upds_self _ _ ⟨rfl, rfl, trivial⟩, rfl⟩
  ·have H := ifF hb13 H; refine WL_guardY rfl hb13 rfl rfl ?_; refine WL_val (rn_move (v := (.slice a11 n11 c11)) rfl) rfl ?_; refine WL_guardY rfl hb13 rfl rfl ?_; refine WL_val (rn_len sl55 rfl rfl h11.1) rfl ?_; refine WL_guardY rfl hb13 rfl rfl ?_; refine WL_val (rn_fld fd42_0 rfl) rfl ?_; refine WL_guardY rfl hb13 rfl rfl ?_; refine WL_val (rn_load na22 rfl ((hS.sat.le leG10).cell (hcb5 0 _ rfl))) rfl ?_; refine WL_guardY rfl hb13 rfl rfl ?_
   have l0_2 := leG7.trans leG10
   refine WL_val (rn_len sl22 rfl rfl (h1.mono RInt_mono l0_2).1) rfl ?_; refine WL_guardY rfl hb13 rfl rfl ?_; refine WL_val (rn_neq rfl rfl) rfl ?_; refine WL_val (rn_pickF (v := (.bool ((y8.1.length : Int) != (x0.Stock.length : Int)))) rfl hb13 rfl) rfl ?_; refine WL_nil ?_; have H := Option.some.inj H; subst H
   exact ⟨_, upds_self _ _ ⟨rfl, rfl, trivial⟩, rfl⟩
 ·rintro F wl ⟨Fb, rfl, rfl⟩
  refine WC_cond rfl (fun hb16 => ?_) (fun hb16 => ?_)
  ·have H := ifT hb16 H; refine WC_seq ?_; refine WC_region ?_; refine WL_val (rn_assign (v := (.bool false)) rfl) rfl ?_; refine WL_val (rn_assign (v := (.bool false)) rfl) rfl ?_; refine WL_nil ?_; refine WC_ret ?_
   have H : some (false, false) = some r := H
   have H := Option.some.inj H; subst H
   exact ⟨rfl, hS.below⟩
  ·have H := ifF hb16 H; refine WC_skip ?_; refine WC_seq ?_; refine WC_seq ?_; refine WC_region ?_; refine WL_val (rn_assign (v := (.int .i64 0)) rfl) rfl ?_; refine WL_nil ?_; obtain ⟨q19, hq19, H⟩ := bnd H; refine WC_cut (fun F w => ∃ (p18 : Unit) (Fb : Fr), q19 = .inl p18 ∧ F = upds Fb [] ∧ w9 = w) ?_ ?_
   ·refine WC_block (WC_loop hq19 (fun s17 F w => ∃ (Fb : Fr), F = upds Fb [(8, .slice a11 n11 c11), (10, .int .i64 s17)] ∧ w9 = w) ?_ ?_)
    ·exact ⟨_, upds_self _ _ ⟨rfl, rfl, trivial⟩, rfl⟩
    ·rintro s17 F wl t20 ⟨Fb, rfl, rfl⟩
     intro H1 hqq19
     have Hoq19 := H; have H := H1
     unfold f41_b0 at H
     refine WC_seq ?_; refine WC_seq ?_; refine WC_region ?_; refine WL_val (rn_move (v := (.int .i64 s17)) rfl) rfl ?_; refine WL_val (rn_move (v := (.slice a11 n11 c11)) rfl) rfl ?_; refine WL_val (rn_len sl55 rfl rfl h11.1) rfl ?_; refine WL_val (rn_lss rfl rfl) rfl ?_; refine WL_nil ?_; refine WC_cond rfl (fun hb23 => ?_) (fun hb23 => ?_)
     ·have H := ifT hb23 H; refine WC_skip ?_; refine WC_seq ?_; refine WC_block ?_; refine WC_seq ?_; refine WC_region ?_; refine WL_val (rn_move (v := (.slice a11 n11 c11)) rfl) rfl ?_; refine WL_val (rn_move (v := (.int .i64 s17)) rfl) rfl ?_; obtain ⟨y24, hy24, H⟩ := bnd H; refine WL_idx sl55 h11 hy24 rfl rfl rfl ?_
      rintro b25 o25 _ hcb25 _ ⟨⟩
      refine WL_val (rn_fld fd59_0 rfl) rfl ?_; refine WL_val (rn_load na3 rfl (hS.sat.cell (hcb25 0 _ rfl))) rfl ?_; refine WL_val (rn_neq rfl rfl) rfl ?_; refine WL_nil ?_; refine WC_cond rfl (fun hb26 => ?_) (fun hb26 => ?_)
      ·have H := ifT hb26 H; refine WC_seq ?_; refine WC_region ?_; refine WL_val (rn_assign (v := (.bool false)) rfl) rfl ?_; refine WL_val (rn_assign (v := (.bool true)) rfl) rfl ?_; refine WL_nil ?_; refine WC_ret ?_; have H := Option.some.inj H; subst H
       have hres := hqq19 _ rfl
       subst hres; have H := Hoq19
       have H : some (false, true) = some r := H
       have H := Option.some.inj H; subst H
       exact ⟨rfl, hS.below⟩
      ·have H := ifF hb26 H; refine WC_skip ?_; refine WC_region ?_; refine WL_val (rn_move (v := (.int .i64 s17)) rfl) rfl ?_; refine WL_val (rn_add rfl rfl) rfl ?_; refine WL_val (rn_assign (v := (.int .i64 (IntKind.i64.wrap (s17 + 1)))) rfl) rfl ?_; refine WL_nil ?_; have H := Option.some.inj H; subst H; refine ⟨_, rfl, ?_⟩
       exact ⟨_, upds_self _ _ ⟨rfl, rfl, trivial⟩, rfl⟩
     ·have H := ifF hb23 H; refine WC_exit rfl ?_; have H := Option.some.inj H; subst H
      have hres := hqq19 _ rfl
      subst hres
      exact ⟨_, _, rfl, rfl, rfl⟩
   ·rintro F wl ⟨p18, Fb, rfl, rfl, rfl⟩
    refine WC_seq ?_; refine WC_region ?_; refine WL_val (rn_assign (v := (.bool true)) rfl) rfl ?_; refine WL_val (rn_assign (v := (.bool true)) rfl) rfl ?_; refine WL_nil ?_; refine WC_ret ?_
    have H : some (true, true) = some r := H
    have H := Option.some.inj H; subst H
    exact ⟨rfl, hS.below⟩
set_option maxHeartbeats 1000000 in
theorem f43_ok {G0 : Gm} {w0 : World} (hS0 : Sat G0 w0) {x0 : (List Int)} {a1 : Option Addr} {n1 c1 : Nat} {x1 : (List Int)} {a2 : Option Addr} {n2 c2 : Nat} (h1 : RSl RInt 1 G0 a1 n1 c1 x0) (h2 : RSl RInt 1 G0 a2 n2 c2 x1) {r : Bool} (H : f43 x0 x1 = some r) :
  Calls Try.prog 43 #[.slice a1 n1 c1, .slice a2 n2 c2] w0 (RetV w0 (.bool r)) := by
 have hS := Since.start hS0
 have hO : Owns G0 w0 w0.heap.size [] := Owns.nil (Nat.le_refl _)
 unfold f43 at H
 refine enter1 (N := 41) (shutV _ _) Try.func43 rfl rfl rfl rfl ?_; refine WC_seq ?_; refine WC_region ?_; refine WL_val (rn_assign (v := (.bool false)) rfl) rfl ?_; refine WL_nil ?_; refine WC_seq ?_; refine WC_seq ?_; refine WC_region ?_; refine WL_val (rn_assign (v := (.int .i64 0)) rfl) rfl ?_; refine WL_nil ?_; obtain ⟨q5, hq5, H⟩ := bnd H; refine WC_cut (fun F w => ∃ (p4 : Unit) (Fb : Fr) (G : Gm), q5 = .inl p4 ∧ F = upds Fb [(0, .slice a1 n1 c1), (1, .slice a2 n2 c2)] ∧ Gle G0 G ∧ Since w0.heap.size G0 w0 G w ∧ Owns G w w0.heap.size []) ?_ ?_
 ·refine WC_block (WC_loop hq5 (fun s3 F w => ∃ (Fb : Fr) (G : Gm), F = upds Fb [(0, .slice a1 n1 c1), (1, .slice a2 n2 c2), (5, .int .i64 s3)] ∧ Gle G0 G ∧ Since w0.heap.size G0 w0 G w ∧ Owns G w w0.heap.size []) ?_ ?_)
  ·have hO : Owns G0 w0 w0.heap.size ([]) := hO
   exact ⟨_, G0, upds_self _ _ ⟨rfl, rfl, rfl, trivial⟩, Gle.refl _, hS, hO⟩
  ·rintro s3 F w7 t6 ⟨Fb, G8, rfl, leG8, hS, hO⟩
   intro H1 hqq5
   have Hoq5 := H; have H := H1
   unfold f43_b0 at H
   refine WC_seq ?_; refine WC_seq ?_; obtain ⟨q9, hq9, H⟩ := bnd H; refine WC_cut (fun F w => ∃ (Fb : Fr), F = upds Fb [(0, .slice a1 n1 c1), (1, .slice a2 n2 c2), (5, .int .i64 s3), (15, .bool q9)] ∧ w7 = w) ?_ ?_
   ·have Hoq9 := H; have H := hq9; refine WC_region ?_; refine WL_val (rn_move (v := (.int .i64 s3)) rfl) rfl ?_; refine WL_val (rn_move (v := (.slice a1 n1 c1)) rfl) rfl ?_; refine WL_val (rn_len sl22 rfl rfl (h1.mono RInt_mono leG8).1) rfl ?_; refine WL_val (rn_lss rfl rfl) rfl ?_; refine WL_val (rn_move (v := (.bool (decide (s3 < (x0.length : Int))))) rfl) rfl ?_
    rcases bcases (decide (s3 < (x0.length : Int))) with hb10 | hb10
    ·have H := ifT hb10 H; refine WL_guardY rfl hb10 rfl rfl ?_; refine WL_val (rn_move (v := (.int .i64 s3)) rfl) rfl ?_; refine WL_guardY rfl hb10 rfl rfl ?_; refine WL_val (rn_move (v := (.slice a2 n2 c2)) rfl) rfl ?_; refine WL_guardY rfl hb10 rfl rfl ?_; refine WL_val (rn_len sl22 rfl rfl (h2.mono RInt_mono leG8).1) rfl ?_; refine WL_guardY rfl hb10 rfl rfl ?_; refine WL_val (rn_lss rfl rfl) rfl ?_; refine WL_val (rn_pickT (v := (.bool (decide (s3 < (x1.length : Int))))) rfl hb10 rfl) rfl ?_; refine WL_nil ?_; have H := Option.some.inj H; subst H
     exact ⟨_, upds_self _ _ ⟨rfl, rfl, rfl, rfl, trivial⟩, rfl⟩
    ·have H := ifF hb10 H; refine WL_guardN rfl hb10 rfl rfl rfl ?_; refine WL_guardN rfl hb10 rfl rfl rfl ?_; refine WL_guardN rfl hb10 rfl rfl rfl ?_; refine WL_guardN rfl hb10 rfl rfl rfl ?_; refine WL_val (rn_pickF (v := (.bool false)) rfl hb10 rfl) rfl ?_; refine WL_nil ?_; have H := Option.some.inj H; subst H
     exact ⟨_, upds_self _ _ ⟨rfl, rfl, rfl, rfl, trivial⟩, rfl⟩
   ·rintro F wl ⟨Fb, rfl, rfl⟩
    refine WC_cond rfl (fun hb13 => ?_) (fun hb13 => ?_)
    ·have H := ifT hb13 H; refine WC_skip ?_; refine WC_seq ?_; refine WC_block ?_; refine WC_seq ?_; have hS := hS.keep (below_drew _); have hO := hO.below (below_drew _)
     refine WC_regionD mixedO (fun _ w => Sat G8 w ∧ True) (.fl 0 (.fl 1 (.fl 2 (.fl 3 (.fl 4 (.on 5 (.on 6 (.on 7 (.on 8 .nil))))))))) (by kernel_rfl) rfl (by kernel_rfl) (fun _ => ⟨hS.sat, trivial⟩) ?_
     refine WD_val rfl (fun w hw => rn_move (v := (.slice a1 n1 c1)) rfl) rfl ?_; refine WD_val rfl (fun w hw => rn_move (v := (.int .i64 s3)) rfl) rfl ?_; obtain ⟨y14, hy14, H⟩ := bnd H; refine WD_idx rfl sl22 (h1.mono RInt_mono leG8) hy14 rfl rfl rfl ?_
     rintro b15 o15 _ hcb15 _ ⟨⟩
     refine WD_val rfl (fun w hw => rn_load na3 rfl (hw.1.cell (hcb15 0 _ rfl))) rfl ?_; refine WD_val rfl (fun w hw => rn_move (v := (.slice a2 n2 c2)) rfl) rfl ?_; refine WD_op rfl rfl (OpP_val (rn_move (v := (.int .i64 s3)) rfl) rfl ?_); refine ⟨fun _ _ => ⟨hS.sat, trivial⟩, ?_⟩; obtain ⟨y16, hy16, H⟩ := bnd H; refine WD_op rfl rfl (OpP_idx sl22 (h2.mono RInt_mono leG8) hy16 rfl rfl rfl ?_)
     rintro b17 o17 _ hcb17 _ ⟨⟩
     refine ⟨fun _ _ => ⟨hS.sat, trivial⟩, ?_⟩; refine WD_op rfl rfl (OpP_val (rn_load na3 rfl (hS.sat.cell (hcb17 0 _ rfl))) rfl ?_); refine ⟨fun _ _ => ⟨hS.sat, trivial⟩, ?_⟩; refine WD_op rfl rfl (OpP_val (rn_neq rfl rfl) rfl ?_)
     refine ⟨fun _ h => noneed (by kernel_rfl) h, ?_⟩
     refine WD_nil ?_; refine WC_cond rfl (fun hb18 => ?_) (fun hb18 => ?_)
     ·have H := ifT hb18 H; refine WC_seq ?_; have hS := hS.keep (below_drew _); have hO := hO.below (below_drew _)
      refine WC_regionD mixedO (fun _ w => Sat G8 w ∧ True) (.fl 0 (.fl 1 (.fl 2 (.fl 3 (.fl 4 (.on 5 (.on 6 (.on 7 (.on 8 (.on 9 .nil)))))))))) (by kernel_rfl) rfl (by kernel_rfl) (fun _ => ⟨hS.sat, trivial⟩) ?_
      refine WD_val rfl (fun w hw => rn_move (v := (.slice a1 n1 c1)) rfl) rfl ?_; refine WD_val rfl (fun w hw => rn_move (v := (.int .i64 s3)) rfl) rfl ?_; refine WD_idx rfl sl22 (h1.mono RInt_mono leG8) hy14 rfl rfl rfl ?_
      rintro b19 o19 _ hcb19 _ ⟨⟩
      refine WD_val rfl (fun w hw => rn_load na3 rfl (hw.1.cell (hcb19 0 _ rfl))) rfl ?_; refine WD_val rfl (fun w hw => rn_move (v := (.slice a2 n2 c2)) rfl) rfl ?_; refine WD_op rfl rfl (OpP_val (rn_move (v := (.int .i64 s3)) rfl) rfl ?_); refine ⟨fun _ _ => ⟨hS.sat, trivial⟩, ?_⟩; refine WD_op rfl rfl (OpP_idx sl22 (h2.mono RInt_mono leG8) hy16 rfl rfl rfl ?_)
      rintro b20 o20 _ hcb20 _ ⟨⟩
      refine ⟨fun _ _ => ⟨hS.sat, trivial⟩, ?_⟩; refine WD_op rfl rfl (OpP_val (rn_load na3 rfl (hS.sat.cell (hcb20 0 _ rfl))) rfl ?_); refine ⟨fun _ _ => ⟨hS.sat, trivial⟩, ?_⟩; refine WD_op rfl rfl (OpP_val (rn_lss rfl rfl) rfl ?_)
      refine ⟨fun _ h => noneed (by kernel_rfl) h, ?_⟩
      refine WD_op rfl rfl (OpP_val (rn_assign (v := (.bool (decide (y14 < y16)))) rfl) rfl ?_)
      refine ⟨fun _ h => noneed (by kernel_rfl) h, ?_⟩
      refine WD_nil ?_; refine WC_ret ?_; have H := Option.some.inj H; subst H
      have hres := hqq5 _ rfl
      subst hres; have H := Hoq5
      have H : some (decide (y14 < y16)) = some r := H
      have H := Option.some.inj H; subst H
      exact ⟨rfl, hS.below⟩
     ·have H := ifF hb18 H; refine WC_skip ?_; refine WC_region ?_; refine WL_val (rn_move (v := (.int .i64 s3)) rfl) rfl ?_; refine WL_val (rn_add rfl rfl) rfl ?_; refine WL_val (rn_assign (v := (.int .i64 (IntKind.i64.wrap (s3 + 1)))) rfl) rfl ?_; refine WL_nil ?_
      have hO : Owns G8 w7.drew w0.heap.size ([]) := hO
      have H := Option.some.inj H; subst H; refine ⟨_, rfl, ?_⟩
      exact ⟨_, G8, upds_self _ _ ⟨rfl, rfl, rfl, trivial⟩, leG8, hS, hO⟩
    ·have H := ifF hb13 H; refine WC_exit rfl ?_
     have hO : Owns G8 w7 w0.heap.size ([]) := hO
     have H := Option.some.inj H; subst H
     have hres := hqq5 _ rfl
     subst hres
     exact ⟨_, _, G8, rfl, upds_self _ _ ⟨rfl, rfl, trivial⟩, leG8, hS, hO⟩
 ·rintro F w21 ⟨p4, Fb, G22, rfl, rfl, leG22, hS, hO⟩
  refine WC_seq ?_; refine WC_region ?_; refine WL_val (rn_move (v := (.slice a1 n1 c1)) rfl) rfl ?_; refine WL_val (rn_len sl22 rfl rfl (h1.mono RInt_mono leG22).1) rfl ?_; refine WL_val (rn_move (v := (.slice a2 n2 c2)) rfl) rfl ?_; refine WL_val (rn_len sl22 rfl rfl (h2.mono RInt_mono leG22).1) rfl ?_; refine WL_val (rn_lss rfl rfl) rfl ?_; refine WL_val (rn_assign (v := (.bool (decide ((x0.length : Int) < (x1.length : Int))))) rfl) rfl ?_; refine WL_nil ?_; refine WC_ret ?_
  have H : some (decide ((x0.length : Int) < (x1.length : Int))) = some r := H
  have H := Option.some.inj H; subst H
  exact ⟨rfl, hS.below⟩
set_option maxHeartbeats 1000000 in
theorem f10_ok {G0 : Gm} {w0 : World} (hS0 : Sat G0 w0) {x0 : TShipStore} {a1 : Option Addr} {n1 c1 : Nat} {a2 : Option Addr} {n2 c2 : Nat} {a3 : Option Addr} {n3 c3 : Nat} {x1 : Int} {x2 : TShipTruth} {a4 : Option Addr} {n4 c4 : Nat} {a5 : Option Addr} {n5 c5 : Nat} {a6 : Option Addr} {n6 c6 : Nat} {x3 : (List Int)} {a7 : Option Addr} {n7 c7 : Nat} (h1 : RSl RInt 1 G0 a1 n1 c1 x0.Stock) (h2 : RSl RTSpan 2 G0 a2 n2 c2 x0.Use) (h3 : RSl RTShipLot 3 G0 a3 n3 c3 x0.Lots) (h4 : RSl RInt 1 G0 a4 n4 c4 x2.Uses) (h5 : RSl RInt 1 G0 a5 n5 c5 x2.Gaps) (h6 : RSl (RSlice RInt 1) 1 G0 a6 n6 c6 x2.Goods) (h7 : RSl RInt 1 G0 a7 n7 c7 x3) {r : Bool} (H : f10 x0 x1 x2 x3 = some r) :
  Calls Try.prog 10 #[.agg #[.slice a1 n1 c1, .slice a2 n2 c2, .int .i64 x0.Gap.Low, .int .i64 x0.Gap.High, .slice a3 n3 c3, .int .i64 x0.Hold], .int .i64 x1, .agg #[.slice a4 n4 c4, .slice a5 n5 c5, .slice a6 n6 c6], .slice a7 n7 c7] w0 (RetV w0 (.bool r)) := by
 have hS := Since.start hS0
 have hO : Owns G0 w0 w0.heap.size [] := Owns.nil (Nat.le_refl _)
 unfold f10 at H
 refine enter1 (N := 158) (shutV _ _) Try.func10 rfl rfl rfl rfl ?_; refine WC_seq ?_; refine WC_region ?_; refine WL_op rfl (OpP_newF (v := fun b => .pointer (some ⟨b, 0, none⟩)) (cs := [.slice a1 n1 c1, .slice a2 n2 c2, .int .i64 x0.Gap.Low, .int .i64 x0.Gap.High, .slice a3 n3 c3, .int .i64 x0.Hold]) (e := 42) (rn_boxA rfl) hS.sat rfl (fun b8 G10 w9 hg hcb8 => ?_)); have hS := hS.grow hg; have hO := hO.grow hg
 have leG10 := hg.le
 refine WL_op rfl (OpP_newF (v := fun b => .pointer (some ⟨b, 0, none⟩)) (cs := [.slice a4 n4 c4, .slice a5 n5 c5, .slice a6 n6 c6]) (e := 45) (rn_boxA rfl) hS.sat rfl (fun b11 G13 w12 hg hcb11 => ?_)); have hS := hS.grow hg; have hO := hO.grow hg
 have leG13 := hg.le
 refine WL_val (rn_assign (v := (.bool false)) rfl) rfl ?_; refine WL_nil ?_; refine WC_seq ?_; refine WC_seq ?_; obtain ⟨q14, hq14, H⟩ := bnd H; refine WC_cut (fun F w => ∃ (Fb : Fr) (G : Gm), F = upds Fb [(1, .int .i64 x1), (3, .slice a7 n7 c7), (4, .pointer (some ⟨b8, 0, none⟩)), (6, .pointer (some ⟨b11, 0, none⟩)), (45, .bool q14)] ∧ Gle G13 G ∧ Since w0.heap.size G0 w0 G w ∧ Owns G w w0.heap.size []) ?_ ?_
 ·have Hoq14 := H; have H := hq14; refine WC_region ?_; refine WL_val (rn_loadA ag42 (cs := [.slice a1 n1 c1, .slice a2 n2 c2, .int .i64 x0.Gap.Low, .int .i64 x0.Gap.High, .slice a3 n3 c3, .int .i64 x0.Hold]) rfl rfl (fun j v hj => (hS.sat.le leG13).cell (hcb8.drop_take 0 6 j v hj))) rfl ?_; obtain ⟨y15, hy15, H⟩ := bnd H
  have l0_2 := leG10.trans leG13
  refine WL_op rfl (OpP_callV cb24 (f24_ok (x0 := x0) hS.sat (h1.mono RInt_mono l0_2) (h2.mono RTSpan_mono l0_2) (h3.mono RTShipLot_mono l0_2) hy15) rfl rfl (fun w16 hb => ?_)); have hS := hS.keep hb; have hO := hO.below hb; refine WL_val (rn_not rfl) rfl ?_; refine WL_val (rn_move (v := (.bool (!y15))) rfl) rfl ?_
  rcases bcases (!y15) with hb17 | hb17
  ·have H := ifT hb17 H; refine WL_guardN rfl hb17 rfl rfl rfl ?_; refine WL_guardN rfl hb17 rfl rfl rfl ?_; refine WL_guardN rfl hb17 rfl rfl rfl ?_; refine WL_val (rn_pickT (v := (.bool true)) rfl hb17 rfl) rfl ?_; refine WL_val (rn_move (v := (.bool true)) rfl) rfl ?_; refine WL_guardN rfl rfl rfl rfl rfl ?_; refine WL_guardN rfl rfl rfl rfl rfl ?_; refine WL_guardN rfl rfl rfl rfl rfl ?_; refine WL_val (rn_pickT (v := (.bool true)) rfl rfl rfl) rfl ?_; refine WL_val (rn_move (v := (.bool true)) rfl) rfl ?_; refine WL_guardN rfl rfl rfl rfl rfl ?_; refine WL_guardN rfl rfl rfl rfl rfl ?_; refine WL_guardN rfl rfl rfl rfl rfl ?_; refine WL_guardN rfl rfl rfl rfl rfl ?_; refine WL_guardN rfl rfl rfl rfl rfl ?_; refine WL_val (rn_pickT (v := (.bool true)) rfl rfl rfl) rfl ?_; refine WL_val (rn_move (v := (.bool true)) rfl) rfl ?_; refine WL_guardN rfl rfl rfl rfl rfl ?_; refine WL_guardN rfl rfl rfl rfl rfl ?_; refine WL_guardN rfl rfl rfl rfl rfl ?_; refine WL_guardN rfl rfl rfl rfl rfl ?_; refine WL_guardN rfl rfl rfl rfl rfl ?_; refine WL_val (rn_pickT (v := (.bool true)) rfl rfl rfl) rfl ?_; refine WL_nil ?_
   have hO : Owns G13 w16 w0.heap.size ([]) := hO
   have H := Option.some.inj H; subst H
   exact ⟨_, G13, upds_self _ _ ⟨rfl, rfl, rfl, rfl, rfl, trivial⟩, Gle.refl _, hS, hO⟩
  ·have H := ifF hb17 H; refine WL_guardY rfl hb17 rfl rfl ?_; refine WL_val (rn_move (v := (.slice a7 n7 c7)) rfl) rfl ?_; refine WL_guardY rfl hb17 rfl rfl ?_; refine WL_val (rn_len sl22 rfl rfl (h7.mono RInt_mono l0_2).1) rfl ?_; refine WL_guardY rfl hb17 rfl rfl ?_; refine WL_val (rn_gtr rfl rfl) rfl ?_; refine WL_val (rn_pickF (v := (.bool (decide (10 < (x3.length : Int))))) rfl hb17 rfl) rfl ?_; refine WL_val (rn_move (v := (.bool (decide (10 < (x3.length : Int))))) rfl) rfl ?_
   rcases bcases (decide (10 < (x3.length : Int))) with hb18 | hb18
   ·have H := ifT hb18 H; refine WL_guardN rfl hb18 rfl rfl rfl ?_; refine WL_guardN rfl hb18 rfl rfl rfl ?_; refine WL_guardN rfl hb18 rfl rfl rfl ?_; refine WL_val (rn_pickT (v := (.bool true)) rfl hb18 rfl) rfl ?_; refine WL_val (rn_move (v := (.bool true)) rfl) rfl ?_; refine WL_guardN rfl rfl rfl rfl rfl ?_; refine WL_guardN rfl rfl rfl rfl rfl ?_; refine WL_guardN rfl rfl rfl rfl rfl ?_; refine WL_guardN rfl rfl rfl rfl rfl ?_; refine WL_guardN rfl rfl rfl rfl rfl ?_; refine WL_val (rn_pickT (v := (.bool true)) rfl rfl rfl) rfl ?_; refine WL_val (rn_move (v := (.bool true)) rfl) rfl ?_; refine WL_guardN rfl rfl rfl rfl rfl ?_; refine WL_guardN rfl rfl rfl rfl rfl ?_; refine WL_guardN rfl rfl rfl rfl rfl ?_; refine WL_guardN rfl rfl rfl rfl rfl ?_; refine WL_guardN rfl rfl rfl rfl rfl ?_; refine WL_val (rn_pickT (v := (.bool true)) rfl rfl rfl) rfl ?_; refine WL_nil ?_
    have hO : Owns G13 w16 w0.heap.size ([]) := hO
    have H := Option.some.inj H; subst H
    exact ⟨_, G13, upds_self _ _ ⟨rfl, rfl, rfl, rfl, rfl, trivial⟩, Gle.refl _, hS, hO⟩
   ·have H := ifF hb18 H; refine WL_guardY rfl hb18 rfl rfl ?_; refine WL_val (rn_loadA ag45 (cs := [.slice a4 n4 c4, .slice a5 n5 c5, .slice a6 n6 c6]) rfl rfl (fun j v hj => hS.sat.cell (hcb11.drop_take 0 3 j v hj))) rfl ?_; refine WL_guardY rfl hb18 rfl rfl ?_; obtain ⟨y19, hy19, H⟩ := bnd H; refine WL_op rfl (OpP_callV cb25 (f25_ok (x0 := x2) hS.sat (h4.mono RInt_mono l0_2) (h5.mono RInt_mono l0_2) (h6.mono (RSlice_mono RInt_mono) l0_2) hy19) rfl rfl (fun w20 hb => ?_)); have hS := hS.keep hb; have hO := hO.below hb; refine WL_guardY rfl hb18 rfl rfl ?_; refine WL_val (rn_not rfl) rfl ?_; refine WL_val (rn_pickF (v := (.bool (!y19))) rfl hb18 rfl) rfl ?_; refine WL_val (rn_move (v := (.bool (!y19))) rfl) rfl ?_
    rcases bcases (!y19) with hb21 | hb21
    ·have H := ifT hb21 H; refine WL_guardN rfl hb21 rfl rfl rfl ?_; refine WL_guardN rfl hb21 rfl rfl rfl ?_; refine WL_guardN rfl hb21 rfl rfl rfl ?_; refine WL_guardN rfl hb21 rfl rfl rfl ?_; refine WL_guardN rfl hb21 rfl rfl rfl ?_; refine WL_val (rn_pickT (v := (.bool true)) rfl hb21 rfl) rfl ?_; refine WL_val (rn_move (v := (.bool true)) rfl) rfl ?_; refine WL_guardN rfl rfl rfl rfl rfl ?_; refine WL_guardN rfl rfl rfl rfl rfl ?_; refine WL_guardN rfl rfl rfl rfl rfl ?_; refine WL_guardN rfl rfl rfl rfl rfl ?_; refine WL_guardN rfl rfl rfl rfl rfl ?_; refine WL_val (rn_pickT (v := (.bool true)) rfl rfl rfl) rfl ?_; refine WL_nil ?_
     have hO : Owns G13 w20 w0.heap.size ([]) := hO
     have H := Option.some.inj H; subst H
     exact ⟨_, G13, upds_self _ _ ⟨rfl, rfl, rfl, rfl, rfl, trivial⟩, Gle.refl _, hS, hO⟩
    ·have H := ifF hb21 H; refine WL_guardY rfl hb21 rfl rfl ?_; refine WL_val (rn_loadA ag42 (cs := [.slice a1 n1 c1, .slice a2 n2 c2, .int .i64 x0.Gap.Low, .int .i64 x0.Gap.High, .slice a3 n3 c3, .int .i64 x0.Hold]) rfl rfl (fun j v hj => (hS.sat.le leG13).cell (hcb8.drop_take 0 6 j v hj))) rfl ?_; refine WL_guardY rfl hb21 rfl rfl ?_; refine WL_val (rn_move (v := (.slice a7 n7 c7)) rfl) rfl ?_; refine WL_guardY rfl hb21 rfl rfl ?_; refine WL_val (rn_move (v := (.int .i64 x1)) rfl) rfl ?_; refine WL_guardY rfl hb21 rfl rfl ?_; obtain ⟨y22, hy22, H⟩ := bnd H; refine WL_op rfl (OpP_callV cb27 (f27_ok (x0 := x0) (x1 := x3) (x2 := x1) hS.sat (h1.mono RInt_mono l0_2) (h2.mono RTSpan_mono l0_2) (h3.mono RTShipLot_mono l0_2) (h7.mono RInt_mono l0_2) hy22) rfl rfl (fun w23 hb => ?_)); have hS := hS.keep hb; have hO := hO.below hb; refine WL_guardY rfl hb21 rfl rfl ?_; refine WL_val (rn_not rfl) rfl ?_; refine WL_val (rn_pickF (v := (.bool (!y22))) rfl hb21 rfl) rfl ?_; refine WL_val (rn_move (v := (.bool (!y22))) rfl) rfl ?_
     rcases bcases (!y22) with hb24 | hb24
     ·have H := ifT hb24 H; refine WL_guardN rfl hb24 rfl rfl rfl ?_; refine WL_guardN rfl hb24 rfl rfl rfl ?_; refine WL_guardN rfl hb24 rfl rfl rfl ?_; refine WL_guardN rfl hb24 rfl rfl rfl ?_; refine WL_guardN rfl hb24 rfl rfl rfl ?_; refine WL_val (rn_pickT (v := (.bool true)) rfl hb24 rfl) rfl ?_; refine WL_nil ?_
      have hO : Owns G13 w23 w0.heap.size ([]) := hO
      have H := Option.some.inj H; subst H
      exact ⟨_, G13, upds_self _ _ ⟨rfl, rfl, rfl, rfl, rfl, trivial⟩, Gle.refl _, hS, hO⟩
     ·have H := ifF hb24 H; refine WL_guardY rfl hb24 rfl rfl ?_; refine WL_val (rn_loadA ag42 (cs := [.slice a1 n1 c1, .slice a2 n2 c2, .int .i64 x0.Gap.Low, .int .i64 x0.Gap.High, .slice a3 n3 c3, .int .i64 x0.Hold]) rfl rfl (fun j v hj => (hS.sat.le leG13).cell (hcb8.drop_take 0 6 j v hj))) rfl ?_; refine WL_guardY rfl hb24 rfl rfl ?_; refine WL_val (rn_move (v := (.int .i64 x1)) rfl) rfl ?_; refine WL_guardY rfl hb24 rfl rfl ?_; refine WL_val (rn_loadA ag45 (cs := [.slice a4 n4 c4, .slice a5 n5 c5, .slice a6 n6 c6]) rfl rfl (fun j v hj => hS.sat.cell (hcb11.drop_take 0 3 j v hj))) rfl ?_; refine WL_guardY rfl hb24 rfl rfl ?_; obtain ⟨y25, hy25, H⟩ := bnd H; refine WL_op rfl (OpP_callV cb28 (f28_ok (x0 := x0) (x1 := x1) (x2 := x2) hS.sat (h1.mono RInt_mono l0_2) (h2.mono RTSpan_mono l0_2) (h3.mono RTShipLot_mono l0_2) (h4.mono RInt_mono l0_2) (h5.mono RInt_mono l0_2) (h6.mono (RSlice_mono RInt_mono) l0_2) hy25) rfl rfl (fun w26 hb => ?_)); have hS := hS.keep hb; have hO := hO.below hb; refine WL_guardY rfl hb24 rfl rfl ?_; refine WL_val (rn_not rfl) rfl ?_; refine WL_val (rn_pickF (v := (.bool (!y25))) rfl hb24 rfl) rfl ?_; refine WL_nil ?_
      have hO : Owns G13 w26 w0.heap.size ([]) := hO
      have H := Option.some.inj H; subst H
      exact ⟨_, G13, upds_self _ _ ⟨rfl, rfl, rfl, rfl, rfl, trivial⟩, Gle.refl _, hS, hO⟩
 ·rintro F w27 ⟨Fb, G28, rfl, leG28, hS, hO⟩
  refine WC_cond rfl (fun hb29 => ?_) (fun hb29 => ?_)
  ·have H := ifT hb29 H; refine WC_seq ?_; refine WC_region ?_; obtain ⟨y30, hy30, H⟩ := bnd H; refine WL_op rfl (OpP_callV cb17 (f17_ok  hS.sat  hy30) rfl rfl (fun w31 hb => ?_)); have hS := hS.keep hb; have hO := hO.below hb; refine WL_val (rn_assign (v := (.bool y30)) rfl) rfl ?_; refine WL_nil ?_; refine WC_ret ?_
   have H : some y30 = some r := H
   have H := Option.some.inj H; subst H
   exact ⟨rfl, hS.below⟩
  ·have H := ifF hb29 H; refine WC_skip ?_; refine WC_seq ?_; refine WC_region ?_
   have l1_3 := leG13.trans leG28
   refine WL_val (rn_loadA ag42 (cs := [.slice a1 n1 c1, .slice a2 n2 c2, .int .i64 x0.Gap.Low, .int .i64 x0.Gap.High, .slice a3 n3 c3, .int .i64 x0.Hold]) rfl rfl (fun j v hj => (hS.sat.le l1_3).cell (hcb8.drop_take 0 6 j v hj))) rfl ?_; refine WL_val (rn_move (v := (.int .i64 x1)) rfl) rfl ?_; obtain ⟨y32, hy32, H⟩ := bnd H
   have l0_3 := leG10.trans l1_3
   refine WL_op rfl (OpP_callG cb35 (f35_ok (x0 := x0) (x1 := x1) hS.sat (h1.mono RInt_mono l0_3) (h2.mono RTSpan_mono l0_3) (h3.mono RTShipLot_mono l0_3) hy32) rfl rfl (fun vy32 G34 w33 hg hvy32 => ?_)); obtain ⟨a35, n35, c35, ⟨⟩, h35⟩ := hvy32; have hS := hS.grow hg; have hO := hO.grow hg
   have leG34 := hg.le
   refine WL_val (rn_move (v := (.tuple #[.slice a35 n35 c35, .int .i64 y32.2.1, .int .i64 y32.2.2])) rfl) rfl ?_; refine WL_val (rn_extract (v := (.slice a35 n35 c35)) rfl rfl) rfl ?_; refine WL_val (rn_extract (v := (.int .i64 y32.2.1)) rfl rfl) rfl ?_; refine WL_val (rn_extract (v := (.int .i64 y32.2.2)) rfl rfl) rfl ?_; refine WL_val (rn_assign (v := (.slice a35 n35 c35)) rfl) rfl ?_; refine WL_val (rn_assign (v := (.int .i64 y32.2.1)) rfl) rfl ?_; refine WL_val (rn_assign (v := (.int .i64 y32.2.2)) rfl) rfl ?_; refine WL_nil ?_; refine WC_seq ?_; refine WC_region ?_
   have l1_4 := l1_3.trans leG34
   refine WL_val (rn_loadA ag42 (cs := [.slice a1 n1 c1, .slice a2 n2 c2, .int .i64 x0.Gap.Low, .int .i64 x0.Gap.High, .slice a3 n3 c3, .int .i64 x0.Hold]) rfl rfl (fun j v hj => (hS.sat.le l1_4).cell (hcb8.drop_take 0 6 j v hj))) rfl ?_; refine WL_val (rn_move (v := (.slice a7 n7 c7)) rfl) rfl ?_; refine WL_val (rn_move (v := (.int .i64 x1)) rfl) rfl ?_; obtain ⟨y36, hy36, H⟩ := bnd H
   have l0_4 := l0_3.trans leG34
   refine WL_op rfl (OpP_callV cb41 (f41_ok (x0 := x0) (x1 := x3) (x2 := x1) hS.sat (h1.mono RInt_mono l0_4) (h2.mono RTSpan_mono l0_4) (h3.mono RTShipLot_mono l0_4) (h7.mono RInt_mono l0_4) hy36) rfl rfl (fun w37 hb => ?_)); have hS := hS.keep hb; have hO := hO.below hb; refine WL_val (rn_move (v := (.tuple #[.bool y36.1, .bool y36.2])) rfl) rfl ?_; refine WL_val (rn_extract (v := (.bool y36.1)) rfl rfl) rfl ?_; refine WL_val (rn_extract (v := (.bool y36.2)) rfl rfl) rfl ?_; refine WL_val (rn_assign (v := (.bool y36.1)) rfl) rfl ?_; refine WL_val (rn_assign (v := (.bool y36.2)) rfl) rfl ?_; refine WL_nil ?_; refine WC_seq ?_; refine WC_seq ?_; refine WC_region ?_; refine WL_val (rn_move (v := (.bool y36.2)) rfl) rfl ?_; refine WL_val (rn_not rfl) rfl ?_; refine WL_nil ?_; refine WC_cond rfl (fun hb38 => ?_) (fun hb38 => ?_)
   ·have H := ifT hb38 H; refine WC_seq ?_; refine WC_region ?_; refine WL_val (rn_assign (v := (.bool false)) rfl) rfl ?_; refine WL_nil ?_; refine WC_ret ?_
    have H : some false = some r := H
    have H := Option.some.inj H; subst H
    exact ⟨rfl, hS.below⟩
   ·have H := ifF hb38 H; refine WC_skip ?_; refine WC_seq ?_; refine WC_seq ?_; refine WC_region ?_; refine WL_val (rn_move (v := (.int .i64 y32.2.2)) rfl) rfl ?_; refine WL_val (rn_neq rfl rfl) rfl ?_; refine WL_nil ?_; refine WC_cond rfl (fun hb39 => ?_) (fun hb39 => ?_)
    ·have H := ifT hb39 H; refine WC_seq ?_; obtain ⟨q40, hq40, H⟩ := bnd H; refine WC_cut (fun F w => ∃ (Fb : Fr) (G : Gm), F = upds Fb [(8, .bool q40)] ∧ Gle G34 G ∧ Since w0.heap.size G0 w0 G w ∧ Owns G w w0.heap.size []) ?_ ?_
     ·have Hoq40 := H; have H := hq40; refine WC_region ?_; refine WL_val (rn_move (v := (.int .i64 y32.2.2)) rfl) rfl ?_; refine WL_val (rn_eql rfl rfl) rfl ?_; refine WL_val (rn_move (v := (.bool (y32.2.2 == 5))) rfl) rfl ?_
      rcases bcases (y32.2.2 == 5) with hb41 | hb41
      ·have H := ifT hb41 H; refine WL_guardY rfl hb41 rfl rfl ?_; refine WL_val (rn_move (v := (.bool y36.1)) rfl) rfl ?_; refine WL_guardY rfl hb41 rfl rfl ?_; refine WL_val (rn_not rfl) rfl ?_; refine WL_val (rn_pickT (v := (.bool (!y36.1))) rfl hb41 rfl) rfl ?_; refine WL_val (rn_move (v := (.bool (!y36.1))) rfl) rfl ?_
       rcases bcases (!y36.1) with hb42 | hb42
       ·have H := ifT hb42 H; refine WL_guardY rfl hb42 rfl rfl ?_; obtain ⟨y43, hy43, H⟩ := bnd H; refine WL_op rfl (OpP_callV cb17 (f17_ok  hS.sat  hy43) rfl rfl (fun w44 hb => ?_)); have hS := hS.keep hb; have hO := hO.below hb; refine WL_val (rn_pickT (v := (.bool y43)) rfl hb42 rfl) rfl ?_; refine WL_val (rn_assign (v := (.bool y43)) rfl) rfl ?_; refine WL_nil ?_
        have hO : Owns G34 w44 w0.heap.size ([]) := hO
        have H := Option.some.inj H; subst H
        exact ⟨_, G34, upds_self _ _ ⟨rfl, trivial⟩, Gle.refl _, hS, hO⟩
       ·have H := ifF hb42 H; refine WL_guardN rfl hb42 rfl rfl rfl ?_; refine WL_val (rn_pickF (v := (.bool false)) rfl hb42 rfl) rfl ?_; refine WL_val (rn_assign (v := (.bool false)) rfl) rfl ?_; refine WL_nil ?_
        have hO : Owns G34 w37 w0.heap.size ([]) := hO
        have H := Option.some.inj H; subst H
        exact ⟨_, G34, upds_self _ _ ⟨rfl, trivial⟩, Gle.refl _, hS, hO⟩
      ·have H := ifF hb41 H; refine WL_guardN rfl hb41 rfl rfl rfl ?_; refine WL_guardN rfl hb41 rfl rfl rfl ?_; refine WL_val (rn_pickF (v := (.bool false)) rfl hb41 rfl) rfl ?_; refine WL_val (rn_move (v := (.bool false)) rfl) rfl ?_; refine WL_guardN rfl rfl rfl rfl rfl ?_; refine WL_val (rn_pickF (v := (.bool false)) rfl rfl rfl) rfl ?_; refine WL_val (rn_assign (v := (.bool false)) rfl) rfl ?_; refine WL_nil ?_
       have hO : Owns G34 w37 w0.heap.size ([]) := hO
       have H := Option.some.inj H; subst H
       exact ⟨_, G34, upds_self _ _ ⟨rfl, trivial⟩, Gle.refl _, hS, hO⟩
     ·rintro F w45 ⟨Fb, G46, rfl, leG46, hS, hO⟩
      refine WC_ret ?_
      have H : some q40 = some r := H
      have H := Option.some.inj H; subst H
      exact ⟨rfl, hS.below⟩
    ·have H := ifF hb39 H; refine WC_skip ?_; refine WC_seq ?_; refine WC_seq ?_; obtain ⟨q47, hq47, H⟩ := bnd H; refine WC_cut (fun F w => ∃ (Fb : Fr) (G : Gm), F = upds Fb [(1, .int .i64 x1), (3, .slice a7 n7 c7), (4, .pointer (some ⟨b8, 0, none⟩)), (6, .pointer (some ⟨b11, 0, none⟩)), (9, .slice a35 n35 c35), (10, .int .i64 y32.2.1), (12, .bool y36.1), (89, .bool q47)] ∧ Gle G34 G ∧ Since w0.heap.size G0 w0 G w ∧ Owns G w w0.heap.size []) ?_ ?_
     ·have Hoq47 := H; have H := hq47; refine WC_region ?_; refine WL_val (rn_move (v := (.slice a35 n35 c35)) rfl) rfl ?_; refine WL_val (rn_len sl22 rfl rfl h35.1) rfl ?_; refine WL_val (rn_gtr rfl rfl) rfl ?_; refine WL_val (rn_move (v := (.bool (decide (10 < (y32.1.length : Int))))) rfl) rfl ?_
      rcases bcases (decide (10 < (y32.1.length : Int))) with hb48 | hb48
      ·have H := ifT hb48 H; refine WL_guardN rfl hb48 rfl rfl rfl ?_; refine WL_guardN rfl hb48 rfl rfl rfl ?_; refine WL_guardN rfl hb48 rfl rfl rfl ?_; refine WL_guardN rfl hb48 rfl rfl rfl ?_; refine WL_val (rn_pickT (v := (.bool true)) rfl hb48 rfl) rfl ?_; refine WL_val (rn_move (v := (.bool true)) rfl) rfl ?_; refine WL_guardN rfl rfl rfl rfl rfl ?_; refine WL_guardN rfl rfl rfl rfl rfl ?_; refine WL_guardN rfl rfl rfl rfl rfl ?_; refine WL_guardN rfl rfl rfl rfl rfl ?_; refine WL_guardN rfl rfl rfl rfl rfl ?_; refine WL_val (rn_pickT (v := (.bool true)) rfl rfl rfl) rfl ?_; refine WL_nil ?_
       have hO : Owns G34 w37 w0.heap.size ([]) := hO
       have H := Option.some.inj H; subst H
       exact ⟨_, G34, upds_self _ _ ⟨rfl, rfl, rfl, rfl, rfl, rfl, rfl, rfl, trivial⟩, Gle.refl _, hS, hO⟩
      ·have H := ifF hb48 H; refine WL_guardY rfl hb48 rfl rfl ?_; refine WL_val (rn_loadA ag42 (cs := [.slice a1 n1 c1, .slice a2 n2 c2, .int .i64 x0.Gap.Low, .int .i64 x0.Gap.High, .slice a3 n3 c3, .int .i64 x0.Hold]) rfl rfl (fun j v hj => (hS.sat.le l1_4).cell (hcb8.drop_take 0 6 j v hj))) rfl ?_; refine WL_guardY rfl hb48 rfl rfl ?_; refine WL_val (rn_move (v := (.slice a35 n35 c35)) rfl) rfl ?_; refine WL_guardY rfl hb48 rfl rfl ?_; obtain ⟨y49, hy49, H⟩ := bnd H; refine WL_op rfl (OpP_callV cb42 (f42_ok (x0 := x0) (x1 := y32.1) hS.sat (h1.mono RInt_mono l0_4) (h2.mono RTSpan_mono l0_4) (h3.mono RTShipLot_mono l0_4) h35 hy49) rfl rfl (fun w50 hb => ?_)); have hS := hS.keep hb; have hO := hO.below hb; refine WL_guardY rfl hb48 rfl rfl ?_; refine WL_val (rn_not rfl) rfl ?_; refine WL_val (rn_pickF (v := (.bool (!y49))) rfl hb48 rfl) rfl ?_; refine WL_val (rn_move (v := (.bool (!y49))) rfl) rfl ?_
       rcases bcases (!y49) with hb51 | hb51
       ·have H := ifT hb51 H; refine WL_guardN rfl hb51 rfl rfl rfl ?_; refine WL_guardN rfl hb51 rfl rfl rfl ?_; refine WL_guardN rfl hb51 rfl rfl rfl ?_; refine WL_guardN rfl hb51 rfl rfl rfl ?_; refine WL_guardN rfl hb51 rfl rfl rfl ?_; refine WL_val (rn_pickT (v := (.bool true)) rfl hb51 rfl) rfl ?_; refine WL_nil ?_
        have hO : Owns G34 w50 w0.heap.size ([]) := hO
        have H := Option.some.inj H; subst H
        exact ⟨_, G34, upds_self _ _ ⟨rfl, rfl, rfl, rfl, rfl, rfl, rfl, rfl, trivial⟩, Gle.refl _, hS, hO⟩
       ·have H := ifF hb51 H; refine WL_guardY rfl hb51 rfl rfl ?_; refine WL_val (rn_move (v := (.int .i64 y32.2.1)) rfl) rfl ?_; refine WL_guardY rfl hb51 rfl rfl ?_; refine WL_val (rn_loadA ag42 (cs := [.slice a1 n1 c1, .slice a2 n2 c2, .int .i64 x0.Gap.Low, .int .i64 x0.Gap.High, .slice a3 n3 c3, .int .i64 x0.Hold]) rfl rfl (fun j v hj => (hS.sat.le l1_4).cell (hcb8.drop_take 0 6 j v hj))) rfl ?_; refine WL_guardY rfl hb51 rfl rfl ?_; refine WL_val (rn_move (v := (.slice a35 n35 c35)) rfl) rfl ?_; refine WL_guardY rfl hb51 rfl rfl ?_; obtain ⟨y52, hy52, H⟩ := bnd H; refine WL_op rfl (OpP_callV cb40 (f40_ok (x0 := x0) (x1 := y32.1) hS.sat (h1.mono RInt_mono l0_4) (h2.mono RTSpan_mono l0_4) (h3.mono RTShipLot_mono l0_4) h35 hy52) rfl rfl (fun w53 hb => ?_)); have hS := hS.keep hb; have hO := hO.below hb; refine WL_guardY rfl hb51 rfl rfl ?_; refine WL_val (rn_neq rfl rfl) rfl ?_; refine WL_val (rn_pickF (v := (.bool (y32.2.1 != y52))) rfl hb51 rfl) rfl ?_; refine WL_nil ?_
        have hO : Owns G34 w53 w0.heap.size ([]) := hO
        have H := Option.some.inj H; subst H
        exact ⟨_, G34, upds_self _ _ ⟨rfl, rfl, rfl, rfl, rfl, rfl, rfl, rfl, trivial⟩, Gle.refl _, hS, hO⟩
     ·rintro F w54 ⟨Fb, G55, rfl, leG55, hS, hO⟩
      refine WC_cond rfl (fun hb56 => ?_) (fun hb56 => ?_)
      ·have H := ifT hb56 H; refine WC_seq ?_; refine WC_region ?_; refine WL_val (rn_assign (v := (.bool false)) rfl) rfl ?_; refine WL_nil ?_; refine WC_ret ?_
       have H : some false = some r := H
       have H := Option.some.inj H; subst H
       exact ⟨rfl, hS.below⟩
      ·have H := ifF hb56 H; refine WC_skip ?_; refine WC_seq ?_; refine WC_region ?_
       have l1_5 := l1_4.trans leG55
       refine WL_val (rn_loadA ag42 (cs := [.slice a1 n1 c1, .slice a2 n2 c2, .int .i64 x0.Gap.Low, .int .i64 x0.Gap.High, .slice a3 n3 c3, .int .i64 x0.Hold]) rfl rfl (fun j v hj => (hS.sat.le l1_5).cell (hcb8.drop_take 0 6 j v hj))) rfl ?_; refine WL_val (rn_move (v := (.slice a35 n35 c35)) rfl) rfl ?_; refine WL_val (rn_move (v := (.int .i64 x1)) rfl) rfl ?_
       have l2_5 := (leG28.trans leG34).trans leG55
       refine WL_val (rn_loadA ag45 (cs := [.slice a4 n4 c4, .slice a5 n5 c5, .slice a6 n6 c6]) rfl rfl (fun j v hj => (hS.sat.le l2_5).cell (hcb11.drop_take 0 3 j v hj))) rfl ?_; obtain ⟨y57, hy57, H⟩ := bnd H
       have l0_5 := l0_4.trans leG55
       refine WL_op rfl (OpP_callG cb26 (f26_ok (x0 := x0) (x1 := y32.1) (x2 := x1) (x3 := x2) hS.sat (h1.mono RInt_mono l0_5) (h2.mono RTSpan_mono l0_5) (h3.mono RTShipLot_mono l0_5) (h35.mono RInt_mono leG55) (h4.mono RInt_mono l0_5) (h5.mono RInt_mono l0_5) (h6.mono (RSlice_mono RInt_mono) l0_5) hy57) rfl rfl (fun vy57 G59 w58 hg hvy57 => ?_)); obtain ⟨a60, n60, c60, a61, n61, c61, ⟨⟩, h60, h61⟩ := hvy57; have hS := hS.grow hg; have hO := hO.grow hg
       have leG59 := hg.le
       refine WL_val (rn_move (v := (.tuple #[.slice a60 n60 c60, .slice a61 n61 c61, .int .i64 y57.2.2])) rfl) rfl ?_; refine WL_val (rn_extract (v := (.slice a60 n60 c60)) rfl rfl) rfl ?_; refine WL_val (rn_extract (v := (.slice a61 n61 c61)) rfl rfl) rfl ?_; refine WL_val (rn_extract (v := (.int .i64 y57.2.2)) rfl rfl) rfl ?_; refine WL_val (rn_assign (v := (.slice a60 n60 c60)) rfl) rfl ?_; refine WL_val (rn_assign (v := (.slice a61 n61 c61)) rfl) rfl ?_; refine WL_val (rn_assign (v := (.int .i64 y57.2.2)) rfl) rfl ?_; refine WL_nil ?_; refine WC_seq ?_; refine WC_seq ?_; obtain ⟨q62, hq62, H⟩ := bnd H; refine WC_cut (fun F w => ∃ (Fb : Fr), F = upds Fb [(3, .slice a7 n7 c7), (4, .pointer (some ⟨b8, 0, none⟩)), (9, .slice a35 n35 c35), (10, .int .i64 y32.2.1), (12, .bool y36.1), (14, .slice a60 n60 c60), (108, .bool q62)] ∧ w58 = w) ?_ ?_
       ·have Hoq62 := H; have H := hq62; refine WC_region ?_; refine WL_val (rn_move (v := (.int .i64 y57.2.2)) rfl) rfl ?_; refine WL_val (rn_neq rfl rfl) rfl ?_; refine WL_val (rn_move (v := (.bool (y57.2.2 != 0))) rfl) rfl ?_
        rcases bcases (y57.2.2 != 0) with hb63 | hb63
        ·have H := ifT hb63 H; refine WL_guardN rfl hb63 rfl rfl rfl ?_; refine WL_guardN rfl hb63 rfl rfl rfl ?_; refine WL_guardN rfl hb63 rfl rfl rfl ?_; refine WL_guardN rfl hb63 rfl rfl rfl ?_; refine WL_guardN rfl hb63 rfl rfl rfl ?_; refine WL_guardN rfl hb63 rfl rfl rfl ?_; refine WL_val (rn_pickT (v := (.bool true)) rfl hb63 rfl) rfl ?_; refine WL_nil ?_; have H := Option.some.inj H; subst H
         exact ⟨_, upds_self _ _ ⟨rfl, rfl, rfl, rfl, rfl, rfl, rfl, trivial⟩, rfl⟩
        ·have H := ifF hb63 H; refine WL_guardY rfl hb63 rfl rfl ?_; refine WL_val (rn_move (v := (.slice a60 n60 c60)) rfl) rfl ?_; refine WL_guardY rfl hb63 rfl rfl ?_; refine WL_val (rn_len sl22 rfl rfl h60.1) rfl ?_; refine WL_guardY rfl hb63 rfl rfl ?_; refine WL_val (rn_fld fd42_0 rfl) rfl ?_; refine WL_guardY rfl hb63 rfl rfl ?_
         have l1_6 := l1_5.trans leG59
         refine WL_val (rn_load na22 rfl ((hS.sat.le l1_6).cell (hcb8 0 _ rfl))) rfl ?_; refine WL_guardY rfl hb63 rfl rfl ?_
         have l0_6 := l0_5.trans leG59
         refine WL_val (rn_len sl22 rfl rfl (h1.mono RInt_mono l0_6).1) rfl ?_; refine WL_guardY rfl hb63 rfl rfl ?_; refine WL_val (rn_neq rfl rfl) rfl ?_; refine WL_val (rn_pickF (v := (.bool ((y57.1.length : Int) != (x0.Stock.length : Int)))) rfl hb63 rfl) rfl ?_; refine WL_nil ?_; have H := Option.some.inj H; subst H
         exact ⟨_, upds_self _ _ ⟨rfl, rfl, rfl, rfl, rfl, rfl, rfl, trivial⟩, rfl⟩
       ·rintro F wl ⟨Fb, rfl, rfl⟩
        refine WC_cond rfl (fun hb66 => ?_) (fun hb66 => ?_)
        ·have H := ifT hb66 H; refine WC_seq ?_; refine WC_region ?_; refine WL_val (rn_assign (v := (.bool false)) rfl) rfl ?_; refine WL_nil ?_; refine WC_ret ?_
         have H : some false = some r := H
         have H := Option.some.inj H; subst H
         exact ⟨rfl, hS.below⟩
        ·have H := ifF hb66 H; refine WC_skip ?_; refine WC_seq ?_; refine WC_seq ?_; refine WC_region ?_; refine WL_val (rn_assign (v := (.int .i64 0)) rfl) rfl ?_; refine WL_nil ?_; obtain ⟨q69, hq69, H⟩ := bnd H; refine WC_cut (fun F w => ∃ (p68 : Unit) (Fb : Fr), q69 = .inl p68 ∧ F = upds Fb [(3, .slice a7 n7 c7), (4, .pointer (some ⟨b8, 0, none⟩)), (9, .slice a35 n35 c35), (10, .int .i64 y32.2.1), (12, .bool y36.1)] ∧ w58 = w) ?_ ?_
         ·refine WC_block (WC_loop hq69 (fun s67 F w => ∃ (Fb : Fr), F = upds Fb [(3, .slice a7 n7 c7), (4, .pointer (some ⟨b8, 0, none⟩)), (9, .slice a35 n35 c35), (10, .int .i64 y32.2.1), (12, .bool y36.1), (14, .slice a60 n60 c60), (17, .int .i64 s67)] ∧ w58 = w) ?_ ?_)
          ·exact ⟨_, upds_self _ _ ⟨rfl, rfl, rfl, rfl, rfl, rfl, rfl, trivial⟩, rfl⟩
          ·rintro s67 F wl t70 ⟨Fb, rfl, rfl⟩
           intro H1 hqq69
           have Hoq69 := H; have H := H1
           unfold f10_b0 at H
           refine WC_seq ?_; refine WC_seq ?_; refine WC_region ?_; refine WL_val (rn_move (v := (.int .i64 s67)) rfl) rfl ?_; refine WL_val (rn_move (v := (.slice a60 n60 c60)) rfl) rfl ?_; refine WL_val (rn_len sl22 rfl rfl h60.1) rfl ?_; refine WL_val (rn_lss rfl rfl) rfl ?_; refine WL_nil ?_; refine WC_cond rfl (fun hb73 => ?_) (fun hb73 => ?_)
           ·have H := ifT hb73 H; refine WC_skip ?_; refine WC_seq ?_; refine WC_block ?_; refine WC_seq ?_; refine WC_region ?_; refine WL_val (rn_move (v := (.slice a60 n60 c60)) rfl) rfl ?_; refine WL_val (rn_move (v := (.int .i64 s67)) rfl) rfl ?_; obtain ⟨y74, hy74, H⟩ := bnd H; refine WL_idx sl22 h60 hy74 rfl rfl rfl ?_
            rintro b75 o75 _ hcb75 _ ⟨⟩
            refine WL_val (rn_load na3 rfl (hS.sat.cell (hcb75 0 _ rfl))) rfl ?_; refine WL_val (rn_neq rfl rfl) rfl ?_; refine WL_nil ?_; refine WC_cond rfl (fun hb76 => ?_) (fun hb76 => ?_)
            ·have H := ifT hb76 H; refine WC_seq ?_; refine WC_region ?_; refine WL_val (rn_assign (v := (.bool false)) rfl) rfl ?_; refine WL_nil ?_; refine WC_ret ?_; have H := Option.some.inj H; subst H
             have hres := hqq69 _ rfl
             subst hres; have H := Hoq69
             have H : some false = some r := H
             have H := Option.some.inj H; subst H
             exact ⟨rfl, hS.below⟩
            ·have H := ifF hb76 H; refine WC_skip ?_; refine WC_region ?_; refine WL_val (rn_move (v := (.int .i64 s67)) rfl) rfl ?_; refine WL_val (rn_add rfl rfl) rfl ?_; refine WL_val (rn_assign (v := (.int .i64 (IntKind.i64.wrap (s67 + 1)))) rfl) rfl ?_; refine WL_nil ?_; have H := Option.some.inj H; subst H; refine ⟨_, rfl, ?_⟩
             exact ⟨_, upds_self _ _ ⟨rfl, rfl, rfl, rfl, rfl, rfl, rfl, trivial⟩, rfl⟩
           ·have H := ifF hb73 H; refine WC_exit rfl ?_; have H := Option.some.inj H; subst H
            have hres := hqq69 _ rfl
            subst hres
            exact ⟨_, _, rfl, upds_self _ _ ⟨rfl, rfl, rfl, rfl, rfl, trivial⟩, rfl⟩
         ·rintro F wl ⟨p68, Fb, rfl, rfl, rfl⟩
          refine WC_seq ?_; refine WC_region ?_
          have l1_6 := l1_5.trans leG59
          refine WL_val (rn_loadA ag42 (cs := [.slice a1 n1 c1, .slice a2 n2 c2, .int .i64 x0.Gap.Low, .int .i64 x0.Gap.High, .slice a3 n3 c3, .int .i64 x0.Hold]) rfl rfl (fun j v hj => (hS.sat.le l1_6).cell (hcb8.drop_take 0 6 j v hj))) rfl ?_; refine WL_val (rn_move (v := (.slice a7 n7 c7)) rfl) rfl ?_; obtain ⟨y79, hy79, H⟩ := bnd H
          have l0_6 := l0_5.trans leG59
          refine WL_op rfl (OpP_callV cb40 (f40_ok (x0 := x0) (x1 := x3) hS.sat (h1.mono RInt_mono l0_6) (h2.mono RTSpan_mono l0_6) (h3.mono RTShipLot_mono l0_6) (h7.mono RInt_mono l0_6) hy79) rfl rfl (fun w80 hb => ?_)); have hS := hS.keep hb; have hO := hO.below hb; refine WL_val (rn_assign (v := (.int .i64 y79)) rfl) rfl ?_; refine WL_nil ?_; refine WC_seq ?_; obtain ⟨q81, hq81, H⟩ := bnd H; refine WC_cut (fun F w => ∃ (Fb : Fr) (G : Gm), F = upds Fb [(8, .bool q81)] ∧ Gle G59 G ∧ Since w0.heap.size G0 w0 G w ∧ Owns G w w0.heap.size []) ?_ ?_
          ·have Hoq81 := H; have H := hq81; refine WC_region ?_; refine WL_val (rn_move (v := (.bool y36.1)) rfl) rfl ?_; refine WL_val (rn_not rfl) rfl ?_; refine WL_val (rn_move (v := (.bool (!y36.1))) rfl) rfl ?_
           rcases bcases (!y36.1) with hb82 | hb82
           ·have H := ifT hb82 H; refine WL_guardN rfl hb82 rfl rfl rfl ?_; refine WL_guardN rfl hb82 rfl rfl rfl ?_; refine WL_guardN rfl hb82 rfl rfl rfl ?_; refine WL_val (rn_pickT (v := (.bool true)) rfl hb82 rfl) rfl ?_; refine WL_val (rn_move (v := (.bool true)) rfl) rfl ?_; refine WL_guardN rfl rfl rfl rfl rfl ?_; refine WL_guardN rfl rfl rfl rfl rfl ?_; refine WL_guardN rfl rfl rfl rfl rfl ?_; refine WL_guardN rfl rfl rfl rfl rfl ?_; refine WL_guardU rfl rfl rfl rfl ?_; refine WL_guardU rfl rfl rfl rfl ?_; refine WL_guardU rfl rfl rfl rfl ?_; refine WL_guardU rfl rfl rfl rfl ?_; refine WL_guardU rfl rfl rfl rfl ?_; refine WL_guardU rfl rfl rfl rfl ?_; refine WL_guardU rfl rfl rfl rfl ?_; refine WL_guardU rfl rfl rfl rfl ?_; refine WL_guardU rfl rfl rfl rfl ?_; refine WL_guardU rfl rfl rfl rfl ?_; refine WL_guardU rfl rfl rfl rfl ?_; refine WL_guardU rfl rfl rfl rfl ?_; refine WL_guardU rfl rfl rfl rfl ?_; refine WL_guardU rfl rfl rfl rfl ?_; refine WL_guardU rfl rfl rfl rfl ?_; refine WL_guardU rfl rfl rfl rfl ?_; refine WL_guardU rfl rfl rfl rfl ?_; refine WL_guardU rfl rfl rfl rfl ?_; refine WL_guardN rfl rfl rfl rfl rfl ?_; refine WL_val (rn_pickT (v := (.bool true)) rfl rfl rfl) rfl ?_; refine WL_val (rn_move (v := (.bool true)) rfl) rfl ?_; refine WL_guardY rfl rfl rfl rfl ?_; obtain ⟨y83, hy83, H⟩ := bnd H; refine WL_op rfl (OpP_callV cb17 (f17_ok  hS.sat  hy83) rfl rfl (fun w84 hb => ?_)); have hS := hS.keep hb; have hO := hO.below hb; refine WL_val (rn_pickT (v := (.bool y83)) rfl rfl rfl) rfl ?_; refine WL_val (rn_assign (v := (.bool y83)) rfl) rfl ?_; refine WL_nil ?_
            have hO : Owns G59 w84 w0.heap.size ([]) := hO
            have H := Option.some.inj H; subst H
            exact ⟨_, G59, upds_self _ _ ⟨rfl, trivial⟩, Gle.refl _, hS, hO⟩
           ·have H := ifF hb82 H; refine WL_guardY rfl hb82 rfl rfl ?_; refine WL_val (rn_move (v := (.int .i64 y79)) rfl) rfl ?_; refine WL_guardY rfl hb82 rfl rfl ?_; refine WL_val (rn_move (v := (.int .i64 y32.2.1)) rfl) rfl ?_; refine WL_guardY rfl hb82 rfl rfl ?_; refine WL_val (rn_gtr rfl rfl) rfl ?_; refine WL_val (rn_pickF (v := (.bool (decide (y32.2.1 < y79)))) rfl hb82 rfl) rfl ?_; refine WL_val (rn_move (v := (.bool (decide (y32.2.1 < y79)))) rfl) rfl ?_
            rcases bcases (decide (y32.2.1 < y79)) with hb85 | hb85
            ·have H := ifT hb85 H; refine WL_guardN rfl hb85 rfl rfl rfl ?_; refine WL_guardN rfl hb85 rfl rfl rfl ?_; refine WL_guardN rfl hb85 rfl rfl rfl ?_; refine WL_guardN rfl hb85 rfl rfl rfl ?_; refine WL_guardU rfl rfl rfl rfl ?_; refine WL_guardU rfl rfl rfl rfl ?_; refine WL_guardU rfl rfl rfl rfl ?_; refine WL_guardU rfl rfl rfl rfl ?_; refine WL_guardU rfl rfl rfl rfl ?_; refine WL_guardU rfl rfl rfl rfl ?_; refine WL_guardU rfl rfl rfl rfl ?_; refine WL_guardU rfl rfl rfl rfl ?_; refine WL_guardU rfl rfl rfl rfl ?_; refine WL_guardU rfl rfl rfl rfl ?_; refine WL_guardU rfl rfl rfl rfl ?_; refine WL_guardU rfl rfl rfl rfl ?_; refine WL_guardU rfl rfl rfl rfl ?_; refine WL_guardU rfl rfl rfl rfl ?_; refine WL_guardU rfl rfl rfl rfl ?_; refine WL_guardU rfl rfl rfl rfl ?_; refine WL_guardU rfl rfl rfl rfl ?_; refine WL_guardU rfl rfl rfl rfl ?_; refine WL_guardN rfl hb85 rfl rfl rfl ?_; refine WL_val (rn_pickT (v := (.bool true)) rfl hb85 rfl) rfl ?_; refine WL_val (rn_move (v := (.bool true)) rfl) rfl ?_; refine WL_guardY rfl rfl rfl rfl ?_; obtain ⟨y86, hy86, H⟩ := bnd H; refine WL_op rfl (OpP_callV cb17 (f17_ok  hS.sat  hy86) rfl rfl (fun w87 hb => ?_)); have hS := hS.keep hb; have hO := hO.below hb; refine WL_val (rn_pickT (v := (.bool y86)) rfl rfl rfl) rfl ?_; refine WL_val (rn_assign (v := (.bool y86)) rfl) rfl ?_; refine WL_nil ?_
             have hO : Owns G59 w87 w0.heap.size ([]) := hO
             have H := Option.some.inj H; subst H
             exact ⟨_, G59, upds_self _ _ ⟨rfl, trivial⟩, Gle.refl _, hS, hO⟩
            ·have H := ifF hb85 H; refine WL_guardY rfl hb85 rfl rfl ?_; refine WL_val (rn_move (v := (.int .i64 y79)) rfl) rfl ?_; refine WL_guardY rfl hb85 rfl rfl ?_; refine WL_val (rn_move (v := (.int .i64 y32.2.1)) rfl) rfl ?_; refine WL_guardY rfl hb85 rfl rfl ?_; refine WL_val (rn_eql rfl rfl) rfl ?_; refine WL_guardY rfl hb85 rfl rfl ?_; refine WL_val (rn_move (v := (.bool (y79 == y32.2.1))) rfl) rfl ?_
             rcases bcases (y79 == y32.2.1) with hb88 | hb88
             ·have H := ifT hb88 H; refine WL_guardY rfl hb88 rfl rfl ?_; refine WL_val (rn_move (v := (.slice a7 n7 c7)) rfl) rfl ?_; refine WL_guardY rfl hb88 rfl rfl ?_; refine WL_val (rn_len sl22 rfl rfl (h7.mono RInt_mono l0_6).1) rfl ?_; refine WL_guardY rfl hb88 rfl rfl ?_; refine WL_val (rn_move (v := (.slice a35 n35 c35)) rfl) rfl ?_; refine WL_guardY rfl hb88 rfl rfl ?_
              have l4_6 := leG55.trans leG59
              refine WL_val (rn_len sl22 rfl rfl (h35.mono RInt_mono l4_6).1) rfl ?_; refine WL_guardY rfl hb88 rfl rfl ?_; refine WL_val (rn_gtr rfl rfl) rfl ?_; refine WL_guardY rfl hb88 rfl rfl ?_; refine WL_val (rn_move (v := (.bool (decide ((y32.1.length : Int) < (x3.length : Int))))) rfl) rfl ?_
              rcases bcases (decide ((y32.1.length : Int) < (x3.length : Int))) with hb89 | hb89
              ·have H := ifT hb89 H; refine WL_guardN rfl hb89 rfl rfl rfl ?_; refine WL_guardN rfl hb89 rfl rfl rfl ?_; refine WL_guardN rfl hb89 rfl rfl rfl ?_; refine WL_guardN rfl hb89 rfl rfl rfl ?_; refine WL_guardN rfl hb89 rfl rfl rfl ?_; refine WL_guardN rfl hb89 rfl rfl rfl ?_; refine WL_guardU rfl rfl rfl rfl ?_; refine WL_guardU rfl rfl rfl rfl ?_; refine WL_guardU rfl rfl rfl rfl ?_; refine WL_guardU rfl rfl rfl rfl ?_; refine WL_guardN rfl hb89 rfl rfl rfl ?_; refine WL_guardY rfl hb88 rfl rfl ?_; refine WL_val (rn_pickT (v := (.bool true)) rfl hb89 rfl) rfl ?_; refine WL_guardY rfl hb85 rfl rfl ?_; refine WL_val (rn_pickT (v := (.bool true)) rfl hb88 rfl) rfl ?_; refine WL_val (rn_pickF (v := (.bool true)) rfl hb85 rfl) rfl ?_; refine WL_val (rn_move (v := (.bool true)) rfl) rfl ?_; refine WL_guardY rfl rfl rfl rfl ?_; obtain ⟨y90, hy90, H⟩ := bnd H; refine WL_op rfl (OpP_callV cb17 (f17_ok  hS.sat  hy90) rfl rfl (fun w91 hb => ?_)); have hS := hS.keep hb; have hO := hO.below hb; refine WL_val (rn_pickT (v := (.bool y90)) rfl rfl rfl) rfl ?_; refine WL_val (rn_assign (v := (.bool y90)) rfl) rfl ?_; refine WL_nil ?_
               have hO : Owns G59 w91 w0.heap.size ([]) := hO
               have H := Option.some.inj H; subst H
               exact ⟨_, G59, upds_self _ _ ⟨rfl, trivial⟩, Gle.refl _, hS, hO⟩
              ·have H := ifF hb89 H; refine WL_guardY rfl hb89 rfl rfl ?_; refine WL_val (rn_move (v := (.slice a7 n7 c7)) rfl) rfl ?_; refine WL_guardY rfl hb89 rfl rfl ?_; refine WL_val (rn_len sl22 rfl rfl (h7.mono RInt_mono l0_6).1) rfl ?_; refine WL_guardY rfl hb89 rfl rfl ?_; refine WL_val (rn_move (v := (.slice a35 n35 c35)) rfl) rfl ?_; refine WL_guardY rfl hb89 rfl rfl ?_; refine WL_val (rn_len sl22 rfl rfl (h35.mono RInt_mono l4_6).1) rfl ?_; refine WL_guardY rfl hb89 rfl rfl ?_; refine WL_val (rn_eql rfl rfl) rfl ?_; refine WL_guardY rfl hb89 rfl rfl ?_; refine WL_val (rn_move (v := (.bool ((x3.length : Int) == (y32.1.length : Int)))) rfl) rfl ?_
               rcases bcases ((x3.length : Int) == (y32.1.length : Int)) with hb92 | hb92
               ·have H := ifT hb92 H; refine WL_guardY rfl hb92 rfl rfl ?_; refine WL_val (rn_move (v := (.slice a7 n7 c7)) rfl) rfl ?_; refine WL_guardY rfl hb92 rfl rfl ?_; refine WL_val (rn_move (v := (.slice a35 n35 c35)) rfl) rfl ?_; refine WL_guardY rfl hb92 rfl rfl ?_; obtain ⟨y93, hy93, H⟩ := bnd H; refine WL_op rfl (OpP_callV cb43 (f43_ok (x0 := x3) (x1 := y32.1) hS.sat (h7.mono RInt_mono l0_6) (h35.mono RInt_mono l4_6) hy93) rfl rfl (fun w94 hb => ?_)); have hS := hS.keep hb; have hO := hO.below hb; refine WL_guardY rfl hb92 rfl rfl ?_; refine WL_val (rn_not rfl) rfl ?_; refine WL_guardY rfl hb89 rfl rfl ?_; refine WL_val (rn_pickT (v := (.bool (!y93))) rfl hb92 rfl) rfl ?_; refine WL_guardY rfl hb88 rfl rfl ?_; refine WL_val (rn_pickF (v := (.bool (!y93))) rfl hb89 rfl) rfl ?_; refine WL_guardY rfl hb85 rfl rfl ?_; refine WL_val (rn_pickT (v := (.bool (!y93))) rfl hb88 rfl) rfl ?_; refine WL_val (rn_pickF (v := (.bool (!y93))) rfl hb85 rfl) rfl ?_; refine WL_val (rn_move (v := (.bool (!y93))) rfl) rfl ?_
                rcases bcases (!y93) with hb95 | hb95
                ·have H := ifT hb95 H; refine WL_guardY rfl hb95 rfl rfl ?_; obtain ⟨y96, hy96, H⟩ := bnd H; refine WL_op rfl (OpP_callV cb17 (f17_ok  hS.sat  hy96) rfl rfl (fun w97 hb => ?_)); have hS := hS.keep hb; have hO := hO.below hb; refine WL_val (rn_pickT (v := (.bool y96)) rfl hb95 rfl) rfl ?_; refine WL_val (rn_assign (v := (.bool y96)) rfl) rfl ?_; refine WL_nil ?_
                 have hO : Owns G59 w97 w0.heap.size ([]) := hO
                 have H := Option.some.inj H; subst H
                 exact ⟨_, G59, upds_self _ _ ⟨rfl, trivial⟩, Gle.refl _, hS, hO⟩
                ·have H := ifF hb95 H; refine WL_guardN rfl hb95 rfl rfl rfl ?_; refine WL_val (rn_pickF (v := (.bool false)) rfl hb95 rfl) rfl ?_; refine WL_val (rn_assign (v := (.bool false)) rfl) rfl ?_; refine WL_nil ?_
                 have hO : Owns G59 w94 w0.heap.size ([]) := hO
                 have H := Option.some.inj H; subst H
                 exact ⟨_, G59, upds_self _ _ ⟨rfl, trivial⟩, Gle.refl _, hS, hO⟩
               ·have H := ifF hb92 H; refine WL_guardN rfl hb92 rfl rfl rfl ?_; refine WL_guardN rfl hb92 rfl rfl rfl ?_; refine WL_guardN rfl hb92 rfl rfl rfl ?_; refine WL_guardN rfl hb92 rfl rfl rfl ?_; refine WL_guardY rfl hb89 rfl rfl ?_; refine WL_val (rn_pickF (v := (.bool false)) rfl hb92 rfl) rfl ?_; refine WL_guardY rfl hb88 rfl rfl ?_; refine WL_val (rn_pickF (v := (.bool false)) rfl hb89 rfl) rfl ?_; refine WL_guardY rfl hb85 rfl rfl ?_; refine WL_val (rn_pickT (v := (.bool false)) rfl hb88 rfl) rfl ?_; refine WL_val (rn_pickF (v := (.bool false)) rfl hb85 rfl) rfl ?_; refine WL_val (rn_move (v := (.bool false)) rfl) rfl ?_; refine WL_guardN rfl rfl rfl rfl rfl ?_; refine WL_val (rn_pickF (v := (.bool false)) rfl rfl rfl) rfl ?_; refine WL_val (rn_assign (v := (.bool false)) rfl) rfl ?_; refine WL_nil ?_
                have hO : Owns G59 w80 w0.heap.size ([]) := hO
                have H := Option.some.inj H; subst H
                exact ⟨_, G59, upds_self _ _ ⟨rfl, trivial⟩, Gle.refl _, hS, hO⟩
             ·have H := ifF hb88 H; refine WL_guardN rfl hb88 rfl rfl rfl ?_; refine WL_guardN rfl hb88 rfl rfl rfl ?_; refine WL_guardN rfl hb88 rfl rfl rfl ?_; refine WL_guardN rfl hb88 rfl rfl rfl ?_; refine WL_guardN rfl hb88 rfl rfl rfl ?_; refine WL_guardN rfl hb88 rfl rfl rfl ?_; refine WL_guardU rfl rfl rfl rfl ?_; refine WL_guardU rfl rfl rfl rfl ?_; refine WL_guardU rfl rfl rfl rfl ?_; refine WL_guardU rfl rfl rfl rfl ?_; refine WL_guardU rfl rfl rfl rfl ?_; refine WL_guardU rfl rfl rfl rfl ?_; refine WL_guardU rfl rfl rfl rfl ?_; refine WL_guardU rfl rfl rfl rfl ?_; refine WL_guardU rfl rfl rfl rfl ?_; refine WL_guardU rfl rfl rfl rfl ?_; refine WL_guardU rfl rfl rfl rfl ?_; refine WL_guardN rfl hb88 rfl rfl rfl ?_; refine WL_guardY rfl hb85 rfl rfl ?_; refine WL_val (rn_pickF (v := (.bool false)) rfl hb88 rfl) rfl ?_; refine WL_val (rn_pickF (v := (.bool false)) rfl hb85 rfl) rfl ?_; refine WL_val (rn_move (v := (.bool false)) rfl) rfl ?_; refine WL_guardN rfl rfl rfl rfl rfl ?_; refine WL_val (rn_pickF (v := (.bool false)) rfl rfl rfl) rfl ?_; refine WL_val (rn_assign (v := (.bool false)) rfl) rfl ?_; refine WL_nil ?_
              have hO : Owns G59 w80 w0.heap.size ([]) := hO
              have H := Option.some.inj H; subst H
              exact ⟨_, G59, upds_self _ _ ⟨rfl, trivial⟩, Gle.refl _, hS, hO⟩
          ·rintro F w98 ⟨Fb, G99, rfl, leG99, hS, hO⟩
           refine WC_ret ?_
           have H : some q81 = some r := H
           have H := Option.some.inj H; subst H
           exact ⟨rfl, hS.below⟩
end Go.Proofs.Ytajejmbnmphngaa
