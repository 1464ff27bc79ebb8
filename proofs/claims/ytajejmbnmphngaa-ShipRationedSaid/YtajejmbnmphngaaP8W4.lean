/-
  The walks: each Go function computes its plain function (printed by a program of ours).
-/
import Derived.Test.YtajejmbnmphngaaRd
import Derived.Test.YtajejmbnmphngaaBaseL
import Derived.Test.YtajejmbnmphngaaP8W3
namespace Go.Proofs.Ytajejmbnmphngaa
open Go.RowKit
set_option linter.unusedVariables false

set_option maxRecDepth 20000
set_option linter.unusedVariables false
set_option maxHeartbeats 1000000 in
theorem f27_ok {G0 : Gm} {w0 : World} (hS0 : Sat G0 w0) {x0 : TShipStore} {a1 : Option Addr} {n1 c1 : Nat} {a2 : Option Addr} {n2 c2 : Nat} {a3 : Option Addr} {n3 c3 : Nat} {x1 : (List Int)} {a4 : Option Addr} {n4 c4 : Nat} {x2 : Int} (h1 : RSl RInt 1 G0 a1 n1 c1 x0.Stock) (h2 : RSl RTSpan 2 G0 a2 n2 c2 x0.Use) (h3 : RSl RTShipLot 3 G0 a3 n3 c3 x0.Lots) (h4 : RSl RInt 1 G0 a4 n4 c4 x1) {r : Bool} (H : f27 x0 x1 x2 = some r) :
  Calls Try.prog 27 #[.agg #[.slice a1 n1 c1, .slice a2 n2 c2, .int .i64 x0.Gap.Low, .int .i64 x0.Gap.High, .slice a3 n3 c3, .int .i64 x0.Hold], .slice a4 n4 c4, .int .i64 x2] w0 (RetV w0 (.bool r)) := by
 have hS := Since.start hS0
 have hO : Owns G0 w0 w0.heap.size [] := Owns.nil (Nat.le_refl _)
 unfold f27 at H
 refine enter1 (N := 18) (shutV _ _) Try.func27 rfl rfl rfl rfl ?_; refine WC_seq ?_; refine WC_region ?_; refine WL_op rfl (OpP_newF (v := fun b => .pointer (some ⟨b, 0, none⟩)) (cs := [.slice a1 n1 c1, .slice a2 n2 c2, .int .i64 x0.Gap.Low, .int .i64 x0.Gap.High, .slice a3 n3 c3, .int .i64 x0.Hold]) (e := 42) (rn_boxA rfl) hS.sat rfl (fun b5 G7 w6 hg hcb5 => ?_)); have hS := hS.grow hg; have hO := hO.grow hg
 have leG7 := hg.le
 refine WL_val (rn_assign (v := (.bool false)) rfl) rfl ?_; refine WL_nil ?_; refine WC_seq ?_; obtain ⟨q8, hq8, H⟩ := bnd H; refine WC_cut (fun F w => ∃ (Fb : Fr) (G : Gm), F = upds Fb [(6, .bool q8)] ∧ Gle G7 G ∧ Since w0.heap.size G0 w0 G w ∧ Owns G w w0.heap.size []) ?_ ?_
 ·have Hoq8 := H; have H := hq8; refine WC_region ?_; refine WL_val (rn_loadA ag42 (cs := [.slice a1 n1 c1, .slice a2 n2 c2, .int .i64 x0.Gap.Low, .int .i64 x0.Gap.High, .slice a3 n3 c3, .int .i64 x0.Hold]) rfl rfl (fun j v hj => hS.sat.cell (hcb5.drop_take 0 6 j v hj))) rfl ?_; obtain ⟨y9, hy9, H⟩ := bnd H; refine WL_op rfl (OpP_callV cb36 (f36_ok (x0 := x0) hS.sat (h1.mono RInt_mono leG7) (h2.mono RTSpan_mono leG7) (h3.mono RTShipLot_mono leG7) hy9) rfl rfl (fun w10 hb => ?_)); have hS := hS.keep hb; have hO := hO.below hb; refine WL_val (rn_move (v := (.bool y9)) rfl) rfl ?_
  rcases bcases y9 with hb11 | hb11
  ·have H := ifT hb11 H; refine WL_guardY rfl hb11 rfl rfl ?_; refine WL_val (rn_loadA ag42 (cs := [.slice a1 n1 c1, .slice a2 n2 c2, .int .i64 x0.Gap.Low, .int .i64 x0.Gap.High, .slice a3 n3 c3, .int .i64 x0.Hold]) rfl rfl (fun j v hj => hS.sat.cell (hcb5.drop_take 0 6 j v hj))) rfl ?_; refine WL_guardY rfl hb11 rfl rfl ?_; refine WL_val (rn_move (v := (.slice a4 n4 c4)) rfl) rfl ?_; refine WL_guardY rfl hb11 rfl rfl ?_; obtain ⟨y12, hy12, H⟩ := bnd H; refine WL_op rfl (OpP_callV cb42 (f42_ok (x0 := x0) (x1 := x1) hS.sat (h1.mono RInt_mono leG7) (h2.mono RTSpan_mono leG7) (h3.mono RTShipLot_mono leG7) (h4.mono RInt_mono leG7) hy12) rfl rfl (fun w13 hb => ?_)); have hS := hS.keep hb; have hO := hO.below hb; refine WL_val (rn_pickT (v := (.bool y12)) rfl hb11 rfl) rfl ?_; refine WL_val (rn_move (v := (.bool y12)) rfl) rfl ?_
   rcases bcases y12 with hb14 | hb14
   ·have H := ifT hb14 H; refine WL_guardY rfl hb14 rfl rfl ?_; refine WL_val (rn_move (v := (.int .i64 x2)) rfl) rfl ?_; refine WL_guardY rfl hb14 rfl rfl ?_; obtain ⟨y15, hy15, H⟩ := bnd H; refine WL_op rfl (OpP_callV cb37 (f37_ok (x0 := x2) hS.sat  hy15) rfl rfl (fun w16 hb => ?_)); have hS := hS.keep hb; have hO := hO.below hb; refine WL_val (rn_pickT (v := (.bool y15)) rfl hb14 rfl) rfl ?_; refine WL_val (rn_assign (v := (.bool y15)) rfl) rfl ?_; refine WL_nil ?_
    have hO : Owns G7 w16 w0.heap.size ([]) := hO
    have H := Option.some.inj H; subst H
    exact ⟨_, G7, upds_self _ _ ⟨rfl, trivial⟩, Gle.refl _, hS, hO⟩
   ·have H := ifF hb14 H; refine WL_guardN rfl hb14 rfl rfl rfl ?_; refine WL_guardN rfl hb14 rfl rfl rfl ?_; refine WL_val (rn_pickF (v := (.bool false)) rfl hb14 rfl) rfl ?_; refine WL_val (rn_assign (v := (.bool false)) rfl) rfl ?_; refine WL_nil ?_
    have hO : Owns G7 w13 w0.heap.size ([]) := hO
    have H := Option.some.inj H; subst H
    exact ⟨_, G7, upds_self _ _ ⟨rfl, trivial⟩, Gle.refl _, hS, hO⟩
  ·have H := ifF hb11 H; refine WL_guardN rfl hb11 rfl rfl rfl ?_; refine WL_guardN rfl hb11 rfl rfl rfl ?_; refine WL_guardN rfl hb11 rfl rfl rfl ?_; refine WL_val (rn_pickF (v := (.bool false)) rfl hb11 rfl) rfl ?_; refine WL_val (rn_move (v := (.bool false)) rfl) rfl ?_; refine WL_guardN rfl rfl rfl rfl rfl ?_; refine WL_guardN rfl rfl rfl rfl rfl ?_; refine WL_val (rn_pickF (v := (.bool false)) rfl rfl rfl) rfl ?_; refine WL_val (rn_assign (v := (.bool false)) rfl) rfl ?_; refine WL_nil ?_
   have hO : Owns G7 w10 w0.heap.size ([]) := hO
   have H := Option.some.inj H; subst H
   exact ⟨_, G7, upds_self _ _ ⟨rfl, trivial⟩, Gle.refl _, hS, hO⟩
 ·rintro F w17 ⟨Fb, G18, rfl, leG18, hS, hO⟩
  refine WC_ret ?_
  have H : some q8 = some r := H
  have H := Option.some.inj H; subst H
  exact ⟨rfl, hS.below⟩
set_option maxHeartbeats 1000000 in
theorem f28_ok {G0 : Gm} {w0 : World} (hS0 : Sat G0 w0) {x0 : TShipStore} {a1 : Option Addr} {n1 c1 : Nat} {a2 : Option Addr} {n2 c2 : Nat} {a3 : Option Addr} {n3 c3 : Nat} {x1 : Int} {x2 : TShipTruth} {a4 : Option Addr} {n4 c4 : Nat} {a5 : Option Addr} {n5 c5 : Nat} {a6 : Option Addr} {n6 c6 : Nat} (h1 : RSl RInt 1 G0 a1 n1 c1 x0.Stock) (h2 : RSl RTSpan 2 G0 a2 n2 c2 x0.Use) (h3 : RSl RTShipLot 3 G0 a3 n3 c3 x0.Lots) (h4 : RSl RInt 1 G0 a4 n4 c4 x2.Uses) (h5 : RSl RInt 1 G0 a5 n5 c5 x2.Gaps) (h6 : RSl (RSlice RInt 1) 1 G0 a6 n6 c6 x2.Goods) {r : Bool} (H : f28 x0 x1 x2 = some r) :
  Calls Try.prog 28 #[.agg #[.slice a1 n1 c1, .slice a2 n2 c2, .int .i64 x0.Gap.Low, .int .i64 x0.Gap.High, .slice a3 n3 c3, .int .i64 x0.Hold], .int .i64 x1, .agg #[.slice a4 n4 c4, .slice a5 n5 c5, .slice a6 n6 c6]] w0 (RetV w0 (.bool r)) := by
 have hS := Since.start hS0
 have hO : Owns G0 w0 w0.heap.size [] := Owns.nil (Nat.le_refl _)
 unfold f28 at H
 refine enter1 (N := 141) (shutV _ _) Try.func28 rfl rfl rfl rfl ?_; refine WC_seq ?_; refine WC_region ?_; refine WL_op rfl (OpP_newF (v := fun b => .pointer (some ⟨b, 0, none⟩)) (cs := [.slice a1 n1 c1, .slice a2 n2 c2, .int .i64 x0.Gap.Low, .int .i64 x0.Gap.High, .slice a3 n3 c3, .int .i64 x0.Hold]) (e := 42) (rn_boxA rfl) hS.sat rfl (fun b7 G9 w8 hg hcb7 => ?_)); have hS := hS.grow hg; have hO := hO.grow hg
 have leG9 := hg.le
 refine WL_op rfl (OpP_newF (v := fun b => .pointer (some ⟨b, 0, none⟩)) (cs := [.slice a4 n4 c4, .slice a5 n5 c5, .slice a6 n6 c6]) (e := 45) (rn_boxA rfl) hS.sat rfl (fun b10 G12 w11 hg hcb10 => ?_)); have hS := hS.grow hg; have hO := hO.grow hg
 have leG12 := hg.le
 refine WL_val (rn_assign (v := (.bool false)) rfl) rfl ?_; refine WL_nil ?_; refine WC_seq ?_; refine WC_seq ?_; obtain ⟨q13, hq13, H⟩ := bnd H; refine WC_cut (fun F w => ∃ (Fb : Fr), F = upds Fb [(1, .int .i64 x1), (3, .pointer (some ⟨b7, 0, none⟩)), (5, .pointer (some ⟨b10, 0, none⟩)), (34, .bool q13)] ∧ w11 = w) ?_ ?_
 ·have Hoq13 := H; have H := hq13; refine WC_region ?_; refine WL_val (rn_fld fd45_0 rfl) rfl ?_; refine WL_val (rn_load na22 rfl (hS.sat.cell (hcb10 0 _ rfl))) rfl ?_
  have l0_2 := leG9.trans leG12
  refine WL_val (rn_len sl22 rfl rfl (h4.mono RInt_mono l0_2).1) rfl ?_; refine WL_val (rn_fld fd42_0 rfl) rfl ?_; refine WL_val (rn_load na22 rfl ((hS.sat.le leG12).cell (hcb7 0 _ rfl))) rfl ?_; refine WL_val (rn_len sl22 rfl rfl (h1.mono RInt_mono l0_2).1) rfl ?_; refine WL_val (rn_neq rfl rfl) rfl ?_; refine WL_val (rn_move (v := (.bool ((x2.Uses.length : Int) != (x0.Stock.length : Int)))) rfl) rfl ?_
  rcases bcases ((x2.Uses.length : Int) != (x0.Stock.length : Int)) with hb14 | hb14
  ·have H := ifT hb14 H; refine WL_guardN rfl hb14 rfl rfl rfl ?_; refine WL_guardN rfl hb14 rfl rfl rfl ?_; refine WL_guardN rfl hb14 rfl rfl rfl ?_; refine WL_guardN rfl hb14 rfl rfl rfl ?_; refine WL_guardN rfl hb14 rfl rfl rfl ?_; refine WL_guardN rfl hb14 rfl rfl rfl ?_; refine WL_guardN rfl hb14 rfl rfl rfl ?_; refine WL_val (rn_pickT (v := (.bool true)) rfl hb14 rfl) rfl ?_; refine WL_val (rn_move (v := (.bool true)) rfl) rfl ?_; refine WL_guardN rfl rfl rfl rfl rfl ?_; refine WL_guardN rfl rfl rfl rfl rfl ?_; refine WL_guardN rfl rfl rfl rfl rfl ?_; refine WL_guardN rfl rfl rfl rfl rfl ?_; refine WL_val (rn_pickT (v := (.bool true)) rfl rfl rfl) rfl ?_; refine WL_nil ?_; have H := Option.some.inj H; subst H
   exact ⟨_, upds_self _ _ ⟨rfl, rfl, rfl, rfl, trivial⟩, rfl⟩
  ·have H := ifF hb14 H; refine WL_guardY rfl hb14 rfl rfl ?_; refine WL_val (rn_fld fd45_2 rfl) rfl ?_; refine WL_guardY rfl hb14 rfl rfl ?_; refine WL_val (rn_load na43 rfl (hS.sat.cell (hcb10 2 _ rfl))) rfl ?_; refine WL_guardY rfl hb14 rfl rfl ?_; refine WL_val (rn_len sl43 rfl rfl (h6.mono (RSlice_mono RInt_mono) l0_2).1) rfl ?_; refine WL_guardY rfl hb14 rfl rfl ?_; refine WL_val (rn_fld fd42_3 rfl) rfl ?_; refine WL_guardY rfl hb14 rfl rfl ?_; refine WL_val (rn_load na40 rfl ((hS.sat.le leG12).cell (hcb7 4 _ rfl))) rfl ?_; refine WL_guardY rfl hb14 rfl rfl ?_; refine WL_val (rn_len sl40 rfl rfl (h3.mono RTShipLot_mono l0_2).1) rfl ?_; refine WL_guardY rfl hb14 rfl rfl ?_; refine WL_val (rn_neq rfl rfl) rfl ?_; refine WL_val (rn_pickF (v := (.bool ((x2.Goods.length : Int) != (x0.Lots.length : Int)))) rfl hb14 rfl) rfl ?_; refine WL_val (rn_move (v := (.bool ((x2.Goods.length : Int) != (x0.Lots.length : Int)))) rfl) rfl ?_
   rcases bcases ((x2.Goods.length : Int) != (x0.Lots.length : Int)) with hb15 | hb15
   ·have H := ifT hb15 H; refine WL_guardN rfl hb15 rfl rfl rfl ?_; refine WL_guardN rfl hb15 rfl rfl rfl ?_; refine WL_guardN rfl hb15 rfl rfl rfl ?_; refine WL_guardN rfl hb15 rfl rfl rfl ?_; refine WL_val (rn_pickT (v := (.bool true)) rfl hb15 rfl) rfl ?_; refine WL_nil ?_; have H := Option.some.inj H; subst H
    exact ⟨_, upds_self _ _ ⟨rfl, rfl, rfl, rfl, trivial⟩, rfl⟩
   ·have H := ifF hb15 H; refine WL_guardY rfl hb15 rfl rfl ?_; refine WL_val (rn_fld fd45_1 rfl) rfl ?_; refine WL_guardY rfl hb15 rfl rfl ?_; refine WL_val (rn_load na22 rfl (hS.sat.cell (hcb10 1 _ rfl))) rfl ?_; refine WL_guardY rfl hb15 rfl rfl ?_; refine WL_val (rn_len sl22 rfl rfl (h5.mono RInt_mono l0_2).1) rfl ?_; refine WL_guardY rfl hb15 rfl rfl ?_; refine WL_val (rn_gtr rfl rfl) rfl ?_; refine WL_val (rn_pickF (v := (.bool (decide (300 < (x2.Gaps.length : Int))))) rfl hb15 rfl) rfl ?_; refine WL_nil ?_; have H := Option.some.inj H; subst H
    exact ⟨_, upds_self _ _ ⟨rfl, rfl, rfl, rfl, trivial⟩, rfl⟩
 ·rintro F wl ⟨Fb, rfl, rfl⟩
  refine WC_cond rfl (fun hb18 => ?_) (fun hb18 => ?_)
  ·have H := ifT hb18 H; refine WC_seq ?_; refine WC_region ?_; refine WL_val (rn_assign (v := (.bool false)) rfl) rfl ?_; refine WL_nil ?_; refine WC_ret ?_
   have H : some false = some r := H
   have H := Option.some.inj H; subst H
   exact ⟨rfl, hS.below⟩
  ·have H := ifF hb18 H; refine WC_skip ?_; refine WC_seq ?_; refine WC_seq ?_; refine WC_region ?_; refine WL_val (rn_assign (v := (.int .i64 0)) rfl) rfl ?_; refine WL_nil ?_; obtain ⟨q21, hq21, H⟩ := bnd H; refine WC_cut (fun F w => ∃ (p20 : Unit) (Fb : Fr) (G : Gm), q21 = .inl p20 ∧ F = upds Fb [(1, .int .i64 x1), (3, .pointer (some ⟨b7, 0, none⟩)), (5, .pointer (some ⟨b10, 0, none⟩))] ∧ Gle G12 G ∧ Since w0.heap.size G0 w0 G w ∧ Owns G w w0.heap.size []) ?_ ?_
   ·refine WC_block (WC_loop hq21 (fun s19 F w => ∃ (Fb : Fr) (G : Gm), F = upds Fb [(1, .int .i64 x1), (3, .pointer (some ⟨b7, 0, none⟩)), (5, .pointer (some ⟨b10, 0, none⟩)), (7, .int .i64 s19)] ∧ Gle G12 G ∧ Since w0.heap.size G0 w0 G w ∧ Owns G w w0.heap.size []) ?_ ?_)
    ·have hO : Owns G12 w11 w0.heap.size ([]) := hO
     exact ⟨_, G12, upds_self _ _ ⟨rfl, rfl, rfl, rfl, trivial⟩, Gle.refl _, hS, hO⟩
    ·rintro s19 F w23 t22 ⟨Fb, G24, rfl, leG24, hS, hO⟩
     intro H1 hqq21
     have Hoq21 := H; have H := H1
     unfold f28_b0 at H
     refine WC_seq ?_; refine WC_seq ?_; refine WC_region ?_; refine WL_val (rn_move (v := (.int .i64 s19)) rfl) rfl ?_; refine WL_val (rn_fld fd45_0 rfl) rfl ?_; refine WL_val (rn_load na22 rfl ((hS.sat.le leG24).cell (hcb10 0 _ rfl))) rfl ?_
     have l0_3 := (leG9.trans leG12).trans leG24
     refine WL_val (rn_len sl22 rfl rfl (h4.mono RInt_mono l0_3).1) rfl ?_; refine WL_val (rn_lss rfl rfl) rfl ?_; refine WL_nil ?_; refine WC_cond rfl (fun hb25 => ?_) (fun hb25 => ?_)
     ·have H := ifT hb25 H; refine WC_skip ?_; refine WC_seq ?_; refine WC_block ?_; refine WC_seq ?_; have hS := hS.keep (below_drew _); have hO := hO.below (below_drew _)
      refine WC_regionD mixedO (fun _ w => Sat G24 w ∧ True) (.fl 0 (.fl 1 (.fl 2 (.fl 3 (.fl 4 (.fl 5 (.fl 6 (.fl 7 (.fl 8 (.fl 9 (.fl 10 (.fl 11 (.fl 12 (.on 13 (.on 14 (.on 15 (.on 16 (.on 17 (.on 18 .nil))))))))))))))))))) (by kernel_rfl) rfl (by kernel_rfl) (fun _ => ⟨hS.sat, trivial⟩) ?_
      refine WD_val rfl (fun w hw => rn_fld fd45_0 rfl) rfl ?_; refine WD_val rfl (fun w hw => rn_load na22 rfl ((hw.1.le leG24).cell (hcb10 0 _ rfl))) rfl ?_; refine WD_val rfl (fun w hw => rn_move (v := (.int .i64 s19)) rfl) rfl ?_; obtain ⟨y26, hy26, H⟩ := bnd H; refine WD_idx rfl sl22 (h4.mono RInt_mono l0_3) hy26 rfl rfl rfl ?_
      rintro b27 o27 _ hcb27 _ ⟨⟩
      refine WD_val rfl (fun w hw => rn_load na3 rfl (hw.1.cell (hcb27 0 _ rfl))) rfl ?_; refine WD_val rfl (fun w hw => rn_fld fd42_1 rfl) rfl ?_; refine WD_val rfl (fun w hw => rn_load na23 rfl ((hw.1.le (leG12.trans leG24)).cell (hcb7 1 _ rfl))) rfl ?_; refine WD_val rfl (fun w hw => rn_move (v := (.int .i64 s19)) rfl) rfl ?_; obtain ⟨y28, hy28, H⟩ := bnd H; refine WD_idx rfl sl23 (h2.mono RTSpan_mono l0_3) hy28 rfl rfl rfl ?_
      rintro b29 o29 _ hcb29 _ ⟨⟩
      refine WD_val rfl (fun w hw => rn_fld fd25_0 rfl) rfl ?_; refine WD_val rfl (fun w hw => rn_load na3 rfl (hw.1.cell (hcb29 0 _ rfl))) rfl ?_; refine WD_val rfl (fun w hw => rn_fld fd42_1 rfl) rfl ?_; refine WD_val rfl (fun w hw => rn_load na23 rfl ((hw.1.le (leG12.trans leG24)).cell (hcb7 1 _ rfl))) rfl ?_; refine WD_op rfl rfl (OpP_val (rn_move (v := (.int .i64 s19)) rfl) rfl ?_); refine ⟨fun _ _ => ⟨hS.sat, trivial⟩, ?_⟩; refine WD_op rfl rfl (OpP_idx sl23 (h2.mono RTSpan_mono l0_3) hy28 rfl rfl rfl ?_)
      rintro b30 o30 _ hcb30 _ ⟨⟩
      refine ⟨fun _ _ => ⟨hS.sat, trivial⟩, ?_⟩; refine WD_op rfl rfl (OpP_val (rn_fld fd25_1 rfl) rfl ?_); refine ⟨fun _ _ => ⟨hS.sat, trivial⟩, ?_⟩; refine WD_op rfl rfl (OpP_val (rn_load na3 rfl (hS.sat.cell (hcb30 1 _ rfl))) rfl ?_); refine ⟨fun _ _ => ⟨hS.sat, trivial⟩, ?_⟩; obtain ⟨y31, hy31, H⟩ := bnd H; refine WD_op rfl rfl (OpP_callV cb65 (f65_ok (x0 := y26) (x1 := y28.Low) (x2 := y28.High) hS.sat  hy31) rfl rfl (fun w32 hb => ?_)); have hS := hS.keep hb; have hO := hO.below hb
      refine ⟨fun _ h => noneed (by kernel_rfl) h, ?_⟩
      refine WD_op rfl rfl (OpP_val (rn_not rfl) rfl ?_)
      refine ⟨fun _ h => noneed (by kernel_rfl) h, ?_⟩
      refine WD_nil ?_; refine WC_cond rfl (fun hb33 => ?_) (fun hb33 => ?_)
      ·have H := ifT hb33 H; refine WC_seq ?_; refine WC_region ?_; refine WL_val (rn_assign (v := (.bool false)) rfl) rfl ?_; refine WL_nil ?_; refine WC_ret ?_; have H := Option.some.inj H; subst H
       have hres := hqq21 _ rfl
       subst hres; have H := Hoq21
       have H : some false = some r := H
       have H := Option.some.inj H; subst H
       exact ⟨rfl, hS.below⟩
      ·have H := ifF hb33 H; refine WC_skip ?_; refine WC_region ?_; refine WL_val (rn_move (v := (.int .i64 s19)) rfl) rfl ?_; refine WL_val (rn_add rfl rfl) rfl ?_; refine WL_val (rn_assign (v := (.int .i64 (IntKind.i64.wrap (s19 + 1)))) rfl) rfl ?_; refine WL_nil ?_
       have hO : Owns G24 w32 w0.heap.size ([]) := hO
       have H := Option.some.inj H; subst H; refine ⟨_, rfl, ?_⟩
       exact ⟨_, G24, upds_self _ _ ⟨rfl, rfl, rfl, rfl, trivial⟩, leG24, hS, hO⟩
     ·have H := ifF hb25 H; refine WC_exit rfl ?_
      have hO : Owns G24 w23 w0.heap.size ([]) := hO
      have H := Option.some.inj H; subst H
      have hres := hqq21 _ rfl
      subst hres
      exact ⟨_, _, G24, rfl, upds_self _ _ ⟨rfl, rfl, rfl, trivial⟩, leG24, hS, hO⟩
   ·rintro F w34 ⟨p20, Fb, G35, rfl, rfl, leG35, hS, hO⟩
    refine WC_seq ?_; refine WC_seq ?_; refine WC_region ?_; refine WL_val (rn_assign (v := (.int .i64 0)) rfl) rfl ?_; refine WL_nil ?_; obtain ⟨q38, hq38, H⟩ := bnd H; refine WC_cut (fun F w => ∃ (p37 : Unit) (Fb : Fr) (G : Gm), q38 = .inl p37 ∧ F = upds Fb [(1, .int .i64 x1), (3, .pointer (some ⟨b7, 0, none⟩)), (5, .pointer (some ⟨b10, 0, none⟩))] ∧ Gle G35 G ∧ Since w0.heap.size G0 w0 G w ∧ Owns G w w0.heap.size []) ?_ ?_
    ·refine WC_block (WC_loop hq38 (fun s36 F w => ∃ (Fb : Fr) (G : Gm), F = upds Fb [(1, .int .i64 x1), (3, .pointer (some ⟨b7, 0, none⟩)), (5, .pointer (some ⟨b10, 0, none⟩)), (8, .int .i64 s36)] ∧ Gle G35 G ∧ Since w0.heap.size G0 w0 G w ∧ Owns G w w0.heap.size []) ?_ ?_)
     ·have hO : Owns G35 w34 w0.heap.size ([]) := hO
      exact ⟨_, G35, upds_self _ _ ⟨rfl, rfl, rfl, rfl, trivial⟩, Gle.refl _, hS, hO⟩
     ·rintro s36 F w40 t39 ⟨Fb, G41, rfl, leG41, hS, hO⟩
      intro H1 hqq38
      have Hoq38 := H; have H := H1
      unfold f28_b1 at H
      refine WC_seq ?_; refine WC_seq ?_; refine WC_region ?_; refine WL_val (rn_move (v := (.int .i64 s36)) rfl) rfl ?_; refine WL_val (rn_fld fd45_2 rfl) rfl ?_
      have l2_4 := leG35.trans leG41
      refine WL_val (rn_load na43 rfl ((hS.sat.le l2_4).cell (hcb10 2 _ rfl))) rfl ?_
      have l0_4 := (leG9.trans leG12).trans l2_4
      refine WL_val (rn_len sl43 rfl rfl (h6.mono (RSlice_mono RInt_mono) l0_4).1) rfl ?_; refine WL_val (rn_lss rfl rfl) rfl ?_; refine WL_nil ?_; refine WC_cond rfl (fun hb42 => ?_) (fun hb42 => ?_)
      ·have H := ifT hb42 H; refine WC_skip ?_; refine WC_seq ?_; refine WC_block ?_; refine WC_seq ?_; refine WC_seq ?_; have hS := hS.keep (below_drew _); have hO := hO.below (below_drew _)
       refine WC_regionD mixedO (fun _ w => Sat G41 w ∧ True) (.fl 0 (.fl 1 (.fl 2 (.fl 3 (.fl 4 (.fl 5 (.on 6 (.on 7 (.on 8 (.on 9 .nil)))))))))) (by kernel_rfl) rfl (by kernel_rfl) (fun _ => ⟨hS.sat, trivial⟩) ?_
       refine WD_val rfl (fun w hw => rn_fld fd45_2 rfl) rfl ?_; refine WD_val rfl (fun w hw => rn_load na43 rfl ((hw.1.le l2_4).cell (hcb10 2 _ rfl))) rfl ?_; refine WD_val rfl (fun w hw => rn_move (v := (.int .i64 s36)) rfl) rfl ?_; obtain ⟨y43, hy43, H⟩ := bnd H; refine WD_idx rfl sl43 (h6.mono (RSlice_mono RInt_mono) l0_4) hy43 rfl rfl rfl ?_
       rintro b44 o44 _ hcb44 _ ⟨a45, n45, c45, ⟨⟩, h45⟩
       refine WD_val rfl (fun w hw => rn_load na22 rfl (hw.1.cell (hcb44 0 _ rfl))) rfl ?_; refine WD_val rfl (fun w hw => rn_len sl22 rfl rfl h45.1) rfl ?_; refine WD_op rfl rfl (OpP_val (rn_fld fd42_0 rfl) rfl ?_); refine ⟨fun _ _ => ⟨hS.sat, trivial⟩, ?_⟩
       have l1_4 := leG12.trans l2_4
       refine WD_op rfl rfl (OpP_val (rn_load na22 rfl ((hS.sat.le l1_4).cell (hcb7 0 _ rfl))) rfl ?_); refine ⟨fun _ _ => ⟨hS.sat, trivial⟩, ?_⟩; refine WD_op rfl rfl (OpP_val (rn_len sl22 rfl rfl (h1.mono RInt_mono l0_4).1) rfl ?_); refine ⟨fun _ _ => ⟨hS.sat, trivial⟩, ?_⟩; refine WD_op rfl rfl (OpP_val (rn_neq rfl rfl) rfl ?_)
       refine ⟨fun _ h => noneed (by kernel_rfl) h, ?_⟩
       refine WD_nil ?_; refine WC_cond rfl (fun hb46 => ?_) (fun hb46 => ?_)
       ·have H := ifT hb46 H; refine WC_seq ?_; refine WC_region ?_; refine WL_val (rn_assign (v := (.bool false)) rfl) rfl ?_; refine WL_nil ?_; refine WC_ret ?_; have H := Option.some.inj H; subst H
        have hres := hqq38 _ rfl
        subst hres; have H := Hoq38
        have H : some false = some r := H
        have H := Option.some.inj H; subst H
        exact ⟨rfl, hS.below⟩
       ·have H := ifF hb46 H; refine WC_skip ?_; refine WC_seq ?_; refine WC_region ?_; refine WL_val (rn_assign (v := (.int .i64 0)) rfl) rfl ?_; refine WL_nil ?_; obtain ⟨q49, hq49, H⟩ := bnd H; refine WC_cut (fun F w => ∃ (p48 : Unit) (Fb : Fr) (G : Gm), q49 = .inl p48 ∧ F = upds Fb [(1, .int .i64 x1), (3, .pointer (some ⟨b7, 0, none⟩)), (5, .pointer (some ⟨b10, 0, none⟩)), (8, .int .i64 s36)] ∧ Gle G41 G ∧ Since w0.heap.size G0 w0 G w ∧ Owns G w w0.heap.size []) ?_ ?_
        ·refine WC_block (WC_loop hq49 (fun s47 F w => ∃ (Fb : Fr) (G : Gm), F = upds Fb [(1, .int .i64 x1), (3, .pointer (some ⟨b7, 0, none⟩)), (5, .pointer (some ⟨b10, 0, none⟩)), (8, .int .i64 s36), (9, .int .i64 s47)] ∧ Gle G41 G ∧ Since w0.heap.size G0 w0 G w ∧ Owns G w w0.heap.size []) ?_ ?_)
         ·have hO : Owns G41 w40.drew w0.heap.size ([]) := hO
          exact ⟨_, G41, upds_self _ _ ⟨rfl, rfl, rfl, rfl, rfl, trivial⟩, Gle.refl _, hS, hO⟩
         ·rintro s47 F w51 t50 ⟨Fb, G52, rfl, leG52, hS, hO⟩
          intro H1 hqq49
          have Hoq49 := H; have H := H1
          unfold f28_b2 at H
          refine WC_seq ?_; refine WC_seq ?_; refine WC_region ?_; refine WL_val (rn_move (v := (.int .i64 s47)) rfl) rfl ?_; refine WL_val (rn_fld fd45_2 rfl) rfl ?_
          have l2_5 := l2_4.trans leG52
          refine WL_val (rn_load na43 rfl ((hS.sat.le l2_5).cell (hcb10 2 _ rfl))) rfl ?_; refine WL_val (rn_move (v := (.int .i64 s36)) rfl) rfl ?_
          have l0_5 := l0_4.trans leG52
          refine WL_idx sl43 (h6.mono (RSlice_mono RInt_mono) l0_5) hy43 rfl rfl rfl ?_
          rintro b53 o53 _ hcb53 _ ⟨a54, n54, c54, ⟨⟩, h54⟩
          refine WL_val (rn_load na22 rfl (hS.sat.cell (hcb53 0 _ rfl))) rfl ?_; refine WL_val (rn_len sl22 rfl rfl h54.1) rfl ?_; refine WL_val (rn_lss rfl rfl) rfl ?_; refine WL_nil ?_; refine WC_cond rfl (fun hb55 => ?_) (fun hb55 => ?_)
          ·have H := ifT hb55 H; refine WC_skip ?_; refine WC_seq ?_; refine WC_block ?_; refine WC_seq ?_; refine WC_region ?_; refine WL_val (rn_fld fd42_3 rfl) rfl ?_
           have l1_5 := l1_4.trans leG52
           refine WL_val (rn_load na40 rfl ((hS.sat.le l1_5).cell (hcb7 4 _ rfl))) rfl ?_; refine WL_val (rn_move (v := (.int .i64 s36)) rfl) rfl ?_; obtain ⟨y56, hy56, H⟩ := bnd H; refine WL_idx sl40 (h3.mono RTShipLot_mono l0_5) hy56 rfl rfl rfl ?_
           rintro b57 o57 _ hcb57 _ ⟨a58, n58, c58, ⟨⟩, h58⟩
           refine WL_val (rn_fld fd111_0 rfl) rfl ?_; refine WL_val (rn_load na23 rfl (hS.sat.cell (hcb57 0 _ rfl))) rfl ?_; refine WL_val (rn_move (v := (.int .i64 s47)) rfl) rfl ?_; obtain ⟨y59, hy59, H⟩ := bnd H; refine WL_idx sl23 h58 hy59 rfl rfl rfl ?_
           rintro b60 o60 _ hcb60 _ ⟨⟩
           refine WL_val (rn_loadA ag25 (cs := [.int .i64 y59.Low, .int .i64 y59.High]) rfl rfl (fun j v hj => hS.sat.cell (hcb60.drop_take 0 2 j v hj))) rfl ?_
           refine WL_op rfl (OpP_newO (v := fun b => .pointer (some ⟨b, 0, none⟩)) (cs := [.int .i64 0, .int .i64 0]) (e := 25) (by kernel_rfl) hS.sat hO rfl 2 1 rfl (by decide) (fun b61 w62 hb hO => ?_))
           have hS := hS.keep hb; refine WL_op rfl (OpP_store (vs := [.int .i64 y59.Low, .int .i64 y59.High]) sz25 hS hO (k := 0) rfl rfl rfl rfl rfl (one_all rfl) (Nat.le_of_ble_eq_true rfl) (fun w64 hS hO => ?_))
           have hO : Owns G52 w64 w0.heap.size ([⟨25, 2, 1, .slice (some ⟨b61, 0, none⟩) 1 1, [.int .i64 y59.Low, .int .i64 y59.High]⟩]) := hO
           obtain ⟨G65, leG65, hS, hO, hqG65, _⟩ := hO.freeze hS (k := 0) rfl
           have hcG65 : Cells G65 b61 0 [.int .i64 y59.Low, .int .i64 y59.High] := (hqG65 _ _ _ _ rfl)
           refine WL_nil ?_; refine WC_seq ?_; have hS := hS.keep (below_drew _); have hO := hO.below (below_drew _)
           refine WC_regionD mixedO (fun _ w => Sat G65 w ∧ True) (.fl 0 (.fl 1 (.fl 2 (.fl 3 (.fl 4 (.fl 5 (.fl 6 (.fl 7 (.fl 8 (.fl 9 (.on 10 (.on 11 (.on 12 (.on 13 .nil)))))))))))))) (by kernel_rfl) rfl (by kernel_rfl) (fun _ => ⟨hS.sat, trivial⟩) ?_
           refine WD_val rfl (fun w hw => rn_fld fd45_2 rfl) rfl ?_; refine WD_val rfl (fun w hw => rn_load na43 rfl ((hw.1.le (l2_5.trans leG65)).cell (hcb10 2 _ rfl))) rfl ?_; refine WD_val rfl (fun w hw => rn_move (v := (.int .i64 s36)) rfl) rfl ?_
           have l0_6 := l0_5.trans leG65
           refine WD_idx rfl sl43 (h6.mono (RSlice_mono RInt_mono) l0_6) hy43 rfl rfl rfl ?_
           rintro b66 o66 _ hcb66 _ ⟨a67, n67, c67, ⟨⟩, h67⟩
           refine WD_val rfl (fun w hw => rn_load na22 rfl (hw.1.cell (hcb66 0 _ rfl))) rfl ?_; refine WD_val rfl (fun w hw => rn_move (v := (.int .i64 s47)) rfl) rfl ?_; obtain ⟨y68, hy68, H⟩ := bnd H; refine WD_idx rfl sl22 h67 hy68 rfl rfl rfl ?_
           rintro b69 o69 _ hcb69 _ ⟨⟩
           refine WD_val rfl (fun w hw => rn_load na3 rfl (hw.1.cell (hcb69 0 _ rfl))) rfl ?_; refine WD_val rfl (fun w hw => rn_fld fd25_0 rfl) rfl ?_; refine WD_val rfl (fun w hw => rn_load na3 rfl (hw.1.cell (hcG65 0 _ rfl))) rfl ?_; refine WD_op rfl rfl (OpP_val (rn_fld fd25_1 rfl) rfl ?_); refine ⟨fun _ _ => ⟨hS.sat, trivial⟩, ?_⟩; refine WD_op rfl rfl (OpP_val (rn_load na3 rfl (hS.sat.cell (hcG65 1 _ rfl))) rfl ?_); refine ⟨fun _ _ => ⟨hS.sat, trivial⟩, ?_⟩; obtain ⟨y70, hy70, H⟩ := bnd H; refine WD_op rfl rfl (OpP_callV cb65 (f65_ok (x0 := y68) (x1 := y59.Low) (x2 := y59.High) hS.sat  hy70) rfl rfl (fun w71 hb => ?_)); have hS := hS.keep hb; have hO := hO.below hb
           refine ⟨fun _ h => noneed (by kernel_rfl) h, ?_⟩
           refine WD_op rfl rfl (OpP_val (rn_not rfl) rfl ?_)
           refine ⟨fun _ h => noneed (by kernel_rfl) h, ?_⟩
           refine WD_nil ?_; refine WC_cond rfl (fun hb72 => ?_) (fun hb72 => ?_)
           ·have H := ifT hb72 H; refine WC_seq ?_; refine WC_region ?_; refine WL_val (rn_assign (v := (.bool false)) rfl) rfl ?_; refine WL_nil ?_; refine WC_ret ?_; have H := Option.some.inj H; subst H
            have hres := hqq49 _ rfl
            subst hres; have H := Hoq49; have H := Option.some.inj H; subst H
            have hres := hqq38 _ rfl
            subst hres; have H := Hoq38
            have H : some false = some r := H
            have H := Option.some.inj H; subst H
            exact ⟨rfl, hS.below⟩
           ·have H := ifF hb72 H; refine WC_skip ?_; refine WC_region ?_; refine WL_val (rn_move (v := (.int .i64 s47)) rfl) rfl ?_; refine WL_val (rn_add rfl rfl) rfl ?_; refine WL_val (rn_assign (v := (.int .i64 (IntKind.i64.wrap (s47 + 1)))) rfl) rfl ?_; refine WL_nil ?_
            have hO : Owns G65 w71 w0.heap.size ([]) := hO
            have H := Option.some.inj H; subst H; refine ⟨_, rfl, ?_⟩
            have l4_6 := leG52.trans leG65
            exact ⟨_, G65, upds_self _ _ ⟨rfl, rfl, rfl, rfl, rfl, trivial⟩, l4_6, hS, hO⟩
          ·have H := ifF hb55 H; refine WC_exit rfl ?_
           have hO : Owns G52 w51 w0.heap.size ([]) := hO
           have H := Option.some.inj H; subst H
           have hres := hqq49 _ rfl
           subst hres
           exact ⟨_, _, G52, rfl, upds_self _ _ ⟨rfl, rfl, rfl, rfl, trivial⟩, leG52, hS, hO⟩
        ·rintro F w73 ⟨p48, Fb, G74, rfl, rfl, leG74, hS, hO⟩
         refine WC_region ?_; refine WL_val (rn_move (v := (.int .i64 s36)) rfl) rfl ?_; refine WL_val (rn_add rfl rfl) rfl ?_; refine WL_val (rn_assign (v := (.int .i64 (IntKind.i64.wrap (s36 + 1)))) rfl) rfl ?_; refine WL_nil ?_
         have hO : Owns G74 w73 w0.heap.size ([]) := hO
         have H := Option.some.inj H; subst H; refine ⟨_, rfl, ?_⟩
         have l3_5 := leG41.trans leG74
         exact ⟨_, G74, upds_self _ _ ⟨rfl, rfl, rfl, rfl, trivial⟩, l3_5, hS, hO⟩
      ·have H := ifF hb42 H; refine WC_exit rfl ?_
       have hO : Owns G41 w40 w0.heap.size ([]) := hO
       have H := Option.some.inj H; subst H
       have hres := hqq38 _ rfl
       subst hres
       exact ⟨_, _, G41, rfl, upds_self _ _ ⟨rfl, rfl, rfl, trivial⟩, leG41, hS, hO⟩
    ·rintro F w76 ⟨p37, Fb, G77, rfl, rfl, leG77, hS, hO⟩
     refine WC_seq ?_; refine WC_region ?_; refine WL_val (rn_assign (v := (.int .i64 0)) rfl) rfl ?_; refine WL_nil ?_; refine WC_seq ?_; refine WC_seq ?_; refine WC_region ?_; refine WL_val (rn_assign (v := (.int .i64 0)) rfl) rfl ?_; refine WL_nil ?_; obtain ⟨q80, hq80, H⟩ := bnd H; refine WC_cut (fun F w => ∃ (p79 : Int) (Fb : Fr) (G : Gm), q80 = .inl p79 ∧ F = upds Fb [(1, .int .i64 x1), (11, .int .i64 p79)] ∧ Gle G77 G ∧ Since w0.heap.size G0 w0 G w ∧ Owns G w w0.heap.size []) ?_ ?_
     ·refine WC_block (WC_loop hq80 (fun s78 F w => ∃ (Fb : Fr) (G : Gm), F = upds Fb [(1, .int .i64 x1), (3, .pointer (some ⟨b7, 0, none⟩)), (5, .pointer (some ⟨b10, 0, none⟩)), (11, .int .i64 s78.1), (12, .int .i64 s78.2)] ∧ Gle G77 G ∧ Since w0.heap.size G0 w0 G w ∧ Owns G w w0.heap.size []) ?_ ?_)
      ·have hO : Owns G77 w76 w0.heap.size ([]) := hO
       exact ⟨_, G77, upds_self _ _ ⟨rfl, rfl, rfl, rfl, rfl, trivial⟩, Gle.refl _, hS, hO⟩
      ·rintro s78 F w82 t81 ⟨Fb, G83, rfl, leG83, hS, hO⟩
       intro H1 hqq80
       have Hoq80 := H; have H := H1
       unfold f28_b3 at H
       refine WC_seq ?_; refine WC_seq ?_; refine WC_region ?_; refine WL_val (rn_move (v := (.int .i64 s78.2)) rfl) rfl ?_; refine WL_val (rn_fld fd45_1 rfl) rfl ?_
       have l2_5 := (leG35.trans leG77).trans leG83
       refine WL_val (rn_load na22 rfl ((hS.sat.le l2_5).cell (hcb10 1 _ rfl))) rfl ?_
       have l0_5 := (leG9.trans leG12).trans l2_5
       refine WL_val (rn_len sl22 rfl rfl (h5.mono RInt_mono l0_5).1) rfl ?_; refine WL_val (rn_lss rfl rfl) rfl ?_; refine WL_nil ?_; refine WC_cond rfl (fun hb84 => ?_) (fun hb84 => ?_)
       ·have H := ifT hb84 H; refine WC_skip ?_; refine WC_seq ?_; refine WC_block ?_; refine WC_seq ?_; refine WC_seq ?_; have hS := hS.keep (below_drew _); have hO := hO.below (below_drew _)
        refine WC_regionD mixedO (fun _ w => Sat G83 w ∧ True) (.fl 0 (.fl 1 (.fl 2 (.fl 3 (.fl 4 (.fl 5 (.fl 6 (.fl 7 (.on 8 (.on 9 (.on 10 (.on 11 (.on 12 .nil))))))))))))) (by kernel_rfl) rfl (by kernel_rfl) (fun _ => ⟨hS.sat, trivial⟩) ?_
        refine WD_val rfl (fun w hw => rn_fld fd45_1 rfl) rfl ?_; refine WD_val rfl (fun w hw => rn_load na22 rfl ((hw.1.le l2_5).cell (hcb10 1 _ rfl))) rfl ?_; refine WD_val rfl (fun w hw => rn_move (v := (.int .i64 s78.2)) rfl) rfl ?_; obtain ⟨y85, hy85, H⟩ := bnd H; refine WD_idx rfl sl22 (h5.mono RInt_mono l0_5) hy85 rfl rfl rfl ?_
        rintro b86 o86 _ hcb86 _ ⟨⟩
        refine WD_val rfl (fun w hw => rn_load na3 rfl (hw.1.cell (hcb86 0 _ rfl))) rfl ?_; refine WD_val rfl (fun w hw => rn_fld fd42_2 rfl) rfl ?_; refine WD_val rfl (fun w hw => rn_fld fd25_0 rfl) rfl ?_; refine WD_val rfl (fun w hw => rn_load na3 rfl ((hw.1.le (leG12.trans l2_5)).cell (hcb7 2 _ rfl))) rfl ?_; refine WD_op rfl rfl (OpP_val (rn_fld fd42_2 rfl) rfl ?_); refine ⟨fun _ _ => ⟨hS.sat, trivial⟩, ?_⟩; refine WD_op rfl rfl (OpP_val (rn_fld fd25_1 rfl) rfl ?_); refine ⟨fun _ _ => ⟨hS.sat, trivial⟩, ?_⟩
        have l1_5 := leG12.trans l2_5
        refine WD_op rfl rfl (OpP_val (rn_load na3 rfl ((hS.sat.le l1_5).cell (hcb7 3 _ rfl))) rfl ?_); refine ⟨fun _ _ => ⟨hS.sat, trivial⟩, ?_⟩; obtain ⟨y87, hy87, H⟩ := bnd H; refine WD_op rfl rfl (OpP_callV cb65 (f65_ok (x0 := y85) (x1 := x0.Gap.Low) (x2 := x0.Gap.High) hS.sat  hy87) rfl rfl (fun w88 hb => ?_)); have hS := hS.keep hb; have hO := hO.below hb
        refine ⟨fun _ h => noneed (by kernel_rfl) h, ?_⟩
        refine WD_op rfl rfl (OpP_val (rn_not rfl) rfl ?_)
        refine ⟨fun _ h => noneed (by kernel_rfl) h, ?_⟩
        refine WD_nil ?_; refine WC_cond rfl (fun hb89 => ?_) (fun hb89 => ?_)
        ·have H := ifT hb89 H; refine WC_seq ?_; refine WC_region ?_; refine WL_val (rn_assign (v := (.bool false)) rfl) rfl ?_; refine WL_nil ?_; refine WC_ret ?_; have H := Option.some.inj H; subst H
         have hres := hqq80 _ rfl
         subst hres; have H := Hoq80
         have H : some false = some r := H
         have H := Option.some.inj H; subst H
         exact ⟨rfl, hS.below⟩
        ·have H := ifF hb89 H; refine WC_skip ?_; refine WC_region ?_; refine WL_val (rn_move (v := (.int .i64 s78.1)) rfl) rfl ?_; refine WL_val (rn_fld fd45_1 rfl) rfl ?_; refine WL_val (rn_load na22 rfl ((hS.sat.le l2_5).cell (hcb10 1 _ rfl))) rfl ?_; refine WL_val (rn_move (v := (.int .i64 s78.2)) rfl) rfl ?_; refine WL_idx sl22 (h5.mono RInt_mono l0_5) hy85 rfl rfl rfl ?_
         rintro b90 o90 _ hcb90 _ ⟨⟩
         refine WL_val (rn_load na3 rfl (hS.sat.cell (hcb90 0 _ rfl))) rfl ?_; refine WL_val (rn_add rfl rfl) rfl ?_; refine WL_val (rn_assign (v := (.int .i64 (IntKind.i64.wrap (s78.1 + y85)))) rfl) rfl ?_; refine WL_nil ?_; refine WC_region ?_; refine WL_val (rn_move (v := (.int .i64 s78.2)) rfl) rfl ?_; refine WL_val (rn_add rfl rfl) rfl ?_; refine WL_val (rn_assign (v := (.int .i64 (IntKind.i64.wrap (s78.2 + 1)))) rfl) rfl ?_; refine WL_nil ?_
         have hO : Owns G83 w88 w0.heap.size ([]) := hO
         have H := Option.some.inj H; subst H; refine ⟨_, rfl, ?_⟩
         exact ⟨_, G83, upds_self _ _ ⟨rfl, rfl, rfl, rfl, rfl, trivial⟩, leG83, hS, hO⟩
       ·have H := ifF hb84 H; refine WC_exit rfl ?_
        have hO : Owns G83 w82 w0.heap.size ([]) := hO
        have H := Option.some.inj H; subst H
        have hres := hqq80 _ rfl
        subst hres
        exact ⟨_, _, G83, rfl, upds_self _ _ ⟨rfl, rfl, trivial⟩, leG83, hS, hO⟩
     ·rintro F w91 ⟨p79, Fb, G92, rfl, rfl, leG92, hS, hO⟩
      refine WC_seq ?_; refine WC_region ?_; refine WL_val (rn_move (v := (.int .i64 p79)) rfl) rfl ?_; refine WL_val (rn_move (v := (.int .i64 x1)) rfl) rfl ?_; refine WL_val (rn_geq rfl rfl) rfl ?_; refine WL_val (rn_assign (v := (.bool (decide (x1 ≤ p79)))) rfl) rfl ?_; refine WL_nil ?_; refine WC_ret ?_
      have H : some (decide (x1 ≤ p79)) = some r := H
      have H := Option.some.inj H; subst H
      exact ⟨rfl, hS.below⟩
set_option maxHeartbeats 1000000 in
theorem f73_ok {G0 : Gm} {w0 : World} (hS0 : Sat G0 w0) {x0 : TShipTruth} {a1 : Option Addr} {n1 c1 : Nat} {a2 : Option Addr} {n2 c2 : Nat} {a3 : Option Addr} {n3 c3 : Nat} {x1 : Int} (h1 : RSl RInt 1 G0 a1 n1 c1 x0.Uses) (h2 : RSl RInt 1 G0 a2 n2 c2 x0.Gaps) (h3 : RSl (RSlice RInt 1) 1 G0 a3 n3 c3 x0.Goods) {r : Bool} (H : f73 x0 x1 = some r) :
  Calls Try.prog 73 #[.agg #[.slice a1 n1 c1, .slice a2 n2 c2, .slice a3 n3 c3], .int .i64 x1] w0 (RetV w0 (.bool r)) := by
 have hS := Since.start hS0
 have hO : Owns G0 w0 w0.heap.size [] := Owns.nil (Nat.le_refl _)
 unfold f73 at H
 refine enter1 (N := 24) (shutV _ _) Try.func73 rfl rfl rfl rfl ?_; refine WC_seq ?_; refine WC_region ?_; refine WL_op rfl (OpP_newF (v := fun b => .pointer (some ⟨b, 0, none⟩)) (cs := [.slice a1 n1 c1, .slice a2 n2 c2, .slice a3 n3 c3]) (e := 45) (rn_boxA rfl) hS.sat rfl (fun b4 G6 w5 hg hcb4 => ?_)); have hS := hS.grow hg; have hO := hO.grow hg
 have leG6 := hg.le
 refine WL_val (rn_assign (v := (.bool false)) rfl) rfl ?_; refine WL_nil ?_; refine WC_seq ?_; refine WC_region ?_; refine WL_val (rn_assign (v := (.int .i64 0)) rfl) rfl ?_; refine WL_nil ?_; refine WC_seq ?_; refine WC_seq ?_; refine WC_region ?_; refine WL_val (rn_assign (v := (.int .i64 0)) rfl) rfl ?_; refine WL_nil ?_; obtain ⟨q9, hq9, H⟩ := bnd H; refine WC_cut (fun F w => ∃ (p8 : Unit) (Fb : Fr), q9 = .inl p8 ∧ F = upds Fb [] ∧ w5 = w) ?_ ?_
 ·refine WC_block (WC_loop hq9 (fun s7 F w => ∃ (Fb : Fr), F = upds Fb [(1, .int .i64 x1), (2, .pointer (some ⟨b4, 0, none⟩)), (5, .int .i64 s7.1), (6, .int .i64 s7.2)] ∧ w5 = w) ?_ ?_)
  ·exact ⟨_, upds_self _ _ ⟨rfl, rfl, rfl, rfl, trivial⟩, rfl⟩
  ·rintro s7 F wl t10 ⟨Fb, rfl, rfl⟩
   intro H1 hqq9
   have Hoq9 := H; have H := H1
   unfold f73_b0 at H
   refine WC_seq ?_; refine WC_seq ?_; refine WC_region ?_; refine WL_val (rn_move (v := (.int .i64 s7.2)) rfl) rfl ?_; refine WL_val (rn_fld fd45_1 rfl) rfl ?_; refine WL_val (rn_load na22 rfl (hS.sat.cell (hcb4 1 _ rfl))) rfl ?_; refine WL_val (rn_len sl22 rfl rfl (h2.mono RInt_mono leG6).1) rfl ?_; refine WL_val (rn_lss rfl rfl) rfl ?_; refine WL_nil ?_; refine WC_cond rfl (fun hb13 => ?_) (fun hb13 => ?_)
   ·have H := ifT hb13 H; refine WC_skip ?_; refine WC_seq ?_; refine WC_block ?_; refine WC_seq ?_; refine WC_region ?_; refine WL_val (rn_move (v := (.int .i64 s7.1)) rfl) rfl ?_; refine WL_val (rn_fld fd45_1 rfl) rfl ?_; refine WL_val (rn_load na22 rfl (hS.sat.cell (hcb4 1 _ rfl))) rfl ?_; refine WL_val (rn_move (v := (.int .i64 s7.2)) rfl) rfl ?_; obtain ⟨y14, hy14, H⟩ := bnd H; refine WL_idx sl22 (h2.mono RInt_mono leG6) hy14 rfl rfl rfl ?_
    rintro b15 o15 _ hcb15 _ ⟨⟩
    refine WL_val (rn_load na3 rfl (hS.sat.cell (hcb15 0 _ rfl))) rfl ?_; refine WL_val (rn_add rfl rfl) rfl ?_; refine WL_val (rn_assign (v := (.int .i64 (IntKind.i64.wrap (s7.1 + y14)))) rfl) rfl ?_; refine WL_nil ?_; refine WC_seq ?_; refine WC_region ?_; refine WL_val (rn_move (v := (.int .i64 (IntKind.i64.wrap (s7.1 + y14)))) rfl) rfl ?_; refine WL_val (rn_move (v := (.int .i64 x1)) rfl) rfl ?_; refine WL_val (rn_eql rfl rfl) rfl ?_; refine WL_nil ?_; refine WC_cond rfl (fun hb16 => ?_) (fun hb16 => ?_)
    ·have H := ifT hb16 H; refine WC_seq ?_; refine WC_region ?_; refine WL_val (rn_assign (v := (.bool true)) rfl) rfl ?_; refine WL_nil ?_; refine WC_ret ?_; have H := Option.some.inj H; subst H
     have hres := hqq9 _ rfl
     subst hres; have H := Hoq9
     have H : some true = some r := H
     have H := Option.some.inj H; subst H
     exact ⟨rfl, hS.below⟩
    ·have H := ifF hb16 H; refine WC_skip ?_; refine WC_region ?_; refine WL_val (rn_move (v := (.int .i64 s7.2)) rfl) rfl ?_; refine WL_val (rn_add rfl rfl) rfl ?_; refine WL_val (rn_assign (v := (.int .i64 (IntKind.i64.wrap (s7.2 + 1)))) rfl) rfl ?_; refine WL_nil ?_; have H := Option.some.inj H; subst H; refine ⟨_, rfl, ?_⟩
     exact ⟨_, upds_self _ _ ⟨rfl, rfl, rfl, rfl, trivial⟩, rfl⟩
   ·have H := ifF hb13 H; refine WC_exit rfl ?_; have H := Option.some.inj H; subst H
    have hres := hqq9 _ rfl
    subst hres
    exact ⟨_, _, rfl, rfl, rfl⟩
 ·rintro F wl ⟨p8, Fb, rfl, rfl, rfl⟩
  refine WC_seq ?_; refine WC_region ?_; refine WL_val (rn_assign (v := (.bool false)) rfl) rfl ?_; refine WL_nil ?_; refine WC_ret ?_
  have H : some false = some r := H
  have H := Option.some.inj H; subst H
  exact ⟨rfl, hS.below⟩
set_option maxHeartbeats 1000000 in
theorem f29_ok {G0 : Gm} {w0 : World} (hS0 : Sat G0 w0) {x0 : TShipStore} {a1 : Option Addr} {n1 c1 : Nat} {a2 : Option Addr} {n2 c2 : Nat} {a3 : Option Addr} {n3 c3 : Nat} {x1 : (List Int)} {a4 : Option Addr} {n4 c4 : Nat} {x2 : Int} {x3 : TShipTruth} {a5 : Option Addr} {n5 c5 : Nat} {a6 : Option Addr} {n6 c6 : Nat} {a7 : Option Addr} {n7 c7 : Nat} {x4 : Int} {x5 : Int} (h1 : RSl RInt 1 G0 a1 n1 c1 x0.Stock) (h2 : RSl RTSpan 2 G0 a2 n2 c2 x0.Use) (h3 : RSl RTShipLot 3 G0 a3 n3 c3 x0.Lots) (h4 : RSl RInt 1 G0 a4 n4 c4 x1) (h5 : RSl RInt 1 G0 a5 n5 c5 x3.Uses) (h6 : RSl RInt 1 G0 a6 n6 c6 x3.Gaps) (h7 : RSl (RSlice RInt 1) 1 G0 a7 n7 c7 x3.Goods) {r : Int × Int} (H : f29 x0 x1 x2 x3 x4 x5 = some r) :
  Calls Try.prog 29 #[.agg #[.slice a1 n1 c1, .slice a2 n2 c2, .int .i64 x0.Gap.Low, .int .i64 x0.Gap.High, .slice a3 n3 c3, .int .i64 x0.Hold], .slice a4 n4 c4, .int .i64 x2, .agg #[.slice a5 n5 c5, .slice a6 n6 c6, .slice a7 n7 c7], .int .i64 x4, .int .i64 x5] w0 (RetV w0 (.tuple #[.int .i64 r.1, .int .i64 r.2])) := by
 have hS := Since.start hS0
 have hO : Owns G0 w0 w0.heap.size [] := Owns.nil (Nat.le_refl _)
 unfold f29 at H
 refine enter2 (N := 74) (shutV _ _) Try.func29 rfl rfl rfl rfl ?_; refine WC_seq ?_; refine WC_region ?_; refine WL_op rfl (OpP_newF (v := fun b => .pointer (some ⟨b, 0, none⟩)) (cs := [.slice a1 n1 c1, .slice a2 n2 c2, .int .i64 x0.Gap.Low, .int .i64 x0.Gap.High, .slice a3 n3 c3, .int .i64 x0.Hold]) (e := 42) (rn_boxA rfl) hS.sat rfl (fun b8 G10 w9 hg hcb8 => ?_)); have hS := hS.grow hg; have hO := hO.grow hg
 have leG10 := hg.le
 refine WL_op rfl (OpP_newF (v := fun b => .pointer (some ⟨b, 0, none⟩)) (cs := [.slice a5 n5 c5, .slice a6 n6 c6, .slice a7 n7 c7]) (e := 45) (rn_boxA rfl) hS.sat rfl (fun b11 G13 w12 hg hcb11 => ?_)); have hS := hS.grow hg; have hO := hO.grow hg
 have leG13 := hg.le
 refine WL_val (rn_assign (v := (.int .i64 0)) rfl) rfl ?_; refine WL_val (rn_assign (v := (.int .i64 0)) rfl) rfl ?_; refine WL_nil ?_; refine WC_seq ?_; refine WC_region ?_; refine WL_val (rn_fld fd42_0 rfl) rfl ?_; refine WL_val (rn_load na22 rfl ((hS.sat.le leG13).cell (hcb8 0 _ rfl))) rfl ?_; refine WL_val (rn_move (v := (.int .i64 x4)) rfl) rfl ?_; obtain ⟨y14, hy14, H⟩ := bnd H
 have l0_2 := leG10.trans leG13
 refine WL_idx sl22 (h1.mono RInt_mono l0_2) hy14 rfl rfl rfl ?_
 rintro b15 o15 _ hcb15 _ ⟨⟩
 refine WL_val (rn_load na3 rfl (hS.sat.cell (hcb15 0 _ rfl))) rfl ?_; refine WL_val (rn_assign (v := (.int .i64 y14)) rfl) rfl ?_; refine WL_val (rn_assign (v := (.int .i64 (-1))) rfl) rfl ?_; refine WL_nil ?_; refine WC_seq ?_; refine WC_region ?_; refine WL_val (rn_fld fd45_0 rfl) rfl ?_; refine WL_val (rn_load na22 rfl (hS.sat.cell (hcb11 0 _ rfl))) rfl ?_; refine WL_val (rn_move (v := (.int .i64 x4)) rfl) rfl ?_; obtain ⟨y16, hy16, H⟩ := bnd H; refine WL_idx sl22 (h5.mono RInt_mono l0_2) hy16 rfl rfl rfl ?_
 rintro b17 o17 _ hcb17 _ ⟨⟩
 refine WL_val (rn_load na3 rfl (hS.sat.cell (hcb17 0 _ rfl))) rfl ?_; refine WL_val (rn_move (v := (.int .i64 x5)) rfl) rfl ?_; refine WL_val (rn_mul rfl rfl) rfl ?_; refine WL_val (rn_add rfl rfl) rfl ?_
 refine WL_val (rn_quo rfl rfl (by decide)) rfl ?_
 refine WL_val (rn_assign (v := (.int .i64 (IntKind.i64.wrap ((IntKind.i64.wrap ((IntKind.i64.wrap (y16 * x5)) + 999)).tdiv 1000)))) rfl) rfl ?_; refine WL_nil ?_; refine WC_seq ?_; refine WC_seq ?_; refine WC_region ?_; refine WL_val (rn_assign (v := (.int .i64 0)) rfl) rfl ?_; refine WL_nil ?_; obtain ⟨q20, hq20, H⟩ := bnd H; refine WC_cut (fun F w => ∃ (Fb : Fr) (G : Gm), F = upds Fb [(14, .int .i64 q20.1), (15, .int .i64 q20.2)] ∧ Gle G13 G ∧ Since w0.heap.size G0 w0 G w ∧ Owns G w w0.heap.size []) ?_ ?_
 ·refine WC_block (WC_loop hq20 (fun s18 F w => ∃ (Fb : Fr) (G : Gm), F = upds Fb [(1, .slice a4 n4 c4), (2, .int .i64 x2), (4, .int .i64 x4), (9, .pointer (some ⟨b11, 0, none⟩)), (14, .int .i64 s18.1), (15, .int .i64 s18.2.1), (16, .int .i64 (IntKind.i64.wrap ((IntKind.i64.wrap ((IntKind.i64.wrap (y16 * x5)) + 999)).tdiv 1000))), (17, .int .i64 s18.2.2)] ∧ Gle G13 G ∧ Since w0.heap.size G0 w0 G w ∧ Owns G w w0.heap.size []) ?_ ?_)
  ·have hO : Owns G13 w12 w0.heap.size ([]) := hO
   exact ⟨_, G13, upds_self _ _ ⟨rfl, rfl, rfl, rfl, rfl, rfl, rfl, rfl, trivial⟩, Gle.refl _, hS, hO⟩
  ·rintro s18 F w22 t21 ⟨Fb, G23, rfl, leG23, hS, hO⟩
   intro H1 hqq20
   have Hoq20 := H; have H := H1
   unfold f29_b0 at H
   refine WC_seq ?_; refine WC_seq ?_; refine WC_region ?_; refine WL_val (rn_move (v := (.int .i64 s18.2.2)) rfl) rfl ?_; refine WL_val (rn_move (v := (.int .i64 x2)) rfl) rfl ?_; refine WL_val (rn_lss rfl rfl) rfl ?_; refine WL_nil ?_; refine WC_cond rfl (fun hb24 => ?_) (fun hb24 => ?_)
   ·have H := ifT hb24 H; refine WC_skip ?_; refine WC_seq ?_; refine WC_block ?_; refine WC_seq ?_; obtain ⟨q25, hq25, H⟩ := bnd H; refine WC_cut (fun F w => ∃ (Fb : Fr) (G : Gm), F = upds Fb [(1, .slice a4 n4 c4), (2, .int .i64 x2), (4, .int .i64 x4), (9, .pointer (some ⟨b11, 0, none⟩)), (14, .int .i64 q25), (15, .int .i64 s18.2.1), (16, .int .i64 (IntKind.i64.wrap ((IntKind.i64.wrap ((IntKind.i64.wrap (y16 * x5)) + 999)).tdiv 1000))), (17, .int .i64 s18.2.2)] ∧ Gle G23 G ∧ Since w0.heap.size G0 w0 G w ∧ Owns G w w0.heap.size []) ?_ ?_
    ·have Hoq25 := H; have H := hq25; refine WC_seq ?_; refine WC_region ?_; refine WL_val (rn_loadA ag45 (cs := [.slice a5 n5 c5, .slice a6 n6 c6, .slice a7 n7 c7]) rfl rfl (fun j v hj => (hS.sat.le leG23).cell (hcb11.drop_take 0 3 j v hj))) rfl ?_; refine WL_val (rn_move (v := (.int .i64 s18.2.2)) rfl) rfl ?_; obtain ⟨y26, hy26, H⟩ := bnd H
     have l0_3 := l0_2.trans leG23
     refine WL_op rfl (OpP_callV cb73 (f73_ok (x0 := x3) (x1 := s18.2.2) hS.sat (h5.mono RInt_mono l0_3) (h6.mono RInt_mono l0_3) (h7.mono (RSlice_mono RInt_mono) l0_3) hy26) rfl rfl (fun w27 hb => ?_)); have hS := hS.keep hb; have hO := hO.below hb; refine WL_nil ?_; refine WC_cond rfl (fun hb28 => ?_) (fun hb28 => ?_)
     ·have H := ifT hb28 H; refine WC_seq ?_; refine WC_region ?_; refine WL_val (rn_assign (v := (.int .i64 0)) rfl) rfl ?_; refine WL_nil ?_; obtain ⟨q31, hq31, H⟩ := bnd H; refine WC_cut (fun F w => ∃ (Fb : Fr) (G : Gm), F = upds Fb [(1, .slice a4 n4 c4), (2, .int .i64 x2), (4, .int .i64 x4), (9, .pointer (some ⟨b11, 0, none⟩)), (14, .int .i64 q31), (15, .int .i64 s18.2.1), (16, .int .i64 (IntKind.i64.wrap ((IntKind.i64.wrap ((IntKind.i64.wrap (y16 * x5)) + 999)).tdiv 1000))), (17, .int .i64 s18.2.2)] ∧ Gle G23 G ∧ Since w0.heap.size G0 w0 G w ∧ Owns G w w0.heap.size []) ?_ ?_
      ·refine WC_block (WC_loop hq31 (fun s29 F w => ∃ (Fb : Fr) (G : Gm), F = upds Fb [(1, .slice a4 n4 c4), (2, .int .i64 x2), (4, .int .i64 x4), (9, .pointer (some ⟨b11, 0, none⟩)), (14, .int .i64 s29.1), (15, .int .i64 s18.2.1), (16, .int .i64 (IntKind.i64.wrap ((IntKind.i64.wrap ((IntKind.i64.wrap (y16 * x5)) + 999)).tdiv 1000))), (17, .int .i64 s18.2.2), (18, .int .i64 s29.2)] ∧ Gle G23 G ∧ Since w0.heap.size G0 w0 G w ∧ Owns G w w0.heap.size []) ?_ ?_)
       ·have hO : Owns G23 w27 w0.heap.size ([]) := hO
        exact ⟨_, G23, upds_self _ _ ⟨rfl, rfl, rfl, rfl, rfl, rfl, rfl, rfl, rfl, trivial⟩, Gle.refl _, hS, hO⟩
       ·rintro s29 F w33 t32 ⟨Fb, G34, rfl, leG34, hS, hO⟩
        intro H1 hqq31
        have Hoq31 := H; have H := H1
        unfold f29_b1 at H
        refine WC_seq ?_; refine WC_seq ?_; refine WC_region ?_; refine WL_val (rn_move (v := (.int .i64 s29.2)) rfl) rfl ?_; refine WL_val (rn_move (v := (.slice a4 n4 c4)) rfl) rfl ?_
        have l0_4 := l0_3.trans leG34
        refine WL_val (rn_len sl22 rfl rfl (h4.mono RInt_mono l0_4).1) rfl ?_; refine WL_val (rn_lss rfl rfl) rfl ?_; refine WL_nil ?_; refine WC_cond rfl (fun hb35 => ?_) (fun hb35 => ?_)
        ·have H := ifT hb35 H; refine WC_skip ?_; refine WC_seq ?_; refine WC_block ?_; have hS := hS.keep (below_drew _); have hO := hO.below (below_drew _)
         refine WC_regionD mixedO (fun _ w => Sat G34 w ∧ True) (.fl 0 (.fl 1 (.fl 2 (.fl 3 (.fl 4 (.fl 5 (.fl 6 (.fl 7 (.fl 8 (.on 9 (.on 10 (.on 11 (.on 12 (.on 13 .nil)))))))))))))) (by kernel_rfl) rfl (by kernel_rfl) (fun _ => ⟨hS.sat, trivial⟩) ?_
         refine WD_val rfl (fun w hw => rn_move (v := (.int .i64 s29.1)) rfl) rfl ?_; refine WD_val rfl (fun w hw => rn_fld fd45_2 rfl) rfl ?_; refine WD_val rfl (fun w hw => rn_load na43 rfl ((hw.1.le (leG23.trans leG34)).cell (hcb11 2 _ rfl))) rfl ?_; refine WD_val rfl (fun w hw => rn_move (v := (.slice a4 n4 c4)) rfl) rfl ?_; refine WD_val rfl (fun w hw => rn_move (v := (.int .i64 s29.2)) rfl) rfl ?_; obtain ⟨y36, hy36, H⟩ := bnd H; refine WD_idx rfl sl22 (h4.mono RInt_mono l0_4) hy36 rfl rfl rfl ?_
         rintro b37 o37 _ hcb37 _ ⟨⟩
         refine WD_val rfl (fun w hw => rn_load na3 rfl (hw.1.cell (hcb37 0 _ rfl))) rfl ?_; obtain ⟨y38, hy38, H⟩ := bnd H; refine WD_idx rfl sl43 (h7.mono (RSlice_mono RInt_mono) l0_4) hy38 rfl rfl rfl ?_
         rintro b39 o39 _ hcb39 _ ⟨a40, n40, c40, ⟨⟩, h40⟩
         refine WD_val rfl (fun w hw => rn_load na22 rfl (hw.1.cell (hcb39 0 _ rfl))) rfl ?_; refine WD_op rfl rfl (OpP_val (rn_move (v := (.int .i64 x4)) rfl) rfl ?_); refine ⟨fun _ _ => ⟨hS.sat, trivial⟩, ?_⟩; obtain ⟨y41, hy41, H⟩ := bnd H; refine WD_op rfl rfl (OpP_idx sl22 h40 hy41 rfl rfl rfl ?_)
         rintro b42 o42 _ hcb42 _ ⟨⟩
         refine ⟨fun _ _ => ⟨hS.sat, trivial⟩, ?_⟩; refine WD_op rfl rfl (OpP_val (rn_load na3 rfl (hS.sat.cell (hcb42 0 _ rfl))) rfl ?_); refine ⟨fun _ _ => ⟨hS.sat, trivial⟩, ?_⟩; refine WD_op rfl rfl (OpP_val (rn_add rfl rfl) rfl ?_)
         refine ⟨fun _ h => noneed (by kernel_rfl) h, ?_⟩
         refine WD_op rfl rfl (OpP_val (rn_assign (v := (.int .i64 (IntKind.i64.wrap (s29.1 + y41)))) rfl) rfl ?_)
         refine ⟨fun _ h => noneed (by kernel_rfl) h, ?_⟩
         refine WD_nil ?_; refine WC_region ?_; refine WL_val (rn_move (v := (.int .i64 s29.2)) rfl) rfl ?_; refine WL_val (rn_add rfl rfl) rfl ?_; refine WL_val (rn_assign (v := (.int .i64 (IntKind.i64.wrap (s29.2 + 1)))) rfl) rfl ?_; refine WL_nil ?_
         have hO : Owns G34 w33.drew w0.heap.size ([]) := hO
         have H := Option.some.inj H; subst H; refine ⟨_, rfl, ?_⟩
         exact ⟨_, G34, upds_self _ _ ⟨rfl, rfl, rfl, rfl, rfl, rfl, rfl, rfl, rfl, trivial⟩, leG34, hS, hO⟩
        ·have H := ifF hb35 H; refine WC_exit rfl ?_
         have hO : Owns G34 w33 w0.heap.size ([]) := hO
         have H := Option.some.inj H; subst H
         have hres := hqq31 _ rfl
         subst hres
         exact ⟨_, G34, upds_self _ _ ⟨rfl, rfl, rfl, rfl, rfl, rfl, rfl, rfl, trivial⟩, leG34, hS, hO⟩
      ·rintro F w43 ⟨Fb, G44, rfl, leG44, hS, hO⟩
       have hO : Owns G44 w43 w0.heap.size ([]) := hO
       have H := Option.some.inj H; subst H
       exact ⟨_, G44, upds_self _ _ ⟨rfl, rfl, rfl, rfl, rfl, rfl, rfl, rfl, trivial⟩, leG44, hS, hO⟩
     ·have H := ifF hb28 H; refine WC_skip ?_
      have hO : Owns G23 w27 w0.heap.size ([]) := hO
      have H := Option.some.inj H; subst H
      exact ⟨_, G23, upds_self _ _ ⟨rfl, rfl, rfl, rfl, rfl, rfl, rfl, rfl, trivial⟩, Gle.refl _, hS, hO⟩
    ·rintro F w45 ⟨Fb, G46, rfl, leG46, hS, hO⟩
     refine WC_seq ?_; obtain ⟨q47, hq47, H⟩ := bnd H; refine WC_cut (fun F w => ∃ (Fb : Fr), F = upds Fb [(1, .slice a4 n4 c4), (2, .int .i64 x2), (4, .int .i64 x4), (9, .pointer (some ⟨b11, 0, none⟩)), (14, .int .i64 q25), (15, .int .i64 q47), (16, .int .i64 (IntKind.i64.wrap ((IntKind.i64.wrap ((IntKind.i64.wrap (y16 * x5)) + 999)).tdiv 1000))), (17, .int .i64 s18.2.2)] ∧ w45 = w) ?_ ?_
     ·have Hoq47 := H; have H := hq47; refine WC_seq ?_; obtain ⟨q48, hq48, H⟩ := bnd H; refine WC_cut (fun F w => ∃ (Fb : Fr), F = upds Fb [(1, .slice a4 n4 c4), (2, .int .i64 x2), (4, .int .i64 x4), (9, .pointer (some ⟨b11, 0, none⟩)), (14, .int .i64 q25), (15, .int .i64 s18.2.1), (16, .int .i64 (IntKind.i64.wrap ((IntKind.i64.wrap ((IntKind.i64.wrap (y16 * x5)) + 999)).tdiv 1000))), (17, .int .i64 s18.2.2), (66, .bool q48)] ∧ w45 = w) ?_ ?_
      ·have Hoq48 := H; have H := hq48; refine WC_region ?_; refine WL_val (rn_move (v := (.int .i64 q25)) rfl) rfl ?_; refine WL_val (rn_move (v := (.int .i64 (IntKind.i64.wrap ((IntKind.i64.wrap ((IntKind.i64.wrap (y16 * x5)) + 999)).tdiv 1000)))) rfl) rfl ?_; refine WL_val (rn_lss rfl rfl) rfl ?_; refine WL_val (rn_move (v := (.bool (decide (q25 < (IntKind.i64.wrap ((IntKind.i64.wrap ((IntKind.i64.wrap (y16 * x5)) + 999)).tdiv 1000)))))) rfl) rfl ?_
       rcases bcases (decide (q25 < (IntKind.i64.wrap ((IntKind.i64.wrap ((IntKind.i64.wrap (y16 * x5)) + 999)).tdiv 1000)))) with hb49 | hb49
       ·have H := ifT hb49 H; refine WL_guardY rfl hb49 rfl rfl ?_; refine WL_val (rn_move (v := (.int .i64 s18.2.1)) rfl) rfl ?_; refine WL_guardY rfl hb49 rfl rfl ?_; refine WL_val (rn_lss rfl rfl) rfl ?_; refine WL_val (rn_pickT (v := (.bool (decide (s18.2.1 < 0)))) rfl hb49 rfl) rfl ?_; refine WL_nil ?_; have H := Option.some.inj H; subst H
        exact ⟨_, upds_self _ _ ⟨rfl, rfl, rfl, rfl, rfl, rfl, rfl, rfl, rfl, trivial⟩, rfl⟩
       ·have H := ifF hb49 H; refine WL_guardN rfl hb49 rfl rfl rfl ?_; refine WL_guardN rfl hb49 rfl rfl rfl ?_; refine WL_val (rn_pickF (v := (.bool false)) rfl hb49 rfl) rfl ?_; refine WL_nil ?_; have H := Option.some.inj H; subst H
        exact ⟨_, upds_self _ _ ⟨rfl, rfl, rfl, rfl, rfl, rfl, rfl, rfl, rfl, trivial⟩, rfl⟩
      ·rintro F wl ⟨Fb, rfl, rfl⟩
       refine WC_cond rfl (fun hb52 => ?_) (fun hb52 => ?_)
       ·have H := ifT hb52 H; refine WC_region ?_; refine WL_val (rn_move (v := (.int .i64 s18.2.2)) rfl) rfl ?_; refine WL_val (rn_assign (v := (.int .i64 s18.2.2)) rfl) rfl ?_; refine WL_nil ?_; have H := Option.some.inj H; subst H
        exact ⟨_, upds_self _ _ ⟨rfl, rfl, rfl, rfl, rfl, rfl, rfl, rfl, trivial⟩, rfl⟩
       ·have H := ifF hb52 H; refine WC_skip ?_; have H := Option.some.inj H; subst H
        exact ⟨_, upds_self _ _ ⟨rfl, rfl, rfl, rfl, rfl, rfl, rfl, rfl, trivial⟩, rfl⟩
     ·rintro F wl ⟨Fb, rfl, rfl⟩
      refine WC_region ?_; refine WL_val (rn_move (v := (.int .i64 q25)) rfl) rfl ?_; refine WL_val (rn_move (v := (.int .i64 (IntKind.i64.wrap ((IntKind.i64.wrap ((IntKind.i64.wrap (y16 * x5)) + 999)).tdiv 1000)))) rfl) rfl ?_; refine WL_val (rn_sub rfl rfl) rfl ?_; refine WL_val (rn_max rfl rfl) rfl ?_; refine WL_val (rn_assign (v := (.int .i64 (if 0 < IntKind.i64.wrap (q25 - (IntKind.i64.wrap ((IntKind.i64.wrap ((IntKind.i64.wrap (y16 * x5)) + 999)).tdiv 1000))) then IntKind.i64.wrap (q25 - (IntKind.i64.wrap ((IntKind.i64.wrap ((IntKind.i64.wrap (y16 * x5)) + 999)).tdiv 1000))) else 0))) rfl) rfl ?_; refine WL_nil ?_; refine WC_region ?_; refine WL_val (rn_move (v := (.int .i64 s18.2.2)) rfl) rfl ?_; refine WL_val (rn_add rfl rfl) rfl ?_; refine WL_val (rn_assign (v := (.int .i64 (IntKind.i64.wrap (s18.2.2 + 1)))) rfl) rfl ?_; refine WL_nil ?_
      have hO : Owns G46 w45 w0.heap.size ([]) := hO
      have H := Option.some.inj H; subst H; refine ⟨_, rfl, ?_⟩
      have l2_4 := leG23.trans leG46
      exact ⟨_, G46, upds_self _ _ ⟨rfl, rfl, rfl, rfl, rfl, rfl, rfl, rfl, trivial⟩, l2_4, hS, hO⟩
   ·have H := ifF hb24 H; refine WC_exit rfl ?_
    have hO : Owns G23 w22 w0.heap.size ([]) := hO
    have H := Option.some.inj H; subst H
    have hres := hqq20 _ rfl
    subst hres
    exact ⟨_, G23, upds_self _ _ ⟨rfl, rfl, trivial⟩, leG23, hS, hO⟩
 ·rintro F w55 ⟨Fb, G56, rfl, leG56, hS, hO⟩
  refine WC_seq ?_; refine WC_region ?_; refine WL_val (rn_move (v := (.int .i64 q20.2)) rfl) rfl ?_; refine WL_val (rn_move (v := (.int .i64 q20.1)) rfl) rfl ?_; refine WL_val (rn_assign (v := (.int .i64 q20.2)) rfl) rfl ?_; refine WL_val (rn_assign (v := (.int .i64 q20.1)) rfl) rfl ?_; refine WL_nil ?_; refine WC_ret ?_
  have H : some (q20.2, q20.1) = some r := H
  have H := Option.some.inj H; subst H
  exact ⟨rfl, hS.below⟩
set_option maxHeartbeats 1000000 in
theorem f31_ok {G0 : Gm} {w0 : World} (hS0 : Sat G0 w0) {x0 : TShipStore} {a1 : Option Addr} {n1 c1 : Nat} {a2 : Option Addr} {n2 c2 : Nat} {a3 : Option Addr} {n3 c3 : Nat} {x1 : Int} {x2 : Bool} (h1 : RSl RInt 1 G0 a1 n1 c1 x0.Stock) (h2 : RSl RTSpan 2 G0 a2 n2 c2 x0.Use) (h3 : RSl RTShipLot 3 G0 a3 n3 c3 x0.Lots) {r : TShipTruth} (H : f31 x0 x1 x2 = some r) :
  Calls Try.prog 31 #[.agg #[.slice a1 n1 c1, .slice a2 n2 c2, .int .i64 x0.Gap.Low, .int .i64 x0.Gap.High, .slice a3 n3 c3, .int .i64 x0.Hold], .int .i64 x1, .bool x2] w0 (RetG G0 w0 (fun G v => ∃ (ra0 : Option Addr) (rn0 rc0 : Nat) (ra1 : Option Addr) (rn1 rc1 : Nat) (ra2 : Option Addr) (rn2 rc2 : Nat), v = .agg #[.slice ra0 rn0 rc0, .slice ra1 rn1 rc1, .slice ra2 rn2 rc2] ∧ RSl RInt 1 G ra0 rn0 rc0 r.Uses ∧ RSl RInt 1 G ra1 rn1 rc1 r.Gaps ∧ RSl (RSlice RInt 1) 1 G ra2 rn2 rc2 r.Goods)) := by
 have hS := Since.start hS0
 have hO : Owns G0 w0 w0.heap.size [] := Owns.nil (Nat.le_refl _)
 unfold f31 at H
 refine enterG (N := 107) (shutG _ _ _) [.cell 6 45] Try.func31 rfl rfl rfl rfl ?_; refine WC_seq ?_; refine WC_region ?_; refine WL_op rfl (OpP_newF (v := fun b => .pointer (some ⟨b, 0, none⟩)) (cs := [.slice a1 n1 c1, .slice a2 n2 c2, .int .i64 x0.Gap.Low, .int .i64 x0.Gap.High, .slice a3 n3 c3, .int .i64 x0.Hold]) (e := 42) (rn_boxA rfl) hS.sat rfl (fun b4 G6 w5 hg hcb4 => ?_)); have hS := hS.grow hg; have hO := hO.grow hg
 have leG6 := hg.le
 refine WL_op rfl (OpP_newO (v := fun b => .pointer (some ⟨b, 0, none⟩)) (cs := [.slice none 0 0, .slice none 0 0, .slice none 0 0]) (e := 45) (by kernel_rfl) hS.sat hO rfl 3 1 rfl (by decide) (fun b7 w8 hb hO => ?_))
 have hS := hS.keep hb; refine WL_nil ?_; refine WC_seq ?_; refine WC_region ?_
 refine WL_op rfl (OpP_newO (v := fun b => .pointer (some ⟨b, 0, none⟩)) (cs := [.slice none 0 0, .slice none 0 0, .slice none 0 0]) (e := 45) (by kernel_rfl) hS.sat hO rfl 3 1 rfl (by decide) (fun b10 w11 hb hO => ?_))
 have hS := hS.keep hb; refine WL_nil ?_; refine WC_seq ?_; refine WC_seq ?_; refine WC_region ?_; refine WL_val (rn_assign (v := (.int .i64 0)) rfl) rfl ?_; refine WL_nil ?_; have hO := hO.cons_nil 3 1; have hO := hO.cons_nil 3 1; have hO := hO.cons_nil 22 1; obtain ⟨q18, hq18, H⟩ := bnd H; refine WC_cut (fun F w => ∃ (Fb : Fr) (G : Gm) (aq18_0 : Option Addr) (nq18_0 cq18_0 : Nat) (claq18_0 : List Value) (aq18_1 : Option Addr) (nq18_1 cq18_1 : Nat) (claq18_1 : List Value) (aq18_2 : Option Addr) (nq18_2 cq18_2 : Nat) (claq18_2 : List Value) (aq18_3 : Option Addr) (nq18_3 cq18_3 : Nat) (aq18_4 : Option Addr) (nq18_4 cq18_4 : Nat) (aq18_5 : Option Addr) (nq18_5 cq18_5 : Nat), F = upds Fb [(1, .int .i64 x1), (2, .bool x2), (3, .pointer (some ⟨b4, 0, none⟩)), (6, .pointer (some ⟨b7, 0, none⟩)), (7, .pointer (some ⟨b10, 0, none⟩))] ∧ Gle G6 G ∧ Since w0.heap.size G0 w0 G w ∧ Owns G w w0.heap.size [⟨22, 1, nq18_2, .slice aq18_2 nq18_2 cq18_2, claq18_2⟩, ⟨3, 1, nq18_1, .slice aq18_1 nq18_1 cq18_1, claq18_1⟩, ⟨3, 1, nq18_0, .slice aq18_0 nq18_0 cq18_0, claq18_0⟩, ⟨45, 3, 1, .slice (some ⟨b10, 0, none⟩) 1 1, [.slice aq18_0 nq18_0 cq18_0, .slice aq18_1 nq18_1 cq18_1, .slice aq18_2 nq18_2 cq18_2]⟩, ⟨45, 3, 1, .slice (some ⟨b7, 0, none⟩) 1 1, [.slice aq18_3 nq18_3 cq18_3, .slice aq18_4 nq18_4 cq18_4, .slice aq18_5 nq18_5 cq18_5]⟩] ∧ nq18_0 = q18.1.Uses.length ∧ Rd RInt 1 G claq18_0 q18.1.Uses ∧ nq18_1 = q18.1.Gaps.length ∧ Rd RInt 1 G claq18_1 q18.1.Gaps ∧ nq18_2 = q18.1.Goods.length ∧ Rd (RSlice RInt 1) 1 G claq18_2 q18.1.Goods ∧ RSl RInt 1 G aq18_3 nq18_3 cq18_3 q18.2.Uses ∧ RSl RInt 1 G aq18_4 nq18_4 cq18_4 q18.2.Gaps ∧ RSl (RSlice RInt 1) 1 G aq18_5 nq18_5 cq18_5 q18.2.Goods) ?_ ?_
 ·refine WC_block (WC_loop hq18 (fun s16 F w => ∃ (Fb : Fr) (G : Gm) (as16_0 : Option Addr) (ns16_0 cs16_0 : Nat) (clas16_0 : List Value) (as16_1 : Option Addr) (ns16_1 cs16_1 : Nat) (clas16_1 : List Value) (as16_2 : Option Addr) (ns16_2 cs16_2 : Nat) (clas16_2 : List Value) (as16_3 : Option Addr) (ns16_3 cs16_3 : Nat) (as16_4 : Option Addr) (ns16_4 cs16_4 : Nat) (as16_5 : Option Addr) (ns16_5 cs16_5 : Nat), F = upds Fb [(1, .int .i64 x1), (2, .bool x2), (3, .pointer (some ⟨b4, 0, none⟩)), (6, .pointer (some ⟨b7, 0, none⟩)), (7, .pointer (some ⟨b10, 0, none⟩)), (8, .int .i64 s16.1)] ∧ Gle G6 G ∧ Since w0.heap.size G0 w0 G w ∧ Owns G w w0.heap.size [⟨22, 1, ns16_2, .slice as16_2 ns16_2 cs16_2, clas16_2⟩, ⟨3, 1, ns16_1, .slice as16_1 ns16_1 cs16_1, clas16_1⟩, ⟨3, 1, ns16_0, .slice as16_0 ns16_0 cs16_0, clas16_0⟩, ⟨45, 3, 1, .slice (some ⟨b10, 0, none⟩) 1 1, [.slice as16_0 ns16_0 cs16_0, .slice as16_1 ns16_1 cs16_1, .slice as16_2 ns16_2 cs16_2]⟩, ⟨45, 3, 1, .slice (some ⟨b7, 0, none⟩) 1 1, [.slice as16_3 ns16_3 cs16_3, .slice as16_4 ns16_4 cs16_4, .slice as16_5 ns16_5 cs16_5]⟩] ∧ ns16_0 = s16.2.1.Uses.length ∧ Rd RInt 1 G clas16_0 s16.2.1.Uses ∧ ns16_1 = s16.2.1.Gaps.length ∧ Rd RInt 1 G clas16_1 s16.2.1.Gaps ∧ ns16_2 = s16.2.1.Goods.length ∧ Rd (RSlice RInt 1) 1 G clas16_2 s16.2.1.Goods ∧ RSl RInt 1 G as16_3 ns16_3 cs16_3 s16.2.2.Uses ∧ RSl RInt 1 G as16_4 ns16_4 cs16_4 s16.2.2.Gaps ∧ RSl (RSlice RInt 1) 1 G as16_5 ns16_5 cs16_5 s16.2.2.Goods) ?_ ?_)
  ·have hO : Owns G6 w11 w0.heap.size ([⟨22, 1, 0, .slice none 0 0, []⟩, ⟨3, 1, 0, .slice none 0 0, []⟩, ⟨3, 1, 0, .slice none 0 0, []⟩, ⟨45, 3, 1, .slice (some ⟨b10, 0, none⟩) 1 1, [.slice none 0 0, .slice none 0 0, .slice none 0 0]⟩, ⟨45, 3, 1, .slice (some ⟨b7, 0, none⟩) 1 1, [.slice none 0 0, .slice none 0 0, .slice none 0 0]⟩]) := hO
   exact ⟨_, G6, none, 0, 0, [], none, 0, 0, [], none, 0, 0, [], none, 0, 0, none, 0, 0, none, 0, 0, upds_self _ _ ⟨rfl, rfl, rfl, rfl, rfl, rfl, trivial⟩, Gle.refl _, hS, hO, rfl, (Rd.nil RInt 1 G6), rfl, (Rd.nil RInt 1 G6), rfl, (Rd.nil (RSlice RInt 1) 1 G6), (RSl.nil _ _ _ _), (RSl.nil _ _ _ _), (RSl.nil _ _ _ _)⟩
  ·rintro s16 F w20 t19 ⟨Fb, G21, as16_0, ns16_0, cs16_0, clas16_0, as16_1, ns16_1, cs16_1, clas16_1, as16_2, ns16_2, cs16_2, clas16_2, as16_3, ns16_3, cs16_3, as16_4, ns16_4, cs16_4, as16_5, ns16_5, cs16_5, rfl, leG21, hS, hO, hnhs16_0, hs16_0, hnhs16_1, hs16_1, hnhs16_2, hs16_2, hs16_3, hs16_4, hs16_5⟩
   intro H1 hqq18
   have Hoq18 := H; have H := H1
   unfold f31_b0 at H
   refine WC_seq ?_; refine WC_seq ?_; refine WC_region ?_; refine WL_val (rn_move (v := (.int .i64 s16.1)) rfl) rfl ?_; refine WL_val (rn_fld fd42_1 rfl) rfl ?_; refine WL_val (rn_load na23 rfl ((hS.sat.le leG21).cell (hcb4 1 _ rfl))) rfl ?_
   have l0_2 := leG6.trans leG21
   refine WL_val (rn_len sl23 rfl rfl (h2.mono RTSpan_mono l0_2).1) rfl ?_; refine WL_val (rn_lss rfl rfl) rfl ?_; refine WL_nil ?_; refine WC_cond rfl (fun hb22 => ?_) (fun hb22 => ?_)
   ·have H := ifT hb22 H; refine WC_skip ?_; refine WC_seq ?_; refine WC_block ?_; refine WC_seq ?_; refine WC_region ?_; refine WL_val (rn_fld fd42_1 rfl) rfl ?_; refine WL_val (rn_load na23 rfl ((hS.sat.le leG21).cell (hcb4 1 _ rfl))) rfl ?_; refine WL_val (rn_move (v := (.int .i64 s16.1)) rfl) rfl ?_; obtain ⟨y23, hy23, H⟩ := bnd H; refine WL_idx sl23 (h2.mono RTSpan_mono l0_2) hy23 rfl rfl rfl ?_
    rintro b24 o24 _ hcb24 _ ⟨⟩
    refine WL_val (rn_fld fd25_0 rfl) rfl ?_; refine WL_val (rn_load na3 rfl (hS.sat.cell (hcb24 0 _ rfl))) rfl ?_; refine WL_val (rn_assign (v := (.int .i64 y23.Low)) rfl) rfl ?_; refine WL_nil ?_; refine WC_seq ?_; obtain ⟨q25, hq25, H⟩ := bnd H; refine WC_cut (fun F w => ∃ (Fb : Fr), F = upds Fb [(1, .int .i64 x1), (2, .bool x2), (3, .pointer (some ⟨b4, 0, none⟩)), (6, .pointer (some ⟨b7, 0, none⟩)), (7, .pointer (some ⟨b10, 0, none⟩)), (8, .int .i64 s16.1), (9, .int .i64 q25)] ∧ w20 = w) ?_ ?_
    ·have Hoq25 := H; have H := hq25; refine WC_seq ?_; refine WC_region ?_; refine WL_val (rn_move (v := (.bool x2)) rfl) rfl ?_; refine WL_nil ?_; refine WC_cond rfl (fun hb26 => ?_) (fun hb26 => ?_)
     ·have H := ifT hb26 H; refine WC_region ?_; refine WL_val (rn_fld fd42_1 rfl) rfl ?_; refine WL_val (rn_load na23 rfl ((hS.sat.le leG21).cell (hcb4 1 _ rfl))) rfl ?_; refine WL_val (rn_move (v := (.int .i64 s16.1)) rfl) rfl ?_; refine WL_idx sl23 (h2.mono RTSpan_mono l0_2) hy23 rfl rfl rfl ?_
      rintro b27 o27 _ hcb27 _ ⟨⟩
      refine WL_val (rn_fld fd25_1 rfl) rfl ?_; refine WL_val (rn_load na3 rfl (hS.sat.cell (hcb27 1 _ rfl))) rfl ?_; refine WL_val (rn_assign (v := (.int .i64 y23.High)) rfl) rfl ?_; refine WL_nil ?_; have H := Option.some.inj H; subst H
      exact ⟨_, upds_self _ _ ⟨rfl, rfl, rfl, rfl, rfl, rfl, rfl, trivial⟩, rfl⟩
     ·have H := ifF hb26 H; refine WC_skip ?_; have H := Option.some.inj H; subst H
      exact ⟨_, upds_self _ _ ⟨rfl, rfl, rfl, rfl, rfl, rfl, rfl, trivial⟩, rfl⟩
    ·rintro F wl ⟨Fb, rfl, rfl⟩
     refine WC_region ?_; refine WL_val (rn_fld fd45_0 rfl) rfl ?_; refine WL_val (rn_load na22 rfl (own_cell hO (k := 3) rfl (j := 0) rfl)) rfl ?_; refine WL_val (rn_move (v := (.int .i64 q25)) rfl) rfl ?_
     refine WL_op rfl (OpP_newF (v := fun b => .slice (some ⟨b, 0, none⟩) 1 1) (cs := [.int .i64 q25]) (e := 3) (by kernel_rfl) hS.sat rfl (fun b30 G32 w31 hg hcb30 => ?_))
     have hS := hS.grow hg; have hO := hO.grow hg
     have leG32 := hg.le
     have hfb30 : RSl RInt 1 G32 (some ⟨b30, 0, none⟩) 1 1 [q25] := RSl.of_rd hcb30 (Rd.cons (c := [.int .i64 q25]) rfl rfl (Rd.nil RInt 1 _)) rfl (by decide)
     obtain ⟨y33, hy33, H⟩ := bnd H; refine WL_op rfl (OpP_append (k := 2) sl22 RInt_one hS hO rfl hnhs16_0 (hs16_0.mono RInt_mono leG32) hfb30 hy33 rfl rfl rfl rfl rfl (fun aw34 cw34 w34 clw34 hS hO hrw34 => ?_))
     have hO : Owns G32 w34 w0.heap.size ([⟨22, 1, ns16_2, .slice as16_2 ns16_2 cs16_2, clas16_2⟩, ⟨3, 1, ns16_1, .slice as16_1 ns16_1 cs16_1, clas16_1⟩, ⟨3, 1, y33.length, .slice aw34 y33.length cw34, clw34⟩, ⟨45, 3, 1, .slice (some ⟨b10, 0, none⟩) 1 1, [.slice as16_0 ns16_0 cs16_0, .slice as16_1 ns16_1 cs16_1, .slice as16_2 ns16_2 cs16_2]⟩, ⟨45, 3, 1, .slice (some ⟨b7, 0, none⟩) 1 1, [.slice as16_3 ns16_3 cs16_3, .slice as16_4 ns16_4 cs16_4, .slice as16_5 ns16_5 cs16_5]⟩]) := hO
     refine WL_val (rn_fld fd45_0 rfl) rfl ?_; refine WL_op rfl (OpP_store (vs := [.slice aw34 y33.length cw34]) sz22 hS hO (k := 3) rfl rfl rfl rfl rfl (one_all rfl) (Nat.le_of_ble_eq_true rfl) (fun w35 hS hO => ?_))
     have hO : Owns G32 w35 w0.heap.size ([⟨22, 1, ns16_2, .slice as16_2 ns16_2 cs16_2, clas16_2⟩, ⟨3, 1, ns16_1, .slice as16_1 ns16_1 cs16_1, clas16_1⟩, ⟨3, 1, y33.length, .slice aw34 y33.length cw34, clw34⟩, ⟨45, 3, 1, .slice (some ⟨b10, 0, none⟩) 1 1, [.slice aw34 y33.length cw34, .slice as16_1 ns16_1 cs16_1, .slice as16_2 ns16_2 cs16_2]⟩, ⟨45, 3, 1, .slice (some ⟨b7, 0, none⟩) 1 1, [.slice as16_3 ns16_3 cs16_3, .slice as16_4 ns16_4 cs16_4, .slice as16_5 ns16_5 cs16_5]⟩]) := hO
     refine WL_nil ?_; refine WC_region ?_; refine WL_val (rn_move (v := (.int .i64 s16.1)) rfl) rfl ?_; refine WL_val (rn_add rfl rfl) rfl ?_; refine WL_val (rn_assign (v := (.int .i64 (IntKind.i64.wrap (s16.1 + 1)))) rfl) rfl ?_; refine WL_nil ?_
     have hO : Owns G32 w35 w0.heap.size ([⟨22, 1, ns16_2, .slice as16_2 ns16_2 cs16_2, clas16_2⟩, ⟨3, 1, ns16_1, .slice as16_1 ns16_1 cs16_1, clas16_1⟩, ⟨3, 1, y33.length, .slice aw34 y33.length cw34, clw34⟩, ⟨45, 3, 1, .slice (some ⟨b10, 0, none⟩) 1 1, [.slice aw34 y33.length cw34, .slice as16_1 ns16_1 cs16_1, .slice as16_2 ns16_2 cs16_2]⟩, ⟨45, 3, 1, .slice (some ⟨b7, 0, none⟩) 1 1, [.slice as16_3 ns16_3 cs16_3, .slice as16_4 ns16_4 cs16_4, .slice as16_5 ns16_5 cs16_5]⟩]) := hO
     have H := Option.some.inj H; subst H; refine ⟨_, rfl, ?_⟩
     have l1_3 := leG21.trans leG32
     exact ⟨_, G32, aw34, y33.length, cw34, clw34, as16_1, ns16_1, cs16_1, clas16_1, as16_2, ns16_2, cs16_2, clas16_2, as16_3, ns16_3, cs16_3, as16_4, ns16_4, cs16_4, as16_5, ns16_5, cs16_5, upds_self _ _ ⟨rfl, rfl, rfl, rfl, rfl, rfl, trivial⟩, l1_3, hS, hO, rfl, hrw34, hnhs16_1, (hs16_1.mono RInt_mono leG32), hnhs16_2, (hs16_2.mono (RSlice_mono RInt_mono) leG32), (hs16_3.mono RInt_mono leG32), (hs16_4.mono RInt_mono leG32), (hs16_5.mono (RSlice_mono RInt_mono) leG32)⟩
   ·have H := ifF hb22 H; refine WC_exit rfl ?_
    have hO : Owns G21 w20 w0.heap.size ([⟨22, 1, ns16_2, .slice as16_2 ns16_2 cs16_2, clas16_2⟩, ⟨3, 1, ns16_1, .slice as16_1 ns16_1 cs16_1, clas16_1⟩, ⟨3, 1, ns16_0, .slice as16_0 ns16_0 cs16_0, clas16_0⟩, ⟨45, 3, 1, .slice (some ⟨b10, 0, none⟩) 1 1, [.slice as16_0 ns16_0 cs16_0, .slice as16_1 ns16_1 cs16_1, .slice as16_2 ns16_2 cs16_2]⟩, ⟨45, 3, 1, .slice (some ⟨b7, 0, none⟩) 1 1, [.slice as16_3 ns16_3 cs16_3, .slice as16_4 ns16_4 cs16_4, .slice as16_5 ns16_5 cs16_5]⟩]) := hO
    have H := Option.some.inj H; subst H
    have hres := hqq18 _ rfl
    subst hres
    exact ⟨_, G21, as16_0, ns16_0, cs16_0, clas16_0, as16_1, ns16_1, cs16_1, clas16_1, as16_2, ns16_2, cs16_2, clas16_2, as16_3, ns16_3, cs16_3, as16_4, ns16_4, cs16_4, as16_5, ns16_5, cs16_5, upds_self _ _ ⟨rfl, rfl, rfl, rfl, rfl, trivial⟩, leG21, hS, hO, hnhs16_0, hs16_0, hnhs16_1, hs16_1, hnhs16_2, hs16_2, hs16_3, hs16_4, hs16_5⟩
 ·rintro F w36 ⟨Fb, G37, aq18_0, nq18_0, cq18_0, claq18_0, aq18_1, nq18_1, cq18_1, claq18_1, aq18_2, nq18_2, cq18_2, claq18_2, aq18_3, nq18_3, cq18_3, aq18_4, nq18_4, cq18_4, aq18_5, nq18_5, cq18_5, rfl, leG37, hS, hO, hnhq18_0, hq18_0, hnhq18_1, hq18_1, hnhq18_2, hq18_2, hq18_3, hq18_4, hq18_5⟩
  refine WC_seq ?_; refine WC_region ?_; refine WL_val (rn_fld fd42_2 rfl) rfl ?_; refine WL_val (rn_fld fd25_0 rfl) rfl ?_; refine WL_val (rn_load na3 rfl ((hS.sat.le leG37).cell (hcb4 2 _ rfl))) rfl ?_; refine WL_val (rn_assign (v := (.int .i64 x0.Gap.Low)) rfl) rfl ?_; refine WL_nil ?_; refine WC_seq ?_; obtain ⟨q38, hq38, H⟩ := bnd H; refine WC_cut (fun F w => ∃ (Fb : Fr), F = upds Fb [(1, .int .i64 x1), (2, .bool x2), (3, .pointer (some ⟨b4, 0, none⟩)), (6, .pointer (some ⟨b7, 0, none⟩)), (7, .pointer (some ⟨b10, 0, none⟩)), (10, .int .i64 q38)] ∧ w36 = w) ?_ ?_
  ·have Hoq38 := H; have H := hq38; refine WC_seq ?_; refine WC_region ?_; refine WL_val (rn_move (v := (.bool x2)) rfl) rfl ?_; refine WL_nil ?_; refine WC_cond rfl (fun hb39 => ?_) (fun hb39 => ?_)
   ·have H := ifT hb39 H; refine WC_region ?_; refine WL_val (rn_fld fd42_2 rfl) rfl ?_; refine WL_val (rn_fld fd25_1 rfl) rfl ?_; refine WL_val (rn_load na3 rfl ((hS.sat.le leG37).cell (hcb4 3 _ rfl))) rfl ?_; refine WL_val (rn_assign (v := (.int .i64 x0.Gap.High)) rfl) rfl ?_; refine WL_nil ?_; have H := Option.some.inj H; subst H
    exact ⟨_, upds_self _ _ ⟨rfl, rfl, rfl, rfl, rfl, rfl, trivial⟩, rfl⟩
   ·have H := ifF hb39 H; refine WC_skip ?_; have H := Option.some.inj H; subst H
    exact ⟨_, upds_self _ _ ⟨rfl, rfl, rfl, rfl, rfl, rfl, trivial⟩, rfl⟩
  ·rintro F wl ⟨Fb, rfl, rfl⟩
   refine WC_seq ?_; refine WC_seq ?_; refine WC_region ?_; refine WL_val (rn_assign (v := (.int .i64 0)) rfl) rfl ?_; refine WL_nil ?_; obtain ⟨q44, hq44, H⟩ := bnd H; refine WC_cut (fun F w => ∃ (Fb : Fr) (G : Gm) (aq44_0 : Option Addr) (nq44_0 cq44_0 : Nat) (claq44_0 : List Value) (aq44_1 : Option Addr) (nq44_1 cq44_1 : Nat) (claq44_1 : List Value) (aq44_2 : Option Addr) (nq44_2 cq44_2 : Nat) (claq44_2 : List Value) (aq44_3 : Option Addr) (nq44_3 cq44_3 : Nat) (aq44_4 : Option Addr) (nq44_4 cq44_4 : Nat) (aq44_5 : Option Addr) (nq44_5 cq44_5 : Nat), F = upds Fb [(2, .bool x2), (3, .pointer (some ⟨b4, 0, none⟩)), (6, .pointer (some ⟨b7, 0, none⟩)), (7, .pointer (some ⟨b10, 0, none⟩))] ∧ Gle G37 G ∧ Since w0.heap.size G0 w0 G w ∧ Owns G w w0.heap.size [⟨22, 1, nq44_2, .slice aq44_2 nq44_2 cq44_2, claq44_2⟩, ⟨3, 1, nq44_1, .slice aq44_1 nq44_1 cq44_1, claq44_1⟩, ⟨3, 1, nq44_0, .slice aq44_0 nq44_0 cq44_0, claq44_0⟩, ⟨45, 3, 1, .slice (some ⟨b10, 0, none⟩) 1 1, [.slice aq44_0 nq44_0 cq44_0, .slice aq44_1 nq44_1 cq44_1, .slice aq44_2 nq44_2 cq44_2]⟩, ⟨45, 3, 1, .slice (some ⟨b7, 0, none⟩) 1 1, [.slice aq44_3 nq44_3 cq44_3, .slice aq44_4 nq44_4 cq44_4, .slice aq44_5 nq44_5 cq44_5]⟩] ∧ nq44_0 = q44.1.Uses.length ∧ Rd RInt 1 G claq44_0 q44.1.Uses ∧ nq44_1 = q44.1.Gaps.length ∧ Rd RInt 1 G claq44_1 q44.1.Gaps ∧ nq44_2 = q44.1.Goods.length ∧ Rd (RSlice RInt 1) 1 G claq44_2 q44.1.Goods ∧ RSl RInt 1 G aq44_3 nq44_3 cq44_3 q44.2.Uses ∧ RSl RInt 1 G aq44_4 nq44_4 cq44_4 q44.2.Gaps ∧ RSl (RSlice RInt 1) 1 G aq44_5 nq44_5 cq44_5 q44.2.Goods) ?_ ?_
   ·refine WC_block (WC_loop hq44 (fun s42 F w => ∃ (Fb : Fr) (G : Gm) (as42_0 : Option Addr) (ns42_0 cs42_0 : Nat) (clas42_0 : List Value) (as42_1 : Option Addr) (ns42_1 cs42_1 : Nat) (clas42_1 : List Value) (as42_2 : Option Addr) (ns42_2 cs42_2 : Nat) (clas42_2 : List Value) (as42_3 : Option Addr) (ns42_3 cs42_3 : Nat) (as42_4 : Option Addr) (ns42_4 cs42_4 : Nat) (as42_5 : Option Addr) (ns42_5 cs42_5 : Nat), F = upds Fb [(1, .int .i64 x1), (2, .bool x2), (3, .pointer (some ⟨b4, 0, none⟩)), (6, .pointer (some ⟨b7, 0, none⟩)), (7, .pointer (some ⟨b10, 0, none⟩)), (10, .int .i64 q38), (11, .int .i64 s42.1)] ∧ Gle G37 G ∧ Since w0.heap.size G0 w0 G w ∧ Owns G w w0.heap.size [⟨22, 1, ns42_2, .slice as42_2 ns42_2 cs42_2, clas42_2⟩, ⟨3, 1, ns42_1, .slice as42_1 ns42_1 cs42_1, clas42_1⟩, ⟨3, 1, ns42_0, .slice as42_0 ns42_0 cs42_0, clas42_0⟩, ⟨45, 3, 1, .slice (some ⟨b10, 0, none⟩) 1 1, [.slice as42_0 ns42_0 cs42_0, .slice as42_1 ns42_1 cs42_1, .slice as42_2 ns42_2 cs42_2]⟩, ⟨45, 3, 1, .slice (some ⟨b7, 0, none⟩) 1 1, [.slice as42_3 ns42_3 cs42_3, .slice as42_4 ns42_4 cs42_4, .slice as42_5 ns42_5 cs42_5]⟩] ∧ ns42_0 = s42.2.1.Uses.length ∧ Rd RInt 1 G clas42_0 s42.2.1.Uses ∧ ns42_1 = s42.2.1.Gaps.length ∧ Rd RInt 1 G clas42_1 s42.2.1.Gaps ∧ ns42_2 = s42.2.1.Goods.length ∧ Rd (RSlice RInt 1) 1 G clas42_2 s42.2.1.Goods ∧ RSl RInt 1 G as42_3 ns42_3 cs42_3 s42.2.2.Uses ∧ RSl RInt 1 G as42_4 ns42_4 cs42_4 s42.2.2.Gaps ∧ RSl (RSlice RInt 1) 1 G as42_5 ns42_5 cs42_5 s42.2.2.Goods) ?_ ?_)
    ·have hO : Owns G37 w36 w0.heap.size ([⟨22, 1, nq18_2, .slice aq18_2 nq18_2 cq18_2, claq18_2⟩, ⟨3, 1, nq18_1, .slice aq18_1 nq18_1 cq18_1, claq18_1⟩, ⟨3, 1, nq18_0, .slice aq18_0 nq18_0 cq18_0, claq18_0⟩, ⟨45, 3, 1, .slice (some ⟨b10, 0, none⟩) 1 1, [.slice aq18_0 nq18_0 cq18_0, .slice aq18_1 nq18_1 cq18_1, .slice aq18_2 nq18_2 cq18_2]⟩, ⟨45, 3, 1, .slice (some ⟨b7, 0, none⟩) 1 1, [.slice aq18_3 nq18_3 cq18_3, .slice aq18_4 nq18_4 cq18_4, .slice aq18_5 nq18_5 cq18_5]⟩]) := hO
     exact ⟨_, G37, aq18_0, nq18_0, cq18_0, claq18_0, aq18_1, nq18_1, cq18_1, claq18_1, aq18_2, nq18_2, cq18_2, claq18_2, aq18_3, nq18_3, cq18_3, aq18_4, nq18_4, cq18_4, aq18_5, nq18_5, cq18_5, upds_self _ _ ⟨rfl, rfl, rfl, rfl, rfl, rfl, rfl, trivial⟩, Gle.refl _, hS, hO, hnhq18_0, hq18_0, hnhq18_1, hq18_1, hnhq18_2, hq18_2, hq18_3, hq18_4, hq18_5⟩
    ·rintro s42 F w46 t45 ⟨Fb, G47, as42_0, ns42_0, cs42_0, clas42_0, as42_1, ns42_1, cs42_1, clas42_1, as42_2, ns42_2, cs42_2, clas42_2, as42_3, ns42_3, cs42_3, as42_4, ns42_4, cs42_4, as42_5, ns42_5, cs42_5, rfl, leG47, hS, hO, hnhs42_0, hs42_0, hnhs42_1, hs42_1, hnhs42_2, hs42_2, hs42_3, hs42_4, hs42_5⟩
     intro H1 hqq44
     have Hoq44 := H; have H := H1
     unfold f31_b1 at H
     refine WC_seq ?_; refine WC_seq ?_; refine WC_region ?_; refine WL_val (rn_move (v := (.int .i64 s42.1)) rfl) rfl ?_; refine WL_val (rn_move (v := (.int .i64 x1)) rfl) rfl ?_; refine WL_val (rn_lss rfl rfl) rfl ?_; refine WL_nil ?_; refine WC_cond rfl (fun hb48 => ?_) (fun hb48 => ?_)
     ·have H := ifT hb48 H; refine WC_skip ?_; refine WC_seq ?_; refine WC_block ?_; refine WC_region ?_; refine WL_val (rn_fld fd45_1 rfl) rfl ?_; refine WL_val (rn_load na22 rfl (own_cell hO (k := 3) rfl (j := 1) rfl)) rfl ?_; refine WL_val (rn_move (v := (.int .i64 q38)) rfl) rfl ?_
      refine WL_op rfl (OpP_newF (v := fun b => .slice (some ⟨b, 0, none⟩) 1 1) (cs := [.int .i64 q38]) (e := 3) (by kernel_rfl) hS.sat rfl (fun b49 G51 w50 hg hcb49 => ?_))
      have hS := hS.grow hg; have hO := hO.grow hg
      have leG51 := hg.le
      have hfb49 : RSl RInt 1 G51 (some ⟨b49, 0, none⟩) 1 1 [q38] := RSl.of_rd hcb49 (Rd.cons (c := [.int .i64 q38]) rfl rfl (Rd.nil RInt 1 _)) rfl (by decide)
      obtain ⟨y52, hy52, H⟩ := bnd H; refine WL_op rfl (OpP_append (k := 1) sl22 RInt_one hS hO rfl hnhs42_1 (hs42_1.mono RInt_mono leG51) hfb49 hy52 rfl rfl rfl rfl rfl (fun aw53 cw53 w53 clw53 hS hO hrw53 => ?_))
      have hO : Owns G51 w53 w0.heap.size ([⟨22, 1, ns42_2, .slice as42_2 ns42_2 cs42_2, clas42_2⟩, ⟨3, 1, y52.length, .slice aw53 y52.length cw53, clw53⟩, ⟨3, 1, ns42_0, .slice as42_0 ns42_0 cs42_0, clas42_0⟩, ⟨45, 3, 1, .slice (some ⟨b10, 0, none⟩) 1 1, [.slice as42_0 ns42_0 cs42_0, .slice as42_1 ns42_1 cs42_1, .slice as42_2 ns42_2 cs42_2]⟩, ⟨45, 3, 1, .slice (some ⟨b7, 0, none⟩) 1 1, [.slice as42_3 ns42_3 cs42_3, .slice as42_4 ns42_4 cs42_4, .slice as42_5 ns42_5 cs42_5]⟩]) := hO
      refine WL_val (rn_fld fd45_1 rfl) rfl ?_; refine WL_op rfl (OpP_store (vs := [.slice aw53 y52.length cw53]) sz22 hS hO (k := 3) rfl rfl rfl rfl rfl (one_all rfl) (Nat.le_of_ble_eq_true rfl) (fun w54 hS hO => ?_))
      have hO : Owns G51 w54 w0.heap.size ([⟨22, 1, ns42_2, .slice as42_2 ns42_2 cs42_2, clas42_2⟩, ⟨3, 1, y52.length, .slice aw53 y52.length cw53, clw53⟩, ⟨3, 1, ns42_0, .slice as42_0 ns42_0 cs42_0, clas42_0⟩, ⟨45, 3, 1, .slice (some ⟨b10, 0, none⟩) 1 1, [.slice as42_0 ns42_0 cs42_0, .slice aw53 y52.length cw53, .slice as42_2 ns42_2 cs42_2]⟩, ⟨45, 3, 1, .slice (some ⟨b7, 0, none⟩) 1 1, [.slice as42_3 ns42_3 cs42_3, .slice as42_4 ns42_4 cs42_4, .slice as42_5 ns42_5 cs42_5]⟩]) := hO
      refine WL_nil ?_; refine WC_region ?_; refine WL_val (rn_move (v := (.int .i64 s42.1)) rfl) rfl ?_; refine WL_val (rn_move (v := (.int .i64 q38)) rfl) rfl ?_; refine WL_val (rn_add rfl rfl) rfl ?_; refine WL_val (rn_assign (v := (.int .i64 (IntKind.i64.wrap (s42.1 + q38)))) rfl) rfl ?_; refine WL_nil ?_
      have hO : Owns G51 w54 w0.heap.size ([⟨22, 1, ns42_2, .slice as42_2 ns42_2 cs42_2, clas42_2⟩, ⟨3, 1, y52.length, .slice aw53 y52.length cw53, clw53⟩, ⟨3, 1, ns42_0, .slice as42_0 ns42_0 cs42_0, clas42_0⟩, ⟨45, 3, 1, .slice (some ⟨b10, 0, none⟩) 1 1, [.slice as42_0 ns42_0 cs42_0, .slice aw53 y52.length cw53, .slice as42_2 ns42_2 cs42_2]⟩, ⟨45, 3, 1, .slice (some ⟨b7, 0, none⟩) 1 1, [.slice as42_3 ns42_3 cs42_3, .slice as42_4 ns42_4 cs42_4, .slice as42_5 ns42_5 cs42_5]⟩]) := hO
      have H := Option.some.inj H; subst H; refine ⟨_, rfl, ?_⟩
      have l2_4 := leG47.trans leG51
      exact ⟨_, G51, as42_0, ns42_0, cs42_0, clas42_0, aw53, y52.length, cw53, clw53, as42_2, ns42_2, cs42_2, clas42_2, as42_3, ns42_3, cs42_3, as42_4, ns42_4, cs42_4, as42_5, ns42_5, cs42_5, upds_self _ _ ⟨rfl, rfl, rfl, rfl, rfl, rfl, rfl, trivial⟩, l2_4, hS, hO, hnhs42_0, (hs42_0.mono RInt_mono leG51), rfl, hrw53, hnhs42_2, (hs42_2.mono (RSlice_mono RInt_mono) leG51), (hs42_3.mono RInt_mono leG51), (hs42_4.mono RInt_mono leG51), (hs42_5.mono (RSlice_mono RInt_mono) leG51)⟩
     ·have H := ifF hb48 H; refine WC_exit rfl ?_
      have hO : Owns G47 w46 w0.heap.size ([⟨22, 1, ns42_2, .slice as42_2 ns42_2 cs42_2, clas42_2⟩, ⟨3, 1, ns42_1, .slice as42_1 ns42_1 cs42_1, clas42_1⟩, ⟨3, 1, ns42_0, .slice as42_0 ns42_0 cs42_0, clas42_0⟩, ⟨45, 3, 1, .slice (some ⟨b10, 0, none⟩) 1 1, [.slice as42_0 ns42_0 cs42_0, .slice as42_1 ns42_1 cs42_1, .slice as42_2 ns42_2 cs42_2]⟩, ⟨45, 3, 1, .slice (some ⟨b7, 0, none⟩) 1 1, [.slice as42_3 ns42_3 cs42_3, .slice as42_4 ns42_4 cs42_4, .slice as42_5 ns42_5 cs42_5]⟩]) := hO
      have H := Option.some.inj H; subst H
      have hres := hqq44 _ rfl
      subst hres
      exact ⟨_, G47, as42_0, ns42_0, cs42_0, clas42_0, as42_1, ns42_1, cs42_1, clas42_1, as42_2, ns42_2, cs42_2, clas42_2, as42_3, ns42_3, cs42_3, as42_4, ns42_4, cs42_4, as42_5, ns42_5, cs42_5, upds_self _ _ ⟨rfl, rfl, rfl, rfl, trivial⟩, leG47, hS, hO, hnhs42_0, hs42_0, hnhs42_1, hs42_1, hnhs42_2, hs42_2, hs42_3, hs42_4, hs42_5⟩
   ·rintro F w55 ⟨Fb, G56, aq44_0, nq44_0, cq44_0, claq44_0, aq44_1, nq44_1, cq44_1, claq44_1, aq44_2, nq44_2, cq44_2, claq44_2, aq44_3, nq44_3, cq44_3, aq44_4, nq44_4, cq44_4, aq44_5, nq44_5, cq44_5, rfl, leG56, hS, hO, hnhq44_0, hq44_0, hnhq44_1, hq44_1, hnhq44_2, hq44_2, hq44_3, hq44_4, hq44_5⟩
    refine WC_seq ?_; refine WC_seq ?_; refine WC_region ?_; refine WL_val (rn_assign (v := (.int .i64 0)) rfl) rfl ?_; refine WL_nil ?_; obtain ⟨q59, hq59, H⟩ := bnd H; refine WC_cut (fun F w => ∃ (Fb : Fr) (G : Gm) (aq59_0 : Option Addr) (nq59_0 cq59_0 : Nat) (claq59_0 : List Value) (aq59_1 : Option Addr) (nq59_1 cq59_1 : Nat) (claq59_1 : List Value) (aq59_2 : Option Addr) (nq59_2 cq59_2 : Nat) (claq59_2 : List Value) (aq59_3 : Option Addr) (nq59_3 cq59_3 : Nat) (aq59_4 : Option Addr) (nq59_4 cq59_4 : Nat) (aq59_5 : Option Addr) (nq59_5 cq59_5 : Nat), F = upds Fb [(6, .pointer (some ⟨b7, 0, none⟩)), (7, .pointer (some ⟨b10, 0, none⟩))] ∧ Gle G56 G ∧ Since w0.heap.size G0 w0 G w ∧ Owns G w w0.heap.size [⟨22, 1, nq59_2, .slice aq59_2 nq59_2 cq59_2, claq59_2⟩, ⟨3, 1, nq59_1, .slice aq59_1 nq59_1 cq59_1, claq59_1⟩, ⟨3, 1, nq59_0, .slice aq59_0 nq59_0 cq59_0, claq59_0⟩, ⟨45, 3, 1, .slice (some ⟨b10, 0, none⟩) 1 1, [.slice aq59_0 nq59_0 cq59_0, .slice aq59_1 nq59_1 cq59_1, .slice aq59_2 nq59_2 cq59_2]⟩, ⟨45, 3, 1, .slice (some ⟨b7, 0, none⟩) 1 1, [.slice aq59_3 nq59_3 cq59_3, .slice aq59_4 nq59_4 cq59_4, .slice aq59_5 nq59_5 cq59_5]⟩] ∧ nq59_0 = q59.1.Uses.length ∧ Rd RInt 1 G claq59_0 q59.1.Uses ∧ nq59_1 = q59.1.Gaps.length ∧ Rd RInt 1 G claq59_1 q59.1.Gaps ∧ nq59_2 = q59.1.Goods.length ∧ Rd (RSlice RInt 1) 1 G claq59_2 q59.1.Goods ∧ RSl RInt 1 G aq59_3 nq59_3 cq59_3 q59.2.Uses ∧ RSl RInt 1 G aq59_4 nq59_4 cq59_4 q59.2.Gaps ∧ RSl (RSlice RInt 1) 1 G aq59_5 nq59_5 cq59_5 q59.2.Goods) ?_ ?_
    ·refine WC_block (WC_loop hq59 (fun s57 F w => ∃ (Fb : Fr) (G : Gm) (as57_0 : Option Addr) (ns57_0 cs57_0 : Nat) (clas57_0 : List Value) (as57_1 : Option Addr) (ns57_1 cs57_1 : Nat) (clas57_1 : List Value) (as57_2 : Option Addr) (ns57_2 cs57_2 : Nat) (clas57_2 : List Value) (as57_3 : Option Addr) (ns57_3 cs57_3 : Nat) (as57_4 : Option Addr) (ns57_4 cs57_4 : Nat) (as57_5 : Option Addr) (ns57_5 cs57_5 : Nat), F = upds Fb [(2, .bool x2), (3, .pointer (some ⟨b4, 0, none⟩)), (6, .pointer (some ⟨b7, 0, none⟩)), (7, .pointer (some ⟨b10, 0, none⟩)), (12, .int .i64 s57.1)] ∧ Gle G56 G ∧ Since w0.heap.size G0 w0 G w ∧ Owns G w w0.heap.size [⟨22, 1, ns57_2, .slice as57_2 ns57_2 cs57_2, clas57_2⟩, ⟨3, 1, ns57_1, .slice as57_1 ns57_1 cs57_1, clas57_1⟩, ⟨3, 1, ns57_0, .slice as57_0 ns57_0 cs57_0, clas57_0⟩, ⟨45, 3, 1, .slice (some ⟨b10, 0, none⟩) 1 1, [.slice as57_0 ns57_0 cs57_0, .slice as57_1 ns57_1 cs57_1, .slice as57_2 ns57_2 cs57_2]⟩, ⟨45, 3, 1, .slice (some ⟨b7, 0, none⟩) 1 1, [.slice as57_3 ns57_3 cs57_3, .slice as57_4 ns57_4 cs57_4, .slice as57_5 ns57_5 cs57_5]⟩] ∧ ns57_0 = s57.2.1.Uses.length ∧ Rd RInt 1 G clas57_0 s57.2.1.Uses ∧ ns57_1 = s57.2.1.Gaps.length ∧ Rd RInt 1 G clas57_1 s57.2.1.Gaps ∧ ns57_2 = s57.2.1.Goods.length ∧ Rd (RSlice RInt 1) 1 G clas57_2 s57.2.1.Goods ∧ RSl RInt 1 G as57_3 ns57_3 cs57_3 s57.2.2.Uses ∧ RSl RInt 1 G as57_4 ns57_4 cs57_4 s57.2.2.Gaps ∧ RSl (RSlice RInt 1) 1 G as57_5 ns57_5 cs57_5 s57.2.2.Goods) ?_ ?_)
     ·have hO : Owns G56 w55 w0.heap.size ([⟨22, 1, nq44_2, .slice aq44_2 nq44_2 cq44_2, claq44_2⟩, ⟨3, 1, nq44_1, .slice aq44_1 nq44_1 cq44_1, claq44_1⟩, ⟨3, 1, nq44_0, .slice aq44_0 nq44_0 cq44_0, claq44_0⟩, ⟨45, 3, 1, .slice (some ⟨b10, 0, none⟩) 1 1, [.slice aq44_0 nq44_0 cq44_0, .slice aq44_1 nq44_1 cq44_1, .slice aq44_2 nq44_2 cq44_2]⟩, ⟨45, 3, 1, .slice (some ⟨b7, 0, none⟩) 1 1, [.slice aq44_3 nq44_3 cq44_3, .slice aq44_4 nq44_4 cq44_4, .slice aq44_5 nq44_5 cq44_5]⟩]) := hO
      exact ⟨_, G56, aq44_0, nq44_0, cq44_0, claq44_0, aq44_1, nq44_1, cq44_1, claq44_1, aq44_2, nq44_2, cq44_2, claq44_2, aq44_3, nq44_3, cq44_3, aq44_4, nq44_4, cq44_4, aq44_5, nq44_5, cq44_5, upds_self _ _ ⟨rfl, rfl, rfl, rfl, rfl, trivial⟩, Gle.refl _, hS, hO, hnhq44_0, hq44_0, hnhq44_1, hq44_1, hnhq44_2, hq44_2, hq44_3, hq44_4, hq44_5⟩
     ·rintro s57 F w61 t60 ⟨Fb, G62, as57_0, ns57_0, cs57_0, clas57_0, as57_1, ns57_1, cs57_1, clas57_1, as57_2, ns57_2, cs57_2, clas57_2, as57_3, ns57_3, cs57_3, as57_4, ns57_4, cs57_4, as57_5, ns57_5, cs57_5, rfl, leG62, hS, hO, hnhs57_0, hs57_0, hnhs57_1, hs57_1, hnhs57_2, hs57_2, hs57_3, hs57_4, hs57_5⟩
      intro H1 hqq59
      have Hoq59 := H; have H := H1
      unfold f31_b2 at H
      refine WC_seq ?_; refine WC_seq ?_; refine WC_region ?_; refine WL_val (rn_move (v := (.int .i64 s57.1)) rfl) rfl ?_; refine WL_val (rn_fld fd42_3 rfl) rfl ?_
      have l1_4 := (leG37.trans leG56).trans leG62
      refine WL_val (rn_load na40 rfl ((hS.sat.le l1_4).cell (hcb4 4 _ rfl))) rfl ?_
      have l0_4 := leG6.trans l1_4
      refine WL_val (rn_len sl40 rfl rfl (h3.mono RTShipLot_mono l0_4).1) rfl ?_; refine WL_val (rn_lss rfl rfl) rfl ?_; refine WL_nil ?_; refine WC_cond rfl (fun hb63 => ?_) (fun hb63 => ?_)
      ·have H := ifT hb63 H; refine WC_skip ?_; refine WC_seq ?_; refine WC_block ?_; refine WC_seq ?_; refine WC_region ?_; refine WL_val (rn_assign (v := (.slice none 0 0)) rfl) rfl ?_; refine WL_nil ?_; refine WC_seq ?_; refine WC_seq ?_; refine WC_region ?_; refine WL_val (rn_assign (v := (.int .i64 0)) rfl) rfl ?_; refine WL_nil ?_; have hO := hO.cons_nil 3 1; obtain ⟨q67, hq67, H⟩ := bnd H; refine WC_cut (fun F w => ∃ (Fb : Fr) (G : Gm) (aq67_0 : Option Addr) (nq67_0 cq67_0 : Nat) (claq67_0 : List Value) (aq67_1 : Option Addr) (nq67_1 cq67_1 : Nat) (claq67_1 : List Value) (aq67_2 : Option Addr) (nq67_2 cq67_2 : Nat) (claq67_2 : List Value) (aq67_3 : Option Addr) (nq67_3 cq67_3 : Nat) (claq67_3 : List Value) (aq67_4 : Option Addr) (nq67_4 cq67_4 : Nat) (aq67_5 : Option Addr) (nq67_5 cq67_5 : Nat) (aq67_6 : Option Addr) (nq67_6 cq67_6 : Nat), F = upds Fb [(2, .bool x2), (3, .pointer (some ⟨b4, 0, none⟩)), (6, .pointer (some ⟨b7, 0, none⟩)), (7, .pointer (some ⟨b10, 0, none⟩)), (12, .int .i64 s57.1), (13, .slice aq67_0 nq67_0 cq67_0)] ∧ Gle G62 G ∧ Since w0.heap.size G0 w0 G w ∧ Owns G w w0.heap.size [⟨3, 1, nq67_0, .slice aq67_0 nq67_0 cq67_0, claq67_0⟩, ⟨22, 1, nq67_3, .slice aq67_3 nq67_3 cq67_3, claq67_3⟩, ⟨3, 1, nq67_2, .slice aq67_2 nq67_2 cq67_2, claq67_2⟩, ⟨3, 1, nq67_1, .slice aq67_1 nq67_1 cq67_1, claq67_1⟩, ⟨45, 3, 1, .slice (some ⟨b10, 0, none⟩) 1 1, [.slice aq67_1 nq67_1 cq67_1, .slice aq67_2 nq67_2 cq67_2, .slice aq67_3 nq67_3 cq67_3]⟩, ⟨45, 3, 1, .slice (some ⟨b7, 0, none⟩) 1 1, [.slice aq67_4 nq67_4 cq67_4, .slice aq67_5 nq67_5 cq67_5, .slice aq67_6 nq67_6 cq67_6]⟩] ∧ nq67_0 = q67.1.length ∧ Rd RInt 1 G claq67_0 q67.1 ∧ nq67_1 = q67.2.1.Uses.length ∧ Rd RInt 1 G claq67_1 q67.2.1.Uses ∧ nq67_2 = q67.2.1.Gaps.length ∧ Rd RInt 1 G claq67_2 q67.2.1.Gaps ∧ nq67_3 = q67.2.1.Goods.length ∧ Rd (RSlice RInt 1) 1 G claq67_3 q67.2.1.Goods ∧ RSl RInt 1 G aq67_4 nq67_4 cq67_4 q67.2.2.Uses ∧ RSl RInt 1 G aq67_5 nq67_5 cq67_5 q67.2.2.Gaps ∧ RSl (RSlice RInt 1) 1 G aq67_6 nq67_6 cq67_6 q67.2.2.Goods) ?_ ?_
       ·refine WC_block (WC_loop hq67 (fun s65 F w => ∃ (Fb : Fr) (G : Gm) (as65_0 : Option Addr) (ns65_0 cs65_0 : Nat) (clas65_0 : List Value) (as65_1 : Option Addr) (ns65_1 cs65_1 : Nat) (clas65_1 : List Value) (as65_2 : Option Addr) (ns65_2 cs65_2 : Nat) (clas65_2 : List Value) (as65_3 : Option Addr) (ns65_3 cs65_3 : Nat) (clas65_3 : List Value) (as65_4 : Option Addr) (ns65_4 cs65_4 : Nat) (as65_5 : Option Addr) (ns65_5 cs65_5 : Nat) (as65_6 : Option Addr) (ns65_6 cs65_6 : Nat), F = upds Fb [(2, .bool x2), (3, .pointer (some ⟨b4, 0, none⟩)), (6, .pointer (some ⟨b7, 0, none⟩)), (7, .pointer (some ⟨b10, 0, none⟩)), (12, .int .i64 s57.1), (13, .slice as65_0 ns65_0 cs65_0), (14, .int .i64 s65.2.1)] ∧ Gle G62 G ∧ Since w0.heap.size G0 w0 G w ∧ Owns G w w0.heap.size [⟨3, 1, ns65_0, .slice as65_0 ns65_0 cs65_0, clas65_0⟩, ⟨22, 1, ns65_3, .slice as65_3 ns65_3 cs65_3, clas65_3⟩, ⟨3, 1, ns65_2, .slice as65_2 ns65_2 cs65_2, clas65_2⟩, ⟨3, 1, ns65_1, .slice as65_1 ns65_1 cs65_1, clas65_1⟩, ⟨45, 3, 1, .slice (some ⟨b10, 0, none⟩) 1 1, [.slice as65_1 ns65_1 cs65_1, .slice as65_2 ns65_2 cs65_2, .slice as65_3 ns65_3 cs65_3]⟩, ⟨45, 3, 1, .slice (some ⟨b7, 0, none⟩) 1 1, [.slice as65_4 ns65_4 cs65_4, .slice as65_5 ns65_5 cs65_5, .slice as65_6 ns65_6 cs65_6]⟩] ∧ ns65_0 = s65.1.length ∧ Rd RInt 1 G clas65_0 s65.1 ∧ ns65_1 = s65.2.2.1.Uses.length ∧ Rd RInt 1 G clas65_1 s65.2.2.1.Uses ∧ ns65_2 = s65.2.2.1.Gaps.length ∧ Rd RInt 1 G clas65_2 s65.2.2.1.Gaps ∧ ns65_3 = s65.2.2.1.Goods.length ∧ Rd (RSlice RInt 1) 1 G clas65_3 s65.2.2.1.Goods ∧ RSl RInt 1 G as65_4 ns65_4 cs65_4 s65.2.2.2.Uses ∧ RSl RInt 1 G as65_5 ns65_5 cs65_5 s65.2.2.2.Gaps ∧ RSl (RSlice RInt 1) 1 G as65_6 ns65_6 cs65_6 s65.2.2.2.Goods) ?_ ?_)
        ·have hO : Owns G62 w61 w0.heap.size ([⟨3, 1, 0, .slice none 0 0, []⟩, ⟨22, 1, ns57_2, .slice as57_2 ns57_2 cs57_2, clas57_2⟩, ⟨3, 1, ns57_1, .slice as57_1 ns57_1 cs57_1, clas57_1⟩, ⟨3, 1, ns57_0, .slice as57_0 ns57_0 cs57_0, clas57_0⟩, ⟨45, 3, 1, .slice (some ⟨b10, 0, none⟩) 1 1, [.slice as57_0 ns57_0 cs57_0, .slice as57_1 ns57_1 cs57_1, .slice as57_2 ns57_2 cs57_2]⟩, ⟨45, 3, 1, .slice (some ⟨b7, 0, none⟩) 1 1, [.slice as57_3 ns57_3 cs57_3, .slice as57_4 ns57_4 cs57_4, .slice as57_5 ns57_5 cs57_5]⟩]) := hO
         exact ⟨_, G62, none, 0, 0, [], as57_0, ns57_0, cs57_0, clas57_0, as57_1, ns57_1, cs57_1, clas57_1, as57_2, ns57_2, cs57_2, clas57_2, as57_3, ns57_3, cs57_3, as57_4, ns57_4, cs57_4, as57_5, ns57_5, cs57_5, upds_self _ _ ⟨rfl, rfl, rfl, rfl, rfl, rfl, rfl, trivial⟩, Gle.refl _, hS, hO, rfl, (Rd.nil RInt 1 G62), hnhs57_0, hs57_0, hnhs57_1, hs57_1, hnhs57_2, hs57_2, hs57_3, hs57_4, hs57_5⟩
        ·rintro s65 F w69 t68 ⟨Fb, G70, as65_0, ns65_0, cs65_0, clas65_0, as65_1, ns65_1, cs65_1, clas65_1, as65_2, ns65_2, cs65_2, clas65_2, as65_3, ns65_3, cs65_3, clas65_3, as65_4, ns65_4, cs65_4, as65_5, ns65_5, cs65_5, as65_6, ns65_6, cs65_6, rfl, leG70, hS, hO, hnhs65_0, hs65_0, hnhs65_1, hs65_1, hnhs65_2, hs65_2, hnhs65_3, hs65_3, hs65_4, hs65_5, hs65_6⟩
         intro H1 hqq67
         have Hoq67 := H; have H := H1
         unfold f31_b3 at H
         refine WC_seq ?_; refine WC_seq ?_; refine WC_region ?_; refine WL_val (rn_move (v := (.int .i64 s65.2.1)) rfl) rfl ?_; refine WL_val (rn_fld fd42_0 rfl) rfl ?_
         have l1_5 := l1_4.trans leG70
         refine WL_val (rn_load na22 rfl ((hS.sat.le l1_5).cell (hcb4 0 _ rfl))) rfl ?_
         have l0_5 := l0_4.trans leG70
         refine WL_val (rn_len sl22 rfl rfl (h1.mono RInt_mono l0_5).1) rfl ?_; refine WL_val (rn_lss rfl rfl) rfl ?_; refine WL_nil ?_; refine WC_cond rfl (fun hb71 => ?_) (fun hb71 => ?_)
         ·have H := ifT hb71 H; refine WC_skip ?_; refine WC_seq ?_; refine WC_block ?_; refine WC_seq ?_; refine WC_region ?_; refine WL_val (rn_fld fd42_3 rfl) rfl ?_; refine WL_val (rn_load na40 rfl ((hS.sat.le l1_5).cell (hcb4 4 _ rfl))) rfl ?_; refine WL_val (rn_move (v := (.int .i64 s57.1)) rfl) rfl ?_; obtain ⟨y72, hy72, H⟩ := bnd H; refine WL_idx sl40 (h3.mono RTShipLot_mono l0_5) hy72 rfl rfl rfl ?_
          rintro b73 o73 _ hcb73 _ ⟨a74, n74, c74, ⟨⟩, h74⟩
          refine WL_val (rn_fld fd111_0 rfl) rfl ?_; refine WL_val (rn_load na23 rfl (hS.sat.cell (hcb73 0 _ rfl))) rfl ?_; refine WL_val (rn_move (v := (.int .i64 s65.2.1)) rfl) rfl ?_; obtain ⟨y75, hy75, H⟩ := bnd H; refine WL_idx sl23 h74 hy75 rfl rfl rfl ?_
          rintro b76 o76 _ hcb76 _ ⟨⟩
          refine WL_val (rn_fld fd25_1 rfl) rfl ?_; refine WL_val (rn_load na3 rfl (hS.sat.cell (hcb76 1 _ rfl))) rfl ?_; refine WL_val (rn_assign (v := (.int .i64 y75.High)) rfl) rfl ?_; refine WL_nil ?_; refine WC_seq ?_; obtain ⟨q77, hq77, H⟩ := bnd H; refine WC_cut (fun F w => ∃ (Fb : Fr), F = upds Fb [(2, .bool x2), (3, .pointer (some ⟨b4, 0, none⟩)), (6, .pointer (some ⟨b7, 0, none⟩)), (7, .pointer (some ⟨b10, 0, none⟩)), (12, .int .i64 s57.1), (13, .slice as65_0 ns65_0 cs65_0), (14, .int .i64 s65.2.1), (15, .int .i64 q77)] ∧ w69 = w) ?_ ?_
          ·have Hoq77 := H; have H := hq77; refine WC_seq ?_; refine WC_region ?_; refine WL_val (rn_move (v := (.bool x2)) rfl) rfl ?_; refine WL_nil ?_; refine WC_cond rfl (fun hb78 => ?_) (fun hb78 => ?_)
           ·have H := ifT hb78 H; refine WC_region ?_; refine WL_val (rn_fld fd42_3 rfl) rfl ?_; refine WL_val (rn_load na40 rfl ((hS.sat.le l1_5).cell (hcb4 4 _ rfl))) rfl ?_; refine WL_val (rn_move (v := (.int .i64 s57.1)) rfl) rfl ?_; refine WL_idx sl40 (h3.mono RTShipLot_mono l0_5) hy72 rfl rfl rfl ?_
            rintro b79 o79 _ hcb79 _ ⟨a80, n80, c80, ⟨⟩, h80⟩
            refine WL_val (rn_fld fd111_0 rfl) rfl ?_; refine WL_val (rn_load na23 rfl (hS.sat.cell (hcb79 0 _ rfl))) rfl ?_; refine WL_val (rn_move (v := (.int .i64 s65.2.1)) rfl) rfl ?_; refine WL_idx sl23 h80 hy75 rfl rfl rfl ?_
            rintro b81 o81 _ hcb81 _ ⟨⟩
            refine WL_val (rn_fld fd25_0 rfl) rfl ?_; refine WL_val (rn_load na3 rfl (hS.sat.cell (hcb81 0 _ rfl))) rfl ?_; refine WL_val (rn_assign (v := (.int .i64 y75.Low)) rfl) rfl ?_; refine WL_nil ?_; have H := Option.some.inj H; subst H
            exact ⟨_, upds_self _ _ ⟨rfl, rfl, rfl, rfl, rfl, rfl, rfl, rfl, trivial⟩, rfl⟩
           ·have H := ifF hb78 H; refine WC_skip ?_; have H := Option.some.inj H; subst H
            exact ⟨_, upds_self _ _ ⟨rfl, rfl, rfl, rfl, rfl, rfl, rfl, rfl, trivial⟩, rfl⟩
          ·rintro F wl ⟨Fb, rfl, rfl⟩
           refine WC_region ?_; refine WL_val (rn_move (v := (.slice as65_0 ns65_0 cs65_0)) rfl) rfl ?_; refine WL_val (rn_move (v := (.int .i64 q77)) rfl) rfl ?_
           refine WL_op rfl (OpP_newF (v := fun b => .slice (some ⟨b, 0, none⟩) 1 1) (cs := [.int .i64 q77]) (e := 3) (by kernel_rfl) hS.sat rfl (fun b84 G86 w85 hg hcb84 => ?_))
           have hS := hS.grow hg; have hO := hO.grow hg
           have leG86 := hg.le
           have hfb84 : RSl RInt 1 G86 (some ⟨b84, 0, none⟩) 1 1 [q77] := RSl.of_rd hcb84 (Rd.cons (c := [.int .i64 q77]) rfl rfl (Rd.nil RInt 1 _)) rfl (by decide)
           obtain ⟨y87, hy87, H⟩ := bnd H; refine WL_op rfl (OpP_append (k := 0) sl22 RInt_one hS hO rfl hnhs65_0 (hs65_0.mono RInt_mono leG86) hfb84 hy87 rfl rfl rfl rfl rfl (fun aw88 cw88 w88 clw88 hS hO hrw88 => ?_))
           have hO : Owns G86 w88 w0.heap.size ([⟨3, 1, y87.length, .slice aw88 y87.length cw88, clw88⟩, ⟨22, 1, ns65_3, .slice as65_3 ns65_3 cs65_3, clas65_3⟩, ⟨3, 1, ns65_2, .slice as65_2 ns65_2 cs65_2, clas65_2⟩, ⟨3, 1, ns65_1, .slice as65_1 ns65_1 cs65_1, clas65_1⟩, ⟨45, 3, 1, .slice (some ⟨b10, 0, none⟩) 1 1, [.slice as65_1 ns65_1 cs65_1, .slice as65_2 ns65_2 cs65_2, .slice as65_3 ns65_3 cs65_3]⟩, ⟨45, 3, 1, .slice (some ⟨b7, 0, none⟩) 1 1, [.slice as65_4 ns65_4 cs65_4, .slice as65_5 ns65_5 cs65_5, .slice as65_6 ns65_6 cs65_6]⟩]) := hO
           refine WL_val (rn_assign (v := (.slice aw88 y87.length cw88)) rfl) rfl ?_; refine WL_nil ?_; refine WC_region ?_; refine WL_val (rn_move (v := (.int .i64 s65.2.1)) rfl) rfl ?_; refine WL_val (rn_add rfl rfl) rfl ?_; refine WL_val (rn_assign (v := (.int .i64 (IntKind.i64.wrap (s65.2.1 + 1)))) rfl) rfl ?_; refine WL_nil ?_
           have hO : Owns G86 w88 w0.heap.size ([⟨3, 1, y87.length, .slice aw88 y87.length cw88, clw88⟩, ⟨22, 1, ns65_3, .slice as65_3 ns65_3 cs65_3, clas65_3⟩, ⟨3, 1, ns65_2, .slice as65_2 ns65_2 cs65_2, clas65_2⟩, ⟨3, 1, ns65_1, .slice as65_1 ns65_1 cs65_1, clas65_1⟩, ⟨45, 3, 1, .slice (some ⟨b10, 0, none⟩) 1 1, [.slice as65_1 ns65_1 cs65_1, .slice as65_2 ns65_2 cs65_2, .slice as65_3 ns65_3 cs65_3]⟩, ⟨45, 3, 1, .slice (some ⟨b7, 0, none⟩) 1 1, [.slice as65_4 ns65_4 cs65_4, .slice as65_5 ns65_5 cs65_5, .slice as65_6 ns65_6 cs65_6]⟩]) := hO
           have H := Option.some.inj H; subst H; refine ⟨_, rfl, ?_⟩
           have l4_6 := leG70.trans leG86
           exact ⟨_, G86, aw88, y87.length, cw88, clw88, as65_1, ns65_1, cs65_1, clas65_1, as65_2, ns65_2, cs65_2, clas65_2, as65_3, ns65_3, cs65_3, clas65_3, as65_4, ns65_4, cs65_4, as65_5, ns65_5, cs65_5, as65_6, ns65_6, cs65_6, upds_self _ _ ⟨rfl, rfl, rfl, rfl, rfl, rfl, rfl, trivial⟩, l4_6, hS, hO, rfl, hrw88, hnhs65_1, (hs65_1.mono RInt_mono leG86), hnhs65_2, (hs65_2.mono RInt_mono leG86), hnhs65_3, (hs65_3.mono (RSlice_mono RInt_mono) leG86), (hs65_4.mono RInt_mono leG86), (hs65_5.mono RInt_mono leG86), (hs65_6.mono (RSlice_mono RInt_mono) leG86)⟩
         ·have H := ifF hb71 H; refine WC_exit rfl ?_
          have hO : Owns G70 w69 w0.heap.size ([⟨3, 1, ns65_0, .slice as65_0 ns65_0 cs65_0, clas65_0⟩, ⟨22, 1, ns65_3, .slice as65_3 ns65_3 cs65_3, clas65_3⟩, ⟨3, 1, ns65_2, .slice as65_2 ns65_2 cs65_2, clas65_2⟩, ⟨3, 1, ns65_1, .slice as65_1 ns65_1 cs65_1, clas65_1⟩, ⟨45, 3, 1, .slice (some ⟨b10, 0, none⟩) 1 1, [.slice as65_1 ns65_1 cs65_1, .slice as65_2 ns65_2 cs65_2, .slice as65_3 ns65_3 cs65_3]⟩, ⟨45, 3, 1, .slice (some ⟨b7, 0, none⟩) 1 1, [.slice as65_4 ns65_4 cs65_4, .slice as65_5 ns65_5 cs65_5, .slice as65_6 ns65_6 cs65_6]⟩]) := hO
          have H := Option.some.inj H; subst H
          have hres := hqq67 _ rfl
          subst hres
          exact ⟨_, G70, as65_0, ns65_0, cs65_0, clas65_0, as65_1, ns65_1, cs65_1, clas65_1, as65_2, ns65_2, cs65_2, clas65_2, as65_3, ns65_3, cs65_3, clas65_3, as65_4, ns65_4, cs65_4, as65_5, ns65_5, cs65_5, as65_6, ns65_6, cs65_6, upds_self _ _ ⟨rfl, rfl, rfl, rfl, rfl, rfl, trivial⟩, leG70, hS, hO, hnhs65_0, hs65_0, hnhs65_1, hs65_1, hnhs65_2, hs65_2, hnhs65_3, hs65_3, hs65_4, hs65_5, hs65_6⟩
       ·rintro F w89 ⟨Fb, G90, aq67_0, nq67_0, cq67_0, claq67_0, aq67_1, nq67_1, cq67_1, claq67_1, aq67_2, nq67_2, cq67_2, claq67_2, aq67_3, nq67_3, cq67_3, claq67_3, aq67_4, nq67_4, cq67_4, aq67_5, nq67_5, cq67_5, aq67_6, nq67_6, cq67_6, rfl, leG90, hS, hO, hnhq67_0, hq67_0, hnhq67_1, hq67_1, hnhq67_2, hq67_2, hnhq67_3, hq67_3, hq67_4, hq67_5, hq67_6⟩
        refine WC_region ?_; refine WL_val (rn_fld fd45_2 rfl) rfl ?_; refine WL_val (rn_load na43 rfl (own_cell hO (k := 4) rfl (j := 2) rfl)) rfl ?_; refine WL_val (rn_move (v := (.slice aq67_0 nq67_0 cq67_0)) rfl) rfl ?_; obtain ⟨G91, leG91, hS, hO, hfG91⟩ := hO.freezeS hS RInt_mono (k := 0) rfl hq67_0 hnhq67_0
        refine WL_op rfl (OpP_newF (v := fun b => .slice (some ⟨b, 0, none⟩) 1 1) (cs := [.slice aq67_0 nq67_0 cq67_0]) (e := 22) (by kernel_rfl) hS.sat rfl (fun b92 G94 w93 hg hcb92 => ?_))
        have hS := hS.grow hg; have hO := hO.grow hg
        have leG94 := hg.le
        have hfb92 : RSl (RSlice RInt 1) 1 G94 (some ⟨b92, 0, none⟩) 1 1 [q67.1] := RSl.of_rd hcb92 (Rd.cons (c := [.slice aq67_0 nq67_0 cq67_0]) rfl ⟨_, _, _, rfl, (hfG91.mono RInt_mono leG94)⟩ (Rd.nil (RSlice RInt 1) 1 _)) rfl (by decide)
        obtain ⟨y95, hy95, H⟩ := bnd H
        have l5_7 := leG91.trans leG94
        refine WL_op rfl (OpP_append (k := 0) sl43 (RSlice_one RInt 1) hS hO rfl hnhq67_3 (hq67_3.mono (RSlice_mono RInt_mono) l5_7) hfb92 hy95 rfl rfl rfl rfl rfl (fun aw96 cw96 w96 clw96 hS hO hrw96 => ?_))
        have hO : Owns G94 w96 w0.heap.size ([⟨22, 1, y95.length, .slice aw96 y95.length cw96, clw96⟩, ⟨3, 1, nq67_2, .slice aq67_2 nq67_2 cq67_2, claq67_2⟩, ⟨3, 1, nq67_1, .slice aq67_1 nq67_1 cq67_1, claq67_1⟩, ⟨45, 3, 1, .slice (some ⟨b10, 0, none⟩) 1 1, [.slice aq67_1 nq67_1 cq67_1, .slice aq67_2 nq67_2 cq67_2, .slice aq67_3 nq67_3 cq67_3]⟩, ⟨45, 3, 1, .slice (some ⟨b7, 0, none⟩) 1 1, [.slice aq67_4 nq67_4 cq67_4, .slice aq67_5 nq67_5 cq67_5, .slice aq67_6 nq67_6 cq67_6]⟩]) := hO
        refine WL_val (rn_fld fd45_2 rfl) rfl ?_; refine WL_op rfl (OpP_store (vs := [.slice aw96 y95.length cw96]) sz43 hS hO (k := 3) rfl rfl rfl rfl rfl (one_all rfl) (Nat.le_of_ble_eq_true rfl) (fun w97 hS hO => ?_))
        have hO : Owns G94 w97 w0.heap.size ([⟨22, 1, y95.length, .slice aw96 y95.length cw96, clw96⟩, ⟨3, 1, nq67_2, .slice aq67_2 nq67_2 cq67_2, claq67_2⟩, ⟨3, 1, nq67_1, .slice aq67_1 nq67_1 cq67_1, claq67_1⟩, ⟨45, 3, 1, .slice (some ⟨b10, 0, none⟩) 1 1, [.slice aq67_1 nq67_1 cq67_1, .slice aq67_2 nq67_2 cq67_2, .slice aw96 y95.length cw96]⟩, ⟨45, 3, 1, .slice (some ⟨b7, 0, none⟩) 1 1, [.slice aq67_4 nq67_4 cq67_4, .slice aq67_5 nq67_5 cq67_5, .slice aq67_6 nq67_6 cq67_6]⟩]) := hO
        refine WL_nil ?_; refine WC_region ?_; refine WL_val (rn_move (v := (.int .i64 s57.1)) rfl) rfl ?_; refine WL_val (rn_add rfl rfl) rfl ?_; refine WL_val (rn_assign (v := (.int .i64 (IntKind.i64.wrap (s57.1 + 1)))) rfl) rfl ?_; refine WL_nil ?_
        have hO : Owns G94 w97 w0.heap.size ([⟨22, 1, y95.length, .slice aw96 y95.length cw96, clw96⟩, ⟨3, 1, nq67_2, .slice aq67_2 nq67_2 cq67_2, claq67_2⟩, ⟨3, 1, nq67_1, .slice aq67_1 nq67_1 cq67_1, claq67_1⟩, ⟨45, 3, 1, .slice (some ⟨b10, 0, none⟩) 1 1, [.slice aq67_1 nq67_1 cq67_1, .slice aq67_2 nq67_2 cq67_2, .slice aw96 y95.length cw96]⟩, ⟨45, 3, 1, .slice (some ⟨b7, 0, none⟩) 1 1, [.slice aq67_4 nq67_4 cq67_4, .slice aq67_5 nq67_5 cq67_5, .slice aq67_6 nq67_6 cq67_6]⟩]) := hO
        have H := Option.some.inj H; subst H; refine ⟨_, rfl, ?_⟩
        have l3_7 := (leG62.trans leG90).trans l5_7
        exact ⟨_, G94, aq67_1, nq67_1, cq67_1, claq67_1, aq67_2, nq67_2, cq67_2, claq67_2, aw96, y95.length, cw96, clw96, aq67_4, nq67_4, cq67_4, aq67_5, nq67_5, cq67_5, aq67_6, nq67_6, cq67_6, upds_self _ _ ⟨rfl, rfl, rfl, rfl, rfl, trivial⟩, l3_7, hS, hO, hnhq67_1, (hq67_1.mono RInt_mono l5_7), hnhq67_2, (hq67_2.mono RInt_mono l5_7), rfl, hrw96, (hq67_4.mono RInt_mono l5_7), (hq67_5.mono RInt_mono l5_7), (hq67_6.mono (RSlice_mono RInt_mono) l5_7)⟩
      ·have H := ifF hb63 H; refine WC_exit rfl ?_
       have hO : Owns G62 w61 w0.heap.size ([⟨22, 1, ns57_2, .slice as57_2 ns57_2 cs57_2, clas57_2⟩, ⟨3, 1, ns57_1, .slice as57_1 ns57_1 cs57_1, clas57_1⟩, ⟨3, 1, ns57_0, .slice as57_0 ns57_0 cs57_0, clas57_0⟩, ⟨45, 3, 1, .slice (some ⟨b10, 0, none⟩) 1 1, [.slice as57_0 ns57_0 cs57_0, .slice as57_1 ns57_1 cs57_1, .slice as57_2 ns57_2 cs57_2]⟩, ⟨45, 3, 1, .slice (some ⟨b7, 0, none⟩) 1 1, [.slice as57_3 ns57_3 cs57_3, .slice as57_4 ns57_4 cs57_4, .slice as57_5 ns57_5 cs57_5]⟩]) := hO
       have H := Option.some.inj H; subst H
       have hres := hqq59 _ rfl
       subst hres
       exact ⟨_, G62, as57_0, ns57_0, cs57_0, clas57_0, as57_1, ns57_1, cs57_1, clas57_1, as57_2, ns57_2, cs57_2, clas57_2, as57_3, ns57_3, cs57_3, as57_4, ns57_4, cs57_4, as57_5, ns57_5, cs57_5, upds_self _ _ ⟨rfl, rfl, trivial⟩, leG62, hS, hO, hnhs57_0, hs57_0, hnhs57_1, hs57_1, hnhs57_2, hs57_2, hs57_3, hs57_4, hs57_5⟩
    ·rintro F w98 ⟨Fb, G99, aq59_0, nq59_0, cq59_0, claq59_0, aq59_1, nq59_1, cq59_1, claq59_1, aq59_2, nq59_2, cq59_2, claq59_2, aq59_3, nq59_3, cq59_3, aq59_4, nq59_4, cq59_4, aq59_5, nq59_5, cq59_5, rfl, leG99, hS, hO, hnhq59_0, hq59_0, hnhq59_1, hq59_1, hnhq59_2, hq59_2, hq59_3, hq59_4, hq59_5⟩
     refine WC_seq ?_; refine WC_region ?_; refine WL_val (rn_loadA ag45 (cs := [.slice aq59_0 nq59_0 cq59_0, .slice aq59_1 nq59_1 cq59_1, .slice aq59_2 nq59_2 cq59_2]) rfl rfl (fun j v hj => own_sub hO (k := 3) rfl 0 3 j v hj)) rfl ?_; refine WL_op rfl (OpP_store (vs := [.slice aq59_0 nq59_0 cq59_0, .slice aq59_1 nq59_1 cq59_1, .slice aq59_2 nq59_2 cq59_2]) sz45 hS hO (k := 4) rfl rfl rfl rfl rfl (one_all rfl) (Nat.le_of_ble_eq_true rfl) (fun w100 hS hO => ?_))
     have hO : Owns G99 w100 w0.heap.size ([⟨22, 1, nq59_2, .slice aq59_2 nq59_2 cq59_2, claq59_2⟩, ⟨3, 1, nq59_1, .slice aq59_1 nq59_1 cq59_1, claq59_1⟩, ⟨3, 1, nq59_0, .slice aq59_0 nq59_0 cq59_0, claq59_0⟩, ⟨45, 3, 1, .slice (some ⟨b10, 0, none⟩) 1 1, [.slice aq59_0 nq59_0 cq59_0, .slice aq59_1 nq59_1 cq59_1, .slice aq59_2 nq59_2 cq59_2]⟩, ⟨45, 3, 1, .slice (some ⟨b7, 0, none⟩) 1 1, [.slice aq59_0 nq59_0 cq59_0, .slice aq59_1 nq59_1 cq59_1, .slice aq59_2 nq59_2 cq59_2]⟩]) := hO
     refine WL_nil ?_; refine WC_ret ?_; obtain ⟨G101, leG101, hS, hO, hfG101⟩ := hO.freezeS hS RInt_mono (k := 2) rfl hq59_0 hnhq59_0; obtain ⟨G102, leG102, hS, hO, hfG102⟩ := hO.freezeS hS RInt_mono (k := 1) rfl (hq59_1.mono RInt_mono leG101) hnhq59_1
     have l4_6 := leG101.trans leG102
     obtain ⟨G103, leG103, hS, hO, hfG103⟩ := hO.freezeS hS (RSlice_mono RInt_mono) (k := 0) rfl (hq59_2.mono (RSlice_mono RInt_mono) l4_6) hnhq59_2
     have H : some (⟨q59.1.Uses, q59.1.Gaps, q59.1.Goods⟩ : TShipTruth) = some r := H
     have H := Option.some.inj H; subst H
     have l5_7 := leG102.trans leG103
     exact ⟨[.agg #[.slice aq59_0 nq59_0 cq59_0, .slice aq59_1 nq59_1 cq59_1, .slice aq59_2 nq59_2 cq59_2]], ⟨⟨_, rfl, ld_agg (cs := [.slice aq59_0 nq59_0 cq59_0, .slice aq59_1 nq59_1 cq59_1, .slice aq59_2 nq59_2 cq59_2]) ag45 rfl (fun j v hj => own_sub hO (k := 1) rfl 0 3 j v hj)⟩, trivial⟩, ⟨_, _, rfl, hS.toGrow, _, _, _, _, _, _, _, _, _, rfl, (hfG101.mono RInt_mono l5_7), (hfG102.mono RInt_mono leG103), hfG103⟩⟩
set_option maxHeartbeats 1000000 in
theorem f33_ok {G0 : Gm} {w0 : World} (hS0 : Sat G0 w0) {x0 : TShipStore} {a1 : Option Addr} {n1 c1 : Nat} {a2 : Option Addr} {n2 c2 : Nat} {a3 : Option Addr} {n3 c3 : Nat} {x1 : Int} (h1 : RSl RInt 1 G0 a1 n1 c1 x0.Stock) (h2 : RSl RTSpan 2 G0 a2 n2 c2 x0.Use) (h3 : RSl RTShipLot 3 G0 a3 n3 c3 x0.Lots) {r : Bool} (H : f33 x0 x1 = some r) :
  Calls Try.prog 33 #[.agg #[.slice a1 n1 c1, .slice a2 n2 c2, .int .i64 x0.Gap.Low, .int .i64 x0.Gap.High, .slice a3 n3 c3, .int .i64 x0.Hold], .int .i64 x1] w0 (RetV w0 (.bool r)) := by
 have hS := Since.start hS0
 have hO : Owns G0 w0 w0.heap.size [] := Owns.nil (Nat.le_refl _)
 unfold f33 at H
 refine enter1 (N := 11) (shutV _ _) Try.func33 rfl rfl rfl rfl ?_; refine WC_seq ?_; refine WC_region ?_; refine WL_op rfl (OpP_newF (v := fun b => .pointer (some ⟨b, 0, none⟩)) (cs := [.slice a1 n1 c1, .slice a2 n2 c2, .int .i64 x0.Gap.Low, .int .i64 x0.Gap.High, .slice a3 n3 c3, .int .i64 x0.Hold]) (e := 42) (rn_boxA rfl) hS.sat rfl (fun b4 G6 w5 hg hcb4 => ?_)); have hS := hS.grow hg; have hO := hO.grow hg
 have leG6 := hg.le
 refine WL_val (rn_assign (v := (.bool false)) rfl) rfl ?_; refine WL_nil ?_; refine WC_seq ?_; refine WC_region ?_; refine WL_val (rn_move (v := (.int .i64 x1)) rfl) rfl ?_; refine WL_val (rn_fld fd42_0 rfl) rfl ?_; refine WL_val (rn_load na22 rfl (hS.sat.cell (hcb4 0 _ rfl))) rfl ?_; refine WL_val (rn_len sl22 rfl rfl (h1.mono RInt_mono leG6).1) rfl ?_; refine WL_val (rn_sub rfl rfl) rfl ?_; obtain ⟨y7, hy7, H⟩ := bnd H; refine WL_op rfl (OpP_callV cb65 (f65_ok (x0 := x1) (x1 := 0) (x2 := IntKind.i64.wrap ((x0.Stock.length : Int) - 1)) hS.sat  hy7) rfl rfl (fun w8 hb => ?_)); have hS := hS.keep hb; have hO := hO.below hb; refine WL_val (rn_assign (v := (.bool y7)) rfl) rfl ?_; refine WL_nil ?_; refine WC_ret ?_
 have H : some y7 = some r := H
 have H := Option.some.inj H; subst H
 exact ⟨rfl, hS.below⟩
set_option maxHeartbeats 1000000 in
theorem f8_ok {G0 : Gm} {w0 : World} (hS0 : Sat G0 w0) {x0 : TShipStore} {a1 : Option Addr} {n1 c1 : Nat} {a2 : Option Addr} {n2 c2 : Nat} {a3 : Option Addr} {n3 c3 : Nat} {x1 : (List Int)} {a4 : Option Addr} {n4 c4 : Nat} {x2 : Int} {x3 : Int} {x4 : TShipTruth} {a5 : Option Addr} {n5 c5 : Nat} {a6 : Option Addr} {n6 c6 : Nat} {a7 : Option Addr} {n7 c7 : Nat} (h1 : RSl RInt 1 G0 a1 n1 c1 x0.Stock) (h2 : RSl RTSpan 2 G0 a2 n2 c2 x0.Use) (h3 : RSl RTShipLot 3 G0 a3 n3 c3 x0.Lots) (h4 : RSl RInt 1 G0 a4 n4 c4 x1) (h5 : RSl RInt 1 G0 a5 n5 c5 x4.Uses) (h6 : RSl RInt 1 G0 a6 n6 c6 x4.Gaps) (h7 : RSl (RSlice RInt 1) 1 G0 a7 n7 c7 x4.Goods) {r : Bool} (H : f8 x0 x1 x2 x3 x4 = some r) :
  Calls Try.prog 8 #[.agg #[.slice a1 n1 c1, .slice a2 n2 c2, .int .i64 x0.Gap.Low, .int .i64 x0.Gap.High, .slice a3 n3 c3, .int .i64 x0.Hold], .slice a4 n4 c4, .int .i64 x2, .int .i64 x3, .agg #[.slice a5 n5 c5, .slice a6 n6 c6, .slice a7 n7 c7]] w0 (RetV w0 (.bool r)) := by
 have hS := Since.start hS0
 have hO : Owns G0 w0 w0.heap.size [] := Owns.nil (Nat.le_refl _)
 unfold f8 at H
 refine enter1 (N := 134) (shutV _ _) Try.func8 rfl rfl rfl rfl ?_; refine WC_seq ?_; refine WC_region ?_; refine WL_op rfl (OpP_newF (v := fun b => .pointer (some ⟨b, 0, none⟩)) (cs := [.slice a1 n1 c1, .slice a2 n2 c2, .int .i64 x0.Gap.Low, .int .i64 x0.Gap.High, .slice a3 n3 c3, .int .i64 x0.Hold]) (e := 42) (rn_boxA rfl) hS.sat rfl (fun b8 G10 w9 hg hcb8 => ?_)); have hS := hS.grow hg; have hO := hO.grow hg
 have leG10 := hg.le
 refine WL_op rfl (OpP_newF (v := fun b => .pointer (some ⟨b, 0, none⟩)) (cs := [.slice a5 n5 c5, .slice a6 n6 c6, .slice a7 n7 c7]) (e := 45) (rn_boxA rfl) hS.sat rfl (fun b11 G13 w12 hg hcb11 => ?_)); have hS := hS.grow hg; have hO := hO.grow hg
 have leG13 := hg.le
 refine WL_val (rn_assign (v := (.bool false)) rfl) rfl ?_; refine WL_nil ?_; refine WC_seq ?_; refine WC_seq ?_; obtain ⟨q14, hq14, H⟩ := bnd H; refine WC_cut (fun F w => ∃ (Fb : Fr) (G : Gm), F = upds Fb [(1, .slice a4 n4 c4), (2, .int .i64 x2), (3, .int .i64 x3), (5, .pointer (some ⟨b8, 0, none⟩)), (9, .pointer (some ⟨b11, 0, none⟩)), (51, .bool q14)] ∧ Gle G13 G ∧ Since w0.heap.size G0 w0 G w ∧ Owns G w w0.heap.size []) ?_ ?_
 ·have Hoq14 := H; have H := hq14; refine WC_region ?_; refine WL_val (rn_loadA ag42 (cs := [.slice a1 n1 c1, .slice a2 n2 c2, .int .i64 x0.Gap.Low, .int .i64 x0.Gap.High, .slice a3 n3 c3, .int .i64 x0.Hold]) rfl rfl (fun j v hj => (hS.sat.le leG13).cell (hcb8.drop_take 0 6 j v hj))) rfl ?_; obtain ⟨y15, hy15, H⟩ := bnd H
  have l0_2 := leG10.trans leG13
  refine WL_op rfl (OpP_callV cb24 (f24_ok (x0 := x0) hS.sat (h1.mono RInt_mono l0_2) (h2.mono RTSpan_mono l0_2) (h3.mono RTShipLot_mono l0_2) hy15) rfl rfl (fun w16 hb => ?_)); have hS := hS.keep hb; have hO := hO.below hb; refine WL_val (rn_not rfl) rfl ?_; refine WL_val (rn_move (v := (.bool (!y15))) rfl) rfl ?_
  rcases bcases (!y15) with hb17 | hb17
  ·have H := ifT hb17 H; refine WL_guardN rfl hb17 rfl rfl rfl ?_; refine WL_guardN rfl hb17 rfl rfl rfl ?_; refine WL_guardN rfl hb17 rfl rfl rfl ?_; refine WL_val (rn_pickT (v := (.bool true)) rfl hb17 rfl) rfl ?_; refine WL_val (rn_move (v := (.bool true)) rfl) rfl ?_; refine WL_guardN rfl rfl rfl rfl rfl ?_; refine WL_guardN rfl rfl rfl rfl rfl ?_; refine WL_guardN rfl rfl rfl rfl rfl ?_; refine WL_val (rn_pickT (v := (.bool true)) rfl rfl rfl) rfl ?_; refine WL_val (rn_move (v := (.bool true)) rfl) rfl ?_; refine WL_guardN rfl rfl rfl rfl rfl ?_; refine WL_guardN rfl rfl rfl rfl rfl ?_; refine WL_guardN rfl rfl rfl rfl rfl ?_; refine WL_guardN rfl rfl rfl rfl rfl ?_; refine WL_guardN rfl rfl rfl rfl rfl ?_; refine WL_val (rn_pickT (v := (.bool true)) rfl rfl rfl) rfl ?_; refine WL_val (rn_move (v := (.bool true)) rfl) rfl ?_; refine WL_guardN rfl rfl rfl rfl rfl ?_; refine WL_guardN rfl rfl rfl rfl rfl ?_; refine WL_guardN rfl rfl rfl rfl rfl ?_; refine WL_guardN rfl rfl rfl rfl rfl ?_; refine WL_val (rn_pickT (v := (.bool true)) rfl rfl rfl) rfl ?_; refine WL_val (rn_move (v := (.bool true)) rfl) rfl ?_; refine WL_guardN rfl rfl rfl rfl rfl ?_; refine WL_guardN rfl rfl rfl rfl rfl ?_; refine WL_guardN rfl rfl rfl rfl rfl ?_; refine WL_guardN rfl rfl rfl rfl rfl ?_; refine WL_guardN rfl rfl rfl rfl rfl ?_; refine WL_val (rn_pickT (v := (.bool true)) rfl rfl rfl) rfl ?_; refine WL_nil ?_
   have hO : Owns G13 w16 w0.heap.size ([]) := hO
   have H := Option.some.inj H; subst H
   exact ⟨_, G13, upds_self _ _ ⟨rfl, rfl, rfl, rfl, rfl, rfl, trivial⟩, Gle.refl _, hS, hO⟩
  ·have H := ifF hb17 H; refine WL_guardY rfl hb17 rfl rfl ?_; refine WL_val (rn_move (v := (.slice a4 n4 c4)) rfl) rfl ?_; refine WL_guardY rfl hb17 rfl rfl ?_; refine WL_val (rn_len sl22 rfl rfl (h4.mono RInt_mono l0_2).1) rfl ?_; refine WL_guardY rfl hb17 rfl rfl ?_; refine WL_val (rn_gtr rfl rfl) rfl ?_; refine WL_val (rn_pickF (v := (.bool (decide (10 < (x1.length : Int))))) rfl hb17 rfl) rfl ?_; refine WL_val (rn_move (v := (.bool (decide (10 < (x1.length : Int))))) rfl) rfl ?_
   rcases bcases (decide (10 < (x1.length : Int))) with hb18 | hb18
   ·have H := ifT hb18 H; refine WL_guardN rfl hb18 rfl rfl rfl ?_; refine WL_guardN rfl hb18 rfl rfl rfl ?_; refine WL_guardN rfl hb18 rfl rfl rfl ?_; refine WL_val (rn_pickT (v := (.bool true)) rfl hb18 rfl) rfl ?_; refine WL_val (rn_move (v := (.bool true)) rfl) rfl ?_; refine WL_guardN rfl rfl rfl rfl rfl ?_; refine WL_guardN rfl rfl rfl rfl rfl ?_; refine WL_guardN rfl rfl rfl rfl rfl ?_; refine WL_guardN rfl rfl rfl rfl rfl ?_; refine WL_guardN rfl rfl rfl rfl rfl ?_; refine WL_val (rn_pickT (v := (.bool true)) rfl rfl rfl) rfl ?_; refine WL_val (rn_move (v := (.bool true)) rfl) rfl ?_; refine WL_guardN rfl rfl rfl rfl rfl ?_; refine WL_guardN rfl rfl rfl rfl rfl ?_; refine WL_guardN rfl rfl rfl rfl rfl ?_; refine WL_guardN rfl rfl rfl rfl rfl ?_; refine WL_val (rn_pickT (v := (.bool true)) rfl rfl rfl) rfl ?_; refine WL_val (rn_move (v := (.bool true)) rfl) rfl ?_; refine WL_guardN rfl rfl rfl rfl rfl ?_; refine WL_guardN rfl rfl rfl rfl rfl ?_; refine WL_guardN rfl rfl rfl rfl rfl ?_; refine WL_guardN rfl rfl rfl rfl rfl ?_; refine WL_guardN rfl rfl rfl rfl rfl ?_; refine WL_val (rn_pickT (v := (.bool true)) rfl rfl rfl) rfl ?_; refine WL_nil ?_
    have hO : Owns G13 w16 w0.heap.size ([]) := hO
    have H := Option.some.inj H; subst H
    exact ⟨_, G13, upds_self _ _ ⟨rfl, rfl, rfl, rfl, rfl, rfl, trivial⟩, Gle.refl _, hS, hO⟩
   ·have H := ifF hb18 H; refine WL_guardY rfl hb18 rfl rfl ?_; refine WL_val (rn_loadA ag45 (cs := [.slice a5 n5 c5, .slice a6 n6 c6, .slice a7 n7 c7]) rfl rfl (fun j v hj => hS.sat.cell (hcb11.drop_take 0 3 j v hj))) rfl ?_; refine WL_guardY rfl hb18 rfl rfl ?_; obtain ⟨y19, hy19, H⟩ := bnd H; refine WL_op rfl (OpP_callV cb25 (f25_ok (x0 := x4) hS.sat (h5.mono RInt_mono l0_2) (h6.mono RInt_mono l0_2) (h7.mono (RSlice_mono RInt_mono) l0_2) hy19) rfl rfl (fun w20 hb => ?_)); have hS := hS.keep hb; have hO := hO.below hb; refine WL_guardY rfl hb18 rfl rfl ?_; refine WL_val (rn_not rfl) rfl ?_; refine WL_val (rn_pickF (v := (.bool (!y19))) rfl hb18 rfl) rfl ?_; refine WL_val (rn_move (v := (.bool (!y19))) rfl) rfl ?_
    rcases bcases (!y19) with hb21 | hb21
    ·have H := ifT hb21 H; refine WL_guardN rfl hb21 rfl rfl rfl ?_; refine WL_guardN rfl hb21 rfl rfl rfl ?_; refine WL_guardN rfl hb21 rfl rfl rfl ?_; refine WL_guardN rfl hb21 rfl rfl rfl ?_; refine WL_guardN rfl hb21 rfl rfl rfl ?_; refine WL_val (rn_pickT (v := (.bool true)) rfl hb21 rfl) rfl ?_; refine WL_val (rn_move (v := (.bool true)) rfl) rfl ?_; refine WL_guardN rfl rfl rfl rfl rfl ?_; refine WL_guardN rfl rfl rfl rfl rfl ?_; refine WL_guardN rfl rfl rfl rfl rfl ?_; refine WL_guardN rfl rfl rfl rfl rfl ?_; refine WL_val (rn_pickT (v := (.bool true)) rfl rfl rfl) rfl ?_; refine WL_val (rn_move (v := (.bool true)) rfl) rfl ?_; refine WL_guardN rfl rfl rfl rfl rfl ?_; refine WL_guardN rfl rfl rfl rfl rfl ?_; refine WL_guardN rfl rfl rfl rfl rfl ?_; refine WL_guardN rfl rfl rfl rfl rfl ?_; refine WL_guardN rfl rfl rfl rfl rfl ?_; refine WL_val (rn_pickT (v := (.bool true)) rfl rfl rfl) rfl ?_; refine WL_nil ?_
     have hO : Owns G13 w20 w0.heap.size ([]) := hO
     have H := Option.some.inj H; subst H
     exact ⟨_, G13, upds_self _ _ ⟨rfl, rfl, rfl, rfl, rfl, rfl, trivial⟩, Gle.refl _, hS, hO⟩
    ·have H := ifF hb21 H; refine WL_guardY rfl hb21 rfl rfl ?_; refine WL_val (rn_loadA ag42 (cs := [.slice a1 n1 c1, .slice a2 n2 c2, .int .i64 x0.Gap.Low, .int .i64 x0.Gap.High, .slice a3 n3 c3, .int .i64 x0.Hold]) rfl rfl (fun j v hj => (hS.sat.le leG13).cell (hcb8.drop_take 0 6 j v hj))) rfl ?_; refine WL_guardY rfl hb21 rfl rfl ?_; refine WL_val (rn_move (v := (.slice a4 n4 c4)) rfl) rfl ?_; refine WL_guardY rfl hb21 rfl rfl ?_; refine WL_val (rn_move (v := (.int .i64 x2)) rfl) rfl ?_; refine WL_guardY rfl hb21 rfl rfl ?_; obtain ⟨y22, hy22, H⟩ := bnd H; refine WL_op rfl (OpP_callV cb27 (f27_ok (x0 := x0) (x1 := x1) (x2 := x2) hS.sat (h1.mono RInt_mono l0_2) (h2.mono RTSpan_mono l0_2) (h3.mono RTShipLot_mono l0_2) (h4.mono RInt_mono l0_2) hy22) rfl rfl (fun w23 hb => ?_)); have hS := hS.keep hb; have hO := hO.below hb; refine WL_guardY rfl hb21 rfl rfl ?_; refine WL_val (rn_not rfl) rfl ?_; refine WL_val (rn_pickF (v := (.bool (!y22))) rfl hb21 rfl) rfl ?_; refine WL_val (rn_move (v := (.bool (!y22))) rfl) rfl ?_
     rcases bcases (!y22) with hb24 | hb24
     ·have H := ifT hb24 H; refine WL_guardN rfl hb24 rfl rfl rfl ?_; refine WL_guardN rfl hb24 rfl rfl rfl ?_; refine WL_guardN rfl hb24 rfl rfl rfl ?_; refine WL_guardN rfl hb24 rfl rfl rfl ?_; refine WL_val (rn_pickT (v := (.bool true)) rfl hb24 rfl) rfl ?_; refine WL_val (rn_move (v := (.bool true)) rfl) rfl ?_; refine WL_guardN rfl rfl rfl rfl rfl ?_; refine WL_guardN rfl rfl rfl rfl rfl ?_; refine WL_guardN rfl rfl rfl rfl rfl ?_; refine WL_guardN rfl rfl rfl rfl rfl ?_; refine WL_guardN rfl rfl rfl rfl rfl ?_; refine WL_val (rn_pickT (v := (.bool true)) rfl rfl rfl) rfl ?_; refine WL_nil ?_
      have hO : Owns G13 w23 w0.heap.size ([]) := hO
      have H := Option.some.inj H; subst H
      exact ⟨_, G13, upds_self _ _ ⟨rfl, rfl, rfl, rfl, rfl, rfl, trivial⟩, Gle.refl _, hS, hO⟩
     ·have H := ifF hb24 H; refine WL_guardY rfl hb24 rfl rfl ?_; refine WL_val (rn_loadA ag42 (cs := [.slice a1 n1 c1, .slice a2 n2 c2, .int .i64 x0.Gap.Low, .int .i64 x0.Gap.High, .slice a3 n3 c3, .int .i64 x0.Hold]) rfl rfl (fun j v hj => (hS.sat.le leG13).cell (hcb8.drop_take 0 6 j v hj))) rfl ?_; refine WL_guardY rfl hb24 rfl rfl ?_; refine WL_val (rn_move (v := (.int .i64 x3)) rfl) rfl ?_; refine WL_guardY rfl hb24 rfl rfl ?_; obtain ⟨y25, hy25, H⟩ := bnd H; refine WL_op rfl (OpP_callV cb33 (f33_ok (x0 := x0) (x1 := x3) hS.sat (h1.mono RInt_mono l0_2) (h2.mono RTSpan_mono l0_2) (h3.mono RTShipLot_mono l0_2) hy25) rfl rfl (fun w26 hb => ?_)); have hS := hS.keep hb; have hO := hO.below hb; refine WL_guardY rfl hb24 rfl rfl ?_; refine WL_val (rn_not rfl) rfl ?_; refine WL_val (rn_pickF (v := (.bool (!y25))) rfl hb24 rfl) rfl ?_; refine WL_val (rn_move (v := (.bool (!y25))) rfl) rfl ?_
      rcases bcases (!y25) with hb27 | hb27
      ·have H := ifT hb27 H; refine WL_guardN rfl hb27 rfl rfl rfl ?_; refine WL_guardN rfl hb27 rfl rfl rfl ?_; refine WL_guardN rfl hb27 rfl rfl rfl ?_; refine WL_guardN rfl hb27 rfl rfl rfl ?_; refine WL_guardN rfl hb27 rfl rfl rfl ?_; refine WL_val (rn_pickT (v := (.bool true)) rfl hb27 rfl) rfl ?_; refine WL_nil ?_
       have hO : Owns G13 w26 w0.heap.size ([]) := hO
       have H := Option.some.inj H; subst H
       exact ⟨_, G13, upds_self _ _ ⟨rfl, rfl, rfl, rfl, rfl, rfl, trivial⟩, Gle.refl _, hS, hO⟩
      ·have H := ifF hb27 H; refine WL_guardY rfl hb27 rfl rfl ?_; refine WL_val (rn_loadA ag42 (cs := [.slice a1 n1 c1, .slice a2 n2 c2, .int .i64 x0.Gap.Low, .int .i64 x0.Gap.High, .slice a3 n3 c3, .int .i64 x0.Hold]) rfl rfl (fun j v hj => (hS.sat.le leG13).cell (hcb8.drop_take 0 6 j v hj))) rfl ?_; refine WL_guardY rfl hb27 rfl rfl ?_; refine WL_val (rn_move (v := (.int .i64 x2)) rfl) rfl ?_; refine WL_guardY rfl hb27 rfl rfl ?_; refine WL_val (rn_loadA ag45 (cs := [.slice a5 n5 c5, .slice a6 n6 c6, .slice a7 n7 c7]) rfl rfl (fun j v hj => hS.sat.cell (hcb11.drop_take 0 3 j v hj))) rfl ?_; refine WL_guardY rfl hb27 rfl rfl ?_; obtain ⟨y28, hy28, H⟩ := bnd H; refine WL_op rfl (OpP_callV cb28 (f28_ok (x0 := x0) (x1 := x2) (x2 := x4) hS.sat (h1.mono RInt_mono l0_2) (h2.mono RTSpan_mono l0_2) (h3.mono RTShipLot_mono l0_2) (h5.mono RInt_mono l0_2) (h6.mono RInt_mono l0_2) (h7.mono (RSlice_mono RInt_mono) l0_2) hy28) rfl rfl (fun w29 hb => ?_)); have hS := hS.keep hb; have hO := hO.below hb; refine WL_guardY rfl hb27 rfl rfl ?_; refine WL_val (rn_not rfl) rfl ?_; refine WL_val (rn_pickF (v := (.bool (!y28))) rfl hb27 rfl) rfl ?_; refine WL_nil ?_
       have hO : Owns G13 w29 w0.heap.size ([]) := hO
       have H := Option.some.inj H; subst H
       exact ⟨_, G13, upds_self _ _ ⟨rfl, rfl, rfl, rfl, rfl, rfl, trivial⟩, Gle.refl _, hS, hO⟩
 ·rintro F w30 ⟨Fb, G31, rfl, leG31, hS, hO⟩
  refine WC_cond rfl (fun hb32 => ?_) (fun hb32 => ?_)
  ·have H := ifT hb32 H; refine WC_seq ?_; refine WC_region ?_; obtain ⟨y33, hy33, H⟩ := bnd H; refine WL_op rfl (OpP_callV cb17 (f17_ok  hS.sat  hy33) rfl rfl (fun w34 hb => ?_)); have hS := hS.keep hb; have hO := hO.below hb; refine WL_val (rn_assign (v := (.bool y33)) rfl) rfl ?_; refine WL_nil ?_; refine WC_ret ?_
   have H : some y33 = some r := H
   have H := Option.some.inj H; subst H
   exact ⟨rfl, hS.below⟩
  ·have H := ifF hb32 H; refine WC_skip ?_; refine WC_seq ?_; refine WC_region ?_
   have l1_3 := leG13.trans leG31
   refine WL_val (rn_loadA ag42 (cs := [.slice a1 n1 c1, .slice a2 n2 c2, .int .i64 x0.Gap.Low, .int .i64 x0.Gap.High, .slice a3 n3 c3, .int .i64 x0.Hold]) rfl rfl (fun j v hj => (hS.sat.le l1_3).cell (hcb8.drop_take 0 6 j v hj))) rfl ?_; refine WL_val (rn_move (v := (.slice a4 n4 c4)) rfl) rfl ?_; refine WL_val (rn_move (v := (.int .i64 x2)) rfl) rfl ?_; refine WL_val (rn_move (v := (.int .i64 x3)) rfl) rfl ?_; obtain ⟨y35, hy35, H⟩ := bnd H
   have l0_3 := leG10.trans l1_3
   refine WL_op rfl (OpP_callV cb32 (f32_ok (x0 := x0) (x1 := x1) (x2 := x2) (x3 := x3) hS.sat (h1.mono RInt_mono l0_3) (h2.mono RTSpan_mono l0_3) (h3.mono RTShipLot_mono l0_3) (h4.mono RInt_mono l0_3) hy35) rfl rfl (fun w36 hb => ?_)); have hS := hS.keep hb; have hO := hO.below hb; refine WL_val (rn_move (v := (.tuple #[.int .i64 y35.1, .int .i64 y35.2])) rfl) rfl ?_; refine WL_val (rn_extract (v := (.int .i64 y35.1)) rfl rfl) rfl ?_; refine WL_val (rn_extract (v := (.int .i64 y35.2)) rfl rfl) rfl ?_; refine WL_val (rn_assign (v := (.int .i64 y35.1)) rfl) rfl ?_; refine WL_val (rn_assign (v := (.int .i64 y35.2)) rfl) rfl ?_; refine WL_nil ?_; refine WC_seq ?_; refine WC_region ?_; refine WL_val (rn_loadA ag42 (cs := [.slice a1 n1 c1, .slice a2 n2 c2, .int .i64 x0.Gap.Low, .int .i64 x0.Gap.High, .slice a3 n3 c3, .int .i64 x0.Hold]) rfl rfl (fun j v hj => (hS.sat.le l1_3).cell (hcb8.drop_take 0 6 j v hj))) rfl ?_; refine WL_val (rn_move (v := (.slice a4 n4 c4)) rfl) rfl ?_; refine WL_val (rn_move (v := (.int .i64 x2)) rfl) rfl ?_; obtain ⟨y37, hy37, H⟩ := bnd H; refine WL_op rfl (OpP_callG cb30 (f30_ok (x0 := x0) (x1 := x1) (x2 := x2) hS.sat (h1.mono RInt_mono l0_3) (h2.mono RTSpan_mono l0_3) (h3.mono RTShipLot_mono l0_3) (h4.mono RInt_mono l0_3) hy37) rfl rfl (fun vy37 G39 w38 hg hvy37 => ?_)); obtain ⟨a40, n40, c40, ⟨⟩, h40⟩ := hvy37; have hS := hS.grow hg; have hO := hO.grow hg
   have leG39 := hg.le
   refine WL_val (rn_move (v := (.tuple #[.slice a40 n40 c40, .int .i64 y37.2])) rfl) rfl ?_; refine WL_val (rn_extract (v := (.slice a40 n40 c40)) rfl rfl) rfl ?_; refine WL_val (rn_extract (v := (.int .i64 y37.2)) rfl rfl) rfl ?_; refine WL_val (rn_assign (v := (.slice a40 n40 c40)) rfl) rfl ?_; refine WL_val (rn_assign (v := (.int .i64 y37.2)) rfl) rfl ?_; refine WL_nil ?_; refine WC_seq ?_; refine WC_seq ?_; obtain ⟨q41, hq41, H⟩ := bnd H; refine WC_cut (fun F w => ∃ (Fb : Fr), F = upds Fb [(1, .slice a4 n4 c4), (2, .int .i64 x2), (3, .int .i64 x3), (5, .pointer (some ⟨b8, 0, none⟩)), (9, .pointer (some ⟨b11, 0, none⟩)), (11, .int .i64 y35.1), (100, .bool q41)] ∧ w38 = w) ?_ ?_
   ·have Hoq41 := H; have H := hq41; refine WC_region ?_; refine WL_val (rn_move (v := (.int .i64 y35.2)) rfl) rfl ?_; refine WL_val (rn_neq rfl rfl) rfl ?_; refine WL_val (rn_move (v := (.bool (y35.2 != 0))) rfl) rfl ?_
    rcases bcases (y35.2 != 0) with hb42 | hb42
    ·have H := ifT hb42 H; refine WL_guardN rfl hb42 rfl rfl rfl ?_; refine WL_guardN rfl hb42 rfl rfl rfl ?_; refine WL_val (rn_pickT (v := (.bool true)) rfl hb42 rfl) rfl ?_; refine WL_val (rn_move (v := (.bool true)) rfl) rfl ?_; refine WL_guardN rfl rfl rfl rfl rfl ?_; refine WL_guardN rfl rfl rfl rfl rfl ?_; refine WL_guardN rfl rfl rfl rfl rfl ?_; refine WL_guardN rfl rfl rfl rfl rfl ?_; refine WL_guardN rfl rfl rfl rfl rfl ?_; refine WL_guardN rfl rfl rfl rfl rfl ?_; refine WL_val (rn_pickT (v := (.bool true)) rfl rfl rfl) rfl ?_; refine WL_val (rn_move (v := (.bool true)) rfl) rfl ?_; refine WL_guardN rfl rfl rfl rfl rfl ?_; refine WL_guardN rfl rfl rfl rfl rfl ?_; refine WL_val (rn_pickT (v := (.bool true)) rfl rfl rfl) rfl ?_; refine WL_val (rn_move (v := (.bool true)) rfl) rfl ?_; refine WL_guardN rfl rfl rfl rfl rfl ?_; refine WL_guardN rfl rfl rfl rfl rfl ?_; refine WL_val (rn_pickT (v := (.bool true)) rfl rfl rfl) rfl ?_; refine WL_val (rn_move (v := (.bool true)) rfl) rfl ?_; refine WL_guardN rfl rfl rfl rfl rfl ?_; refine WL_guardN rfl rfl rfl rfl rfl ?_; refine WL_guardN rfl rfl rfl rfl rfl ?_; refine WL_guardN rfl rfl rfl rfl rfl ?_; refine WL_guardN rfl rfl rfl rfl rfl ?_; refine WL_guardN rfl rfl rfl rfl rfl ?_; refine WL_guardN rfl rfl rfl rfl rfl ?_; refine WL_guardN rfl rfl rfl rfl rfl ?_; refine WL_guardN rfl rfl rfl rfl rfl ?_; refine WL_val (rn_pickT (v := (.bool true)) rfl rfl rfl) rfl ?_; refine WL_nil ?_; have H := Option.some.inj H; subst H
     exact ⟨_, upds_self _ _ ⟨rfl, rfl, rfl, rfl, rfl, rfl, rfl, trivial⟩, rfl⟩
    ·have H := ifF hb42 H; refine WL_guardY rfl hb42 rfl rfl ?_; refine WL_val (rn_move (v := (.int .i64 y37.2)) rfl) rfl ?_; refine WL_guardY rfl hb42 rfl rfl ?_; refine WL_val (rn_neq rfl rfl) rfl ?_; refine WL_val (rn_pickF (v := (.bool (y37.2 != 0))) rfl hb42 rfl) rfl ?_; refine WL_val (rn_move (v := (.bool (y37.2 != 0))) rfl) rfl ?_
     rcases bcases (y37.2 != 0) with hb43 | hb43
     ·have H := ifT hb43 H; refine WL_guardN rfl hb43 rfl rfl rfl ?_; refine WL_guardN rfl hb43 rfl rfl rfl ?_; refine WL_guardN rfl hb43 rfl rfl rfl ?_; refine WL_guardN rfl hb43 rfl rfl rfl ?_; refine WL_guardN rfl hb43 rfl rfl rfl ?_; refine WL_guardN rfl hb43 rfl rfl rfl ?_; refine WL_val (rn_pickT (v := (.bool true)) rfl hb43 rfl) rfl ?_; refine WL_val (rn_move (v := (.bool true)) rfl) rfl ?_; refine WL_guardN rfl rfl rfl rfl rfl ?_; refine WL_guardN rfl rfl rfl rfl rfl ?_; refine WL_val (rn_pickT (v := (.bool true)) rfl rfl rfl) rfl ?_; refine WL_val (rn_move (v := (.bool true)) rfl) rfl ?_; refine WL_guardN rfl rfl rfl rfl rfl ?_; refine WL_guardN rfl rfl rfl rfl rfl ?_; refine WL_val (rn_pickT (v := (.bool true)) rfl rfl rfl) rfl ?_; refine WL_val (rn_move (v := (.bool true)) rfl) rfl ?_; refine WL_guardN rfl rfl rfl rfl rfl ?_; refine WL_guardN rfl rfl rfl rfl rfl ?_; refine WL_guardN rfl rfl rfl rfl rfl ?_; refine WL_guardN rfl rfl rfl rfl rfl ?_; refine WL_guardN rfl rfl rfl rfl rfl ?_; refine WL_guardN rfl rfl rfl rfl rfl ?_; refine WL_guardN rfl rfl rfl rfl rfl ?_; refine WL_guardN rfl rfl rfl rfl rfl ?_; refine WL_guardN rfl rfl rfl rfl rfl ?_; refine WL_val (rn_pickT (v := (.bool true)) rfl rfl rfl) rfl ?_; refine WL_nil ?_; have H := Option.some.inj H; subst H
      exact ⟨_, upds_self _ _ ⟨rfl, rfl, rfl, rfl, rfl, rfl, rfl, trivial⟩, rfl⟩
     ·have H := ifF hb43 H; refine WL_guardY rfl hb43 rfl rfl ?_; refine WL_val (rn_move (v := (.slice a40 n40 c40)) rfl) rfl ?_; refine WL_guardY rfl hb43 rfl rfl ?_; refine WL_val (rn_len sl55 rfl rfl h40.1) rfl ?_; refine WL_guardY rfl hb43 rfl rfl ?_; refine WL_val (rn_fld fd42_0 rfl) rfl ?_; refine WL_guardY rfl hb43 rfl rfl ?_
      have l1_4 := l1_3.trans leG39
      refine WL_val (rn_load na22 rfl ((hS.sat.le l1_4).cell (hcb8 0 _ rfl))) rfl ?_; refine WL_guardY rfl hb43 rfl rfl ?_
      have l0_4 := l0_3.trans leG39
      refine WL_val (rn_len sl22 rfl rfl (h1.mono RInt_mono l0_4).1) rfl ?_; refine WL_guardY rfl hb43 rfl rfl ?_; refine WL_val (rn_neq rfl rfl) rfl ?_; refine WL_val (rn_pickF (v := (.bool ((y37.1.length : Int) != (x0.Stock.length : Int)))) rfl hb43 rfl) rfl ?_; refine WL_val (rn_move (v := (.bool ((y37.1.length : Int) != (x0.Stock.length : Int)))) rfl) rfl ?_
      rcases bcases ((y37.1.length : Int) != (x0.Stock.length : Int)) with hb44 | hb44
      ·have H := ifT hb44 H; refine WL_guardN rfl hb44 rfl rfl rfl ?_; refine WL_guardN rfl hb44 rfl rfl rfl ?_; refine WL_val (rn_pickT (v := (.bool true)) rfl hb44 rfl) rfl ?_; refine WL_val (rn_move (v := (.bool true)) rfl) rfl ?_; refine WL_guardN rfl rfl rfl rfl rfl ?_; refine WL_guardN rfl rfl rfl rfl rfl ?_; refine WL_val (rn_pickT (v := (.bool true)) rfl rfl rfl) rfl ?_; refine WL_val (rn_move (v := (.bool true)) rfl) rfl ?_; refine WL_guardN rfl rfl rfl rfl rfl ?_; refine WL_guardN rfl rfl rfl rfl rfl ?_; refine WL_guardN rfl rfl rfl rfl rfl ?_; refine WL_guardN rfl rfl rfl rfl rfl ?_; refine WL_guardN rfl rfl rfl rfl rfl ?_; refine WL_guardN rfl rfl rfl rfl rfl ?_; refine WL_guardN rfl rfl rfl rfl rfl ?_; refine WL_guardN rfl rfl rfl rfl rfl ?_; refine WL_guardN rfl rfl rfl rfl rfl ?_; refine WL_val (rn_pickT (v := (.bool true)) rfl rfl rfl) rfl ?_; refine WL_nil ?_; have H := Option.some.inj H; subst H
       exact ⟨_, upds_self _ _ ⟨rfl, rfl, rfl, rfl, rfl, rfl, rfl, trivial⟩, rfl⟩
      ·have H := ifF hb44 H; refine WL_guardY rfl hb44 rfl rfl ?_; refine WL_val (rn_move (v := (.int .i64 y35.1)) rfl) rfl ?_; refine WL_guardY rfl hb44 rfl rfl ?_; refine WL_val (rn_lss rfl rfl) rfl ?_; refine WL_val (rn_pickF (v := (.bool (decide (y35.1 < 0)))) rfl hb44 rfl) rfl ?_; refine WL_val (rn_move (v := (.bool (decide (y35.1 < 0)))) rfl) rfl ?_
       rcases bcases (decide (y35.1 < 0)) with hb45 | hb45
       ·have H := ifT hb45 H; refine WL_guardN rfl hb45 rfl rfl rfl ?_; refine WL_guardN rfl hb45 rfl rfl rfl ?_; refine WL_val (rn_pickT (v := (.bool true)) rfl hb45 rfl) rfl ?_; refine WL_val (rn_move (v := (.bool true)) rfl) rfl ?_; refine WL_guardN rfl rfl rfl rfl rfl ?_; refine WL_guardN rfl rfl rfl rfl rfl ?_; refine WL_guardN rfl rfl rfl rfl rfl ?_; refine WL_guardN rfl rfl rfl rfl rfl ?_; refine WL_guardN rfl rfl rfl rfl rfl ?_; refine WL_guardN rfl rfl rfl rfl rfl ?_; refine WL_guardN rfl rfl rfl rfl rfl ?_; refine WL_guardN rfl rfl rfl rfl rfl ?_; refine WL_guardN rfl rfl rfl rfl rfl ?_; refine WL_val (rn_pickT (v := (.bool true)) rfl rfl rfl) rfl ?_; refine WL_nil ?_; have H := Option.some.inj H; subst H
        exact ⟨_, upds_self _ _ ⟨rfl, rfl, rfl, rfl, rfl, rfl, rfl, trivial⟩, rfl⟩
       ·have H := ifF hb45 H; refine WL_guardY rfl hb45 rfl rfl ?_; refine WL_val (rn_move (v := (.int .i64 y35.1)) rfl) rfl ?_; refine WL_guardY rfl hb45 rfl rfl ?_; refine WL_val (rn_gtr rfl rfl) rfl ?_; refine WL_val (rn_pickF (v := (.bool (decide (1000 < y35.1)))) rfl hb45 rfl) rfl ?_; refine WL_val (rn_move (v := (.bool (decide (1000 < y35.1)))) rfl) rfl ?_
        rcases bcases (decide (1000 < y35.1)) with hb46 | hb46
        ·have H := ifT hb46 H; refine WL_guardN rfl hb46 rfl rfl rfl ?_; refine WL_guardN rfl hb46 rfl rfl rfl ?_; refine WL_guardN rfl hb46 rfl rfl rfl ?_; refine WL_guardN rfl hb46 rfl rfl rfl ?_; refine WL_guardN rfl hb46 rfl rfl rfl ?_; refine WL_guardN rfl hb46 rfl rfl rfl ?_; refine WL_guardN rfl hb46 rfl rfl rfl ?_; refine WL_guardN rfl hb46 rfl rfl rfl ?_; refine WL_guardN rfl hb46 rfl rfl rfl ?_; refine WL_val (rn_pickT (v := (.bool true)) rfl hb46 rfl) rfl ?_; refine WL_nil ?_; have H := Option.some.inj H; subst H
         exact ⟨_, upds_self _ _ ⟨rfl, rfl, rfl, rfl, rfl, rfl, rfl, trivial⟩, rfl⟩
        ·have H := ifF hb46 H; refine WL_guardY rfl hb46 rfl rfl ?_; refine WL_val (rn_move (v := (.int .i64 y35.1)) rfl) rfl ?_; refine WL_guardY rfl hb46 rfl rfl ?_; refine WL_val (rn_eql rfl rfl) rfl ?_; refine WL_guardY rfl hb46 rfl rfl ?_; refine WL_val (rn_move (v := (.slice a40 n40 c40)) rfl) rfl ?_; refine WL_guardY rfl hb46 rfl rfl ?_; refine WL_val (rn_move (v := (.int .i64 x3)) rfl) rfl ?_; refine WL_guardY rfl hb46 rfl rfl ?_; obtain ⟨y47, hy47, H⟩ := bnd H; refine WL_idx sl55 h40 hy47 rfl rfl rfl ?_
         rintro b48 o48 _ hcb48 _ ⟨⟩
         refine WL_guardY rfl hb46 rfl rfl ?_; refine WL_val (rn_fld fd59_0 rfl) rfl ?_; refine WL_guardY rfl hb46 rfl rfl ?_; refine WL_val (rn_load na3 rfl (hS.sat.cell (hcb48 0 _ rfl))) rfl ?_; refine WL_guardY rfl hb46 rfl rfl ?_; refine WL_val (rn_lss rfl rfl) rfl ?_; refine WL_guardY rfl hb46 rfl rfl ?_; refine WL_val (rn_neqB Try.underlying4 rfl rfl) rfl ?_; refine WL_val (rn_pickF (v := (.bool (!((y35.1 == 1000) == (decide (y47.May < 0)))))) rfl hb46 rfl) rfl ?_; refine WL_nil ?_; have H := Option.some.inj H; subst H
         exact ⟨_, upds_self _ _ ⟨rfl, rfl, rfl, rfl, rfl, rfl, rfl, trivial⟩, rfl⟩
   ·rintro F wl ⟨Fb, rfl, rfl⟩
    refine WC_cond rfl (fun hb51 => ?_) (fun hb51 => ?_)
    ·have H := ifT hb51 H; refine WC_seq ?_; refine WC_region ?_; refine WL_val (rn_assign (v := (.bool false)) rfl) rfl ?_; refine WL_nil ?_; refine WC_ret ?_
     have H : some false = some r := H
     have H := Option.some.inj H; subst H
     exact ⟨rfl, hS.below⟩
    ·have H := ifF hb51 H; refine WC_skip ?_; refine WC_seq ?_; refine WC_seq ?_; refine WC_region ?_
     have l1_4 := l1_3.trans leG39
     refine WL_val (rn_loadA ag42 (cs := [.slice a1 n1 c1, .slice a2 n2 c2, .int .i64 x0.Gap.Low, .int .i64 x0.Gap.High, .slice a3 n3 c3, .int .i64 x0.Hold]) rfl rfl (fun j v hj => (hS.sat.le l1_4).cell (hcb8.drop_take 0 6 j v hj))) rfl ?_; refine WL_val (rn_move (v := (.slice a4 n4 c4)) rfl) rfl ?_; refine WL_val (rn_move (v := (.int .i64 x2)) rfl) rfl ?_
     have l2_4 := leG31.trans leG39
     refine WL_val (rn_loadA ag45 (cs := [.slice a5 n5 c5, .slice a6 n6 c6, .slice a7 n7 c7]) rfl rfl (fun j v hj => (hS.sat.le l2_4).cell (hcb11.drop_take 0 3 j v hj))) rfl ?_; refine WL_val (rn_move (v := (.int .i64 x3)) rfl) rfl ?_; refine WL_val (rn_move (v := (.int .i64 y35.1)) rfl) rfl ?_; obtain ⟨y52, hy52, H⟩ := bnd H
     have l0_4 := l0_3.trans leG39
     refine WL_op rfl (OpP_callV cb29 (f29_ok (x0 := x0) (x1 := x1) (x2 := x2) (x3 := x4) (x4 := x3) (x5 := y35.1) hS.sat (h1.mono RInt_mono l0_4) (h2.mono RTSpan_mono l0_4) (h3.mono RTShipLot_mono l0_4) (h4.mono RInt_mono l0_4) (h5.mono RInt_mono l0_4) (h6.mono RInt_mono l0_4) (h7.mono (RSlice_mono RInt_mono) l0_4) hy52) rfl rfl (fun w53 hb => ?_)); have hS := hS.keep hb; have hO := hO.below hb; refine WL_val (rn_move (v := (.tuple #[.int .i64 y52.1, .int .i64 y52.2])) rfl) rfl ?_; refine WL_val (rn_extract (v := (.int .i64 y52.1)) rfl rfl) rfl ?_; refine WL_val (rn_extract (v := (.int .i64 y52.2)) rfl rfl) rfl ?_; refine WL_val (rn_assign (v := (.int .i64 y52.1)) rfl) rfl ?_; refine WL_val (rn_assign (v := (.int .i64 y52.2)) rfl) rfl ?_; refine WL_nil ?_; refine WC_seq ?_; refine WC_region ?_; refine WL_val (rn_move (v := (.int .i64 y52.1)) rfl) rfl ?_; refine WL_val (rn_geq rfl rfl) rfl ?_; refine WL_nil ?_; refine WC_cond rfl (fun hb54 => ?_) (fun hb54 => ?_)
     ·have H := ifT hb54 H; refine WC_seq ?_; refine WC_region ?_; refine WL_val (rn_assign (v := (.bool false)) rfl) rfl ?_; refine WL_nil ?_; refine WC_ret ?_
      have H : some false = some r := H
      have H := Option.some.inj H; subst H
      exact ⟨rfl, hS.below⟩
     ·have H := ifF hb54 H; refine WC_skip ?_; refine WC_seq ?_; refine WC_seq ?_; refine WC_region ?_; refine WL_val (rn_move (v := (.int .i64 y35.1)) rfl) rfl ?_; refine WL_val (rn_eql rfl rfl) rfl ?_; refine WL_nil ?_; refine WC_cond rfl (fun hb55 => ?_) (fun hb55 => ?_)
      ·have H := ifT hb55 H; refine WC_seq ?_; refine WC_region ?_; obtain ⟨y56, hy56, H⟩ := bnd H; refine WL_op rfl (OpP_callV cb17 (f17_ok  hS.sat  hy56) rfl rfl (fun w57 hb => ?_)); have hS := hS.keep hb; have hO := hO.below hb; refine WL_val (rn_assign (v := (.bool y56)) rfl) rfl ?_; refine WL_nil ?_; refine WC_ret ?_
       have H : some y56 = some r := H
       have H := Option.some.inj H; subst H
       exact ⟨rfl, hS.below⟩
      ·have H := ifF hb55 H; refine WC_skip ?_; refine WC_seq ?_; have hS := hS.keep (below_drew _); have hO := hO.below (below_drew _)
       refine WC_regionD mixedO (fun _ w => Sat G39 w ∧ True) (.fl 0 (.fl 1 (.fl 2 (.fl 3 (.fl 4 (.fl 6 (.fl 7 (.fl 8 (.on 5 (.on 9 (.on 10 (.fl 11 (.fl 12 (.on 13 (.on 14 .nil))))))))))))))) (by kernel_rfl) rfl (by kernel_rfl) (fun _ => ⟨hS.sat, trivial⟩) ?_
       refine WD_val rfl (fun w hw => rn_loadA ag42 (cs := [.slice a1 n1 c1, .slice a2 n2 c2, .int .i64 x0.Gap.Low, .int .i64 x0.Gap.High, .slice a3 n3 c3, .int .i64 x0.Hold]) rfl rfl (fun j v hj => (hw.1.le l1_4).cell (hcb8.drop_take 0 6 j v hj))) rfl ?_; refine WD_val rfl (fun w hw => rn_move (v := (.slice a4 n4 c4)) rfl) rfl ?_; refine WD_val rfl (fun w hw => rn_move (v := (.int .i64 x2)) rfl) rfl ?_; refine WD_val rfl (fun w hw => rn_loadA ag42 (cs := [.slice a1 n1 c1, .slice a2 n2 c2, .int .i64 x0.Gap.Low, .int .i64 x0.Gap.High, .slice a3 n3 c3, .int .i64 x0.Hold]) rfl rfl (fun j v hj => (hw.1.le l1_4).cell (hcb8.drop_take 0 6 j v hj))) rfl ?_; refine WD_val rfl (fun w hw => rn_move (v := (.int .i64 x2)) rfl) rfl ?_; refine WD_val rfl (fun w hw => rn_move (v := (.int .i64 x3)) rfl) rfl ?_; refine WD_val rfl (fun w hw => rn_move (v := (.int .i64 y35.1)) rfl) rfl ?_; refine WD_val rfl (fun w hw => rn_add rfl rfl) rfl ?_; obtain ⟨y58, hy58, H⟩ := bnd H; refine WD_op rfl rfl (OpP_callG cb31 (f31_ok (x0 := x0) (x1 := x2) (x2 := true) hS.sat (h1.mono RInt_mono l0_4) (h2.mono RTSpan_mono l0_4) (h3.mono RTShipLot_mono l0_4) hy58) rfl rfl (fun vy58 G60 w59 hg hvy58 => ?_)); obtain ⟨a61, n61, c61, a62, n62, c62, a63, n63, c63, ⟨⟩, h61, h62, h63⟩ := hvy58; have hS := hS.grow hg; have hO := hO.grow hg
       have leG60 := hg.le
       refine ⟨fun _ _ => ⟨hS.sat.le leG60, trivial⟩, ?_⟩; obtain ⟨y64, hy64, H⟩ := bnd H
       have l0_5 := l0_4.trans leG60
       refine WD_op rfl rfl (OpP_callV cb29 (f29_ok (x0 := x0) (x1 := x1) (x2 := x2) (x3 := y58) (x4 := x3) (x5 := IntKind.i64.wrap (y35.1 + 1)) hS.sat (h1.mono RInt_mono l0_5) (h2.mono RTSpan_mono l0_5) (h3.mono RTShipLot_mono l0_5) (h4.mono RInt_mono l0_5) h61 h62 h63 hy64) rfl rfl (fun w65 hb => ?_)); have hS := hS.keep hb; have hO := hO.below hb; refine ⟨fun _ _ => ⟨hS.sat.le leG60, trivial⟩, ?_⟩; refine WD_op rfl rfl (OpP_val (rn_move (v := (.tuple #[.int .i64 y64.1, .int .i64 y64.2])) rfl) rfl ?_); refine ⟨fun _ _ => ⟨hS.sat.le leG60, trivial⟩, ?_⟩; refine WD_val rfl (fun w hw => rn_extract (v := (.int .i64 y64.1)) rfl rfl) rfl ?_; refine WD_val rfl (fun w hw => rn_extract (v := (.int .i64 y64.2)) rfl rfl) rfl ?_; refine WD_op rfl rfl (OpP_val (rn_assign (v := (.int .i64 y64.1)) rfl) rfl ?_); refine ⟨fun _ _ => ⟨hS.sat.le leG60, trivial⟩, ?_⟩; refine WD_op rfl rfl (OpP_val (rn_assign (v := (.int .i64 y64.2)) rfl) rfl ?_)
       refine ⟨fun _ h => noneed (by kernel_rfl) h, ?_⟩
       refine WD_nil ?_; refine WC_seq ?_; obtain ⟨q66, hq66, H⟩ := bnd H; refine WC_cut (fun F w => ∃ (Fb : Fr) (G : Gm), F = upds Fb [(10, .bool q66)] ∧ Gle G60 G ∧ Since w0.heap.size G0 w0 G w ∧ Owns G w w0.heap.size []) ?_ ?_
       ·have Hoq66 := H; have H := hq66; refine WC_region ?_; refine WL_val (rn_move (v := (.int .i64 y64.1)) rfl) rfl ?_; refine WL_val (rn_geq rfl rfl) rfl ?_; refine WL_val (rn_move (v := (.bool (decide (0 ≤ y64.1)))) rfl) rfl ?_
        rcases bcases (decide (0 ≤ y64.1)) with hb67 | hb67
        ·have H := ifT hb67 H; refine WL_guardY rfl hb67 rfl rfl ?_; obtain ⟨y68, hy68, H⟩ := bnd H; refine WL_op rfl (OpP_callV cb17 (f17_ok  hS.sat  hy68) rfl rfl (fun w69 hb => ?_)); have hS := hS.keep hb; have hO := hO.below hb; refine WL_val (rn_pickT (v := (.bool y68)) rfl hb67 rfl) rfl ?_; refine WL_val (rn_assign (v := (.bool y68)) rfl) rfl ?_; refine WL_nil ?_
         have hO : Owns G60 w69 w0.heap.size ([]) := hO
         have H := Option.some.inj H; subst H
         exact ⟨_, G60, upds_self _ _ ⟨rfl, trivial⟩, Gle.refl _, hS, hO⟩
        ·have H := ifF hb67 H; refine WL_guardN rfl hb67 rfl rfl rfl ?_; refine WL_val (rn_pickF (v := (.bool false)) rfl hb67 rfl) rfl ?_; refine WL_val (rn_assign (v := (.bool false)) rfl) rfl ?_; refine WL_nil ?_
         have hO : Owns G60 w65 w0.heap.size ([]) := hO
         have H := Option.some.inj H; subst H
         exact ⟨_, G60, upds_self _ _ ⟨rfl, trivial⟩, Gle.refl _, hS, hO⟩
       ·rintro F w70 ⟨Fb, G71, rfl, leG71, hS, hO⟩
        refine WC_ret ?_
        have H : some q66 = some r := H
        have H := Option.some.inj H; subst H
        exact ⟨rfl, hS.below⟩
end Go.Proofs.Ytajejmbnmphngaa
