/-
  The walks: each Go function computes its plain function (printed by a program of ours).
-/
import Derived.Test.YtajejmbnmphngaaRd
import Derived.Test.YtajejmbnmphngaaBaseL
import Derived.Test.YtajejmbnmphngaaP9W1
namespace Go.Proofs.Ytajejmbnmphngaa
open Go.RowKit
set_option linter.unusedVariables false

set_option maxRecDepth 20000
set_option linter.unusedVariables false
set_option maxHeartbeats 1000000 in
theorem f72_ok {G0 : Gm} {w0 : World} (hS0 : Sat G0 w0) {x0 : TStore} {bq0 : Nat} {a1 : Option Addr} {n1 c1 : Nat} {a2 : Option Addr} {n2 c2 : Nat} {a3 : Option Addr} {n3 c3 : Nat} {a4 : Option Addr} {n4 c4 : Nat} {a5 : Option Addr} {n5 c5 : Nat} {a6 : Option Addr} {n6 c6 : Nat} {a7 : Option Addr} {n7 c7 : Nat} {x1 : Int} {x2 : Int} (hcq0 : Cells G0 bq0 0 [.slice a1 n1 c1, .slice a2 n2 c2, .int .i64 x0.ShipStore.Gap.Low, .int .i64 x0.ShipStore.Gap.High, .slice a3 n3 c3, .int .i64 x0.ShipStore.Hold, .slice a4 n4 c4, .slice a5 n5 c5, .slice a6 n6 c6, .slice a7 n7 c7]) (h1 : RSl RInt 1 G0 a1 n1 c1 x0.ShipStore.Stock) (h2 : RSl RTSpan 2 G0 a2 n2 c2 x0.ShipStore.Use) (h3 : RSl RTShipLot 3 G0 a3 n3 c3 x0.ShipStore.Lots) (h4 : RSl RInt 1 G0 a4 n4 c4 x0.load) (h5 : RSl RInt 1 G0 a5 n5 c5 x0.truth.Uses) (h6 : RSl RInt 1 G0 a6 n6 c6 x0.truth.Gaps) (h7 : RSl (RSlice RInt 1) 1 G0 a7 n7 c7 x0.truth.Goods) {r : Int × Int} (H : f72 x0 x1 x2 = some r) :
  Calls Try.prog 72 #[.pointer (some ⟨bq0, 0, none⟩), .int .i64 x1, .int .i64 x2] w0 (RetV w0 (.tuple #[.int .i64 r.1, .int .i64 r.2])) := by
 have hS := Since.start hS0
 have hO : Owns G0 w0 w0.heap.size [] := Owns.nil (Nat.le_refl _)
 unfold f72 at H
 refine enter2 (N := 82) (shutV _ _) Try.func72 rfl rfl rfl rfl ?_; refine WC_seq ?_; refine WC_region ?_; refine WL_val (rn_assign (v := (.int .i64 0)) rfl) rfl ?_; refine WL_val (rn_assign (v := (.int .i64 0)) rfl) rfl ?_; refine WL_nil ?_; refine WC_seq ?_; have hS := hS.keep (below_drew _); have hO := hO.below (below_drew _)
 refine WC_regionD mixedO (fun _ w => Sat G0 w ∧ True) (.fl 0 (.fl 1 (.fl 2 (.fl 3 (.fl 4 (.fl 5 (.fl 6 (.fl 7 (.on 8 (.on 9 .nil)))))))))) (by kernel_rfl) rfl (by kernel_rfl) (fun _ => ⟨hS.sat, trivial⟩) ?_
 refine WD_val rfl (fun w hw => rn_move (v := (.pointer (some ⟨bq0, 0, none⟩))) rfl) rfl ?_
 refine WD_val (v := (.pointer (some ⟨bq0, 0, none⟩))) rfl (fun w hw => by kernel_rfl) rfl ?_
 refine WD_val rfl (fun w hw => rn_fld fd114_0 rfl) rfl ?_; refine WD_val rfl (fun w hw => rn_fld fd42_0 rfl) rfl ?_; refine WD_val rfl (fun w hw => rn_load na22 rfl (hw.1.cell (hcq0 0 _ rfl))) rfl ?_; refine WD_val rfl (fun w hw => rn_move (v := (.int .i64 x1)) rfl) rfl ?_; obtain ⟨y8, hy8, H⟩ := bnd H; refine WD_idx rfl sl22 h1 hy8 rfl rfl rfl ?_
 rintro b9 o9 _ hcb9 _ ⟨⟩
 refine WD_val rfl (fun w hw => rn_load na3 rfl (hw.1.cell (hcb9 0 _ rfl))) rfl ?_; refine WD_op rfl rfl (OpP_val (rn_assign (v := (.int .i64 (-1))) rfl) rfl ?_); refine ⟨fun _ _ => ⟨hS.sat, trivial⟩, ?_⟩; refine WD_op rfl rfl (OpP_val (rn_assign (v := (.int .i64 y8)) rfl) rfl ?_)
 refine ⟨fun _ h => noneed (by kernel_rfl) h, ?_⟩
 refine WD_nil ?_; refine WC_seq ?_; refine WC_region ?_; refine WL_val (rn_assign (v := (.int .i64 (-1))) rfl) rfl ?_; refine WL_val (rn_assign (v := (.int .i64 0)) rfl) rfl ?_; refine WL_nil ?_; refine WC_seq ?_; obtain ⟨q10, hq10, H⟩ := bnd H; refine WC_cut (fun F w => ∃ (Fb : Fr), F = upds Fb [(0, .pointer (some ⟨bq0, 0, none⟩)), (1, .int .i64 x1), (2, .int .i64 x2), (6, .int .i64 (-1)), (7, .int .i64 y8), (8, .int .i64 q10), (9, .int .i64 0)] ∧ w0.drew = w) ?_ ?_
 ·have Hoq10 := H; have H := hq10; refine WC_seq ?_; refine WC_region ?_; refine WL_val (rn_move (v := (.pointer (some ⟨bq0, 0, none⟩))) rfl) rfl ?_
  refine WL_val (v := (.pointer (some ⟨bq0, 0, none⟩))) (by kernel_rfl) rfl ?_
  refine WL_val (rn_fld fd114_2 rfl) rfl ?_; refine WL_val (rn_fld fd45_1 rfl) rfl ?_; refine WL_val (rn_load na22 rfl (hS.sat.cell (hcq0 8 _ rfl))) rfl ?_; refine WL_val (rn_len sl22 rfl rfl h6.1) rfl ?_; refine WL_val (rn_gtr rfl rfl) rfl ?_; refine WL_nil ?_; refine WC_cond rfl (fun hb11 => ?_) (fun hb11 => ?_)
  ·have H := ifT hb11 H; refine WC_region ?_; refine WL_val (rn_move (v := (.pointer (some ⟨bq0, 0, none⟩))) rfl) rfl ?_
   refine WL_val (v := (.pointer (some ⟨bq0, 0, none⟩))) (by kernel_rfl) rfl ?_
   refine WL_val (rn_fld fd114_2 rfl) rfl ?_; refine WL_val (rn_fld fd45_1 rfl) rfl ?_; refine WL_val (rn_load na22 rfl (hS.sat.cell (hcq0 8 _ rfl))) rfl ?_; obtain ⟨y12, hy12, H⟩ := bnd H; refine WL_idx sl22 h6 hy12 rfl rfl rfl ?_
   rintro b13 o13 _ hcb13 _ ⟨⟩
   refine WL_val (rn_load na3 rfl (hS.sat.cell (hcb13 0 _ rfl))) rfl ?_; refine WL_val (rn_assign (v := (.int .i64 y12)) rfl) rfl ?_; refine WL_nil ?_; have H := Option.some.inj H; subst H
   exact ⟨_, upds_self _ _ ⟨rfl, rfl, rfl, rfl, rfl, rfl, rfl, trivial⟩, rfl⟩
  ·have H := ifF hb11 H; refine WC_skip ?_; have H := Option.some.inj H; subst H
   exact ⟨_, upds_self _ _ ⟨rfl, rfl, rfl, rfl, rfl, rfl, rfl, trivial⟩, rfl⟩
 ·rintro F wl ⟨Fb, rfl, rfl⟩
  refine WC_seq ?_; refine WC_seq ?_; refine WC_region ?_; refine WL_val (rn_move (v := (.int .i64 x2)) rfl) rfl ?_; refine WL_val (rn_move (v := (.int .i64 0)) rfl) rfl ?_; refine WL_nil ?_; obtain ⟨q18, hq18, H⟩ := bnd H; refine WC_cut (fun F w => ∃ (Fb : Fr) (G : Gm), F = upds Fb [(6, .int .i64 q18.1), (7, .int .i64 q18.2)] ∧ Gle G0 G ∧ Since w0.heap.size G0 w0 G w ∧ Owns G w w0.heap.size []) ?_ ?_
  ·refine WC_block (WC_loop hq18 (fun s16 F w => ∃ (Fb : Fr) (G : Gm), F = upds Fb [(0, .pointer (some ⟨bq0, 0, none⟩)), (1, .int .i64 x1), (6, .int .i64 s16.1), (7, .int .i64 s16.2.1), (8, .int .i64 s16.2.2.1), (9, .int .i64 s16.2.2.2.1), (36, .int .i64 x2), (37, .int .i64 s16.2.2.2.2)] ∧ Gle G0 G ∧ Since w0.heap.size G0 w0 G w ∧ Owns G w w0.heap.size []) ?_ ?_)
   ·have hO : Owns G0 w0.drew w0.heap.size ([]) := hO
    exact ⟨_, G0, upds_self _ _ ⟨rfl, rfl, rfl, rfl, rfl, rfl, rfl, rfl, trivial⟩, Gle.refl _, hS, hO⟩
   ·rintro s16 F w20 t19 ⟨Fb, G21, rfl, leG21, hS, hO⟩
    intro H1 hqq18
    have Hoq18 := H; have H := H1
    unfold f72_b0 at H
    refine WC_seq ?_; refine WC_region ?_; refine WL_val (rn_lss rfl rfl) rfl ?_; refine WL_nil ?_; refine WC_seq ?_; refine WC_cond rfl (fun hb22 => ?_) (fun hb22 => ?_)
    ·have H := ifT hb22 H; refine WC_skip ?_; refine WC_seq ?_; refine WC_block ?_; refine WC_seq ?_; refine WC_region ?_; refine WL_val (rn_move (v := (.int .i64 s16.2.2.2.2)) rfl) rfl ?_; refine WL_val (rn_assign (v := (.int .i64 s16.2.2.2.2)) rfl) rfl ?_; refine WL_nil ?_; refine WC_seq ?_; refine WC_region ?_; refine WL_val (rn_move (v := (.int .i64 s16.2.2.2.2)) rfl) rfl ?_; refine WL_val (rn_move (v := (.int .i64 s16.2.2.1)) rfl) rfl ?_; refine WL_val (rn_eql rfl rfl) rfl ?_; refine WL_val (rn_assign (v := (.bool (s16.2.2.2.2 == s16.2.2.1))) rfl) rfl ?_; refine WL_nil ?_; refine WC_seq ?_; obtain ⟨q23, hq23, H⟩ := bnd H; refine WC_cut (fun F w => ∃ (Fb : Fr), F = upds Fb [(0, .pointer (some ⟨bq0, 0, none⟩)), (1, .int .i64 x1), (6, .int .i64 s16.1), (7, .int .i64 s16.2.1), (8, .int .i64 q23.1), (9, .int .i64 q23.2), (10, .int .i64 s16.2.2.2.2), (11, .bool (s16.2.2.2.2 == s16.2.2.1)), (36, .int .i64 x2), (37, .int .i64 s16.2.2.2.2)] ∧ w20 = w) ?_ ?_
     ·have Hoq23 := H; have H := hq23; refine WC_seq ?_; refine WC_region ?_; refine WL_val (rn_move (v := (.bool (s16.2.2.2.2 == s16.2.2.1))) rfl) rfl ?_; refine WL_nil ?_; refine WC_cond rfl (fun hb24 => ?_) (fun hb24 => ?_)
      ·have H := ifT hb24 H; refine WC_seq ?_; refine WC_region ?_; refine WL_val (rn_move (v := (.int .i64 s16.2.2.2.1)) rfl) rfl ?_; refine WL_val (rn_add rfl rfl) rfl ?_; refine WL_val (rn_assign (v := (.int .i64 (IntKind.i64.wrap (s16.2.2.2.1 + 1)))) rfl) rfl ?_; refine WL_nil ?_; refine WC_seq ?_; refine WC_region ?_; refine WL_val (rn_move (v := (.int .i64 (IntKind.i64.wrap (s16.2.2.2.1 + 1)))) rfl) rfl ?_; refine WL_val (rn_move (v := (.pointer (some ⟨bq0, 0, none⟩))) rfl) rfl ?_
       refine WL_val (v := (.pointer (some ⟨bq0, 0, none⟩))) (by kernel_rfl) rfl ?_
       refine WL_val (rn_fld fd114_2 rfl) rfl ?_; refine WL_val (rn_fld fd45_1 rfl) rfl ?_; refine WL_val (rn_load na22 rfl ((hS.sat.le leG21).cell (hcq0 8 _ rfl))) rfl ?_; refine WL_val (rn_len sl22 rfl rfl (h6.mono RInt_mono leG21).1) rfl ?_; refine WL_val (rn_lss rfl rfl) rfl ?_; refine WL_nil ?_; refine WC_cond rfl (fun hb25 => ?_) (fun hb25 => ?_)
       ·have H := ifT hb25 H; refine WC_region ?_; refine WL_val (rn_move (v := (.int .i64 s16.2.2.1)) rfl) rfl ?_; refine WL_val (rn_move (v := (.pointer (some ⟨bq0, 0, none⟩))) rfl) rfl ?_
        refine WL_val (v := (.pointer (some ⟨bq0, 0, none⟩))) (by kernel_rfl) rfl ?_
        refine WL_val (rn_fld fd114_2 rfl) rfl ?_; refine WL_val (rn_fld fd45_1 rfl) rfl ?_; refine WL_val (rn_load na22 rfl ((hS.sat.le leG21).cell (hcq0 8 _ rfl))) rfl ?_; refine WL_val (rn_move (v := (.int .i64 (IntKind.i64.wrap (s16.2.2.2.1 + 1)))) rfl) rfl ?_; obtain ⟨y26, hy26, H⟩ := bnd H; refine WL_idx sl22 (h6.mono RInt_mono leG21) hy26 rfl rfl rfl ?_
        rintro b27 o27 _ hcb27 _ ⟨⟩
        refine WL_val (rn_load na3 rfl (hS.sat.cell (hcb27 0 _ rfl))) rfl ?_; refine WL_val (rn_add rfl rfl) rfl ?_; refine WL_val (rn_assign (v := (.int .i64 (IntKind.i64.wrap (s16.2.2.1 + y26)))) rfl) rfl ?_; refine WL_nil ?_; have H := Option.some.inj H; subst H
        exact ⟨_, upds_self _ _ ⟨rfl, rfl, rfl, rfl, rfl, rfl, rfl, rfl, rfl, rfl, trivial⟩, rfl⟩
       ·have H := ifF hb25 H; refine WC_skip ?_; have H := Option.some.inj H; subst H
        exact ⟨_, upds_self _ _ ⟨rfl, rfl, rfl, rfl, rfl, rfl, rfl, rfl, rfl, rfl, trivial⟩, rfl⟩
      ·have H := ifF hb24 H; refine WC_skip ?_; have H := Option.some.inj H; subst H
       exact ⟨_, upds_self _ _ ⟨rfl, rfl, rfl, rfl, rfl, rfl, rfl, rfl, rfl, rfl, trivial⟩, rfl⟩
     ·rintro F wl ⟨Fb, rfl, rfl⟩
      refine WC_seq ?_; refine WC_region ?_; refine WL_val (rn_move (v := (.pointer (some ⟨bq0, 0, none⟩))) rfl) rfl ?_; refine WL_val (rn_move (v := (.int .i64 x1)) rfl) rfl ?_; refine WL_val (rn_move (v := (.int .i64 s16.2.1)) rfl) rfl ?_; refine WL_val (rn_move (v := (.bool (s16.2.2.2.2 == s16.2.2.1))) rfl) rfl ?_; obtain ⟨y30, hy30, H⟩ := bnd H
      have hx32 := f97_ok (x0 := x0) (x1 := x1) (x2 := s16.2.1) (x3 := s16.2.2.2.2 == s16.2.2.1) hS.sat (hcq0.mono leG21) (h1.mono RInt_mono leG21) (h2.mono RTSpan_mono leG21) (h3.mono RTShipLot_mono leG21) (h4.mono RInt_mono leG21) (h5.mono RInt_mono leG21) (h6.mono RInt_mono leG21) (h7.mono (RSlice_mono RInt_mono) leG21) hy30
      refine WL_op rfl (OpP_callV cb97 hx32 rfl rfl (fun w31 hb => ?_)); have hS := hS.keep hb; have hO := hO.below hb; refine WL_val (rn_move (v := (.tuple #[.int .i64 y30.1, .bool y30.2])) rfl) rfl ?_; refine WL_val (rn_extract (v := (.int .i64 y30.1)) rfl rfl) rfl ?_; refine WL_val (rn_extract (v := (.bool y30.2)) rfl rfl) rfl ?_; refine WL_val (rn_assign (v := (.int .i64 y30.1)) rfl) rfl ?_; refine WL_val (rn_assign (v := (.bool y30.2)) rfl) rfl ?_; refine WL_nil ?_; refine WC_seq ?_; obtain ⟨q33, hq33, H⟩ := bnd H; refine WC_cut (fun F w => ∃ (Fb : Fr), F = upds Fb [(0, .pointer (some ⟨bq0, 0, none⟩)), (1, .int .i64 x1), (6, .int .i64 q33), (8, .int .i64 q23.1), (9, .int .i64 q23.2), (12, .int .i64 y30.1), (36, .int .i64 x2), (37, .int .i64 s16.2.2.2.2)] ∧ w31 = w) ?_ ?_
      ·have Hoq33 := H; have H := hq33; refine WC_seq ?_; obtain ⟨q34, hq34, H⟩ := bnd H; refine WC_cut (fun F w => ∃ (Fb : Fr), F = upds Fb [(0, .pointer (some ⟨bq0, 0, none⟩)), (1, .int .i64 x1), (6, .int .i64 s16.1), (8, .int .i64 q23.1), (9, .int .i64 q23.2), (10, .int .i64 s16.2.2.2.2), (12, .int .i64 y30.1), (36, .int .i64 x2), (37, .int .i64 s16.2.2.2.2), (76, .bool q34)] ∧ w31 = w) ?_ ?_
       ·have Hoq34 := H; have H := hq34; refine WC_region ?_; refine WL_val (rn_move (v := (.bool y30.2)) rfl) rfl ?_; refine WL_val (rn_move (v := (.bool y30.2)) rfl) rfl ?_
        rcases bcases y30.2 with hb35 | hb35
        ·have H := ifT hb35 H; refine WL_guardY rfl hb35 rfl rfl ?_; refine WL_val (rn_move (v := (.int .i64 s16.1)) rfl) rfl ?_; refine WL_guardY rfl hb35 rfl rfl ?_; refine WL_val (rn_lss rfl rfl) rfl ?_; refine WL_val (rn_pickT (v := (.bool (decide (s16.1 < 0)))) rfl hb35 rfl) rfl ?_; refine WL_nil ?_; have H := Option.some.inj H; subst H
         exact ⟨_, upds_self _ _ ⟨rfl, rfl, rfl, rfl, rfl, rfl, rfl, rfl, rfl, rfl, trivial⟩, rfl⟩
        ·have H := ifF hb35 H; refine WL_guardN rfl hb35 rfl rfl rfl ?_; refine WL_guardN rfl hb35 rfl rfl rfl ?_; refine WL_val (rn_pickF (v := (.bool false)) rfl hb35 rfl) rfl ?_; refine WL_nil ?_; have H := Option.some.inj H; subst H
         exact ⟨_, upds_self _ _ ⟨rfl, rfl, rfl, rfl, rfl, rfl, rfl, rfl, rfl, rfl, trivial⟩, rfl⟩
       ·rintro F wl ⟨Fb, rfl, rfl⟩
        refine WC_cond rfl (fun hb38 => ?_) (fun hb38 => ?_)
        ·have H := ifT hb38 H; refine WC_region ?_; refine WL_val (rn_move (v := (.int .i64 s16.2.2.2.2)) rfl) rfl ?_; refine WL_val (rn_assign (v := (.int .i64 s16.2.2.2.2)) rfl) rfl ?_; refine WL_nil ?_; have H := Option.some.inj H; subst H
         exact ⟨_, upds_self _ _ ⟨rfl, rfl, rfl, rfl, rfl, rfl, rfl, rfl, trivial⟩, rfl⟩
        ·have H := ifF hb38 H; refine WC_skip ?_; have H := Option.some.inj H; subst H
         exact ⟨_, upds_self _ _ ⟨rfl, rfl, rfl, rfl, rfl, rfl, rfl, rfl, trivial⟩, rfl⟩
      ·rintro F wl ⟨Fb, rfl, rfl⟩
       refine WC_region ?_; refine WL_val (rn_move (v := (.int .i64 y30.1)) rfl) rfl ?_; refine WL_val (rn_assign (v := (.int .i64 y30.1)) rfl) rfl ?_; refine WL_nil ?_; refine WC_region ?_; refine WL_val (rn_add rfl rfl) rfl ?_; refine WL_val (rn_move (v := (.int .i64 (IntKind.i64.wrap (s16.2.2.2.2 + 1)))) rfl) rfl ?_; refine WL_nil ?_
       have hO : Owns G21 w31 w0.heap.size ([]) := hO
       have H := Option.some.inj H; subst H; refine ⟨_, rfl, ?_⟩
       exact ⟨_, G21, upds_self _ _ ⟨rfl, rfl, rfl, rfl, rfl, rfl, rfl, rfl, trivial⟩, leG21, hS, hO⟩
    ·have H := ifF hb22 H; refine WC_exit rfl ?_
     have hO : Owns G21 w20 w0.heap.size ([]) := hO
     have H := Option.some.inj H; subst H
     have hres := hqq18 _ rfl
     subst hres
     exact ⟨_, G21, upds_self _ _ ⟨rfl, rfl, trivial⟩, leG21, hS, hO⟩
  ·rintro F w41 ⟨Fb, G42, rfl, leG42, hS, hO⟩
   refine WC_seq ?_; refine WC_region ?_; refine WL_val (rn_move (v := (.int .i64 q18.1)) rfl) rfl ?_; refine WL_val (rn_move (v := (.int .i64 q18.2)) rfl) rfl ?_; refine WL_val (rn_assign (v := (.int .i64 q18.1)) rfl) rfl ?_; refine WL_val (rn_assign (v := (.int .i64 q18.2)) rfl) rfl ?_; refine WL_nil ?_; refine WC_ret ?_
   have H : some (q18.1, q18.2) = some r := H
   have H := Option.some.inj H; subst H
   exact ⟨rfl, hS.below⟩
set_option maxHeartbeats 1000000 in
theorem f26_ok {G0 : Gm} {w0 : World} (hS0 : Sat G0 w0) {x0 : TShipStore} {a1 : Option Addr} {n1 c1 : Nat} {a2 : Option Addr} {n2 c2 : Nat} {a3 : Option Addr} {n3 c3 : Nat} {x1 : (List Int)} {a4 : Option Addr} {n4 c4 : Nat} {x2 : Int} {x3 : TShipTruth} {a5 : Option Addr} {n5 c5 : Nat} {a6 : Option Addr} {n6 c6 : Nat} {a7 : Option Addr} {n7 c7 : Nat} (h1 : RSl RInt 1 G0 a1 n1 c1 x0.Stock) (h2 : RSl RTSpan 2 G0 a2 n2 c2 x0.Use) (h3 : RSl RTShipLot 3 G0 a3 n3 c3 x0.Lots) (h4 : RSl RInt 1 G0 a4 n4 c4 x1) (h5 : RSl RInt 1 G0 a5 n5 c5 x3.Uses) (h6 : RSl RInt 1 G0 a6 n6 c6 x3.Gaps) (h7 : RSl (RSlice RInt 1) 1 G0 a7 n7 c7 x3.Goods) {r : (List Int) × (List Int) × Int} (H : f26 x0 x1 x2 x3 = some r) :
  Calls Try.prog 26 #[.agg #[.slice a1 n1 c1, .slice a2 n2 c2, .int .i64 x0.Gap.Low, .int .i64 x0.Gap.High, .slice a3 n3 c3, .int .i64 x0.Hold], .slice a4 n4 c4, .int .i64 x2, .agg #[.slice a5 n5 c5, .slice a6 n6 c6, .slice a7 n7 c7]] w0 (RetG G0 w0 (fun G v => ∃ (ra0 : Option Addr) (rn0 rc0 : Nat) (ra1 : Option Addr) (rn1 rc1 : Nat), v = .tuple #[.slice ra0 rn0 rc0, .slice ra1 rn1 rc1, .int .i64 r.2.2] ∧ RSl RInt 1 G ra0 rn0 rc0 r.1 ∧ RSl RInt 1 G ra1 rn1 rc1 r.2.1)) := by
 have hS := Since.start hS0
 have hO : Owns G0 w0 w0.heap.size [] := Owns.nil (Nat.le_refl _)
 unfold f26 at H
 refine enter3 (N := 67) (shutG _ _ _) Try.func26 rfl rfl rfl rfl ?_; refine WC_seq ?_; refine WC_region ?_; refine WL_op rfl (OpP_newF (v := fun b => .pointer (some ⟨b, 0, none⟩)) (cs := [.slice a1 n1 c1, .slice a2 n2 c2, .int .i64 x0.Gap.Low, .int .i64 x0.Gap.High, .slice a3 n3 c3, .int .i64 x0.Hold]) (e := 42) (rn_boxA rfl) hS.sat rfl (fun b8 G10 w9 hg hcb8 => ?_)); have hS := hS.grow hg; have hO := hO.grow hg
 have leG10 := hg.le
 refine WL_op rfl (OpP_newF (v := fun b => .pointer (some ⟨b, 0, none⟩)) (cs := [.slice a5 n5 c5, .slice a6 n6 c6, .slice a7 n7 c7]) (e := 45) (rn_boxA rfl) hS.sat rfl (fun b11 G13 w12 hg hcb11 => ?_)); have hS := hS.grow hg; have hO := hO.grow hg
 have leG13 := hg.le
 refine WL_val (rn_assign (v := (.slice none 0 0)) rfl) rfl ?_; refine WL_val (rn_assign (v := (.slice none 0 0)) rfl) rfl ?_; refine WL_val (rn_assign (v := (.int .i64 0)) rfl) rfl ?_; refine WL_nil ?_; refine WC_seq ?_; refine WC_seq ?_; obtain ⟨q14, hq14, H⟩ := bnd H; refine WC_cut (fun F w => ∃ (Fb : Fr) (G : Gm), F = upds Fb [(1, .slice a4 n4 c4), (2, .int .i64 x2), (4, .pointer (some ⟨b8, 0, none⟩)), (7, .pointer (some ⟨b11, 0, none⟩)), (37, .bool q14)] ∧ Gle G13 G ∧ Since w0.heap.size G0 w0 G w ∧ Owns G w w0.heap.size []) ?_ ?_
 ·have Hoq14 := H; have H := hq14; refine WC_region ?_; refine WL_val (rn_loadA ag42 (cs := [.slice a1 n1 c1, .slice a2 n2 c2, .int .i64 x0.Gap.Low, .int .i64 x0.Gap.High, .slice a3 n3 c3, .int .i64 x0.Hold]) rfl rfl (fun j v hj => (hS.sat.le leG13).cell (hcb8.drop_take 0 6 j v hj))) rfl ?_; obtain ⟨y15, hy15, H⟩ := bnd H
  have l0_2 := leG10.trans leG13
  refine WL_op rfl (OpP_callV cb68 (f68_ok (x0 := x0) hS.sat (h1.mono RInt_mono l0_2) (h2.mono RTSpan_mono l0_2) (h3.mono RTShipLot_mono l0_2) hy15) rfl rfl (fun w16 hb => ?_)); have hS := hS.keep hb; have hO := hO.below hb; refine WL_val (rn_not rfl) rfl ?_; refine WL_val (rn_move (v := (.bool (!y15))) rfl) rfl ?_
  rcases bcases (!y15) with hb17 | hb17
  ·have H := ifT hb17 H; refine WL_guardN rfl hb17 rfl rfl rfl ?_; refine WL_guardN rfl hb17 rfl rfl rfl ?_; refine WL_guardN rfl hb17 rfl rfl rfl ?_; refine WL_guardN rfl hb17 rfl rfl rfl ?_; refine WL_val (rn_pickT (v := (.bool true)) rfl hb17 rfl) rfl ?_; refine WL_val (rn_move (v := (.bool true)) rfl) rfl ?_; refine WL_guardN rfl rfl rfl rfl rfl ?_; refine WL_guardN rfl rfl rfl rfl rfl ?_; refine WL_guardN rfl rfl rfl rfl rfl ?_; refine WL_val (rn_pickT (v := (.bool true)) rfl rfl rfl) rfl ?_; refine WL_val (rn_move (v := (.bool true)) rfl) rfl ?_; refine WL_guardN rfl rfl rfl rfl rfl ?_; refine WL_guardN rfl rfl rfl rfl rfl ?_; refine WL_guardN rfl rfl rfl rfl rfl ?_; refine WL_guardN rfl rfl rfl rfl rfl ?_; refine WL_guardN rfl rfl rfl rfl rfl ?_; refine WL_val (rn_pickT (v := (.bool true)) rfl rfl rfl) rfl ?_; refine WL_nil ?_
   have hO : Owns G13 w16 w0.heap.size ([]) := hO
   have H := Option.some.inj H; subst H
   exact ⟨_, G13, upds_self _ _ ⟨rfl, rfl, rfl, rfl, rfl, trivial⟩, Gle.refl _, hS, hO⟩
  ·have H := ifF hb17 H; refine WL_guardY rfl hb17 rfl rfl ?_; refine WL_val (rn_loadA ag42 (cs := [.slice a1 n1 c1, .slice a2 n2 c2, .int .i64 x0.Gap.Low, .int .i64 x0.Gap.High, .slice a3 n3 c3, .int .i64 x0.Hold]) rfl rfl (fun j v hj => (hS.sat.le leG13).cell (hcb8.drop_take 0 6 j v hj))) rfl ?_; refine WL_guardY rfl hb17 rfl rfl ?_; refine WL_val (rn_move (v := (.slice a4 n4 c4)) rfl) rfl ?_; refine WL_guardY rfl hb17 rfl rfl ?_; obtain ⟨y18, hy18, H⟩ := bnd H; refine WL_op rfl (OpP_callV cb69 (f69_ok (x0 := x0) (x1 := x1) hS.sat (h1.mono RInt_mono l0_2) (h2.mono RTSpan_mono l0_2) (h3.mono RTShipLot_mono l0_2) (h4.mono RInt_mono l0_2) hy18) rfl rfl (fun w19 hb => ?_)); have hS := hS.keep hb; have hO := hO.below hb; refine WL_guardY rfl hb17 rfl rfl ?_; refine WL_val (rn_not rfl) rfl ?_; refine WL_val (rn_pickF (v := (.bool (!y18))) rfl hb17 rfl) rfl ?_; refine WL_val (rn_move (v := (.bool (!y18))) rfl) rfl ?_
   rcases bcases (!y18) with hb20 | hb20
   ·have H := ifT hb20 H; refine WL_guardN rfl hb20 rfl rfl rfl ?_; refine WL_guardN rfl hb20 rfl rfl rfl ?_; refine WL_guardN rfl hb20 rfl rfl rfl ?_; refine WL_val (rn_pickT (v := (.bool true)) rfl hb20 rfl) rfl ?_; refine WL_val (rn_move (v := (.bool true)) rfl) rfl ?_; refine WL_guardN rfl rfl rfl rfl rfl ?_; refine WL_guardN rfl rfl rfl rfl rfl ?_; refine WL_guardN rfl rfl rfl rfl rfl ?_; refine WL_guardN rfl rfl rfl rfl rfl ?_; refine WL_guardN rfl rfl rfl rfl rfl ?_; refine WL_val (rn_pickT (v := (.bool true)) rfl rfl rfl) rfl ?_; refine WL_nil ?_
    have hO : Owns G13 w19 w0.heap.size ([]) := hO
    have H := Option.some.inj H; subst H
    exact ⟨_, G13, upds_self _ _ ⟨rfl, rfl, rfl, rfl, rfl, trivial⟩, Gle.refl _, hS, hO⟩
   ·have H := ifF hb20 H; refine WL_guardY rfl hb20 rfl rfl ?_; refine WL_val (rn_move (v := (.int .i64 x2)) rfl) rfl ?_; refine WL_guardY rfl hb20 rfl rfl ?_; obtain ⟨y21, hy21, H⟩ := bnd H; refine WL_op rfl (OpP_callV cb70 (f70_ok (x0 := x2) hS.sat  hy21) rfl rfl (fun w22 hb => ?_)); have hS := hS.keep hb; have hO := hO.below hb; refine WL_guardY rfl hb20 rfl rfl ?_; refine WL_val (rn_not rfl) rfl ?_; refine WL_val (rn_pickF (v := (.bool (!y21))) rfl hb20 rfl) rfl ?_; refine WL_val (rn_move (v := (.bool (!y21))) rfl) rfl ?_
    rcases bcases (!y21) with hb23 | hb23
    ·have H := ifT hb23 H; refine WL_guardN rfl hb23 rfl rfl rfl ?_; refine WL_guardN rfl hb23 rfl rfl rfl ?_; refine WL_guardN rfl hb23 rfl rfl rfl ?_; refine WL_guardN rfl hb23 rfl rfl rfl ?_; refine WL_guardN rfl hb23 rfl rfl rfl ?_; refine WL_val (rn_pickT (v := (.bool true)) rfl hb23 rfl) rfl ?_; refine WL_nil ?_
     have hO : Owns G13 w22 w0.heap.size ([]) := hO
     have H := Option.some.inj H; subst H
     exact ⟨_, G13, upds_self _ _ ⟨rfl, rfl, rfl, rfl, rfl, trivial⟩, Gle.refl _, hS, hO⟩
    ·have H := ifF hb23 H; refine WL_guardY rfl hb23 rfl rfl ?_; refine WL_val (rn_loadA ag42 (cs := [.slice a1 n1 c1, .slice a2 n2 c2, .int .i64 x0.Gap.Low, .int .i64 x0.Gap.High, .slice a3 n3 c3, .int .i64 x0.Hold]) rfl rfl (fun j v hj => (hS.sat.le leG13).cell (hcb8.drop_take 0 6 j v hj))) rfl ?_; refine WL_guardY rfl hb23 rfl rfl ?_; refine WL_val (rn_move (v := (.int .i64 x2)) rfl) rfl ?_; refine WL_guardY rfl hb23 rfl rfl ?_; refine WL_val (rn_loadA ag45 (cs := [.slice a5 n5 c5, .slice a6 n6 c6, .slice a7 n7 c7]) rfl rfl (fun j v hj => hS.sat.cell (hcb11.drop_take 0 3 j v hj))) rfl ?_; refine WL_guardY rfl hb23 rfl rfl ?_; obtain ⟨y24, hy24, H⟩ := bnd H; refine WL_op rfl (OpP_callV cb71 (f71_ok (x0 := x0) (x1 := x2) (x2 := x3) hS.sat (h1.mono RInt_mono l0_2) (h2.mono RTSpan_mono l0_2) (h3.mono RTShipLot_mono l0_2) (h5.mono RInt_mono l0_2) (h6.mono RInt_mono l0_2) (h7.mono (RSlice_mono RInt_mono) l0_2) hy24) rfl rfl (fun w25 hb => ?_)); have hS := hS.keep hb; have hO := hO.below hb; refine WL_guardY rfl hb23 rfl rfl ?_; refine WL_val (rn_not rfl) rfl ?_; refine WL_val (rn_pickF (v := (.bool (!y24))) rfl hb23 rfl) rfl ?_; refine WL_nil ?_
     have hO : Owns G13 w25 w0.heap.size ([]) := hO
     have H := Option.some.inj H; subst H
     exact ⟨_, G13, upds_self _ _ ⟨rfl, rfl, rfl, rfl, rfl, trivial⟩, Gle.refl _, hS, hO⟩
 ·rintro F w26 ⟨Fb, G27, rfl, leG27, hS, hO⟩
  refine WC_cond rfl (fun hb28 => ?_) (fun hb28 => ?_)
  ·have H := ifT hb28 H; refine WC_seq ?_; refine WC_region ?_; refine WL_val (rn_assign (v := (.slice none 0 0)) rfl) rfl ?_; refine WL_val (rn_assign (v := (.slice none 0 0)) rfl) rfl ?_; refine WL_val (rn_assign (v := (.int .i64 2)) rfl) rfl ?_; refine WL_nil ?_; refine WC_ret ?_
   have H : some ([], [], 2) = some r := H
   have H := Option.some.inj H; subst H
   exact ⟨_, _, rfl, hS.toGrow, _, _, _, _, _, _, rfl, (RSl.nil RInt 1 G27 none), (RSl.nil RInt 1 G27 none)⟩
  ·have H := ifF hb28 H; refine WC_skip ?_; refine WC_seq ?_; refine WC_region ?_
   have l1_3 := leG13.trans leG27
   refine WL_val (rn_loadA ag42 (cs := [.slice a1 n1 c1, .slice a2 n2 c2, .int .i64 x0.Gap.Low, .int .i64 x0.Gap.High, .slice a3 n3 c3, .int .i64 x0.Hold]) rfl rfl (fun j v hj => (hS.sat.le l1_3).cell (hcb8.drop_take 0 6 j v hj))) rfl ?_; refine WL_val (rn_move (v := (.slice a4 n4 c4)) rfl) rfl ?_; refine WL_val (rn_loadA ag45 (cs := [.slice a5 n5 c5, .slice a6 n6 c6, .slice a7 n7 c7]) rfl rfl (fun j v hj => (hS.sat.le leG27).cell (hcb11.drop_take 0 3 j v hj))) rfl ?_
   refine WL_val (v := (.agg #[.slice a1 n1 c1, .slice a2 n2 c2, .int .i64 x0.Gap.Low, .int .i64 x0.Gap.High, .slice a3 n3 c3, .int .i64 x0.Hold, .slice a4 n4 c4, .slice a5 n5 c5, .slice a6 n6 c6, .slice a7 n7 c7])) (by kernel_rfl) rfl ?_
   refine WL_op rfl (OpP_newF (v := fun b => .pointer (some ⟨b, 0, none⟩)) (cs := [.slice a1 n1 c1, .slice a2 n2 c2, .int .i64 x0.Gap.Low, .int .i64 x0.Gap.High, .slice a3 n3 c3, .int .i64 x0.Hold, .slice a4 n4 c4, .slice a5 n5 c5, .slice a6 n6 c6, .slice a7 n7 c7]) (e := 114) (rn_boxA rfl) hS.sat rfl (fun b29 G31 w30 hg hcb29 => ?_)); have hS := hS.grow hg; have hO := hO.grow hg
   have leG31 := hg.le
   refine WL_val (rn_assign (v := (.pointer (some ⟨b29, 0, none⟩))) rfl) rfl ?_; refine WL_nil ?_; refine WC_seq ?_; refine WC_region ?_; refine WL_val (rn_assign (v := (.slice none 0 0)) rfl) rfl ?_; refine WL_val (rn_assign (v := (.slice none 0 0)) rfl) rfl ?_; refine WL_nil ?_; refine WC_seq ?_; refine WC_seq ?_; refine WC_region ?_; refine WL_val (rn_fld fd42_0 rfl) rfl ?_
   have l1_4 := l1_3.trans leG31
   refine WL_val (rn_load na22 rfl ((hS.sat.le l1_4).cell (hcb8 0 _ rfl))) rfl ?_
   have l0_4 := leG10.trans l1_4
   refine WL_val (rn_len sl22 rfl rfl (h1.mono RInt_mono l0_4).1) rfl ?_; refine WL_val (rn_move (v := (.int .i64 0)) rfl) rfl ?_; refine WL_nil ?_; have hO := hO.cons_nil 3 1; have hO := hO.cons_nil 3 1; obtain ⟨q36, hq36, H⟩ := bnd H; refine WC_cut (fun F w => ∃ (Fb : Fr) (G : Gm) (aq36_0 : Option Addr) (nq36_0 cq36_0 : Nat) (claq36_0 : List Value) (aq36_1 : Option Addr) (nq36_1 cq36_1 : Nat) (claq36_1 : List Value), F = upds Fb [(12, .slice aq36_0 nq36_0 cq36_0), (13, .slice aq36_1 nq36_1 cq36_1)] ∧ Gle G31 G ∧ Since w0.heap.size G0 w0 G w ∧ Owns G w w0.heap.size [⟨3, 1, nq36_1, .slice aq36_1 nq36_1 cq36_1, claq36_1⟩, ⟨3, 1, nq36_0, .slice aq36_0 nq36_0 cq36_0, claq36_0⟩] ∧ nq36_0 = q36.1.length ∧ Rd RInt 1 G claq36_0 q36.1 ∧ nq36_1 = q36.2.length ∧ Rd RInt 1 G claq36_1 q36.2) ?_ ?_
   ·refine WC_block (WC_loop hq36 (fun s34 F w => ∃ (Fb : Fr) (G : Gm) (as34_0 : Option Addr) (ns34_0 cs34_0 : Nat) (clas34_0 : List Value) (as34_1 : Option Addr) (ns34_1 cs34_1 : Nat) (clas34_1 : List Value), F = upds Fb [(2, .int .i64 x2), (11, .pointer (some ⟨b29, 0, none⟩)), (12, .slice as34_0 ns34_0 cs34_0), (13, .slice as34_1 ns34_1 cs34_1), (45, .int .i64 (x0.Stock.length : Int)), (46, .int .i64 s34.2.2)] ∧ Gle G31 G ∧ Since w0.heap.size G0 w0 G w ∧ Owns G w w0.heap.size [⟨3, 1, ns34_1, .slice as34_1 ns34_1 cs34_1, clas34_1⟩, ⟨3, 1, ns34_0, .slice as34_0 ns34_0 cs34_0, clas34_0⟩] ∧ ns34_0 = s34.1.length ∧ Rd RInt 1 G clas34_0 s34.1 ∧ ns34_1 = s34.2.1.length ∧ Rd RInt 1 G clas34_1 s34.2.1) ?_ ?_)
    ·have hO : Owns G31 w30 w0.heap.size ([⟨3, 1, 0, .slice none 0 0, []⟩, ⟨3, 1, 0, .slice none 0 0, []⟩]) := hO
     exact ⟨_, G31, none, 0, 0, [], none, 0, 0, [], upds_self _ _ ⟨rfl, rfl, rfl, rfl, rfl, rfl, trivial⟩, Gle.refl _, hS, hO, rfl, (Rd.nil RInt 1 G31), rfl, (Rd.nil RInt 1 G31)⟩
    ·rintro s34 F w38 t37 ⟨Fb, G39, as34_0, ns34_0, cs34_0, clas34_0, as34_1, ns34_1, cs34_1, clas34_1, rfl, leG39, hS, hO, hnhs34_0, hs34_0, hnhs34_1, hs34_1⟩
     intro H1 hqq36
     have Hoq36 := H; have H := H1
     unfold f26_b0 at H
     refine WC_seq ?_; refine WC_region ?_; refine WL_val (rn_lss rfl rfl) rfl ?_; refine WL_nil ?_; refine WC_seq ?_; refine WC_cond rfl (fun hb40 => ?_) (fun hb40 => ?_)
     ·have H := ifT hb40 H; refine WC_skip ?_; refine WC_seq ?_; refine WC_block ?_; refine WC_seq ?_; refine WC_region ?_; refine WL_val (rn_move (v := (.int .i64 s34.2.2)) rfl) rfl ?_; refine WL_val (rn_assign (v := (.int .i64 s34.2.2)) rfl) rfl ?_; refine WL_nil ?_; refine WC_seq ?_; refine WC_region ?_; refine WL_val (rn_move (v := (.pointer (some ⟨b29, 0, none⟩))) rfl) rfl ?_; refine WL_val (rn_move (v := (.int .i64 s34.2.2)) rfl) rfl ?_; refine WL_val (rn_move (v := (.int .i64 x2)) rfl) rfl ?_
      have l0_5 := l0_4.trans leG39
      obtain ⟨y41, hy41, H⟩ := bnd H
      have hx43 := f72_ok (x0 := (⟨x0, x1, x3⟩ : TStore)) (x1 := s34.2.2) (x2 := x2) hS.sat (hcb29.mono leG39) (h1.mono RInt_mono l0_5) (h2.mono RTSpan_mono l0_5) (h3.mono RTShipLot_mono l0_5) (h4.mono RInt_mono l0_5) (h5.mono RInt_mono l0_5) (h6.mono RInt_mono l0_5) (h7.mono (RSlice_mono RInt_mono) l0_5) hy41
      refine WL_op rfl (OpP_callV cb72 hx43 rfl rfl (fun w42 hb => ?_)); have hS := hS.keep hb; have hO := hO.below hb; refine WL_val (rn_move (v := (.tuple #[.int .i64 y41.1, .int .i64 y41.2])) rfl) rfl ?_; refine WL_val (rn_extract (v := (.int .i64 y41.1)) rfl rfl) rfl ?_; refine WL_val (rn_extract (v := (.int .i64 y41.2)) rfl rfl) rfl ?_; refine WL_val (rn_assign (v := (.int .i64 y41.1)) rfl) rfl ?_; refine WL_val (rn_assign (v := (.int .i64 y41.2)) rfl) rfl ?_; refine WL_nil ?_; refine WC_region ?_; refine WL_val (rn_move (v := (.slice as34_0 ns34_0 cs34_0)) rfl) rfl ?_; refine WL_val (rn_move (v := (.int .i64 y41.1)) rfl) rfl ?_
      refine WL_op rfl (OpP_newF (v := fun b => .slice (some ⟨b, 0, none⟩) 1 1) (cs := [.int .i64 y41.1]) (e := 3) (by kernel_rfl) hS.sat rfl (fun b44 G46 w45 hg hcb44 => ?_))
      have hS := hS.grow hg; have hO := hO.grow hg
      have leG46 := hg.le
      have hfb44 : RSl RInt 1 G46 (some ⟨b44, 0, none⟩) 1 1 [y41.1] := RSl.of_rd hcb44 (Rd.cons (c := [.int .i64 y41.1]) rfl rfl (Rd.nil RInt 1 _)) rfl (by decide)
      obtain ⟨y47, hy47, H⟩ := bnd H; refine WL_op rfl (OpP_append (k := 1) sl22 RInt_one hS hO rfl hnhs34_0 (hs34_0.mono RInt_mono leG46) hfb44 hy47 rfl rfl rfl rfl rfl (fun aw48 cw48 w48 clw48 hS hO hrw48 => ?_))
      have hO : Owns G46 w48 w0.heap.size ([⟨3, 1, ns34_1, .slice as34_1 ns34_1 cs34_1, clas34_1⟩, ⟨3, 1, y47.length, .slice aw48 y47.length cw48, clw48⟩]) := hO
      refine WL_val (rn_move (v := (.slice as34_1 ns34_1 cs34_1)) rfl) rfl ?_; refine WL_val (rn_move (v := (.int .i64 y41.2)) rfl) rfl ?_
      refine WL_op rfl (OpP_newF (v := fun b => .slice (some ⟨b, 0, none⟩) 1 1) (cs := [.int .i64 y41.2]) (e := 3) (by kernel_rfl) hS.sat rfl (fun b49 G51 w50 hg hcb49 => ?_))
      have hS := hS.grow hg; have hO := hO.grow hg
      have leG51 := hg.le
      have hfb49 : RSl RInt 1 G51 (some ⟨b49, 0, none⟩) 1 1 [y41.2] := RSl.of_rd hcb49 (Rd.cons (c := [.int .i64 y41.2]) rfl rfl (Rd.nil RInt 1 _)) rfl (by decide)
      obtain ⟨y52, hy52, H⟩ := bnd H
      have l5_7 := leG46.trans leG51
      refine WL_op rfl (OpP_append (k := 0) sl22 RInt_one hS hO rfl hnhs34_1 (hs34_1.mono RInt_mono l5_7) hfb49 hy52 rfl rfl rfl rfl rfl (fun aw53 cw53 w53 clw53 hS hO hrw53 => ?_))
      have hO : Owns G51 w53 w0.heap.size ([⟨3, 1, y52.length, .slice aw53 y52.length cw53, clw53⟩, ⟨3, 1, y47.length, .slice aw48 y47.length cw48, clw48⟩]) := hO
      refine WL_val (rn_assign (v := (.slice aw48 y47.length cw48)) rfl) rfl ?_; refine WL_val (rn_assign (v := (.slice aw53 y52.length cw53)) rfl) rfl ?_; refine WL_nil ?_; refine WC_region ?_; refine WL_val (rn_add rfl rfl) rfl ?_; refine WL_val (rn_move (v := (.int .i64 (IntKind.i64.wrap (s34.2.2 + 1)))) rfl) rfl ?_; refine WL_nil ?_
      have hO : Owns G51 w53 w0.heap.size ([⟨3, 1, y52.length, .slice aw53 y52.length cw53, clw53⟩, ⟨3, 1, y47.length, .slice aw48 y47.length cw48, clw48⟩]) := hO
      have H := Option.some.inj H; subst H; refine ⟨_, rfl, ?_⟩
      have l4_7 := leG39.trans l5_7
      exact ⟨_, G51, aw48, y47.length, cw48, clw48, aw53, y52.length, cw53, clw53, upds_self _ _ ⟨rfl, rfl, rfl, rfl, rfl, rfl, trivial⟩, l4_7, hS, hO, rfl, (hrw48.mono RInt_mono leG51), rfl, hrw53⟩
     ·have H := ifF hb40 H; refine WC_exit rfl ?_
      have hO : Owns G39 w38 w0.heap.size ([⟨3, 1, ns34_1, .slice as34_1 ns34_1 cs34_1, clas34_1⟩, ⟨3, 1, ns34_0, .slice as34_0 ns34_0 cs34_0, clas34_0⟩]) := hO
      have H := Option.some.inj H; subst H
      have hres := hqq36 _ rfl
      subst hres
      exact ⟨_, G39, as34_0, ns34_0, cs34_0, clas34_0, as34_1, ns34_1, cs34_1, clas34_1, upds_self _ _ ⟨rfl, rfl, trivial⟩, leG39, hS, hO, hnhs34_0, hs34_0, hnhs34_1, hs34_1⟩
   ·rintro F w54 ⟨Fb, G55, aq36_0, nq36_0, cq36_0, claq36_0, aq36_1, nq36_1, cq36_1, claq36_1, rfl, leG55, hS, hO, hnhq36_0, hq36_0, hnhq36_1, hq36_1⟩
    refine WC_seq ?_; refine WC_region ?_; refine WL_val (rn_move (v := (.slice aq36_0 nq36_0 cq36_0)) rfl) rfl ?_; refine WL_val (rn_move (v := (.slice aq36_1 nq36_1 cq36_1)) rfl) rfl ?_; refine WL_val (rn_assign (v := (.slice aq36_0 nq36_0 cq36_0)) rfl) rfl ?_; refine WL_val (rn_assign (v := (.slice aq36_1 nq36_1 cq36_1)) rfl) rfl ?_; refine WL_val (rn_assign (v := (.int .i64 0)) rfl) rfl ?_; refine WL_nil ?_; refine WC_ret ?_; obtain ⟨G56, leG56, hS, hO, hfG56⟩ := hO.freezeS hS RInt_mono (k := 1) rfl hq36_0 hnhq36_0; obtain ⟨G57, leG57, hS, hO, hfG57⟩ := hO.freezeS hS RInt_mono (k := 0) rfl (hq36_1.mono RInt_mono leG56) hnhq36_1
    have H : some (q36.1, q36.2, 0) = some r := H
    have H := Option.some.inj H; subst H
    exact ⟨_, _, rfl, hS.toGrow, _, _, _, _, _, _, rfl, (hfG56.mono RInt_mono leG57), hfG57⟩
set_option maxHeartbeats 1000000 in
theorem f111_ok {G0 : Gm} {w0 : World} (hS0 : Sat G0 w0) {x0 : (List TSpan)} {a1 : Option Addr} {n1 c1 : Nat} {x1 : (TSpan → Option Int)} {k2 : Nat} {fi2 ca2 : List Value} (h1 : RSl RTSpan 2 G0 a1 n1 c1 x0) (hf2 : FnOk135 G0 k2 fi2 ca2 x1) {r : (List Int)} (H : f111 x0 x1 = some r) :
  Calls Try.prog 111 #[.slice a1 n1 c1, .func (.func k2) (fi2).toArray (ca2).toArray] w0 (RetG G0 w0 (fun G v => ∃ (ra0 : Option Addr) (rn0 rc0 : Nat), v = .slice ra0 rn0 rc0 ∧ RSl RInt 1 G ra0 rn0 rc0 r)) := by
 have hS := Since.start hS0
 have hO : Owns G0 w0 w0.heap.size [] := Owns.nil (Nat.le_refl _)
 unfold f111 at H
 refine enter1 (N := 22) (shutG _ _ _) Try.func111 rfl rfl rfl rfl ?_; refine WC_seq ?_; refine WC_region ?_; refine WL_val (rn_assign (v := (.slice none 0 0)) rfl) rfl ?_; refine WL_nil ?_; refine WC_seq ?_; refine WC_region ?_; refine WL_val (rn_assign (v := (.slice none 0 0)) rfl) rfl ?_; refine WL_nil ?_; refine WC_seq ?_; refine WC_seq ?_; refine WC_region ?_; refine WL_val (rn_move (v := (.slice a1 n1 c1)) rfl) rfl ?_; refine WL_val (rn_len sl23 rfl rfl h1.1) rfl ?_; refine WL_val (rn_move (v := (.int .i64 0)) rfl) rfl ?_; refine WL_nil ?_; have hO := hO.cons_nil 3 1; obtain ⟨q6, hq6, H⟩ := bnd H; refine WC_cut (fun F w => ∃ (Fb : Fr) (G : Gm) (aq6_0 : Option Addr) (nq6_0 cq6_0 : Nat) (claq6_0 : List Value), F = upds Fb [(5, .slice aq6_0 nq6_0 cq6_0)] ∧ Gle G0 G ∧ Since w0.heap.size G0 w0 G w ∧ Owns G w w0.heap.size [⟨3, 1, nq6_0, .slice aq6_0 nq6_0 cq6_0, claq6_0⟩] ∧ nq6_0 = q6.length ∧ Rd RInt 1 G claq6_0 q6) ?_ ?_
 ·refine WC_block (WC_loop hq6 (fun s4 F w => ∃ (Fb : Fr) (G : Gm) (as4_0 : Option Addr) (ns4_0 cs4_0 : Nat) (clas4_0 : List Value), F = upds Fb [(1, .func (.func k2) (fi2).toArray (ca2).toArray), (5, .slice as4_0 ns4_0 cs4_0), (8, .slice a1 n1 c1), (9, .int .i64 (x0.length : Int)), (10, .int .i64 s4.2)] ∧ Gle G0 G ∧ Since w0.heap.size G0 w0 G w ∧ Owns G w w0.heap.size [⟨3, 1, ns4_0, .slice as4_0 ns4_0 cs4_0, clas4_0⟩] ∧ ns4_0 = s4.1.length ∧ Rd RInt 1 G clas4_0 s4.1) ?_ ?_)
  ·have hO : Owns G0 w0 w0.heap.size ([⟨3, 1, 0, .slice none 0 0, []⟩]) := hO
   exact ⟨_, G0, none, 0, 0, [], upds_self _ _ ⟨rfl, rfl, rfl, rfl, rfl, trivial⟩, Gle.refl _, hS, hO, rfl, (Rd.nil RInt 1 G0)⟩
  ·rintro s4 F w8 t7 ⟨Fb, G9, as4_0, ns4_0, cs4_0, clas4_0, rfl, leG9, hS, hO, hnhs4_0, hs4_0⟩
   intro H1 hqq6
   have Hoq6 := H; have H := H1
   unfold f111_b0 at H
   refine WC_seq ?_; refine WC_region ?_; refine WL_val (rn_lss rfl rfl) rfl ?_; refine WL_nil ?_; refine WC_seq ?_; refine WC_cond rfl (fun hb10 => ?_) (fun hb10 => ?_)
   ·have H := ifT hb10 H; refine WC_skip ?_; refine WC_seq ?_; refine WC_block ?_; refine WC_seq ?_; refine WC_region ?_; obtain ⟨y11, hy11, H⟩ := bnd H; refine WL_idx sl23 (h1.mono RTSpan_mono leG9) hy11 rfl rfl rfl ?_
    rintro b12 o12 _ hcb12 _ ⟨⟩
    refine WL_val (rn_loadA ag25 (cs := [.int .i64 y11.Low, .int .i64 y11.High]) rfl rfl (fun j v hj => hS.sat.cell (hcb12.drop_take 0 2 j v hj))) rfl ?_
    refine WL_op rfl (OpP_newO (v := fun b => .pointer (some ⟨b, 0, none⟩)) (cs := [.int .i64 0, .int .i64 0]) (e := 25) (by kernel_rfl) hS.sat hO rfl 2 1 rfl (by decide) (fun b13 w14 hb hO => ?_))
    have hS := hS.keep hb; refine WL_op rfl (OpP_store (vs := [.int .i64 y11.Low, .int .i64 y11.High]) sz25 hS hO (k := 0) rfl rfl rfl rfl rfl (one_all rfl) (Nat.le_of_ble_eq_true rfl) (fun w16 hS hO => ?_))
    have hO : Owns G9 w16 w0.heap.size ([⟨25, 2, 1, .slice (some ⟨b13, 0, none⟩) 1 1, [.int .i64 y11.Low, .int .i64 y11.High]⟩, ⟨3, 1, ns4_0, .slice as4_0 ns4_0 cs4_0, clas4_0⟩]) := hO
    obtain ⟨G17, leG17, hS, hO, hqG17, _⟩ := hO.freeze hS (k := 0) rfl
    have hcG17 : Cells G17 b13 0 [.int .i64 y11.Low, .int .i64 y11.High] := (hqG17 _ _ _ _ rfl)
    refine WL_nil ?_; refine WC_region ?_; refine WL_val (rn_move (v := (.slice as4_0 ns4_0 cs4_0)) rfl) rfl ?_; refine WL_val (rn_move (v := (.func (.func k2) (fi2).toArray (ca2).toArray)) rfl) rfl ?_; refine WL_val (rn_loadA ag25 (cs := [.int .i64 y11.Low, .int .i64 y11.High]) rfl rfl (fun j v hj => hS.sat.cell (hcG17.drop_take 0 2 j v hj))) rfl ?_; obtain ⟨y18, hy18, H⟩ := bnd H
    have l0_2 := leG9.trans leG17
    refine WL_op rfl (OpP_callVF hf2.1 (hf2.2 _ _ l0_2 hS.sat y11 _  hy18) rfl rfl rfl (fun w19 hb => ?_)); have hS := hS.keep hb; have hO := hO.below hb
    refine WL_op rfl (OpP_newF (v := fun b => .slice (some ⟨b, 0, none⟩) 1 1) (cs := [.int .i64 y18]) (e := 3) (by kernel_rfl) hS.sat rfl (fun b20 G22 w21 hg hcb20 => ?_))
    have hS := hS.grow hg; have hO := hO.grow hg
    have leG22 := hg.le
    have hfb20 : RSl RInt 1 G22 (some ⟨b20, 0, none⟩) 1 1 [y18] := RSl.of_rd hcb20 (Rd.cons (c := [.int .i64 y18]) rfl rfl (Rd.nil RInt 1 _)) rfl (by decide)
    obtain ⟨y23, hy23, H⟩ := bnd H
    have l1_3 := leG17.trans leG22
    refine WL_op rfl (OpP_append (k := 0) sl22 RInt_one hS hO rfl hnhs4_0 (hs4_0.mono RInt_mono l1_3) hfb20 hy23 rfl rfl rfl rfl rfl (fun aw24 cw24 w24 clw24 hS hO hrw24 => ?_))
    have hO : Owns G22 w24 w0.heap.size ([⟨3, 1, y23.length, .slice aw24 y23.length cw24, clw24⟩]) := hO
    refine WL_val (rn_assign (v := (.slice aw24 y23.length cw24)) rfl) rfl ?_; refine WL_nil ?_; refine WC_region ?_; refine WL_val (rn_add rfl rfl) rfl ?_; refine WL_val (rn_move (v := (.int .i64 (IntKind.i64.wrap (s4.2 + 1)))) rfl) rfl ?_; refine WL_nil ?_
    have hO : Owns G22 w24 w0.heap.size ([⟨3, 1, y23.length, .slice aw24 y23.length cw24, clw24⟩]) := hO
    have H := Option.some.inj H; subst H; refine ⟨_, rfl, ?_⟩
    have l0_3 := l0_2.trans leG22
    exact ⟨_, G22, aw24, y23.length, cw24, clw24, upds_self _ _ ⟨rfl, rfl, rfl, rfl, rfl, trivial⟩, l0_3, hS, hO, rfl, hrw24⟩
   ·have H := ifF hb10 H; refine WC_exit rfl ?_
    have hO : Owns G9 w8 w0.heap.size ([⟨3, 1, ns4_0, .slice as4_0 ns4_0 cs4_0, clas4_0⟩]) := hO
    have H := Option.some.inj H; subst H
    have hres := hqq6 _ rfl
    subst hres
    exact ⟨_, G9, as4_0, ns4_0, cs4_0, clas4_0, upds_self _ _ ⟨rfl, trivial⟩, leG9, hS, hO, hnhs4_0, hs4_0⟩
 ·rintro F w25 ⟨Fb, G26, aq6_0, nq6_0, cq6_0, claq6_0, rfl, leG26, hS, hO, hnhq6_0, hq6_0⟩
  refine WC_seq ?_; refine WC_region ?_; refine WL_val (rn_move (v := (.slice aq6_0 nq6_0 cq6_0)) rfl) rfl ?_; refine WL_val (rn_assign (v := (.slice aq6_0 nq6_0 cq6_0)) rfl) rfl ?_; refine WL_nil ?_; refine WC_ret ?_; obtain ⟨G27, leG27, hS, hO, hfG27⟩ := hO.freezeS hS RInt_mono (k := 0) rfl hq6_0 hnhq6_0
  have H : some q6 = some r := H
  have H := Option.some.inj H; subst H
  exact ⟨_, _, rfl, hS.toGrow, _, _, _, rfl, hfG27⟩
set_option maxHeartbeats 1000000 in
theorem f98_ok {G0 : Gm} {w0 : World} (hS0 : Sat G0 w0) {x0 : TShipStore} {a1 : Option Addr} {n1 c1 : Nat} {a2 : Option Addr} {n2 c2 : Nat} {a3 : Option Addr} {n3 c3 : Nat} {x1 : (List Int)} {a4 : Option Addr} {n4 c4 : Nat} {x2 : Int} {x3 : (TSpan → Option Int)} {k5 : Nat} {fi5 ca5 : List Value} {x4 : (TSpan → Option Int)} {k6 : Nat} {fi6 ca6 : List Value} (h1 : RSl RInt 1 G0 a1 n1 c1 x0.Stock) (h2 : RSl RTSpan 2 G0 a2 n2 c2 x0.Use) (h3 : RSl RTShipLot 3 G0 a3 n3 c3 x0.Lots) (h4 : RSl RInt 1 G0 a4 n4 c4 x1) (hf5 : FnOk135 G0 k5 fi5 ca5 x3) (hf6 : FnOk135 G0 k6 fi6 ca6 x4) {r : TStore} (H : f98 x0 x1 x2 x3 x4 = some r) :
  Calls Try.prog 98 #[.agg #[.slice a1 n1 c1, .slice a2 n2 c2, .int .i64 x0.Gap.Low, .int .i64 x0.Gap.High, .slice a3 n3 c3, .int .i64 x0.Hold], .slice a4 n4 c4, .int .i64 x2, .func (.func k5) (fi5).toArray (ca5).toArray, .func (.func k6) (fi6).toArray (ca6).toArray] w0 (RetG G0 w0 (fun G v => ∃ (rb0 : Nat) (ra0 : Option Addr) (rn0 rc0 : Nat) (ra1 : Option Addr) (rn1 rc1 : Nat) (ra2 : Option Addr) (rn2 rc2 : Nat) (ra3 : Option Addr) (rn3 rc3 : Nat) (ra4 : Option Addr) (rn4 rc4 : Nat) (ra5 : Option Addr) (rn5 rc5 : Nat) (ra6 : Option Addr) (rn6 rc6 : Nat), v = .pointer (some ⟨rb0, 0, none⟩) ∧ Cells G rb0 0 [.slice ra0 rn0 rc0, .slice ra1 rn1 rc1, .int .i64 r.ShipStore.Gap.Low, .int .i64 r.ShipStore.Gap.High, .slice ra2 rn2 rc2, .int .i64 r.ShipStore.Hold, .slice ra3 rn3 rc3, .slice ra4 rn4 rc4, .slice ra5 rn5 rc5, .slice ra6 rn6 rc6] ∧ RSl RInt 1 G ra0 rn0 rc0 r.ShipStore.Stock ∧ RSl RTSpan 2 G ra1 rn1 rc1 r.ShipStore.Use ∧ RSl RTShipLot 3 G ra2 rn2 rc2 r.ShipStore.Lots ∧ RSl RInt 1 G ra3 rn3 rc3 r.load ∧ RSl RInt 1 G ra4 rn4 rc4 r.truth.Uses ∧ RSl RInt 1 G ra5 rn5 rc5 r.truth.Gaps ∧ RSl (RSlice RInt 1) 1 G ra6 rn6 rc6 r.truth.Goods)) := by
 have hS := Since.start hS0
 have hO : Owns G0 w0 w0.heap.size [] := Owns.nil (Nat.le_refl _)
 unfold f98 at H
 refine enter1 (N := 62) (shutG _ _ _) Try.func98 rfl rfl rfl rfl ?_; refine WC_seq ?_; refine WC_region ?_; refine WL_op rfl (OpP_newF (v := fun b => .pointer (some ⟨b, 0, none⟩)) (cs := [.slice a1 n1 c1, .slice a2 n2 c2, .int .i64 x0.Gap.Low, .int .i64 x0.Gap.High, .slice a3 n3 c3, .int .i64 x0.Hold]) (e := 42) (rn_boxA rfl) hS.sat rfl (fun b7 G9 w8 hg hcb7 => ?_)); have hS := hS.grow hg; have hO := hO.grow hg
 have leG9 := hg.le
 refine WL_val (rn_assign (v := (.pointer none)) rfl) rfl ?_; refine WL_nil ?_; refine WC_seq ?_; refine WC_region ?_; refine WL_val (rn_fld fd42_1 rfl) rfl ?_; refine WL_val (rn_load na23 rfl (hS.sat.cell (hcb7 1 _ rfl))) rfl ?_; refine WL_val (rn_move (v := (.func (.func k5) (fi5).toArray (ca5).toArray)) rfl) rfl ?_; obtain ⟨y10, hy10, H⟩ := bnd H; refine WL_op rfl (OpP_callG cb111 (f111_ok (x0 := x0.Use) (x1 := x3) hS.sat (h2.mono RTSpan_mono leG9) (hf5.mono leG9) hy10) rfl rfl (fun vy10 G12 w11 hg hvy10 => ?_)); obtain ⟨a13, n13, c13, ⟨⟩, h13⟩ := hvy10; have hS := hS.grow hg; have hO := hO.grow hg
 have leG12 := hg.le
 refine WL_val (v := (.agg #[.slice a13 n13 c13, .slice none 0 0, .slice none 0 0])) (by kernel_rfl) rfl ?_
 refine WL_op rfl (OpP_newO (v := fun b => .pointer (some ⟨b, 0, none⟩)) (cs := [.slice none 0 0, .slice none 0 0, .slice none 0 0]) (e := 45) (by kernel_rfl) hS.sat hO rfl 3 1 rfl (by decide) (fun b14 w15 hb hO => ?_))
 have hS := hS.keep hb; refine WL_op rfl (OpP_store (vs := [.slice a13 n13 c13, .slice none 0 0, .slice none 0 0]) sz45 hS hO (k := 0) rfl rfl rfl rfl rfl (one_all rfl) (Nat.le_of_ble_eq_true rfl) (fun w17 hS hO => ?_))
 have hO : Owns G12 w17 w0.heap.size ([⟨45, 3, 1, .slice (some ⟨b14, 0, none⟩) 1 1, [.slice a13 n13 c13, .slice none 0 0, .slice none 0 0]⟩]) := hO
 refine WL_nil ?_; refine WC_seq ?_; refine WC_seq ?_; refine WC_region ?_; refine WL_val (rn_assign (v := (.int .i64 0)) rfl) rfl ?_; refine WL_nil ?_; have hO := hO.cons_nil 3 1; have hO := hO.cons_nil 22 1; obtain ⟨q22, hq22, H⟩ := bnd H; refine WC_cut (fun F w => ∃ (Fb : Fr) (G : Gm) (aq22_0 : Option Addr) (nq22_0 cq22_0 : Nat) (aq22_1 : Option Addr) (nq22_1 cq22_1 : Nat) (claq22_1 : List Value) (aq22_2 : Option Addr) (nq22_2 cq22_2 : Nat) (claq22_2 : List Value), F = upds Fb [(1, .slice a4 n4 c4), (4, .func (.func k6) (fi6).toArray (ca6).toArray), (5, .pointer (some ⟨b7, 0, none⟩)), (11, .pointer (some ⟨b14, 0, none⟩))] ∧ Gle G12 G ∧ Since w0.heap.size G0 w0 G w ∧ Owns G w w0.heap.size [⟨22, 1, nq22_2, .slice aq22_2 nq22_2 cq22_2, claq22_2⟩, ⟨3, 1, nq22_1, .slice aq22_1 nq22_1 cq22_1, claq22_1⟩, ⟨45, 3, 1, .slice (some ⟨b14, 0, none⟩) 1 1, [.slice aq22_0 nq22_0 cq22_0, .slice aq22_1 nq22_1 cq22_1, .slice aq22_2 nq22_2 cq22_2]⟩] ∧ RSl RInt 1 G aq22_0 nq22_0 cq22_0 q22.Uses ∧ nq22_1 = q22.Gaps.length ∧ Rd RInt 1 G claq22_1 q22.Gaps ∧ nq22_2 = q22.Goods.length ∧ Rd (RSlice RInt 1) 1 G claq22_2 q22.Goods) ?_ ?_
 ·refine WC_block (WC_loop hq22 (fun s20 F w => ∃ (Fb : Fr) (G : Gm) (as20_0 : Option Addr) (ns20_0 cs20_0 : Nat) (as20_1 : Option Addr) (ns20_1 cs20_1 : Nat) (clas20_1 : List Value) (as20_2 : Option Addr) (ns20_2 cs20_2 : Nat) (clas20_2 : List Value), F = upds Fb [(1, .slice a4 n4 c4), (2, .int .i64 x2), (3, .func (.func k5) (fi5).toArray (ca5).toArray), (4, .func (.func k6) (fi6).toArray (ca6).toArray), (5, .pointer (some ⟨b7, 0, none⟩)), (11, .pointer (some ⟨b14, 0, none⟩)), (12, .int .i64 s20.1)] ∧ Gle G12 G ∧ Since w0.heap.size G0 w0 G w ∧ Owns G w w0.heap.size [⟨22, 1, ns20_2, .slice as20_2 ns20_2 cs20_2, clas20_2⟩, ⟨3, 1, ns20_1, .slice as20_1 ns20_1 cs20_1, clas20_1⟩, ⟨45, 3, 1, .slice (some ⟨b14, 0, none⟩) 1 1, [.slice as20_0 ns20_0 cs20_0, .slice as20_1 ns20_1 cs20_1, .slice as20_2 ns20_2 cs20_2]⟩] ∧ RSl RInt 1 G as20_0 ns20_0 cs20_0 s20.2.Uses ∧ ns20_1 = s20.2.Gaps.length ∧ Rd RInt 1 G clas20_1 s20.2.Gaps ∧ ns20_2 = s20.2.Goods.length ∧ Rd (RSlice RInt 1) 1 G clas20_2 s20.2.Goods) ?_ ?_)
  ·have hO : Owns G12 w17 w0.heap.size ([⟨22, 1, 0, .slice none 0 0, []⟩, ⟨3, 1, 0, .slice none 0 0, []⟩, ⟨45, 3, 1, .slice (some ⟨b14, 0, none⟩) 1 1, [.slice a13 n13 c13, .slice none 0 0, .slice none 0 0]⟩]) := hO
   exact ⟨_, G12, a13, n13, c13, none, 0, 0, [], none, 0, 0, [], upds_self _ _ ⟨rfl, rfl, rfl, rfl, rfl, rfl, rfl, trivial⟩, Gle.refl _, hS, hO, h13, rfl, (Rd.nil RInt 1 G12), rfl, (Rd.nil (RSlice RInt 1) 1 G12)⟩
  ·rintro s20 F w24 t23 ⟨Fb, G25, as20_0, ns20_0, cs20_0, as20_1, ns20_1, cs20_1, clas20_1, as20_2, ns20_2, cs20_2, clas20_2, rfl, leG25, hS, hO, hs20_0, hnhs20_1, hs20_1, hnhs20_2, hs20_2⟩
   intro H1 hqq22
   have Hoq22 := H; have H := H1
   unfold f98_b0 at H
   refine WC_seq ?_; refine WC_seq ?_; refine WC_region ?_; refine WL_val (rn_move (v := (.int .i64 s20.1)) rfl) rfl ?_; refine WL_val (rn_move (v := (.int .i64 x2)) rfl) rfl ?_; refine WL_val (rn_lss rfl rfl) rfl ?_; refine WL_nil ?_; refine WC_cond rfl (fun hb26 => ?_) (fun hb26 => ?_)
   ·have H := ifT hb26 H; refine WC_skip ?_; refine WC_seq ?_; refine WC_block ?_; have hS := hS.keep (below_drew _); have hO := hO.below (below_drew _)
    refine WC_regionD mixedO (fun _ w => Sat G25 w ∧ Owns G25 w w0.heap.size [⟨22, 1, ns20_2, .slice as20_2 ns20_2 cs20_2, clas20_2⟩, ⟨3, 1, ns20_1, .slice as20_1 ns20_1 cs20_1, clas20_1⟩, ⟨45, 3, 1, .slice (some ⟨b14, 0, none⟩) 1 1, [.slice as20_0 ns20_0 cs20_0, .slice as20_1 ns20_1 cs20_1, .slice as20_2 ns20_2 cs20_2]⟩]) (.fl 0 (.fl 1 (.fl 2 (.on 3 (.on 4 (.on 5 (.on 6 (.on 7 (.on 8 (.on 9 .nil)))))))))) (by kernel_rfl) rfl (by kernel_rfl) (fun _ => ⟨hS.sat, hO⟩) ?_
    refine WD_val rfl (fun w hw => rn_fld fd45_1 rfl) rfl ?_; refine WD_val rfl (fun w hw => rn_load na22 rfl (own_cell hw.2 (k := 2) rfl (j := 1) rfl)) rfl ?_; refine WD_val rfl (fun w hw => rn_move (v := (.func (.func k5) (fi5).toArray (ca5).toArray)) rfl) rfl ?_; refine WD_op rfl rfl (OpP_val (rn_fld fd42_2 rfl) rfl ?_); refine ⟨fun _ _ => ⟨hS.sat, hO⟩, ?_⟩
    have l1_3 := leG12.trans leG25
    refine WD_op rfl rfl (OpP_val (rn_loadA ag25 (cs := [.int .i64 x0.Gap.Low, .int .i64 x0.Gap.High]) rfl rfl (fun j v hj => (hS.sat.le l1_3).cell (hcb7.drop_take 2 2 j v hj))) rfl ?_); refine ⟨fun _ _ => ⟨hS.sat, hO⟩, ?_⟩; obtain ⟨y27, hy27, H⟩ := bnd H
    have l0_3 := leG9.trans l1_3
    refine WD_op rfl rfl (OpP_callVF hf5.1 (hf5.2 _ _ l0_3 hS.sat x0.Gap _  hy27) rfl rfl rfl (fun w28 hb => ?_)); have hS := hS.keep hb; have hO := hO.below hb; refine ⟨fun _ _ => ⟨hS.sat, hO⟩, ?_⟩
    refine WD_op rfl rfl (OpP_newF (v := fun b => .slice (some ⟨b, 0, none⟩) 1 1) (cs := [.int .i64 y27]) (e := 3) (by kernel_rfl) hS.sat rfl (fun b29 G31 w30 hg hcb29 => ?_))
    have hS := hS.grow hg; have hO := hO.grow hg
    have leG31 := hg.le
    have hfb29 : RSl RInt 1 G31 (some ⟨b29, 0, none⟩) 1 1 [y27] := RSl.of_rd hcb29 (Rd.cons (c := [.int .i64 y27]) rfl rfl (Rd.nil RInt 1 _)) rfl (by decide)
    refine ⟨fun _ _ => ⟨hS.sat.le leG31, hO.le leG31⟩, ?_⟩; obtain ⟨y32, hy32, H⟩ := bnd H; refine WD_op rfl rfl (OpP_append (k := 1) sl22 RInt_one hS hO rfl hnhs20_1 (hs20_1.mono RInt_mono leG31) hfb29 hy32 rfl rfl rfl rfl rfl (fun aw33 cw33 w33 clw33 hS hO hrw33 => ?_))
    have hO : Owns G31 w33 w0.heap.size ([⟨22, 1, ns20_2, .slice as20_2 ns20_2 cs20_2, clas20_2⟩, ⟨3, 1, y32.length, .slice aw33 y32.length cw33, clw33⟩, ⟨45, 3, 1, .slice (some ⟨b14, 0, none⟩) 1 1, [.slice as20_0 ns20_0 cs20_0, .slice as20_1 ns20_1 cs20_1, .slice as20_2 ns20_2 cs20_2]⟩]) := hO
    refine ⟨fun _ h => noneed (by kernel_rfl) h, ?_⟩
    refine WD_op rfl rfl (OpP_val (rn_fld fd45_1 rfl) rfl ?_)
    refine ⟨fun _ h => noneed (by kernel_rfl) h, ?_⟩
    refine WD_op rfl rfl (OpP_store (vs := [.slice aw33 y32.length cw33]) sz22 hS hO (k := 2) rfl rfl rfl rfl rfl (one_all rfl) (Nat.le_of_ble_eq_true rfl) (fun w34 hS hO => ?_))
    have hO : Owns G31 w34 w0.heap.size ([⟨22, 1, ns20_2, .slice as20_2 ns20_2 cs20_2, clas20_2⟩, ⟨3, 1, y32.length, .slice aw33 y32.length cw33, clw33⟩, ⟨45, 3, 1, .slice (some ⟨b14, 0, none⟩) 1 1, [.slice as20_0 ns20_0 cs20_0, .slice aw33 y32.length cw33, .slice as20_2 ns20_2 cs20_2]⟩]) := hO
    refine ⟨fun _ h => noneed (by kernel_rfl) h, ?_⟩
    refine WD_nil ?_; refine WC_region ?_; refine WL_val (rn_move (v := (.int .i64 s20.1)) rfl) rfl ?_; refine WL_val (rn_move (v := (.func (.func k5) (fi5).toArray (ca5).toArray)) rfl) rfl ?_; refine WL_val (rn_fld fd42_2 rfl) rfl ?_
    have l1_4 := l1_3.trans leG31
    refine WL_val (rn_loadA ag25 (cs := [.int .i64 x0.Gap.Low, .int .i64 x0.Gap.High]) rfl rfl (fun j v hj => (hS.sat.le l1_4).cell (hcb7.drop_take 2 2 j v hj))) rfl ?_; obtain ⟨y35, hy35, H⟩ := bnd H
    have l0_4 := l0_3.trans leG31
    refine WL_op rfl (OpP_callVF hf5.1 (hf5.2 _ _ l0_4 hS.sat x0.Gap _  hy35) rfl rfl rfl (fun w36 hb => ?_)); have hS := hS.keep hb; have hO := hO.below hb; refine WL_val (rn_add rfl rfl) rfl ?_; refine WL_val (rn_assign (v := (.int .i64 (IntKind.i64.wrap (s20.1 + y35)))) rfl) rfl ?_; refine WL_nil ?_
    have hO : Owns G31 w36 w0.heap.size ([⟨22, 1, ns20_2, .slice as20_2 ns20_2 cs20_2, clas20_2⟩, ⟨3, 1, y32.length, .slice aw33 y32.length cw33, clw33⟩, ⟨45, 3, 1, .slice (some ⟨b14, 0, none⟩) 1 1, [.slice as20_0 ns20_0 cs20_0, .slice aw33 y32.length cw33, .slice as20_2 ns20_2 cs20_2]⟩]) := hO
    have H := Option.some.inj H; subst H; refine ⟨_, rfl, ?_⟩
    have l2_4 := leG25.trans leG31
    exact ⟨_, G31, as20_0, ns20_0, cs20_0, aw33, y32.length, cw33, clw33, as20_2, ns20_2, cs20_2, clas20_2, upds_self _ _ ⟨rfl, rfl, rfl, rfl, rfl, rfl, rfl, trivial⟩, l2_4, hS, hO, (hs20_0.mono RInt_mono leG31), rfl, hrw33, hnhs20_2, (hs20_2.mono (RSlice_mono RInt_mono) leG31)⟩
   ·have H := ifF hb26 H; refine WC_exit rfl ?_
    have hO : Owns G25 w24 w0.heap.size ([⟨22, 1, ns20_2, .slice as20_2 ns20_2 cs20_2, clas20_2⟩, ⟨3, 1, ns20_1, .slice as20_1 ns20_1 cs20_1, clas20_1⟩, ⟨45, 3, 1, .slice (some ⟨b14, 0, none⟩) 1 1, [.slice as20_0 ns20_0 cs20_0, .slice as20_1 ns20_1 cs20_1, .slice as20_2 ns20_2 cs20_2]⟩]) := hO
    have H := Option.some.inj H; subst H
    have hres := hqq22 _ rfl
    subst hres
    exact ⟨_, G25, as20_0, ns20_0, cs20_0, as20_1, ns20_1, cs20_1, clas20_1, as20_2, ns20_2, cs20_2, clas20_2, upds_self _ _ ⟨rfl, rfl, rfl, rfl, trivial⟩, leG25, hS, hO, hs20_0, hnhs20_1, hs20_1, hnhs20_2, hs20_2⟩
 ·rintro F w37 ⟨Fb, G38, aq22_0, nq22_0, cq22_0, aq22_1, nq22_1, cq22_1, claq22_1, aq22_2, nq22_2, cq22_2, claq22_2, rfl, leG38, hS, hO, hq22_0, hnhq22_1, hq22_1, hnhq22_2, hq22_2⟩
  refine WC_seq ?_; refine WC_seq ?_; refine WC_region ?_; refine WL_val (rn_fld fd42_3 rfl) rfl ?_
  have l1_3 := leG12.trans leG38
  refine WL_val (rn_load na40 rfl ((hS.sat.le l1_3).cell (hcb7 4 _ rfl))) rfl ?_
  have l0_3 := leG9.trans l1_3
  refine WL_val (rn_len sl40 rfl rfl (h3.mono RTShipLot_mono l0_3).1) rfl ?_; refine WL_val (rn_move (v := (.int .i64 0)) rfl) rfl ?_; refine WL_nil ?_; obtain ⟨q41, hq41, H⟩ := bnd H; refine WC_cut (fun F w => ∃ (Fb : Fr) (G : Gm) (aq41_0 : Option Addr) (nq41_0 cq41_0 : Nat) (aq41_1 : Option Addr) (nq41_1 cq41_1 : Nat) (claq41_1 : List Value) (aq41_2 : Option Addr) (nq41_2 cq41_2 : Nat) (claq41_2 : List Value), F = upds Fb [(1, .slice a4 n4 c4), (5, .pointer (some ⟨b7, 0, none⟩)), (11, .pointer (some ⟨b14, 0, none⟩))] ∧ Gle G38 G ∧ Since w0.heap.size G0 w0 G w ∧ Owns G w w0.heap.size [⟨22, 1, nq41_2, .slice aq41_2 nq41_2 cq41_2, claq41_2⟩, ⟨3, 1, nq41_1, .slice aq41_1 nq41_1 cq41_1, claq41_1⟩, ⟨45, 3, 1, .slice (some ⟨b14, 0, none⟩) 1 1, [.slice aq41_0 nq41_0 cq41_0, .slice aq41_1 nq41_1 cq41_1, .slice aq41_2 nq41_2 cq41_2]⟩] ∧ RSl RInt 1 G aq41_0 nq41_0 cq41_0 q41.Uses ∧ nq41_1 = q41.Gaps.length ∧ Rd RInt 1 G claq41_1 q41.Gaps ∧ nq41_2 = q41.Goods.length ∧ Rd (RSlice RInt 1) 1 G claq41_2 q41.Goods) ?_ ?_
  ·refine WC_block (WC_loop hq41 (fun s39 F w => ∃ (Fb : Fr) (G : Gm) (as39_0 : Option Addr) (ns39_0 cs39_0 : Nat) (as39_1 : Option Addr) (ns39_1 cs39_1 : Nat) (clas39_1 : List Value) (as39_2 : Option Addr) (ns39_2 cs39_2 : Nat) (clas39_2 : List Value), F = upds Fb [(1, .slice a4 n4 c4), (4, .func (.func k6) (fi6).toArray (ca6).toArray), (5, .pointer (some ⟨b7, 0, none⟩)), (11, .pointer (some ⟨b14, 0, none⟩)), (40, .slice a3 n3 c3), (41, .int .i64 (x0.Lots.length : Int)), (42, .int .i64 s39.1)] ∧ Gle G38 G ∧ Since w0.heap.size G0 w0 G w ∧ Owns G w w0.heap.size [⟨22, 1, ns39_2, .slice as39_2 ns39_2 cs39_2, clas39_2⟩, ⟨3, 1, ns39_1, .slice as39_1 ns39_1 cs39_1, clas39_1⟩, ⟨45, 3, 1, .slice (some ⟨b14, 0, none⟩) 1 1, [.slice as39_0 ns39_0 cs39_0, .slice as39_1 ns39_1 cs39_1, .slice as39_2 ns39_2 cs39_2]⟩] ∧ RSl RInt 1 G as39_0 ns39_0 cs39_0 s39.2.Uses ∧ ns39_1 = s39.2.Gaps.length ∧ Rd RInt 1 G clas39_1 s39.2.Gaps ∧ ns39_2 = s39.2.Goods.length ∧ Rd (RSlice RInt 1) 1 G clas39_2 s39.2.Goods) ?_ ?_)
   ·have hO : Owns G38 w37 w0.heap.size ([⟨22, 1, nq22_2, .slice aq22_2 nq22_2 cq22_2, claq22_2⟩, ⟨3, 1, nq22_1, .slice aq22_1 nq22_1 cq22_1, claq22_1⟩, ⟨45, 3, 1, .slice (some ⟨b14, 0, none⟩) 1 1, [.slice aq22_0 nq22_0 cq22_0, .slice aq22_1 nq22_1 cq22_1, .slice aq22_2 nq22_2 cq22_2]⟩]) := hO
    exact ⟨_, G38, aq22_0, nq22_0, cq22_0, aq22_1, nq22_1, cq22_1, claq22_1, aq22_2, nq22_2, cq22_2, claq22_2, upds_self _ _ ⟨rfl, rfl, rfl, rfl, rfl, rfl, rfl, trivial⟩, Gle.refl _, hS, hO, hq22_0, hnhq22_1, hq22_1, hnhq22_2, hq22_2⟩
   ·rintro s39 F w43 t42 ⟨Fb, G44, as39_0, ns39_0, cs39_0, as39_1, ns39_1, cs39_1, clas39_1, as39_2, ns39_2, cs39_2, clas39_2, rfl, leG44, hS, hO, hs39_0, hnhs39_1, hs39_1, hnhs39_2, hs39_2⟩
    intro H1 hqq41
    have Hoq41 := H; have H := H1
    unfold f98_b1 at H
    refine WC_seq ?_; refine WC_region ?_; refine WL_val (rn_lss rfl rfl) rfl ?_; refine WL_nil ?_; refine WC_seq ?_; refine WC_cond rfl (fun hb45 => ?_) (fun hb45 => ?_)
    ·have H := ifT hb45 H; refine WC_skip ?_; refine WC_seq ?_; refine WC_block ?_; refine WC_seq ?_; refine WC_region ?_; obtain ⟨y46, hy46, H⟩ := bnd H
     have l0_4 := l0_3.trans leG44
     refine WL_idx sl40 (h3.mono RTShipLot_mono l0_4) hy46 rfl rfl rfl ?_
     rintro b47 o47 _ hcb47 _ ⟨a48, n48, c48, ⟨⟩, h48⟩
     refine WL_val (rn_loadA ag111 (cs := [.slice a48 n48 c48, .int .i64 y46.Weight, .int .i64 y46.Cost]) rfl rfl (fun j v hj => hS.sat.cell (hcb47.drop_take 0 3 j v hj))) rfl ?_
     refine WL_op rfl (OpP_newO (v := fun b => .pointer (some ⟨b, 0, none⟩)) (cs := [.slice none 0 0, .int .i64 0, .int .i64 0]) (e := 111) (by kernel_rfl) hS.sat hO rfl 3 1 rfl (by decide) (fun b49 w50 hb hO => ?_))
     have hS := hS.keep hb; refine WL_op rfl (OpP_store (vs := [.slice a48 n48 c48, .int .i64 y46.Weight, .int .i64 y46.Cost]) sz111 hS hO (k := 0) rfl rfl rfl rfl rfl (one_all rfl) (Nat.le_of_ble_eq_true rfl) (fun w52 hS hO => ?_))
     have hO : Owns G44 w52 w0.heap.size ([⟨111, 3, 1, .slice (some ⟨b49, 0, none⟩) 1 1, [.slice a48 n48 c48, .int .i64 y46.Weight, .int .i64 y46.Cost]⟩, ⟨22, 1, ns39_2, .slice as39_2 ns39_2 cs39_2, clas39_2⟩, ⟨3, 1, ns39_1, .slice as39_1 ns39_1 cs39_1, clas39_1⟩, ⟨45, 3, 1, .slice (some ⟨b14, 0, none⟩) 1 1, [.slice as39_0 ns39_0 cs39_0, .slice as39_1 ns39_1 cs39_1, .slice as39_2 ns39_2 cs39_2]⟩]) := hO
     obtain ⟨G53, leG53, hS, hO, hqG53, _⟩ := hO.freeze hS (k := 0) rfl
     have hcG53 : Cells G53 b49 0 [.slice a48 n48 c48, .int .i64 y46.Weight, .int .i64 y46.Cost] := (hqG53 _ _ _ _ rfl)
     refine WL_nil ?_; refine WC_seq ?_; refine WC_region ?_; refine WL_val (rn_fld fd111_0 rfl) rfl ?_; refine WL_val (rn_load na23 rfl (hS.sat.cell (hcG53 0 _ rfl))) rfl ?_; refine WL_val (rn_move (v := (.func (.func k6) (fi6).toArray (ca6).toArray)) rfl) rfl ?_; obtain ⟨y54, hy54, H⟩ := bnd H
     have l0_5 := l0_4.trans leG53
     refine WL_op rfl (OpP_callG cb111 (f111_ok (x0 := y46.Goods) (x1 := x4) hS.sat (h48.mono RTSpan_mono leG53) (hf6.mono l0_5) hy54) rfl rfl (fun vy54 G56 w55 hg hvy54 => ?_)); obtain ⟨a57, n57, c57, ⟨⟩, h57⟩ := hvy54; have hS := hS.grow hg; have hO := hO.grow hg
     have leG56 := hg.le
     refine WL_val (rn_assign (v := (.slice a57 n57 c57)) rfl) rfl ?_; refine WL_nil ?_; refine WC_region ?_; refine WL_val (rn_fld fd45_2 rfl) rfl ?_; refine WL_val (rn_load na43 rfl (own_cell hO (k := 2) rfl (j := 2) rfl)) rfl ?_; refine WL_val (rn_move (v := (.slice a57 n57 c57)) rfl) rfl ?_
     refine WL_op rfl (OpP_newF (v := fun b => .slice (some ⟨b, 0, none⟩) 1 1) (cs := [.slice a57 n57 c57]) (e := 22) (by kernel_rfl) hS.sat rfl (fun b58 G60 w59 hg hcb58 => ?_))
     have hS := hS.grow hg; have hO := hO.grow hg
     have leG60 := hg.le
     have hfb58 : RSl (RSlice RInt 1) 1 G60 (some ⟨b58, 0, none⟩) 1 1 [y54] := RSl.of_rd hcb58 (Rd.cons (c := [.slice a57 n57 c57]) rfl ⟨_, _, _, rfl, (h57.mono RInt_mono leG60)⟩ (Rd.nil (RSlice RInt 1) 1 _)) rfl (by decide)
     obtain ⟨y61, hy61, H⟩ := bnd H
     have l4_7 := (leG53.trans leG56).trans leG60
     refine WL_op rfl (OpP_append (k := 0) sl43 (RSlice_one RInt 1) hS hO rfl hnhs39_2 (hs39_2.mono (RSlice_mono RInt_mono) l4_7) hfb58 hy61 rfl rfl rfl rfl rfl (fun aw62 cw62 w62 clw62 hS hO hrw62 => ?_))
     have hO : Owns G60 w62 w0.heap.size ([⟨22, 1, y61.length, .slice aw62 y61.length cw62, clw62⟩, ⟨3, 1, ns39_1, .slice as39_1 ns39_1 cs39_1, clas39_1⟩, ⟨45, 3, 1, .slice (some ⟨b14, 0, none⟩) 1 1, [.slice as39_0 ns39_0 cs39_0, .slice as39_1 ns39_1 cs39_1, .slice as39_2 ns39_2 cs39_2]⟩]) := hO
     refine WL_val (rn_fld fd45_2 rfl) rfl ?_; refine WL_op rfl (OpP_store (vs := [.slice aw62 y61.length cw62]) sz43 hS hO (k := 2) rfl rfl rfl rfl rfl (one_all rfl) (Nat.le_of_ble_eq_true rfl) (fun w63 hS hO => ?_))
     have hO : Owns G60 w63 w0.heap.size ([⟨22, 1, y61.length, .slice aw62 y61.length cw62, clw62⟩, ⟨3, 1, ns39_1, .slice as39_1 ns39_1 cs39_1, clas39_1⟩, ⟨45, 3, 1, .slice (some ⟨b14, 0, none⟩) 1 1, [.slice as39_0 ns39_0 cs39_0, .slice as39_1 ns39_1 cs39_1, .slice aw62 y61.length cw62]⟩]) := hO
     refine WL_nil ?_; refine WC_region ?_; refine WL_val (rn_add rfl rfl) rfl ?_; refine WL_val (rn_move (v := (.int .i64 (IntKind.i64.wrap (s39.1 + 1)))) rfl) rfl ?_; refine WL_nil ?_
     have hO : Owns G60 w63 w0.heap.size ([⟨22, 1, y61.length, .slice aw62 y61.length cw62, clw62⟩, ⟨3, 1, ns39_1, .slice as39_1 ns39_1 cs39_1, clas39_1⟩, ⟨45, 3, 1, .slice (some ⟨b14, 0, none⟩) 1 1, [.slice as39_0 ns39_0 cs39_0, .slice as39_1 ns39_1 cs39_1, .slice aw62 y61.length cw62]⟩]) := hO
     have H := Option.some.inj H; subst H; refine ⟨_, rfl, ?_⟩
     have l3_7 := leG44.trans l4_7
     exact ⟨_, G60, as39_0, ns39_0, cs39_0, as39_1, ns39_1, cs39_1, clas39_1, aw62, y61.length, cw62, clw62, upds_self _ _ ⟨rfl, rfl, rfl, rfl, rfl, rfl, rfl, trivial⟩, l3_7, hS, hO, (hs39_0.mono RInt_mono l4_7), hnhs39_1, (hs39_1.mono RInt_mono l4_7), rfl, hrw62⟩
    ·have H := ifF hb45 H; refine WC_exit rfl ?_
     have hO : Owns G44 w43 w0.heap.size ([⟨22, 1, ns39_2, .slice as39_2 ns39_2 cs39_2, clas39_2⟩, ⟨3, 1, ns39_1, .slice as39_1 ns39_1 cs39_1, clas39_1⟩, ⟨45, 3, 1, .slice (some ⟨b14, 0, none⟩) 1 1, [.slice as39_0 ns39_0 cs39_0, .slice as39_1 ns39_1 cs39_1, .slice as39_2 ns39_2 cs39_2]⟩]) := hO
     have H := Option.some.inj H; subst H
     have hres := hqq41 _ rfl
     subst hres
     exact ⟨_, G44, as39_0, ns39_0, cs39_0, as39_1, ns39_1, cs39_1, clas39_1, as39_2, ns39_2, cs39_2, clas39_2, upds_self _ _ ⟨rfl, rfl, rfl, trivial⟩, leG44, hS, hO, hs39_0, hnhs39_1, hs39_1, hnhs39_2, hs39_2⟩
  ·rintro F w64 ⟨Fb, G65, aq41_0, nq41_0, cq41_0, aq41_1, nq41_1, cq41_1, claq41_1, aq41_2, nq41_2, cq41_2, claq41_2, rfl, leG65, hS, hO, hq41_0, hnhq41_1, hq41_1, hnhq41_2, hq41_2⟩
   refine WC_seq ?_; refine WC_region ?_
   have l1_4 := l1_3.trans leG65
   refine WL_val (rn_loadA ag42 (cs := [.slice a1 n1 c1, .slice a2 n2 c2, .int .i64 x0.Gap.Low, .int .i64 x0.Gap.High, .slice a3 n3 c3, .int .i64 x0.Hold]) rfl rfl (fun j v hj => (hS.sat.le l1_4).cell (hcb7.drop_take 0 6 j v hj))) rfl ?_; refine WL_val (rn_move (v := (.slice a4 n4 c4)) rfl) rfl ?_; refine WL_val (rn_loadA ag45 (cs := [.slice aq41_0 nq41_0 cq41_0, .slice aq41_1 nq41_1 cq41_1, .slice aq41_2 nq41_2 cq41_2]) rfl rfl (fun j v hj => own_sub hO (k := 2) rfl 0 3 j v hj)) rfl ?_
   refine WL_val (v := (.agg #[.slice a1 n1 c1, .slice a2 n2 c2, .int .i64 x0.Gap.Low, .int .i64 x0.Gap.High, .slice a3 n3 c3, .int .i64 x0.Hold, .slice a4 n4 c4, .slice aq41_0 nq41_0 cq41_0, .slice aq41_1 nq41_1 cq41_1, .slice aq41_2 nq41_2 cq41_2])) (by kernel_rfl) rfl ?_
   obtain ⟨G66, leG66, hS, hO, hfG66⟩ := hO.freezeS hS RInt_mono (k := 1) rfl hq41_1 hnhq41_1; obtain ⟨G67, leG67, hS, hO, hfG67⟩ := hO.freezeS hS (RSlice_mono RInt_mono) (k := 0) rfl (hq41_2.mono (RSlice_mono RInt_mono) leG66) hnhq41_2; refine WL_op rfl (OpP_newF (v := fun b => .pointer (some ⟨b, 0, none⟩)) (cs := [.slice a1 n1 c1, .slice a2 n2 c2, .int .i64 x0.Gap.Low, .int .i64 x0.Gap.High, .slice a3 n3 c3, .int .i64 x0.Hold, .slice a4 n4 c4, .slice aq41_0 nq41_0 cq41_0, .slice aq41_1 nq41_1 cq41_1, .slice aq41_2 nq41_2 cq41_2]) (e := 114) (rn_boxA rfl) hS.sat rfl (fun b68 G70 w69 hg hcb68 => ?_)); have hS := hS.grow hg; have hO := hO.grow hg
   have leG70 := hg.le
   refine WL_val (rn_assign (v := (.pointer (some ⟨b68, 0, none⟩))) rfl) rfl ?_; refine WL_nil ?_; refine WC_ret ?_
   have H : some (⟨(⟨x0.Stock, x0.Use, (⟨x0.Gap.Low, x0.Gap.High⟩ : TSpan), x0.Lots, x0.Hold⟩ : TShipStore), x1, (⟨q41.Uses, q41.Gaps, q41.Goods⟩ : TShipTruth)⟩ : TStore) = some r := H
   have H := Option.some.inj H; subst H
   have l0_7 := (((l0_3.trans leG65).trans leG66).trans leG67).trans leG70
   have l4_7 := (leG66.trans leG67).trans leG70
   have l5_7 := leG67.trans leG70
   exact ⟨_, _, rfl, hS.toGrow, _, _, _, _, _, _, _, _, _, _, _, _, _, _, _, _, _, _, _, _, _, _, rfl, hcb68, (h1.mono RInt_mono l0_7), (h2.mono RTSpan_mono l0_7), (h3.mono RTShipLot_mono l0_7), (h4.mono RInt_mono l0_7), (hq41_0.mono RInt_mono l4_7), (hfG66.mono RInt_mono l5_7), (hfG67.mono (RSlice_mono RInt_mono) leG70)⟩
set_option maxHeartbeats 1000000 in
theorem f99_ok {G0 : Gm} {w0 : World} (hS0 : Sat G0 w0) {x0 : TSpan}  {r : Int} (H : f99 x0 = some r) :
  Calls Try.prog 99 #[.agg #[.int .i64 x0.Low, .int .i64 x0.High]] w0 (RetV w0 (.int .i64 r)) := by
 have hS := Since.start hS0
 have hO : Owns G0 w0 w0.heap.size [] := Owns.nil (Nat.le_refl _)
 unfold f99 at H
 refine enter1 (N := 5) (shutV _ _) Try.func99 rfl rfl rfl rfl ?_; refine WC_seq ?_; refine WC_region ?_; refine WL_op rfl (OpP_newF (v := fun b => .pointer (some ⟨b, 0, none⟩)) (cs := [.int .i64 x0.Low, .int .i64 x0.High]) (e := 25) (rn_boxA rfl) hS.sat rfl (fun b1 G3 w2 hg hcb1 => ?_)); have hS := hS.grow hg; have hO := hO.grow hg
 have leG3 := hg.le
 refine WL_val (rn_assign (v := (.int .i64 0)) rfl) rfl ?_; refine WL_nil ?_; refine WC_seq ?_; refine WC_region ?_; refine WL_val (rn_fld fd25_1 rfl) rfl ?_; refine WL_val (rn_load na3 rfl (hS.sat.cell (hcb1 1 _ rfl))) rfl ?_; refine WL_val (rn_assign (v := (.int .i64 x0.High)) rfl) rfl ?_; refine WL_nil ?_; refine WC_ret ?_
 have H : some x0.High = some r := H
 have H := Option.some.inj H; subst H
 exact ⟨rfl, hS.below⟩
set_option maxHeartbeats 1000000 in
theorem f100_ok {G0 : Gm} {w0 : World} (hS0 : Sat G0 w0) {x0 : TSpan}  {r : Int} (H : f100 x0 = some r) :
  Calls Try.prog 100 #[.agg #[.int .i64 x0.Low, .int .i64 x0.High]] w0 (RetV w0 (.int .i64 r)) := by
 have hS := Since.start hS0
 have hO : Owns G0 w0 w0.heap.size [] := Owns.nil (Nat.le_refl _)
 unfold f100 at H
 refine enter1 (N := 5) (shutV _ _) Try.func100 rfl rfl rfl rfl ?_; refine WC_seq ?_; refine WC_region ?_; refine WL_op rfl (OpP_newF (v := fun b => .pointer (some ⟨b, 0, none⟩)) (cs := [.int .i64 x0.Low, .int .i64 x0.High]) (e := 25) (rn_boxA rfl) hS.sat rfl (fun b1 G3 w2 hg hcb1 => ?_)); have hS := hS.grow hg; have hO := hO.grow hg
 have leG3 := hg.le
 refine WL_val (rn_assign (v := (.int .i64 0)) rfl) rfl ?_; refine WL_nil ?_; refine WC_seq ?_; refine WC_region ?_; refine WL_val (rn_fld fd25_0 rfl) rfl ?_; refine WL_val (rn_load na3 rfl (hS.sat.cell (hcb1 0 _ rfl))) rfl ?_; refine WL_val (rn_assign (v := (.int .i64 x0.Low)) rfl) rfl ?_; refine WL_nil ?_; refine WC_ret ?_
 have H : some x0.Low = some r := H
 have H := Option.some.inj H; subst H
 exact ⟨rfl, hS.below⟩
set_option maxHeartbeats 1000000 in
theorem f74_ok {G0 : Gm} {w0 : World} (hS0 : Sat G0 w0) {x0 : TShipStore} {a1 : Option Addr} {n1 c1 : Nat} {a2 : Option Addr} {n2 c2 : Nat} {a3 : Option Addr} {n3 c3 : Nat} {x1 : (List Int)} {a4 : Option Addr} {n4 c4 : Nat} {x2 : Int} (h1 : RSl RInt 1 G0 a1 n1 c1 x0.Stock) (h2 : RSl RTSpan 2 G0 a2 n2 c2 x0.Use) (h3 : RSl RTShipLot 3 G0 a3 n3 c3 x0.Lots) (h4 : RSl RInt 1 G0 a4 n4 c4 x1) {r : TStore} (H : f74 x0 x1 x2 = some r) :
  Calls Try.prog 74 #[.agg #[.slice a1 n1 c1, .slice a2 n2 c2, .int .i64 x0.Gap.Low, .int .i64 x0.Gap.High, .slice a3 n3 c3, .int .i64 x0.Hold], .slice a4 n4 c4, .int .i64 x2] w0 (RetG G0 w0 (fun G v => ∃ (rb0 : Nat) (ra0 : Option Addr) (rn0 rc0 : Nat) (ra1 : Option Addr) (rn1 rc1 : Nat) (ra2 : Option Addr) (rn2 rc2 : Nat) (ra3 : Option Addr) (rn3 rc3 : Nat) (ra4 : Option Addr) (rn4 rc4 : Nat) (ra5 : Option Addr) (rn5 rc5 : Nat) (ra6 : Option Addr) (rn6 rc6 : Nat), v = .pointer (some ⟨rb0, 0, none⟩) ∧ Cells G rb0 0 [.slice ra0 rn0 rc0, .slice ra1 rn1 rc1, .int .i64 r.ShipStore.Gap.Low, .int .i64 r.ShipStore.Gap.High, .slice ra2 rn2 rc2, .int .i64 r.ShipStore.Hold, .slice ra3 rn3 rc3, .slice ra4 rn4 rc4, .slice ra5 rn5 rc5, .slice ra6 rn6 rc6] ∧ RSl RInt 1 G ra0 rn0 rc0 r.ShipStore.Stock ∧ RSl RTSpan 2 G ra1 rn1 rc1 r.ShipStore.Use ∧ RSl RTShipLot 3 G ra2 rn2 rc2 r.ShipStore.Lots ∧ RSl RInt 1 G ra3 rn3 rc3 r.load ∧ RSl RInt 1 G ra4 rn4 rc4 r.truth.Uses ∧ RSl RInt 1 G ra5 rn5 rc5 r.truth.Gaps ∧ RSl (RSlice RInt 1) 1 G ra6 rn6 rc6 r.truth.Goods)) := by
 have hS := Since.start hS0
 have hO : Owns G0 w0 w0.heap.size [] := Owns.nil (Nat.le_refl _)
 unfold f74 at H
 refine enter1 (N := 11) (shutG _ _ _) Try.func74 rfl rfl rfl rfl ?_; refine WC_seq ?_; refine WC_region ?_; refine WL_op rfl (OpP_newF (v := fun b => .pointer (some ⟨b, 0, none⟩)) (cs := [.slice a1 n1 c1, .slice a2 n2 c2, .int .i64 x0.Gap.Low, .int .i64 x0.Gap.High, .slice a3 n3 c3, .int .i64 x0.Hold]) (e := 42) (rn_boxA rfl) hS.sat rfl (fun b5 G7 w6 hg hcb5 => ?_)); have hS := hS.grow hg; have hO := hO.grow hg
 have leG7 := hg.le
 refine WL_val (rn_assign (v := (.pointer none)) rfl) rfl ?_; refine WL_nil ?_; refine WC_seq ?_; refine WC_region ?_; refine WL_val (rn_loadA ag42 (cs := [.slice a1 n1 c1, .slice a2 n2 c2, .int .i64 x0.Gap.Low, .int .i64 x0.Gap.High, .slice a3 n3 c3, .int .i64 x0.Hold]) rfl rfl (fun j v hj => hS.sat.cell (hcb5.drop_take 0 6 j v hj))) rfl ?_; refine WL_val (rn_move (v := (.slice a4 n4 c4)) rfl) rfl ?_; refine WL_val (rn_move (v := (.int .i64 x2)) rfl) rfl ?_
 have hF8 : FnOk135 G7 99 [] [] (fun (z0 : TSpan) => f99 z0) := ⟨cb99, fun G1 W1 hl hw z0 r1 H1 => f99_ok (x0 := z0) hw  H1⟩
 have hF9 : FnOk135 G7 100 [] [] (fun (z0 : TSpan) => f100 z0) := ⟨cb100, fun G1 W1 hl hw z0 r1 H1 => f100_ok (x0 := z0) hw  H1⟩
 obtain ⟨y10, hy10, H⟩ := bnd H; refine WL_op rfl (OpP_callG cb98 (f98_ok (x0 := x0) (x1 := x1) (x2 := x2) (x3 := (fun (z0 : TSpan) => f99 z0)) (x4 := (fun (z0 : TSpan) => f100 z0)) hS.sat (h1.mono RInt_mono leG7) (h2.mono RTSpan_mono leG7) (h3.mono RTShipLot_mono leG7) (h4.mono RInt_mono leG7) hF8 hF9 hy10) rfl rfl (fun vy10 G12 w11 hg hvy10 => ?_)); obtain ⟨b13, a14, n14, c14, a15, n15, c15, a16, n16, c16, a17, n17, c17, a18, n18, c18, a19, n19, c19, a20, n20, c20, ⟨⟩, hcb13, h14, h15, h16, h17, h18, h19, h20⟩ := hvy10; have hS := hS.grow hg; have hO := hO.grow hg
 have leG12 := hg.le
 refine WL_val (rn_assign (v := (.pointer (some ⟨b13, 0, none⟩))) rfl) rfl ?_; refine WL_nil ?_; refine WC_ret ?_
 have H : some y10 = some r := H
 have H := Option.some.inj H; subst H
 exact ⟨_, _, rfl, hS.toGrow, _, _, _, _, _, _, _, _, _, _, _, _, _, _, _, _, _, _, _, _, _, _, rfl, hcb13, h14, h15, h16, h17, h18, h19, h20⟩
set_option maxHeartbeats 1000000 in
theorem f75_ok {G0 : Gm} {w0 : World} (hS0 : Sat G0 w0) {x0 : TShipStore} {a1 : Option Addr} {n1 c1 : Nat} {a2 : Option Addr} {n2 c2 : Nat} {a3 : Option Addr} {n3 c3 : Nat} {x1 : (List Int)} {a4 : Option Addr} {n4 c4 : Nat} {x2 : Int} (h1 : RSl RInt 1 G0 a1 n1 c1 x0.Stock) (h2 : RSl RTSpan 2 G0 a2 n2 c2 x0.Use) (h3 : RSl RTShipLot 3 G0 a3 n3 c3 x0.Lots) (h4 : RSl RInt 1 G0 a4 n4 c4 x1) {r : TStore} (H : f75 x0 x1 x2 = some r) :
  Calls Try.prog 75 #[.agg #[.slice a1 n1 c1, .slice a2 n2 c2, .int .i64 x0.Gap.Low, .int .i64 x0.Gap.High, .slice a3 n3 c3, .int .i64 x0.Hold], .slice a4 n4 c4, .int .i64 x2] w0 (RetG G0 w0 (fun G v => ∃ (rb0 : Nat) (ra0 : Option Addr) (rn0 rc0 : Nat) (ra1 : Option Addr) (rn1 rc1 : Nat) (ra2 : Option Addr) (rn2 rc2 : Nat) (ra3 : Option Addr) (rn3 rc3 : Nat) (ra4 : Option Addr) (rn4 rc4 : Nat) (ra5 : Option Addr) (rn5 rc5 : Nat) (ra6 : Option Addr) (rn6 rc6 : Nat), v = .pointer (some ⟨rb0, 0, none⟩) ∧ Cells G rb0 0 [.slice ra0 rn0 rc0, .slice ra1 rn1 rc1, .int .i64 r.ShipStore.Gap.Low, .int .i64 r.ShipStore.Gap.High, .slice ra2 rn2 rc2, .int .i64 r.ShipStore.Hold, .slice ra3 rn3 rc3, .slice ra4 rn4 rc4, .slice ra5 rn5 rc5, .slice ra6 rn6 rc6] ∧ RSl RInt 1 G ra0 rn0 rc0 r.ShipStore.Stock ∧ RSl RTSpan 2 G ra1 rn1 rc1 r.ShipStore.Use ∧ RSl RTShipLot 3 G ra2 rn2 rc2 r.ShipStore.Lots ∧ RSl RInt 1 G ra3 rn3 rc3 r.load ∧ RSl RInt 1 G ra4 rn4 rc4 r.truth.Uses ∧ RSl RInt 1 G ra5 rn5 rc5 r.truth.Gaps ∧ RSl (RSlice RInt 1) 1 G ra6 rn6 rc6 r.truth.Goods)) := by
 have hS := Since.start hS0
 have hO : Owns G0 w0 w0.heap.size [] := Owns.nil (Nat.le_refl _)
 unfold f75 at H
 refine enter1 (N := 11) (shutG _ _ _) Try.func75 rfl rfl rfl rfl ?_; refine WC_seq ?_; refine WC_region ?_; refine WL_op rfl (OpP_newF (v := fun b => .pointer (some ⟨b, 0, none⟩)) (cs := [.slice a1 n1 c1, .slice a2 n2 c2, .int .i64 x0.Gap.Low, .int .i64 x0.Gap.High, .slice a3 n3 c3, .int .i64 x0.Hold]) (e := 42) (rn_boxA rfl) hS.sat rfl (fun b5 G7 w6 hg hcb5 => ?_)); have hS := hS.grow hg; have hO := hO.grow hg
 have leG7 := hg.le
 refine WL_val (rn_assign (v := (.pointer none)) rfl) rfl ?_; refine WL_nil ?_; refine WC_seq ?_; refine WC_region ?_; refine WL_val (rn_loadA ag42 (cs := [.slice a1 n1 c1, .slice a2 n2 c2, .int .i64 x0.Gap.Low, .int .i64 x0.Gap.High, .slice a3 n3 c3, .int .i64 x0.Hold]) rfl rfl (fun j v hj => hS.sat.cell (hcb5.drop_take 0 6 j v hj))) rfl ?_; refine WL_val (rn_move (v := (.slice a4 n4 c4)) rfl) rfl ?_; refine WL_val (rn_move (v := (.int .i64 x2)) rfl) rfl ?_
 have hF8 : FnOk135 G7 100 [] [] (fun (z0 : TSpan) => f100 z0) := ⟨cb100, fun G1 W1 hl hw z0 r1 H1 => f100_ok (x0 := z0) hw  H1⟩
 have hF9 : FnOk135 G7 99 [] [] (fun (z0 : TSpan) => f99 z0) := ⟨cb99, fun G1 W1 hl hw z0 r1 H1 => f99_ok (x0 := z0) hw  H1⟩
 obtain ⟨y10, hy10, H⟩ := bnd H; refine WL_op rfl (OpP_callG cb98 (f98_ok (x0 := x0) (x1 := x1) (x2 := x2) (x3 := (fun (z0 : TSpan) => f100 z0)) (x4 := (fun (z0 : TSpan) => f99 z0)) hS.sat (h1.mono RInt_mono leG7) (h2.mono RTSpan_mono leG7) (h3.mono RTShipLot_mono leG7) (h4.mono RInt_mono leG7) hF8 hF9 hy10) rfl rfl (fun vy10 G12 w11 hg hvy10 => ?_)); obtain ⟨b13, a14, n14, c14, a15, n15, c15, a16, n16, c16, a17, n17, c17, a18, n18, c18, a19, n19, c19, a20, n20, c20, ⟨⟩, hcb13, h14, h15, h16, h17, h18, h19, h20⟩ := hvy10; have hS := hS.grow hg; have hO := hO.grow hg
 have leG12 := hg.le
 refine WL_val (rn_assign (v := (.pointer (some ⟨b13, 0, none⟩))) rfl) rfl ?_; refine WL_nil ?_; refine WC_ret ?_
 have H : some y10 = some r := H
 have H := Option.some.inj H; subst H
 exact ⟨_, _, rfl, hS.toGrow, _, _, _, _, _, _, _, _, _, _, _, _, _, _, _, _, _, _, _, _, _, _, rfl, hcb13, h14, h15, h16, h17, h18, h19, h20⟩
set_option maxHeartbeats 1000000 in
theorem f30_ok {G0 : Gm} {w0 : World} (hS0 : Sat G0 w0) {x0 : TShipStore} {a1 : Option Addr} {n1 c1 : Nat} {a2 : Option Addr} {n2 c2 : Nat} {a3 : Option Addr} {n3 c3 : Nat} {x1 : (List Int)} {a4 : Option Addr} {n4 c4 : Nat} {x2 : Int} (h1 : RSl RInt 1 G0 a1 n1 c1 x0.Stock) (h2 : RSl RTSpan 2 G0 a2 n2 c2 x0.Use) (h3 : RSl RTShipLot 3 G0 a3 n3 c3 x0.Lots) (h4 : RSl RInt 1 G0 a4 n4 c4 x1) {r : (List TShipWant) × Int} (H : f30 x0 x1 x2 = some r) :
  Calls Try.prog 30 #[.agg #[.slice a1 n1 c1, .slice a2 n2 c2, .int .i64 x0.Gap.Low, .int .i64 x0.Gap.High, .slice a3 n3 c3, .int .i64 x0.Hold], .slice a4 n4 c4, .int .i64 x2] w0 (RetG G0 w0 (fun G v => ∃ (ra0 : Option Addr) (rn0 rc0 : Nat), v = .tuple #[.slice ra0 rn0 rc0, .int .i64 r.2] ∧ RSl RTShipWant 2 G ra0 rn0 rc0 r.1)) := by
 have hS := Since.start hS0
 have hO : Owns G0 w0 w0.heap.size [] := Owns.nil (Nat.le_refl _)
 unfold f30 at H
 refine enter2 (N := 66) (shutG _ _ _) Try.func30 rfl rfl rfl rfl ?_; refine WC_seq ?_; refine WC_region ?_; refine WL_op rfl (OpP_newF (v := fun b => .pointer (some ⟨b, 0, none⟩)) (cs := [.slice a1 n1 c1, .slice a2 n2 c2, .int .i64 x0.Gap.Low, .int .i64 x0.Gap.High, .slice a3 n3 c3, .int .i64 x0.Hold]) (e := 42) (rn_boxA rfl) hS.sat rfl (fun b5 G7 w6 hg hcb5 => ?_)); have hS := hS.grow hg; have hO := hO.grow hg
 have leG7 := hg.le
 refine WL_val (rn_assign (v := (.slice none 0 0)) rfl) rfl ?_; refine WL_val (rn_assign (v := (.int .i64 0)) rfl) rfl ?_; refine WL_nil ?_; refine WC_seq ?_; refine WC_seq ?_; obtain ⟨q8, hq8, H⟩ := bnd H; refine WC_cut (fun F w => ∃ (Fb : Fr) (G : Gm), F = upds Fb [(1, .slice a4 n4 c4), (2, .int .i64 x2), (3, .pointer (some ⟨b5, 0, none⟩)), (29, .bool q8)] ∧ Gle G7 G ∧ Since w0.heap.size G0 w0 G w ∧ Owns G w w0.heap.size []) ?_ ?_
 ·have Hoq8 := H; have H := hq8; refine WC_region ?_; refine WL_val (rn_loadA ag42 (cs := [.slice a1 n1 c1, .slice a2 n2 c2, .int .i64 x0.Gap.Low, .int .i64 x0.Gap.High, .slice a3 n3 c3, .int .i64 x0.Hold]) rfl rfl (fun j v hj => hS.sat.cell (hcb5.drop_take 0 6 j v hj))) rfl ?_; obtain ⟨y9, hy9, H⟩ := bnd H; refine WL_op rfl (OpP_callV cb68 (f68_ok (x0 := x0) hS.sat (h1.mono RInt_mono leG7) (h2.mono RTSpan_mono leG7) (h3.mono RTShipLot_mono leG7) hy9) rfl rfl (fun w10 hb => ?_)); have hS := hS.keep hb; have hO := hO.below hb; refine WL_val (rn_not rfl) rfl ?_; refine WL_val (rn_move (v := (.bool (!y9))) rfl) rfl ?_
  rcases bcases (!y9) with hb11 | hb11
  ·have H := ifT hb11 H; refine WL_guardN rfl hb11 rfl rfl rfl ?_; refine WL_guardN rfl hb11 rfl rfl rfl ?_; refine WL_guardN rfl hb11 rfl rfl rfl ?_; refine WL_guardN rfl hb11 rfl rfl rfl ?_; refine WL_val (rn_pickT (v := (.bool true)) rfl hb11 rfl) rfl ?_; refine WL_val (rn_move (v := (.bool true)) rfl) rfl ?_; refine WL_guardN rfl rfl rfl rfl rfl ?_; refine WL_guardN rfl rfl rfl rfl rfl ?_; refine WL_guardN rfl rfl rfl rfl rfl ?_; refine WL_val (rn_pickT (v := (.bool true)) rfl rfl rfl) rfl ?_; refine WL_nil ?_
   have hO : Owns G7 w10 w0.heap.size ([]) := hO
   have H := Option.some.inj H; subst H
   exact ⟨_, G7, upds_self _ _ ⟨rfl, rfl, rfl, rfl, trivial⟩, Gle.refl _, hS, hO⟩
  ·have H := ifF hb11 H; refine WL_guardY rfl hb11 rfl rfl ?_; refine WL_val (rn_loadA ag42 (cs := [.slice a1 n1 c1, .slice a2 n2 c2, .int .i64 x0.Gap.Low, .int .i64 x0.Gap.High, .slice a3 n3 c3, .int .i64 x0.Hold]) rfl rfl (fun j v hj => hS.sat.cell (hcb5.drop_take 0 6 j v hj))) rfl ?_; refine WL_guardY rfl hb11 rfl rfl ?_; refine WL_val (rn_move (v := (.slice a4 n4 c4)) rfl) rfl ?_; refine WL_guardY rfl hb11 rfl rfl ?_; obtain ⟨y12, hy12, H⟩ := bnd H; refine WL_op rfl (OpP_callV cb69 (f69_ok (x0 := x0) (x1 := x1) hS.sat (h1.mono RInt_mono leG7) (h2.mono RTSpan_mono leG7) (h3.mono RTShipLot_mono leG7) (h4.mono RInt_mono leG7) hy12) rfl rfl (fun w13 hb => ?_)); have hS := hS.keep hb; have hO := hO.below hb; refine WL_guardY rfl hb11 rfl rfl ?_; refine WL_val (rn_not rfl) rfl ?_; refine WL_val (rn_pickF (v := (.bool (!y12))) rfl hb11 rfl) rfl ?_; refine WL_val (rn_move (v := (.bool (!y12))) rfl) rfl ?_
   rcases bcases (!y12) with hb14 | hb14
   ·have H := ifT hb14 H; refine WL_guardN rfl hb14 rfl rfl rfl ?_; refine WL_guardN rfl hb14 rfl rfl rfl ?_; refine WL_guardN rfl hb14 rfl rfl rfl ?_; refine WL_val (rn_pickT (v := (.bool true)) rfl hb14 rfl) rfl ?_; refine WL_nil ?_
    have hO : Owns G7 w13 w0.heap.size ([]) := hO
    have H := Option.some.inj H; subst H
    exact ⟨_, G7, upds_self _ _ ⟨rfl, rfl, rfl, rfl, trivial⟩, Gle.refl _, hS, hO⟩
   ·have H := ifF hb14 H; refine WL_guardY rfl hb14 rfl rfl ?_; refine WL_val (rn_move (v := (.int .i64 x2)) rfl) rfl ?_; refine WL_guardY rfl hb14 rfl rfl ?_; obtain ⟨y15, hy15, H⟩ := bnd H; refine WL_op rfl (OpP_callV cb70 (f70_ok (x0 := x2) hS.sat  hy15) rfl rfl (fun w16 hb => ?_)); have hS := hS.keep hb; have hO := hO.below hb; refine WL_guardY rfl hb14 rfl rfl ?_; refine WL_val (rn_not rfl) rfl ?_; refine WL_val (rn_pickF (v := (.bool (!y15))) rfl hb14 rfl) rfl ?_; refine WL_nil ?_
    have hO : Owns G7 w16 w0.heap.size ([]) := hO
    have H := Option.some.inj H; subst H
    exact ⟨_, G7, upds_self _ _ ⟨rfl, rfl, rfl, rfl, trivial⟩, Gle.refl _, hS, hO⟩
 ·rintro F w17 ⟨Fb, G18, rfl, leG18, hS, hO⟩
  refine WC_cond rfl (fun hb19 => ?_) (fun hb19 => ?_)
  ·have H := ifT hb19 H; refine WC_seq ?_; refine WC_region ?_; refine WL_val (rn_assign (v := (.slice none 0 0)) rfl) rfl ?_; refine WL_val (rn_assign (v := (.int .i64 2)) rfl) rfl ?_; refine WL_nil ?_; refine WC_ret ?_
   have H : some ([], 2) = some r := H
   have H := Option.some.inj H; subst H
   exact ⟨_, _, rfl, hS.toGrow, _, _, _, rfl, (RSl.nil RTShipWant 2 G18 none)⟩
  ·have H := ifF hb19 H; refine WC_skip ?_; refine WC_seq ?_; have hS := hS.keep (below_drew _); have hO := hO.below (below_drew _)
   refine WC_regionD mixedO (fun _ w => Sat G18 w ∧ True) (.fl 0 (.fl 1 (.fl 2 (.fl 4 (.fl 5 (.fl 6 (.on 3 (.on 7 (.on 8 (.on 9 .nil)))))))))) (by kernel_rfl) rfl (by kernel_rfl) (fun _ => ⟨hS.sat, trivial⟩) ?_
   refine WD_val rfl (fun w hw => rn_loadA ag42 (cs := [.slice a1 n1 c1, .slice a2 n2 c2, .int .i64 x0.Gap.Low, .int .i64 x0.Gap.High, .slice a3 n3 c3, .int .i64 x0.Hold]) rfl rfl (fun j v hj => (hw.1.le leG18).cell (hcb5.drop_take 0 6 j v hj))) rfl ?_; refine WD_val rfl (fun w hw => rn_move (v := (.slice a4 n4 c4)) rfl) rfl ?_; refine WD_val rfl (fun w hw => rn_move (v := (.int .i64 x2)) rfl) rfl ?_; refine WD_val rfl (fun w hw => rn_loadA ag42 (cs := [.slice a1 n1 c1, .slice a2 n2 c2, .int .i64 x0.Gap.Low, .int .i64 x0.Gap.High, .slice a3 n3 c3, .int .i64 x0.Hold]) rfl rfl (fun j v hj => (hw.1.le leG18).cell (hcb5.drop_take 0 6 j v hj))) rfl ?_; refine WD_val rfl (fun w hw => rn_move (v := (.slice a4 n4 c4)) rfl) rfl ?_; refine WD_val rfl (fun w hw => rn_move (v := (.int .i64 x2)) rfl) rfl ?_; obtain ⟨y20, hy20, H⟩ := bnd H
   have l0_2 := leG7.trans leG18
   refine WD_op rfl rfl (OpP_callG cb74 (f74_ok (x0 := x0) (x1 := x1) (x2 := x2) hS.sat (h1.mono RInt_mono l0_2) (h2.mono RTSpan_mono l0_2) (h3.mono RTShipLot_mono l0_2) (h4.mono RInt_mono l0_2) hy20) rfl rfl (fun vy20 G22 w21 hg hvy20 => ?_)); obtain ⟨b23, a24, n24, c24, a25, n25, c25, a26, n26, c26, a27, n27, c27, a28, n28, c28, a29, n29, c29, a30, n30, c30, ⟨⟩, hcb23, h24, h25, h26, h27, h28, h29, h30⟩ := hvy20; have hS := hS.grow hg; have hO := hO.grow hg
   have leG22 := hg.le
   refine ⟨fun _ _ => ⟨hS.sat.le leG22, trivial⟩, ?_⟩; obtain ⟨y31, hy31, H⟩ := bnd H
   have l0_3 := l0_2.trans leG22
   refine WD_op rfl rfl (OpP_callG cb75 (f75_ok (x0 := x0) (x1 := x1) (x2 := x2) hS.sat (h1.mono RInt_mono l0_3) (h2.mono RTSpan_mono l0_3) (h3.mono RTShipLot_mono l0_3) (h4.mono RInt_mono l0_3) hy31) rfl rfl (fun vy31 G33 w32 hg hvy31 => ?_)); obtain ⟨b34, a35, n35, c35, a36, n36, c36, a37, n37, c37, a38, n38, c38, a39, n39, c39, a40, n40, c40, a41, n41, c41, ⟨⟩, hcb34, h35, h36, h37, h38, h39, h40, h41⟩ := hvy31; have hS := hS.grow hg; have hO := hO.grow hg
   have leG33 := hg.le
   refine ⟨fun _ h => noneed (by kernel_rfl) h, ?_⟩
   refine WD_op rfl rfl (OpP_val (rn_assign (v := (.pointer (some ⟨b23, 0, none⟩))) rfl) rfl ?_)
   refine ⟨fun _ h => noneed (by kernel_rfl) h, ?_⟩
   refine WD_op rfl rfl (OpP_val (rn_assign (v := (.pointer (some ⟨b34, 0, none⟩))) rfl) rfl ?_)
   refine ⟨fun _ h => noneed (by kernel_rfl) h, ?_⟩
   refine WD_nil ?_; refine WC_seq ?_; refine WC_region ?_; refine WL_val (rn_assign (v := (.slice none 0 0)) rfl) rfl ?_; refine WL_nil ?_; refine WC_seq ?_; refine WC_seq ?_; refine WC_region ?_; refine WL_val (rn_fld fd42_0 rfl) rfl ?_
   have l1_4 := (leG18.trans leG22).trans leG33
   refine WL_val (rn_load na22 rfl ((hS.sat.le l1_4).cell (hcb5 0 _ rfl))) rfl ?_
   have l0_4 := l0_3.trans leG33
   refine WL_val (rn_len sl22 rfl rfl (h1.mono RInt_mono l0_4).1) rfl ?_; refine WL_val (rn_move (v := (.int .i64 0)) rfl) rfl ?_; refine WL_nil ?_; have hO := hO.cons_nil 59 2; obtain ⟨q45, hq45, H⟩ := bnd H; refine WC_cut (fun F w => ∃ (Fb : Fr) (G : Gm) (aq45_0 : Option Addr) (nq45_0 cq45_0 : Nat) (claq45_0 : List Value), F = upds Fb [(10, .slice aq45_0 nq45_0 cq45_0)] ∧ Gle G33 G ∧ Since w0.heap.size G0 w0 G w ∧ Owns G w w0.heap.size [⟨59, 2, nq45_0, .slice aq45_0 nq45_0 cq45_0, claq45_0⟩] ∧ nq45_0 = q45.length ∧ Rd RTShipWant 2 G claq45_0 q45) ?_ ?_
   ·refine WC_block (WC_loop hq45 (fun s43 F w => ∃ (Fb : Fr) (G : Gm) (as43_0 : Option Addr) (ns43_0 cs43_0 : Nat) (clas43_0 : List Value), F = upds Fb [(2, .int .i64 x2), (8, .pointer (some ⟨b23, 0, none⟩)), (9, .pointer (some ⟨b34, 0, none⟩)), (10, .slice as43_0 ns43_0 cs43_0), (40, .int .i64 (x0.Stock.length : Int)), (41, .int .i64 s43.2)] ∧ Gle G33 G ∧ Since w0.heap.size G0 w0 G w ∧ Owns G w w0.heap.size [⟨59, 2, ns43_0, .slice as43_0 ns43_0 cs43_0, clas43_0⟩] ∧ ns43_0 = s43.1.length ∧ Rd RTShipWant 2 G clas43_0 s43.1) ?_ ?_)
    ·have hO : Owns G33 w32 w0.heap.size ([⟨59, 2, 0, .slice none 0 0, []⟩]) := hO
     exact ⟨_, G33, none, 0, 0, [], upds_self _ _ ⟨rfl, rfl, rfl, rfl, rfl, rfl, trivial⟩, Gle.refl _, hS, hO, rfl, (Rd.nil RTShipWant 2 G33)⟩
    ·rintro s43 F w47 t46 ⟨Fb, G48, as43_0, ns43_0, cs43_0, clas43_0, rfl, leG48, hS, hO, hnhs43_0, hs43_0⟩
     intro H1 hqq45
     have Hoq45 := H; have H := H1
     unfold f30_b0 at H
     refine WC_seq ?_; refine WC_region ?_; refine WL_val (rn_lss rfl rfl) rfl ?_; refine WL_nil ?_; refine WC_seq ?_; refine WC_cond rfl (fun hb49 => ?_) (fun hb49 => ?_)
     ·have H := ifT hb49 H; refine WC_skip ?_; refine WC_seq ?_; refine WC_block ?_; refine WC_seq ?_; refine WC_region ?_; refine WL_val (rn_move (v := (.int .i64 s43.2)) rfl) rfl ?_; refine WL_val (rn_assign (v := (.int .i64 s43.2)) rfl) rfl ?_; refine WL_nil ?_; refine WC_seq ?_; refine WC_region ?_; refine WL_val (rn_move (v := (.pointer (some ⟨b23, 0, none⟩))) rfl) rfl ?_; refine WL_val (rn_move (v := (.int .i64 s43.2)) rfl) rfl ?_; refine WL_val (rn_move (v := (.int .i64 x2)) rfl) rfl ?_
      have l3_5 := leG33.trans leG48
      obtain ⟨y50, hy50, H⟩ := bnd H
      have hx52 := f72_ok (x0 := y20) (x1 := s43.2) (x2 := x2) hS.sat (hcb23.mono l3_5) (h24.mono RInt_mono l3_5) (h25.mono RTSpan_mono l3_5) (h26.mono RTShipLot_mono l3_5) (h27.mono RInt_mono l3_5) (h28.mono RInt_mono l3_5) (h29.mono RInt_mono l3_5) (h30.mono (RSlice_mono RInt_mono) l3_5) hy50
      refine WL_op rfl (OpP_callV cb72 hx52 rfl rfl (fun w51 hb => ?_)); have hS := hS.keep hb; have hO := hO.below hb; refine WL_val (rn_move (v := (.tuple #[.int .i64 y50.1, .int .i64 y50.2])) rfl) rfl ?_; refine WL_val (rn_extract (v := (.int .i64 y50.1)) rfl rfl) rfl ?_; refine WL_val (rn_extract (v := (.int .i64 y50.2)) rfl rfl) rfl ?_; refine WL_val (rn_assign (v := (.int .i64 y50.1)) rfl) rfl ?_; refine WL_val (rn_assign (v := (.int .i64 y50.2)) rfl) rfl ?_; refine WL_nil ?_; refine WC_seq ?_; refine WC_region ?_; refine WL_val (rn_move (v := (.pointer (some ⟨b34, 0, none⟩))) rfl) rfl ?_; refine WL_val (rn_move (v := (.int .i64 s43.2)) rfl) rfl ?_; refine WL_val (rn_move (v := (.int .i64 x2)) rfl) rfl ?_; obtain ⟨y53, hy53, H⟩ := bnd H
      have hx55 := f72_ok (x0 := y31) (x1 := s43.2) (x2 := x2) hS.sat (hcb34.mono leG48) (h35.mono RInt_mono leG48) (h36.mono RTSpan_mono leG48) (h37.mono RTShipLot_mono leG48) (h38.mono RInt_mono leG48) (h39.mono RInt_mono leG48) (h40.mono RInt_mono leG48) (h41.mono (RSlice_mono RInt_mono) leG48) hy53
      refine WL_op rfl (OpP_callV cb72 hx55 rfl rfl (fun w54 hb => ?_)); have hS := hS.keep hb; have hO := hO.below hb; refine WL_val (rn_move (v := (.tuple #[.int .i64 y53.1, .int .i64 y53.2])) rfl) rfl ?_; refine WL_val (rn_extract (v := (.int .i64 y53.1)) rfl rfl) rfl ?_; refine WL_val (rn_extract (v := (.int .i64 y53.2)) rfl rfl) rfl ?_; refine WL_val (rn_assign (v := (.int .i64 y53.1)) rfl) rfl ?_; refine WL_val (rn_assign (v := (.int .i64 y53.2)) rfl) rfl ?_; refine WL_nil ?_; refine WC_region ?_; refine WL_val (rn_move (v := (.slice as43_0 ns43_0 cs43_0)) rfl) rfl ?_; refine WL_val (rn_move (v := (.int .i64 y50.1)) rfl) rfl ?_; refine WL_val (rn_move (v := (.int .i64 y53.1)) rfl) rfl ?_
      refine WL_val (v := (.agg #[.int .i64 y50.1, .int .i64 y53.1])) (by kernel_rfl) rfl ?_
      refine WL_op rfl (OpP_newF (v := fun b => .slice (some ⟨b, 0, none⟩) 1 1) (cs := [.int .i64 y50.1, .int .i64 y53.1]) (e := 59) (by kernel_rfl) hS.sat rfl (fun b56 G58 w57 hg hcb56 => ?_))
      have hS := hS.grow hg; have hO := hO.grow hg
      have leG58 := hg.le
      have hfb56 : RSl RTShipWant 2 G58 (some ⟨b56, 0, none⟩) 1 1 [(⟨y50.1, y53.1⟩ : TShipWant)] := RSl.of_rd hcb56 (Rd.cons (c := [.int .i64 y50.1, .int .i64 y53.1]) rfl rfl (Rd.nil RTShipWant 2 _)) rfl (by decide)
      obtain ⟨y59, hy59, H⟩ := bnd H; refine WL_op rfl (OpP_append (k := 0) sl55 RTShipWant_one hS hO rfl hnhs43_0 (hs43_0.mono RTShipWant_mono leG58) hfb56 hy59 rfl rfl rfl rfl rfl (fun aw60 cw60 w60 clw60 hS hO hrw60 => ?_))
      have hO : Owns G58 w60 w0.heap.size ([⟨59, 2, y59.length, .slice aw60 y59.length cw60, clw60⟩]) := hO
      refine WL_val (rn_assign (v := (.slice aw60 y59.length cw60)) rfl) rfl ?_; refine WL_nil ?_; refine WC_region ?_; refine WL_val (rn_add rfl rfl) rfl ?_; refine WL_val (rn_move (v := (.int .i64 (IntKind.i64.wrap (s43.2 + 1)))) rfl) rfl ?_; refine WL_nil ?_
      have hO : Owns G58 w60 w0.heap.size ([⟨59, 2, y59.length, .slice aw60 y59.length cw60, clw60⟩]) := hO
      have H := Option.some.inj H; subst H; refine ⟨_, rfl, ?_⟩
      have l4_6 := leG48.trans leG58
      exact ⟨_, G58, aw60, y59.length, cw60, clw60, upds_self _ _ ⟨rfl, rfl, rfl, rfl, rfl, rfl, trivial⟩, l4_6, hS, hO, rfl, hrw60⟩
     ·have H := ifF hb49 H; refine WC_exit rfl ?_
      have hO : Owns G48 w47 w0.heap.size ([⟨59, 2, ns43_0, .slice as43_0 ns43_0 cs43_0, clas43_0⟩]) := hO
      have H := Option.some.inj H; subst H
      have hres := hqq45 _ rfl
      subst hres
      exact ⟨_, G48, as43_0, ns43_0, cs43_0, clas43_0, upds_self _ _ ⟨rfl, trivial⟩, leG48, hS, hO, hnhs43_0, hs43_0⟩
   ·rintro F w61 ⟨Fb, G62, aq45_0, nq45_0, cq45_0, claq45_0, rfl, leG62, hS, hO, hnhq45_0, hq45_0⟩
    refine WC_seq ?_; refine WC_region ?_; refine WL_val (rn_move (v := (.slice aq45_0 nq45_0 cq45_0)) rfl) rfl ?_; refine WL_val (rn_assign (v := (.slice aq45_0 nq45_0 cq45_0)) rfl) rfl ?_; refine WL_val (rn_assign (v := (.int .i64 0)) rfl) rfl ?_; refine WL_nil ?_; refine WC_ret ?_; obtain ⟨G63, leG63, hS, hO, hfG63⟩ := hO.freezeS hS RTShipWant_mono (k := 0) rfl hq45_0 hnhq45_0
    have H : some (q45, 0) = some r := H
    have H := Option.some.inj H; subst H
    exact ⟨_, _, rfl, hS.toGrow, _, _, _, rfl, hfG63⟩
set_option maxHeartbeats 1000000 in
theorem f102_ok {G0 : Gm} {w0 : World} (hS0 : Sat G0 w0) {x0 : TStore} {bq0 : Nat} {a1 : Option Addr} {n1 c1 : Nat} {a2 : Option Addr} {n2 c2 : Nat} {a3 : Option Addr} {n3 c3 : Nat} {a4 : Option Addr} {n4 c4 : Nat} {a5 : Option Addr} {n5 c5 : Nat} {a6 : Option Addr} {n6 c6 : Nat} {a7 : Option Addr} {n7 c7 : Nat} {x1 : Int} {x2 : Int} (hcq0 : Cells G0 bq0 0 [.slice a1 n1 c1, .slice a2 n2 c2, .int .i64 x0.ShipStore.Gap.Low, .int .i64 x0.ShipStore.Gap.High, .slice a3 n3 c3, .int .i64 x0.ShipStore.Hold, .slice a4 n4 c4, .slice a5 n5 c5, .slice a6 n6 c6, .slice a7 n7 c7]) (h1 : RSl RInt 1 G0 a1 n1 c1 x0.ShipStore.Stock) (h2 : RSl RTSpan 2 G0 a2 n2 c2 x0.ShipStore.Use) (h3 : RSl RTShipLot 3 G0 a3 n3 c3 x0.ShipStore.Lots) (h4 : RSl RInt 1 G0 a4 n4 c4 x0.load) (h5 : RSl RInt 1 G0 a5 n5 c5 x0.truth.Uses) (h6 : RSl RInt 1 G0 a6 n6 c6 x0.truth.Gaps) (h7 : RSl (RSlice RInt 1) 1 G0 a7 n7 c7 x0.truth.Goods) {r : (Unit) ⊕ Int} (H : f102 x0 x1 x2 = some r) :
  Calls Try.prog 102 #[.pointer (some ⟨bq0, 0, none⟩), .int .i64 x1, .int .i64 x2] w0 (RetE w0 (Sum.elim (fun v : Unit => Ending.returned (.tuple #[])) (fun x : Int => Ending.panicked [{ v := .iface 137 (.agg #[.int .i64 x]), recovered := false }]) r)) := by
 have hS := Since.start hS0
 have hO : Owns G0 w0 w0.heap.size [] := Owns.nil (Nat.le_refl _)
 unfold f102 at H
 refine enterE0 (N := 20) Try.func102 rfl rfl rfl rfl ?_; refine WC_seq ?_; refine WC_region ?_; refine WL_val (rn_move (v := (.pointer (some ⟨bq0, 0, none⟩))) rfl) rfl ?_; refine WL_val (rn_move (v := (.int .i64 x1)) rfl) rfl ?_; refine WL_val (rn_move (v := (.int .i64 x2)) rfl) rfl ?_; obtain ⟨y8, hy8, H⟩ := bnd H
 have hx10 := f72_ok (x0 := x0) (x1 := x1) (x2 := x2) hS.sat hcq0 h1 h2 h3 h4 h5 h6 h7 hy8
 refine WL_op rfl (OpP_callV cb72 hx10 rfl rfl (fun w9 hb => ?_)); have hS := hS.keep hb; have hO := hO.below hb; refine WL_val (rn_move (v := (.tuple #[.int .i64 y8.1, .int .i64 y8.2])) rfl) rfl ?_; refine WL_val (rn_extract (v := (.int .i64 y8.1)) rfl rfl) rfl ?_; refine WL_val (rn_extract (v := (.int .i64 y8.2)) rfl rfl) rfl ?_; refine WL_val (rn_assign (v := (.int .i64 y8.1)) rfl) rfl ?_; refine WL_val (rn_assign (v := (.int .i64 y8.2)) rfl) rfl ?_; refine WL_nil ?_; refine WC_seq ?_; refine WC_region ?_; refine WL_val (rn_move (v := (.int .i64 y8.1)) rfl) rfl ?_; refine WL_val (rn_geq rfl rfl) rfl ?_; refine WL_nil ?_; refine WC_cond rfl (fun hb11 => ?_) (fun hb11 => ?_)
 ·have H := ifT hb11 H; refine WC_region ?_; refine WL_val (rn_move (v := (.int .i64 y8.1)) rfl) rfl ?_
  refine WL_val (v := (.agg #[.int .i64 y8.1])) (by kernel_rfl) rfl ?_
  refine WL_val (v := (.iface 137 (.agg #[.int .i64 y8.1]))) (by kernel_rfl) rfl ?_
  refine WL_op rfl (OpP_panic (v := (.iface 137 (.agg #[.int .i64 y8.1]))) rfl ⟨_, _, rfl⟩ ?_)
  have H : some (Sum.inr y8.1) = some r := H
  have H := Option.some.inj H; subst H
  exact ⟨rfl, hS.below⟩
 ·have H := ifF hb11 H; refine WC_skip ?_
  have H : some (.inl ()) = some r := H
  have H := Option.some.inj H; subst H
  exact ⟨rfl, hS.below⟩
set_option maxHeartbeats 1000000 in
theorem rn_eqlNil (v : Value) (hv : ∃ t u, v = .iface t u) (w : World) (e : Operand → Value) (he : e (.tmp 4) = v) (hn : e (.const .nilIface) = .nilIface) (d : Option Nat) (pos : String) (af : Array Edge) (gd : Option (Nat × Bool)) :
  (execOp e ⟨d, .binOp .eql 20 (.tmp 4) (.const .nilIface) 20, 4, pos, af, gd⟩).run Try.prog w = .ok (.value (.bool false)) w := by
 obtain ⟨t, u, rfl⟩ := hv
 simp [execOp, he, hn, go_sem]
theorem rn_eqlNil0 (w : World) (e : Operand → Value) (he : e (.tmp 4) = .nilIface) (hn : e (.const .nilIface) = .nilIface) (d : Option Nat) (pos : String) (af : Array Edge) (gd : Option (Nat × Bool)) :
  (execOp e ⟨d, .binOp .eql 20 (.tmp 4) (.const .nilIface) 20, 4, pos, af, gd⟩).run Try.prog w = .ok (.value (.bool true)) w := by
 simp [execOp, he, hn, go_sem]
theorem un137 : Try.prog.underlying 137 = some (.struct (Try.prog.fieldsOf 137)) := by kernel_rfl
theorem rn_isWanting (x : Int) (w : World) (e : Operand → Value) (he : e (.tmp 4) = .iface 137 (.agg #[.int .i64 x])) (d : Option Nat) (pos : String) (af : Array Edge) (gd : Option (Nat × Bool)) :
  (execOp e ⟨d, .typeAssert (.tmp 4) 20 137 true, 0, pos, af, gd⟩).run Try.prog w = .ok (.value (.tuple #[.agg #[.int .i64 x], .bool true])) w := by
 simp only [execOp, he, Instr.typeAssert, Sem.run_bind, run_underlying un137, Result.andThen_ok]
 simp
theorem cntL (n : Nat) : ∀ (m i : Nat), i + m = n → lp (fun i : Nat => if i < n then some (Sum.inl (i + 1)) else some (Sum.inr ())) i = some ()
 | 0, i, h => by rw [lp_eq]; simp [show ¬ i < n by omega]
 | m + 1, i, h => by rw [lp_eq]; simp only [show i < n by omega, if_true]; exact cntL n m (i + 1) (by omega)
theorem rn_invoke {P : Program} {k : Nat} {fi ca : Array Value} {w : World} (hk : callB P k = true) : (invoke (.fn (.func k) ca) fi).run P w = .ok (.enter k (fi ++ ca)) w := by
 unfold callB at hk
 split at hk
 ·rename_i fn hf
  simp only [Bool.and_eq_true, Bool.not_eq_true'] at hk
  obtain ⟨c, hb⟩ := Option.isSome_iff_exists.1 hk.2
  have hn : ¬ fn.name = "runtime.NumGoroutine" := by simpa using hk.1
  simp [invoke, callFunc, hf, hn, hb]
 ·cases hk
theorem CallsDIn.imp {F : Fence} {n : Nat} {P : Program} {f : FuncId} {args : Array Value} {u : FrameMode} {w : World} {R R' : Ending → FrameMode → World → Prop} (h : CallsDIn F n P f args u w R) (k : ∀ e u' w', R e u' w' → R' e u' w') : CallsDIn F n P f args u w R' :=
 ⟨h.1, fun c cs h1 h2 => let ⟨e, u', w', fr, h3, h4⟩ := h.2 c cs h1 h2; ⟨e, u', w', fr, k _ _ _ h3, h4⟩⟩
theorem f101_pan {B : Nat} {G0 : Gm} {w0 : World} {G : Gm} {L : List Row} {b : Nat} {v : Bool} (x : Int) (older : List PanicEntry) (w : World) (hS : Since B G0 w0 G w) (hO : Owns G w B (⟨4, 1, 1, .slice (some ⟨b, 0, none⟩) 1 1, [.bool v]⟩ :: L)) :
  CallsDIn Fence.wide 0 Try.prog 101 #[.pointer (some ⟨b, 0, none⟩)] (.panicking ({ v := .iface 137 (.agg #[.int .i64 x]), recovered := false } :: older)) w fun e u' w' =>
   e = .returned (.tuple #[]) ∧ u' = .panicking ({ v := .iface 137 (.agg #[.int .i64 x]), recovered := true } :: older) ∧ Since B G0 w0 G w' ∧ Owns G w' B (⟨4, 1, 1, .slice (some ⟨b, 0, none⟩) 1 1, [.bool false]⟩ :: L) := by
 refine callsDIn_of_wpSIn Try.func101 rfl trivial fun c₀ cs hu => ?_
 apply wpSIn_seq
 apply wpSIn_region
 simp [wpOpsSIn, go_sem, recoverD, hu, Try.ntmps101, Exit.thenS]
 refine wpSIn_of_wpIn rfl ?_
 refine wpIn_mono (WC_block (κ := ⟨none, none, 0, true, []⟩) (N := 10) (n := fun _ w' => Since B G0 w0 G w' ∧ Owns G w' B (⟨4, 1, 1, .slice (some ⟨b, 0, none⟩) 1 1, [.bool false]⟩ :: L)) (r := fun _ w' => Since B G0 w0 G w' ∧ Owns G w' B (⟨4, 1, 1, .slice (some ⟨b, 0, none⟩) 1 1, [.bool false]⟩ :: L)) (x := []) (p := fun _ _ _ => False) (F := frOf _) (w := w) ?_ _ w ⟨by simp, Calm.nil _ _, Keeps.refl _, Nat.zero_le _⟩ rfl) ?_
 ·refine WC_seq ?_; refine WC_region ?_; refine WL_val (rn_eqlNil _ ⟨_, _, rfl⟩ w _ rfl rfl _ _ _ _) rfl ?_; refine WL_nil ?_; refine WC_condF false rfl rfl ?_; refine WC_seq ?_; refine WC_region ?_; refine WL_val (rn_isWanting x w _ rfl _ _ _ _) rfl ?_; refine WL_val (v := .bool true) (rn_extract (vs := #[.agg #[.int .i64 x], .bool true]) rfl rfl) rfl ?_; refine WL_val (v := .agg #[.int .i64 x]) (rn_extract (vs := #[.agg #[.int .i64 x], .bool true]) rfl rfl) rfl ?_; refine WL_nil ?_; refine WC_condT true rfl rfl ?_; refine WC_seq ?_; refine WC_region ?_
  refine WL_op rfl (OpP_newO (v := fun b => .pointer (some ⟨b, 0, none⟩)) (cs := [.int .i64 0]) (e := 137) (by kernel_rfl) hS.sat hO rfl 1 1 rfl (by decide) (fun b4 w1 hb hO => ?_))
  have hS := hS.keep hb; refine WL_op rfl (OpP_store (vs := [.int .i64 x]) sz137 hS hO (k := 0) rfl rfl rfl rfl rfl (one_all rfl) (Nat.le_of_ble_eq_true rfl) (fun w2 hS hO => ?_)); have hO := hO.drop 0
  have hO : Owns G w2 B (⟨4, 1, 1, .slice (some ⟨b, 0, none⟩) 1 1, [.bool v]⟩ :: L) := hO
  refine WL_nil ?_; refine WC_region ?_; refine WL_op rfl (OpP_store (vs := [.bool false]) sz4 hS hO (k := 0) rfl rfl rfl rfl rfl (one_all rfl) (Nat.le_of_ble_eq_true rfl) (fun w3 hS hO => ?_)); refine WL_nil ?_
  exact ⟨hS, hO⟩
 ·rintro e a' w' ⟨p1, p3⟩
  have hd := p1.calm.none rfl
  cases e with
  | normal => exact ⟨hd, _, rfl, _, by simp [results, Try.results101], rfl, rfl, p3⟩
  | ret => exact ⟨hd, _, rfl, _, by simp [results, Try.results101], rfl, rfl, p3⟩
  | exit k => obtain ⟨K, hK, _⟩ := p3; cases hK
  | goto l => exact p3.elim
  | panic c => exact p3.elim
  | outgrown => exact p3.elim
theorem f101_ret {a : Value} (w : World) :
  CallsDIn Fence.wide 0 Try.prog 101 #[a] .returning w fun e u' w' => e = .returned (.tuple #[]) ∧ u' = .returning ∧ w' = w := by
 refine callsDIn_of_wpSIn Try.func101 rfl trivial fun c₀ cs hu => ?_
 apply wpSIn_seq
 apply wpSIn_region
 simp [wpOpsSIn, go_sem, recoverD, hu, Try.ntmps101, Exit.thenS]
 refine wpSIn_of_wpIn rfl ?_
 refine wpIn_mono (WC_block (κ := ⟨none, none, 0, true, []⟩) (N := 10) (n := fun _ w' => w' = w) (r := fun _ w' => w' = w) (x := []) (p := fun _ _ _ => False) (F := frOf _) (w := w) ?_ _ w ⟨by simp, Calm.nil _ _, Keeps.refl _, Nat.zero_le _⟩ rfl) ?_
 ·refine WC_seq ?_; refine WC_region ?_; refine WL_val (rn_eqlNil0 w _ rfl rfl _ _ _ _) rfl ?_; refine WL_nil ?_; refine WC_condT true rfl rfl ?_; refine WC_region ?_; refine WL_val (rn_assign (v := .nilIface) rfl) rfl ?_
  exact WL_nil rfl
 ·rintro e a' w' ⟨p1, p3⟩
  have hd := p1.calm.none rfl
  cases e with
  | normal => exact ⟨hd, _, rfl, _, by simp [results, Try.results101], rfl, hu, p3⟩
  | ret => exact ⟨hd, _, rfl, _, by simp [results, Try.results101], rfl, hu, p3⟩
  | exit k => obtain ⟨K, hK, _⟩ := p3; cases hK
  | goto l => exact p3.elim
  | panic c => exact p3.elim
  | outgrown => exact p3.elim
set_option maxHeartbeats 1000000 in
theorem f76_ok {G0 : Gm} {w0 : World} (hS0 : Sat G0 w0) {x0 : TStore} {bq0 : Nat} {a1 : Option Addr} {n1 c1 : Nat} {a2 : Option Addr} {n2 c2 : Nat} {a3 : Option Addr} {n3 c3 : Nat} {a4 : Option Addr} {n4 c4 : Nat} {a5 : Option Addr} {n5 c5 : Nat} {a6 : Option Addr} {n6 c6 : Nat} {a7 : Option Addr} {n7 c7 : Nat} {x1 : Int} {x2 : List Int} {a8 : Option Addr} {n8 c8 : Nat} (hcq0 : Cells G0 bq0 0 [.slice a1 n1 c1, .slice a2 n2 c2, .int .i64 x0.ShipStore.Gap.Low, .int .i64 x0.ShipStore.Gap.High, .slice a3 n3 c3, .int .i64 x0.ShipStore.Hold, .slice a4 n4 c4, .slice a5 n5 c5, .slice a6 n6 c6, .slice a7 n7 c7]) (h1 : RSl RInt 1 G0 a1 n1 c1 x0.ShipStore.Stock) (h2 : RSl RTSpan 2 G0 a2 n2 c2 x0.ShipStore.Use) (h3 : RSl RTShipLot 3 G0 a3 n3 c3 x0.ShipStore.Lots) (h4 : RSl RInt 1 G0 a4 n4 c4 x0.load) (h5 : RSl RInt 1 G0 a5 n5 c5 x0.truth.Uses) (h6 : RSl RInt 1 G0 a6 n6 c6 x0.truth.Gaps) (h7 : RSl (RSlice RInt 1) 1 G0 a7 n7 c7 x0.truth.Goods) (h8 : RSl RInt 1 G0 a8 n8 c8 x2) {r : Bool} (H : f76 x0 x1 x2 = some r) :
  Calls Try.prog 76 #[.pointer (some ⟨bq0, 0, none⟩), .int .i64 x1, .slice a8 n8 c8] w0 (RetV w0 (.bool r)) := by
 obtain ⟨S, hSd⟩ : ∃ S : Bool → List PanicEntry → Deferred → Fr → World → Prop, S = fun v ch d F w' => ∃ b G v' x, d = { target := .fn (.func 101) #[.pointer (some ⟨b, 0, none⟩)], args := #[] } ∧ F 6 = .pointer (some ⟨b, 0, none⟩) ∧ Since w0.heap.size G0 w0 G w' ∧ Owns G w' w0.heap.size [⟨4, 1, 1, .slice (some ⟨b, 0, none⟩) 1 1, [.bool v']⟩] ∧ (v = true → v' = true) ∧ (v = false → ch = [{ v := .iface 137 (.agg #[.int .i64 x]), recovered := false }]) ∧ r = v := ⟨_, rfl⟩
 have fin : ∀ (tmps : Array Value) (w' : World) (b : Nat) (G : Gm), (fun t => tmps.getD t undef) 6 = Value.pointer (some ⟨b, 0, none⟩) → Since w0.heap.size G0 w0 G w' → Owns G w' w0.heap.size [⟨4, 1, 1, .slice (some ⟨b, 0, none⟩) 1 1, [.bool r]⟩] →
   LeavesInM Fence.wide 0 Try.prog Try.f76 tmps (RetV w0 (.bool r)) [] .returning w' := fun tmps w' b G h6 hS hO => by
  refine ⟨_, run_resG (rs := [.cell 6 4]) (vs := [.bool r]) rfl ⟨⟨_, h6, ld_one na4 (own_cell hO (k := 0) rfl (j := 0) rfl)⟩, trivial⟩, rfl, hS.below⟩
 refine enterDf (N := 21) (S true []) (fun d ch => S false ch d) Try.func76 rfl rfl rfl ?_ ?_ ?_
 ·rintro d tmps w' h
  subst hSd; obtain ⟨b, G, v', x, rfl, h6, hS, hO, hv, _, hr⟩ := h
  have hv := hv rfl
  subst hv hr
  refine ⟨by simp, .inr ⟨fun h => (by cases h), _, _, 101, #[.pointer (some ⟨b, 0, none⟩)], rfl, rn_invoke cb101, fun _ _ => trivial, CallsDIn.imp (f101_ret w') ?_⟩⟩
  rintro e u' w'' ⟨rfl, rfl, rfl⟩
  exact fin tmps _ b G h6 hS hO
 ·rintro d ch tmps w' h
  subst hSd; obtain ⟨b, G, v', x, rfl, h6, hS, hO, _, hch, hr⟩ := h
  have hch := hch rfl
  subst hch hr
  refine ⟨by simp, .inr ⟨fun h => (by cases h), _, _, 101, #[.pointer (some ⟨b, 0, none⟩)], rfl, rn_invoke cb101, fun _ _ => trivial, CallsDIn.imp (f101_pan x [] w' hS hO) ?_⟩⟩
  rintro e u' w'' ⟨rfl, rfl, hS, hO⟩
  exact fin tmps _ b G h6 hS hO
 ·have hS := Since.start hS0
  have hO : Owns G0 w0 w0.heap.size [] := Owns.nil (Nat.le_refl _)
  refine WC_region ?_
  refine WL_op rfl (OpP_newO (v := fun b => .pointer (some ⟨b, 0, none⟩)) (cs := [.bool false]) (e := 4) (by kernel_rfl) hS.sat hO rfl 1 1 rfl (by decide) (fun b w1 hb hO => ?_))
  have hS := hS.keep hb; refine WL_nil ?_; refine WLd_val (rn_func (vs := []) (us := [.pointer (some ⟨b, 0, none⟩)]) rfl rfl) rfl ?_
  refine WLd_defer (d := { target := .fn (.func 101) #[.pointer (some ⟨b, 0, none⟩)], args := #[] }) (fun D => by simp) (by simp [execOp, resolve, ev, upd, Deferred.ofValue]) ?_
  refine WC_seq ?_; refine WC_cut (fun F w' => ∃ Fb : Fr, F = upds Fb [(6, .pointer (some ⟨b, 0, none⟩))] ∧ Since w0.heap.size G0 w0 G0 w' ∧ Owns G0 w' w0.heap.size [⟨4, 1, 1, .slice (some ⟨b, 0, none⟩) 1 1, [.bool false]⟩] ∧ r = true) ?_ ?_
  ·refine WC_seq ?_; refine WC_region ?_; refine WL_val (rn_move (v := .slice a8 n8 c8) rfl) rfl ?_; refine WL_val (rn_len (m := x2.length) sl22 rfl rfl h8.1) rfl ?_; refine WL_val (rn_move (v := .int .i64 0) rfl) rfl ?_; refine WL_nil ?_
   have hlen : x2.length ≤ maxLen := h8.1 ▸ h8.2.1.1
   refine WC_block (WC_loop (cntL x2.length x2.length 0 (by omega)) (fun i F w' => ∃ (Fb : Fr), F = upds Fb [(0, .pointer (some ⟨bq0, 0, none⟩)), (1, .int .i64 x1), (6, .pointer (some ⟨b, 0, none⟩)), (10, .slice a8 n8 c8), (11, .int .i64 (x2.length : Int)), (12, .int .i64 (i : Int))] ∧ Since w0.heap.size G0 w0 G0 w' ∧ Owns G0 w' w0.heap.size [⟨4, 1, 1, .slice (some ⟨b, 0, none⟩) 1 1, [.bool false]⟩] ∧ i ≤ x2.length ∧ allPan (fun k => f102 x0 k x1) (x2.drop i) = some r) ?_ ?_)
   ·exact ⟨_, upds_self _ _ ⟨rfl, rfl, rfl, rfl, rfl, rfl, trivial⟩, hS, hO, Nat.zero_le _, H⟩
   ·rintro i F w' t ⟨Fb, rfl, hS, hO, hi, hrest⟩ hbody hres
    refine WC_seq ?_; refine WC_region ?_; refine WL_val (rn_lss rfl rfl) rfl ?_; refine WL_nil ?_; refine WC_seq ?_; refine WC_cond rfl (fun hb => ?_) (fun hb => ?_)
    ·have hlt : i < x2.length := by have := of_decide_eq_true hb; omega
     simp only [hlt, if_true] at hbody
     have hbody := Option.some.inj hbody
     subst hbody
     have hcons := List.drop_eq_getElem_cons hlt
     obtain ⟨y, hyy⟩ : ∃ y, y = x2[i] := ⟨_, rfl⟩
     rw [← hyy] at hcons
     rw [hcons] at hrest
     have hix : ix x2 (i : Int) = some y := by
      unfold ix
      simp [hlt, hyy]
     obtain ⟨q, hq, hrest⟩ := bnd hrest; refine WC_skip ?_; refine WC_seq ?_; refine WC_block ?_; refine WC_seq ?_; refine WC_region ?_; refine WL_idx sl22 h8 hix rfl rfl rfl ?_
     rintro b6 o6 _ hcb6 _ ⟨⟩
     refine WL_val (rn_load na3 rfl (hS.sat.cell (hcb6 0 _ rfl))) rfl ?_; refine WL_val (rn_assign rfl) rfl ?_; refine WL_nil ?_; refine WC_region ?_; refine WL_val (rn_move (v := .pointer (some ⟨bq0, 0, none⟩)) rfl) rfl ?_; refine WL_val (rn_move (v := .int .i64 y) rfl) rfl ?_; refine WL_val (rn_move (v := .int .i64 x1) rfl) rfl ?_; refine WL_op rfl (OpP_enterP (rn_call cb102 rfl) rfl (f102_ok (x0 := x0) (x1 := y) (x2 := x1) (hS.sat.le hS.le) hcq0 h1 h2 h3 h4 h5 h6 h7 hq) (fun _ w3 hR => ?_)); obtain ⟨rfl, hb3⟩ := hR; have hS := hS.keep hb3; have hO := hO.below hb3
     rcases q with q | x
     ·refine .inl ⟨_, rfl, .below hb3, ?_⟩; refine WL_nil ?_; refine WC_region ?_; refine WL_val (rn_add rfl rfl) rfl ?_; refine WL_val (rn_move (v := .int .i64 (IntKind.i64.wrap ((i : Int) + 1))) rfl) rfl ?_; refine WL_nil ?_
      have hw : IntKind.i64.wrap ((i : Int) + 1) = ((i + 1 : Nat) : Int) := by
       rw [IntKind.wrap_i64]
       have : i + 1 ≤ 9223372036854775807 := Nat.le_trans hlt hlen
       omega
      rw [hw]
      exact ⟨i + 1, rfl, _, upds_self _ _ ⟨rfl, rfl, rfl, rfl, rfl, rfl, trivial⟩, hS, hO, hlt, hrest⟩
     ·refine .inr ⟨_, rfl, .below hb3, ?_⟩; subst hSd
      exact ⟨b, G0, false, x, rfl, rfl, hS, hO, fun h => (by cases h), fun _ => rfl, (Option.some.inj hrest).symm⟩
    ·have hge : i = x2.length := by have := of_decide_eq_false hb; omega
     rw [hge, List.drop_length] at hrest
     exact WC_exit rfl ⟨_, upds_self _ _ ⟨rfl, trivial⟩, hS, hO, (Option.some.inj hrest).symm⟩
  ·rintro F w' ⟨Fb, rfl, hS, hO, hr⟩
   refine WC_seq ?_; refine WC_region ?_; refine WL_op rfl (OpP_store (vs := [.bool true]) sz4 hS hO (k := 0) rfl rfl rfl rfl rfl (one_all rfl) (Nat.le_of_ble_eq_true rfl) (fun w3 hS hO => ?_)); refine WL_nil ?_; refine WC_ret ?_; subst hSd
   exact ⟨b, G0, true, 0, rfl, rfl, hS, hO, fun _ => rfl, fun h => (by cases h), hr⟩

set_option maxHeartbeats 1000000 in
theorem f32_ok {G0 : Gm} {w0 : World} (hS0 : Sat G0 w0) {x0 : TShipStore} {a1 : Option Addr} {n1 c1 : Nat} {a2 : Option Addr} {n2 c2 : Nat} {a3 : Option Addr} {n3 c3 : Nat} {x1 : (List Int)} {a4 : Option Addr} {n4 c4 : Nat} {x2 : Int} {x3 : Int} (h1 : RSl RInt 1 G0 a1 n1 c1 x0.Stock) (h2 : RSl RTSpan 2 G0 a2 n2 c2 x0.Use) (h3 : RSl RTShipLot 3 G0 a3 n3 c3 x0.Lots) (h4 : RSl RInt 1 G0 a4 n4 c4 x1) {r : Int × Int} (H : f32 x0 x1 x2 x3 = some r) :
  Calls Try.prog 32 #[.agg #[.slice a1 n1 c1, .slice a2 n2 c2, .int .i64 x0.Gap.Low, .int .i64 x0.Gap.High, .slice a3 n3 c3, .int .i64 x0.Hold], .slice a4 n4 c4, .int .i64 x2, .int .i64 x3] w0 (RetV w0 (.tuple #[.int .i64 r.1, .int .i64 r.2])) := by
 have hS := Since.start hS0
 have hO : Owns G0 w0 w0.heap.size [] := Owns.nil (Nat.le_refl _)
 unfold f32 at H
 refine enter2 (N := 70) (shutV _ _) Try.func32 rfl rfl rfl rfl ?_; refine WC_seq ?_; refine WC_region ?_; refine WL_op rfl (OpP_newF (v := fun b => .pointer (some ⟨b, 0, none⟩)) (cs := [.slice a1 n1 c1, .slice a2 n2 c2, .int .i64 x0.Gap.Low, .int .i64 x0.Gap.High, .slice a3 n3 c3, .int .i64 x0.Hold]) (e := 42) (rn_boxA rfl) hS.sat rfl (fun b5 G7 w6 hg hcb5 => ?_)); have hS := hS.grow hg; have hO := hO.grow hg
 have leG7 := hg.le
 refine WL_val (rn_assign (v := (.int .i64 0)) rfl) rfl ?_; refine WL_val (rn_assign (v := (.int .i64 0)) rfl) rfl ?_; refine WL_nil ?_; refine WC_seq ?_; refine WC_seq ?_; obtain ⟨q8, hq8, H⟩ := bnd H; refine WC_cut (fun F w => ∃ (Fb : Fr) (G : Gm), F = upds Fb [(1, .slice a4 n4 c4), (2, .int .i64 x2), (3, .int .i64 x3), (4, .pointer (some ⟨b5, 0, none⟩)), (35, .bool q8)] ∧ Gle G7 G ∧ Since w0.heap.size G0 w0 G w ∧ Owns G w w0.heap.size []) ?_ ?_
 ·have Hoq8 := H; have H := hq8; refine WC_region ?_; refine WL_val (rn_loadA ag42 (cs := [.slice a1 n1 c1, .slice a2 n2 c2, .int .i64 x0.Gap.Low, .int .i64 x0.Gap.High, .slice a3 n3 c3, .int .i64 x0.Hold]) rfl rfl (fun j v hj => hS.sat.cell (hcb5.drop_take 0 6 j v hj))) rfl ?_; obtain ⟨y9, hy9, H⟩ := bnd H; refine WL_op rfl (OpP_callV cb68 (f68_ok (x0 := x0) hS.sat (h1.mono RInt_mono leG7) (h2.mono RTSpan_mono leG7) (h3.mono RTShipLot_mono leG7) hy9) rfl rfl (fun w10 hb => ?_)); have hS := hS.keep hb; have hO := hO.below hb; refine WL_val (rn_not rfl) rfl ?_; refine WL_val (rn_move (v := (.bool (!y9))) rfl) rfl ?_
  rcases bcases (!y9) with hb11 | hb11
  ·have H := ifT hb11 H; refine WL_guardN rfl hb11 rfl rfl rfl ?_; refine WL_guardN rfl hb11 rfl rfl rfl ?_; refine WL_guardN rfl hb11 rfl rfl rfl ?_; refine WL_guardN rfl hb11 rfl rfl rfl ?_; refine WL_val (rn_pickT (v := (.bool true)) rfl hb11 rfl) rfl ?_; refine WL_val (rn_move (v := (.bool true)) rfl) rfl ?_; refine WL_guardN rfl rfl rfl rfl rfl ?_; refine WL_guardN rfl rfl rfl rfl rfl ?_; refine WL_guardN rfl rfl rfl rfl rfl ?_; refine WL_val (rn_pickT (v := (.bool true)) rfl rfl rfl) rfl ?_; refine WL_val (rn_move (v := (.bool true)) rfl) rfl ?_; refine WL_guardN rfl rfl rfl rfl rfl ?_; refine WL_guardN rfl rfl rfl rfl rfl ?_; refine WL_guardN rfl rfl rfl rfl rfl ?_; refine WL_guardN rfl rfl rfl rfl rfl ?_; refine WL_guardN rfl rfl rfl rfl rfl ?_; refine WL_guardN rfl rfl rfl rfl rfl ?_; refine WL_guardN rfl rfl rfl rfl rfl ?_; refine WL_val (rn_pickT (v := (.bool true)) rfl rfl rfl) rfl ?_; refine WL_nil ?_
   have hO : Owns G7 w10 w0.heap.size ([]) := hO
   have H := Option.some.inj H; subst H
   exact ⟨_, G7, upds_self _ _ ⟨rfl, rfl, rfl, rfl, rfl, trivial⟩, Gle.refl _, hS, hO⟩
  ·have H := ifF hb11 H; refine WL_guardY rfl hb11 rfl rfl ?_; refine WL_val (rn_loadA ag42 (cs := [.slice a1 n1 c1, .slice a2 n2 c2, .int .i64 x0.Gap.Low, .int .i64 x0.Gap.High, .slice a3 n3 c3, .int .i64 x0.Hold]) rfl rfl (fun j v hj => hS.sat.cell (hcb5.drop_take 0 6 j v hj))) rfl ?_; refine WL_guardY rfl hb11 rfl rfl ?_; refine WL_val (rn_move (v := (.slice a4 n4 c4)) rfl) rfl ?_; refine WL_guardY rfl hb11 rfl rfl ?_; obtain ⟨y12, hy12, H⟩ := bnd H; refine WL_op rfl (OpP_callV cb69 (f69_ok (x0 := x0) (x1 := x1) hS.sat (h1.mono RInt_mono leG7) (h2.mono RTSpan_mono leG7) (h3.mono RTShipLot_mono leG7) (h4.mono RInt_mono leG7) hy12) rfl rfl (fun w13 hb => ?_)); have hS := hS.keep hb; have hO := hO.below hb; refine WL_guardY rfl hb11 rfl rfl ?_; refine WL_val (rn_not rfl) rfl ?_; refine WL_val (rn_pickF (v := (.bool (!y12))) rfl hb11 rfl) rfl ?_; refine WL_val (rn_move (v := (.bool (!y12))) rfl) rfl ?_
   rcases bcases (!y12) with hb14 | hb14
   ·have H := ifT hb14 H; refine WL_guardN rfl hb14 rfl rfl rfl ?_; refine WL_guardN rfl hb14 rfl rfl rfl ?_; refine WL_guardN rfl hb14 rfl rfl rfl ?_; refine WL_val (rn_pickT (v := (.bool true)) rfl hb14 rfl) rfl ?_; refine WL_val (rn_move (v := (.bool true)) rfl) rfl ?_; refine WL_guardN rfl rfl rfl rfl rfl ?_; refine WL_guardN rfl rfl rfl rfl rfl ?_; refine WL_guardN rfl rfl rfl rfl rfl ?_; refine WL_guardN rfl rfl rfl rfl rfl ?_; refine WL_guardN rfl rfl rfl rfl rfl ?_; refine WL_guardN rfl rfl rfl rfl rfl ?_; refine WL_guardN rfl rfl rfl rfl rfl ?_; refine WL_val (rn_pickT (v := (.bool true)) rfl rfl rfl) rfl ?_; refine WL_nil ?_
    have hO : Owns G7 w13 w0.heap.size ([]) := hO
    have H := Option.some.inj H; subst H
    exact ⟨_, G7, upds_self _ _ ⟨rfl, rfl, rfl, rfl, rfl, trivial⟩, Gle.refl _, hS, hO⟩
   ·have H := ifF hb14 H; refine WL_guardY rfl hb14 rfl rfl ?_; refine WL_val (rn_move (v := (.int .i64 x2)) rfl) rfl ?_; refine WL_guardY rfl hb14 rfl rfl ?_; obtain ⟨y15, hy15, H⟩ := bnd H; refine WL_op rfl (OpP_callV cb70 (f70_ok (x0 := x2) hS.sat  hy15) rfl rfl (fun w16 hb => ?_)); have hS := hS.keep hb; have hO := hO.below hb; refine WL_guardY rfl hb14 rfl rfl ?_; refine WL_val (rn_not rfl) rfl ?_; refine WL_val (rn_pickF (v := (.bool (!y15))) rfl hb14 rfl) rfl ?_; refine WL_val (rn_move (v := (.bool (!y15))) rfl) rfl ?_
    rcases bcases (!y15) with hb17 | hb17
    ·have H := ifT hb17 H; refine WL_guardN rfl hb17 rfl rfl rfl ?_; refine WL_guardN rfl hb17 rfl rfl rfl ?_; refine WL_guardN rfl hb17 rfl rfl rfl ?_; refine WL_guardN rfl hb17 rfl rfl rfl ?_; refine WL_guardN rfl hb17 rfl rfl rfl ?_; refine WL_guardN rfl hb17 rfl rfl rfl ?_; refine WL_guardN rfl hb17 rfl rfl rfl ?_; refine WL_val (rn_pickT (v := (.bool true)) rfl hb17 rfl) rfl ?_; refine WL_nil ?_
     have hO : Owns G7 w16 w0.heap.size ([]) := hO
     have H := Option.some.inj H; subst H
     exact ⟨_, G7, upds_self _ _ ⟨rfl, rfl, rfl, rfl, rfl, trivial⟩, Gle.refl _, hS, hO⟩
    ·have H := ifF hb17 H; refine WL_guardY rfl hb17 rfl rfl ?_; refine WL_val (rn_move (v := (.int .i64 x3)) rfl) rfl ?_; refine WL_guardY rfl hb17 rfl rfl ?_; refine WL_val (rn_fld fd42_0 rfl) rfl ?_; refine WL_guardY rfl hb17 rfl rfl ?_; refine WL_val (rn_load na22 rfl (hS.sat.cell (hcb5 0 _ rfl))) rfl ?_; refine WL_guardY rfl hb17 rfl rfl ?_; refine WL_val (rn_len sl22 rfl rfl (h1.mono RInt_mono leG7).1) rfl ?_; refine WL_guardY rfl hb17 rfl rfl ?_; refine WL_val (rn_sub rfl rfl) rfl ?_; refine WL_guardY rfl hb17 rfl rfl ?_; obtain ⟨y18, hy18, H⟩ := bnd H; refine WL_op rfl (OpP_callV cb62 (f62_ok (x0 := x3) (x1 := 0) (x2 := IntKind.i64.wrap ((x0.Stock.length : Int) - 1)) hS.sat  hy18) rfl rfl (fun w19 hb => ?_)); have hS := hS.keep hb; have hO := hO.below hb; refine WL_guardY rfl hb17 rfl rfl ?_; refine WL_val (rn_not rfl) rfl ?_; refine WL_val (rn_pickF (v := (.bool (!y18))) rfl hb17 rfl) rfl ?_; refine WL_nil ?_
     have hO : Owns G7 w19 w0.heap.size ([]) := hO
     have H := Option.some.inj H; subst H
     exact ⟨_, G7, upds_self _ _ ⟨rfl, rfl, rfl, rfl, rfl, trivial⟩, Gle.refl _, hS, hO⟩
 ·rintro F w20 ⟨Fb, G21, rfl, leG21, hS, hO⟩
  refine WC_cond rfl (fun hb22 => ?_) (fun hb22 => ?_)
  ·have H := ifT hb22 H; refine WC_seq ?_; refine WC_region ?_; refine WL_val (rn_assign (v := (.int .i64 0)) rfl) rfl ?_; refine WL_val (rn_assign (v := (.int .i64 2)) rfl) rfl ?_; refine WL_nil ?_; refine WC_ret ?_
   have H : some (0, 2) = some r := H
   have H := Option.some.inj H; subst H
   exact ⟨rfl, hS.below⟩
  ·have H := ifF hb22 H; refine WC_skip ?_; refine WC_seq ?_; refine WC_region ?_; refine WL_val (rn_loadA ag42 (cs := [.slice a1 n1 c1, .slice a2 n2 c2, .int .i64 x0.Gap.Low, .int .i64 x0.Gap.High, .slice a3 n3 c3, .int .i64 x0.Hold]) rfl rfl (fun j v hj => (hS.sat.le leG21).cell (hcb5.drop_take 0 6 j v hj))) rfl ?_; refine WL_val (rn_move (v := (.slice a4 n4 c4)) rfl) rfl ?_; refine WL_val (rn_move (v := (.int .i64 x2)) rfl) rfl ?_; refine WL_op rfl (OpP_in1 (N' := 11) [.agg #[.slice a1 n1 c1, .slice a2 n2 c2, .int .i64 x0.Gap.Low, .int .i64 x0.Gap.High, .slice a3 n3 c3, .int .i64 x0.Hold], .slice a4 n4 c4, .int .i64 x2] cb74 Try.func74 rfl rfl rfl rfl rfl rfl ?_); refine WC_seq ?_; refine WC_region ?_; refine WL_op rfl (OpP_newF (v := fun b => .pointer (some ⟨b, 0, none⟩)) (cs := [.slice a1 n1 c1, .slice a2 n2 c2, .int .i64 x0.Gap.Low, .int .i64 x0.Gap.High, .slice a3 n3 c3, .int .i64 x0.Hold]) (e := 42) (rn_boxA rfl) hS.sat rfl (fun b23 G25 w24 hg hcb23 => ?_)); have hS := hS.grow hg; have hO := hO.grow hg
   have leG25 := hg.le
   refine WL_val (rn_assign (v := (.pointer none)) rfl) rfl ?_; refine WL_nil ?_; refine WC_seq ?_; refine WC_region ?_; refine WL_val (rn_loadA ag42 (cs := [.slice a1 n1 c1, .slice a2 n2 c2, .int .i64 x0.Gap.Low, .int .i64 x0.Gap.High, .slice a3 n3 c3, .int .i64 x0.Hold]) rfl rfl (fun j v hj => hS.sat.cell (hcb23.drop_take 0 6 j v hj))) rfl ?_; refine WL_val (rn_move (v := (.slice a4 n4 c4)) rfl) rfl ?_; refine WL_val (rn_move (v := (.int .i64 x2)) rfl) rfl ?_
   have hF26 : FnOk135 G25 99 [] [] (fun (z0 : TSpan) => f99 z0) := ⟨cb99, fun G1 W1 hl hw z0 r1 H1 => f99_ok (x0 := z0) hw  H1⟩
   have hF27 : FnOk135 G25 100 [] [] (fun (z0 : TSpan) => f100 z0) := ⟨cb100, fun G1 W1 hl hw z0 r1 H1 => f100_ok (x0 := z0) hw  H1⟩
   refine WL_op rfl (OpP_in1 (N' := 62) [.agg #[.slice a1 n1 c1, .slice a2 n2 c2, .int .i64 x0.Gap.Low, .int .i64 x0.Gap.High, .slice a3 n3 c3, .int .i64 x0.Hold], .slice a4 n4 c4, .int .i64 x2, .func (.func 99) ([]).toArray ([]).toArray, .func (.func 100) ([]).toArray ([]).toArray] cb98 Try.func98 rfl rfl rfl rfl rfl rfl ?_); refine WC_seq ?_; refine WC_region ?_; refine WL_op rfl (OpP_newF (v := fun b => .pointer (some ⟨b, 0, none⟩)) (cs := [.slice a1 n1 c1, .slice a2 n2 c2, .int .i64 x0.Gap.Low, .int .i64 x0.Gap.High, .slice a3 n3 c3, .int .i64 x0.Hold]) (e := 42) (rn_boxA rfl) hS.sat rfl (fun b28 G30 w29 hg hcb28 => ?_)); have hS := hS.grow hg; have hO := hO.grow hg
   have leG30 := hg.le
   refine WL_val (rn_assign (v := (.pointer none)) rfl) rfl ?_; refine WL_nil ?_; refine WC_seq ?_; refine WC_region ?_; refine WL_val (rn_fld fd42_1 rfl) rfl ?_; refine WL_val (rn_load na23 rfl (hS.sat.cell (hcb28 1 _ rfl))) rfl ?_; refine WL_val (rn_move (v := (.func (.func 99) ([]).toArray ([]).toArray)) rfl) rfl ?_; refine WL_op rfl (OpP_in1 (N' := 22) [.slice a2 n2 c2, .func (.func 99) ([]).toArray ([]).toArray] cb111 Try.func111 rfl rfl rfl rfl rfl rfl ?_); refine WC_seq ?_; refine WC_region ?_; refine WL_val (rn_assign (v := (.slice none 0 0)) rfl) rfl ?_; refine WL_nil ?_; refine WC_seq ?_; refine WC_region ?_; refine WL_val (rn_assign (v := (.slice none 0 0)) rfl) rfl ?_; refine WL_nil ?_; refine WC_seq ?_; refine WC_seq ?_; refine WC_region ?_; refine WL_val (rn_move (v := (.slice a2 n2 c2)) rfl) rfl ?_
   have l0_4 := ((leG7.trans leG21).trans leG25).trans leG30
   refine WL_val (rn_len sl23 rfl rfl (h2.mono RTSpan_mono l0_4).1) rfl ?_; refine WL_val (rn_move (v := (.int .i64 0)) rfl) rfl ?_; refine WL_nil ?_; have hO := hO.cons_nil 3 1; obtain ⟨q34, hq34, H⟩ := bnd H; refine WC_cut (fun F w => ∃ (Fb : Fr) (G : Gm) (aq34_0 : Option Addr) (nq34_0 cq34_0 : Nat) (claq34_0 : List Value), F = upds Fb [(5, .slice aq34_0 nq34_0 cq34_0)] ∧ Gle G30 G ∧ Since w0.heap.size G0 w0 G w ∧ Owns G w w0.heap.size [⟨3, 1, nq34_0, .slice aq34_0 nq34_0 cq34_0, claq34_0⟩] ∧ nq34_0 = q34.length ∧ Rd RInt 1 G claq34_0 q34) ?_ ?_
   ·refine WC_block (WC_loop hq34 (fun s32 F w => ∃ (Fb : Fr) (G : Gm) (as32_0 : Option Addr) (ns32_0 cs32_0 : Nat) (clas32_0 : List Value), F = upds Fb [(1, .func (.func 99) ([]).toArray ([]).toArray), (5, .slice as32_0 ns32_0 cs32_0), (8, .slice a2 n2 c2), (9, .int .i64 (x0.Use.length : Int)), (10, .int .i64 s32.2)] ∧ Gle G30 G ∧ Since w0.heap.size G0 w0 G w ∧ Owns G w w0.heap.size [⟨3, 1, ns32_0, .slice as32_0 ns32_0 cs32_0, clas32_0⟩] ∧ ns32_0 = s32.1.length ∧ Rd RInt 1 G clas32_0 s32.1) ?_ ?_)
    ·have hO : Owns G30 w29 w0.heap.size ([⟨3, 1, 0, .slice none 0 0, []⟩]) := hO
     exact ⟨_, G30, none, 0, 0, [], upds_self _ _ ⟨rfl, rfl, rfl, rfl, rfl, trivial⟩, Gle.refl _, hS, hO, rfl, (Rd.nil RInt 1 G30)⟩
    ·rintro s32 F w36 t35 ⟨Fb, G37, as32_0, ns32_0, cs32_0, clas32_0, rfl, leG37, hS, hO, hnhs32_0, hs32_0⟩
     intro H1 hqq34
     have Hoq34 := H; have H := H1
     unfold f32_b0 at H
     refine WC_seq ?_; refine WC_region ?_; refine WL_val (rn_lss rfl rfl) rfl ?_; refine WL_nil ?_; refine WC_seq ?_; refine WC_cond rfl (fun hb38 => ?_) (fun hb38 => ?_)
     ·have H := ifT hb38 H; refine WC_skip ?_; refine WC_seq ?_; refine WC_block ?_; refine WC_seq ?_; refine WC_region ?_; obtain ⟨y39, hy39, H⟩ := bnd H
      have l0_5 := l0_4.trans leG37
      refine WL_idx sl23 (h2.mono RTSpan_mono l0_5) hy39 rfl rfl rfl ?_
      rintro b40 o40 _ hcb40 _ ⟨⟩
      refine WL_val (rn_loadA ag25 (cs := [.int .i64 y39.Low, .int .i64 y39.High]) rfl rfl (fun j v hj => hS.sat.cell (hcb40.drop_take 0 2 j v hj))) rfl ?_
      refine WL_op rfl (OpP_newO (v := fun b => .pointer (some ⟨b, 0, none⟩)) (cs := [.int .i64 0, .int .i64 0]) (e := 25) (by kernel_rfl) hS.sat hO rfl 2 1 rfl (by decide) (fun b41 w42 hb hO => ?_))
      have hS := hS.keep hb; refine WL_op rfl (OpP_store (vs := [.int .i64 y39.Low, .int .i64 y39.High]) sz25 hS hO (k := 0) rfl rfl rfl rfl rfl (one_all rfl) (Nat.le_of_ble_eq_true rfl) (fun w44 hS hO => ?_))
      have hO : Owns G37 w44 w0.heap.size ([⟨25, 2, 1, .slice (some ⟨b41, 0, none⟩) 1 1, [.int .i64 y39.Low, .int .i64 y39.High]⟩, ⟨3, 1, ns32_0, .slice as32_0 ns32_0 cs32_0, clas32_0⟩]) := hO
      obtain ⟨G45, leG45, hS, hO, hqG45, _⟩ := hO.freeze hS (k := 0) rfl
      have hcG45 : Cells G45 b41 0 [.int .i64 y39.Low, .int .i64 y39.High] := (hqG45 _ _ _ _ rfl)
      refine WL_nil ?_; refine WC_region ?_; refine WL_val (rn_move (v := (.slice as32_0 ns32_0 cs32_0)) rfl) rfl ?_; refine WL_val (rn_move (v := (.func (.func 99) ([]).toArray ([]).toArray)) rfl) rfl ?_; refine WL_val (rn_loadA ag25 (cs := [.int .i64 y39.Low, .int .i64 y39.High]) rfl rfl (fun j v hj => hS.sat.cell (hcG45.drop_take 0 2 j v hj))) rfl ?_; obtain ⟨y46, hy46, H⟩ := bnd H
      have l3_6 := (leG30.trans leG37).trans leG45
      refine WL_op rfl (OpP_callVF hF26.1 (hF26.2 _ _ l3_6 hS.sat y39 _  hy46) rfl rfl rfl (fun w47 hb => ?_)); have hS := hS.keep hb; have hO := hO.below hb
      refine WL_op rfl (OpP_newF (v := fun b => .slice (some ⟨b, 0, none⟩) 1 1) (cs := [.int .i64 y46]) (e := 3) (by kernel_rfl) hS.sat rfl (fun b48 G50 w49 hg hcb48 => ?_))
      have hS := hS.grow hg; have hO := hO.grow hg
      have leG50 := hg.le
      have hfb48 : RSl RInt 1 G50 (some ⟨b48, 0, none⟩) 1 1 [y46] := RSl.of_rd hcb48 (Rd.cons (c := [.int .i64 y46]) rfl rfl (Rd.nil RInt 1 _)) rfl (by decide)
      obtain ⟨y51, hy51, H⟩ := bnd H
      have l5_7 := leG45.trans leG50
      refine WL_op rfl (OpP_append (k := 0) sl22 RInt_one hS hO rfl hnhs32_0 (hs32_0.mono RInt_mono l5_7) hfb48 hy51 rfl rfl rfl rfl rfl (fun aw52 cw52 w52 clw52 hS hO hrw52 => ?_))
      have hO : Owns G50 w52 w0.heap.size ([⟨3, 1, y51.length, .slice aw52 y51.length cw52, clw52⟩]) := hO
      refine WL_val (rn_assign (v := (.slice aw52 y51.length cw52)) rfl) rfl ?_; refine WL_nil ?_; refine WC_region ?_; refine WL_val (rn_add rfl rfl) rfl ?_; refine WL_val (rn_move (v := (.int .i64 (IntKind.i64.wrap (s32.2 + 1)))) rfl) rfl ?_; refine WL_nil ?_
      have hO : Owns G50 w52 w0.heap.size ([⟨3, 1, y51.length, .slice aw52 y51.length cw52, clw52⟩]) := hO
      have H := Option.some.inj H; subst H; refine ⟨_, rfl, ?_⟩
      have l4_7 := leG37.trans l5_7
      exact ⟨_, G50, aw52, y51.length, cw52, clw52, upds_self _ _ ⟨rfl, rfl, rfl, rfl, rfl, trivial⟩, l4_7, hS, hO, rfl, hrw52⟩
     ·have H := ifF hb38 H; refine WC_exit rfl ?_
      have hO : Owns G37 w36 w0.heap.size ([⟨3, 1, ns32_0, .slice as32_0 ns32_0 cs32_0, clas32_0⟩]) := hO
      have H := Option.some.inj H; subst H
      have hres := hqq34 _ rfl
      subst hres
      exact ⟨_, G37, as32_0, ns32_0, cs32_0, clas32_0, upds_self _ _ ⟨rfl, trivial⟩, leG37, hS, hO, hnhs32_0, hs32_0⟩
   ·rintro F w53 ⟨Fb, G54, aq34_0, nq34_0, cq34_0, claq34_0, rfl, leG54, hS, hO, hnhq34_0, hq34_0⟩
    refine WC_seq ?_; refine WC_region ?_; refine WL_val (rn_move (v := (.slice aq34_0 nq34_0 cq34_0)) rfl) rfl ?_; refine WL_val (rn_assign (v := (.slice aq34_0 nq34_0 cq34_0)) rfl) rfl ?_; refine WL_nil ?_; refine WC_ret ?_; refine ⟨(.slice aq34_0 nq34_0 cq34_0), rfl, ?_⟩
    have hO : Owns G54 w53 w0.heap.size ([⟨3, 1, nq34_0, .slice aq34_0 nq34_0 cq34_0, claq34_0⟩]) := hO
    refine WL_val (v := (.agg #[.slice aq34_0 nq34_0 cq34_0, .slice none 0 0, .slice none 0 0])) (by kernel_rfl) rfl ?_
    refine WL_op rfl (OpP_newO (v := fun b => .pointer (some ⟨b, 0, none⟩)) (cs := [.slice none 0 0, .slice none 0 0, .slice none 0 0]) (e := 45) (by kernel_rfl) hS.sat hO rfl 3 1 rfl (by decide) (fun b55 w56 hb hO => ?_))
    have hS := hS.keep hb; refine WL_op rfl (OpP_store (vs := [.slice aq34_0 nq34_0 cq34_0, .slice none 0 0, .slice none 0 0]) sz45 hS hO (k := 0) rfl rfl rfl rfl rfl (one_all rfl) (Nat.le_of_ble_eq_true rfl) (fun w58 hS hO => ?_))
    have hO : Owns G54 w58 w0.heap.size ([⟨45, 3, 1, .slice (some ⟨b55, 0, none⟩) 1 1, [.slice aq34_0 nq34_0 cq34_0, .slice none 0 0, .slice none 0 0]⟩, ⟨3, 1, nq34_0, .slice aq34_0 nq34_0 cq34_0, claq34_0⟩]) := hO
    refine WL_nil ?_; refine WC_seq ?_; refine WC_seq ?_; refine WC_region ?_; refine WL_val (rn_assign (v := (.int .i64 0)) rfl) rfl ?_; refine WL_nil ?_; have hO := hO.cons_nil 3 1; have hO := hO.cons_nil 22 1; obtain ⟨q63, hq63, H⟩ := bnd H; refine WC_cut (fun F w => ∃ (Fb : Fr) (G : Gm) (aq63_0 : Option Addr) (nq63_0 cq63_0 : Nat) (claq63_0 : List Value) (aq63_1 : Option Addr) (nq63_1 cq63_1 : Nat) (claq63_1 : List Value) (aq63_2 : Option Addr) (nq63_2 cq63_2 : Nat) (claq63_2 : List Value), F = upds Fb [(1, .slice a4 n4 c4), (4, .func (.func 100) ([]).toArray ([]).toArray), (5, .pointer (some ⟨b28, 0, none⟩)), (11, .pointer (some ⟨b55, 0, none⟩))] ∧ Gle G54 G ∧ Since w0.heap.size G0 w0 G w ∧ Owns G w w0.heap.size [⟨22, 1, nq63_2, .slice aq63_2 nq63_2 cq63_2, claq63_2⟩, ⟨3, 1, nq63_1, .slice aq63_1 nq63_1 cq63_1, claq63_1⟩, ⟨45, 3, 1, .slice (some ⟨b55, 0, none⟩) 1 1, [.slice aq63_0 nq63_0 cq63_0, .slice aq63_1 nq63_1 cq63_1, .slice aq63_2 nq63_2 cq63_2]⟩, ⟨3, 1, nq63_0, .slice aq63_0 nq63_0 cq63_0, claq63_0⟩] ∧ nq63_0 = q63.Uses.length ∧ Rd RInt 1 G claq63_0 q63.Uses ∧ nq63_1 = q63.Gaps.length ∧ Rd RInt 1 G claq63_1 q63.Gaps ∧ nq63_2 = q63.Goods.length ∧ Rd (RSlice RInt 1) 1 G claq63_2 q63.Goods) ?_ ?_
    ·refine WC_block (WC_loop hq63 (fun s61 F w => ∃ (Fb : Fr) (G : Gm) (as61_0 : Option Addr) (ns61_0 cs61_0 : Nat) (clas61_0 : List Value) (as61_1 : Option Addr) (ns61_1 cs61_1 : Nat) (clas61_1 : List Value) (as61_2 : Option Addr) (ns61_2 cs61_2 : Nat) (clas61_2 : List Value), F = upds Fb [(1, .slice a4 n4 c4), (2, .int .i64 x2), (3, .func (.func 99) ([]).toArray ([]).toArray), (4, .func (.func 100) ([]).toArray ([]).toArray), (5, .pointer (some ⟨b28, 0, none⟩)), (11, .pointer (some ⟨b55, 0, none⟩)), (12, .int .i64 s61.1)] ∧ Gle G54 G ∧ Since w0.heap.size G0 w0 G w ∧ Owns G w w0.heap.size [⟨22, 1, ns61_2, .slice as61_2 ns61_2 cs61_2, clas61_2⟩, ⟨3, 1, ns61_1, .slice as61_1 ns61_1 cs61_1, clas61_1⟩, ⟨45, 3, 1, .slice (some ⟨b55, 0, none⟩) 1 1, [.slice as61_0 ns61_0 cs61_0, .slice as61_1 ns61_1 cs61_1, .slice as61_2 ns61_2 cs61_2]⟩, ⟨3, 1, ns61_0, .slice as61_0 ns61_0 cs61_0, clas61_0⟩] ∧ ns61_0 = s61.2.Uses.length ∧ Rd RInt 1 G clas61_0 s61.2.Uses ∧ ns61_1 = s61.2.Gaps.length ∧ Rd RInt 1 G clas61_1 s61.2.Gaps ∧ ns61_2 = s61.2.Goods.length ∧ Rd (RSlice RInt 1) 1 G clas61_2 s61.2.Goods) ?_ ?_)
     ·have hO : Owns G54 w58 w0.heap.size ([⟨22, 1, 0, .slice none 0 0, []⟩, ⟨3, 1, 0, .slice none 0 0, []⟩, ⟨45, 3, 1, .slice (some ⟨b55, 0, none⟩) 1 1, [.slice aq34_0 nq34_0 cq34_0, .slice none 0 0, .slice none 0 0]⟩, ⟨3, 1, nq34_0, .slice aq34_0 nq34_0 cq34_0, claq34_0⟩]) := hO
      exact ⟨_, G54, aq34_0, nq34_0, cq34_0, claq34_0, none, 0, 0, [], none, 0, 0, [], upds_self _ _ ⟨rfl, rfl, rfl, rfl, rfl, rfl, rfl, trivial⟩, Gle.refl _, hS, hO, hnhq34_0, hq34_0, rfl, (Rd.nil RInt 1 G54), rfl, (Rd.nil (RSlice RInt 1) 1 G54)⟩
     ·rintro s61 F w65 t64 ⟨Fb, G66, as61_0, ns61_0, cs61_0, clas61_0, as61_1, ns61_1, cs61_1, clas61_1, as61_2, ns61_2, cs61_2, clas61_2, rfl, leG66, hS, hO, hnhs61_0, hs61_0, hnhs61_1, hs61_1, hnhs61_2, hs61_2⟩
      intro H1 hqq63
      have Hoq63 := H; have H := H1
      unfold f32_b1 at H
      refine WC_seq ?_; refine WC_seq ?_; refine WC_region ?_; refine WL_val (rn_move (v := (.int .i64 s61.1)) rfl) rfl ?_; refine WL_val (rn_move (v := (.int .i64 x2)) rfl) rfl ?_; refine WL_val (rn_lss rfl rfl) rfl ?_; refine WL_nil ?_; refine WC_cond rfl (fun hb67 => ?_) (fun hb67 => ?_)
      ·have H := ifT hb67 H; refine WC_skip ?_; refine WC_seq ?_; refine WC_block ?_; have hS := hS.keep (below_drew _); have hO := hO.below (below_drew _)
       refine WC_regionD mixedO (fun _ w => Sat G66 w ∧ Owns G66 w w0.heap.size [⟨22, 1, ns61_2, .slice as61_2 ns61_2 cs61_2, clas61_2⟩, ⟨3, 1, ns61_1, .slice as61_1 ns61_1 cs61_1, clas61_1⟩, ⟨45, 3, 1, .slice (some ⟨b55, 0, none⟩) 1 1, [.slice as61_0 ns61_0 cs61_0, .slice as61_1 ns61_1 cs61_1, .slice as61_2 ns61_2 cs61_2]⟩, ⟨3, 1, ns61_0, .slice as61_0 ns61_0 cs61_0, clas61_0⟩]) (.fl 0 (.fl 1 (.fl 2 (.on 3 (.on 4 (.on 5 (.on 6 (.on 7 (.on 8 (.on 9 .nil)))))))))) (by kernel_rfl) rfl (by kernel_rfl) (fun _ => ⟨hS.sat, hO⟩) ?_
       refine WD_val rfl (fun w hw => rn_fld fd45_1 rfl) rfl ?_; refine WD_val rfl (fun w hw => rn_load na22 rfl (own_cell hw.2 (k := 2) rfl (j := 1) rfl)) rfl ?_; refine WD_val rfl (fun w hw => rn_move (v := (.func (.func 99) ([]).toArray ([]).toArray)) rfl) rfl ?_; refine WD_op rfl rfl (OpP_val (rn_fld fd42_2 rfl) rfl ?_); refine ⟨fun _ _ => ⟨hS.sat, hO⟩, ?_⟩
       have l4_6 := leG54.trans leG66
       refine WD_op rfl rfl (OpP_val (rn_loadA ag25 (cs := [.int .i64 x0.Gap.Low, .int .i64 x0.Gap.High]) rfl rfl (fun j v hj => (hS.sat.le l4_6).cell (hcb28.drop_take 2 2 j v hj))) rfl ?_); refine ⟨fun _ _ => ⟨hS.sat, hO⟩, ?_⟩; obtain ⟨y68, hy68, H⟩ := bnd H
       have l3_6 := leG30.trans l4_6
       refine WD_op rfl rfl (OpP_callVF hF26.1 (hF26.2 _ _ l3_6 hS.sat x0.Gap _  hy68) rfl rfl rfl (fun w69 hb => ?_)); have hS := hS.keep hb; have hO := hO.below hb; refine ⟨fun _ _ => ⟨hS.sat, hO⟩, ?_⟩
       refine WD_op rfl rfl (OpP_newF (v := fun b => .slice (some ⟨b, 0, none⟩) 1 1) (cs := [.int .i64 y68]) (e := 3) (by kernel_rfl) hS.sat rfl (fun b70 G72 w71 hg hcb70 => ?_))
       have hS := hS.grow hg; have hO := hO.grow hg
       have leG72 := hg.le
       have hfb70 : RSl RInt 1 G72 (some ⟨b70, 0, none⟩) 1 1 [y68] := RSl.of_rd hcb70 (Rd.cons (c := [.int .i64 y68]) rfl rfl (Rd.nil RInt 1 _)) rfl (by decide)
       refine ⟨fun _ _ => ⟨hS.sat.le leG72, hO.le leG72⟩, ?_⟩; obtain ⟨y73, hy73, H⟩ := bnd H; refine WD_op rfl rfl (OpP_append (k := 1) sl22 RInt_one hS hO rfl hnhs61_1 (hs61_1.mono RInt_mono leG72) hfb70 hy73 rfl rfl rfl rfl rfl (fun aw74 cw74 w74 clw74 hS hO hrw74 => ?_))
       have hO : Owns G72 w74 w0.heap.size ([⟨22, 1, ns61_2, .slice as61_2 ns61_2 cs61_2, clas61_2⟩, ⟨3, 1, y73.length, .slice aw74 y73.length cw74, clw74⟩, ⟨45, 3, 1, .slice (some ⟨b55, 0, none⟩) 1 1, [.slice as61_0 ns61_0 cs61_0, .slice as61_1 ns61_1 cs61_1, .slice as61_2 ns61_2 cs61_2]⟩, ⟨3, 1, ns61_0, .slice as61_0 ns61_0 cs61_0, clas61_0⟩]) := hO
       refine ⟨fun _ h => noneed (by kernel_rfl) h, ?_⟩
       refine WD_op rfl rfl (OpP_val (rn_fld fd45_1 rfl) rfl ?_)
       refine ⟨fun _ h => noneed (by kernel_rfl) h, ?_⟩
       refine WD_op rfl rfl (OpP_store (vs := [.slice aw74 y73.length cw74]) sz22 hS hO (k := 2) rfl rfl rfl rfl rfl (one_all rfl) (Nat.le_of_ble_eq_true rfl) (fun w75 hS hO => ?_))
       have hO : Owns G72 w75 w0.heap.size ([⟨22, 1, ns61_2, .slice as61_2 ns61_2 cs61_2, clas61_2⟩, ⟨3, 1, y73.length, .slice aw74 y73.length cw74, clw74⟩, ⟨45, 3, 1, .slice (some ⟨b55, 0, none⟩) 1 1, [.slice as61_0 ns61_0 cs61_0, .slice aw74 y73.length cw74, .slice as61_2 ns61_2 cs61_2]⟩, ⟨3, 1, ns61_0, .slice as61_0 ns61_0 cs61_0, clas61_0⟩]) := hO
       refine ⟨fun _ h => noneed (by kernel_rfl) h, ?_⟩
       refine WD_nil ?_; refine WC_region ?_; refine WL_val (rn_move (v := (.int .i64 s61.1)) rfl) rfl ?_; refine WL_val (rn_move (v := (.func (.func 99) ([]).toArray ([]).toArray)) rfl) rfl ?_; refine WL_val (rn_fld fd42_2 rfl) rfl ?_
       have l4_7 := l4_6.trans leG72
       refine WL_val (rn_loadA ag25 (cs := [.int .i64 x0.Gap.Low, .int .i64 x0.Gap.High]) rfl rfl (fun j v hj => (hS.sat.le l4_7).cell (hcb28.drop_take 2 2 j v hj))) rfl ?_; obtain ⟨y76, hy76, H⟩ := bnd H
       have l3_7 := l3_6.trans leG72
       refine WL_op rfl (OpP_callVF hF26.1 (hF26.2 _ _ l3_7 hS.sat x0.Gap _  hy76) rfl rfl rfl (fun w77 hb => ?_)); have hS := hS.keep hb; have hO := hO.below hb; refine WL_val (rn_add rfl rfl) rfl ?_; refine WL_val (rn_assign (v := (.int .i64 (IntKind.i64.wrap (s61.1 + y76)))) rfl) rfl ?_; refine WL_nil ?_
       have hO : Owns G72 w77 w0.heap.size ([⟨22, 1, ns61_2, .slice as61_2 ns61_2 cs61_2, clas61_2⟩, ⟨3, 1, y73.length, .slice aw74 y73.length cw74, clw74⟩, ⟨45, 3, 1, .slice (some ⟨b55, 0, none⟩) 1 1, [.slice as61_0 ns61_0 cs61_0, .slice aw74 y73.length cw74, .slice as61_2 ns61_2 cs61_2]⟩, ⟨3, 1, ns61_0, .slice as61_0 ns61_0 cs61_0, clas61_0⟩]) := hO
       have H := Option.some.inj H; subst H; refine ⟨_, rfl, ?_⟩
       have l5_7 := leG66.trans leG72
       exact ⟨_, G72, as61_0, ns61_0, cs61_0, clas61_0, aw74, y73.length, cw74, clw74, as61_2, ns61_2, cs61_2, clas61_2, upds_self _ _ ⟨rfl, rfl, rfl, rfl, rfl, rfl, rfl, trivial⟩, l5_7, hS, hO, hnhs61_0, (hs61_0.mono RInt_mono leG72), rfl, hrw74, hnhs61_2, (hs61_2.mono (RSlice_mono RInt_mono) leG72)⟩
      ·have H := ifF hb67 H; refine WC_exit rfl ?_
       have hO : Owns G66 w65 w0.heap.size ([⟨22, 1, ns61_2, .slice as61_2 ns61_2 cs61_2, clas61_2⟩, ⟨3, 1, ns61_1, .slice as61_1 ns61_1 cs61_1, clas61_1⟩, ⟨45, 3, 1, .slice (some ⟨b55, 0, none⟩) 1 1, [.slice as61_0 ns61_0 cs61_0, .slice as61_1 ns61_1 cs61_1, .slice as61_2 ns61_2 cs61_2]⟩, ⟨3, 1, ns61_0, .slice as61_0 ns61_0 cs61_0, clas61_0⟩]) := hO
       have H := Option.some.inj H; subst H
       have hres := hqq63 _ rfl
       subst hres
       exact ⟨_, G66, as61_0, ns61_0, cs61_0, clas61_0, as61_1, ns61_1, cs61_1, clas61_1, as61_2, ns61_2, cs61_2, clas61_2, upds_self _ _ ⟨rfl, rfl, rfl, rfl, trivial⟩, leG66, hS, hO, hnhs61_0, hs61_0, hnhs61_1, hs61_1, hnhs61_2, hs61_2⟩
    ·rintro F w78 ⟨Fb, G79, aq63_0, nq63_0, cq63_0, claq63_0, aq63_1, nq63_1, cq63_1, claq63_1, aq63_2, nq63_2, cq63_2, claq63_2, rfl, leG79, hS, hO, hnhq63_0, hq63_0, hnhq63_1, hq63_1, hnhq63_2, hq63_2⟩
     refine WC_seq ?_; refine WC_seq ?_; refine WC_region ?_; refine WL_val (rn_fld fd42_3 rfl) rfl ?_
     have l4_6 := leG54.trans leG79
     refine WL_val (rn_load na40 rfl ((hS.sat.le l4_6).cell (hcb28 4 _ rfl))) rfl ?_
     have l0_6 := l0_4.trans l4_6
     refine WL_val (rn_len sl40 rfl rfl (h3.mono RTShipLot_mono l0_6).1) rfl ?_; refine WL_val (rn_move (v := (.int .i64 0)) rfl) rfl ?_; refine WL_nil ?_; obtain ⟨q82, hq82, H⟩ := bnd H; refine WC_cut (fun F w => ∃ (Fb : Fr) (G : Gm) (aq82_0 : Option Addr) (nq82_0 cq82_0 : Nat) (claq82_0 : List Value) (aq82_1 : Option Addr) (nq82_1 cq82_1 : Nat) (claq82_1 : List Value) (aq82_2 : Option Addr) (nq82_2 cq82_2 : Nat) (claq82_2 : List Value), F = upds Fb [(1, .slice a4 n4 c4), (5, .pointer (some ⟨b28, 0, none⟩)), (11, .pointer (some ⟨b55, 0, none⟩))] ∧ Gle G79 G ∧ Since w0.heap.size G0 w0 G w ∧ Owns G w w0.heap.size [⟨22, 1, nq82_2, .slice aq82_2 nq82_2 cq82_2, claq82_2⟩, ⟨3, 1, nq82_1, .slice aq82_1 nq82_1 cq82_1, claq82_1⟩, ⟨45, 3, 1, .slice (some ⟨b55, 0, none⟩) 1 1, [.slice aq82_0 nq82_0 cq82_0, .slice aq82_1 nq82_1 cq82_1, .slice aq82_2 nq82_2 cq82_2]⟩, ⟨3, 1, nq82_0, .slice aq82_0 nq82_0 cq82_0, claq82_0⟩] ∧ nq82_0 = q82.Uses.length ∧ Rd RInt 1 G claq82_0 q82.Uses ∧ nq82_1 = q82.Gaps.length ∧ Rd RInt 1 G claq82_1 q82.Gaps ∧ nq82_2 = q82.Goods.length ∧ Rd (RSlice RInt 1) 1 G claq82_2 q82.Goods) ?_ ?_
     ·refine WC_block (WC_loop hq82 (fun s80 F w => ∃ (Fb : Fr) (G : Gm) (as80_0 : Option Addr) (ns80_0 cs80_0 : Nat) (clas80_0 : List Value) (as80_1 : Option Addr) (ns80_1 cs80_1 : Nat) (clas80_1 : List Value) (as80_2 : Option Addr) (ns80_2 cs80_2 : Nat) (clas80_2 : List Value), F = upds Fb [(1, .slice a4 n4 c4), (4, .func (.func 100) ([]).toArray ([]).toArray), (5, .pointer (some ⟨b28, 0, none⟩)), (11, .pointer (some ⟨b55, 0, none⟩)), (40, .slice a3 n3 c3), (41, .int .i64 (x0.Lots.length : Int)), (42, .int .i64 s80.1)] ∧ Gle G79 G ∧ Since w0.heap.size G0 w0 G w ∧ Owns G w w0.heap.size [⟨22, 1, ns80_2, .slice as80_2 ns80_2 cs80_2, clas80_2⟩, ⟨3, 1, ns80_1, .slice as80_1 ns80_1 cs80_1, clas80_1⟩, ⟨45, 3, 1, .slice (some ⟨b55, 0, none⟩) 1 1, [.slice as80_0 ns80_0 cs80_0, .slice as80_1 ns80_1 cs80_1, .slice as80_2 ns80_2 cs80_2]⟩, ⟨3, 1, ns80_0, .slice as80_0 ns80_0 cs80_0, clas80_0⟩] ∧ ns80_0 = s80.2.Uses.length ∧ Rd RInt 1 G clas80_0 s80.2.Uses ∧ ns80_1 = s80.2.Gaps.length ∧ Rd RInt 1 G clas80_1 s80.2.Gaps ∧ ns80_2 = s80.2.Goods.length ∧ Rd (RSlice RInt 1) 1 G clas80_2 s80.2.Goods) ?_ ?_)
      ·have hO : Owns G79 w78 w0.heap.size ([⟨22, 1, nq63_2, .slice aq63_2 nq63_2 cq63_2, claq63_2⟩, ⟨3, 1, nq63_1, .slice aq63_1 nq63_1 cq63_1, claq63_1⟩, ⟨45, 3, 1, .slice (some ⟨b55, 0, none⟩) 1 1, [.slice aq63_0 nq63_0 cq63_0, .slice aq63_1 nq63_1 cq63_1, .slice aq63_2 nq63_2 cq63_2]⟩, ⟨3, 1, nq63_0, .slice aq63_0 nq63_0 cq63_0, claq63_0⟩]) := hO
       exact ⟨_, G79, aq63_0, nq63_0, cq63_0, claq63_0, aq63_1, nq63_1, cq63_1, claq63_1, aq63_2, nq63_2, cq63_2, claq63_2, upds_self _ _ ⟨rfl, rfl, rfl, rfl, rfl, rfl, rfl, trivial⟩, Gle.refl _, hS, hO, hnhq63_0, hq63_0, hnhq63_1, hq63_1, hnhq63_2, hq63_2⟩
      ·rintro s80 F w84 t83 ⟨Fb, G85, as80_0, ns80_0, cs80_0, clas80_0, as80_1, ns80_1, cs80_1, clas80_1, as80_2, ns80_2, cs80_2, clas80_2, rfl, leG85, hS, hO, hnhs80_0, hs80_0, hnhs80_1, hs80_1, hnhs80_2, hs80_2⟩
       intro H1 hqq82
       have Hoq82 := H; have H := H1
       unfold f32_b2 at H
       refine WC_seq ?_; refine WC_region ?_; refine WL_val (rn_lss rfl rfl) rfl ?_; refine WL_nil ?_; refine WC_seq ?_; refine WC_cond rfl (fun hb86 => ?_) (fun hb86 => ?_)
       ·have H := ifT hb86 H; refine WC_skip ?_; refine WC_seq ?_; refine WC_block ?_; refine WC_seq ?_; refine WC_region ?_; obtain ⟨y87, hy87, H⟩ := bnd H
        have l0_7 := l0_6.trans leG85
        refine WL_idx sl40 (h3.mono RTShipLot_mono l0_7) hy87 rfl rfl rfl ?_
        rintro b88 o88 _ hcb88 _ ⟨a89, n89, c89, ⟨⟩, h89⟩
        refine WL_val (rn_loadA ag111 (cs := [.slice a89 n89 c89, .int .i64 y87.Weight, .int .i64 y87.Cost]) rfl rfl (fun j v hj => hS.sat.cell (hcb88.drop_take 0 3 j v hj))) rfl ?_
        refine WL_op rfl (OpP_newO (v := fun b => .pointer (some ⟨b, 0, none⟩)) (cs := [.slice none 0 0, .int .i64 0, .int .i64 0]) (e := 111) (by kernel_rfl) hS.sat hO rfl 3 1 rfl (by decide) (fun b90 w91 hb hO => ?_))
        have hS := hS.keep hb; refine WL_op rfl (OpP_store (vs := [.slice a89 n89 c89, .int .i64 y87.Weight, .int .i64 y87.Cost]) sz111 hS hO (k := 0) rfl rfl rfl rfl rfl (one_all rfl) (Nat.le_of_ble_eq_true rfl) (fun w93 hS hO => ?_))
        have hO : Owns G85 w93 w0.heap.size ([⟨111, 3, 1, .slice (some ⟨b90, 0, none⟩) 1 1, [.slice a89 n89 c89, .int .i64 y87.Weight, .int .i64 y87.Cost]⟩, ⟨22, 1, ns80_2, .slice as80_2 ns80_2 cs80_2, clas80_2⟩, ⟨3, 1, ns80_1, .slice as80_1 ns80_1 cs80_1, clas80_1⟩, ⟨45, 3, 1, .slice (some ⟨b55, 0, none⟩) 1 1, [.slice as80_0 ns80_0 cs80_0, .slice as80_1 ns80_1 cs80_1, .slice as80_2 ns80_2 cs80_2]⟩, ⟨3, 1, ns80_0, .slice as80_0 ns80_0 cs80_0, clas80_0⟩]) := hO
        obtain ⟨G94, leG94, hS, hO, hqG94, _⟩ := hO.freeze hS (k := 0) rfl
        have hcG94 : Cells G94 b90 0 [.slice a89 n89 c89, .int .i64 y87.Weight, .int .i64 y87.Cost] := (hqG94 _ _ _ _ rfl)
        refine WL_nil ?_; refine WC_seq ?_; refine WC_region ?_; refine WL_val (rn_fld fd111_0 rfl) rfl ?_; refine WL_val (rn_load na23 rfl (hS.sat.cell (hcG94 0 _ rfl))) rfl ?_; refine WL_val (rn_move (v := (.func (.func 100) ([]).toArray ([]).toArray)) rfl) rfl ?_; refine WL_op rfl (OpP_in1 (N' := 22) [.slice a89 n89 c89, .func (.func 100) ([]).toArray ([]).toArray] cb111 Try.func111 rfl rfl rfl rfl rfl rfl ?_); refine WC_seq ?_; refine WC_region ?_; refine WL_val (rn_assign (v := (.slice none 0 0)) rfl) rfl ?_; refine WL_nil ?_; refine WC_seq ?_; refine WC_region ?_; refine WL_val (rn_assign (v := (.slice none 0 0)) rfl) rfl ?_; refine WL_nil ?_; refine WC_seq ?_; refine WC_seq ?_; refine WC_region ?_; refine WL_val (rn_move (v := (.slice a89 n89 c89)) rfl) rfl ?_; refine WL_val (rn_len sl23 rfl rfl (h89.mono RTSpan_mono leG94).1) rfl ?_; refine WL_val (rn_move (v := (.int .i64 0)) rfl) rfl ?_; refine WL_nil ?_; have hO := hO.cons_nil 3 1; obtain ⟨q98, hq98, H⟩ := bnd H; refine WC_cut (fun F w => ∃ (Fb : Fr) (G : Gm) (aq98_0 : Option Addr) (nq98_0 cq98_0 : Nat) (claq98_0 : List Value) (aq98_1 : Option Addr) (nq98_1 cq98_1 : Nat) (claq98_1 : List Value) (aq98_2 : Option Addr) (nq98_2 cq98_2 : Nat) (claq98_2 : List Value) (aq98_3 : Option Addr) (nq98_3 cq98_3 : Nat) (claq98_3 : List Value), F = upds Fb [(5, .slice aq98_0 nq98_0 cq98_0)] ∧ Gle G94 G ∧ Since w0.heap.size G0 w0 G w ∧ Owns G w w0.heap.size [⟨3, 1, nq98_0, .slice aq98_0 nq98_0 cq98_0, claq98_0⟩, ⟨22, 1, nq98_3, .slice aq98_3 nq98_3 cq98_3, claq98_3⟩, ⟨3, 1, nq98_2, .slice aq98_2 nq98_2 cq98_2, claq98_2⟩, ⟨45, 3, 1, .slice (some ⟨b55, 0, none⟩) 1 1, [.slice aq98_1 nq98_1 cq98_1, .slice aq98_2 nq98_2 cq98_2, .slice aq98_3 nq98_3 cq98_3]⟩, ⟨3, 1, nq98_1, .slice aq98_1 nq98_1 cq98_1, claq98_1⟩] ∧ nq98_0 = q98.1.length ∧ Rd RInt 1 G claq98_0 q98.1 ∧ nq98_1 = q98.2.Uses.length ∧ Rd RInt 1 G claq98_1 q98.2.Uses ∧ nq98_2 = q98.2.Gaps.length ∧ Rd RInt 1 G claq98_2 q98.2.Gaps ∧ nq98_3 = q98.2.Goods.length ∧ Rd (RSlice RInt 1) 1 G claq98_3 q98.2.Goods) ?_ ?_
        ·refine WC_block (WC_loop hq98 (fun s96 F w => ∃ (Fb : Fr) (G : Gm) (as96_0 : Option Addr) (ns96_0 cs96_0 : Nat) (clas96_0 : List Value) (as96_1 : Option Addr) (ns96_1 cs96_1 : Nat) (clas96_1 : List Value) (as96_2 : Option Addr) (ns96_2 cs96_2 : Nat) (clas96_2 : List Value) (as96_3 : Option Addr) (ns96_3 cs96_3 : Nat) (clas96_3 : List Value), F = upds Fb [(1, .func (.func 100) ([]).toArray ([]).toArray), (5, .slice as96_0 ns96_0 cs96_0), (8, .slice a89 n89 c89), (9, .int .i64 (y87.Goods.length : Int)), (10, .int .i64 s96.2.1)] ∧ Gle G94 G ∧ Since w0.heap.size G0 w0 G w ∧ Owns G w w0.heap.size [⟨3, 1, ns96_0, .slice as96_0 ns96_0 cs96_0, clas96_0⟩, ⟨22, 1, ns96_3, .slice as96_3 ns96_3 cs96_3, clas96_3⟩, ⟨3, 1, ns96_2, .slice as96_2 ns96_2 cs96_2, clas96_2⟩, ⟨45, 3, 1, .slice (some ⟨b55, 0, none⟩) 1 1, [.slice as96_1 ns96_1 cs96_1, .slice as96_2 ns96_2 cs96_2, .slice as96_3 ns96_3 cs96_3]⟩, ⟨3, 1, ns96_1, .slice as96_1 ns96_1 cs96_1, clas96_1⟩] ∧ ns96_0 = s96.1.length ∧ Rd RInt 1 G clas96_0 s96.1 ∧ ns96_1 = s96.2.2.Uses.length ∧ Rd RInt 1 G clas96_1 s96.2.2.Uses ∧ ns96_2 = s96.2.2.Gaps.length ∧ Rd RInt 1 G clas96_2 s96.2.2.Gaps ∧ ns96_3 = s96.2.2.Goods.length ∧ Rd (RSlice RInt 1) 1 G clas96_3 s96.2.2.Goods) ?_ ?_)
         ·have hO : Owns G94 w93 w0.heap.size ([⟨3, 1, 0, .slice none 0 0, []⟩, ⟨22, 1, ns80_2, .slice as80_2 ns80_2 cs80_2, clas80_2⟩, ⟨3, 1, ns80_1, .slice as80_1 ns80_1 cs80_1, clas80_1⟩, ⟨45, 3, 1, .slice (some ⟨b55, 0, none⟩) 1 1, [.slice as80_0 ns80_0 cs80_0, .slice as80_1 ns80_1 cs80_1, .slice as80_2 ns80_2 cs80_2]⟩, ⟨3, 1, ns80_0, .slice as80_0 ns80_0 cs80_0, clas80_0⟩]) := hO
          exact ⟨_, G94, none, 0, 0, [], as80_0, ns80_0, cs80_0, clas80_0, as80_1, ns80_1, cs80_1, clas80_1, as80_2, ns80_2, cs80_2, clas80_2, upds_self _ _ ⟨rfl, rfl, rfl, rfl, rfl, trivial⟩, Gle.refl _, hS, hO, rfl, (Rd.nil RInt 1 G94), hnhs80_0, (hs80_0.mono RInt_mono leG94), hnhs80_1, (hs80_1.mono RInt_mono leG94), hnhs80_2, (hs80_2.mono (RSlice_mono RInt_mono) leG94)⟩
         ·rintro s96 F w100 t99 ⟨Fb, G101, as96_0, ns96_0, cs96_0, clas96_0, as96_1, ns96_1, cs96_1, clas96_1, as96_2, ns96_2, cs96_2, clas96_2, as96_3, ns96_3, cs96_3, clas96_3, rfl, leG101, hS, hO, hnhs96_0, hs96_0, hnhs96_1, hs96_1, hnhs96_2, hs96_2, hnhs96_3, hs96_3⟩
          intro H1 hqq98
          have Hoq98 := H; have H := H1
          unfold f32_b3 at H
          refine WC_seq ?_; refine WC_region ?_; refine WL_val (rn_lss rfl rfl) rfl ?_; refine WL_nil ?_; refine WC_seq ?_; refine WC_cond rfl (fun hb102 => ?_) (fun hb102 => ?_)
          ·have H := ifT hb102 H; refine WC_skip ?_; refine WC_seq ?_; refine WC_block ?_; refine WC_seq ?_; refine WC_region ?_; obtain ⟨y103, hy103, H⟩ := bnd H
           have l7_9 := leG94.trans leG101
           refine WL_idx sl23 (h89.mono RTSpan_mono l7_9) hy103 rfl rfl rfl ?_
           rintro b104 o104 _ hcb104 _ ⟨⟩
           refine WL_val (rn_loadA ag25 (cs := [.int .i64 y103.Low, .int .i64 y103.High]) rfl rfl (fun j v hj => hS.sat.cell (hcb104.drop_take 0 2 j v hj))) rfl ?_
           refine WL_op rfl (OpP_newO (v := fun b => .pointer (some ⟨b, 0, none⟩)) (cs := [.int .i64 0, .int .i64 0]) (e := 25) (by kernel_rfl) hS.sat hO rfl 2 1 rfl (by decide) (fun b105 w106 hb hO => ?_))
           have hS := hS.keep hb; refine WL_op rfl (OpP_store (vs := [.int .i64 y103.Low, .int .i64 y103.High]) sz25 hS hO (k := 0) rfl rfl rfl rfl rfl (one_all rfl) (Nat.le_of_ble_eq_true rfl) (fun w108 hS hO => ?_))
           have hO : Owns G101 w108 w0.heap.size ([⟨25, 2, 1, .slice (some ⟨b105, 0, none⟩) 1 1, [.int .i64 y103.Low, .int .i64 y103.High]⟩, ⟨3, 1, ns96_0, .slice as96_0 ns96_0 cs96_0, clas96_0⟩, ⟨22, 1, ns96_3, .slice as96_3 ns96_3 cs96_3, clas96_3⟩, ⟨3, 1, ns96_2, .slice as96_2 ns96_2 cs96_2, clas96_2⟩, ⟨45, 3, 1, .slice (some ⟨b55, 0, none⟩) 1 1, [.slice as96_1 ns96_1 cs96_1, .slice as96_2 ns96_2 cs96_2, .slice as96_3 ns96_3 cs96_3]⟩, ⟨3, 1, ns96_1, .slice as96_1 ns96_1 cs96_1, clas96_1⟩]) := hO
           obtain ⟨G109, leG109, hS, hO, hqG109, _⟩ := hO.freeze hS (k := 0) rfl
           have hcG109 : Cells G109 b105 0 [.int .i64 y103.Low, .int .i64 y103.High] := (hqG109 _ _ _ _ rfl)
           refine WL_nil ?_; refine WC_region ?_; refine WL_val (rn_move (v := (.slice as96_0 ns96_0 cs96_0)) rfl) rfl ?_; refine WL_val (rn_move (v := (.func (.func 100) ([]).toArray ([]).toArray)) rfl) rfl ?_; refine WL_val (rn_loadA ag25 (cs := [.int .i64 y103.Low, .int .i64 y103.High]) rfl rfl (fun j v hj => hS.sat.cell (hcG109.drop_take 0 2 j v hj))) rfl ?_; obtain ⟨y110, hy110, H⟩ := bnd H
           have l3_10 := (((leG30.trans l4_6).trans leG85).trans l7_9).trans leG109
           refine WL_op rfl (OpP_callVF hF27.1 (hF27.2 _ _ l3_10 hS.sat y103 _  hy110) rfl rfl rfl (fun w111 hb => ?_)); have hS := hS.keep hb; have hO := hO.below hb
           refine WL_op rfl (OpP_newF (v := fun b => .slice (some ⟨b, 0, none⟩) 1 1) (cs := [.int .i64 y110]) (e := 3) (by kernel_rfl) hS.sat rfl (fun b112 G114 w113 hg hcb112 => ?_))
           have hS := hS.grow hg; have hO := hO.grow hg
           have leG114 := hg.le
           have hfb112 : RSl RInt 1 G114 (some ⟨b112, 0, none⟩) 1 1 [y110] := RSl.of_rd hcb112 (Rd.cons (c := [.int .i64 y110]) rfl rfl (Rd.nil RInt 1 _)) rfl (by decide)
           obtain ⟨y115, hy115, H⟩ := bnd H
           have l9_11 := leG109.trans leG114
           refine WL_op rfl (OpP_append (k := 0) sl22 RInt_one hS hO rfl hnhs96_0 (hs96_0.mono RInt_mono l9_11) hfb112 hy115 rfl rfl rfl rfl rfl (fun aw116 cw116 w116 clw116 hS hO hrw116 => ?_))
           have hO : Owns G114 w116 w0.heap.size ([⟨3, 1, y115.length, .slice aw116 y115.length cw116, clw116⟩, ⟨22, 1, ns96_3, .slice as96_3 ns96_3 cs96_3, clas96_3⟩, ⟨3, 1, ns96_2, .slice as96_2 ns96_2 cs96_2, clas96_2⟩, ⟨45, 3, 1, .slice (some ⟨b55, 0, none⟩) 1 1, [.slice as96_1 ns96_1 cs96_1, .slice as96_2 ns96_2 cs96_2, .slice as96_3 ns96_3 cs96_3]⟩, ⟨3, 1, ns96_1, .slice as96_1 ns96_1 cs96_1, clas96_1⟩]) := hO
           refine WL_val (rn_assign (v := (.slice aw116 y115.length cw116)) rfl) rfl ?_; refine WL_nil ?_; refine WC_region ?_; refine WL_val (rn_add rfl rfl) rfl ?_; refine WL_val (rn_move (v := (.int .i64 (IntKind.i64.wrap (s96.2.1 + 1)))) rfl) rfl ?_; refine WL_nil ?_
           have hO : Owns G114 w116 w0.heap.size ([⟨3, 1, y115.length, .slice aw116 y115.length cw116, clw116⟩, ⟨22, 1, ns96_3, .slice as96_3 ns96_3 cs96_3, clas96_3⟩, ⟨3, 1, ns96_2, .slice as96_2 ns96_2 cs96_2, clas96_2⟩, ⟨45, 3, 1, .slice (some ⟨b55, 0, none⟩) 1 1, [.slice as96_1 ns96_1 cs96_1, .slice as96_2 ns96_2 cs96_2, .slice as96_3 ns96_3 cs96_3]⟩, ⟨3, 1, ns96_1, .slice as96_1 ns96_1 cs96_1, clas96_1⟩]) := hO
           have H := Option.some.inj H; subst H; refine ⟨_, rfl, ?_⟩
           have l8_11 := leG101.trans l9_11
           exact ⟨_, G114, aw116, y115.length, cw116, clw116, as96_1, ns96_1, cs96_1, clas96_1, as96_2, ns96_2, cs96_2, clas96_2, as96_3, ns96_3, cs96_3, clas96_3, upds_self _ _ ⟨rfl, rfl, rfl, rfl, rfl, trivial⟩, l8_11, hS, hO, rfl, hrw116, hnhs96_1, (hs96_1.mono RInt_mono l9_11), hnhs96_2, (hs96_2.mono RInt_mono l9_11), hnhs96_3, (hs96_3.mono (RSlice_mono RInt_mono) l9_11)⟩
          ·have H := ifF hb102 H; refine WC_exit rfl ?_
           have hO : Owns G101 w100 w0.heap.size ([⟨3, 1, ns96_0, .slice as96_0 ns96_0 cs96_0, clas96_0⟩, ⟨22, 1, ns96_3, .slice as96_3 ns96_3 cs96_3, clas96_3⟩, ⟨3, 1, ns96_2, .slice as96_2 ns96_2 cs96_2, clas96_2⟩, ⟨45, 3, 1, .slice (some ⟨b55, 0, none⟩) 1 1, [.slice as96_1 ns96_1 cs96_1, .slice as96_2 ns96_2 cs96_2, .slice as96_3 ns96_3 cs96_3]⟩, ⟨3, 1, ns96_1, .slice as96_1 ns96_1 cs96_1, clas96_1⟩]) := hO
           have H := Option.some.inj H; subst H
           have hres := hqq98 _ rfl
           subst hres
           exact ⟨_, G101, as96_0, ns96_0, cs96_0, clas96_0, as96_1, ns96_1, cs96_1, clas96_1, as96_2, ns96_2, cs96_2, clas96_2, as96_3, ns96_3, cs96_3, clas96_3, upds_self _ _ ⟨rfl, trivial⟩, leG101, hS, hO, hnhs96_0, hs96_0, hnhs96_1, hs96_1, hnhs96_2, hs96_2, hnhs96_3, hs96_3⟩
        ·rintro F w117 ⟨Fb, G118, aq98_0, nq98_0, cq98_0, claq98_0, aq98_1, nq98_1, cq98_1, claq98_1, aq98_2, nq98_2, cq98_2, claq98_2, aq98_3, nq98_3, cq98_3, claq98_3, rfl, leG118, hS, hO, hnhq98_0, hq98_0, hnhq98_1, hq98_1, hnhq98_2, hq98_2, hnhq98_3, hq98_3⟩
         refine WC_seq ?_; refine WC_region ?_; refine WL_val (rn_move (v := (.slice aq98_0 nq98_0 cq98_0)) rfl) rfl ?_; refine WL_val (rn_assign (v := (.slice aq98_0 nq98_0 cq98_0)) rfl) rfl ?_; refine WL_nil ?_; refine WC_ret ?_; refine ⟨(.slice aq98_0 nq98_0 cq98_0), rfl, ?_⟩
         have hO : Owns G118 w117 w0.heap.size ([⟨3, 1, nq98_0, .slice aq98_0 nq98_0 cq98_0, claq98_0⟩, ⟨22, 1, nq98_3, .slice aq98_3 nq98_3 cq98_3, claq98_3⟩, ⟨3, 1, nq98_2, .slice aq98_2 nq98_2 cq98_2, claq98_2⟩, ⟨45, 3, 1, .slice (some ⟨b55, 0, none⟩) 1 1, [.slice aq98_1 nq98_1 cq98_1, .slice aq98_2 nq98_2 cq98_2, .slice aq98_3 nq98_3 cq98_3]⟩, ⟨3, 1, nq98_1, .slice aq98_1 nq98_1 cq98_1, claq98_1⟩]) := hO
         refine WL_val (rn_assign (v := (.slice aq98_0 nq98_0 cq98_0)) rfl) rfl ?_; refine WL_nil ?_; refine WC_region ?_; refine WL_val (rn_fld fd45_2 rfl) rfl ?_; refine WL_val (rn_load na43 rfl (own_cell hO (k := 3) rfl (j := 2) rfl)) rfl ?_; refine WL_val (rn_move (v := (.slice aq98_0 nq98_0 cq98_0)) rfl) rfl ?_; obtain ⟨G119, leG119, hS, hO, hfG119⟩ := hO.freezeS hS RInt_mono (k := 0) rfl hq98_0 hnhq98_0
         refine WL_op rfl (OpP_newF (v := fun b => .slice (some ⟨b, 0, none⟩) 1 1) (cs := [.slice aq98_0 nq98_0 cq98_0]) (e := 22) (by kernel_rfl) hS.sat rfl (fun b120 G122 w121 hg hcb120 => ?_))
         have hS := hS.grow hg; have hO := hO.grow hg
         have leG122 := hg.le
         have hfb120 : RSl (RSlice RInt 1) 1 G122 (some ⟨b120, 0, none⟩) 1 1 [q98.1] := RSl.of_rd hcb120 (Rd.cons (c := [.slice aq98_0 nq98_0 cq98_0]) rfl ⟨_, _, _, rfl, (hfG119.mono RInt_mono leG122)⟩ (Rd.nil (RSlice RInt 1) 1 _)) rfl (by decide)
         obtain ⟨y123, hy123, H⟩ := bnd H
         have l9_11 := leG119.trans leG122
         refine WL_op rfl (OpP_append (k := 0) sl43 (RSlice_one RInt 1) hS hO rfl hnhq98_3 (hq98_3.mono (RSlice_mono RInt_mono) l9_11) hfb120 hy123 rfl rfl rfl rfl rfl (fun aw124 cw124 w124 clw124 hS hO hrw124 => ?_))
         have hO : Owns G122 w124 w0.heap.size ([⟨22, 1, y123.length, .slice aw124 y123.length cw124, clw124⟩, ⟨3, 1, nq98_2, .slice aq98_2 nq98_2 cq98_2, claq98_2⟩, ⟨45, 3, 1, .slice (some ⟨b55, 0, none⟩) 1 1, [.slice aq98_1 nq98_1 cq98_1, .slice aq98_2 nq98_2 cq98_2, .slice aq98_3 nq98_3 cq98_3]⟩, ⟨3, 1, nq98_1, .slice aq98_1 nq98_1 cq98_1, claq98_1⟩]) := hO
         refine WL_val (rn_fld fd45_2 rfl) rfl ?_; refine WL_op rfl (OpP_store (vs := [.slice aw124 y123.length cw124]) sz43 hS hO (k := 2) rfl rfl rfl rfl rfl (one_all rfl) (Nat.le_of_ble_eq_true rfl) (fun w125 hS hO => ?_))
         have hO : Owns G122 w125 w0.heap.size ([⟨22, 1, y123.length, .slice aw124 y123.length cw124, clw124⟩, ⟨3, 1, nq98_2, .slice aq98_2 nq98_2 cq98_2, claq98_2⟩, ⟨45, 3, 1, .slice (some ⟨b55, 0, none⟩) 1 1, [.slice aq98_1 nq98_1 cq98_1, .slice aq98_2 nq98_2 cq98_2, .slice aw124 y123.length cw124]⟩, ⟨3, 1, nq98_1, .slice aq98_1 nq98_1 cq98_1, claq98_1⟩]) := hO
         refine WL_nil ?_; refine WC_region ?_; refine WL_val (rn_add rfl rfl) rfl ?_; refine WL_val (rn_move (v := (.int .i64 (IntKind.i64.wrap (s80.1 + 1)))) rfl) rfl ?_; refine WL_nil ?_
         have hO : Owns G122 w125 w0.heap.size ([⟨22, 1, y123.length, .slice aw124 y123.length cw124, clw124⟩, ⟨3, 1, nq98_2, .slice aq98_2 nq98_2 cq98_2, claq98_2⟩, ⟨45, 3, 1, .slice (some ⟨b55, 0, none⟩) 1 1, [.slice aq98_1 nq98_1 cq98_1, .slice aq98_2 nq98_2 cq98_2, .slice aw124 y123.length cw124]⟩, ⟨3, 1, nq98_1, .slice aq98_1 nq98_1 cq98_1, claq98_1⟩]) := hO
         have H := Option.some.inj H; subst H; refine ⟨_, rfl, ?_⟩
         have l6_11 := ((leG85.trans leG94).trans leG118).trans l9_11
         exact ⟨_, G122, aq98_1, nq98_1, cq98_1, claq98_1, aq98_2, nq98_2, cq98_2, claq98_2, aw124, y123.length, cw124, clw124, upds_self _ _ ⟨rfl, rfl, rfl, rfl, rfl, rfl, rfl, trivial⟩, l6_11, hS, hO, hnhq98_1, (hq98_1.mono RInt_mono l9_11), hnhq98_2, (hq98_2.mono RInt_mono l9_11), rfl, hrw124⟩
       ·have H := ifF hb86 H; refine WC_exit rfl ?_
        have hO : Owns G85 w84 w0.heap.size ([⟨22, 1, ns80_2, .slice as80_2 ns80_2 cs80_2, clas80_2⟩, ⟨3, 1, ns80_1, .slice as80_1 ns80_1 cs80_1, clas80_1⟩, ⟨45, 3, 1, .slice (some ⟨b55, 0, none⟩) 1 1, [.slice as80_0 ns80_0 cs80_0, .slice as80_1 ns80_1 cs80_1, .slice as80_2 ns80_2 cs80_2]⟩, ⟨3, 1, ns80_0, .slice as80_0 ns80_0 cs80_0, clas80_0⟩]) := hO
        have H := Option.some.inj H; subst H
        have hres := hqq82 _ rfl
        subst hres
        exact ⟨_, G85, as80_0, ns80_0, cs80_0, clas80_0, as80_1, ns80_1, cs80_1, clas80_1, as80_2, ns80_2, cs80_2, clas80_2, upds_self _ _ ⟨rfl, rfl, rfl, trivial⟩, leG85, hS, hO, hnhs80_0, hs80_0, hnhs80_1, hs80_1, hnhs80_2, hs80_2⟩
     ·rintro F w126 ⟨Fb, G127, aq82_0, nq82_0, cq82_0, claq82_0, aq82_1, nq82_1, cq82_1, claq82_1, aq82_2, nq82_2, cq82_2, claq82_2, rfl, leG127, hS, hO, hnhq82_0, hq82_0, hnhq82_1, hq82_1, hnhq82_2, hq82_2⟩
      refine WC_seq ?_; refine WC_region ?_
      have l4_7 := l4_6.trans leG127
      refine WL_val (rn_loadA ag42 (cs := [.slice a1 n1 c1, .slice a2 n2 c2, .int .i64 x0.Gap.Low, .int .i64 x0.Gap.High, .slice a3 n3 c3, .int .i64 x0.Hold]) rfl rfl (fun j v hj => (hS.sat.le l4_7).cell (hcb28.drop_take 0 6 j v hj))) rfl ?_; refine WL_val (rn_move (v := (.slice a4 n4 c4)) rfl) rfl ?_; refine WL_val (rn_loadA ag45 (cs := [.slice aq82_0 nq82_0 cq82_0, .slice aq82_1 nq82_1 cq82_1, .slice aq82_2 nq82_2 cq82_2]) rfl rfl (fun j v hj => own_sub hO (k := 2) rfl 0 3 j v hj)) rfl ?_
      refine WL_val (v := (.agg #[.slice a1 n1 c1, .slice a2 n2 c2, .int .i64 x0.Gap.Low, .int .i64 x0.Gap.High, .slice a3 n3 c3, .int .i64 x0.Hold, .slice a4 n4 c4, .slice aq82_0 nq82_0 cq82_0, .slice aq82_1 nq82_1 cq82_1, .slice aq82_2 nq82_2 cq82_2])) (by kernel_rfl) rfl ?_
      refine WL_op rfl (OpP_newO (v := fun b => .pointer (some ⟨b, 0, none⟩)) (cs := [.slice a1 n1 c1, .slice a2 n2 c2, .int .i64 x0.Gap.Low, .int .i64 x0.Gap.High, .slice a3 n3 c3, .int .i64 x0.Hold, .slice a4 n4 c4, .slice aq82_0 nq82_0 cq82_0, .slice aq82_1 nq82_1 cq82_1, .slice aq82_2 nq82_2 cq82_2]) (e := 114) (rn_boxA rfl) hS.sat hO rfl 10 1 rfl (by decide) (fun b128 w129 hb hO => ?_))
      have hS := hS.keep hb; refine WL_val (rn_assign (v := (.pointer (some ⟨b128, 0, none⟩))) rfl) rfl ?_; refine WL_nil ?_; refine WC_ret ?_; refine ⟨(.pointer (some ⟨b128, 0, none⟩)), rfl, ?_⟩; have hO := hO.drop 3
      have hO : Owns G127 w129 w0.heap.size ([⟨114, 10, 1, .slice (some ⟨b128, 0, none⟩) 1 1, [.slice a1 n1 c1, .slice a2 n2 c2, .int .i64 x0.Gap.Low, .int .i64 x0.Gap.High, .slice a3 n3 c3, .int .i64 x0.Hold, .slice a4 n4 c4, .slice aq82_0 nq82_0 cq82_0, .slice aq82_1 nq82_1 cq82_1, .slice aq82_2 nq82_2 cq82_2]⟩, ⟨22, 1, nq82_2, .slice aq82_2 nq82_2 cq82_2, claq82_2⟩, ⟨3, 1, nq82_1, .slice aq82_1 nq82_1 cq82_1, claq82_1⟩, ⟨3, 1, nq82_0, .slice aq82_0 nq82_0 cq82_0, claq82_0⟩]) := hO
      refine WL_val (rn_assign (v := (.pointer (some ⟨b128, 0, none⟩))) rfl) rfl ?_; refine WL_nil ?_; refine WC_ret ?_; refine ⟨(.pointer (some ⟨b128, 0, none⟩)), rfl, ?_⟩
      have hO : Owns G127 w129 w0.heap.size ([⟨114, 10, 1, .slice (some ⟨b128, 0, none⟩) 1 1, [.slice a1 n1 c1, .slice a2 n2 c2, .int .i64 x0.Gap.Low, .int .i64 x0.Gap.High, .slice a3 n3 c3, .int .i64 x0.Hold, .slice a4 n4 c4, .slice aq82_0 nq82_0 cq82_0, .slice aq82_1 nq82_1 cq82_1, .slice aq82_2 nq82_2 cq82_2]⟩, ⟨22, 1, nq82_2, .slice aq82_2 nq82_2 cq82_2, claq82_2⟩, ⟨3, 1, nq82_1, .slice aq82_1 nq82_1 cq82_1, claq82_1⟩, ⟨3, 1, nq82_0, .slice aq82_0 nq82_0 cq82_0, claq82_0⟩]) := hO
      refine WL_val (rn_assign (v := (.pointer (some ⟨b128, 0, none⟩))) rfl) rfl ?_; refine WL_nil ?_; refine WC_seq ?_; refine WC_region ?_; refine WL_val (rn_move (v := (.pointer (some ⟨b128, 0, none⟩))) rfl) rfl ?_
      refine WL_val (v := (.pointer (some ⟨b128, 0, none⟩))) (by kernel_rfl) rfl ?_
      refine WL_val (rn_fld fd114_2 rfl) rfl ?_; refine WL_val (rn_fld fd45_0 rfl) rfl ?_; refine WL_val (rn_load na22 rfl (own_cell hO (k := 0) rfl (j := 7) rfl)) rfl ?_; refine WL_val (rn_move (v := (.int .i64 x3)) rfl) rfl ?_; obtain ⟨y131, hy131, H⟩ := bnd H; refine WL_idxO sl22 hO (k := 3) rfl hnhq82_0 hq82_0 hy131 rfl rfl rfl ?_
      rintro b132 ob132 _ hb132 _ hcb132 ⟨⟩
      refine WL_val (rn_load na3 rfl (own_cellB hO (k := 3) rfl hb132 _ 0 (hcb132 0 _ rfl))) rfl ?_; refine WL_val (rn_assign (v := (.int .i64 y131)) rfl) rfl ?_; refine WL_nil ?_; refine WC_seq ?_; refine WC_seq ?_; refine WC_region ?_; refine WL_val (rn_assign (v := (.int .i64 1000)) rfl) rfl ?_; refine WL_nil ?_; obtain ⟨q135, hq135, H⟩ := bnd H; refine WC_cut (fun F w => ∃ (p134 : TStore) (Fb : Fr) (G : Gm) (ap134_0 : Option Addr) (np134_0 cp134_0 : Nat) (ap134_1 : Option Addr) (np134_1 cp134_1 : Nat) (ap134_2 : Option Addr) (np134_2 cp134_2 : Nat) (ap134_3 : Option Addr) (np134_3 cp134_3 : Nat) (ap134_4 : Option Addr) (np134_4 cp134_4 : Nat) (clap134_4 : List Value) (ap134_5 : Option Addr) (np134_5 cp134_5 : Nat) (clap134_5 : List Value) (ap134_6 : Option Addr) (np134_6 cp134_6 : Nat) (clap134_6 : List Value), q135 = .inl p134 ∧ F = upds Fb [] ∧ Gle G127 G ∧ Since w0.heap.size G0 w0 G w ∧ Owns G w w0.heap.size [⟨114, 10, 1, .slice (some ⟨b128, 0, none⟩) 1 1, [.slice ap134_0 np134_0 cp134_0, .slice ap134_1 np134_1 cp134_1, .int .i64 p134.ShipStore.Gap.Low, .int .i64 p134.ShipStore.Gap.High, .slice ap134_2 np134_2 cp134_2, .int .i64 p134.ShipStore.Hold, .slice ap134_3 np134_3 cp134_3, .slice ap134_4 np134_4 cp134_4, .slice ap134_5 np134_5 cp134_5, .slice ap134_6 np134_6 cp134_6]⟩, ⟨22, 1, np134_6, .slice ap134_6 np134_6 cp134_6, clap134_6⟩, ⟨3, 1, np134_5, .slice ap134_5 np134_5 cp134_5, clap134_5⟩, ⟨3, 1, np134_4, .slice ap134_4 np134_4 cp134_4, clap134_4⟩] ∧ RSl RInt 1 G ap134_0 np134_0 cp134_0 p134.ShipStore.Stock ∧ RSl RTSpan 2 G ap134_1 np134_1 cp134_1 p134.ShipStore.Use ∧ RSl RTShipLot 3 G ap134_2 np134_2 cp134_2 p134.ShipStore.Lots ∧ RSl RInt 1 G ap134_3 np134_3 cp134_3 p134.load ∧ np134_4 = p134.truth.Uses.length ∧ Rd RInt 1 G clap134_4 p134.truth.Uses ∧ np134_5 = p134.truth.Gaps.length ∧ Rd RInt 1 G clap134_5 p134.truth.Gaps ∧ np134_6 = p134.truth.Goods.length ∧ Rd (RSlice RInt 1) 1 G clap134_6 p134.truth.Goods) ?_ ?_
      ·refine WC_block (WC_loop hq135 (fun s133 F w => ∃ (Fb : Fr) (G : Gm) (as133_0 : Option Addr) (ns133_0 cs133_0 : Nat) (as133_1 : Option Addr) (ns133_1 cs133_1 : Nat) (as133_2 : Option Addr) (ns133_2 cs133_2 : Nat) (as133_3 : Option Addr) (ns133_3 cs133_3 : Nat) (as133_4 : Option Addr) (ns133_4 cs133_4 : Nat) (clas133_4 : List Value) (as133_5 : Option Addr) (ns133_5 cs133_5 : Nat) (clas133_5 : List Value) (as133_6 : Option Addr) (ns133_6 cs133_6 : Nat) (clas133_6 : List Value), F = upds Fb [(2, .int .i64 x2), (3, .int .i64 x3), (10, .pointer (some ⟨b128, 0, none⟩)), (11, .int .i64 y131), (12, .int .i64 s133.1)] ∧ Gle G127 G ∧ Since w0.heap.size G0 w0 G w ∧ Owns G w w0.heap.size [⟨114, 10, 1, .slice (some ⟨b128, 0, none⟩) 1 1, [.slice as133_0 ns133_0 cs133_0, .slice as133_1 ns133_1 cs133_1, .int .i64 s133.2.ShipStore.Gap.Low, .int .i64 s133.2.ShipStore.Gap.High, .slice as133_2 ns133_2 cs133_2, .int .i64 s133.2.ShipStore.Hold, .slice as133_3 ns133_3 cs133_3, .slice as133_4 ns133_4 cs133_4, .slice as133_5 ns133_5 cs133_5, .slice as133_6 ns133_6 cs133_6]⟩, ⟨22, 1, ns133_6, .slice as133_6 ns133_6 cs133_6, clas133_6⟩, ⟨3, 1, ns133_5, .slice as133_5 ns133_5 cs133_5, clas133_5⟩, ⟨3, 1, ns133_4, .slice as133_4 ns133_4 cs133_4, clas133_4⟩] ∧ RSl RInt 1 G as133_0 ns133_0 cs133_0 s133.2.ShipStore.Stock ∧ RSl RTSpan 2 G as133_1 ns133_1 cs133_1 s133.2.ShipStore.Use ∧ RSl RTShipLot 3 G as133_2 ns133_2 cs133_2 s133.2.ShipStore.Lots ∧ RSl RInt 1 G as133_3 ns133_3 cs133_3 s133.2.load ∧ ns133_4 = s133.2.truth.Uses.length ∧ Rd RInt 1 G clas133_4 s133.2.truth.Uses ∧ ns133_5 = s133.2.truth.Gaps.length ∧ Rd RInt 1 G clas133_5 s133.2.truth.Gaps ∧ ns133_6 = s133.2.truth.Goods.length ∧ Rd (RSlice RInt 1) 1 G clas133_6 s133.2.truth.Goods) ?_ ?_)
       ·have hO : Owns G127 w129 w0.heap.size ([⟨114, 10, 1, .slice (some ⟨b128, 0, none⟩) 1 1, [.slice a1 n1 c1, .slice a2 n2 c2, .int .i64 x0.Gap.Low, .int .i64 x0.Gap.High, .slice a3 n3 c3, .int .i64 x0.Hold, .slice a4 n4 c4, .slice aq82_0 nq82_0 cq82_0, .slice aq82_1 nq82_1 cq82_1, .slice aq82_2 nq82_2 cq82_2]⟩, ⟨22, 1, nq82_2, .slice aq82_2 nq82_2 cq82_2, claq82_2⟩, ⟨3, 1, nq82_1, .slice aq82_1 nq82_1 cq82_1, claq82_1⟩, ⟨3, 1, nq82_0, .slice aq82_0 nq82_0 cq82_0, claq82_0⟩]) := hO
        have l0_7 := l0_6.trans leG127
        exact ⟨_, G127, a1, n1, c1, a2, n2, c2, a3, n3, c3, a4, n4, c4, aq82_0, nq82_0, cq82_0, claq82_0, aq82_1, nq82_1, cq82_1, claq82_1, aq82_2, nq82_2, cq82_2, claq82_2, upds_self _ _ ⟨rfl, rfl, rfl, rfl, rfl, trivial⟩, Gle.refl _, hS, hO, (h1.mono RInt_mono l0_7), (h2.mono RTSpan_mono l0_7), (h3.mono RTShipLot_mono l0_7), (h4.mono RInt_mono l0_7), hnhq82_0, hq82_0, hnhq82_1, hq82_1, hnhq82_2, hq82_2⟩
       ·rintro s133 F w137 t136 ⟨Fb, G138, as133_0, ns133_0, cs133_0, as133_1, ns133_1, cs133_1, as133_2, ns133_2, cs133_2, as133_3, ns133_3, cs133_3, as133_4, ns133_4, cs133_4, clas133_4, as133_5, ns133_5, cs133_5, clas133_5, as133_6, ns133_6, cs133_6, clas133_6, rfl, leG138, hS, hO, hs133_0, hs133_1, hs133_2, hs133_3, hnhs133_4, hs133_4, hnhs133_5, hs133_5, hnhs133_6, hs133_6⟩
        intro H1 hqq135
        have Hoq135 := H; have H := H1
        unfold f32_b4 at H
        refine WC_seq ?_; refine WC_seq ?_; refine WC_region ?_; refine WL_val (rn_move (v := (.int .i64 s133.1)) rfl) rfl ?_; refine WL_val (rn_gtr rfl rfl) rfl ?_; refine WL_nil ?_; refine WC_cond rfl (fun hb139 => ?_) (fun hb139 => ?_)
        ·have H := ifT hb139 H; refine WC_skip ?_; refine WC_seq ?_; refine WC_block ?_; refine WC_seq ?_; refine WC_region ?_; refine WL_val (rn_move (v := (.pointer (some ⟨b128, 0, none⟩))) rfl) rfl ?_
         refine WL_val (v := (.pointer (some ⟨b128, 0, none⟩))) (by kernel_rfl) rfl ?_
         refine WL_val (rn_fld fd114_2 rfl) rfl ?_; refine WL_val (rn_fld fd45_0 rfl) rfl ?_; refine WL_val (rn_load na22 rfl (own_cell hO (k := 0) rfl (j := 7) rfl)) rfl ?_; refine WL_val (rn_move (v := (.int .i64 x3)) rfl) rfl ?_; refine WL_val (rn_move (v := (.int .i64 y131)) rfl) rfl ?_; refine WL_val (rn_move (v := (.int .i64 s133.1)) rfl) rfl ?_; refine WL_val (rn_mul rfl rfl) rfl ?_; refine WL_val (rn_add rfl rfl) rfl ?_
         refine WL_val (rn_quo rfl rfl (by decide)) rfl ?_
         obtain ⟨y140, hy140, H⟩ := bnd H; refine WL_idxO sl22 hO (k := 3) rfl hnhs133_4 hs133_4 hy140 rfl rfl rfl ?_
         rintro b141 ob141 _ hb141 _ hcb141 ⟨⟩
         obtain ⟨y142, hy142, H⟩ := bnd H; refine WL_op rfl (OpP_storeE (vs := [.int .i64 (IntKind.i64.wrap ((IntKind.i64.wrap ((IntKind.i64.wrap (y131 * s133.1)) + 999)).tdiv 1000))]) (cs := [.int .i64 y140]) (j := 0) (y := IntKind.i64.wrap ((IntKind.i64.wrap ((IntKind.i64.wrap (y131 * s133.1)) + 999)).tdiv 1000)) sz3 hS hO (k := 3) rfl hnhs133_4 rfl hs133_4 hb141 rfl hcb141 hy142 rfl rfl rfl rfl rfl (one_all rfl) (Nat.le_of_ble_eq_true rfl) (fun w143 clw143 hS hO hrw143 => ?_))
         have hO : Owns G138 w143 w0.heap.size ([⟨114, 10, 1, .slice (some ⟨b128, 0, none⟩) 1 1, [.slice as133_0 ns133_0 cs133_0, .slice as133_1 ns133_1 cs133_1, .int .i64 s133.2.ShipStore.Gap.Low, .int .i64 s133.2.ShipStore.Gap.High, .slice as133_2 ns133_2 cs133_2, .int .i64 s133.2.ShipStore.Hold, .slice as133_3 ns133_3 cs133_3, .slice as133_4 ns133_4 cs133_4, .slice as133_5 ns133_5 cs133_5, .slice as133_6 ns133_6 cs133_6]⟩, ⟨22, 1, ns133_6, .slice as133_6 ns133_6 cs133_6, clas133_6⟩, ⟨3, 1, ns133_5, .slice as133_5 ns133_5 cs133_5, clas133_5⟩, ⟨3, 1, ns133_4, .slice as133_4 ns133_4 cs133_4, clw143⟩]) := hO
         refine WL_nil ?_; refine WC_seq ?_; refine WC_region ?_; refine WL_val (rn_move (v := (.pointer (some ⟨b128, 0, none⟩))) rfl) rfl ?_; refine WL_val (rn_move (v := (.int .i64 x2)) rfl) rfl ?_; refine WL_val (rn_move (v := (.int .i64 x3)) rfl) rfl ?_
         refine WL_op rfl (OpP_newF (v := fun b => .slice (some ⟨b, 0, none⟩) 1 1) (cs := [.int .i64 x3]) (e := 3) (by kernel_rfl) hS.sat rfl (fun b144 G146 w145 hg hcb144 => ?_))
         have hS := hS.grow hg; have hO := hO.grow hg
         have leG146 := hg.le
         have hfb144 : RSl RInt 1 G146 (some ⟨b144, 0, none⟩) 1 1 [x3] := RSl.of_rd hcb144 (Rd.cons (c := [.int .i64 x3]) rfl rfl (Rd.nil RInt 1 _)) rfl (by decide)
         have hS0 := hS
         have hO0 := hO
         obtain ⟨G147, leG147, hS, hO, hfG147⟩ := hO.freezeS hS RInt_mono (k := 3) rfl (hrw143.mono RInt_mono leG146) (Eq.trans hnhs133_4 (setIx_len hy142))
         have l8_10 := leG146.trans leG147
         obtain ⟨G148, leG148, hS, hO, hfG148⟩ := hO.freezeS hS RInt_mono (k := 2) rfl (hs133_5.mono RInt_mono l8_10) hnhs133_5
         have l8_11 := l8_10.trans leG148
         obtain ⟨G149, leG149, hS, hO, hfG149⟩ := hO.freezeS hS (RSlice_mono RInt_mono) (k := 1) rfl (hs133_6.mono (RSlice_mono RInt_mono) l8_11) hnhs133_6; obtain ⟨G150, leG150, hS, hO, hqG150, _⟩ := hO.freeze hS (k := 0) rfl
         have hcG150 : Cells G150 b128 0 [.slice as133_0 ns133_0 cs133_0, .slice as133_1 ns133_1 cs133_1, .int .i64 s133.2.ShipStore.Gap.Low, .int .i64 s133.2.ShipStore.Gap.High, .slice as133_2 ns133_2 cs133_2, .int .i64 s133.2.ShipStore.Hold, .slice as133_3 ns133_3 cs133_3, .slice as133_4 ns133_4 cs133_4, .slice as133_5 ns133_5 cs133_5, .slice as133_6 ns133_6 cs133_6] := (hqG150 _ _ _ _ rfl)
         have l8_13 := (l8_11.trans leG149).trans leG150
         have l10_13 := (leG148.trans leG149).trans leG150
         have l11_13 := leG149.trans leG150
         have l9_13 := leG147.trans l10_13
         obtain ⟨y151, hy151, H⟩ := bnd H
         have hx153 := f76_ok (x0 := (⟨(⟨s133.2.ShipStore.Stock, s133.2.ShipStore.Use, (⟨s133.2.ShipStore.Gap.Low, s133.2.ShipStore.Gap.High⟩ : TSpan), s133.2.ShipStore.Lots, s133.2.ShipStore.Hold⟩ : TShipStore), s133.2.load, (⟨y142, s133.2.truth.Gaps, s133.2.truth.Goods⟩ : TShipTruth)⟩ : TStore)) (x1 := x2) (x2 := [x3]) hS.sat hcG150 (hs133_0.mono RInt_mono l8_13) (hs133_1.mono RTSpan_mono l8_13) (hs133_2.mono RTShipLot_mono l8_13) (hs133_3.mono RInt_mono l8_13) (hfG147.mono RInt_mono l10_13) (hfG148.mono RInt_mono l11_13) (hfG149.mono (RSlice_mono RInt_mono) leG150) (hfb144.mono RInt_mono l9_13) hy151
         have hS := hS0; have hO := hO0; refine WL_op rfl (OpP_callV cb76 hx153 rfl rfl (fun w152 hb => ?_)); have hS := hS.keep hb; have hO := hO.below hb; refine WL_nil ?_; refine WC_cond rfl (fun hb154 => ?_) (fun hb154 => ?_)
         ·have H := ifT hb154 H; refine WC_seq ?_; refine WC_region ?_; refine WL_val (rn_move (v := (.int .i64 s133.1)) rfl) rfl ?_; refine WL_val (rn_assign (v := (.int .i64 s133.1)) rfl) rfl ?_; refine WL_val (rn_assign (v := (.int .i64 0)) rfl) rfl ?_; refine WL_nil ?_; refine WC_ret ?_; have H := Option.some.inj H; subst H
          have hres := hqq135 _ rfl
          subst hres; have H := Hoq135
          have H : some (s133.1, 0) = some r := H
          have H := Option.some.inj H; subst H
          exact ⟨rfl, hS.below⟩
         ·have H := ifF hb154 H; refine WC_skip ?_; refine WC_region ?_; refine WL_val (rn_move (v := (.int .i64 s133.1)) rfl) rfl ?_; refine WL_val (rn_sub rfl rfl) rfl ?_; refine WL_val (rn_assign (v := (.int .i64 (IntKind.i64.wrap (s133.1 - 1)))) rfl) rfl ?_; refine WL_nil ?_
          have hO : Owns G146 w152 w0.heap.size ([⟨114, 10, 1, .slice (some ⟨b128, 0, none⟩) 1 1, [.slice as133_0 ns133_0 cs133_0, .slice as133_1 ns133_1 cs133_1, .int .i64 s133.2.ShipStore.Gap.Low, .int .i64 s133.2.ShipStore.Gap.High, .slice as133_2 ns133_2 cs133_2, .int .i64 s133.2.ShipStore.Hold, .slice as133_3 ns133_3 cs133_3, .slice as133_4 ns133_4 cs133_4, .slice as133_5 ns133_5 cs133_5, .slice as133_6 ns133_6 cs133_6]⟩, ⟨22, 1, ns133_6, .slice as133_6 ns133_6 cs133_6, clas133_6⟩, ⟨3, 1, ns133_5, .slice as133_5 ns133_5 cs133_5, clas133_5⟩, ⟨3, 1, ns133_4, .slice as133_4 ns133_4 cs133_4, clw143⟩]) := hO
          have H := Option.some.inj H; subst H; refine ⟨_, rfl, ?_⟩
          have l7_9 := leG138.trans leG146
          exact ⟨_, G146, as133_0, ns133_0, cs133_0, as133_1, ns133_1, cs133_1, as133_2, ns133_2, cs133_2, as133_3, ns133_3, cs133_3, as133_4, ns133_4, cs133_4, clw143, as133_5, ns133_5, cs133_5, clas133_5, as133_6, ns133_6, cs133_6, clas133_6, upds_self _ _ ⟨rfl, rfl, rfl, rfl, rfl, trivial⟩, l7_9, hS, hO, (hs133_0.mono RInt_mono leG146), (hs133_1.mono RTSpan_mono leG146), (hs133_2.mono RTShipLot_mono leG146), (hs133_3.mono RInt_mono leG146), (Eq.trans hnhs133_4 (setIx_len hy142)), (hrw143.mono RInt_mono leG146), hnhs133_5, (hs133_5.mono RInt_mono leG146), hnhs133_6, (hs133_6.mono (RSlice_mono RInt_mono) leG146)⟩
        ·have H := ifF hb139 H; refine WC_exit rfl ?_
         have hO : Owns G138 w137 w0.heap.size ([⟨114, 10, 1, .slice (some ⟨b128, 0, none⟩) 1 1, [.slice as133_0 ns133_0 cs133_0, .slice as133_1 ns133_1 cs133_1, .int .i64 s133.2.ShipStore.Gap.Low, .int .i64 s133.2.ShipStore.Gap.High, .slice as133_2 ns133_2 cs133_2, .int .i64 s133.2.ShipStore.Hold, .slice as133_3 ns133_3 cs133_3, .slice as133_4 ns133_4 cs133_4, .slice as133_5 ns133_5 cs133_5, .slice as133_6 ns133_6 cs133_6]⟩, ⟨22, 1, ns133_6, .slice as133_6 ns133_6 cs133_6, clas133_6⟩, ⟨3, 1, ns133_5, .slice as133_5 ns133_5 cs133_5, clas133_5⟩, ⟨3, 1, ns133_4, .slice as133_4 ns133_4 cs133_4, clas133_4⟩]) := hO
         have H := Option.some.inj H; subst H
         have hres := hqq135 _ rfl
         subst hres
         exact ⟨_, _, G138, as133_0, ns133_0, cs133_0, as133_1, ns133_1, cs133_1, as133_2, ns133_2, cs133_2, as133_3, ns133_3, cs133_3, as133_4, ns133_4, cs133_4, clas133_4, as133_5, ns133_5, cs133_5, clas133_5, as133_6, ns133_6, cs133_6, clas133_6, rfl, rfl, leG138, hS, hO, hs133_0, hs133_1, hs133_2, hs133_3, hnhs133_4, hs133_4, hnhs133_5, hs133_5, hnhs133_6, hs133_6⟩
      ·rintro F w155 ⟨p134, Fb, G156, ap134_0, np134_0, cp134_0, ap134_1, np134_1, cp134_1, ap134_2, np134_2, cp134_2, ap134_3, np134_3, cp134_3, ap134_4, np134_4, cp134_4, clap134_4, ap134_5, np134_5, cp134_5, clap134_5, ap134_6, np134_6, cp134_6, clap134_6, rfl, rfl, leG156, hS, hO, hp134_0, hp134_1, hp134_2, hp134_3, hnhp134_4, hp134_4, hnhp134_5, hp134_5, hnhp134_6, hp134_6⟩
       refine WC_seq ?_; refine WC_region ?_; refine WL_val (rn_assign (v := (.int .i64 0)) rfl) rfl ?_; refine WL_val (rn_assign (v := (.int .i64 0)) rfl) rfl ?_; refine WL_nil ?_; refine WC_ret ?_
       have H : some (0, 0) = some r := H
       have H := Option.some.inj H; subst H
       exact ⟨rfl, hS.below⟩
set_option maxHeartbeats 1000000 in
theorem f103_ok {G0 : Gm} {w0 : World} (hS0 : Sat G0 w0) {x0 : (List Int)} {a1 : Option Addr} {n1 c1 : Nat} (h1 : RSl RInt 1 G0 a1 n1 c1 x0) {r : Int} (H : f103 x0 = some r) :
  Calls Try.prog 103 #[.slice a1 n1 c1] w0 (RetV w0 (.int .i64 r)) := by
 have hS := Since.start hS0
 have hO : Owns G0 w0 w0.heap.size [] := Owns.nil (Nat.le_refl _)
 unfold f103 at H
 refine enter1 (N := 18) (shutV _ _) Try.func103 rfl rfl rfl rfl ?_; refine WC_seq ?_; refine WC_region ?_; refine WL_val (rn_assign (v := (.int .i64 0)) rfl) rfl ?_; refine WL_nil ?_; refine WC_seq ?_; refine WC_region ?_; refine WL_val (rn_assign (v := (.int .i64 0)) rfl) rfl ?_; refine WL_nil ?_; refine WC_seq ?_; refine WC_seq ?_; refine WC_region ?_; refine WL_val (rn_move (v := (.slice a1 n1 c1)) rfl) rfl ?_; refine WL_val (rn_len sl22 rfl rfl h1.1) rfl ?_; refine WL_val (rn_move (v := (.int .i64 0)) rfl) rfl ?_; refine WL_nil ?_; obtain ⟨q4, hq4, H⟩ := bnd H; refine WC_cut (fun F w => ∃ (p3 : Unit) (Fb : Fr), q4 = .inl p3 ∧ F = upds Fb [(3, .int .i64 0)] ∧ w0 = w) ?_ ?_
 ·refine WC_block (WC_loop hq4 (fun s2 F w => ∃ (Fb : Fr), F = upds Fb [(3, .int .i64 0), (6, .slice a1 n1 c1), (7, .int .i64 (x0.length : Int)), (8, .int .i64 s2)] ∧ w0 = w) ?_ ?_)
  ·exact ⟨_, upds_self _ _ ⟨rfl, rfl, rfl, rfl, trivial⟩, rfl⟩
  ·rintro s2 F wl t5 ⟨Fb, rfl, rfl⟩
   intro H1 hqq4
   have Hoq4 := H; have H := H1
   unfold f103_b0 at H
   refine WC_seq ?_; refine WC_region ?_; refine WL_val (rn_lss rfl rfl) rfl ?_; refine WL_nil ?_; refine WC_seq ?_; refine WC_cond rfl (fun hb8 => ?_) (fun hb8 => ?_)
   ·have H := ifT hb8 H; refine WC_skip ?_; refine WC_seq ?_; refine WC_block ?_; refine WC_seq ?_; refine WC_region ?_; obtain ⟨y9, hy9, H⟩ := bnd H; refine WL_idx sl22 h1 hy9 rfl rfl rfl ?_
    rintro b10 o10 _ hcb10 _ ⟨⟩
    refine WL_val (rn_load na3 rfl (hS.sat.cell (hcb10 0 _ rfl))) rfl ?_; refine WL_val (rn_assign (v := (.int .i64 y9)) rfl) rfl ?_; refine WL_nil ?_; refine WC_seq ?_; refine WC_region ?_; refine WL_val (rn_move (v := (.int .i64 y9)) rfl) rfl ?_; refine WL_val (rn_move (v := (.int .i64 0)) rfl) rfl ?_; refine WL_val (rn_neq rfl rfl) rfl ?_; refine WL_nil ?_; refine WC_cond rfl (fun hb11 => ?_) (fun hb11 => ?_)
    ·have H := ifT hb11 H; refine WC_seq ?_; refine WC_region ?_; refine WL_val (rn_move (v := (.int .i64 y9)) rfl) rfl ?_; refine WL_val (rn_assign (v := (.int .i64 y9)) rfl) rfl ?_; refine WL_nil ?_; refine WC_ret ?_; have H := Option.some.inj H; subst H
     have hres := hqq4 _ rfl
     subst hres; have H := Hoq4
     have H : some y9 = some r := H
     have H := Option.some.inj H; subst H
     exact ⟨rfl, hS.below⟩
    ·have H := ifF hb11 H; refine WC_skip ?_; refine WC_region ?_; refine WL_val (rn_add rfl rfl) rfl ?_; refine WL_val (rn_move (v := (.int .i64 (IntKind.i64.wrap (s2 + 1)))) rfl) rfl ?_; refine WL_nil ?_; have H := Option.some.inj H; subst H; refine ⟨_, rfl, ?_⟩
     exact ⟨_, upds_self _ _ ⟨rfl, rfl, rfl, rfl, trivial⟩, rfl⟩
   ·have H := ifF hb8 H; refine WC_exit rfl ?_; have H := Option.some.inj H; subst H
    have hres := hqq4 _ rfl
    subst hres
    exact ⟨_, _, rfl, upds_self _ _ ⟨rfl, trivial⟩, rfl⟩
 ·rintro F wl ⟨p3, Fb, rfl, rfl, rfl⟩
  refine WC_seq ?_; refine WC_region ?_; refine WL_val (rn_move (v := (.int .i64 0)) rfl) rfl ?_; refine WL_val (rn_assign (v := (.int .i64 0)) rfl) rfl ?_; refine WL_nil ?_; refine WC_ret ?_
  have H : some 0 = some r := H
  have H := Option.some.inj H; subst H
  exact ⟨rfl, hS.below⟩
set_option maxHeartbeats 1000000 in
theorem f112_ok {G0 : Gm} {w0 : World} (hS0 : Sat G0 w0) {x0 : Int}  {r : Bool} (H : f112 x0 = some r) :
  Calls Try.prog 112 #[.int .i64 x0] w0 (RetV w0 (.bool r)) := by
 have hS := Since.start hS0
 have hO : Owns G0 w0 w0.heap.size [] := Owns.nil (Nat.le_refl _)
 unfold f112 at H
 refine enter1 (N := 6) (shutV _ _) Try.func112 rfl rfl rfl rfl ?_; refine WC_seq ?_; refine WC_region ?_; refine WL_val (rn_assign (v := (.bool false)) rfl) rfl ?_; refine WL_nil ?_; refine WC_seq ?_; refine WC_region ?_; refine WL_val (rn_move (v := (.int .i64 x0)) rfl) rfl ?_; refine WL_val (rn_move (v := (.int .i64 x0)) rfl) rfl ?_; refine WL_val (rn_neq rfl rfl) rfl ?_; refine WL_val (rn_assign (v := (.bool (x0 != x0))) rfl) rfl ?_; refine WL_nil ?_; refine WC_ret ?_
 have H : some (x0 != x0) = some r := H
 have H := Option.some.inj H; subst H
 exact ⟨rfl, hS.below⟩
set_option maxHeartbeats 1000000 in
theorem f104_ok {G0 : Gm} {w0 : World} (hS0 : Sat G0 w0) {x0 : Int} {x1 : Int}  {r : Int} (H : f104 x0 x1 = some r) :
  Calls Try.prog 104 #[.int .i64 x0, .int .i64 x1] w0 (RetV w0 (.int .i64 r)) := by
 have hS := Since.start hS0
 have hO : Owns G0 w0 w0.heap.size [] := Owns.nil (Nat.le_refl _)
 unfold f104 at H
 refine enter1 (N := 20) (shutV _ _) Try.func104 rfl rfl rfl rfl ?_; refine WC_seq ?_; refine WC_region ?_; refine WL_val (rn_assign (v := (.int .i64 0)) rfl) rfl ?_; refine WL_nil ?_; refine WC_seq ?_; refine WC_region ?_; refine WL_val (rn_move (v := (.int .i64 x0)) rfl) rfl ?_; obtain ⟨y1, hy1, H⟩ := bnd H; refine WL_op rfl (OpP_callV cb112 (f112_ok (x0 := x0) hS.sat  hy1) rfl rfl (fun w2 hb => ?_)); have hS := hS.keep hb; have hO := hO.below hb; refine WL_val (rn_assign (v := (.bool y1)) rfl) rfl ?_; refine WL_nil ?_; refine WC_seq ?_; refine WC_region ?_; refine WL_val (rn_move (v := (.int .i64 x1)) rfl) rfl ?_; obtain ⟨y3, hy3, H⟩ := bnd H; refine WL_op rfl (OpP_callV cb112 (f112_ok (x0 := x1) hS.sat  hy3) rfl rfl (fun w4 hb => ?_)); have hS := hS.keep hb; have hO := hO.below hb; refine WL_val (rn_assign (v := (.bool y3)) rfl) rfl ?_; refine WL_nil ?_; refine WC_seq ?_; refine WC_seq ?_; refine WC_region ?_; refine WL_val (rn_move (v := (.bool y1)) rfl) rfl ?_; refine WL_nil ?_; refine WC_cond rfl (fun hb5 => ?_) (fun hb5 => ?_)
 ·have H := ifT hb5 H; refine WC_seq ?_; refine WC_seq ?_; refine WC_region ?_; refine WL_val (rn_move (v := (.bool y3)) rfl) rfl ?_; refine WL_nil ?_; refine WC_cond rfl (fun hb6 => ?_) (fun hb6 => ?_)
  ·have H := ifT hb6 H; refine WC_seq ?_; refine WC_region ?_; refine WL_val (rn_assign (v := (.int .i64 0)) rfl) rfl ?_; refine WL_nil ?_; refine WC_ret ?_
   have H : some 0 = some r := H
   have H := Option.some.inj H; subst H
   exact ⟨rfl, hS.below⟩
  ·have H := ifF hb6 H; refine WC_skip ?_; refine WC_seq ?_; refine WC_region ?_; refine WL_val (rn_assign (v := (.int .i64 (-1))) rfl) rfl ?_; refine WL_nil ?_; refine WC_ret ?_
   have H : some (-1) = some r := H
   have H := Option.some.inj H; subst H
   exact ⟨rfl, hS.below⟩
 ·have H := ifF hb5 H; refine WC_skip ?_; refine WC_seq ?_; refine WC_seq ?_; refine WC_region ?_; refine WL_val (rn_move (v := (.bool y3)) rfl) rfl ?_; refine WL_nil ?_; refine WC_cond rfl (fun hb7 => ?_) (fun hb7 => ?_)
  ·have H := ifT hb7 H; refine WC_seq ?_; refine WC_region ?_; refine WL_val (rn_assign (v := (.int .i64 1)) rfl) rfl ?_; refine WL_nil ?_; refine WC_ret ?_
   have H : some 1 = some r := H
   have H := Option.some.inj H; subst H
   exact ⟨rfl, hS.below⟩
  ·have H := ifF hb7 H; refine WC_skip ?_; refine WC_seq ?_; refine WC_seq ?_; refine WC_region ?_; refine WL_val (rn_move (v := (.int .i64 x0)) rfl) rfl ?_; refine WL_val (rn_move (v := (.int .i64 x1)) rfl) rfl ?_; refine WL_val (rn_lss rfl rfl) rfl ?_; refine WL_nil ?_; refine WC_cond rfl (fun hb8 => ?_) (fun hb8 => ?_)
   ·have H := ifT hb8 H; refine WC_seq ?_; refine WC_region ?_; refine WL_val (rn_assign (v := (.int .i64 (-1))) rfl) rfl ?_; refine WL_nil ?_; refine WC_ret ?_
    have H : some (-1) = some r := H
    have H := Option.some.inj H; subst H
    exact ⟨rfl, hS.below⟩
   ·have H := ifF hb8 H; refine WC_skip ?_; refine WC_seq ?_; refine WC_seq ?_; refine WC_region ?_; refine WL_val (rn_move (v := (.int .i64 x0)) rfl) rfl ?_; refine WL_val (rn_move (v := (.int .i64 x1)) rfl) rfl ?_; refine WL_val (rn_gtr rfl rfl) rfl ?_; refine WL_nil ?_; refine WC_cond rfl (fun hb9 => ?_) (fun hb9 => ?_)
    ·have H := ifT hb9 H; refine WC_seq ?_; refine WC_region ?_; refine WL_val (rn_assign (v := (.int .i64 1)) rfl) rfl ?_; refine WL_nil ?_; refine WC_ret ?_
     have H : some 1 = some r := H
     have H := Option.some.inj H; subst H
     exact ⟨rfl, hS.below⟩
    ·have H := ifF hb9 H; refine WC_skip ?_; refine WC_seq ?_; refine WC_region ?_; refine WL_val (rn_assign (v := (.int .i64 0)) rfl) rfl ?_; refine WL_nil ?_; refine WC_ret ?_
     have H : some 0 = some r := H
     have H := Option.some.inj H; subst H
     exact ⟨rfl, hS.below⟩
set_option maxHeartbeats 1000000 in
theorem f105_ok {G0 : Gm} {w0 : World} (hS0 : Sat G0 w0) {x0 : (List Int)} {a1 : Option Addr} {n1 c1 : Nat} {x1 : (List Int)} {a2 : Option Addr} {n2 c2 : Nat} (h1 : RSl RInt 1 G0 a1 n1 c1 x0) (h2 : RSl RInt 1 G0 a2 n2 c2 x1) {r : Int} (H : f105 x0 x1 = some r) :
  Calls Try.prog 105 #[.slice a1 n1 c1, .slice a2 n2 c2] w0 (RetV w0 (.int .i64 r)) := by
 have hS := Since.start hS0
 have hO : Owns G0 w0 w0.heap.size [] := Owns.nil (Nat.le_refl _)
 unfold f105 at H
 refine enter1 (N := 36) (shutV _ _) Try.func105 rfl rfl rfl rfl ?_; refine WC_seq ?_; refine WC_region ?_; refine WL_val (rn_assign (v := (.int .i64 0)) rfl) rfl ?_; refine WL_nil ?_; refine WC_seq ?_; refine WC_seq ?_; refine WC_region ?_; refine WL_val (rn_move (v := (.slice a1 n1 c1)) rfl) rfl ?_; refine WL_val (rn_len sl22 rfl rfl h1.1) rfl ?_; refine WL_val (rn_move (v := (.int .i64 0)) rfl) rfl ?_; refine WL_nil ?_; obtain ⟨q5, hq5, H⟩ := bnd H; refine WC_cut (fun F w => ∃ (p4 : Unit) (Fb : Fr) (G : Gm), q5 = .inl p4 ∧ F = upds Fb [(0, .slice a1 n1 c1), (1, .slice a2 n2 c2)] ∧ Gle G0 G ∧ Since w0.heap.size G0 w0 G w ∧ Owns G w w0.heap.size []) ?_ ?_
 ·refine WC_block (WC_loop hq5 (fun s3 F w => ∃ (Fb : Fr) (G : Gm), F = upds Fb [(0, .slice a1 n1 c1), (1, .slice a2 n2 c2), (9, .slice a1 n1 c1), (10, .int .i64 (x0.length : Int)), (11, .int .i64 s3)] ∧ Gle G0 G ∧ Since w0.heap.size G0 w0 G w ∧ Owns G w w0.heap.size []) ?_ ?_)
  ·have hO : Owns G0 w0 w0.heap.size ([]) := hO
   exact ⟨_, G0, upds_self _ _ ⟨rfl, rfl, rfl, rfl, rfl, trivial⟩, Gle.refl _, hS, hO⟩
  ·rintro s3 F w7 t6 ⟨Fb, G8, rfl, leG8, hS, hO⟩
   intro H1 hqq5
   have Hoq5 := H; have H := H1
   unfold f105_b0 at H
   refine WC_seq ?_; refine WC_region ?_; refine WL_val (rn_lss rfl rfl) rfl ?_; refine WL_nil ?_; refine WC_seq ?_; refine WC_cond rfl (fun hb9 => ?_) (fun hb9 => ?_)
   ·have H := ifT hb9 H; refine WC_skip ?_; refine WC_seq ?_; refine WC_block ?_; refine WC_seq ?_; refine WC_region ?_; refine WL_val (rn_move (v := (.int .i64 s3)) rfl) rfl ?_; obtain ⟨y10, hy10, H⟩ := bnd H; refine WL_idx sl22 (h1.mono RInt_mono leG8) hy10 rfl rfl rfl ?_
    rintro b11 o11 _ hcb11 _ ⟨⟩
    refine WL_val (rn_load na3 rfl (hS.sat.cell (hcb11 0 _ rfl))) rfl ?_; refine WL_val (rn_assign (v := (.int .i64 s3)) rfl) rfl ?_; refine WL_val (rn_assign (v := (.int .i64 y10)) rfl) rfl ?_; refine WL_nil ?_; refine WC_seq ?_; refine WC_seq ?_; refine WC_region ?_; refine WL_val (rn_move (v := (.int .i64 s3)) rfl) rfl ?_; refine WL_val (rn_move (v := (.slice a2 n2 c2)) rfl) rfl ?_; refine WL_val (rn_len sl22 rfl rfl (h2.mono RInt_mono leG8).1) rfl ?_; refine WL_val (rn_geq rfl rfl) rfl ?_; refine WL_nil ?_; refine WC_cond rfl (fun hb12 => ?_) (fun hb12 => ?_)
    ·have H := ifT hb12 H; refine WC_seq ?_; refine WC_region ?_; refine WL_val (rn_assign (v := (.int .i64 1)) rfl) rfl ?_; refine WL_nil ?_; refine WC_ret ?_; have H := Option.some.inj H; subst H
     have hres := hqq5 _ rfl
     subst hres; have H := Hoq5
     have H : some 1 = some r := H
     have H := Option.some.inj H; subst H
     exact ⟨rfl, hS.below⟩
    ·have H := ifF hb12 H; refine WC_skip ?_; refine WC_seq ?_; refine WC_region ?_; refine WL_val (rn_move (v := (.slice a2 n2 c2)) rfl) rfl ?_; refine WL_val (rn_move (v := (.int .i64 s3)) rfl) rfl ?_; obtain ⟨y13, hy13, H⟩ := bnd H; refine WL_idx sl22 (h2.mono RInt_mono leG8) hy13 rfl rfl rfl ?_
     rintro b14 o14 _ hcb14 _ ⟨⟩
     refine WL_val (rn_load na3 rfl (hS.sat.cell (hcb14 0 _ rfl))) rfl ?_; refine WL_val (rn_assign (v := (.int .i64 y13)) rfl) rfl ?_; refine WL_nil ?_; refine WC_seq ?_; refine WC_region ?_; refine WL_val (rn_move (v := (.int .i64 y10)) rfl) rfl ?_; refine WL_val (rn_move (v := (.int .i64 y13)) rfl) rfl ?_; obtain ⟨y15, hy15, H⟩ := bnd H; refine WL_op rfl (OpP_callV cb104 (f104_ok (x0 := y10) (x1 := y13) hS.sat  hy15) rfl rfl (fun w16 hb => ?_)); have hS := hS.keep hb; have hO := hO.below hb; refine WL_val (rn_assign (v := (.int .i64 y15)) rfl) rfl ?_; refine WL_nil ?_; refine WC_seq ?_; refine WC_region ?_; refine WL_val (rn_move (v := (.int .i64 y15)) rfl) rfl ?_; refine WL_val (rn_neq rfl rfl) rfl ?_; refine WL_nil ?_; refine WC_cond rfl (fun hb17 => ?_) (fun hb17 => ?_)
     ·have H := ifT hb17 H; refine WC_seq ?_; refine WC_region ?_; refine WL_val (rn_move (v := (.int .i64 y15)) rfl) rfl ?_; refine WL_val (rn_assign (v := (.int .i64 y15)) rfl) rfl ?_; refine WL_nil ?_; refine WC_ret ?_; have H := Option.some.inj H; subst H
      have hres := hqq5 _ rfl
      subst hres; have H := Hoq5
      have H : some y15 = some r := H
      have H := Option.some.inj H; subst H
      exact ⟨rfl, hS.below⟩
     ·have H := ifF hb17 H; refine WC_skip ?_; refine WC_region ?_; refine WL_val (rn_add rfl rfl) rfl ?_; refine WL_val (rn_move (v := (.int .i64 (IntKind.i64.wrap (s3 + 1)))) rfl) rfl ?_; refine WL_nil ?_
      have hO : Owns G8 w16 w0.heap.size ([]) := hO
      have H := Option.some.inj H; subst H; refine ⟨_, rfl, ?_⟩
      exact ⟨_, G8, upds_self _ _ ⟨rfl, rfl, rfl, rfl, rfl, trivial⟩, leG8, hS, hO⟩
   ·have H := ifF hb9 H; refine WC_exit rfl ?_
    have hO : Owns G8 w7 w0.heap.size ([]) := hO
    have H := Option.some.inj H; subst H
    have hres := hqq5 _ rfl
    subst hres
    exact ⟨_, _, G8, rfl, upds_self _ _ ⟨rfl, rfl, trivial⟩, leG8, hS, hO⟩
 ·rintro F w18 ⟨p4, Fb, G19, rfl, rfl, leG19, hS, hO⟩
  refine WC_seq ?_; refine WC_seq ?_; refine WC_region ?_; refine WL_val (rn_move (v := (.slice a1 n1 c1)) rfl) rfl ?_; refine WL_val (rn_len sl22 rfl rfl (h1.mono RInt_mono leG19).1) rfl ?_; refine WL_val (rn_move (v := (.slice a2 n2 c2)) rfl) rfl ?_; refine WL_val (rn_len sl22 rfl rfl (h2.mono RInt_mono leG19).1) rfl ?_; refine WL_val (rn_lss rfl rfl) rfl ?_; refine WL_nil ?_; refine WC_cond rfl (fun hb20 => ?_) (fun hb20 => ?_)
  ·have H := ifT hb20 H; refine WC_seq ?_; refine WC_region ?_; refine WL_val (rn_assign (v := (.int .i64 (-1))) rfl) rfl ?_; refine WL_nil ?_; refine WC_ret ?_
   have H : some (-1) = some r := H
   have H := Option.some.inj H; subst H
   exact ⟨rfl, hS.below⟩
  ·have H := ifF hb20 H; refine WC_skip ?_; refine WC_seq ?_; refine WC_region ?_; refine WL_val (rn_assign (v := (.int .i64 0)) rfl) rfl ?_; refine WL_nil ?_; refine WC_ret ?_
   have H : some 0 = some r := H
   have H := Option.some.inj H; subst H
   exact ⟨rfl, hS.below⟩
set_option maxHeartbeats 1000000 in
theorem f77_ok {G0 : Gm} {w0 : World} (hS0 : Sat G0 w0) {x0 : TChoice} {a1 : Option Addr} {n1 c1 : Nat} {x1 : TChoice} {a2 : Option Addr} {n2 c2 : Nat} (h1 : RSl RInt 1 G0 a1 n1 c1 x0.list) (h2 : RSl RInt 1 G0 a2 n2 c2 x1.list) {r : Bool} (H : f77 x0 x1 = some r) :
  Calls Try.prog 77 #[.agg #[.int .i64 x0.cost, .slice a1 n1 c1], .agg #[.int .i64 x1.cost, .slice a2 n2 c2]] w0 (RetV w0 (.bool r)) := by
 have hS := Since.start hS0
 have hO : Owns G0 w0 w0.heap.size [] := Owns.nil (Nat.le_refl _)
 unfold f77 at H
 refine enter1 (N := 25) (shutV _ _) Try.func77 rfl rfl rfl rfl ?_; refine WC_seq ?_; refine WC_region ?_; refine WL_op rfl (OpP_newF (v := fun b => .pointer (some ⟨b, 0, none⟩)) (cs := [.int .i64 x0.cost, .slice a1 n1 c1]) (e := 120) (rn_boxA rfl) hS.sat rfl (fun b3 G5 w4 hg hcb3 => ?_)); have hS := hS.grow hg; have hO := hO.grow hg
 have leG5 := hg.le
 refine WL_op rfl (OpP_newF (v := fun b => .pointer (some ⟨b, 0, none⟩)) (cs := [.int .i64 x1.cost, .slice a2 n2 c2]) (e := 120) (rn_boxA rfl) hS.sat rfl (fun b6 G8 w7 hg hcb6 => ?_)); have hS := hS.grow hg; have hO := hO.grow hg
 have leG8 := hg.le
 refine WL_val (rn_assign (v := (.bool false)) rfl) rfl ?_; refine WL_nil ?_; refine WC_seq ?_; have hS := hS.keep (below_drew _); have hO := hO.below (below_drew _)
 refine WC_regionD mixedO (fun _ w => Sat G8 w ∧ True) (.fl 0 (.fl 1 (.fl 2 (.fl 3 (.fl 5 (.fl 6 (.fl 7 (.fl 8 (.fl 9 (.fl 10 (.fl 12 (.fl 13 (.fl 14 (.fl 15 (.on 4 (.on 11 (.on 16 (.on 17 (.on 18 (.on 19 (.on 20 .nil))))))))))))))))))))) (by kernel_rfl) rfl (by kernel_rfl) (fun _ => ⟨hS.sat, trivial⟩) ?_
 refine WD_val rfl (fun w hw => rn_fld fd120_0 rfl) rfl ?_; refine WD_val rfl (fun w hw => rn_load na3 rfl ((hw.1.le leG8).cell (hcb3 0 _ rfl))) rfl ?_; refine WD_val rfl (fun w hw => rn_fld fd120_0 rfl) rfl ?_; refine WD_val rfl (fun w hw => rn_load na3 rfl (hw.1.cell (hcb6 0 _ rfl))) rfl ?_; refine WD_val rfl (fun w hw => rn_fld fd120_1 rfl) rfl ?_; refine WD_val rfl (fun w hw => rn_load na22 rfl ((hw.1.le leG8).cell (hcb3 1 _ rfl))) rfl ?_
 have l0_2 := leG5.trans leG8
 refine WD_val rfl (fun w hw => rn_len sl22 rfl rfl (h1.mono RInt_mono l0_2).1) rfl ?_; refine WD_val rfl (fun w hw => rn_fld fd120_1 rfl) rfl ?_; refine WD_val rfl (fun w hw => rn_load na22 rfl (hw.1.cell (hcb6 1 _ rfl))) rfl ?_; refine WD_val rfl (fun w hw => rn_len sl22 rfl rfl (h2.mono RInt_mono l0_2).1) rfl ?_; refine WD_val rfl (fun w hw => rn_fld fd120_1 rfl) rfl ?_; refine WD_val rfl (fun w hw => rn_load na22 rfl ((hw.1.le leG8).cell (hcb3 1 _ rfl))) rfl ?_; refine WD_val rfl (fun w hw => rn_fld fd120_1 rfl) rfl ?_; refine WD_val rfl (fun w hw => rn_load na22 rfl (hw.1.cell (hcb6 1 _ rfl))) rfl ?_; obtain ⟨y9, hy9, H⟩ := bnd H; refine WD_op rfl rfl (OpP_callV cb104 (f104_ok (x0 := x0.cost) (x1 := x1.cost) hS.sat  hy9) rfl rfl (fun w10 hb => ?_)); have hS := hS.keep hb; have hO := hO.below hb; refine ⟨fun _ _ => ⟨hS.sat, trivial⟩, ?_⟩; obtain ⟨y11, hy11, H⟩ := bnd H; refine WD_op rfl rfl (OpP_callV cb104 (f104_ok (x0 := (x0.list.length : Int)) (x1 := (x1.list.length : Int)) hS.sat  hy11) rfl rfl (fun w12 hb => ?_)); have hS := hS.keep hb; have hO := hO.below hb; refine ⟨fun _ _ => ⟨hS.sat, trivial⟩, ?_⟩; obtain ⟨y13, hy13, H⟩ := bnd H; refine WD_op rfl rfl (OpP_callV cb105 (f105_ok (x0 := x0.list) (x1 := x1.list) hS.sat (h1.mono RInt_mono l0_2) (h2.mono RInt_mono l0_2) hy13) rfl rfl (fun w14 hb => ?_)); have hS := hS.keep hb; have hO := hO.below hb
 refine ⟨fun _ h => noneed (by kernel_rfl) h, ?_⟩
 refine WD_op rfl rfl (OpP_newF (v := fun b => .slice (some ⟨b, 0, none⟩) 3 3) (cs := [.int .i64 y9, .int .i64 y11, .int .i64 y13]) (e := 3) (by kernel_rfl) hS.sat rfl (fun b15 G17 w16 hg hcb15 => ?_))
 have hS := hS.grow hg; have hO := hO.grow hg
 have leG17 := hg.le
 have hfb15 : RSl RInt 1 G17 (some ⟨b15, 0, none⟩) 3 3 [y9, y11, y13] := RSl.of_rd hcb15 (Rd.cons (c := [.int .i64 y9]) rfl rfl (Rd.cons (c := [.int .i64 y11]) rfl rfl (Rd.cons (c := [.int .i64 y13]) rfl rfl (Rd.nil RInt 1 _)))) rfl (by decide)
 refine ⟨fun _ h => noneed (by kernel_rfl) h, ?_⟩
 obtain ⟨y18, hy18, H⟩ := bnd H; refine WD_op rfl rfl (OpP_callV cb103 (f103_ok (x0 := [y9, y11, y13]) hS.sat hfb15 hy18) rfl rfl (fun w19 hb => ?_)); have hS := hS.keep hb; have hO := hO.below hb
 refine ⟨fun _ h => noneed (by kernel_rfl) h, ?_⟩
 refine WD_op rfl rfl (OpP_val (rn_lss rfl rfl) rfl ?_)
 refine ⟨fun _ h => noneed (by kernel_rfl) h, ?_⟩
 refine WD_op rfl rfl (OpP_val (rn_assign (v := (.bool (decide (y18 < 0)))) rfl) rfl ?_)
 refine ⟨fun _ h => noneed (by kernel_rfl) h, ?_⟩
 refine WD_nil ?_; refine WC_ret ?_
 have H : some (decide (y18 < 0)) = some r := H
 have H := Option.some.inj H; subst H
 exact ⟨rfl, hS.below⟩
end Go.Proofs.Ytajejmbnmphngaa
