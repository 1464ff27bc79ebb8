/-
  The walks: each Go function computes its plain function (printed by a program of ours).
-/
import Derived.Test.YtajejmbnmphngaaRd
import Derived.Test.YtajejmbnmphngaaBaseL
import Derived.Test.YtajejmbnmphngaaP9W3
namespace Go.Proofs.Ytajejmbnmphngaa
open Go.RowKit
set_option linter.unusedVariables false

set_option maxRecDepth 20000
set_option linter.unusedVariables false
set_option maxHeartbeats 1000000 in
theorem f29_ok {G0 : Gm} {w0 : World} (hS0 : Sat G0 w0) {x0 : TShipStore} {a1 : Option Addr} {n1 c1 : Nat} {a2 : Option Addr} {n2 c2 : Nat} {a3 : Option Addr} {n3 c3 : Nat} {x1 : (List Int)} {a4 : Option Addr} {n4 c4 : Nat} {x2 : Int} {x3 : TShipTruth} {a5 : Option Addr} {n5 c5 : Nat} {a6 : Option Addr} {n6 c6 : Nat} {a7 : Option Addr} {n7 c7 : Nat} {x4 : Int} {x5 : Int} (h1 : RSl RInt 1 G0 a1 n1 c1 x0.Stock) (h2 : RSl RTSpan 2 G0 a2 n2 c2 x0.Use) (h3 : RSl RTShipLot 3 G0 a3 n3 c3 x0.Lots) (h4 : RSl RInt 1 G0 a4 n4 c4 x1) (h5 : RSl RInt 1 G0 a5 n5 c5 x3.Uses) (h6 : RSl RInt 1 G0 a6 n6 c6 x3.Gaps) (h7 : RSl (RSlice RInt 1) 1 G0 a7 n7 c7 x3.Goods) {r : Int × Int} (H : f29 x0 x1 x2 x3 x4 x5 = some r) :
  Calls Try.prog 29 #[.agg #[.slice a1 n1 c1, .slice a2 n2 c2, .int .i64 x0.Gap.Low, .int .i64 x0.Gap.High, .slice a3 n3 c3, .int .i64 x0.Hold], .slice a4 n4 c4, .int .i64 x2, .agg #[.slice a5 n5 c5, .slice a6 n6 c6, .slice a7 n7 c7], .int .i64 x4, .int .i64 x5] w0 (RetV w0 (.tuple #[.int .i64 r.1, .int .i64 r.2])) := by
 have hS := Since.start hS0
 have hO : Owns G0 w0 w0.heap.size [] := Owns.nil (Nat.le_refl _)
 unfold f29 at H
 refine enter2 (N := 74) (shutV _ _) Try.func29 rfl rfl rfl rfl ?_; refine WC_seq ?_; refine WC_region ?_; refine WL_op rfl (OpP_newF (v := fun b => .pointer (some ⟨b, 0, none⟩)) (cs := [.slice a1 n1 c1, .slice a2 n2 c2, .int .i64 x0.Gap.Low, .int .i64 x0.Gap.High, .slice a3 n3 c3, .int .i64 x0.Hold]) (e := 42) (rn_boxA rfl) hS.sat rfl (fun b8 G10 w9 hg hcb8 => ?_)); have hS := hS.grow hg; have hO := hO.grow hg
 have leG10 := hg.le
 refine WL_op rfl (OpP_newF (v := fun b => .pointer (some ⟨b, 0, none⟩)) (cs := [.slice a5 n5 c5, .slice a6 n6 c6, .slice a7 n7 c7]) (e := 45) (rn_boxA rfl) hS.sat rfl (fun b11 G13 w12 hg hcb11 => ?_)); have hS := hS.grow hg; have hO := hO.grow hg
 have leG13 := hg.le
 refine WL_val (rn_assign (v := (.int .i64 0)) rfl) rfl ?_; refine WL_val (rn_assign (v := (.int .i64 0)) rfl) rfl ?_; refine WL_nil ?_; refine WC_seq ?_; refine WC_region ?_; refine WL_val (rn_fld fd42_0 rfl) rfl ?_; refine WL_val (rn_load na22 rfl ((hS.sat.le leG13).cell (hcb8 0 _ rfl))) rfl ?_; refine WL_val (rn_move (v := (.int .i64 x4)) rfl) rfl ?_; obtain ⟨y14, hy14, H⟩ := bnd H
 have l0_2 := leG10.trans leG13
 refine WL_idx sl22 (h1.mono RInt_mono l0_2) hy14 rfl rfl rfl ?_
 rintro b15 o15 _ hcb15 _ ⟨⟩
 refine WL_val (rn_load na3 rfl (hS.sat.cell (hcb15 0 _ rfl))) rfl ?_; refine WL_val (rn_assign (v := (.int .i64 y14)) rfl) rfl ?_; refine WL_val (rn_assign (v := (.int .i64 (-1))) rfl) rfl ?_; refine WL_nil ?_; refine WC_seq ?_; refine WC_region ?_; refine WL_val (rn_fld fd45_0 rfl) rfl ?_; refine WL_val (rn_load na22 rfl (hS.sat.cell (hcb11 0 _ rfl))) rfl ?_; refine WL_val (rn_move (v := (.int .i64 x4)) rfl) rfl ?_; obtain ⟨y16, hy16, H⟩ := bnd H; refine WL_idx sl22 (h5.mono RInt_mono l0_2) hy16 rfl rfl rfl ?_
 rintro b17 o17 _ hcb17 _ ⟨⟩
 refine WL_val (rn_load na3 rfl (hS.sat.cell (hcb17 0 _ rfl))) rfl ?_; refine WL_val (rn_move (v := (.int .i64 x5)) rfl) rfl ?_; refine WL_val (rn_mul rfl rfl) rfl ?_; refine WL_val (rn_add rfl rfl) rfl ?_
 refine WL_val (rn_quo rfl rfl (by decide)) rfl ?_
 refine WL_val (rn_assign (v := (.int .i64 (IntKind.i64.wrap ((IntKind.i64.wrap ((IntKind.i64.wrap (y16 * x5)) + 999)).tdiv 1000)))) rfl) rfl ?_; refine WL_nil ?_; refine WC_seq ?_; refine WC_seq ?_; refine WC_region ?_; refine WL_val (rn_assign (v := (.int .i64 0)) rfl) rfl ?_; refine WL_nil ?_; obtain ⟨q20, hq20, H⟩ := bnd H; refine WC_cut (fun F w => ∃ (Fb : Fr) (G : Gm), F = upds Fb [(14, .int .i64 q20.1), (15, .int .i64 q20.2)] ∧ Gle G13 G ∧ Since w0.heap.size G0 w0 G w ∧ Owns G w w0.heap.size []) ?_ ?_
 ·refine WC_block (WC_loop hq20 (fun s18 F w => ∃ (Fb : Fr) (G : Gm), F = upds Fb [(1, .slice a4 n4 c4), (2, .int .i64 x2), (4, .int .i64 x4), (9, .pointer (some ⟨b11, 0, none⟩)), (14, .int .i64 s18.1), (15, .int .i64 s18.2.1), (16, .int .i64 (IntKind.i64.wrap ((IntKind.i64.wrap ((IntKind.i64.wrap (y16 * x5)) + 999)).tdiv 1000))), (17, .int .i64 s18.2.2)] ∧ Gle G13 G ∧ Since w0.heap.size G0 w0 G w ∧ Owns G w w0.heap.size []) ?_ ?_)
  ·have hO : Owns G13 w12 w0.heap.size ([]) := hO
   exact ⟨_, G13, upds_self _ _ ⟨rfl, rfl, rfl, rfl, rfl, rfl, rfl, rfl, trivial⟩, Gle.refl _, hS, hO⟩
  ·rintro s18 F w22 t21 ⟨Fb, G23, rfl, leG23, hS, hO⟩
   intro H1 hqq20
   have Hoq20 := H; have H := H1
   unfold f29_b0 at H
   refine WC_seq ?_; refine WC_seq ?_; refine WC_region ?_; refine WL_val (rn_move (v := (.int .i64 s18.2.2)) rfl) rfl ?_; refine WL_val (rn_move (v := (.int .i64 x2)) rfl) rfl ?_; refine WL_val (rn_lss rfl rfl) rfl ?_; refine WL_nil ?_; refine WC_cond rfl (fun hb24 => ?_) (fun hb24 => ?_)
   ·have H := ifT hb24 H; refine WC_skip ?_; refine WC_seq ?_; refine WC_block ?_; refine WC_seq ?_; obtain ⟨q25, hq25, H⟩ := bnd H; refine WC_cut (fun F w => ∃ (Fb : Fr) (G : Gm), F = upds Fb [(1, .slice a4 n4 c4), (2, .int .i64 x2), (4, .int .i64 x4), (9, .pointer (some ⟨b11, 0, none⟩)), (14, .int .i64 q25), (15, .int .i64 s18.2.1), (16, .int .i64 (IntKind.i64.wrap ((IntKind.i64.wrap ((IntKind.i64.wrap (y16 * x5)) + 999)).tdiv 1000))), (17, .int .i64 s18.2.2)] ∧ Gle G23 G ∧ Since w0.heap.size G0 w0 G w ∧ Owns G w w0.heap.size []) ?_ ?_
    ·have Hoq25 := H; have H := hq25; refine WC_seq ?_; refine WC_region ?_; refine WL_val (rn_loadA ag45 (cs := [.slice a5 n5 c5, .slice a6 n6 c6, .slice a7 n7 c7]) rfl rfl (fun j v hj => (hS.sat.le leG23).cell (hcb11.drop_take 0 3 j v hj))) rfl ?_; refine WL_val (rn_move (v := (.int .i64 s18.2.2)) rfl) rfl ?_; obtain ⟨y26, hy26, H⟩ := bnd H
     have l0_3 := l0_2.trans leG23
     refine WL_op rfl (OpP_callV cb73 (f73_ok (x0 := x3) (x1 := s18.2.2) hS.sat (h5.mono RInt_mono l0_3) (h6.mono RInt_mono l0_3) (h7.mono (RSlice_mono RInt_mono) l0_3) hy26) rfl rfl (fun w27 hb => ?_)); have hS := hS.keep hb; have hO := hO.below hb; refine WL_nil ?_; refine WC_cond rfl (fun hb28 => ?_) (fun hb28 => ?_)
     ·have H := ifT hb28 H; refine WC_seq ?_; refine WC_region ?_; refine WL_val (rn_assign (v := (.int .i64 0)) rfl) rfl ?_; refine WL_nil ?_; obtain ⟨q31, hq31, H⟩ := bnd H; refine WC_cut (fun F w => ∃ (Fb : Fr) (G : Gm), F = upds Fb [(1, .slice a4 n4 c4), (2, .int .i64 x2), (4, .int .i64 x4), (9, .pointer (some ⟨b11, 0, none⟩)), (14, .int .i64 q31), (15, .int .i64 s18.2.1), (16, .int .i64 (IntKind.i64.wrap ((IntKind.i64.wrap ((IntKind.i64.wrap (y16 * x5)) + 999)).tdiv 1000))), (17, .int .i64 s18.2.2)] ∧ Gle G23 G ∧ Since w0.heap.size G0 w0 G w ∧ Owns G w w0.heap.size []) ?_ ?_
      ·refine WC_block (WC_loop hq31 (fun s29 F w => ∃ (Fb : Fr) (G : Gm), F = upds Fb [(1, .slice a4 n4 c4), (2, .int .i64 x2), (4, .int .i64 x4), (9, .pointer (some ⟨b11, 0, none⟩)), (14, .int .i64 s29.1), (15, .int .i64 s18.2.1), (16, .int .i64 (IntKind.i64.wrap ((IntKind.i64.wrap ((IntKind.i64.wrap (y16 * x5)) + 999)).tdiv 1000))), (17, .int .i64 s18.2.2), (18, .int .i64 s29.2)] ∧ Gle G23 G ∧ Since w0.heap.size G0 w0 G w ∧ Owns G w w0.heap.size []) ?_ ?_)
       ·have hO : Owns G23 w27 w0.heap.size ([]) := hO
        exact ⟨_, G23, upds_self _ _ ⟨rfl, rfl, rfl, rfl, rfl, rfl, rfl, rfl, rfl, trivial⟩, Gle.refl _, hS, hO⟩
       ·rintro s29 F w33 t32 ⟨Fb, G34, rfl, leG34, hS, hO⟩
        intro H1 hqq31
        have Hoq31 := H; have H := H1
        unfold f29_b1 at H
        refine WC_seq ?_; refine WC_seq ?_; refine WC_region ?_; refine WL_val (rn_move (v := (.int .i64 s29.2)) rfl) rfl ?_; refine WL_val (rn_move (v := (.slice a4 n4 c4)) rfl) rfl ?_
        have l0_4 := l0_3.trans leG34
        refine WL_val (rn_len sl22 rfl rfl (h4.mono RInt_mono l0_4).1) rfl ?_; refine WL_val (rn_lss rfl rfl) rfl ?_; refine WL_nil ?_; refine WC_cond rfl (fun hb35 => ?_) (fun hb35 => ?_)
        ·have H := ifT hb35 H; refine WC_skip ?_; refine WC_seq ?_; refine WC_block ?_; have hS := hS.keep (below_drew _); have hO := hO.below (below_drew _)
         refine WC_regionD mixedO (fun _ w => Sat G34 w ∧ True) (.fl 0 (.fl 1 (.fl 2 (.fl 3 (.fl 4 (.fl 5 (.fl 6 (.fl 7 (.fl 8 (.on 9 (.on 10 (.on 11 (.on 12 (.on 13 .nil)))))))))))))) (by kernel_rfl) rfl (by kernel_rfl) (fun _ => ⟨hS.sat, trivial⟩) ?_
         refine WD_val rfl (fun w hw => rn_move (v := (.int .i64 s29.1)) rfl) rfl ?_; refine WD_val rfl (fun w hw => rn_fld fd45_2 rfl) rfl ?_; refine WD_val rfl (fun w hw => rn_load na43 rfl ((hw.1.le (leG23.trans leG34)).cell (hcb11 2 _ rfl))) rfl ?_; refine WD_val rfl (fun w hw => rn_move (v := (.slice a4 n4 c4)) rfl) rfl ?_; refine WD_val rfl (fun w hw => rn_move (v := (.int .i64 s29.2)) rfl) rfl ?_; obtain ⟨y36, hy36, H⟩ := bnd H; refine WD_idx rfl sl22 (h4.mono RInt_mono l0_4) hy36 rfl rfl rfl ?_
         rintro b37 o37 _ hcb37 _ ⟨⟩
         refine WD_val rfl (fun w hw => rn_load na3 rfl (hw.1.cell (hcb37 0 _ rfl))) rfl ?_; obtain ⟨y38, hy38, H⟩ := bnd H; refine WD_idx rfl sl43 (h7.mono (RSlice_mono RInt_mono) l0_4) hy38 rfl rfl rfl ?_
         rintro b39 o39 _ hcb39 _ ⟨a40, n40, c40, ⟨⟩, h40⟩
         refine WD_val rfl (fun w hw => rn_load na22 rfl (hw.1.cell (hcb39 0 _ rfl))) rfl ?_; refine WD_op rfl rfl (OpP_val (rn_move (v := (.int .i64 x4)) rfl) rfl ?_); refine ⟨fun _ _ => ⟨hS.sat, trivial⟩, ?_⟩; obtain ⟨y41, hy41, H⟩ := bnd H; refine WD_op rfl rfl (OpP_idx sl22 h40 hy41 rfl rfl rfl ?_)
         rintro b42 o42 _ hcb42 _ ⟨⟩
         refine ⟨fun _ _ => ⟨hS.sat, trivial⟩, ?_⟩; refine WD_op rfl rfl (OpP_val (rn_load na3 rfl (hS.sat.cell (hcb42 0 _ rfl))) rfl ?_); refine ⟨fun _ _ => ⟨hS.sat, trivial⟩, ?_⟩; refine WD_op rfl rfl (OpP_val (rn_add rfl rfl) rfl ?_)
         refine ⟨fun _ h => noneed (by kernel_rfl) h, ?_⟩
         refine WD_op rfl rfl (OpP_val (rn_assign (v := (.int .i64 (IntKind.i64.wrap (s29.1 + y41)))) rfl) rfl ?_)
         refine ⟨fun _ h => noneed (by kernel_rfl) h, ?_⟩
         refine WD_nil ?_; refine WC_region ?_; refine WL_val (rn_move (v := (.int .i64 s29.2)) rfl) rfl ?_; refine WL_val (rn_add rfl rfl) rfl ?_; refine WL_val (rn_assign (v := (.int .i64 (IntKind.i64.wrap (s29.2 + 1)))) rfl) rfl ?_; refine WL_nil ?_
         have hO : Owns G34 w33.drew w0.heap.size ([]) := hO
         have H := Option.some.inj H; subst H; refine ⟨_, rfl, ?_⟩
         exact ⟨_, G34, upds_self _ _ ⟨rfl, rfl, rfl, rfl, rfl, rfl, rfl, rfl, rfl, trivial⟩, leG34, hS, hO⟩
        ·have H := ifF hb35 H; refine WC_exit rfl ?_
         have hO : Owns G34 w33 w0.heap.size ([]) := hO
         have H := Option.some.inj H; subst H
         have hres := hqq31 _ rfl
         subst hres
         exact ⟨_, G34, upds_self _ _ ⟨rfl, rfl, rfl, rfl, rfl, rfl, rfl, rfl, trivial⟩, leG34, hS, hO⟩
      ·rintro F w43 ⟨Fb, G44, rfl, leG44, hS, hO⟩
       have hO : Owns G44 w43 w0.heap.size ([]) := hO
       have H := Option.some.inj H; subst H
       exact ⟨_, G44, upds_self _ _ ⟨rfl, rfl, rfl, rfl, rfl, rfl, rfl, rfl, trivial⟩, leG44, hS, hO⟩
     ·have H := ifF hb28 H; refine WC_skip ?_
      have hO : Owns G23 w27 w0.heap.size ([]) := hO
      have H := Option.some.inj H; subst H
      exact ⟨_, G23, upds_self _ _ ⟨rfl, rfl, rfl, rfl, rfl, rfl, rfl, rfl, trivial⟩, Gle.refl _, hS, hO⟩
    ·rintro F w45 ⟨Fb, G46, rfl, leG46, hS, hO⟩
     refine WC_seq ?_; obtain ⟨q47, hq47, H⟩ := bnd H; refine WC_cut (fun F w => ∃ (Fb : Fr), F = upds Fb [(1, .slice a4 n4 c4), (2, .int .i64 x2), (4, .int .i64 x4), (9, .pointer (some ⟨b11, 0, none⟩)), (14, .int .i64 q25), (15, .int .i64 q47), (16, .int .i64 (IntKind.i64.wrap ((IntKind.i64.wrap ((IntKind.i64.wrap (y16 * x5)) + 999)).tdiv 1000))), (17, .int .i64 s18.2.2)] ∧ w45 = w) ?_ ?_
     ·have Hoq47 := H; have H := hq47; refine WC_seq ?_; obtain ⟨q48, hq48, H⟩ := bnd H; refine WC_cut (fun F w => ∃ (Fb : Fr), F = upds Fb [(1, .slice a4 n4 c4), (2, .int .i64 x2), (4, .int .i64 x4), (9, .pointer (some ⟨b11, 0, none⟩)), (14, .int .i64 q25), (15, .int .i64 s18.2.1), (16, .int .i64 (IntKind.i64.wrap ((IntKind.i64.wrap ((IntKind.i64.wrap (y16 * x5)) + 999)).tdiv 1000))), (17, .int .i64 s18.2.2), (66, .bool q48)] ∧ w45 = w) ?_ ?_
      ·have Hoq48 := H; have H := hq48; refine WC_region ?_; refine WL_val (rn_move (v := (.int .i64 q25)) rfl) rfl ?_; refine WL_val (rn_move (v := (.int .i64 (IntKind.i64.wrap ((IntKind.i64.wrap ((IntKind.i64.wrap (y16 * x5)) + 999)).tdiv 1000)))) rfl) rfl ?_; refine WL_val (rn_lss rfl rfl) rfl ?_; refine WL_val (rn_move (v := (.bool (decide (q25 < (IntKind.i64.wrap ((IntKind.i64.wrap ((IntKind.i64.wrap (y16 * x5)) + 999)).tdiv 1000)))))) rfl) rfl ?_
       rcases bcases (decide (q25 < (IntKind.i64.wrap ((IntKind.i64.wrap ((IntKind.i64.wrap (y16 * x5)) + 999)).tdiv 1000)))) with hb49 | hb49
       ·have H := ifT hb49 H; refine WL_guardY rfl hb49 rfl rfl ?_; refine WL_val (rn_move (v := (.int .i64 s18.2.1)) rfl) rfl ?_; refine WL_guardY rfl hb49 rfl rfl ?_; refine WL_val (rn_lss rfl rfl) rfl ?_; refine WL_val (rn_pickT (v := (.bool (decide (s18.2.1 < 0)))) rfl hb49 rfl) rfl ?_; refine WL_nil ?_; have H := Option.some.inj H; subst H
        exact ⟨_, upds_self _ _ ⟨rfl, rfl, rfl, rfl, rfl, rfl, rfl, rfl, rfl, trivial⟩, rfl⟩
       ·have H := ifF hb49 H; refine WL_guardN rfl hb49 rfl rfl rfl ?_; refine WL_guardN rfl hb49 rfl rfl rfl ?_; refine WL_val (rn_pickF (v := (.bool false)) rfl hb49 rfl) rfl ?_; refine WL_nil ?_; have H := Option.some.inj H; subst H
        exact ⟨_, upds_self _ _ ⟨rfl, rfl, rfl, rfl, rfl, rfl, rfl, rfl, rfl, trivial⟩, rfl⟩
      ·rintro F wl ⟨Fb, rfl, rfl⟩
       refine WC_cond rfl (fun hb52 => ?_) (fun hb52 => ?_)
       ·have H := ifT hb52 H; refine WC_region ?_; refine WL_val (rn_move (v := (.int .i64 s18.2.2)) rfl) rfl ?_; refine WL_val (rn_assign (v := (.int .i64 s18.2.2)) rfl) rfl ?_; refine WL_nil ?_; have H := Option.some.inj H; subst H
        exact ⟨_, upds_self _ _ ⟨rfl, rfl, rfl, rfl, rfl, rfl, rfl, rfl, trivial⟩, rfl⟩
       ·have H := ifF hb52 H; refine WC_skip ?_; have H := Option.some.inj H; subst H
        exact ⟨_, upds_self _ _ ⟨rfl, rfl, rfl, rfl, rfl, rfl, rfl, rfl, trivial⟩, rfl⟩
     ·rintro F wl ⟨Fb, rfl, rfl⟩
      refine WC_region ?_; refine WL_val (rn_move (v := (.int .i64 q25)) rfl) rfl ?_; refine WL_val (rn_move (v := (.int .i64 (IntKind.i64.wrap ((IntKind.i64.wrap ((IntKind.i64.wrap (y16 * x5)) + 999)).tdiv 1000)))) rfl) rfl ?_; refine WL_val (rn_sub rfl rfl) rfl ?_; refine WL_val (rn_max rfl rfl) rfl ?_; refine WL_val (rn_assign (v := (.int .i64 (if 0 < IntKind.i64.wrap (q25 - (IntKind.i64.wrap ((IntKind.i64.wrap ((IntKind.i64.wrap (y16 * x5)) + 999)).tdiv 1000))) then IntKind.i64.wrap (q25 - (IntKind.i64.wrap ((IntKind.i64.wrap ((IntKind.i64.wrap (y16 * x5)) + 999)).tdiv 1000))) else 0))) rfl) rfl ?_; refine WL_nil ?_; refine WC_region ?_; refine WL_val (rn_move (v := (.int .i64 s18.2.2)) rfl) rfl ?_; refine WL_val (rn_add rfl rfl) rfl ?_; refine WL_val (rn_assign (v := (.int .i64 (IntKind.i64.wrap (s18.2.2 + 1)))) rfl) rfl ?_; refine WL_nil ?_
      have hO : Owns G46 w45 w0.heap.size ([]) := hO
      have H := Option.some.inj H; subst H; refine ⟨_, rfl, ?_⟩
      have l2_4 := leG23.trans leG46
      exact ⟨_, G46, upds_self _ _ ⟨rfl, rfl, rfl, rfl, rfl, rfl, rfl, rfl, trivial⟩, l2_4, hS, hO⟩
   ·have H := ifF hb24 H; refine WC_exit rfl ?_
    have hO : Owns G23 w22 w0.heap.size ([]) := hO
    have H := Option.some.inj H; subst H
    have hres := hqq20 _ rfl
    subst hres
    exact ⟨_, G23, upds_self _ _ ⟨rfl, rfl, trivial⟩, leG23, hS, hO⟩
 ·rintro F w55 ⟨Fb, G56, rfl, leG56, hS, hO⟩
  refine WC_seq ?_; refine WC_region ?_; refine WL_val (rn_move (v := (.int .i64 q20.2)) rfl) rfl ?_; refine WL_val (rn_move (v := (.int .i64 q20.1)) rfl) rfl ?_; refine WL_val (rn_assign (v := (.int .i64 q20.2)) rfl) rfl ?_; refine WL_val (rn_assign (v := (.int .i64 q20.1)) rfl) rfl ?_; refine WL_nil ?_; refine WC_ret ?_
  have H : some (q20.2, q20.1) = some r := H
  have H := Option.some.inj H; subst H
  exact ⟨rfl, hS.below⟩
set_option maxHeartbeats 1000000 in
theorem f31_ok {G0 : Gm} {w0 : World} (hS0 : Sat G0 w0) {x0 : TShipStore} {a1 : Option Addr} {n1 c1 : Nat} {a2 : Option Addr} {n2 c2 : Nat} {a3 : Option Addr} {n3 c3 : Nat} {x1 : Int} {x2 : Bool} (h1 : RSl RInt 1 G0 a1 n1 c1 x0.Stock) (h2 : RSl RTSpan 2 G0 a2 n2 c2 x0.Use) (h3 : RSl RTShipLot 3 G0 a3 n3 c3 x0.Lots) {r : TShipTruth} (H : f31 x0 x1 x2 = some r) :
  Calls Try.prog 31 #[.agg #[.slice a1 n1 c1, .slice a2 n2 c2, .int .i64 x0.Gap.Low, .int .i64 x0.Gap.High, .slice a3 n3 c3, .int .i64 x0.Hold], .int .i64 x1, .bool x2] w0 (RetG G0 w0 (fun G v => ∃ (ra0 : Option Addr) (rn0 rc0 : Nat) (ra1 : Option Addr) (rn1 rc1 : Nat) (ra2 : Option Addr) (rn2 rc2 : Nat), v = .agg #[.slice ra0 rn0 rc0, .slice ra1 rn1 rc1, .slice ra2 rn2 rc2] ∧ RSl RInt 1 G ra0 rn0 rc0 r.Uses ∧ RSl RInt 1 G ra1 rn1 rc1 r.Gaps ∧ RSl (RSlice RInt 1) 1 G ra2 rn2 rc2 r.Goods)) := by
 have hS := Since.start hS0
 have hO : Owns G0 w0 w0.heap.size [] := Owns.nil (Nat.le_refl _)
 unfold f31 at H
 refine enterG (N := 107) (shutG _ _ _) [.cell 6 45] Try.func31 rfl rfl rfl rfl ?_; refine WC_seq ?_; refine WC_region ?_; refine WL_op rfl (OpP_newF (v := fun b => .pointer (some ⟨b, 0, none⟩)) (cs := [.slice a1 n1 c1, .slice a2 n2 c2, .int .i64 x0.Gap.Low, .int .i64 x0.Gap.High, .slice a3 n3 c3, .int .i64 x0.Hold]) (e := 42) (rn_boxA rfl) hS.sat rfl (fun b4 G6 w5 hg hcb4 => ?_)); have hS := hS.grow hg; have hO := hO.grow hg
 have leG6 := hg.le
 refine WL_op rfl (OpP_newO (v := fun b => .pointer (some ⟨b, 0, none⟩)) (cs := [.slice none 0 0, .slice none 0 0, .slice none 0 0]) (e := 45) (by kernel_rfl) hS.sat hO rfl 3 1 rfl (by decide) (fun b7 w8 hb hO => ?_))
 have hS := hS.keep hb; refine WL_nil ?_; refine WC_seq ?_; refine WC_region ?_
 refine WL_op rfl (OpP_newO (v := fun b => .pointer (some ⟨b, 0, none⟩)) (cs := [.slice none 0 0, .slice none 0 0, .slice none 0 0]) (e := 45) (by kernel_rfl) hS.sat hO rfl 3 1 rfl (by decide) (fun b10 w11 hb hO => ?_))
 have hS := hS.keep hb; refine WL_nil ?_; refine WC_seq ?_; refine WC_seq ?_; refine WC_region ?_; refine WL_val (rn_assign (v := (.int .i64 0)) rfl) rfl ?_; refine WL_nil ?_; have hO := hO.cons_nil 3 1; have hO := hO.cons_nil 3 1; have hO := hO.cons_nil 22 1; obtain ⟨q18, hq18, H⟩ := bnd H; refine WC_cut (fun F w => ∃ (Fb : Fr) (G : Gm) (aq18_0 : Option Addr) (nq18_0 cq18_0 : Nat) (claq18_0 : List Value) (aq18_1 : Option Addr) (nq18_1 cq18_1 : Nat) (claq18_1 : List Value) (aq18_2 : Option Addr) (nq18_2 cq18_2 : Nat) (claq18_2 : List Value) (aq18_3 : Option Addr) (nq18_3 cq18_3 : Nat) (aq18_4 : Option Addr) (nq18_4 cq18_4 : Nat) (aq18_5 : Option Addr) (nq18_5 cq18_5 : Nat), F = upds Fb [(1, .int .i64 x1), (2, .bool x2), (3, .pointer (some ⟨b4, 0, none⟩)), (6, .pointer (some ⟨b7, 0, none⟩)), (7, .pointer (some ⟨b10, 0, none⟩))] ∧ Gle G6 G ∧ Since w0.heap.size G0 w0 G w ∧ Owns G w w0.heap.size [⟨22, 1, nq18_2, .slice aq18_2 nq18_2 cq18_2, claq18_2⟩, ⟨3, 1, nq18_1, .slice aq18_1 nq18_1 cq18_1, claq18_1⟩, ⟨3, 1, nq18_0, .slice aq18_0 nq18_0 cq18_0, claq18_0⟩, ⟨45, 3, 1, .slice (some ⟨b10, 0, none⟩) 1 1, [.slice aq18_0 nq18_0 cq18_0, .slice aq18_1 nq18_1 cq18_1, .slice aq18_2 nq18_2 cq18_2]⟩, ⟨45, 3, 1, .slice (some ⟨b7, 0, none⟩) 1 1, [.slice aq18_3 nq18_3 cq18_3, .slice aq18_4 nq18_4 cq18_4, .slice aq18_5 nq18_5 cq18_5]⟩] ∧ nq18_0 = q18.1.Uses.length ∧ Rd RInt 1 G claq18_0 q18.1.Uses ∧ nq18_1 = q18.1.Gaps.length ∧ Rd RInt 1 G claq18_1 q18.1.Gaps ∧ nq18_2 = q18.1.Goods.length ∧ Rd (RSlice RInt 1) 1 G claq18_2 q18.1.Goods ∧ RSl RInt 1 G aq18_3 nq18_3 cq18_3 q18.2.Uses ∧ RSl RInt 1 G aq18_4 nq18_4 cq18_4 q18.2.Gaps ∧ RSl (RSlice RInt 1) 1 G aq18_5 nq18_5 cq18_5 q18.2.Goods) ?_ ?_
 ·refine WC_block (WC_loop hq18 (fun s16 F w => ∃ (Fb : Fr) (G : Gm) (as16_0 : Option Addr) (ns16_0 cs16_0 : Nat) (clas16_0 : List Value) (as16_1 : Option Addr) (ns16_1 cs16_1 : Nat) (clas16_1 : List Value) (as16_2 : Option Addr) (ns16_2 cs16_2 : Nat) (clas16_2 : List Value) (as16_3 : Option Addr) (ns16_3 cs16_3 : Nat) (as16_4 : Option Addr) (ns16_4 cs16_4 : Nat) (as16_5 : Option Addr) (ns16_5 cs16_5 : Nat), F = upds Fb [(1, .int .i64 x1), (2, .bool x2), (3, .pointer (some ⟨b4, 0, none⟩)), (6, .pointer (some ⟨b7, 0, none⟩)), (7, .pointer (some ⟨b10, 0, none⟩)), (8, .int .i64 s16.1)] ∧ Gle G6 G ∧ Since w0.heap.size G0 w0 G w ∧ Owns G w w0.heap.size [⟨22, 1, ns16_2, .slice as16_2 ns16_2 cs16_2, clas16_2⟩, ⟨3, 1, ns16_1, .slice as16_1 ns16_1 cs16_1, clas16_1⟩, ⟨3, 1, ns16_0, .slice as16_0 ns16_0 cs16_0, clas16_0⟩, ⟨45, 3, 1, .slice (some ⟨b10, 0, none⟩) 1 1, [.slice as16_0 ns16_0 cs16_0, .slice as16_1 ns16_1 cs16_1, .slice as16_2 ns16_2 cs16_2]⟩, ⟨45, 3, 1, .slice (some ⟨b7, 0, none⟩) 1 1, [.slice as16_3 ns16_3 cs16_3, .slice as16_4 ns16_4 cs16_4, .slice as16_5 ns16_5 cs16_5]⟩] ∧ ns16_0 = s16.2.1.Uses.length ∧ Rd RInt 1 G clas16_0 s16.2.1.Uses ∧ ns16_1 = s16.2.1.Gaps.length ∧ Rd RInt 1 G clas16_1 s16.2.1.Gaps ∧ ns16_2 = s16.2.1.Goods.length ∧ Rd (RSlice RInt 1) 1 G clas16_2 s16.2.1.Goods ∧ RSl RInt 1 G as16_3 ns16_3 cs16_3 s16.2.2.Uses ∧ RSl RInt 1 G as16_4 ns16_4 cs16_4 s16.2.2.Gaps ∧ RSl (RSlice RInt 1) 1 G as16_5 ns16_5 cs16_5 s16.2.2.Goods) ?_ ?_)
  ·have hO : Owns G6 w11 w0.heap.size ([⟨22, 1, 0, .slice none 0 0, []⟩, ⟨3, 1, 0, .slice none 0 0, []⟩, ⟨3, 1, 0, .slice none 0 0, []⟩, ⟨45, 3, 1, .slice (some ⟨b10, 0, none⟩) 1 1, [.slice none 0 0, .slice none 0 0, .slice none 0 0]⟩, ⟨45, 3, 1, .slice (some ⟨b7, 0, none⟩) 1 1, [.slice none 0 0, .slice none 0 0, .slice none 0 0]⟩]) := hO
   exact ⟨_, G6, none, 0, 0, [], none, 0, 0, [], none, 0, 0, [], none, 0, 0, none, 0, 0, none, 0, 0, upds_self _ _ ⟨rfl, rfl, rfl, rfl, rfl, rfl, trivial⟩, Gle.refl _, hS, hO, rfl, (Rd.nil RInt 1 G6), rfl, (Rd.nil RInt 1 G6), rfl, (Rd.nil (RSlice RInt 1) 1 G6), (RSl.nil _ _ _ _), (RSl.nil _ _ _ _), (RSl.nil _ _ _ _)⟩
  ·rintro s16 F w20 t19 ⟨Fb, G21, as16_0, ns16_0, cs16_0, clas16_0, as16_1, ns16_1, cs16_1, clas16_1, as16_2, ns16_2, cs16_2, clas16_2, as16_3, ns16_3, cs16_3, as16_4, ns16_4, cs16_4, as16_5, ns16_5, cs16_5, rfl, leG21, hS, hO, hnhs16_0, hs16_0, hnhs16_1, hs16_1, hnhs16_2, hs16_2, hs16_3, hs16_4, hs16_5⟩
   intro H1 hqq18
   have Hoq18 := H; have H := H1
   unfold f31_b0 at H
   refine WC_seq ?_; refine WC_seq ?_; refine WC_region ?_; refine WL_val (rn_move (v := (.int .i64 s16.1)) rfl) rfl ?_; refine WL_val (rn_fld fd42_1 rfl) rfl ?_; refine WL_val (rn_load na23 rfl ((hS.sat.le leG21).cell (hcb4 1 _ rfl))) rfl ?_
   have l0_2 := leG6.trans leG21
   refine WL_val (rn_len sl23 rfl rfl (h2.mono RTSpan_mono l0_2).1) rfl ?_; refine WL_val (rn_lss rfl rfl) rfl ?_; refine WL_nil ?_; refine WC_cond rfl (fun hb22 => ?_) (fun hb22 => ?_)
   ·have H := ifT hb22 H; refine WC_skip ?_; refine WC_seq ?_; refine WC_block ?_; refine WC_seq ?_; refine WC_region ?_; refine WL_val (rn_fld fd42_1 rfl) rfl ?_; refine WL_val (rn_load na23 rfl ((hS.sat.le leG21).cell (hcb4 1 _ rfl))) rfl ?_; refine WL_val (rn_move (v := (.int .i64 s16.1)) rfl) rfl ?_; obtain ⟨y23, hy23, H⟩ := bnd H; refine WL_idx sl23 (h2.mono RTSpan_mono l0_2) hy23 rfl rfl rfl ?_
    rintro b24 o24 _ hcb24 _ ⟨⟩
    refine WL_val (rn_fld fd25_0 rfl) rfl ?_; refine WL_val (rn_load na3 rfl (hS.sat.cell (hcb24 0 _ rfl))) rfl ?_; refine WL_val (rn_assign (v := (.int .i64 y23.Low)) rfl) rfl ?_; refine WL_nil ?_; refine WC_seq ?_; obtain ⟨q25, hq25, H⟩ := bnd H; refine WC_cut (fun F w => ∃ (Fb : Fr), F = upds Fb [(1, .int .i64 x1), (2, .bool x2), (3, .pointer (some ⟨b4, 0, none⟩)), (6, .pointer (some ⟨b7, 0, none⟩)), (7, .pointer (some ⟨b10, 0, none⟩)), (8, .int .i64 s16.1), (9, .int .i64 q25)] ∧ w20 = w) ?_ ?_
    ·have Hoq25 := H; have H := hq25; refine WC_seq ?_; refine WC_region ?_; refine WL_val (rn_move (v := (.bool x2)) rfl) rfl ?_; refine WL_nil ?_; refine WC_cond rfl (fun hb26 => ?_) (fun hb26 => ?_)
     ·have H := ifT hb26 H; refine WC_region ?_; refine WL_val (rn_fld fd42_1 rfl) rfl ?_; refine WL_val (rn_load na23 rfl ((hS.sat.le leG21).cell (hcb4 1 _ rfl))) rfl ?_; refine WL_val (rn_move (v := (.int .i64 s16.1)) rfl) rfl ?_; refine WL_idx sl23 (h2.mono RTSpan_mono l0_2) hy23 rfl rfl rfl ?_
      rintro b27 o27 _ hcb27 _ ⟨⟩
      refine WL_val (rn_fld fd25_1 rfl) rfl ?_; refine WL_val (rn_load na3 rfl (hS.sat.cell (hcb27 1 _ rfl))) rfl ?_; refine WL_val (rn_assign (v := (.int .i64 y23.High)) rfl) rfl ?_; refine WL_nil ?_; have H := Option.some.inj H; subst H
      exact ⟨_, upds_self _ _ ⟨rfl, rfl, rfl, rfl, rfl, rfl, rfl, trivial⟩, rfl⟩
     ·have H := ifF hb26 H; refine WC_skip ?_; have H := Option.some.inj H; subst H
      exact ⟨_, upds_self _ _ ⟨rfl, rfl, rfl, rfl, rfl, rfl, rfl, trivial⟩, rfl⟩
    ·rintro F wl ⟨Fb, rfl, rfl⟩
     refine WC_region ?_; refine WL_val (rn_fld fd45_0 rfl) rfl ?_; refine WL_val (rn_load na22 rfl (own_cell hO (k := 3) rfl (j := 0) rfl)) rfl ?_; refine WL_val (rn_move (v := (.int .i64 q25)) rfl) rfl ?_
     refine WL_op rfl (OpP_newF (v := fun b => .slice (some ⟨b, 0, none⟩) 1 1) (cs := [.int .i64 q25]) (e := 3) (by kernel_rfl) hS.sat rfl (fun b30 G32 w31 hg hcb30 => ?_))
     have hS := hS.grow hg; have hO := hO.grow hg
     have leG32 := hg.le
     have hfb30 : RSl RInt 1 G32 (some ⟨b30, 0, none⟩) 1 1 [q25] := RSl.of_rd hcb30 (Rd.cons (c := [.int .i64 q25]) rfl rfl (Rd.nil RInt 1 _)) rfl (by decide)
     obtain ⟨y33, hy33, H⟩ := bnd H; refine WL_op rfl (OpP_append (k := 2) sl22 RInt_one hS hO rfl hnhs16_0 (hs16_0.mono RInt_mono leG32) hfb30 hy33 rfl rfl rfl rfl rfl (fun aw34 cw34 w34 clw34 hS hO hrw34 => ?_))
     have hO : Owns G32 w34 w0.heap.size ([⟨22, 1, ns16_2, .slice as16_2 ns16_2 cs16_2, clas16_2⟩, ⟨3, 1, ns16_1, .slice as16_1 ns16_1 cs16_1, clas16_1⟩, ⟨3, 1, y33.length, .slice aw34 y33.length cw34, clw34⟩, ⟨45, 3, 1, .slice (some ⟨b10, 0, none⟩) 1 1, [.slice as16_0 ns16_0 cs16_0, .slice as16_1 ns16_1 cs16_1, .slice as16_2 ns16_2 cs16_2]⟩, ⟨45, 3, 1, .slice (some ⟨b7, 0, none⟩) 1 1, [.slice as16_3 ns16_3 cs16_3, .slice as16_4 ns16_4 cs16_4, .slice as16_5 ns16_5 cs16_5]⟩]) := hO
     refine WL_val (rn_fld fd45_0 rfl) rfl ?_; refine WL_op rfl (OpP_store (vs := [.slice aw34 y33.length cw34]) sz22 hS hO (k := 3) rfl rfl rfl rfl rfl (one_all rfl) (Nat.le_of_ble_eq_true rfl) (fun w35 hS hO => ?_))
     have hO : Owns G32 w35 w0.heap.size ([⟨22, 1, ns16_2, .slice as16_2 ns16_2 cs16_2, clas16_2⟩, ⟨3, 1, ns16_1, .slice as16_1 ns16_1 cs16_1, clas16_1⟩, ⟨3, 1, y33.length, .slice aw34 y33.length cw34, clw34⟩, ⟨45, 3, 1, .slice (some ⟨b10, 0, none⟩) 1 1, [.slice aw34 y33.length cw34, .slice as16_1 ns16_1 cs16_1, .slice as16_2 ns16_2 cs16_2]⟩, ⟨45, 3, 1, .slice (some ⟨b7, 0, none⟩) 1 1, [.slice as16_3 ns16_3 cs16_3, .slice as16_4 ns16_4 cs16_4, .slice as16_5 ns16_5 cs16_5]⟩]) := hO
     refine WL_nil ?_; refine WC_region ?_; refine WL_val (rn_move (v := (.int .i64 s16.1)) rfl) rfl ?_; refine WL_val (rn_add rfl rfl) rfl ?_; refine WL_val (rn_assign (v := (.int .i64 (IntKind.i64.wrap (s16.1 + 1)))) rfl) rfl ?_; refine WL_nil ?_
     have hO : Owns G32 w35 w0.heap.size ([⟨22, 1, ns16_2, .slice as16_2 ns16_2 cs16_2, clas16_2⟩, ⟨3, 1, ns16_1, .slice as16_1 ns16_1 cs16_1, clas16_1⟩, ⟨3, 1, y33.length, .slice aw34 y33.length cw34, clw34⟩, ⟨45, 3, 1, .slice (some ⟨b10, 0, none⟩) 1 1, [.slice aw34 y33.length cw34, .slice as16_1 ns16_1 cs16_1, .slice as16_2 ns16_2 cs16_2]⟩, ⟨45, 3, 1, .slice (some ⟨b7, 0, none⟩) 1 1, [.slice as16_3 ns16_3 cs16_3, .slice as16_4 ns16_4 cs16_4, .slice as16_5 ns16_5 cs16_5]⟩]) := hO
     have H := Option.some.inj H; subst H; refine ⟨_, rfl, ?_⟩
     have l1_3 := leG21.trans leG32
     exact ⟨_, G32, aw34, y33.length, cw34, clw34, as16_1, ns16_1, cs16_1, clas16_1, as16_2, ns16_2, cs16_2, clas16_2, as16_3, ns16_3, cs16_3, as16_4, ns16_4, cs16_4, as16_5, ns16_5, cs16_5, upds_self _ _ ⟨rfl, rfl, rfl, rfl, rfl, rfl, trivial⟩, l1_3, hS, hO, rfl, hrw34, hnhs16_1, (hs16_1.mono RInt_mono leG32), hnhs16_2, (hs16_2.mono (RSlice_mono RInt_mono) leG32), (hs16_3.mono RInt_mono leG32), (hs16_4.mono RInt_mono leG32), (hs16_5.mono (RSlice_mono RInt_mono) leG32)⟩
   ·have H := ifF hb22 H; refine WC_exit rfl ?_
    have hO : Owns G21 w20 w0.heap.size ([⟨22, 1, ns16_2, .slice as16_2 ns16_2 cs16_2, clas16_2⟩, ⟨3, 1, ns16_1, .slice as16_1 ns16_1 cs16_1, clas16_1⟩, ⟨3, 1, ns16_0, .slice as16_0 ns16_0 cs16_0, clas16_0⟩, ⟨45, 3, 1, .slice (some ⟨b10, 0, none⟩) 1 1, [.slice as16_0 ns16_0 cs16_0, .slice as16_1 ns16_1 cs16_1, .slice as16_2 ns16_2 cs16_2]⟩, ⟨45, 3, 1, .slice (some ⟨b7, 0, none⟩) 1 1, [.slice as16_3 ns16_3 cs16_3, .slice as16_4 ns16_4 cs16_4, .slice as16_5 ns16_5 cs16_5]⟩]) := hO
    have H := Option.some.inj H; subst H
    have hres := hqq18 _ rfl
    subst hres
    exact ⟨_, G21, as16_0, ns16_0, cs16_0, clas16_0, as16_1, ns16_1, cs16_1, clas16_1, as16_2, ns16_2, cs16_2, clas16_2, as16_3, ns16_3, cs16_3, as16_4, ns16_4, cs16_4, as16_5, ns16_5, cs16_5, upds_self _ _ ⟨rfl, rfl, rfl, rfl, rfl, trivial⟩, leG21, hS, hO, hnhs16_0, hs16_0, hnhs16_1, hs16_1, hnhs16_2, hs16_2, hs16_3, hs16_4, hs16_5⟩
 ·rintro F w36 ⟨Fb, G37, aq18_0, nq18_0, cq18_0, claq18_0, aq18_1, nq18_1, cq18_1, claq18_1, aq18_2, nq18_2, cq18_2, claq18_2, aq18_3, nq18_3, cq18_3, aq18_4, nq18_4, cq18_4, aq18_5, nq18_5, cq18_5, rfl, leG37, hS, hO, hnhq18_0, hq18_0, hnhq18_1, hq18_1, hnhq18_2, hq18_2, hq18_3, hq18_4, hq18_5⟩
  refine WC_seq ?_; refine WC_region ?_; refine WL_val (rn_fld fd42_2 rfl) rfl ?_; refine WL_val (rn_fld fd25_0 rfl) rfl ?_; refine WL_val (rn_load na3 rfl ((hS.sat.le leG37).cell (hcb4 2 _ rfl))) rfl ?_; refine WL_val (rn_assign (v := (.int .i64 x0.Gap.Low)) rfl) rfl ?_; refine WL_nil ?_; refine WC_seq ?_; obtain ⟨q38, hq38, H⟩ := bnd H; refine WC_cut (fun F w => ∃ (Fb : Fr), F = upds Fb [(1, .int .i64 x1), (2, .bool x2), (3, .pointer (some ⟨b4, 0, none⟩)), (6, .pointer (some ⟨b7, 0, none⟩)), (7, .pointer (some ⟨b10, 0, none⟩)), (10, .int .i64 q38)] ∧ w36 = w) ?_ ?_
  ·have Hoq38 := H; have H := hq38; refine WC_seq ?_; refine WC_region ?_; refine WL_val (rn_move (v := (.bool x2)) rfl) rfl ?_; refine WL_nil ?_; refine WC_cond rfl (fun hb39 => ?_) (fun hb39 => ?_)
   ·have H := ifT hb39 H; refine WC_region ?_; refine WL_val (rn_fld fd42_2 rfl) rfl ?_; refine WL_val (rn_fld fd25_1 rfl) rfl ?_; refine WL_val (rn_load na3 rfl ((hS.sat.le leG37).cell (hcb4 3 _ rfl))) rfl ?_; refine WL_val (rn_assign (v := (.int .i64 x0.Gap.High)) rfl) rfl ?_; refine WL_nil ?_; have H := Option.some.inj H; subst H
    exact ⟨_, upds_self _ _ ⟨rfl, rfl, rfl, rfl, rfl, rfl, trivial⟩, rfl⟩
   ·have H := ifF hb39 H; refine WC_skip ?_; have H := Option.some.inj H; subst H
    exact ⟨_, upds_self _ _ ⟨rfl, rfl, rfl, rfl, rfl, rfl, trivial⟩, rfl⟩
  ·rintro F wl ⟨Fb, rfl, rfl⟩
   refine WC_seq ?_; refine WC_seq ?_; refine WC_region ?_; refine WL_val (rn_assign (v := (.int .i64 0)) rfl) rfl ?_; refine WL_nil ?_; obtain ⟨q44, hq44, H⟩ := bnd H; refine WC_cut (fun F w => ∃ (Fb : Fr) (G : Gm) (aq44_0 : Option Addr) (nq44_0 cq44_0 : Nat) (claq44_0 : List Value) (aq44_1 : Option Addr) (nq44_1 cq44_1 : Nat) (claq44_1 : List Value) (aq44_2 : Option Addr) (nq44_2 cq44_2 : Nat) (claq44_2 : List Value) (aq44_3 : Option Addr) (nq44_3 cq44_3 : Nat) (aq44_4 : Option Addr) (nq44_4 cq44_4 : Nat) (aq44_5 : Option Addr) (nq44_5 cq44_5 : Nat), F = upds Fb [(2, .bool x2), (3, .pointer (some ⟨b4, 0, none⟩)), (6, .pointer (some ⟨b7, 0, none⟩)), (7, .pointer (some ⟨b10, 0, none⟩))] ∧ Gle G37 G ∧ Since w0.heap.size G0 w0 G w ∧ Owns G w w0.heap.size [⟨22, 1, nq44_2, .slice aq44_2 nq44_2 cq44_2, claq44_2⟩, ⟨3, 1, nq44_1, .slice aq44_1 nq44_1 cq44_1, claq44_1⟩, ⟨3, 1, nq44_0, .slice aq44_0 nq44_0 cq44_0, claq44_0⟩, ⟨45, 3, 1, .slice (some ⟨b10, 0, none⟩) 1 1, [.slice aq44_0 nq44_0 cq44_0, .slice aq44_1 nq44_1 cq44_1, .slice aq44_2 nq44_2 cq44_2]⟩, ⟨45, 3, 1, .slice (some ⟨b7, 0, none⟩) 1 1, [.slice aq44_3 nq44_3 cq44_3, .slice aq44_4 nq44_4 cq44_4, .slice aq44_5 nq44_5 cq44_5]⟩] ∧ nq44_0 = q44.1.Uses.length ∧ Rd RInt 1 G claq44_0 q44.1.Uses ∧ nq44_1 = q44.1.Gaps.length ∧ Rd RInt 1 G claq44_1 q44.1.Gaps ∧ nq44_2 = q44.1.Goods.length ∧ Rd (RSlice RInt 1) 1 G claq44_2 q44.1.Goods ∧ RSl RInt 1 G aq44_3 nq44_3 cq44_3 q44.2.Uses ∧ RSl RInt 1 G aq44_4 nq44_4 cq44_4 q44.2.Gaps ∧ RSl (RSlice RInt 1) 1 G aq44_5 nq44_5 cq44_5 q44.2.Goods) ?_ ?_
   ·refine WC_block (WC_loop hq44 (fun s42 F w => ∃ (Fb : Fr) (G : Gm) (as42_0 : Option Addr) (ns42_0 cs42_0 : Nat) (clas42_0 : List Value) (as42_1 : Option Addr) (ns42_1 cs42_1 : Nat) (clas42_1 : List Value) (as42_2 : Option Addr) (ns42_2 cs42_2 : Nat) (clas42_2 : List Value) (as42_3 : Option Addr) (ns42_3 cs42_3 : Nat) (as42_4 : Option Addr) (ns42_4 cs42_4 : Nat) (as42_5 : Option Addr) (ns42_5 cs42_5 : Nat), F = upds Fb [(1, .int .i64 x1), (2, .bool x2), (3, .pointer (some ⟨b4, 0, none⟩)), (6, .pointer (some ⟨b7, 0, none⟩)), (7, .pointer (some ⟨b10, 0, none⟩)), (10, .int .i64 q38), (11, .int .i64 s42.1)] ∧ Gle G37 G ∧ Since w0.heap.size G0 w0 G w ∧ Owns G w w0.heap.size [⟨22, 1, ns42_2, .slice as42_2 ns42_2 cs42_2, clas42_2⟩, ⟨3, 1, ns42_1, .slice as42_1 ns42_1 cs42_1, clas42_1⟩, ⟨3, 1, ns42_0, .slice as42_0 ns42_0 cs42_0, clas42_0⟩, ⟨45, 3, 1, .slice (some ⟨b10, 0, none⟩) 1 1, [.slice as42_0 ns42_0 cs42_0, .slice as42_1 ns42_1 cs42_1, .slice as42_2 ns42_2 cs42_2]⟩, ⟨45, 3, 1, .slice (some ⟨b7, 0, none⟩) 1 1, [.slice as42_3 ns42_3 cs42_3, .slice as42_4 ns42_4 cs42_4, .slice as42_5 ns42_5 cs42_5]⟩] ∧ ns42_0 = s42.2.1.Uses.length ∧ Rd RInt 1 G clas42_0 s42.2.1.Uses ∧ ns42_1 = s42.2.1.Gaps.length ∧ Rd RInt 1 G clas42_1 s42.2.1.Gaps ∧ ns42_2 = s42.2.1.Goods.length ∧ Rd (RSlice RInt 1) 1 G clas42_2 s42.2.1.Goods ∧ RSl RInt 1 G as42_3 ns42_3 cs42_3 s42.2.2.Uses ∧ RSl RInt 1 G as42_4 ns42_4 cs42_4 s42.2.2.Gaps ∧ RSl (RSlice RInt 1) 1 G as42_5 ns42_5 cs42_5 s42.2.2.Goods) ?_ ?_)
    ·have hO : Owns G37 w36 w0.heap.size ([⟨22, 1, nq18_2, .slice aq18_2 nq18_2 cq18_2, claq18_2⟩, ⟨3, 1, nq18_1, .slice aq18_1 nq18_1 cq18_1, claq18_1⟩, ⟨3, 1, nq18_0, .slice aq18_0 nq18_0 cq18_0, claq18_0⟩, ⟨45, 3, 1, .slice (some ⟨b10, 0, none⟩) 1 1, [.slice aq18_0 nq18_0 cq18_0, .slice aq18_1 nq18_1 cq18_1, .slice aq18_2 nq18_2 cq18_2]⟩, ⟨45, 3, 1, .slice (some ⟨b7, 0, none⟩) 1 1, [.slice aq18_3 nq18_3 cq18_3, .slice aq18_4 nq18_4 cq18_4, .slice aq18_5 nq18_5 cq18_5]⟩]) := hO
     exact ⟨_, G37, aq18_0, nq18_0, cq18_0, claq18_0, aq18_1, nq18_1, cq18_1, claq18_1, aq18_2, nq18_2, cq18_2, claq18_2, aq18_3, nq18_3, cq18_3, aq18_4, nq18_4, cq18_4, aq18_5, nq18_5, cq18_5, upds_self _ _ ⟨rfl, rfl, rfl, rfl, rfl, rfl, rfl, trivial⟩, Gle.refl _, hS, hO, hnhq18_0, hq18_0, hnhq18_1, hq18_1, hnhq18_2, hq18_2, hq18_3, hq18_4, hq18_5⟩
    ·rintro s42 F w46 t45 ⟨Fb, G47, as42_0, ns42_0, cs42_0, clas42_0, as42_1, ns42_1, cs42_1, clas42_1, as42_2, ns42_2, cs42_2, clas42_2, as42_3, ns42_3, cs42_3, as42_4, ns42_4, cs42_4, as42_5, ns42_5, cs42_5, rfl, leG47, hS, hO, hnhs42_0, hs42_0, hnhs42_1, hs42_1, hnhs42_2, hs42_2, hs42_3, hs42_4, hs42_5⟩
     intro H1 hqq44
     have Hoq44 := H; have H := H1
     unfold f31_b1 at H
     refine WC_seq ?_; refine WC_seq ?_; refine WC_region ?_; refine WL_val (rn_move (v := (.int .i64 s42.1)) rfl) rfl ?_; refine WL_val (rn_move (v := (.int .i64 x1)) rfl) rfl ?_; refine WL_val (rn_lss rfl rfl) rfl ?_; refine WL_nil ?_; refine WC_cond rfl (fun hb48 => ?_) (fun hb48 => ?_)
     ·have H := ifT hb48 H; refine WC_skip ?_; refine WC_seq ?_; refine WC_block ?_; refine WC_region ?_; refine WL_val (rn_fld fd45_1 rfl) rfl ?_; refine WL_val (rn_load na22 rfl (own_cell hO (k := 3) rfl (j := 1) rfl)) rfl ?_; refine WL_val (rn_move (v := (.int .i64 q38)) rfl) rfl ?_
      refine WL_op rfl (OpP_newF (v := fun b => .slice (some ⟨b, 0, none⟩) 1 1) (cs := [.int .i64 q38]) (e := 3) (by kernel_rfl) hS.sat rfl (fun b49 G51 w50 hg hcb49 => ?_))
      have hS := hS.grow hg; have hO := hO.grow hg
      have leG51 := hg.le
      have hfb49 : RSl RInt 1 G51 (some ⟨b49, 0, none⟩) 1 1 [q38] := RSl.of_rd hcb49 (Rd.cons (c := [.int .i64 q38]) rfl rfl (Rd.nil RInt 1 _)) rfl (by decide)
      obtain ⟨y52, hy52, H⟩ := bnd H; refine WL_op rfl (OpP_append (k := 1) sl22 RInt_one hS hO rfl hnhs42_1 (hs42_1.mono RInt_mono leG51) hfb49 hy52 rfl rfl rfl rfl rfl (fun aw53 cw53 w53 clw53 hS hO hrw53 => ?_))
      have hO : Owns G51 w53 w0.heap.size ([⟨22, 1, ns42_2, .slice as42_2 ns42_2 cs42_2, clas42_2⟩, ⟨3, 1, y52.length, .slice aw53 y52.length cw53, clw53⟩, ⟨3, 1, ns42_0, .slice as42_0 ns42_0 cs42_0, clas42_0⟩, ⟨45, 3, 1, .slice (some ⟨b10, 0, none⟩) 1 1, [.slice as42_0 ns42_0 cs42_0, .slice as42_1 ns42_1 cs42_1, .slice as42_2 ns42_2 cs42_2]⟩, ⟨45, 3, 1, .slice (some ⟨b7, 0, none⟩) 1 1, [.slice as42_3 ns42_3 cs42_3, .slice as42_4 ns42_4 cs42_4, .slice as42_5 ns42_5 cs42_5]⟩]) := hO
      refine WL_val (rn_fld fd45_1 rfl) rfl ?_; refine WL_op rfl (OpP_store (vs := [.slice aw53 y52.length cw53]) sz22 hS hO (k := 3) rfl rfl rfl rfl rfl (one_all rfl) (Nat.le_of_ble_eq_true rfl) (fun w54 hS hO => ?_))
      have hO : Owns G51 w54 w0.heap.size ([⟨22, 1, ns42_2, .slice as42_2 ns42_2 cs42_2, clas42_2⟩, ⟨3, 1, y52.length, .slice aw53 y52.length cw53, clw53⟩, ⟨3, 1, ns42_0, .slice as42_0 ns42_0 cs42_0, clas42_0⟩, ⟨45, 3, 1, .slice (some ⟨b10, 0, none⟩) 1 1, [.slice as42_0 ns42_0 cs42_0, .slice aw53 y52.length cw53, .slice as42_2 ns42_2 cs42_2]⟩, ⟨45, 3, 1, .slice (some ⟨b7, 0, none⟩) 1 1, [.slice as42_3 ns42_3 cs42_3, .slice as42_4 ns42_4 cs42_4, .slice as42_5 ns42_5 cs42_5]⟩]) := hO
      refine WL_nil ?_; refine WC_region ?_; refine WL_val (rn_move (v := (.int .i64 s42.1)) rfl) rfl ?_; refine WL_val (rn_move (v := (.int .i64 q38)) rfl) rfl ?_; refine WL_val (rn_add rfl rfl) rfl ?_; refine WL_val (rn_assign (v := (.int .i64 (IntKind.i64.wrap (s42.1 + q38)))) rfl) rfl ?_; refine WL_nil ?_
      have hO : Owns G51 w54 w0.heap.size ([⟨22, 1, ns42_2, .slice as42_2 ns42_2 cs42_2, clas42_2⟩, ⟨3, 1, y52.length, .slice aw53 y52.length cw53, clw53⟩, ⟨3, 1, ns42_0, .slice as42_0 ns42_0 cs42_0, clas42_0⟩, ⟨45, 3, 1, .slice (some ⟨b10, 0, none⟩) 1 1, [.slice as42_0 ns42_0 cs42_0, .slice aw53 y52.length cw53, .slice as42_2 ns42_2 cs42_2]⟩, ⟨45, 3, 1, .slice (some ⟨b7, 0, none⟩) 1 1, [.slice as42_3 ns42_3 cs42_3, .slice as42_4 ns42_4 cs42_4, .slice as42_5 ns42_5 cs42_5]⟩]) := hO
      have H := Option.some.inj H; subst H; refine ⟨_, rfl, ?_⟩
      have l2_4 := leG47.trans leG51
      exact ⟨_, G51, as42_0, ns42_0, cs42_0, clas42_0, aw53, y52.length, cw53, clw53, as42_2, ns42_2, cs42_2, clas42_2, as42_3, ns42_3, cs42_3, as42_4, ns42_4, cs42_4, as42_5, ns42_5, cs42_5, upds_self _ _ ⟨rfl, rfl, rfl, rfl, rfl, rfl, rfl, trivial⟩, l2_4, hS, hO, hnhs42_0, (hs42_0.mono RInt_mono leG51), rfl, hrw53, hnhs42_2, (hs42_2.mono (RSlice_mono RInt_mono) leG51), (hs42_3.mono RInt_mono leG51), (hs42_4.mono RInt_mono leG51), (hs42_5.mono (RSlice_mono RInt_mono) leG51)⟩
     ·have H := ifF hb48 H; refine WC_exit rfl ?_
      have hO : Owns G47 w46 w0.heap.size ([⟨22, 1, ns42_2, .slice as42_2 ns42_2 cs42_2, clas42_2⟩, ⟨3, 1, ns42_1, .slice as42_1 ns42_1 cs42_1, clas42_1⟩, ⟨3, 1, ns42_0, .slice as42_0 ns42_0 cs42_0, clas42_0⟩, ⟨45, 3, 1, .slice (some ⟨b10, 0, none⟩) 1 1, [.slice as42_0 ns42_0 cs42_0, .slice as42_1 ns42_1 cs42_1, .slice as42_2 ns42_2 cs42_2]⟩, ⟨45, 3, 1, .slice (some ⟨b7, 0, none⟩) 1 1, [.slice as42_3 ns42_3 cs42_3, .slice as42_4 ns42_4 cs42_4, .slice as42_5 ns42_5 cs42_5]⟩]) := hO
      have H := Option.some.inj H; subst H
      have hres := hqq44 _ rfl
      subst hres
      exact ⟨_, G47, as42_0, ns42_0, cs42_0, clas42_0, as42_1, ns42_1, cs42_1, clas42_1, as42_2, ns42_2, cs42_2, clas42_2, as42_3, ns42_3, cs42_3, as42_4, ns42_4, cs42_4, as42_5, ns42_5, cs42_5, upds_self _ _ ⟨rfl, rfl, rfl, rfl, trivial⟩, leG47, hS, hO, hnhs42_0, hs42_0, hnhs42_1, hs42_1, hnhs42_2, hs42_2, hs42_3, hs42_4, hs42_5⟩
   ·rintro F w55 ⟨Fb, G56, aq44_0, nq44_0, cq44_0, claq44_0, aq44_1, nq44_1, cq44_1, claq44_1, aq44_2, nq44_2, cq44_2, claq44_2, aq44_3, nq44_3, cq44_3, aq44_4, nq44_4, cq44_4, aq44_5, nq44_5, cq44_5, rfl, leG56, hS, hO, hnhq44_0, hq44_0, hnhq44_1, hq44_1, hnhq44_2, hq44_2, hq44_3, hq44_4, hq44_5⟩
    refine WC_seq ?_; refine WC_seq ?_; refine WC_region ?_; refine WL_val (rn_assign (v := (.int .i64 0)) rfl) rfl ?_; refine WL_nil ?_; obtain ⟨q59, hq59, H⟩ := bnd H; refine WC_cut (fun F w => ∃ (Fb : Fr) (G : Gm) (aq59_0 : Option Addr) (nq59_0 cq59_0 : Nat) (claq59_0 : List Value) (aq59_1 : Option Addr) (nq59_1 cq59_1 : Nat) (claq59_1 : List Value) (aq59_2 : Option Addr) (nq59_2 cq59_2 : Nat) (claq59_2 : List Value) (aq59_3 : Option Addr) (nq59_3 cq59_3 : Nat) (aq59_4 : Option Addr) (nq59_4 cq59_4 : Nat) (aq59_5 : Option Addr) (nq59_5 cq59_5 : Nat), F = upds Fb [(6, .pointer (some ⟨b7, 0, none⟩)), (7, .pointer (some ⟨b10, 0, none⟩))] ∧ Gle G56 G ∧ Since w0.heap.size G0 w0 G w ∧ Owns G w w0.heap.size [⟨22, 1, nq59_2, .slice aq59_2 nq59_2 cq59_2, claq59_2⟩, ⟨3, 1, nq59_1, .slice aq59_1 nq59_1 cq59_1, claq59_1⟩, ⟨3, 1, nq59_0, .slice aq59_0 nq59_0 cq59_0, claq59_0⟩, ⟨45, 3, 1, .slice (some ⟨b10, 0, none⟩) 1 1, [.slice aq59_0 nq59_0 cq59_0, .slice aq59_1 nq59_1 cq59_1, .slice aq59_2 nq59_2 cq59_2]⟩, ⟨45, 3, 1, .slice (some ⟨b7, 0, none⟩) 1 1, [.slice aq59_3 nq59_3 cq59_3, .slice aq59_4 nq59_4 cq59_4, .slice aq59_5 nq59_5 cq59_5]⟩] ∧ nq59_0 = q59.1.Uses.length ∧ Rd RInt 1 G claq59_0 q59.1.Uses ∧ nq59_1 = q59.1.Gaps.length ∧ Rd RInt 1 G claq59_1 q59.1.Gaps ∧ nq59_2 = q59.1.Goods.length ∧ Rd (RSlice RInt 1) 1 G claq59_2 q59.1.Goods ∧ RSl RInt 1 G aq59_3 nq59_3 cq59_3 q59.2.Uses ∧ RSl RInt 1 G aq59_4 nq59_4 cq59_4 q59.2.Gaps ∧ RSl (RSlice RInt 1) 1 G aq59_5 nq59_5 cq59_5 q59.2.Goods) ?_ ?_
    ·refine WC_block (WC_loop hq59 (fun s57 F w => ∃ (Fb : Fr) (G : Gm) (as57_0 : Option Addr) (ns57_0 cs57_0 : Nat) (clas57_0 : List Value) (as57_1 : Option Addr) (ns57_1 cs57_1 : Nat) (clas57_1 : List Value) (as57_2 : Option Addr) (ns57_2 cs57_2 : Nat) (clas57_2 : List Value) (as57_3 : Option Addr) (ns57_3 cs57_3 : Nat) (as57_4 : Option Addr) (ns57_4 cs57_4 : Nat) (as57_5 : Option Addr) (ns57_5 cs57_5 : Nat), F = upds Fb [(2, .bool x2), (3, .pointer (some ⟨b4, 0, none⟩)), (6, .pointer (some ⟨b7, 0, none⟩)), (7, .pointer (some ⟨b10, 0, none⟩)), (12, .int .i64 s57.1)] ∧ Gle G56 G ∧ Since w0.heap.size G0 w0 G w ∧ Owns G w w0.heap.size [⟨22, 1, ns57_2, .slice as57_2 ns57_2 cs57_2, clas57_2⟩, ⟨3, 1, ns57_1, .slice as57_1 ns57_1 cs57_1, clas57_1⟩, ⟨3, 1, ns57_0, .slice as57_0 ns57_0 cs57_0, clas57_0⟩, ⟨45, 3, 1, .slice (some ⟨b10, 0, none⟩) 1 1, [.slice as57_0 ns57_0 cs57_0, .slice as57_1 ns57_1 cs57_1, .slice as57_2 ns57_2 cs57_2]⟩, ⟨45, 3, 1, .slice (some ⟨b7, 0, none⟩) 1 1, [.slice as57_3 ns57_3 cs57_3, .slice as57_4 ns57_4 cs57_4, .slice as57_5 ns57_5 cs57_5]⟩] ∧ ns57_0 = s57.2.1.Uses.length ∧ Rd RInt 1 G clas57_0 s57.2.1.Uses ∧ ns57_1 = s57.2.1.Gaps.length ∧ Rd RInt 1 G clas57_1 s57.2.1.Gaps ∧ ns57_2 = s57.2.1.Goods.length ∧ Rd (RSlice RInt 1) 1 G clas57_2 s57.2.1.Goods ∧ RSl RInt 1 G as57_3 ns57_3 cs57_3 s57.2.2.Uses ∧ RSl RInt 1 G as57_4 ns57_4 cs57_4 s57.2.2.Gaps ∧ RSl (RSlice RInt 1) 1 G as57_5 ns57_5 cs57_5 s57.2.2.Goods) ?_ ?_)
     ·have hO : Owns G56 w55 w0.heap.size ([⟨22, 1, nq44_2, .slice aq44_2 nq44_2 cq44_2, claq44_2⟩, ⟨3, 1, nq44_1, .slice aq44_1 nq44_1 cq44_1, claq44_1⟩, ⟨3, 1, nq44_0, .slice aq44_0 nq44_0 cq44_0, claq44_0⟩, ⟨45, 3, 1, .slice (some ⟨b10, 0, none⟩) 1 1, [.slice aq44_0 nq44_0 cq44_0, .slice aq44_1 nq44_1 cq44_1, .slice aq44_2 nq44_2 cq44_2]⟩, ⟨45, 3, 1, .slice (some ⟨b7, 0, none⟩) 1 1, [.slice aq44_3 nq44_3 cq44_3, .slice aq44_4 nq44_4 cq44_4, .slice aq44_5 nq44_5 cq44_5]⟩]) := hO
      exact ⟨_, G56, aq44_0, nq44_0, cq44_0, claq44_0, aq44_1, nq44_1, cq44_1, claq44_1, aq44_2, nq44_2, cq44_2, claq44_2, aq44_3, nq44_3, cq44_3, aq44_4, nq44_4, cq44_4, aq44_5, nq44_5, cq44_5, upds_self _ _ ⟨rfl, rfl, rfl, rfl, rfl, trivial⟩, Gle.refl _, hS, hO, hnhq44_0, hq44_0, hnhq44_1, hq44_1, hnhq44_2, hq44_2, hq44_3, hq44_4, hq44_5⟩
     ·rintro s57 F w61 t60 ⟨Fb, G62, as57_0, ns57_0, cs57_0, clas57_0, as57_1, ns57_1, cs57_1, clas57_1, as57_2, ns57_2, cs57_2, clas57_2, as57_3, ns57_3, cs57_3, as57_4, ns57_4, cs57_4, as57_5, ns57_5, cs57_5, rfl, leG62, hS, hO, hnhs57_0, hs57_0, hnhs57_1, hs57_1, hnhs57_2, hs57_2, hs57_3, hs57_4, hs57_5⟩
      intro H1 hqq59
      have Hoq59 := H; have H := H1
      unfold f31_b2 at H
      refine WC_seq ?_; refine WC_seq ?_; refine WC_region ?_; refine WL_val (rn_move (v := (.int .i64 s57.1)) rfl) rfl ?_; refine WL_val (rn_fld fd42_3 rfl) rfl ?_
      have l1_4 := (leG37.trans leG56).trans leG62
      refine WL_val (rn_load na40 rfl ((hS.sat.le l1_4).cell (hcb4 4 _ rfl))) rfl ?_
      have l0_4 := leG6.trans l1_4
      refine WL_val (rn_len sl40 rfl rfl (h3.mono RTShipLot_mono l0_4).1) rfl ?_; refine WL_val (rn_lss rfl rfl) rfl ?_; refine WL_nil ?_; refine WC_cond rfl (fun hb63 => ?_) (fun hb63 => ?_)
      ·have H := ifT hb63 H; refine WC_skip ?_; refine WC_seq ?_; refine WC_block ?_; refine WC_seq ?_; refine WC_region ?_; refine WL_val (rn_assign (v := (.slice none 0 0)) rfl) rfl ?_; refine WL_nil ?_; refine WC_seq ?_; refine WC_seq ?_; refine WC_region ?_; refine WL_val (rn_assign (v := (.int .i64 0)) rfl) rfl ?_; refine WL_nil ?_; have hO := hO.cons_nil 3 1; obtain ⟨q67, hq67, H⟩ := bnd H; refine WC_cut (fun F w => ∃ (Fb : Fr) (G : Gm) (aq67_0 : Option Addr) (nq67_0 cq67_0 : Nat) (claq67_0 : List Value) (aq67_1 : Option Addr) (nq67_1 cq67_1 : Nat) (claq67_1 : List Value) (aq67_2 : Option Addr) (nq67_2 cq67_2 : Nat) (claq67_2 : List Value) (aq67_3 : Option Addr) (nq67_3 cq67_3 : Nat) (claq67_3 : List Value) (aq67_4 : Option Addr) (nq67_4 cq67_4 : Nat) (aq67_5 : Option Addr) (nq67_5 cq67_5 : Nat) (aq67_6 : Option Addr) (nq67_6 cq67_6 : Nat), F = upds Fb [(2, .bool x2), (3, .pointer (some ⟨b4, 0, none⟩)), (6, .pointer (some ⟨b7, 0, none⟩)), (7, .pointer (some ⟨b10, 0, none⟩)), (12, .int .i64 s57.1), (13, .slice aq67_0 nq67_0 cq67_0)] ∧ Gle G62 G ∧ Since w0.heap.size G0 w0 G w ∧ Owns G w w0.heap.size [⟨3, 1, nq67_0, .slice aq67_0 nq67_0 cq67_0, claq67_0⟩, ⟨22, 1, nq67_3, .slice aq67_3 nq67_3 cq67_3, claq67_3⟩, ⟨3, 1, nq67_2, .slice aq67_2 nq67_2 cq67_2, claq67_2⟩, ⟨3, 1, nq67_1, .slice aq67_1 nq67_1 cq67_1, claq67_1⟩, ⟨45, 3, 1, .slice (some ⟨b10, 0, none⟩) 1 1, [.slice aq67_1 nq67_1 cq67_1, .slice aq67_2 nq67_2 cq67_2, .slice aq67_3 nq67_3 cq67_3]⟩, ⟨45, 3, 1, .slice (some ⟨b7, 0, none⟩) 1 1, [.slice aq67_4 nq67_4 cq67_4, .slice aq67_5 nq67_5 cq67_5, .slice aq67_6 nq67_6 cq67_6]⟩] ∧ nq67_0 = q67.1.length ∧ Rd RInt 1 G claq67_0 q67.1 ∧ nq67_1 = q67.2.1.Uses.length ∧ Rd RInt 1 G claq67_1 q67.2.1.Uses ∧ nq67_2 = q67.2.1.Gaps.length ∧ Rd RInt 1 G claq67_2 q67.2.1.Gaps ∧ nq67_3 = q67.2.1.Goods.length ∧ Rd (RSlice RInt 1) 1 G claq67_3 q67.2.1.Goods ∧ RSl RInt 1 G aq67_4 nq67_4 cq67_4 q67.2.2.Uses ∧ RSl RInt 1 G aq67_5 nq67_5 cq67_5 q67.2.2.Gaps ∧ RSl (RSlice RInt 1) 1 G aq67_6 nq67_6 cq67_6 q67.2.2.Goods) ?_ ?_
       ·refine WC_block (WC_loop hq67 (fun s65 F w => ∃ (Fb : Fr) (G : Gm) (as65_0 : Option Addr) (ns65_0 cs65_0 : Nat) (clas65_0 : List Value) (as65_1 : Option Addr) (ns65_1 cs65_1 : Nat) (clas65_1 : List Value) (as65_2 : Option Addr) (ns65_2 cs65_2 : Nat) (clas65_2 : List Value) (as65_3 : Option Addr) (ns65_3 cs65_3 : Nat) (clas65_3 : List Value) (as65_4 : Option Addr) (ns65_4 cs65_4 : Nat) (as65_5 : Option Addr) (ns65_5 cs65_5 : Nat) (as65_6 : Option Addr) (ns65_6 cs65_6 : Nat), F = upds Fb [(2, .bool x2), (3, .pointer (some ⟨b4, 0, none⟩)), (6, .pointer (some ⟨b7, 0, none⟩)), (7, .pointer (some ⟨b10, 0, none⟩)), (12, .int .i64 s57.1), (13, .slice as65_0 ns65_0 cs65_0), (14, .int .i64 s65.2.1)] ∧ Gle G62 G ∧ Since w0.heap.size G0 w0 G w ∧ Owns G w w0.heap.size [⟨3, 1, ns65_0, .slice as65_0 ns65_0 cs65_0, clas65_0⟩, ⟨22, 1, ns65_3, .slice as65_3 ns65_3 cs65_3, clas65_3⟩, ⟨3, 1, ns65_2, .slice as65_2 ns65_2 cs65_2, clas65_2⟩, ⟨3, 1, ns65_1, .slice as65_1 ns65_1 cs65_1, clas65_1⟩, ⟨45, 3, 1, .slice (some ⟨b10, 0, none⟩) 1 1, [.slice as65_1 ns65_1 cs65_1, .slice as65_2 ns65_2 cs65_2, .slice as65_3 ns65_3 cs65_3]⟩, ⟨45, 3, 1, .slice (some ⟨b7, 0, none⟩) 1 1, [.slice as65_4 ns65_4 cs65_4, .slice as65_5 ns65_5 cs65_5, .slice as65_6 ns65_6 cs65_6]⟩] ∧ ns65_0 = s65.1.length ∧ Rd RInt 1 G clas65_0 s65.1 ∧ ns65_1 = s65.2.2.1.Uses.length ∧ Rd RInt 1 G clas65_1 s65.2.2.1.Uses ∧ ns65_2 = s65.2.2.1.Gaps.length ∧ Rd RInt 1 G clas65_2 s65.2.2.1.Gaps ∧ ns65_3 = s65.2.2.1.Goods.length ∧ Rd (RSlice RInt 1) 1 G clas65_3 s65.2.2.1.Goods ∧ RSl RInt 1 G as65_4 ns65_4 cs65_4 s65.2.2.2.Uses ∧ RSl RInt 1 G as65_5 ns65_5 cs65_5 s65.2.2.2.Gaps ∧ RSl (RSlice RInt 1) 1 G as65_6 ns65_6 cs65_6 s65.2.2.2.Goods) ?_ ?_)
        ·have hO : Owns G62 w61 w0.heap.size ([⟨3, 1, 0, .slice none 0 0, []⟩, ⟨22, 1, ns57_2, .slice as57_2 ns57_2 cs57_2, clas57_2⟩, ⟨3, 1, ns57_1, .slice as57_1 ns57_1 cs57_1, clas57_1⟩, ⟨3, 1, ns57_0, .slice as57_0 ns57_0 cs57_0, clas57_0⟩, ⟨45, 3, 1, .slice (some ⟨b10, 0, none⟩) 1 1, [.slice as57_0 ns57_0 cs57_0, .slice as57_1 ns57_1 cs57_1, .slice as57_2 ns57_2 cs57_2]⟩, ⟨45, 3, 1, .slice (some ⟨b7, 0, none⟩) 1 1, [.slice as57_3 ns57_3 cs57_3, .slice as57_4 ns57_4 cs57_4, .slice as57_5 ns57_5 cs57_5]⟩]) := hO
         exact ⟨_, G62, none, 0, 0, [], as57_0, ns57_0, cs57_0, clas57_0, as57_1, ns57_1, cs57_1, clas57_1, as57_2, ns57_2, cs57_2, clas57_2, as57_3, ns57_3, cs57_3, as57_4, ns57_4, cs57_4, as57_5, ns57_5, cs57_5, upds_self _ _ ⟨rfl, rfl, rfl, rfl, rfl, rfl, rfl, trivial⟩, Gle.refl _, hS, hO, rfl, (Rd.nil RInt 1 G62), hnhs57_0, hs57_0, hnhs57_1, hs57_1, hnhs57_2, hs57_2, hs57_3, hs57_4, hs57_5⟩
        ·rintro s65 F w69 t68 ⟨Fb, G70, as65_0, ns65_0, cs65_0, clas65_0, as65_1, ns65_1, cs65_1, clas65_1, as65_2, ns65_2, cs65_2, clas65_2, as65_3, ns65_3, cs65_3, clas65_3, as65_4, ns65_4, cs65_4, as65_5, ns65_5, cs65_5, as65_6, ns65_6, cs65_6, rfl, leG70, hS, hO, hnhs65_0, hs65_0, hnhs65_1, hs65_1, hnhs65_2, hs65_2, hnhs65_3, hs65_3, hs65_4, hs65_5, hs65_6⟩
         intro H1 hqq67
         have Hoq67 := H; have H := H1
         unfold f31_b3 at H
         refine WC_seq ?_; refine WC_seq ?_; refine WC_region ?_; refine WL_val (rn_move (v := (.int .i64 s65.2.1)) rfl) rfl ?_; refine WL_val (rn_fld fd42_0 rfl) rfl ?_
         have l1_5 := l1_4.trans leG70
         refine WL_val (rn_load na22 rfl ((hS.sat.le l1_5).cell (hcb4 0 _ rfl))) rfl ?_
         have l0_5 := l0_4.trans leG70
         refine WL_val (rn_len sl22 rfl rfl (h1.mono RInt_mono l0_5).1) rfl ?_; refine WL_val (rn_lss rfl rfl) rfl ?_; refine WL_nil ?_; refine WC_cond rfl (fun hb71 => ?_) (fun hb71 => ?_)
         ·have H := ifT hb71 H; refine WC_skip ?_; refine WC_seq ?_; refine WC_block ?_; refine WC_seq ?_; refine WC_region ?_; refine WL_val (rn_fld fd42_3 rfl) rfl ?_; refine WL_val (rn_load na40 rfl ((hS.sat.le l1_5).cell (hcb4 4 _ rfl))) rfl ?_; refine WL_val (rn_move (v := (.int .i64 s57.1)) rfl) rfl ?_; obtain ⟨y72, hy72, H⟩ := bnd H; refine WL_idx sl40 (h3.mono RTShipLot_mono l0_5) hy72 rfl rfl rfl ?_
          rintro b73 o73 _ hcb73 _ ⟨a74, n74, c74, ⟨⟩, h74⟩
          refine WL_val (rn_fld fd111_0 rfl) rfl ?_; refine WL_val (rn_load na23 rfl (hS.sat.cell (hcb73 0 _ rfl))) rfl ?_; refine WL_val (rn_move (v := (.int .i64 s65.2.1)) rfl) rfl ?_; obtain ⟨y75, hy75, H⟩ := bnd H; refine WL_idx sl23 h74 hy75 rfl rfl rfl ?_
          rintro b76 o76 _ hcb76 _ ⟨⟩
          refine WL_val (rn_fld fd25_1 rfl) rfl ?_; refine WL_val (rn_load na3 rfl (hS.sat.cell (hcb76 1 _ rfl))) rfl ?_; refine WL_val (rn_assign (v := (.int .i64 y75.High)) rfl) rfl ?_; refine WL_nil ?_; refine WC_seq ?_; obtain ⟨q77, hq77, H⟩ := bnd H; refine WC_cut (fun F w => ∃ (Fb : Fr), F = upds Fb [(2, .bool x2), (3, .pointer (some ⟨b4, 0, none⟩)), (6, .pointer (some ⟨b7, 0, none⟩)), (7, .pointer (some ⟨b10, 0, none⟩)), (12, .int .i64 s57.1), (13, .slice as65_0 ns65_0 cs65_0), (14, .int .i64 s65.2.1), (15, .int .i64 q77)] ∧ w69 = w) ?_ ?_
          ·have Hoq77 := H; have H := hq77; refine WC_seq ?_; refine WC_region ?_; refine WL_val (rn_move (v := (.bool x2)) rfl) rfl ?_; refine WL_nil ?_; refine WC_cond rfl (fun hb78 => ?_) (fun hb78 => ?_)
           ·have H := ifT hb78 H; refine WC_region ?_; refine WL_val (rn_fld fd42_3 rfl) rfl ?_; refine WL_val (rn_load na40 rfl ((hS.sat.le l1_5).cell (hcb4 4 _ rfl))) rfl ?_; refine WL_val (rn_move (v := (.int .i64 s57.1)) rfl) rfl ?_; refine WL_idx sl40 (h3.mono RTShipLot_mono l0_5) hy72 rfl rfl rfl ?_
            rintro b79 o79 _ hcb79 _ ⟨a80, n80, c80, ⟨⟩, h80⟩
            refine WL_val (rn_fld fd111_0 rfl) rfl ?_; refine WL_val (rn_load na23 rfl (hS.sat.cell (hcb79 0 _ rfl))) rfl ?_; refine WL_val (rn_move (v := (.int .i64 s65.2.1)) rfl) rfl ?_; refine WL_idx sl23 h80 hy75 rfl rfl rfl ?_
            rintro b81 o81 _ hcb81 _ ⟨⟩
            refine WL_val (rn_fld fd25_0 rfl) rfl ?_; refine WL_val (rn_load na3 rfl (hS.sat.cell (hcb81 0 _ rfl))) rfl ?_; refine WL_val (rn_assign (v := (.int .i64 y75.Low)) rfl) rfl ?_; refine WL_nil ?_; have H := Option.some.inj H; subst H
            exact ⟨_, upds_self _ _ ⟨rfl, rfl, rfl, rfl, rfl, rfl, rfl, rfl, trivial⟩, rfl⟩
           ·have H := ifF hb78 H; refine WC_skip ?_; have H := Option.some.inj H; subst H
            exact ⟨_, upds_self _ _ ⟨rfl, rfl, rfl, rfl, rfl, rfl, rfl, rfl, trivial⟩, rfl⟩
          ·rintro F wl ⟨Fb, rfl, rfl⟩
           refine WC_region ?_; refine WL_val (rn_move (v := (.slice as65_0 ns65_0 cs65_0)) rfl) rfl ?_; refine WL_val (rn_move (v := (.int .i64 q77)) rfl) rfl ?_
           refine WL_op rfl (OpP_newF (v := fun b => .slice (some ⟨b, 0, none⟩) 1 1) (cs := [.int .i64 q77]) (e := 3) (by kernel_rfl) hS.sat rfl (fun b84 G86 w85 hg hcb84 => ?_))
           have hS := hS.grow hg; have hO := hO.grow hg
           have leG86 := hg.le
           have hfb84 : RSl RInt 1 G86 (some ⟨b84, 0, none⟩) 1 1 [q77] := RSl.of_rd hcb84 (Rd.cons (c := [.int .i64 q77]) rfl rfl (Rd.nil RInt 1 _)) rfl (by decide)
           obtain ⟨y87, hy87, H⟩ := bnd H; refine WL_op rfl (OpP_append (k := 0) sl22 RInt_one hS hO rfl hnhs65_0 (hs65_0.mono RInt_mono leG86) hfb84 hy87 rfl rfl rfl rfl rfl (fun aw88 cw88 w88 clw88 hS hO hrw88 => ?_))
           have hO : Owns G86 w88 w0.heap.size ([⟨3, 1, y87.length, .slice aw88 y87.length cw88, clw88⟩, ⟨22, 1, ns65_3, .slice as65_3 ns65_3 cs65_3, clas65_3⟩, ⟨3, 1, ns65_2, .slice as65_2 ns65_2 cs65_2, clas65_2⟩, ⟨3, 1, ns65_1, .slice as65_1 ns65_1 cs65_1, clas65_1⟩, ⟨45, 3, 1, .slice (some ⟨b10, 0, none⟩) 1 1, [.slice as65_1 ns65_1 cs65_1, .slice as65_2 ns65_2 cs65_2, .slice as65_3 ns65_3 cs65_3]⟩, ⟨45, 3, 1, .slice (some ⟨b7, 0, none⟩) 1 1, [.slice as65_4 ns65_4 cs65_4, .slice as65_5 ns65_5 cs65_5, .slice as65_6 ns65_6 cs65_6]⟩]) := hO
           refine WL_val (rn_assign (v := (.slice aw88 y87.length cw88)) rfl) rfl ?_; refine WL_nil ?_; refine WC_region ?_; refine WL_val (rn_move (v := (.int .i64 s65.2.1)) rfl) rfl ?_; refine WL_val (rn_add rfl rfl) rfl ?_; refine WL_val (rn_assign (v := (.int .i64 (IntKind.i64.wrap (s65.2.1 + 1)))) rfl) rfl ?_; refine WL_nil ?_
           have hO : Owns G86 w88 w0.heap.size ([⟨3, 1, y87.length, .slice aw88 y87.length cw88, clw88⟩, ⟨22, 1, ns65_3, .slice as65_3 ns65_3 cs65_3, clas65_3⟩, ⟨3, 1, ns65_2, .slice as65_2 ns65_2 cs65_2, clas65_2⟩, ⟨3, 1, ns65_1, .slice as65_1 ns65_1 cs65_1, clas65_1⟩, ⟨45, 3, 1, .slice (some ⟨b10, 0, none⟩) 1 1, [.slice as65_1 ns65_1 cs65_1, .slice as65_2 ns65_2 cs65_2, .slice as65_3 ns65_3 cs65_3]⟩, ⟨45, 3, 1, .slice (some ⟨b7, 0, none⟩) 1 1, [.slice as65_4 ns65_4 cs65_4, .slice as65_5 ns65_5 cs65_5, .slice as65_6 ns65_6 cs65_6]⟩]) := hO
           have H := Option.some.inj H; subst H; refine ⟨_, rfl, ?_⟩
           have l4_6 := leG70.trans leG86
           exact ⟨_, G86, aw88, y87.length, cw88, clw88, as65_1, ns65_1, cs65_1, clas65_1, as65_2, ns65_2, cs65_2, clas65_2, as65_3, ns65_3, cs65_3, clas65_3, as65_4, ns65_4, cs65_4, as65_5, ns65_5, cs65_5, as65_6, ns65_6, cs65_6, upds_self _ _ ⟨rfl, rfl, rfl, rfl, rfl, rfl, rfl, trivial⟩, l4_6, hS, hO, rfl, hrw88, hnhs65_1, (hs65_1.mono RInt_mono leG86), hnhs65_2, (hs65_2.mono RInt_mono leG86), hnhs65_3, (hs65_3.mono (RSlice_mono RInt_mono) leG86), (hs65_4.mono RInt_mono leG86), (hs65_5.mono RInt_mono leG86), (hs65_6.mono (RSlice_mono RInt_mono) leG86)⟩
         ·have H := ifF hb71 H; refine WC_exit rfl ?_
          have hO : Owns G70 w69 w0.heap.size ([⟨3, 1, ns65_0, .slice as65_0 ns65_0 cs65_0, clas65_0⟩, ⟨22, 1, ns65_3, .slice as65_3 ns65_3 cs65_3, clas65_3⟩, ⟨3, 1, ns65_2, .slice as65_2 ns65_2 cs65_2, clas65_2⟩, ⟨3, 1, ns65_1, .slice as65_1 ns65_1 cs65_1, clas65_1⟩, ⟨45, 3, 1, .slice (some ⟨b10, 0, none⟩) 1 1, [.slice as65_1 ns65_1 cs65_1, .slice as65_2 ns65_2 cs65_2, .slice as65_3 ns65_3 cs65_3]⟩, ⟨45, 3, 1, .slice (some ⟨b7, 0, none⟩) 1 1, [.slice as65_4 ns65_4 cs65_4, .slice as65_5 ns65_5 cs65_5, .slice as65_6 ns65_6 cs65_6]⟩]) := hO
          have H := Option.some.inj H; subst H
          have hres := hqq67 _ rfl
          subst hres
          exact ⟨_, G70, as65_0, ns65_0, cs65_0, clas65_0, as65_1, ns65_1, cs65_1, clas65_1, as65_2, ns65_2, cs65_2, clas65_2, as65_3, ns65_3, cs65_3, clas65_3, as65_4, ns65_4, cs65_4, as65_5, ns65_5, cs65_5, as65_6, ns65_6, cs65_6, upds_self _ _ ⟨rfl, rfl, rfl, rfl, rfl, rfl, trivial⟩, leG70, hS, hO, hnhs65_0, hs65_0, hnhs65_1, hs65_1, hnhs65_2, hs65_2, hnhs65_3, hs65_3, hs65_4, hs65_5, hs65_6⟩
       ·rintro F w89 ⟨Fb, G90, aq67_0, nq67_0, cq67_0, claq67_0, aq67_1, nq67_1, cq67_1, claq67_1, aq67_2, nq67_2, cq67_2, claq67_2, aq67_3, nq67_3, cq67_3, claq67_3, aq67_4, nq67_4, cq67_4, aq67_5, nq67_5, cq67_5, aq67_6, nq67_6, cq67_6, rfl, leG90, hS, hO, hnhq67_0, hq67_0, hnhq67_1, hq67_1, hnhq67_2, hq67_2, hnhq67_3, hq67_3, hq67_4, hq67_5, hq67_6⟩
        refine WC_region ?_; refine WL_val (rn_fld fd45_2 rfl) rfl ?_; refine WL_val (rn_load na43 rfl (own_cell hO (k := 4) rfl (j := 2) rfl)) rfl ?_; refine WL_val (rn_move (v := (.slice aq67_0 nq67_0 cq67_0)) rfl) rfl ?_; obtain ⟨G91, leG91, hS, hO, hfG91⟩ := hO.freezeS hS RInt_mono (k := 0) rfl hq67_0 hnhq67_0
        refine WL_op rfl (OpP_newF (v := fun b => .slice (some ⟨b, 0, none⟩) 1 1) (cs := [.slice aq67_0 nq67_0 cq67_0]) (e := 22) (by kernel_rfl) hS.sat rfl (fun b92 G94 w93 hg hcb92 => ?_))
        have hS := hS.grow hg; have hO := hO.grow hg
        have leG94 := hg.le
        have hfb92 : RSl (RSlice RInt 1) 1 G94 (some ⟨b92, 0, none⟩) 1 1 [q67.1] := RSl.of_rd hcb92 (Rd.cons (c := [.slice aq67_0 nq67_0 cq67_0]) rfl ⟨_, _, _, rfl, (hfG91.mono RInt_mono leG94)⟩ (Rd.nil (RSlice RInt 1) 1 _)) rfl (by decide)
        obtain ⟨y95, hy95, H⟩ := bnd H
        have l5_7 := leG91.trans leG94
        refine WL_op rfl (OpP_append (k := 0) sl43 (RSlice_one RInt 1) hS hO rfl hnhq67_3 (hq67_3.mono (RSlice_mono RInt_mono) l5_7) hfb92 hy95 rfl rfl rfl rfl rfl (fun aw96 cw96 w96 clw96 hS hO hrw96 => ?_))
        have hO : Owns G94 w96 w0.heap.size ([⟨22, 1, y95.length, .slice aw96 y95.length cw96, clw96⟩, ⟨3, 1, nq67_2, .slice aq67_2 nq67_2 cq67_2, claq67_2⟩, ⟨3, 1, nq67_1, .slice aq67_1 nq67_1 cq67_1, claq67_1⟩, ⟨45, 3, 1, .slice (some ⟨b10, 0, none⟩) 1 1, [.slice aq67_1 nq67_1 cq67_1, .slice aq67_2 nq67_2 cq67_2, .slice aq67_3 nq67_3 cq67_3]⟩, ⟨45, 3, 1, .slice (some ⟨b7, 0, none⟩) 1 1, [.slice aq67_4 nq67_4 cq67_4, .slice aq67_5 nq67_5 cq67_5, .slice aq67_6 nq67_6 cq67_6]⟩]) := hO
        refine WL_val (rn_fld fd45_2 rfl) rfl ?_; refine WL_op rfl (OpP_store (vs := [.slice aw96 y95.length cw96]) sz43 hS hO (k := 3) rfl rfl rfl rfl rfl (one_all rfl) (Nat.le_of_ble_eq_true rfl) (fun w97 hS hO => ?_))
        have hO : Owns G94 w97 w0.heap.size ([⟨22, 1, y95.length, .slice aw96 y95.length cw96, clw96⟩, ⟨3, 1, nq67_2, .slice aq67_2 nq67_2 cq67_2, claq67_2⟩, ⟨3, 1, nq67_1, .slice aq67_1 nq67_1 cq67_1, claq67_1⟩, ⟨45, 3, 1, .slice (some ⟨b10, 0, none⟩) 1 1, [.slice aq67_1 nq67_1 cq67_1, .slice aq67_2 nq67_2 cq67_2, .slice aw96 y95.length cw96]⟩, ⟨45, 3, 1, .slice (some ⟨b7, 0, none⟩) 1 1, [.slice aq67_4 nq67_4 cq67_4, .slice aq67_5 nq67_5 cq67_5, .slice aq67_6 nq67_6 cq67_6]⟩]) := hO
        refine WL_nil ?_; refine WC_region ?_; refine WL_val (rn_move (v := (.int .i64 s57.1)) rfl) rfl ?_; refine WL_val (rn_add rfl rfl) rfl ?_; refine WL_val (rn_assign (v := (.int .i64 (IntKind.i64.wrap (s57.1 + 1)))) rfl) rfl ?_; refine WL_nil ?_
        have hO : Owns G94 w97 w0.heap.size ([⟨22, 1, y95.length, .slice aw96 y95.length cw96, clw96⟩, ⟨3, 1, nq67_2, .slice aq67_2 nq67_2 cq67_2, claq67_2⟩, ⟨3, 1, nq67_1, .slice aq67_1 nq67_1 cq67_1, claq67_1⟩, ⟨45, 3, 1, .slice (some ⟨b10, 0, none⟩) 1 1, [.slice aq67_1 nq67_1 cq67_1, .slice aq67_2 nq67_2 cq67_2, .slice aw96 y95.length cw96]⟩, ⟨45, 3, 1, .slice (some ⟨b7, 0, none⟩) 1 1, [.slice aq67_4 nq67_4 cq67_4, .slice aq67_5 nq67_5 cq67_5, .slice aq67_6 nq67_6 cq67_6]⟩]) := hO
        have H := Option.some.inj H; subst H; refine ⟨_, rfl, ?_⟩
        have l3_7 := (leG62.trans leG90).trans l5_7
        exact ⟨_, G94, aq67_1, nq67_1, cq67_1, claq67_1, aq67_2, nq67_2, cq67_2, claq67_2, aw96, y95.length, cw96, clw96, aq67_4, nq67_4, cq67_4, aq67_5, nq67_5, cq67_5, aq67_6, nq67_6, cq67_6, upds_self _ _ ⟨rfl, rfl, rfl, rfl, rfl, trivial⟩, l3_7, hS, hO, hnhq67_1, (hq67_1.mono RInt_mono l5_7), hnhq67_2, (hq67_2.mono RInt_mono l5_7), rfl, hrw96, (hq67_4.mono RInt_mono l5_7), (hq67_5.mono RInt_mono l5_7), (hq67_6.mono (RSlice_mono RInt_mono) l5_7)⟩
      ·have H := ifF hb63 H; refine WC_exit rfl ?_
       have hO : Owns G62 w61 w0.heap.size ([⟨22, 1, ns57_2, .slice as57_2 ns57_2 cs57_2, clas57_2⟩, ⟨3, 1, ns57_1, .slice as57_1 ns57_1 cs57_1, clas57_1⟩, ⟨3, 1, ns57_0, .slice as57_0 ns57_0 cs57_0, clas57_0⟩, ⟨45, 3, 1, .slice (some ⟨b10, 0, none⟩) 1 1, [.slice as57_0 ns57_0 cs57_0, .slice as57_1 ns57_1 cs57_1, .slice as57_2 ns57_2 cs57_2]⟩, ⟨45, 3, 1, .slice (some ⟨b7, 0, none⟩) 1 1, [.slice as57_3 ns57_3 cs57_3, .slice as57_4 ns57_4 cs57_4, .slice as57_5 ns57_5 cs57_5]⟩]) := hO
       have H := Option.some.inj H; subst H
       have hres := hqq59 _ rfl
       subst hres
       exact ⟨_, G62, as57_0, ns57_0, cs57_0, clas57_0, as57_1, ns57_1, cs57_1, clas57_1, as57_2, ns57_2, cs57_2, clas57_2, as57_3, ns57_3, cs57_3, as57_4, ns57_4, cs57_4, as57_5, ns57_5, cs57_5, upds_self _ _ ⟨rfl, rfl, trivial⟩, leG62, hS, hO, hnhs57_0, hs57_0, hnhs57_1, hs57_1, hnhs57_2, hs57_2, hs57_3, hs57_4, hs57_5⟩
    ·rintro F w98 ⟨Fb, G99, aq59_0, nq59_0, cq59_0, claq59_0, aq59_1, nq59_1, cq59_1, claq59_1, aq59_2, nq59_2, cq59_2, claq59_2, aq59_3, nq59_3, cq59_3, aq59_4, nq59_4, cq59_4, aq59_5, nq59_5, cq59_5, rfl, leG99, hS, hO, hnhq59_0, hq59_0, hnhq59_1, hq59_1, hnhq59_2, hq59_2, hq59_3, hq59_4, hq59_5⟩
     refine WC_seq ?_; refine WC_region ?_; refine WL_val (rn_loadA ag45 (cs := [.slice aq59_0 nq59_0 cq59_0, .slice aq59_1 nq59_1 cq59_1, .slice aq59_2 nq59_2 cq59_2]) rfl rfl (fun j v hj => own_sub hO (k := 3) rfl 0 3 j v hj)) rfl ?_; refine WL_op rfl (OpP_store (vs := [.slice aq59_0 nq59_0 cq59_0, .slice aq59_1 nq59_1 cq59_1, .slice aq59_2 nq59_2 cq59_2]) sz45 hS hO (k := 4) rfl rfl rfl rfl rfl (one_all rfl) (Nat.le_of_ble_eq_true rfl) (fun w100 hS hO => ?_))
     have hO : Owns G99 w100 w0.heap.size ([⟨22, 1, nq59_2, .slice aq59_2 nq59_2 cq59_2, claq59_2⟩, ⟨3, 1, nq59_1, .slice aq59_1 nq59_1 cq59_1, claq59_1⟩, ⟨3, 1, nq59_0, .slice aq59_0 nq59_0 cq59_0, claq59_0⟩, ⟨45, 3, 1, .slice (some ⟨b10, 0, none⟩) 1 1, [.slice aq59_0 nq59_0 cq59_0, .slice aq59_1 nq59_1 cq59_1, .slice aq59_2 nq59_2 cq59_2]⟩, ⟨45, 3, 1, .slice (some ⟨b7, 0, none⟩) 1 1, [.slice aq59_0 nq59_0 cq59_0, .slice aq59_1 nq59_1 cq59_1, .slice aq59_2 nq59_2 cq59_2]⟩]) := hO
     refine WL_nil ?_; refine WC_ret ?_; obtain ⟨G101, leG101, hS, hO, hfG101⟩ := hO.freezeS hS RInt_mono (k := 2) rfl hq59_0 hnhq59_0; obtain ⟨G102, leG102, hS, hO, hfG102⟩ := hO.freezeS hS RInt_mono (k := 1) rfl (hq59_1.mono RInt_mono leG101) hnhq59_1
     have l4_6 := leG101.trans leG102
     obtain ⟨G103, leG103, hS, hO, hfG103⟩ := hO.freezeS hS (RSlice_mono RInt_mono) (k := 0) rfl (hq59_2.mono (RSlice_mono RInt_mono) l4_6) hnhq59_2
     have H : some (⟨q59.1.Uses, q59.1.Gaps, q59.1.Goods⟩ : TShipTruth) = some r := H
     have H := Option.some.inj H; subst H
     have l5_7 := leG102.trans leG103
     exact ⟨[.agg #[.slice aq59_0 nq59_0 cq59_0, .slice aq59_1 nq59_1 cq59_1, .slice aq59_2 nq59_2 cq59_2]], ⟨⟨_, rfl, ld_agg (cs := [.slice aq59_0 nq59_0 cq59_0, .slice aq59_1 nq59_1 cq59_1, .slice aq59_2 nq59_2 cq59_2]) ag45 rfl (fun j v hj => own_sub hO (k := 1) rfl 0 3 j v hj)⟩, trivial⟩, ⟨_, _, rfl, hS.toGrow, _, _, _, _, _, _, _, _, _, rfl, (hfG101.mono RInt_mono l5_7), (hfG102.mono RInt_mono leG103), hfG103⟩⟩
set_option maxHeartbeats 1000000 in
theorem f40_ok {G0 : Gm} {w0 : World} (hS0 : Sat G0 w0) {x0 : TShipStore} {a1 : Option Addr} {n1 c1 : Nat} {a2 : Option Addr} {n2 c2 : Nat} {a3 : Option Addr} {n3 c3 : Nat} {x1 : (List Int)} {a4 : Option Addr} {n4 c4 : Nat} (h1 : RSl RInt 1 G0 a1 n1 c1 x0.Stock) (h2 : RSl RTSpan 2 G0 a2 n2 c2 x0.Use) (h3 : RSl RTShipLot 3 G0 a3 n3 c3 x0.Lots) (h4 : RSl RInt 1 G0 a4 n4 c4 x1) {r : Int} (H : f40 x0 x1 = some r) :
  Calls Try.prog 40 #[.agg #[.slice a1 n1 c1, .slice a2 n2 c2, .int .i64 x0.Gap.Low, .int .i64 x0.Gap.High, .slice a3 n3 c3, .int .i64 x0.Hold], .slice a4 n4 c4] w0 (RetV w0 (.int .i64 r)) := by
 have hS := Since.start hS0
 have hO : Owns G0 w0 w0.heap.size [] := Owns.nil (Nat.le_refl _)
 unfold f40 at H
 refine enter1 (N := 25) (shutV _ _) Try.func40 rfl rfl rfl rfl ?_; refine WC_seq ?_; refine WC_region ?_; refine WL_op rfl (OpP_newF (v := fun b => .pointer (some ⟨b, 0, none⟩)) (cs := [.slice a1 n1 c1, .slice a2 n2 c2, .int .i64 x0.Gap.Low, .int .i64 x0.Gap.High, .slice a3 n3 c3, .int .i64 x0.Hold]) (e := 42) (rn_boxA rfl) hS.sat rfl (fun b5 G7 w6 hg hcb5 => ?_)); have hS := hS.grow hg; have hO := hO.grow hg
 have leG7 := hg.le
 refine WL_val (rn_assign (v := (.int .i64 0)) rfl) rfl ?_; refine WL_nil ?_; refine WC_seq ?_; refine WC_region ?_; refine WL_val (rn_assign (v := (.int .i64 0)) rfl) rfl ?_; refine WL_nil ?_; refine WC_seq ?_; refine WC_seq ?_; refine WC_region ?_; refine WL_val (rn_assign (v := (.int .i64 0)) rfl) rfl ?_; refine WL_nil ?_; obtain ⟨q10, hq10, H⟩ := bnd H; refine WC_cut (fun F w => ∃ (Fb : Fr) (G : Gm), F = upds Fb [(5, .int .i64 q10)] ∧ Gle G7 G ∧ Since w0.heap.size G0 w0 G w ∧ Owns G w w0.heap.size []) ?_ ?_
 ·refine WC_block (WC_loop hq10 (fun s8 F w => ∃ (Fb : Fr) (G : Gm), F = upds Fb [(1, .slice a4 n4 c4), (2, .pointer (some ⟨b5, 0, none⟩)), (5, .int .i64 s8.1), (6, .int .i64 s8.2)] ∧ Gle G7 G ∧ Since w0.heap.size G0 w0 G w ∧ Owns G w w0.heap.size []) ?_ ?_)
  ·have hO : Owns G7 w6 w0.heap.size ([]) := hO
   exact ⟨_, G7, upds_self _ _ ⟨rfl, rfl, rfl, rfl, trivial⟩, Gle.refl _, hS, hO⟩
  ·rintro s8 F w12 t11 ⟨Fb, G13, rfl, leG13, hS, hO⟩
   intro H1 hqq10
   have Hoq10 := H; have H := H1
   unfold f40_b0 at H
   refine WC_seq ?_; refine WC_seq ?_; refine WC_region ?_; refine WL_val (rn_move (v := (.int .i64 s8.2)) rfl) rfl ?_; refine WL_val (rn_move (v := (.slice a4 n4 c4)) rfl) rfl ?_
   have l0_2 := leG7.trans leG13
   refine WL_val (rn_len sl22 rfl rfl (h4.mono RInt_mono l0_2).1) rfl ?_; refine WL_val (rn_lss rfl rfl) rfl ?_; refine WL_nil ?_; refine WC_cond rfl (fun hb14 => ?_) (fun hb14 => ?_)
   ·have H := ifT hb14 H; refine WC_skip ?_; refine WC_seq ?_; refine WC_block ?_; have hS := hS.keep (below_drew _); have hO := hO.below (below_drew _)
    refine WC_regionD mixedO (fun _ w => Sat G13 w ∧ True) (.fl 0 (.fl 1 (.fl 2 (.fl 3 (.on 4 (.on 5 (.on 6 (.on 7 (.on 8 (.on 9 (.on 10 (.on 11 .nil)))))))))))) (by kernel_rfl) rfl (by kernel_rfl) (fun _ => ⟨hS.sat, trivial⟩) ?_
    refine WD_val rfl (fun w hw => rn_move (v := (.int .i64 s8.1)) rfl) rfl ?_; refine WD_val rfl (fun w hw => rn_fld fd42_3 rfl) rfl ?_; refine WD_val rfl (fun w hw => rn_load na40 rfl ((hw.1.le leG13).cell (hcb5 4 _ rfl))) rfl ?_; refine WD_val rfl (fun w hw => rn_move (v := (.slice a4 n4 c4)) rfl) rfl ?_; refine WD_op rfl rfl (OpP_val (rn_move (v := (.int .i64 s8.2)) rfl) rfl ?_); refine ⟨fun _ _ => ⟨hS.sat, trivial⟩, ?_⟩; obtain ⟨y15, hy15, H⟩ := bnd H; refine WD_op rfl rfl (OpP_idx sl22 (h4.mono RInt_mono l0_2) hy15 rfl rfl rfl ?_)
    rintro b16 o16 _ hcb16 _ ⟨⟩
    refine ⟨fun _ _ => ⟨hS.sat, trivial⟩, ?_⟩; refine WD_op rfl rfl (OpP_val (rn_load na3 rfl (hS.sat.cell (hcb16 0 _ rfl))) rfl ?_); refine ⟨fun _ _ => ⟨hS.sat, trivial⟩, ?_⟩; obtain ⟨y17, hy17, H⟩ := bnd H; refine WD_op rfl rfl (OpP_idx sl40 (h3.mono RTShipLot_mono l0_2) hy17 rfl rfl rfl ?_)
    rintro b18 o18 _ hcb18 _ ⟨a19, n19, c19, ⟨⟩, h19⟩
    refine ⟨fun _ _ => ⟨hS.sat, trivial⟩, ?_⟩; refine WD_op rfl rfl (OpP_val (rn_fld fd111_2 rfl) rfl ?_); refine ⟨fun _ _ => ⟨hS.sat, trivial⟩, ?_⟩; refine WD_op rfl rfl (OpP_val (rn_load na3 rfl (hS.sat.cell (hcb18 2 _ rfl))) rfl ?_); refine ⟨fun _ _ => ⟨hS.sat, trivial⟩, ?_⟩; refine WD_op rfl rfl (OpP_val (rn_add rfl rfl) rfl ?_)
    refine ⟨fun _ h => noneed (by kernel_rfl) h, ?_⟩
    refine WD_op rfl rfl (OpP_val (rn_assign (v := (.int .i64 (IntKind.i64.wrap (s8.1 + y17.Cost)))) rfl) rfl ?_)
    refine ⟨fun _ h => noneed (by kernel_rfl) h, ?_⟩
    refine WD_nil ?_; refine WC_region ?_; refine WL_val (rn_move (v := (.int .i64 s8.2)) rfl) rfl ?_; refine WL_val (rn_add rfl rfl) rfl ?_; refine WL_val (rn_assign (v := (.int .i64 (IntKind.i64.wrap (s8.2 + 1)))) rfl) rfl ?_; refine WL_nil ?_
    have hO : Owns G13 w12.drew w0.heap.size ([]) := hO
    have H := Option.some.inj H; subst H; refine ⟨_, rfl, ?_⟩
    exact ⟨_, G13, upds_self _ _ ⟨rfl, rfl, rfl, rfl, trivial⟩, leG13, hS, hO⟩
   ·have H := ifF hb14 H; refine WC_exit rfl ?_
    have hO : Owns G13 w12 w0.heap.size ([]) := hO
    have H := Option.some.inj H; subst H
    have hres := hqq10 _ rfl
    subst hres
    exact ⟨_, G13, upds_self _ _ ⟨rfl, trivial⟩, leG13, hS, hO⟩
 ·rintro F w20 ⟨Fb, G21, rfl, leG21, hS, hO⟩
  refine WC_seq ?_; refine WC_region ?_; refine WL_val (rn_move (v := (.int .i64 q10)) rfl) rfl ?_; refine WL_val (rn_assign (v := (.int .i64 q10)) rfl) rfl ?_; refine WL_nil ?_; refine WC_ret ?_
  have H : some q10 = some r := H
  have H := Option.some.inj H; subst H
  exact ⟨rfl, hS.below⟩
set_option maxHeartbeats 1000000 in
theorem f78_ok {G0 : Gm} {w0 : World} (hS0 : Sat G0 w0) {x0 : Int} {x1 : Int}  {r : (List (List Int))} (H : f78 x0 x1 = some r) :
  Calls Try.prog 78 #[.int .i64 x0, .int .i64 x1] w0 (RetG G0 w0 (fun G v => ∃ (ra0 : Option Addr) (rn0 rc0 : Nat), v = .slice ra0 rn0 rc0 ∧ RSl (RSlice RInt 1) 1 G ra0 rn0 rc0 r)) := by
 have hS := Since.start hS0
 have hO : Owns G0 w0 w0.heap.size [] := Owns.nil (Nat.le_refl _)
 unfold f78 at H
 refine enter1 (N := 53) (shutG _ _ _) Try.func78 rfl rfl rfl rfl ?_; refine WC_seq ?_; refine WC_region ?_; refine WL_val (rn_assign (v := (.slice none 0 0)) rfl) rfl ?_; refine WL_nil ?_; refine WC_seq ?_; refine WC_region ?_
 refine WL_op rfl (OpP_newF (v := fun b => .slice (some ⟨b, 0, none⟩) 1 1) (cs := [.slice none 0 0]) (e := 22) (by kernel_rfl) hS.sat rfl (fun b1 G3 w2 hg hcb1 => ?_))
 have hS := hS.grow hg; have hO := hO.grow hg
 have leG3 := hg.le
 have hfb1 : RSl (RSlice RInt 1) 1 G3 (some ⟨b1, 0, none⟩) 1 1 [[]] := RSl.of_rd hcb1 (Rd.cons (c := [.slice none 0 0]) rfl ⟨_, _, _, rfl, (RSl.nil RInt 1 G3 none)⟩ (Rd.nil (RSlice RInt 1) 1 _)) rfl (by decide)
 refine WL_val (rn_assign (v := (.slice (some ⟨b1, 0, none⟩) 1 1)) rfl) rfl ?_; refine WL_nil ?_; refine WC_seq ?_; refine WC_seq ?_; refine WC_region ?_; refine WL_val (rn_assign (v := (.int .i64 0)) rfl) rfl ?_; refine WL_nil ?_; obtain ⟨q6, hq6, H⟩ := bnd H; refine WC_cut (fun F w => ∃ (Fb : Fr) (G : Gm) (aq6_0 : Option Addr) (nq6_0 cq6_0 : Nat), F = upds Fb [(5, .slice aq6_0 nq6_0 cq6_0)] ∧ Gle G3 G ∧ Since w0.heap.size G0 w0 G w ∧ Owns G w w0.heap.size [] ∧ RSl (RSlice RInt 1) 1 G aq6_0 nq6_0 cq6_0 q6) ?_ ?_
 ·refine WC_block (WC_loop hq6 (fun s4 F w => ∃ (Fb : Fr) (G : Gm) (as4_0 : Option Addr) (ns4_0 cs4_0 : Nat), F = upds Fb [(0, .int .i64 x0), (1, .int .i64 x1), (5, .slice as4_0 ns4_0 cs4_0), (6, .int .i64 s4.2)] ∧ Gle G3 G ∧ Since w0.heap.size G0 w0 G w ∧ Owns G w w0.heap.size [] ∧ RSl (RSlice RInt 1) 1 G as4_0 ns4_0 cs4_0 s4.1) ?_ ?_)
  ·have hO : Owns G3 w2 w0.heap.size ([]) := hO
   exact ⟨_, G3, (some ⟨b1, 0, none⟩), 1, 1, upds_self _ _ ⟨rfl, rfl, rfl, rfl, trivial⟩, Gle.refl _, hS, hO, hfb1⟩
  ·rintro s4 F w8 t7 ⟨Fb, G9, as4_0, ns4_0, cs4_0, rfl, leG9, hS, hO, hs4_0⟩
   intro H1 hqq6
   have Hoq6 := H; have H := H1
   unfold f78_b0 at H
   refine WC_seq ?_; refine WC_seq ?_; refine WC_region ?_; refine WL_val (rn_move (v := (.int .i64 s4.2)) rfl) rfl ?_; refine WL_val (rn_move (v := (.int .i64 x1)) rfl) rfl ?_; refine WL_val (rn_lss rfl rfl) rfl ?_; refine WL_nil ?_; refine WC_cond rfl (fun hb10 => ?_) (fun hb10 => ?_)
   ·have H := ifT hb10 H; refine WC_skip ?_; refine WC_seq ?_; refine WC_block ?_; refine WC_seq ?_; refine WC_region ?_; refine WL_val (rn_assign (v := (.slice none 0 0)) rfl) rfl ?_; refine WL_nil ?_; refine WC_seq ?_; refine WC_seq ?_; refine WC_region ?_; refine WL_val (rn_assign (v := (.int .i64 0)) rfl) rfl ?_; refine WL_nil ?_; have hO := hO.cons_nil 22 1; obtain ⟨q14, hq14, H⟩ := bnd H; refine WC_cut (fun F w => ∃ (Fb : Fr) (G : Gm) (aq14_0 : Option Addr) (nq14_0 cq14_0 : Nat) (claq14_0 : List Value), F = upds Fb [(0, .int .i64 x0), (1, .int .i64 x1), (6, .int .i64 s4.2), (7, .slice aq14_0 nq14_0 cq14_0)] ∧ Gle G9 G ∧ Since w0.heap.size G0 w0 G w ∧ Owns G w w0.heap.size [⟨22, 1, nq14_0, .slice aq14_0 nq14_0 cq14_0, claq14_0⟩] ∧ nq14_0 = q14.length ∧ Rd (RSlice RInt 1) 1 G claq14_0 q14) ?_ ?_
    ·refine WC_block (WC_loop hq14 (fun s12 F w => ∃ (Fb : Fr) (G : Gm) (as12_0 : Option Addr) (ns12_0 cs12_0 : Nat) (clas12_0 : List Value), F = upds Fb [(0, .int .i64 x0), (1, .int .i64 x1), (5, .slice as4_0 ns4_0 cs4_0), (6, .int .i64 s4.2), (7, .slice as12_0 ns12_0 cs12_0), (8, .int .i64 s12.2)] ∧ Gle G9 G ∧ Since w0.heap.size G0 w0 G w ∧ Owns G w w0.heap.size [⟨22, 1, ns12_0, .slice as12_0 ns12_0 cs12_0, clas12_0⟩] ∧ ns12_0 = s12.1.length ∧ Rd (RSlice RInt 1) 1 G clas12_0 s12.1) ?_ ?_)
     ·have hO : Owns G9 w8 w0.heap.size ([⟨22, 1, 0, .slice none 0 0, []⟩]) := hO
      exact ⟨_, G9, none, 0, 0, [], upds_self _ _ ⟨rfl, rfl, rfl, rfl, rfl, rfl, trivial⟩, Gle.refl _, hS, hO, rfl, (Rd.nil (RSlice RInt 1) 1 G9)⟩
     ·rintro s12 F w16 t15 ⟨Fb, G17, as12_0, ns12_0, cs12_0, clas12_0, rfl, leG17, hS, hO, hnhs12_0, hs12_0⟩
      intro H1 hqq14
      have Hoq14 := H; have H := H1
      unfold f78_b1 at H
      refine WC_seq ?_; refine WC_seq ?_; refine WC_region ?_; refine WL_val (rn_move (v := (.int .i64 s12.2)) rfl) rfl ?_; refine WL_val (rn_move (v := (.slice as4_0 ns4_0 cs4_0)) rfl) rfl ?_; refine WL_val (rn_len sl43 rfl rfl (hs4_0.mono (RSlice_mono RInt_mono) leG17).1) rfl ?_; refine WL_val (rn_lss rfl rfl) rfl ?_; refine WL_nil ?_; refine WC_cond rfl (fun hb18 => ?_) (fun hb18 => ?_)
      ·have H := ifT hb18 H; refine WC_skip ?_; refine WC_seq ?_; refine WC_block ?_; refine WC_seq ?_; refine WC_region ?_; refine WL_val (rn_assign (v := (.int .i64 0)) rfl) rfl ?_; refine WL_nil ?_; refine WC_seq ?_; obtain ⟨q19, hq19, H⟩ := bnd H; refine WC_cut (fun F w => ∃ (Fb : Fr), F = upds Fb [(0, .int .i64 x0), (1, .int .i64 x1), (5, .slice as4_0 ns4_0 cs4_0), (6, .int .i64 s4.2), (7, .slice as12_0 ns12_0 cs12_0), (8, .int .i64 s12.2), (9, .int .i64 q19)] ∧ w16 = w) ?_ ?_
       ·have Hoq19 := H; have H := hq19; refine WC_seq ?_; refine WC_region ?_; refine WL_val (rn_move (v := (.int .i64 s4.2)) rfl) rfl ?_; refine WL_val (rn_gtr rfl rfl) rfl ?_; refine WL_nil ?_; refine WC_cond rfl (fun hb20 => ?_) (fun hb20 => ?_)
        ·have H := ifT hb20 H; refine WC_region ?_; refine WL_val (rn_move (v := (.slice as4_0 ns4_0 cs4_0)) rfl) rfl ?_; refine WL_val (rn_move (v := (.int .i64 s12.2)) rfl) rfl ?_; obtain ⟨y21, hy21, H⟩ := bnd H; refine WL_idx sl43 (hs4_0.mono (RSlice_mono RInt_mono) leG17) hy21 rfl rfl rfl ?_
         rintro b22 o22 _ hcb22 _ ⟨a23, n23, c23, ⟨⟩, h23⟩
         refine WL_val (rn_load na22 rfl (hS.sat.cell (hcb22 0 _ rfl))) rfl ?_; refine WL_val (rn_move (v := (.int .i64 s4.2)) rfl) rfl ?_; refine WL_val (rn_sub rfl rfl) rfl ?_; obtain ⟨y24, hy24, H⟩ := bnd H; refine WL_idx sl22 h23 hy24 rfl rfl rfl ?_
         rintro b25 o25 _ hcb25 _ ⟨⟩
         refine WL_val (rn_load na3 rfl (hS.sat.cell (hcb25 0 _ rfl))) rfl ?_; refine WL_val (rn_add rfl rfl) rfl ?_; refine WL_val (rn_assign (v := (.int .i64 (IntKind.i64.wrap (y24 + 1)))) rfl) rfl ?_; refine WL_nil ?_; have H := Option.some.inj H; subst H
         exact ⟨_, upds_self _ _ ⟨rfl, rfl, rfl, rfl, rfl, rfl, rfl, trivial⟩, rfl⟩
        ·have H := ifF hb20 H; refine WC_skip ?_; have H := Option.some.inj H; subst H
         exact ⟨_, upds_self _ _ ⟨rfl, rfl, rfl, rfl, rfl, rfl, rfl, trivial⟩, rfl⟩
       ·rintro F wl ⟨Fb, rfl, rfl⟩
        refine WC_seq ?_; refine WC_region ?_; refine WL_val (rn_move (v := (.int .i64 q19)) rfl) rfl ?_; refine WL_val (rn_assign (v := (.int .i64 q19)) rfl) rfl ?_; refine WL_nil ?_; obtain ⟨q30, hq30, H⟩ := bnd H; refine WC_cut (fun F w => ∃ (Fb : Fr) (G : Gm) (aq30_0 : Option Addr) (nq30_0 cq30_0 : Nat) (claq30_0 : List Value), F = upds Fb [(0, .int .i64 x0), (1, .int .i64 x1), (5, .slice as4_0 ns4_0 cs4_0), (6, .int .i64 s4.2), (7, .slice aq30_0 nq30_0 cq30_0), (8, .int .i64 s12.2)] ∧ Gle G17 G ∧ Since w0.heap.size G0 w0 G w ∧ Owns G w w0.heap.size [⟨22, 1, nq30_0, .slice aq30_0 nq30_0 cq30_0, claq30_0⟩] ∧ nq30_0 = q30.length ∧ Rd (RSlice RInt 1) 1 G claq30_0 q30) ?_ ?_
        ·refine WC_block (WC_loop hq30 (fun s28 F w => ∃ (Fb : Fr) (G : Gm) (as28_0 : Option Addr) (ns28_0 cs28_0 : Nat) (clas28_0 : List Value), F = upds Fb [(0, .int .i64 x0), (1, .int .i64 x1), (5, .slice as4_0 ns4_0 cs4_0), (6, .int .i64 s4.2), (7, .slice as28_0 ns28_0 cs28_0), (8, .int .i64 s12.2), (10, .int .i64 s28.2)] ∧ Gle G17 G ∧ Since w0.heap.size G0 w0 G w ∧ Owns G w w0.heap.size [⟨22, 1, ns28_0, .slice as28_0 ns28_0 cs28_0, clas28_0⟩] ∧ ns28_0 = s28.1.length ∧ Rd (RSlice RInt 1) 1 G clas28_0 s28.1) ?_ ?_)
         ·have hO : Owns G17 w16 w0.heap.size ([⟨22, 1, ns12_0, .slice as12_0 ns12_0 cs12_0, clas12_0⟩]) := hO
          exact ⟨_, G17, as12_0, ns12_0, cs12_0, clas12_0, upds_self _ _ ⟨rfl, rfl, rfl, rfl, rfl, rfl, rfl, trivial⟩, Gle.refl _, hS, hO, hnhs12_0, hs12_0⟩
         ·rintro s28 F w32 t31 ⟨Fb, G33, as28_0, ns28_0, cs28_0, clas28_0, rfl, leG33, hS, hO, hnhs28_0, hs28_0⟩
          intro H1 hqq30
          have Hoq30 := H; have H := H1
          unfold f78_b2 at H
          refine WC_seq ?_; refine WC_seq ?_; refine WC_region ?_; refine WL_val (rn_move (v := (.int .i64 s28.2)) rfl) rfl ?_; refine WL_val (rn_move (v := (.int .i64 x0)) rfl) rfl ?_; refine WL_val (rn_lss rfl rfl) rfl ?_; refine WL_nil ?_; refine WC_cond rfl (fun hb34 => ?_) (fun hb34 => ?_)
          ·have H := ifT hb34 H; refine WC_skip ?_; refine WC_seq ?_; refine WC_block ?_; refine WC_region ?_; refine WL_val (rn_move (v := (.slice as28_0 ns28_0 cs28_0)) rfl) rfl ?_; refine WL_val (rn_move (v := (.slice as4_0 ns4_0 cs4_0)) rfl) rfl ?_; refine WL_val (rn_move (v := (.int .i64 s12.2)) rfl) rfl ?_; obtain ⟨y35, hy35, H⟩ := bnd H
           have l2_4 := leG17.trans leG33
           refine WL_idx sl43 (hs4_0.mono (RSlice_mono RInt_mono) l2_4) hy35 rfl rfl rfl ?_
           rintro b36 o36 _ hcb36 _ ⟨a37, n37, c37, ⟨⟩, h37⟩
           refine WL_val (rn_load na22 rfl (hS.sat.cell (hcb36 0 _ rfl))) rfl ?_; have hO := hO.cons_nil 3 1; obtain ⟨y39, hy39, H⟩ := bnd H; refine WL_op rfl (OpP_append (k := 0) sl22 RInt_one hS hO rfl rfl (Rd.nil RInt 1 G33) h37 hy39 rfl rfl rfl rfl rfl (fun aw40 cw40 w40 clw40 hS hO hrw40 => ?_))
           have hO : Owns G33 w40 w0.heap.size ([⟨3, 1, y39.length, .slice aw40 y39.length cw40, clw40⟩, ⟨22, 1, ns28_0, .slice as28_0 ns28_0 cs28_0, clas28_0⟩]) := hO
           refine WL_val (rn_move (v := (.int .i64 s28.2)) rfl) rfl ?_
           refine WL_op rfl (OpP_newF (v := fun b => .slice (some ⟨b, 0, none⟩) 1 1) (cs := [.int .i64 s28.2]) (e := 3) (by kernel_rfl) hS.sat rfl (fun b41 G43 w42 hg hcb41 => ?_))
           have hS := hS.grow hg; have hO := hO.grow hg
           have leG43 := hg.le
           have hfb41 : RSl RInt 1 G43 (some ⟨b41, 0, none⟩) 1 1 [s28.2] := RSl.of_rd hcb41 (Rd.cons (c := [.int .i64 s28.2]) rfl rfl (Rd.nil RInt 1 _)) rfl (by decide)
           obtain ⟨y44, hy44, H⟩ := bnd H; refine WL_op rfl (OpP_append (k := 0) sl22 RInt_one hS hO rfl rfl (hrw40.mono RInt_mono leG43) hfb41 hy44 rfl rfl rfl rfl rfl (fun aw45 cw45 w45 clw45 hS hO hrw45 => ?_))
           have hO : Owns G43 w45 w0.heap.size ([⟨3, 1, y44.length, .slice aw45 y44.length cw45, clw45⟩, ⟨22, 1, ns28_0, .slice as28_0 ns28_0 cs28_0, clas28_0⟩]) := hO
           obtain ⟨G46, leG46, hS, hO, hfG46⟩ := hO.freezeS hS RInt_mono (k := 0) rfl hrw45 rfl
           refine WL_op rfl (OpP_newF (v := fun b => .slice (some ⟨b, 0, none⟩) 1 1) (cs := [.slice aw45 y44.length cw45]) (e := 22) (by kernel_rfl) hS.sat rfl (fun b47 G49 w48 hg hcb47 => ?_))
           have hS := hS.grow hg; have hO := hO.grow hg
           have leG49 := hg.le
           have hfb47 : RSl (RSlice RInt 1) 1 G49 (some ⟨b47, 0, none⟩) 1 1 [y44] := RSl.of_rd hcb47 (Rd.cons (c := [.slice aw45 y44.length cw45]) rfl ⟨_, _, _, rfl, (hfG46.mono RInt_mono leG49)⟩ (Rd.nil (RSlice RInt 1) 1 _)) rfl (by decide)
           obtain ⟨y50, hy50, H⟩ := bnd H
           have l4_7 := (leG43.trans leG46).trans leG49
           refine WL_op rfl (OpP_append (k := 0) sl43 (RSlice_one RInt 1) hS hO rfl hnhs28_0 (hs28_0.mono (RSlice_mono RInt_mono) l4_7) hfb47 hy50 rfl rfl rfl rfl rfl (fun aw51 cw51 w51 clw51 hS hO hrw51 => ?_))
           have hO : Owns G49 w51 w0.heap.size ([⟨22, 1, y50.length, .slice aw51 y50.length cw51, clw51⟩]) := hO
           refine WL_val (rn_assign (v := (.slice aw51 y50.length cw51)) rfl) rfl ?_; refine WL_nil ?_; refine WC_region ?_; refine WL_val (rn_move (v := (.int .i64 s28.2)) rfl) rfl ?_; refine WL_val (rn_add rfl rfl) rfl ?_; refine WL_val (rn_assign (v := (.int .i64 (IntKind.i64.wrap (s28.2 + 1)))) rfl) rfl ?_; refine WL_nil ?_
           have hO : Owns G49 w51 w0.heap.size ([⟨22, 1, y50.length, .slice aw51 y50.length cw51, clw51⟩]) := hO
           have H := Option.some.inj H; subst H; refine ⟨_, rfl, ?_⟩
           have l3_7 := leG33.trans l4_7
           exact ⟨_, G49, aw51, y50.length, cw51, clw51, upds_self _ _ ⟨rfl, rfl, rfl, rfl, rfl, rfl, rfl, trivial⟩, l3_7, hS, hO, rfl, hrw51⟩
          ·have H := ifF hb34 H; refine WC_exit rfl ?_
           have hO : Owns G33 w32 w0.heap.size ([⟨22, 1, ns28_0, .slice as28_0 ns28_0 cs28_0, clas28_0⟩]) := hO
           have H := Option.some.inj H; subst H
           have hres := hqq30 _ rfl
           subst hres
           exact ⟨_, G33, as28_0, ns28_0, cs28_0, clas28_0, upds_self _ _ ⟨rfl, rfl, rfl, rfl, rfl, rfl, trivial⟩, leG33, hS, hO, hnhs28_0, hs28_0⟩
        ·rintro F w52 ⟨Fb, G53, aq30_0, nq30_0, cq30_0, claq30_0, rfl, leG53, hS, hO, hnhq30_0, hq30_0⟩
         refine WC_region ?_; refine WL_val (rn_move (v := (.int .i64 s12.2)) rfl) rfl ?_; refine WL_val (rn_add rfl rfl) rfl ?_; refine WL_val (rn_assign (v := (.int .i64 (IntKind.i64.wrap (s12.2 + 1)))) rfl) rfl ?_; refine WL_nil ?_
         have hO : Owns G53 w52 w0.heap.size ([⟨22, 1, nq30_0, .slice aq30_0 nq30_0 cq30_0, claq30_0⟩]) := hO
         have H := Option.some.inj H; subst H; refine ⟨_, rfl, ?_⟩
         have l2_4 := leG17.trans leG53
         exact ⟨_, G53, aq30_0, nq30_0, cq30_0, claq30_0, upds_self _ _ ⟨rfl, rfl, rfl, rfl, rfl, rfl, trivial⟩, l2_4, hS, hO, hnhq30_0, hq30_0⟩
      ·have H := ifF hb18 H; refine WC_exit rfl ?_
       have hO : Owns G17 w16 w0.heap.size ([⟨22, 1, ns12_0, .slice as12_0 ns12_0 cs12_0, clas12_0⟩]) := hO
       have H := Option.some.inj H; subst H
       have hres := hqq14 _ rfl
       subst hres
       exact ⟨_, G17, as12_0, ns12_0, cs12_0, clas12_0, upds_self _ _ ⟨rfl, rfl, rfl, rfl, trivial⟩, leG17, hS, hO, hnhs12_0, hs12_0⟩
    ·rintro F w54 ⟨Fb, G55, aq14_0, nq14_0, cq14_0, claq14_0, rfl, leG55, hS, hO, hnhq14_0, hq14_0⟩
     refine WC_region ?_; refine WL_val (rn_move (v := (.slice aq14_0 nq14_0 cq14_0)) rfl) rfl ?_; refine WL_val (rn_assign (v := (.slice aq14_0 nq14_0 cq14_0)) rfl) rfl ?_; refine WL_nil ?_; refine WC_region ?_; refine WL_val (rn_move (v := (.int .i64 s4.2)) rfl) rfl ?_; refine WL_val (rn_add rfl rfl) rfl ?_; refine WL_val (rn_assign (v := (.int .i64 (IntKind.i64.wrap (s4.2 + 1)))) rfl) rfl ?_; refine WL_nil ?_; obtain ⟨G56, leG56, hS, hO, hfG56⟩ := hO.freezeS hS (RSlice_mono RInt_mono) (k := 0) rfl hq14_0 hnhq14_0
     have hO : Owns G56 w54 w0.heap.size ([]) := hO
     have H := Option.some.inj H; subst H; refine ⟨_, rfl, ?_⟩
     have l1_4 := (leG9.trans leG55).trans leG56
     exact ⟨_, G56, aq14_0, nq14_0, cq14_0, upds_self _ _ ⟨rfl, rfl, rfl, rfl, trivial⟩, l1_4, hS, hO, hfG56⟩
   ·have H := ifF hb10 H; refine WC_exit rfl ?_
    have hO : Owns G9 w8 w0.heap.size ([]) := hO
    have H := Option.some.inj H; subst H
    have hres := hqq6 _ rfl
    subst hres
    exact ⟨_, G9, as4_0, ns4_0, cs4_0, upds_self _ _ ⟨rfl, trivial⟩, leG9, hS, hO, hs4_0⟩
 ·rintro F w57 ⟨Fb, G58, aq6_0, nq6_0, cq6_0, rfl, leG58, hS, hO, hq6_0⟩
  refine WC_seq ?_; refine WC_region ?_; refine WL_val (rn_move (v := (.slice aq6_0 nq6_0 cq6_0)) rfl) rfl ?_; refine WL_val (rn_assign (v := (.slice aq6_0 nq6_0 cq6_0)) rfl) rfl ?_; refine WL_nil ?_; refine WC_ret ?_
  have H : some q6 = some r := H
  have H := Option.some.inj H; subst H
  exact ⟨_, _, rfl, hS.toGrow, _, _, _, rfl, hq6_0⟩
set_option maxHeartbeats 1000000 in
theorem f57_ok {G0 : Gm} {w0 : World} (hS0 : Sat G0 w0) {x0 : TShipStore} {a1 : Option Addr} {n1 c1 : Nat} {a2 : Option Addr} {n2 c2 : Nat} {a3 : Option Addr} {n3 c3 : Nat} {x1 : (List Int)} {a4 : Option Addr} {n4 c4 : Nat} {x2 : Int} (h1 : RSl RInt 1 G0 a1 n1 c1 x0.Stock) (h2 : RSl RTSpan 2 G0 a2 n2 c2 x0.Use) (h3 : RSl RTShipLot 3 G0 a3 n3 c3 x0.Lots) (h4 : RSl RInt 1 G0 a4 n4 c4 x1) {r : (List TShipWant)} (H : f57 x0 x1 x2 = some r) :
  Calls Try.prog 57 #[.agg #[.slice a1 n1 c1, .slice a2 n2 c2, .int .i64 x0.Gap.Low, .int .i64 x0.Gap.High, .slice a3 n3 c3, .int .i64 x0.Hold], .slice a4 n4 c4, .int .i64 x2] w0 (RetG G0 w0 (fun G v => ∃ (ra0 : Option Addr) (rn0 rc0 : Nat), v = .slice ra0 rn0 rc0 ∧ RSl RTShipWant 2 G ra0 rn0 rc0 r)) := by
 have hS := Since.start hS0
 have hO : Owns G0 w0 w0.heap.size [] := Owns.nil (Nat.le_refl _)
 unfold f57 at H
 refine enter1 (N := 49) (shutG _ _ _) Try.func57 rfl rfl rfl rfl ?_; refine WC_seq ?_; refine WC_region ?_; refine WL_op rfl (OpP_newF (v := fun b => .pointer (some ⟨b, 0, none⟩)) (cs := [.slice a1 n1 c1, .slice a2 n2 c2, .int .i64 x0.Gap.Low, .int .i64 x0.Gap.High, .slice a3 n3 c3, .int .i64 x0.Hold]) (e := 42) (rn_boxA rfl) hS.sat rfl (fun b5 G7 w6 hg hcb5 => ?_)); have hS := hS.grow hg; have hO := hO.grow hg
 have leG7 := hg.le
 refine WL_val (rn_assign (v := (.slice none 0 0)) rfl) rfl ?_; refine WL_nil ?_; refine WC_seq ?_; refine WC_region ?_; refine WL_val (rn_assign (v := (.slice none 0 0)) rfl) rfl ?_; refine WL_nil ?_; refine WC_seq ?_; refine WC_seq ?_; refine WC_region ?_; refine WL_val (rn_assign (v := (.int .i64 0)) rfl) rfl ?_; refine WL_nil ?_; have hO := hO.cons_nil 59 2; obtain ⟨q11, hq11, H⟩ := bnd H; refine WC_cut (fun F w => ∃ (Fb : Fr) (G : Gm) (aq11_0 : Option Addr) (nq11_0 cq11_0 : Nat) (claq11_0 : List Value), F = upds Fb [(7, .slice aq11_0 nq11_0 cq11_0)] ∧ Gle G7 G ∧ Since w0.heap.size G0 w0 G w ∧ Owns G w w0.heap.size [⟨59, 2, nq11_0, .slice aq11_0 nq11_0 cq11_0, claq11_0⟩] ∧ nq11_0 = q11.length ∧ Rd RTShipWant 2 G claq11_0 q11) ?_ ?_
 ·refine WC_block (WC_loop hq11 (fun s9 F w => ∃ (Fb : Fr) (G : Gm) (as9_0 : Option Addr) (ns9_0 cs9_0 : Nat) (clas9_0 : List Value), F = upds Fb [(1, .slice a4 n4 c4), (2, .int .i64 x2), (3, .pointer (some ⟨b5, 0, none⟩)), (7, .slice as9_0 ns9_0 cs9_0), (8, .int .i64 s9.2)] ∧ Gle G7 G ∧ Since w0.heap.size G0 w0 G w ∧ Owns G w w0.heap.size [⟨59, 2, ns9_0, .slice as9_0 ns9_0 cs9_0, clas9_0⟩] ∧ ns9_0 = s9.1.length ∧ Rd RTShipWant 2 G clas9_0 s9.1) ?_ ?_)
  ·have hO : Owns G7 w6 w0.heap.size ([⟨59, 2, 0, .slice none 0 0, []⟩]) := hO
   exact ⟨_, G7, none, 0, 0, [], upds_self _ _ ⟨rfl, rfl, rfl, rfl, rfl, trivial⟩, Gle.refl _, hS, hO, rfl, (Rd.nil RTShipWant 2 G7)⟩
  ·rintro s9 F w13 t12 ⟨Fb, G14, as9_0, ns9_0, cs9_0, clas9_0, rfl, leG14, hS, hO, hnhs9_0, hs9_0⟩
   intro H1 hqq11
   have Hoq11 := H; have H := H1
   unfold f57_b0 at H
   refine WC_seq ?_; refine WC_seq ?_; refine WC_region ?_; refine WL_val (rn_move (v := (.int .i64 s9.2)) rfl) rfl ?_; refine WL_val (rn_fld fd42_0 rfl) rfl ?_; refine WL_val (rn_load na22 rfl ((hS.sat.le leG14).cell (hcb5 0 _ rfl))) rfl ?_
   have l0_2 := leG7.trans leG14
   refine WL_val (rn_len sl22 rfl rfl (h1.mono RInt_mono l0_2).1) rfl ?_; refine WL_val (rn_lss rfl rfl) rfl ?_; refine WL_nil ?_; refine WC_cond rfl (fun hb15 => ?_) (fun hb15 => ?_)
   ·have H := ifT hb15 H; refine WC_skip ?_; refine WC_seq ?_; refine WC_block ?_; refine WC_seq ?_; have hS := hS.keep (below_drew _); have hO := hO.below (below_drew _)
    refine WC_regionD mixedO (fun _ w => Sat G14 w ∧ Owns G14 w w0.heap.size [⟨59, 2, ns9_0, .slice as9_0 ns9_0 cs9_0, clas9_0⟩]) (.fl 0 (.fl 1 (.fl 2 (.fl 3 (.fl 4 (.fl 6 (.on 5 (.on 7 (.on 8 (.fl 9 (.fl 10 (.on 11 (.on 12 .nil))))))))))))) (by kernel_rfl) rfl (by kernel_rfl) (fun _ => ⟨hS.sat, hO⟩) ?_
    refine WD_val rfl (fun w hw => rn_loadA ag42 (cs := [.slice a1 n1 c1, .slice a2 n2 c2, .int .i64 x0.Gap.Low, .int .i64 x0.Gap.High, .slice a3 n3 c3, .int .i64 x0.Hold]) rfl rfl (fun j v hj => (hw.1.le leG14).cell (hcb5.drop_take 0 6 j v hj))) rfl ?_; refine WD_val rfl (fun w hw => rn_move (v := (.slice a4 n4 c4)) rfl) rfl ?_; refine WD_val rfl (fun w hw => rn_move (v := (.int .i64 x2)) rfl) rfl ?_; refine WD_val rfl (fun w hw => rn_loadA ag42 (cs := [.slice a1 n1 c1, .slice a2 n2 c2, .int .i64 x0.Gap.Low, .int .i64 x0.Gap.High, .slice a3 n3 c3, .int .i64 x0.Hold]) rfl rfl (fun j v hj => (hw.1.le leG14).cell (hcb5.drop_take 0 6 j v hj))) rfl ?_; refine WD_val rfl (fun w hw => rn_move (v := (.int .i64 x2)) rfl) rfl ?_; refine WD_val rfl (fun w hw => rn_move (v := (.int .i64 s9.2)) rfl) rfl ?_; obtain ⟨y16, hy16, H⟩ := bnd H; refine WD_op rfl rfl (OpP_callG cb31 (f31_ok (x0 := x0) (x1 := x2) (x2 := true) hS.sat (h1.mono RInt_mono l0_2) (h2.mono RTSpan_mono l0_2) (h3.mono RTShipLot_mono l0_2) hy16) rfl rfl (fun vy16 G18 w17 hg hvy16 => ?_)); obtain ⟨a19, n19, c19, a20, n20, c20, a21, n21, c21, ⟨⟩, h19, h20, h21⟩ := hvy16; have hS := hS.grow hg; have hO := hO.grow hg
    have leG18 := hg.le
    refine ⟨fun _ _ => ⟨hS.sat.le leG18, hO.le leG18⟩, ?_⟩; obtain ⟨y22, hy22, H⟩ := bnd H
    have l0_3 := l0_2.trans leG18
    refine WD_op rfl rfl (OpP_callV cb29 (f29_ok (x0 := x0) (x1 := x1) (x2 := x2) (x3 := y16) (x4 := s9.2) (x5 := 1000) hS.sat (h1.mono RInt_mono l0_3) (h2.mono RTSpan_mono l0_3) (h3.mono RTShipLot_mono l0_3) (h4.mono RInt_mono l0_3) h19 h20 h21 hy22) rfl rfl (fun w23 hb => ?_)); have hS := hS.keep hb; have hO := hO.below hb; refine ⟨fun _ _ => ⟨hS.sat.le leG18, hO.le leG18⟩, ?_⟩; refine WD_op rfl rfl (OpP_val (rn_move (v := (.tuple #[.int .i64 y22.1, .int .i64 y22.2])) rfl) rfl ?_); refine ⟨fun _ _ => ⟨hS.sat.le leG18, hO.le leG18⟩, ?_⟩; refine WD_val rfl (fun w hw => rn_extract (v := (.int .i64 y22.1)) rfl rfl) rfl ?_; refine WD_val rfl (fun w hw => rn_extract (v := (.int .i64 y22.2)) rfl rfl) rfl ?_; refine WD_op rfl rfl (OpP_val (rn_assign (v := (.int .i64 y22.1)) rfl) rfl ?_); refine ⟨fun _ _ => ⟨hS.sat.le leG18, hO.le leG18⟩, ?_⟩; refine WD_op rfl rfl (OpP_val (rn_assign (v := (.int .i64 y22.2)) rfl) rfl ?_)
    refine ⟨fun _ h => noneed (by kernel_rfl) h, ?_⟩
    refine WD_nil ?_; refine WC_seq ?_; have hS := hS.keep (below_drew _); have hO := hO.below (below_drew _)
    refine WC_regionD mixedO (fun _ w => Sat G18 w ∧ Owns G18 w w0.heap.size [⟨59, 2, ns9_0, .slice as9_0 ns9_0 cs9_0, clas9_0⟩]) (.fl 0 (.fl 1 (.fl 2 (.fl 3 (.fl 4 (.fl 6 (.on 5 (.on 7 (.on 8 (.fl 9 (.fl 10 (.on 11 (.on 12 .nil))))))))))))) (by kernel_rfl) rfl (by kernel_rfl) (fun _ => ⟨hS.sat, hO⟩) ?_
    refine WD_val rfl (fun w hw => rn_loadA ag42 (cs := [.slice a1 n1 c1, .slice a2 n2 c2, .int .i64 x0.Gap.Low, .int .i64 x0.Gap.High, .slice a3 n3 c3, .int .i64 x0.Hold]) rfl rfl (fun j v hj => (hw.1.le (leG14.trans leG18)).cell (hcb5.drop_take 0 6 j v hj))) rfl ?_; refine WD_val rfl (fun w hw => rn_move (v := (.slice a4 n4 c4)) rfl) rfl ?_; refine WD_val rfl (fun w hw => rn_move (v := (.int .i64 x2)) rfl) rfl ?_; refine WD_val rfl (fun w hw => rn_loadA ag42 (cs := [.slice a1 n1 c1, .slice a2 n2 c2, .int .i64 x0.Gap.Low, .int .i64 x0.Gap.High, .slice a3 n3 c3, .int .i64 x0.Hold]) rfl rfl (fun j v hj => (hw.1.le (leG14.trans leG18)).cell (hcb5.drop_take 0 6 j v hj))) rfl ?_; refine WD_val rfl (fun w hw => rn_move (v := (.int .i64 x2)) rfl) rfl ?_; refine WD_val rfl (fun w hw => rn_move (v := (.int .i64 s9.2)) rfl) rfl ?_; obtain ⟨y24, hy24, H⟩ := bnd H; refine WD_op rfl rfl (OpP_callG cb31 (f31_ok (x0 := x0) (x1 := x2) (x2 := false) hS.sat (h1.mono RInt_mono l0_3) (h2.mono RTSpan_mono l0_3) (h3.mono RTShipLot_mono l0_3) hy24) rfl rfl (fun vy24 G26 w25 hg hvy24 => ?_)); obtain ⟨a27, n27, c27, a28, n28, c28, a29, n29, c29, ⟨⟩, h27, h28, h29⟩ := hvy24; have hS := hS.grow hg; have hO := hO.grow hg
    have leG26 := hg.le
    refine ⟨fun _ _ => ⟨hS.sat.le leG26, hO.le leG26⟩, ?_⟩; obtain ⟨y30, hy30, H⟩ := bnd H
    have l0_4 := l0_3.trans leG26
    refine WD_op rfl rfl (OpP_callV cb29 (f29_ok (x0 := x0) (x1 := x1) (x2 := x2) (x3 := y24) (x4 := s9.2) (x5 := 1000) hS.sat (h1.mono RInt_mono l0_4) (h2.mono RTSpan_mono l0_4) (h3.mono RTShipLot_mono l0_4) (h4.mono RInt_mono l0_4) h27 h28 h29 hy30) rfl rfl (fun w31 hb => ?_)); have hS := hS.keep hb; have hO := hO.below hb; refine ⟨fun _ _ => ⟨hS.sat.le leG26, hO.le leG26⟩, ?_⟩; refine WD_op rfl rfl (OpP_val (rn_move (v := (.tuple #[.int .i64 y30.1, .int .i64 y30.2])) rfl) rfl ?_); refine ⟨fun _ _ => ⟨hS.sat.le leG26, hO.le leG26⟩, ?_⟩; refine WD_val rfl (fun w hw => rn_extract (v := (.int .i64 y30.1)) rfl rfl) rfl ?_; refine WD_val rfl (fun w hw => rn_extract (v := (.int .i64 y30.2)) rfl rfl) rfl ?_; refine WD_op rfl rfl (OpP_val (rn_assign (v := (.int .i64 y30.1)) rfl) rfl ?_); refine ⟨fun _ _ => ⟨hS.sat.le leG26, hO.le leG26⟩, ?_⟩; refine WD_op rfl rfl (OpP_val (rn_assign (v := (.int .i64 y30.2)) rfl) rfl ?_)
    refine ⟨fun _ h => noneed (by kernel_rfl) h, ?_⟩
    refine WD_nil ?_; refine WC_region ?_; refine WL_val (rn_move (v := (.slice as9_0 ns9_0 cs9_0)) rfl) rfl ?_; refine WL_val (rn_move (v := (.int .i64 y22.1)) rfl) rfl ?_; refine WL_val (rn_move (v := (.int .i64 y30.1)) rfl) rfl ?_
    refine WL_val (v := (.agg #[.int .i64 y22.1, .int .i64 y30.1])) (by kernel_rfl) rfl ?_
    refine WL_op rfl (OpP_newF (v := fun b => .slice (some ⟨b, 0, none⟩) 1 1) (cs := [.int .i64 y22.1, .int .i64 y30.1]) (e := 59) (by kernel_rfl) hS.sat rfl (fun b32 G34 w33 hg hcb32 => ?_))
    have hS := hS.grow hg; have hO := hO.grow hg
    have leG34 := hg.le
    have hfb32 : RSl RTShipWant 2 G34 (some ⟨b32, 0, none⟩) 1 1 [(⟨y22.1, y30.1⟩ : TShipWant)] := RSl.of_rd hcb32 (Rd.cons (c := [.int .i64 y22.1, .int .i64 y30.1]) rfl rfl (Rd.nil RTShipWant 2 _)) rfl (by decide)
    obtain ⟨y35, hy35, H⟩ := bnd H
    have l2_5 := (leG18.trans leG26).trans leG34
    refine WL_op rfl (OpP_append (k := 0) sl55 RTShipWant_one hS hO rfl hnhs9_0 (hs9_0.mono RTShipWant_mono l2_5) hfb32 hy35 rfl rfl rfl rfl rfl (fun aw36 cw36 w36 clw36 hS hO hrw36 => ?_))
    have hO : Owns G34 w36 w0.heap.size ([⟨59, 2, y35.length, .slice aw36 y35.length cw36, clw36⟩]) := hO
    refine WL_val (rn_assign (v := (.slice aw36 y35.length cw36)) rfl) rfl ?_; refine WL_nil ?_; refine WC_region ?_; refine WL_val (rn_move (v := (.int .i64 s9.2)) rfl) rfl ?_; refine WL_val (rn_add rfl rfl) rfl ?_; refine WL_val (rn_assign (v := (.int .i64 (IntKind.i64.wrap (s9.2 + 1)))) rfl) rfl ?_; refine WL_nil ?_
    have hO : Owns G34 w36 w0.heap.size ([⟨59, 2, y35.length, .slice aw36 y35.length cw36, clw36⟩]) := hO
    have H := Option.some.inj H; subst H; refine ⟨_, rfl, ?_⟩
    have l1_5 := leG14.trans l2_5
    exact ⟨_, G34, aw36, y35.length, cw36, clw36, upds_self _ _ ⟨rfl, rfl, rfl, rfl, rfl, trivial⟩, l1_5, hS, hO, rfl, hrw36⟩
   ·have H := ifF hb15 H; refine WC_exit rfl ?_
    have hO : Owns G14 w13 w0.heap.size ([⟨59, 2, ns9_0, .slice as9_0 ns9_0 cs9_0, clas9_0⟩]) := hO
    have H := Option.some.inj H; subst H
    have hres := hqq11 _ rfl
    subst hres
    exact ⟨_, G14, as9_0, ns9_0, cs9_0, clas9_0, upds_self _ _ ⟨rfl, trivial⟩, leG14, hS, hO, hnhs9_0, hs9_0⟩
 ·rintro F w37 ⟨Fb, G38, aq11_0, nq11_0, cq11_0, claq11_0, rfl, leG38, hS, hO, hnhq11_0, hq11_0⟩
  refine WC_seq ?_; refine WC_region ?_; refine WL_val (rn_move (v := (.slice aq11_0 nq11_0 cq11_0)) rfl) rfl ?_; refine WL_val (rn_assign (v := (.slice aq11_0 nq11_0 cq11_0)) rfl) rfl ?_; refine WL_nil ?_; refine WC_ret ?_; obtain ⟨G39, leG39, hS, hO, hfG39⟩ := hO.freezeS hS RTShipWant_mono (k := 0) rfl hq11_0 hnhq11_0
  have H : some q11 = some r := H
  have H := Option.some.inj H; subst H
  exact ⟨_, _, rfl, hS.toGrow, _, _, _, rfl, hfG39⟩
set_option maxHeartbeats 1000000 in
theorem f79_ok {G0 : Gm} {w0 : World} (hS0 : Sat G0 w0) {x0 : TShipStore} {a1 : Option Addr} {n1 c1 : Nat} {a2 : Option Addr} {n2 c2 : Nat} {a3 : Option Addr} {n3 c3 : Nat} {x1 : (List Int)} {a4 : Option Addr} {n4 c4 : Nat} {x2 : Int} (h1 : RSl RInt 1 G0 a1 n1 c1 x0.Stock) (h2 : RSl RTSpan 2 G0 a2 n2 c2 x0.Use) (h3 : RSl RTShipLot 3 G0 a3 n3 c3 x0.Lots) (h4 : RSl RInt 1 G0 a4 n4 c4 x1) {r : Bool} (H : f79 x0 x1 x2 = some r) :
  Calls Try.prog 79 #[.agg #[.slice a1 n1 c1, .slice a2 n2 c2, .int .i64 x0.Gap.Low, .int .i64 x0.Gap.High, .slice a3 n3 c3, .int .i64 x0.Hold], .slice a4 n4 c4, .int .i64 x2] w0 (RetV w0 (.bool r)) := by
 have hS := Since.start hS0
 have hO : Owns G0 w0 w0.heap.size [] := Owns.nil (Nat.le_refl _)
 unfold f79 at H
 refine enter1 (N := 25) (shutV _ _) Try.func79 rfl rfl rfl rfl ?_; refine WC_seq ?_; refine WC_region ?_; refine WL_op rfl (OpP_newF (v := fun b => .pointer (some ⟨b, 0, none⟩)) (cs := [.slice a1 n1 c1, .slice a2 n2 c2, .int .i64 x0.Gap.Low, .int .i64 x0.Gap.High, .slice a3 n3 c3, .int .i64 x0.Hold]) (e := 42) (rn_boxA rfl) hS.sat rfl (fun b5 G7 w6 hg hcb5 => ?_)); have hS := hS.grow hg; have hO := hO.grow hg
 have leG7 := hg.le
 refine WL_val (rn_assign (v := (.bool false)) rfl) rfl ?_; refine WL_nil ?_; refine WC_seq ?_; refine WC_region ?_; refine WL_val (rn_loadA ag42 (cs := [.slice a1 n1 c1, .slice a2 n2 c2, .int .i64 x0.Gap.Low, .int .i64 x0.Gap.High, .slice a3 n3 c3, .int .i64 x0.Hold]) rfl rfl (fun j v hj => hS.sat.cell (hcb5.drop_take 0 6 j v hj))) rfl ?_; refine WL_val (rn_move (v := (.slice a4 n4 c4)) rfl) rfl ?_; refine WL_val (rn_move (v := (.int .i64 x2)) rfl) rfl ?_; obtain ⟨y8, hy8, H⟩ := bnd H; refine WL_op rfl (OpP_callG cb57 (f57_ok (x0 := x0) (x1 := x1) (x2 := x2) hS.sat (h1.mono RInt_mono leG7) (h2.mono RTSpan_mono leG7) (h3.mono RTShipLot_mono leG7) (h4.mono RInt_mono leG7) hy8) rfl rfl (fun vy8 G10 w9 hg hvy8 => ?_)); obtain ⟨a11, n11, c11, ⟨⟩, h11⟩ := hvy8; have hS := hS.grow hg; have hO := hO.grow hg
 have leG10 := hg.le
 refine WL_val (rn_assign (v := (.slice a11 n11 c11)) rfl) rfl ?_; refine WL_nil ?_; refine WC_seq ?_; refine WC_seq ?_; refine WC_region ?_; refine WL_val (rn_assign (v := (.int .i64 0)) rfl) rfl ?_; refine WL_nil ?_; obtain ⟨q14, hq14, H⟩ := bnd H; refine WC_cut (fun F w => ∃ (p13 : Unit) (Fb : Fr), q14 = .inl p13 ∧ F = upds Fb [] ∧ w9 = w) ?_ ?_
 ·refine WC_block (WC_loop hq14 (fun s12 F w => ∃ (Fb : Fr), F = upds Fb [(7, .slice a11 n11 c11), (8, .int .i64 s12)] ∧ w9 = w) ?_ ?_)
  ·exact ⟨_, upds_self _ _ ⟨rfl, rfl, trivial⟩, rfl⟩
  ·rintro s12 F wl t15 ⟨Fb, rfl, rfl⟩
   intro H1 hqq14
   have Hoq14 := H; have H := H1
   unfold f79_b0 at H
   refine WC_seq ?_; refine WC_seq ?_; refine WC_region ?_; refine WL_val (rn_move (v := (.int .i64 s12)) rfl) rfl ?_; refine WL_val (rn_move (v := (.slice a11 n11 c11)) rfl) rfl ?_; refine WL_val (rn_len sl55 rfl rfl h11.1) rfl ?_; refine WL_val (rn_lss rfl rfl) rfl ?_; refine WL_nil ?_; refine WC_cond rfl (fun hb18 => ?_) (fun hb18 => ?_)
   ·have H := ifT hb18 H; refine WC_skip ?_; refine WC_seq ?_; refine WC_block ?_; refine WC_seq ?_; refine WC_region ?_; refine WL_val (rn_move (v := (.slice a11 n11 c11)) rfl) rfl ?_; refine WL_val (rn_move (v := (.int .i64 s12)) rfl) rfl ?_; obtain ⟨y19, hy19, H⟩ := bnd H; refine WL_idx sl55 h11 hy19 rfl rfl rfl ?_
    rintro b20 o20 _ hcb20 _ ⟨⟩
    refine WL_val (rn_fld fd59_0 rfl) rfl ?_; refine WL_val (rn_load na3 rfl (hS.sat.cell (hcb20 0 _ rfl))) rfl ?_; refine WL_val (rn_geq rfl rfl) rfl ?_; refine WL_nil ?_; refine WC_cond rfl (fun hb21 => ?_) (fun hb21 => ?_)
    ·have H := ifT hb21 H; refine WC_seq ?_; refine WC_region ?_; refine WL_val (rn_assign (v := (.bool false)) rfl) rfl ?_; refine WL_nil ?_; refine WC_ret ?_; have H := Option.some.inj H; subst H
     have hres := hqq14 _ rfl
     subst hres; have H := Hoq14
     have H : some false = some r := H
     have H := Option.some.inj H; subst H
     exact ⟨rfl, hS.below⟩
    ·have H := ifF hb21 H; refine WC_skip ?_; refine WC_region ?_; refine WL_val (rn_move (v := (.int .i64 s12)) rfl) rfl ?_; refine WL_val (rn_add rfl rfl) rfl ?_; refine WL_val (rn_assign (v := (.int .i64 (IntKind.i64.wrap (s12 + 1)))) rfl) rfl ?_; refine WL_nil ?_; have H := Option.some.inj H; subst H; refine ⟨_, rfl, ?_⟩
     exact ⟨_, upds_self _ _ ⟨rfl, rfl, trivial⟩, rfl⟩
   ·have H := ifF hb18 H; refine WC_exit rfl ?_; have H := Option.some.inj H; subst H
    have hres := hqq14 _ rfl
    subst hres
    exact ⟨_, _, rfl, rfl, rfl⟩
 ·rintro F wl ⟨p13, Fb, rfl, rfl, rfl⟩
  refine WC_seq ?_; refine WC_region ?_; refine WL_val (rn_assign (v := (.bool true)) rfl) rfl ?_; refine WL_nil ?_; refine WC_ret ?_
  have H : some true = some r := H
  have H := Option.some.inj H; subst H
  exact ⟨rfl, hS.below⟩
set_option maxHeartbeats 1000000 in
theorem f38_ok {G0 : Gm} {w0 : World} (hS0 : Sat G0 w0) {x0 : TShipStore} {a1 : Option Addr} {n1 c1 : Nat} {a2 : Option Addr} {n2 c2 : Nat} {a3 : Option Addr} {n3 c3 : Nat} {x1 : Int} (h1 : RSl RInt 1 G0 a1 n1 c1 x0.Stock) (h2 : RSl RTSpan 2 G0 a2 n2 c2 x0.Use) (h3 : RSl RTShipLot 3 G0 a3 n3 c3 x0.Lots) {r : (List Int) × Bool} (H : f38 x0 x1 = some r) :
  Calls Try.prog 38 #[.agg #[.slice a1 n1 c1, .slice a2 n2 c2, .int .i64 x0.Gap.Low, .int .i64 x0.Gap.High, .slice a3 n3 c3, .int .i64 x0.Hold], .int .i64 x1] w0 (RetG G0 w0 (fun G v => ∃ (ra0 : Option Addr) (rn0 rc0 : Nat), v = .tuple #[.slice ra0 rn0 rc0, .bool r.2] ∧ RSl RInt 1 G ra0 rn0 rc0 r.1)) := by
 have hS := Since.start hS0
 have hO : Owns G0 w0 w0.heap.size [] := Owns.nil (Nat.le_refl _)
 unfold f38 at H
 refine enter2 (N := 66) (shutG _ _ _) Try.func38 rfl rfl rfl rfl ?_; refine WC_seq ?_; refine WC_region ?_; refine WL_op rfl (OpP_newF (v := fun b => .pointer (some ⟨b, 0, none⟩)) (cs := [.slice a1 n1 c1, .slice a2 n2 c2, .int .i64 x0.Gap.Low, .int .i64 x0.Gap.High, .slice a3 n3 c3, .int .i64 x0.Hold]) (e := 42) (rn_boxA rfl) hS.sat rfl (fun b4 G6 w5 hg hcb4 => ?_)); have hS := hS.grow hg; have hO := hO.grow hg
 have leG6 := hg.le
 refine WL_val (rn_assign (v := (.slice none 0 0)) rfl) rfl ?_; refine WL_val (rn_assign (v := (.bool false)) rfl) rfl ?_; refine WL_nil ?_; refine WC_seq ?_; refine WC_region ?_; refine WL_val (rn_assign (v := (.slice none 0 0)) rfl) rfl ?_; refine WL_nil ?_; refine WC_seq ?_; refine WC_region ?_; refine WL_val (rn_assign (v := (.bool false)) rfl) rfl ?_; refine WL_nil ?_; refine WC_seq ?_; refine WC_seq ?_; refine WC_region ?_; refine WL_val (rn_assign (v := (.int .i64 0)) rfl) rfl ?_; refine WL_nil ?_; obtain ⟨q9, hq9, H⟩ := bnd H; refine WC_cut (fun F w => ∃ (Fb : Fr) (G : Gm) (aq9_0 : Option Addr) (nq9_0 cq9_0 : Nat), F = upds Fb [(6, .slice aq9_0 nq9_0 cq9_0), (7, .bool q9.2)] ∧ Gle G6 G ∧ Since w0.heap.size G0 w0 G w ∧ Owns G w w0.heap.size [] ∧ RSl RInt 1 G aq9_0 nq9_0 cq9_0 q9.1) ?_ ?_
 ·refine WC_block (WC_loop hq9 (fun s7 F w => ∃ (Fb : Fr) (G : Gm) (as7_0 : Option Addr) (ns7_0 cs7_0 : Nat), F = upds Fb [(1, .int .i64 x1), (2, .pointer (some ⟨b4, 0, none⟩)), (6, .slice as7_0 ns7_0 cs7_0), (7, .bool s7.2.1), (8, .int .i64 s7.2.2)] ∧ Gle G6 G ∧ Since w0.heap.size G0 w0 G w ∧ Owns G w w0.heap.size [] ∧ RSl RInt 1 G as7_0 ns7_0 cs7_0 s7.1) ?_ ?_)
  ·have hO : Owns G6 w5 w0.heap.size ([]) := hO
   exact ⟨_, G6, none, 0, 0, upds_self _ _ ⟨rfl, rfl, rfl, rfl, rfl, trivial⟩, Gle.refl _, hS, hO, (RSl.nil _ _ _ _)⟩
  ·rintro s7 F w11 t10 ⟨Fb, G12, as7_0, ns7_0, cs7_0, rfl, leG12, hS, hO, hs7_0⟩
   intro H1 hqq9
   have Hoq9 := H; have H := H1
   unfold f38_b0 at H
   refine WC_seq ?_; refine WC_seq ?_; refine WC_region ?_; refine WL_val (rn_move (v := (.int .i64 s7.2.2)) rfl) rfl ?_; refine WL_val (rn_fld fd42_3 rfl) rfl ?_; refine WL_val (rn_load na40 rfl ((hS.sat.le leG12).cell (hcb4 4 _ rfl))) rfl ?_
   have l0_2 := leG6.trans leG12
   refine WL_val (rn_len sl40 rfl rfl (h3.mono RTShipLot_mono l0_2).1) rfl ?_; refine WL_val (rn_leq rfl rfl) rfl ?_; refine WL_nil ?_; refine WC_cond rfl (fun hb13 => ?_) (fun hb13 => ?_)
   ·have H := ifT hb13 H; refine WC_skip ?_; refine WC_seq ?_; refine WC_block ?_; refine WC_seq ?_; refine WC_region ?_; refine WL_val (rn_fld fd42_3 rfl) rfl ?_; refine WL_val (rn_load na40 rfl ((hS.sat.le leG12).cell (hcb4 4 _ rfl))) rfl ?_; refine WL_val (rn_len sl40 rfl rfl (h3.mono RTShipLot_mono l0_2).1) rfl ?_; refine WL_val (rn_move (v := (.int .i64 s7.2.2)) rfl) rfl ?_; obtain ⟨y14, hy14, H⟩ := bnd H; refine WL_op rfl (OpP_callG cb78 (f78_ok (x0 := (x0.Lots.length : Int)) (x1 := s7.2.2) hS.sat  hy14) rfl rfl (fun vy14 G16 w15 hg hvy14 => ?_)); obtain ⟨a17, n17, c17, ⟨⟩, h17⟩ := hvy14; have hS := hS.grow hg; have hO := hO.grow hg
    have leG16 := hg.le
    refine WL_val (rn_assign (v := (.slice a17 n17 c17)) rfl) rfl ?_; refine WL_nil ?_; refine WC_seq ?_; refine WC_region ?_; refine WL_val (rn_assign (v := (.int .i64 0)) rfl) rfl ?_; refine WL_nil ?_; obtain ⟨q20, hq20, H⟩ := bnd H; refine WC_cut (fun F w => ∃ (Fb : Fr) (G : Gm) (aq20_0 : Option Addr) (nq20_0 cq20_0 : Nat), F = upds Fb [(1, .int .i64 x1), (2, .pointer (some ⟨b4, 0, none⟩)), (6, .slice aq20_0 nq20_0 cq20_0), (7, .bool q20.2), (8, .int .i64 s7.2.2)] ∧ Gle G16 G ∧ Since w0.heap.size G0 w0 G w ∧ Owns G w w0.heap.size [] ∧ RSl RInt 1 G aq20_0 nq20_0 cq20_0 q20.1) ?_ ?_
    ·refine WC_block (WC_loop hq20 (fun s18 F w => ∃ (Fb : Fr) (G : Gm) (as18_0 : Option Addr) (ns18_0 cs18_0 : Nat), F = upds Fb [(1, .int .i64 x1), (2, .pointer (some ⟨b4, 0, none⟩)), (6, .slice as18_0 ns18_0 cs18_0), (7, .bool s18.2.1), (8, .int .i64 s7.2.2), (9, .slice a17 n17 c17), (10, .int .i64 s18.2.2)] ∧ Gle G16 G ∧ Since w0.heap.size G0 w0 G w ∧ Owns G w w0.heap.size [] ∧ RSl RInt 1 G as18_0 ns18_0 cs18_0 s18.1) ?_ ?_)
     ·have hO : Owns G16 w15 w0.heap.size ([]) := hO
      exact ⟨_, G16, as7_0, ns7_0, cs7_0, upds_self _ _ ⟨rfl, rfl, rfl, rfl, rfl, rfl, rfl, trivial⟩, Gle.refl _, hS, hO, (hs7_0.mono RInt_mono leG16)⟩
     ·rintro s18 F w22 t21 ⟨Fb, G23, as18_0, ns18_0, cs18_0, rfl, leG23, hS, hO, hs18_0⟩
      intro H1 hqq20
      have Hoq20 := H; have H := H1
      unfold f38_b1 at H
      refine WC_seq ?_; refine WC_seq ?_; refine WC_region ?_; refine WL_val (rn_move (v := (.int .i64 s18.2.2)) rfl) rfl ?_; refine WL_val (rn_move (v := (.slice a17 n17 c17)) rfl) rfl ?_; refine WL_val (rn_len sl43 rfl rfl (h17.mono (RSlice_mono RInt_mono) leG23).1) rfl ?_; refine WL_val (rn_lss rfl rfl) rfl ?_; refine WL_nil ?_; refine WC_cond rfl (fun hb24 => ?_) (fun hb24 => ?_)
      ·have H := ifT hb24 H; refine WC_skip ?_; refine WC_seq ?_; obtain ⟨q25, hq25, H⟩ := bnd H; refine WC_cut (fun F w => ∃ (Fb : Fr) (G : Gm) (aq25_0 : Option Addr) (nq25_0 cq25_0 : Nat), F = upds Fb [(1, .int .i64 x1), (2, .pointer (some ⟨b4, 0, none⟩)), (6, .slice aq25_0 nq25_0 cq25_0), (7, .bool q25.2), (8, .int .i64 s7.2.2), (9, .slice a17 n17 c17), (10, .int .i64 s18.2.2)] ∧ Gle G23 G ∧ Since w0.heap.size G0 w0 G w ∧ Owns G w w0.heap.size [] ∧ RSl RInt 1 G aq25_0 nq25_0 cq25_0 q25.1) ?_ ?_
       ·have Hoq25 := H; have H := hq25; refine WC_block ?_; refine WC_seq ?_; obtain ⟨q26, hq26, H⟩ := bnd H; refine WC_cut (fun F w => ∃ (Fb : Fr) (G : Gm), F = upds Fb [(1, .int .i64 x1), (2, .pointer (some ⟨b4, 0, none⟩)), (6, .slice as18_0 ns18_0 cs18_0), (7, .bool s18.2.1), (8, .int .i64 s7.2.2), (9, .slice a17 n17 c17), (10, .int .i64 s18.2.2), (59, .bool q26)] ∧ Gle G23 G ∧ Since w0.heap.size G0 w0 G w ∧ Owns G w w0.heap.size []) ?_ ?_
        ·have Hoq26 := H; have H := hq26; have hS := hS.keep (below_drew _); have hO := hO.below (below_drew _)
         refine WC_regionD mixedO (fun _ w => Sat G23 w ∧ True) (.fl 0 (.fl 1 (.on 2 (.on 3 (.on 4 (.on 5 (.on 6 (.on 7 (.on 8 (.on 9 (.fl 10 (.fl 11 (.fl 12 (.fl 13 (.fl 14 (.fl 16 (.fl 17 (.on 15 (.on 18 (.on 19 (.on 20 (.on 21 (.on 22 (.fl 23 (.fl 24 (.fl 25 (.fl 26 (.fl 27 (.on 28 (.on 29 (.on 30 .nil))))))))))))))))))))))))))))))) (by kernel_rfl) rfl (by kernel_rfl) (fun _ => ⟨hS.sat, trivial⟩) ?_
         refine WD_val rfl (fun w hw => rn_loadA ag42 (cs := [.slice a1 n1 c1, .slice a2 n2 c2, .int .i64 x0.Gap.Low, .int .i64 x0.Gap.High, .slice a3 n3 c3, .int .i64 x0.Hold]) rfl rfl (fun j v hj => (hw.1.le ((leG12.trans leG16).trans leG23)).cell (hcb4.drop_take 0 6 j v hj))) rfl ?_; refine WD_val rfl (fun w hw => rn_move (v := (.slice a17 n17 c17)) rfl) rfl ?_; refine WD_op rfl rfl (OpP_val (rn_move (v := (.int .i64 s18.2.2)) rfl) rfl ?_); refine ⟨fun _ _ => ⟨hS.sat, trivial⟩, ?_⟩; obtain ⟨y27, hy27, H⟩ := bnd H; refine WD_op rfl rfl (OpP_idx sl43 (h17.mono (RSlice_mono RInt_mono) leG23) hy27 rfl rfl rfl ?_)
         rintro b28 o28 _ hcb28 _ ⟨a29, n29, c29, ⟨⟩, h29⟩
         refine ⟨fun _ _ => ⟨hS.sat, trivial⟩, ?_⟩; refine WD_op rfl rfl (OpP_val (rn_load na22 rfl (hS.sat.cell (hcb28 0 _ rfl))) rfl ?_); refine ⟨fun _ _ => ⟨hS.sat, trivial⟩, ?_⟩; obtain ⟨y30, hy30, H⟩ := bnd H
         have l0_4 := (l0_2.trans leG16).trans leG23
         refine WD_op rfl rfl (OpP_callV cb42 (f42_ok (x0 := x0) (x1 := y27) hS.sat (h1.mono RInt_mono l0_4) (h2.mono RTSpan_mono l0_4) (h3.mono RTShipLot_mono l0_4) h29 hy30) rfl rfl (fun w31 hb => ?_)); have hS := hS.keep hb; have hO := hO.below hb; refine ⟨fun _ _ => ⟨hS.sat, trivial⟩, ?_⟩; refine WD_op rfl rfl (OpP_val (rn_move (v := (.bool y30)) rfl) rfl ?_); refine ⟨fun _ _ => ⟨hS.sat, trivial⟩, ?_⟩
         rcases bcases y30 with hb32 | hb32
         ·have H := ifT hb32 H; refine WD_opY rfl rfl rfl hb32 rfl rfl (OpP_val (rn_move (v := (.bool s18.2.1)) rfl) rfl ?_); refine ⟨fun _ _ => ⟨hS.sat, trivial⟩, ?_⟩; refine WD_opY rfl rfl rfl hb32 rfl rfl (OpP_val (rn_not rfl) rfl ?_); refine ⟨fun _ _ => ⟨hS.sat, trivial⟩, ?_⟩; refine WD_opY rfl rfl rfl hb32 rfl rfl (OpP_val (rn_move (v := (.bool (!s18.2.1))) rfl) rfl ?_); refine ⟨fun _ _ => ⟨hS.sat, trivial⟩, ?_⟩
          rcases bcases (!s18.2.1) with hb33 | hb33
          ·have H := ifT hb33 H; refine WD_skip rfl rfl hb33 rfl rfl rfl ?_; refine WD_skip rfl rfl hb33 rfl rfl rfl ?_; refine WD_skip rfl rfl hb33 rfl rfl rfl ?_; refine WD_skip rfl rfl hb33 rfl rfl rfl ?_; refine WD_skip rfl rfl hb33 rfl rfl rfl ?_; refine WD_skip rfl rfl hb33 rfl rfl rfl ?_; refine WD_skip rfl rfl hb33 rfl rfl rfl ?_; refine WD_skipS rfl rfl hb33 rfl rfl rfl (fun _ _ => ⟨hS.sat, trivial⟩) ?_; refine WD_skipS rfl rfl hb33 rfl rfl rfl (fun _ _ => ⟨hS.sat, trivial⟩) ?_; refine WD_skipS rfl rfl hb33 rfl rfl rfl (fun _ _ => ⟨hS.sat, trivial⟩) ?_; refine WD_opY rfl rfl rfl hb32 rfl rfl (OpP_val (rn_pickT (v := (.bool true)) rfl hb33 rfl) rfl ?_); refine ⟨fun _ _ => ⟨hS.sat, trivial⟩, ?_⟩; refine WD_op rfl rfl (OpP_val (rn_pickT (v := (.bool true)) rfl hb32 rfl) rfl ?_); refine ⟨fun _ _ => ⟨hS.sat, trivial⟩, ?_⟩; refine WD_op rfl rfl (OpP_val (rn_move (v := (.bool true)) rfl) rfl ?_); refine ⟨fun _ _ => ⟨hS.sat, trivial⟩, ?_⟩; refine WD_valY rfl rfl rfl rfl rfl (fun w hw => rn_loadA ag42 (cs := [.slice a1 n1 c1, .slice a2 n2 c2, .int .i64 x0.Gap.Low, .int .i64 x0.Gap.High, .slice a3 n3 c3, .int .i64 x0.Hold]) rfl rfl (fun j v hj => (hw.1.le ((leG12.trans leG16).trans leG23)).cell (hcb4.drop_take 0 6 j v hj))) rfl ?_; refine WD_valY rfl rfl rfl rfl rfl (fun w hw => rn_move (v := (.slice a17 n17 c17)) rfl) rfl ?_; refine WD_valY rfl rfl rfl rfl rfl (fun w hw => rn_move (v := (.int .i64 s18.2.2)) rfl) rfl ?_; refine WD_idxY rfl rfl rfl rfl rfl sl43 (h17.mono (RSlice_mono RInt_mono) leG23) hy27 rfl rfl rfl ?_
           rintro b34 o34 _ hcb34 _ ⟨a35, n35, c35, ⟨⟩, h35⟩
           refine WD_valY rfl rfl rfl rfl rfl (fun w hw => rn_load na22 rfl (hw.1.cell (hcb34 0 _ rfl))) rfl ?_; refine WD_opY rfl rfl rfl rfl rfl rfl (OpP_val (rn_move (v := (.int .i64 x1)) rfl) rfl ?_); refine ⟨fun _ _ => ⟨hS.sat, trivial⟩, ?_⟩; obtain ⟨y36, hy36, H⟩ := bnd H; refine WD_opY rfl rfl rfl rfl rfl rfl (OpP_callV cb79 (f79_ok (x0 := x0) (x1 := y27) (x2 := x1) hS.sat (h1.mono RInt_mono l0_4) (h2.mono RTSpan_mono l0_4) (h3.mono RTShipLot_mono l0_4) h35 hy36) rfl rfl (fun w37 hb => ?_)); have hS := hS.keep hb; have hO := hO.below hb
           refine ⟨fun _ h => noneed (by kernel_rfl) h, ?_⟩
           refine WD_op rfl rfl (OpP_val (rn_pickT (v := (.bool y36)) rfl rfl rfl) rfl ?_)
           refine ⟨fun _ h => noneed (by kernel_rfl) h, ?_⟩
           refine WD_nil ?_
           have hO : Owns G23 w37 w0.heap.size ([]) := hO
           have H := Option.some.inj H; subst H
           exact ⟨_, G23, upds_self _ _ ⟨rfl, rfl, rfl, rfl, rfl, rfl, rfl, rfl, trivial⟩, Gle.refl _, hS, hO⟩
          ·have H := ifF hb33 H; refine WD_valY rfl rfl hb33 rfl rfl (fun w hw => rn_loadA ag42 (cs := [.slice a1 n1 c1, .slice a2 n2 c2, .int .i64 x0.Gap.Low, .int .i64 x0.Gap.High, .slice a3 n3 c3, .int .i64 x0.Hold]) rfl rfl (fun j v hj => (hw.1.le ((leG12.trans leG16).trans leG23)).cell (hcb4.drop_take 0 6 j v hj))) rfl ?_; refine WD_valY rfl rfl hb33 rfl rfl (fun w hw => rn_move (v := (.slice a17 n17 c17)) rfl) rfl ?_; refine WD_valY rfl rfl hb33 rfl rfl (fun w hw => rn_move (v := (.int .i64 s18.2.2)) rfl) rfl ?_; refine WD_idxY rfl rfl hb33 rfl rfl sl43 (h17.mono (RSlice_mono RInt_mono) leG23) hy27 rfl rfl rfl ?_
           rintro b38 o38 _ hcb38 _ ⟨a39, n39, c39, ⟨⟩, h39⟩
           refine WD_valY rfl rfl hb33 rfl rfl (fun w hw => rn_load na22 rfl (hw.1.cell (hcb38 0 _ rfl))) rfl ?_; refine WD_valY rfl rfl hb33 rfl rfl (fun w hw => rn_loadA ag42 (cs := [.slice a1 n1 c1, .slice a2 n2 c2, .int .i64 x0.Gap.Low, .int .i64 x0.Gap.High, .slice a3 n3 c3, .int .i64 x0.Hold]) rfl rfl (fun j v hj => (hw.1.le ((leG12.trans leG16).trans leG23)).cell (hcb4.drop_take 0 6 j v hj))) rfl ?_; refine WD_valY rfl rfl hb33 rfl rfl (fun w hw => rn_move (v := (.slice as18_0 ns18_0 cs18_0)) rfl) rfl ?_; obtain ⟨y40, hy40, H⟩ := bnd H; refine WD_opY rfl rfl rfl hb33 rfl rfl (OpP_callV cb40 (f40_ok (x0 := x0) (x1 := y27) hS.sat (h1.mono RInt_mono l0_4) (h2.mono RTSpan_mono l0_4) (h3.mono RTShipLot_mono l0_4) h39 hy40) rfl rfl (fun w41 hb => ?_)); have hS := hS.keep hb; have hO := hO.below hb; refine ⟨fun _ _ => ⟨hS.sat, trivial⟩, ?_⟩; obtain ⟨y42, hy42, H⟩ := bnd H; refine WD_opY rfl rfl rfl hb33 rfl rfl (OpP_callV cb40 (f40_ok (x0 := x0) (x1 := s18.1) hS.sat (h1.mono RInt_mono l0_4) (h2.mono RTSpan_mono l0_4) (h3.mono RTShipLot_mono l0_4) hs18_0 hy42) rfl rfl (fun w43 hb => ?_)); have hS := hS.keep hb; have hO := hO.below hb; refine ⟨fun _ _ => ⟨hS.sat, trivial⟩, ?_⟩; refine WD_opY rfl rfl rfl hb33 rfl rfl (OpP_val (rn_lss rfl rfl) rfl ?_); refine ⟨fun _ _ => ⟨hS.sat, trivial⟩, ?_⟩; refine WD_opY rfl rfl rfl hb32 rfl rfl (OpP_val (rn_pickF (v := (.bool (decide (y40 < y42)))) rfl hb33 rfl) rfl ?_); refine ⟨fun _ _ => ⟨hS.sat, trivial⟩, ?_⟩; refine WD_op rfl rfl (OpP_val (rn_pickT (v := (.bool (decide (y40 < y42)))) rfl hb32 rfl) rfl ?_); refine ⟨fun _ _ => ⟨hS.sat, trivial⟩, ?_⟩; refine WD_op rfl rfl (OpP_val (rn_move (v := (.bool (decide (y40 < y42)))) rfl) rfl ?_); refine ⟨fun _ _ => ⟨hS.sat, trivial⟩, ?_⟩
           rcases bcases (decide (y40 < y42)) with hb44 | hb44
           ·have H := ifT hb44 H; refine WD_valY rfl rfl hb44 rfl rfl (fun w hw => rn_loadA ag42 (cs := [.slice a1 n1 c1, .slice a2 n2 c2, .int .i64 x0.Gap.Low, .int .i64 x0.Gap.High, .slice a3 n3 c3, .int .i64 x0.Hold]) rfl rfl (fun j v hj => (hw.1.le ((leG12.trans leG16).trans leG23)).cell (hcb4.drop_take 0 6 j v hj))) rfl ?_; refine WD_valY rfl rfl hb44 rfl rfl (fun w hw => rn_move (v := (.slice a17 n17 c17)) rfl) rfl ?_; refine WD_valY rfl rfl hb44 rfl rfl (fun w hw => rn_move (v := (.int .i64 s18.2.2)) rfl) rfl ?_; refine WD_idxY rfl rfl hb44 rfl rfl sl43 (h17.mono (RSlice_mono RInt_mono) leG23) hy27 rfl rfl rfl ?_
            rintro b45 o45 _ hcb45 _ ⟨a46, n46, c46, ⟨⟩, h46⟩
            refine WD_valY rfl rfl hb44 rfl rfl (fun w hw => rn_load na22 rfl (hw.1.cell (hcb45 0 _ rfl))) rfl ?_; refine WD_opY rfl rfl rfl hb44 rfl rfl (OpP_val (rn_move (v := (.int .i64 x1)) rfl) rfl ?_); refine ⟨fun _ _ => ⟨hS.sat, trivial⟩, ?_⟩; obtain ⟨y47, hy47, H⟩ := bnd H; refine WD_opY rfl rfl rfl hb44 rfl rfl (OpP_callV cb79 (f79_ok (x0 := x0) (x1 := y27) (x2 := x1) hS.sat (h1.mono RInt_mono l0_4) (h2.mono RTSpan_mono l0_4) (h3.mono RTShipLot_mono l0_4) h46 hy47) rfl rfl (fun w48 hb => ?_)); have hS := hS.keep hb; have hO := hO.below hb
            refine ⟨fun _ h => noneed (by kernel_rfl) h, ?_⟩
            refine WD_op rfl rfl (OpP_val (rn_pickT (v := (.bool y47)) rfl hb44 rfl) rfl ?_)
            refine ⟨fun _ h => noneed (by kernel_rfl) h, ?_⟩
            refine WD_nil ?_
            have hO : Owns G23 w48 w0.heap.size ([]) := hO
            have H := Option.some.inj H; subst H
            exact ⟨_, G23, upds_self _ _ ⟨rfl, rfl, rfl, rfl, rfl, rfl, rfl, rfl, trivial⟩, Gle.refl _, hS, hO⟩
           ·have H := ifF hb44 H; refine WD_skip rfl rfl hb44 rfl rfl rfl ?_; refine WD_skip rfl rfl hb44 rfl rfl rfl ?_; refine WD_skip rfl rfl hb44 rfl rfl rfl ?_; refine WD_skip rfl rfl hb44 rfl rfl rfl ?_; refine WD_skip rfl rfl hb44 rfl rfl rfl ?_; refine WD_skipS rfl rfl hb44 rfl rfl rfl (fun _ _ => ⟨hS.sat, trivial⟩) ?_
            refine WD_skipS rfl rfl hb44 rfl rfl rfl (fun _ h => noneed (by kernel_rfl) h) ?_
            refine WD_op rfl rfl (OpP_val (rn_pickF (v := (.bool false)) rfl hb44 rfl) rfl ?_)
            refine ⟨fun _ h => noneed (by kernel_rfl) h, ?_⟩
            refine WD_nil ?_
            have hO : Owns G23 w43 w0.heap.size ([]) := hO
            have H := Option.some.inj H; subst H
            exact ⟨_, G23, upds_self _ _ ⟨rfl, rfl, rfl, rfl, rfl, rfl, rfl, rfl, trivial⟩, Gle.refl _, hS, hO⟩
         ·have H := ifF hb32 H; refine WD_skipS rfl rfl hb32 rfl rfl rfl (fun _ _ => ⟨hS.sat, trivial⟩) ?_; refine WD_skipS rfl rfl hb32 rfl rfl rfl (fun _ _ => ⟨hS.sat, trivial⟩) ?_; refine WD_skipS rfl rfl hb32 rfl rfl rfl (fun _ _ => ⟨hS.sat, trivial⟩) ?_; refine WD_undefN rfl rfl rfl rfl rfl ?_; refine WD_undefN rfl rfl rfl rfl rfl ?_; refine WD_undefN rfl rfl rfl rfl rfl ?_; refine WD_undefN rfl rfl rfl rfl rfl ?_; refine WD_undefN rfl rfl rfl rfl rfl ?_; refine WD_undefN rfl rfl rfl rfl rfl ?_; refine WD_undefN rfl rfl rfl rfl rfl ?_; refine WD_undefS rfl rfl rfl rfl rfl (fun _ _ => ⟨hS.sat, trivial⟩) ?_; refine WD_undefS rfl rfl rfl rfl rfl (fun _ _ => ⟨hS.sat, trivial⟩) ?_; refine WD_undefS rfl rfl rfl rfl rfl (fun _ _ => ⟨hS.sat, trivial⟩) ?_; refine WD_skipS rfl rfl hb32 rfl rfl rfl (fun _ _ => ⟨hS.sat, trivial⟩) ?_; refine WD_op rfl rfl (OpP_val (rn_pickF (v := (.bool false)) rfl hb32 rfl) rfl ?_); refine ⟨fun _ _ => ⟨hS.sat, trivial⟩, ?_⟩; refine WD_op rfl rfl (OpP_val (rn_move (v := (.bool false)) rfl) rfl ?_); refine ⟨fun _ _ => ⟨hS.sat, trivial⟩, ?_⟩; refine WD_skip rfl rfl rfl rfl rfl rfl ?_; refine WD_skip rfl rfl rfl rfl rfl rfl ?_; refine WD_skip rfl rfl rfl rfl rfl rfl ?_; refine WD_skip rfl rfl rfl rfl rfl rfl ?_; refine WD_skip rfl rfl rfl rfl rfl rfl ?_; refine WD_skipS rfl rfl rfl rfl rfl rfl (fun _ _ => ⟨hS.sat, trivial⟩) ?_
          refine WD_skipS rfl rfl rfl rfl rfl rfl (fun _ h => noneed (by kernel_rfl) h) ?_
          refine WD_op rfl rfl (OpP_val (rn_pickF (v := (.bool false)) rfl rfl rfl) rfl ?_)
          refine ⟨fun _ h => noneed (by kernel_rfl) h, ?_⟩
          refine WD_nil ?_
          have hO : Owns G23 w31 w0.heap.size ([]) := hO
          have H := Option.some.inj H; subst H
          exact ⟨_, G23, upds_self _ _ ⟨rfl, rfl, rfl, rfl, rfl, rfl, rfl, rfl, trivial⟩, Gle.refl _, hS, hO⟩
        ·rintro F w49 ⟨Fb, G50, rfl, leG50, hS, hO⟩
         refine WC_cond rfl (fun hb51 => ?_) (fun hb51 => ?_)
         ·have H := ifT hb51 H; refine WC_region ?_; refine WL_val (rn_move (v := (.slice a17 n17 c17)) rfl) rfl ?_; refine WL_val (rn_move (v := (.int .i64 s18.2.2)) rfl) rfl ?_; obtain ⟨y52, hy52, H⟩ := bnd H
          have l3_5 := leG23.trans leG50
          refine WL_idx sl43 (h17.mono (RSlice_mono RInt_mono) l3_5) hy52 rfl rfl rfl ?_
          rintro b53 o53 _ hcb53 _ ⟨a54, n54, c54, ⟨⟩, h54⟩
          refine WL_val (rn_load na22 rfl (hS.sat.cell (hcb53 0 _ rfl))) rfl ?_; refine WL_val (rn_assign (v := (.slice a54 n54 c54)) rfl) rfl ?_; refine WL_val (rn_assign (v := (.bool true)) rfl) rfl ?_; refine WL_nil ?_
          have hO : Owns G50 w49 w0.heap.size ([]) := hO
          have H := Option.some.inj H; subst H
          exact ⟨_, G50, a54, n54, c54, upds_self _ _ ⟨rfl, rfl, rfl, rfl, rfl, rfl, rfl, trivial⟩, leG50, hS, hO, h54⟩
         ·have H := ifF hb51 H; refine WC_skip ?_
          have hO : Owns G50 w49 w0.heap.size ([]) := hO
          have H := Option.some.inj H; subst H
          exact ⟨_, G50, as18_0, ns18_0, cs18_0, upds_self _ _ ⟨rfl, rfl, rfl, rfl, rfl, rfl, rfl, trivial⟩, leG50, hS, hO, (hs18_0.mono RInt_mono leG50)⟩
       ·rintro F w55 ⟨Fb, G56, aq25_0, nq25_0, cq25_0, rfl, leG56, hS, hO, hq25_0⟩
        refine WC_region ?_; refine WL_val (rn_move (v := (.int .i64 s18.2.2)) rfl) rfl ?_; refine WL_val (rn_add rfl rfl) rfl ?_; refine WL_val (rn_assign (v := (.int .i64 (IntKind.i64.wrap (s18.2.2 + 1)))) rfl) rfl ?_; refine WL_nil ?_
        have hO : Owns G56 w55 w0.heap.size ([]) := hO
        have H := Option.some.inj H; subst H; refine ⟨_, rfl, ?_⟩
        have l3_5 := leG23.trans leG56
        exact ⟨_, G56, aq25_0, nq25_0, cq25_0, upds_self _ _ ⟨rfl, rfl, rfl, rfl, rfl, rfl, rfl, trivial⟩, l3_5, hS, hO, hq25_0⟩
      ·have H := ifF hb24 H; refine WC_exit rfl ?_
       have hO : Owns G23 w22 w0.heap.size ([]) := hO
       have H := Option.some.inj H; subst H
       have hres := hqq20 _ rfl
       subst hres
       exact ⟨_, G23, as18_0, ns18_0, cs18_0, upds_self _ _ ⟨rfl, rfl, rfl, rfl, rfl, trivial⟩, leG23, hS, hO, hs18_0⟩
    ·rintro F w57 ⟨Fb, G58, aq20_0, nq20_0, cq20_0, rfl, leG58, hS, hO, hq20_0⟩
     refine WC_region ?_; refine WL_val (rn_move (v := (.int .i64 s7.2.2)) rfl) rfl ?_; refine WL_val (rn_add rfl rfl) rfl ?_; refine WL_val (rn_assign (v := (.int .i64 (IntKind.i64.wrap (s7.2.2 + 1)))) rfl) rfl ?_; refine WL_nil ?_
     have hO : Owns G58 w57 w0.heap.size ([]) := hO
     have H := Option.some.inj H; subst H; refine ⟨_, rfl, ?_⟩
     have l1_4 := (leG12.trans leG16).trans leG58
     exact ⟨_, G58, aq20_0, nq20_0, cq20_0, upds_self _ _ ⟨rfl, rfl, rfl, rfl, rfl, trivial⟩, l1_4, hS, hO, hq20_0⟩
   ·have H := ifF hb13 H; refine WC_exit rfl ?_
    have hO : Owns G12 w11 w0.heap.size ([]) := hO
    have H := Option.some.inj H; subst H
    have hres := hqq9 _ rfl
    subst hres
    exact ⟨_, G12, as7_0, ns7_0, cs7_0, upds_self _ _ ⟨rfl, rfl, trivial⟩, leG12, hS, hO, hs7_0⟩
 ·rintro F w59 ⟨Fb, G60, aq9_0, nq9_0, cq9_0, rfl, leG60, hS, hO, hq9_0⟩
  refine WC_seq ?_; refine WC_region ?_; refine WL_val (rn_move (v := (.slice aq9_0 nq9_0 cq9_0)) rfl) rfl ?_; refine WL_val (rn_move (v := (.bool q9.2)) rfl) rfl ?_; refine WL_val (rn_assign (v := (.slice aq9_0 nq9_0 cq9_0)) rfl) rfl ?_; refine WL_val (rn_assign (v := (.bool q9.2)) rfl) rfl ?_; refine WL_nil ?_; refine WC_ret ?_
  have H : some (q9.1, q9.2) = some r := H
  have H := Option.some.inj H; subst H
  exact ⟨_, _, rfl, hS.toGrow, _, _, _, rfl, hq9_0⟩
set_option maxHeartbeats 1000000 in
theorem f9_ok {G0 : Gm} {w0 : World} (hS0 : Sat G0 w0) {x0 : TShipStore} {a1 : Option Addr} {n1 c1 : Nat} {a2 : Option Addr} {n2 c2 : Nat} {a3 : Option Addr} {n3 c3 : Nat} {x1 : Int} (h1 : RSl RInt 1 G0 a1 n1 c1 x0.Stock) (h2 : RSl RTSpan 2 G0 a2 n2 c2 x0.Use) (h3 : RSl RTShipLot 3 G0 a3 n3 c3 x0.Lots) {r : Bool} (H : f9 x0 x1 = some r) :
  Calls Try.prog 9 #[.agg #[.slice a1 n1 c1, .slice a2 n2 c2, .int .i64 x0.Gap.Low, .int .i64 x0.Gap.High, .slice a3 n3 c3, .int .i64 x0.Hold], .int .i64 x1] w0 (RetV w0 (.bool r)) := by
 have hS := Since.start hS0
 have hO : Owns G0 w0 w0.heap.size [] := Owns.nil (Nat.le_refl _)
 unfold f9 at H
 refine enter1 (N := 82) (shutV _ _) Try.func9 rfl rfl rfl rfl ?_; refine WC_seq ?_; refine WC_region ?_; refine WL_op rfl (OpP_newF (v := fun b => .pointer (some ⟨b, 0, none⟩)) (cs := [.slice a1 n1 c1, .slice a2 n2 c2, .int .i64 x0.Gap.Low, .int .i64 x0.Gap.High, .slice a3 n3 c3, .int .i64 x0.Hold]) (e := 42) (rn_boxA rfl) hS.sat rfl (fun b4 G6 w5 hg hcb4 => ?_)); have hS := hS.grow hg; have hO := hO.grow hg
 have leG6 := hg.le
 refine WL_val (rn_assign (v := (.bool false)) rfl) rfl ?_; refine WL_nil ?_; refine WC_seq ?_; refine WC_seq ?_; refine WC_region ?_; refine WL_val (rn_loadA ag42 (cs := [.slice a1 n1 c1, .slice a2 n2 c2, .int .i64 x0.Gap.Low, .int .i64 x0.Gap.High, .slice a3 n3 c3, .int .i64 x0.Hold]) rfl rfl (fun j v hj => hS.sat.cell (hcb4.drop_take 0 6 j v hj))) rfl ?_; obtain ⟨y7, hy7, H⟩ := bnd H; refine WL_op rfl (OpP_callV cb24 (f24_ok (x0 := x0) hS.sat (h1.mono RInt_mono leG6) (h2.mono RTSpan_mono leG6) (h3.mono RTShipLot_mono leG6) hy7) rfl rfl (fun w8 hb => ?_)); have hS := hS.keep hb; have hO := hO.below hb; refine WL_val (rn_not rfl) rfl ?_; refine WL_nil ?_; refine WC_cond rfl (fun hb9 => ?_) (fun hb9 => ?_)
 ·have H := ifT hb9 H; refine WC_seq ?_; refine WC_region ?_; obtain ⟨y10, hy10, H⟩ := bnd H; refine WL_op rfl (OpP_callV cb17 (f17_ok  hS.sat  hy10) rfl rfl (fun w11 hb => ?_)); have hS := hS.keep hb; have hO := hO.below hb; refine WL_val (rn_assign (v := (.bool y10)) rfl) rfl ?_; refine WL_nil ?_; refine WC_ret ?_
  have H : some y10 = some r := H
  have H := Option.some.inj H; subst H
  exact ⟨rfl, hS.below⟩
 ·have H := ifF hb9 H; refine WC_skip ?_; refine WC_seq ?_; refine WC_region ?_; refine WL_val (rn_loadA ag42 (cs := [.slice a1 n1 c1, .slice a2 n2 c2, .int .i64 x0.Gap.Low, .int .i64 x0.Gap.High, .slice a3 n3 c3, .int .i64 x0.Hold]) rfl rfl (fun j v hj => hS.sat.cell (hcb4.drop_take 0 6 j v hj))) rfl ?_; refine WL_val (rn_move (v := (.int .i64 x1)) rfl) rfl ?_; obtain ⟨y12, hy12, H⟩ := bnd H; refine WL_op rfl (OpP_callG cb35 (f35_ok (x0 := x0) (x1 := x1) hS.sat (h1.mono RInt_mono leG6) (h2.mono RTSpan_mono leG6) (h3.mono RTShipLot_mono leG6) hy12) rfl rfl (fun vy12 G14 w13 hg hvy12 => ?_)); obtain ⟨a15, n15, c15, ⟨⟩, h15⟩ := hvy12; have hS := hS.grow hg; have hO := hO.grow hg
  have leG14 := hg.le
  refine WL_val (rn_move (v := (.tuple #[.slice a15 n15 c15, .int .i64 y12.2.1, .int .i64 y12.2.2])) rfl) rfl ?_; refine WL_val (rn_extract (v := (.slice a15 n15 c15)) rfl rfl) rfl ?_; refine WL_val (rn_extract (v := (.int .i64 y12.2.1)) rfl rfl) rfl ?_; refine WL_val (rn_extract (v := (.int .i64 y12.2.2)) rfl rfl) rfl ?_; refine WL_val (rn_assign (v := (.slice a15 n15 c15)) rfl) rfl ?_; refine WL_val (rn_assign (v := (.int .i64 y12.2.1)) rfl) rfl ?_; refine WL_val (rn_assign (v := (.int .i64 y12.2.2)) rfl) rfl ?_; refine WL_nil ?_; refine WC_seq ?_; refine WC_seq ?_; obtain ⟨q16, hq16, H⟩ := bnd H; refine WC_cut (fun F w => ∃ (Fb : Fr) (G : Gm), F = upds Fb [(1, .int .i64 x1), (2, .pointer (some ⟨b4, 0, none⟩)), (5, .slice a15 n15 c15), (6, .int .i64 y12.2.1), (7, .int .i64 y12.2.2), (28, .bool q16)] ∧ Gle G14 G ∧ Since w0.heap.size G0 w0 G w ∧ Owns G w w0.heap.size []) ?_ ?_
  ·have Hoq16 := H; have H := hq16; refine WC_region ?_; refine WL_val (rn_loadA ag42 (cs := [.slice a1 n1 c1, .slice a2 n2 c2, .int .i64 x0.Gap.Low, .int .i64 x0.Gap.High, .slice a3 n3 c3, .int .i64 x0.Hold]) rfl rfl (fun j v hj => (hS.sat.le leG14).cell (hcb4.drop_take 0 6 j v hj))) rfl ?_; obtain ⟨y17, hy17, H⟩ := bnd H
   have l0_2 := leG6.trans leG14
   refine WL_op rfl (OpP_callV cb36 (f36_ok (x0 := x0) hS.sat (h1.mono RInt_mono l0_2) (h2.mono RTSpan_mono l0_2) (h3.mono RTShipLot_mono l0_2) hy17) rfl rfl (fun w18 hb => ?_)); have hS := hS.keep hb; have hO := hO.below hb; refine WL_val (rn_not rfl) rfl ?_; refine WL_val (rn_move (v := (.bool (!y17))) rfl) rfl ?_
   rcases bcases (!y17) with hb19 | hb19
   ·have H := ifT hb19 H; refine WL_guardN rfl hb19 rfl rfl rfl ?_; refine WL_guardN rfl hb19 rfl rfl rfl ?_; refine WL_guardN rfl hb19 rfl rfl rfl ?_; refine WL_val (rn_pickT (v := (.bool true)) rfl hb19 rfl) rfl ?_; refine WL_nil ?_
    have hO : Owns G14 w18 w0.heap.size ([]) := hO
    have H := Option.some.inj H; subst H
    exact ⟨_, G14, upds_self _ _ ⟨rfl, rfl, rfl, rfl, rfl, rfl, trivial⟩, Gle.refl _, hS, hO⟩
   ·have H := ifF hb19 H; refine WL_guardY rfl hb19 rfl rfl ?_; refine WL_val (rn_move (v := (.int .i64 x1)) rfl) rfl ?_; refine WL_guardY rfl hb19 rfl rfl ?_; obtain ⟨y20, hy20, H⟩ := bnd H; refine WL_op rfl (OpP_callV cb37 (f37_ok (x0 := x1) hS.sat  hy20) rfl rfl (fun w21 hb => ?_)); have hS := hS.keep hb; have hO := hO.below hb; refine WL_guardY rfl hb19 rfl rfl ?_; refine WL_val (rn_not rfl) rfl ?_; refine WL_val (rn_pickF (v := (.bool (!y20))) rfl hb19 rfl) rfl ?_; refine WL_nil ?_
    have hO : Owns G14 w21 w0.heap.size ([]) := hO
    have H := Option.some.inj H; subst H
    exact ⟨_, G14, upds_self _ _ ⟨rfl, rfl, rfl, rfl, rfl, rfl, trivial⟩, Gle.refl _, hS, hO⟩
  ·rintro F w22 ⟨Fb, G23, rfl, leG23, hS, hO⟩
   refine WC_cond rfl (fun hb24 => ?_) (fun hb24 => ?_)
   ·have H := ifT hb24 H; refine WC_seq ?_; obtain ⟨q25, hq25, H⟩ := bnd H; refine WC_cut (fun F w => ∃ (Fb : Fr) (G : Gm), F = upds Fb [(4, .bool q25)] ∧ Gle G23 G ∧ Since w0.heap.size G0 w0 G w ∧ Owns G w w0.heap.size []) ?_ ?_
    ·have Hoq25 := H; have H := hq25; refine WC_region ?_; refine WL_val (rn_move (v := (.int .i64 y12.2.2)) rfl) rfl ?_; refine WL_val (rn_eql rfl rfl) rfl ?_; refine WL_val (rn_move (v := (.bool (y12.2.2 == 2))) rfl) rfl ?_
     rcases bcases (y12.2.2 == 2) with hb26 | hb26
     ·have H := ifT hb26 H; refine WL_guardY rfl hb26 rfl rfl ?_; refine WL_val (rn_move (v := (.slice a15 n15 c15)) rfl) rfl ?_; refine WL_guardY rfl hb26 rfl rfl ?_; refine WL_val (rn_len sl22 rfl rfl (h15.mono RInt_mono leG23).1) rfl ?_; refine WL_guardY rfl hb26 rfl rfl ?_; refine WL_val (rn_eql rfl rfl) rfl ?_; refine WL_val (rn_pickT (v := (.bool ((y12.1.length : Int) == 0))) rfl hb26 rfl) rfl ?_; refine WL_val (rn_move (v := (.bool ((y12.1.length : Int) == 0))) rfl) rfl ?_
      rcases bcases ((y12.1.length : Int) == 0) with hb27 | hb27
      ·have H := ifT hb27 H; refine WL_guardY rfl hb27 rfl rfl ?_; refine WL_val (rn_move (v := (.int .i64 y12.2.1)) rfl) rfl ?_; refine WL_guardY rfl hb27 rfl rfl ?_; refine WL_val (rn_eql rfl rfl) rfl ?_; refine WL_val (rn_pickT (v := (.bool (y12.2.1 == 0))) rfl hb27 rfl) rfl ?_; refine WL_val (rn_move (v := (.bool (y12.2.1 == 0))) rfl) rfl ?_
       rcases bcases (y12.2.1 == 0) with hb28 | hb28
       ·have H := ifT hb28 H; refine WL_guardY rfl hb28 rfl rfl ?_; obtain ⟨y29, hy29, H⟩ := bnd H; refine WL_op rfl (OpP_callV cb17 (f17_ok  hS.sat  hy29) rfl rfl (fun w30 hb => ?_)); have hS := hS.keep hb; have hO := hO.below hb; refine WL_val (rn_pickT (v := (.bool y29)) rfl hb28 rfl) rfl ?_; refine WL_val (rn_assign (v := (.bool y29)) rfl) rfl ?_; refine WL_nil ?_
        have hO : Owns G23 w30 w0.heap.size ([]) := hO
        have H := Option.some.inj H; subst H
        exact ⟨_, G23, upds_self _ _ ⟨rfl, trivial⟩, Gle.refl _, hS, hO⟩
       ·have H := ifF hb28 H; refine WL_guardN rfl hb28 rfl rfl rfl ?_; refine WL_val (rn_pickF (v := (.bool false)) rfl hb28 rfl) rfl ?_; refine WL_val (rn_assign (v := (.bool false)) rfl) rfl ?_; refine WL_nil ?_
        have hO : Owns G23 w22 w0.heap.size ([]) := hO
        have H := Option.some.inj H; subst H
        exact ⟨_, G23, upds_self _ _ ⟨rfl, trivial⟩, Gle.refl _, hS, hO⟩
      ·have H := ifF hb27 H; refine WL_guardN rfl hb27 rfl rfl rfl ?_; refine WL_guardN rfl hb27 rfl rfl rfl ?_; refine WL_val (rn_pickF (v := (.bool false)) rfl hb27 rfl) rfl ?_; refine WL_val (rn_move (v := (.bool false)) rfl) rfl ?_; refine WL_guardN rfl rfl rfl rfl rfl ?_; refine WL_val (rn_pickF (v := (.bool false)) rfl rfl rfl) rfl ?_; refine WL_val (rn_assign (v := (.bool false)) rfl) rfl ?_; refine WL_nil ?_
       have hO : Owns G23 w22 w0.heap.size ([]) := hO
       have H := Option.some.inj H; subst H
       exact ⟨_, G23, upds_self _ _ ⟨rfl, trivial⟩, Gle.refl _, hS, hO⟩
     ·have H := ifF hb26 H; refine WL_guardN rfl hb26 rfl rfl rfl ?_; refine WL_guardN rfl hb26 rfl rfl rfl ?_; refine WL_guardN rfl hb26 rfl rfl rfl ?_; refine WL_val (rn_pickF (v := (.bool false)) rfl hb26 rfl) rfl ?_; refine WL_val (rn_move (v := (.bool false)) rfl) rfl ?_; refine WL_guardN rfl rfl rfl rfl rfl ?_; refine WL_guardN rfl rfl rfl rfl rfl ?_; refine WL_val (rn_pickF (v := (.bool false)) rfl rfl rfl) rfl ?_; refine WL_val (rn_move (v := (.bool false)) rfl) rfl ?_; refine WL_guardN rfl rfl rfl rfl rfl ?_; refine WL_val (rn_pickF (v := (.bool false)) rfl rfl rfl) rfl ?_; refine WL_val (rn_assign (v := (.bool false)) rfl) rfl ?_; refine WL_nil ?_
      have hO : Owns G23 w22 w0.heap.size ([]) := hO
      have H := Option.some.inj H; subst H
      exact ⟨_, G23, upds_self _ _ ⟨rfl, trivial⟩, Gle.refl _, hS, hO⟩
    ·rintro F w31 ⟨Fb, G32, rfl, leG32, hS, hO⟩
     refine WC_ret ?_
     have H : some q25 = some r := H
     have H := Option.some.inj H; subst H
     exact ⟨rfl, hS.below⟩
   ·have H := ifF hb24 H; refine WC_skip ?_; refine WC_seq ?_; refine WC_region ?_
    have l1_3 := leG14.trans leG23
    refine WL_val (rn_loadA ag42 (cs := [.slice a1 n1 c1, .slice a2 n2 c2, .int .i64 x0.Gap.Low, .int .i64 x0.Gap.High, .slice a3 n3 c3, .int .i64 x0.Hold]) rfl rfl (fun j v hj => (hS.sat.le l1_3).cell (hcb4.drop_take 0 6 j v hj))) rfl ?_; refine WL_val (rn_move (v := (.int .i64 x1)) rfl) rfl ?_; obtain ⟨y33, hy33, H⟩ := bnd H
    have l0_3 := leG6.trans l1_3
    refine WL_op rfl (OpP_callG cb38 (f38_ok (x0 := x0) (x1 := x1) hS.sat (h1.mono RInt_mono l0_3) (h2.mono RTSpan_mono l0_3) (h3.mono RTShipLot_mono l0_3) hy33) rfl rfl (fun vy33 G35 w34 hg hvy33 => ?_)); obtain ⟨a36, n36, c36, ⟨⟩, h36⟩ := hvy33; have hS := hS.grow hg; have hO := hO.grow hg
    have leG35 := hg.le
    refine WL_val (rn_move (v := (.tuple #[.slice a36 n36 c36, .bool y33.2])) rfl) rfl ?_; refine WL_val (rn_extract (v := (.slice a36 n36 c36)) rfl rfl) rfl ?_; refine WL_val (rn_extract (v := (.bool y33.2)) rfl rfl) rfl ?_; refine WL_val (rn_assign (v := (.slice a36 n36 c36)) rfl) rfl ?_; refine WL_val (rn_assign (v := (.bool y33.2)) rfl) rfl ?_; refine WL_nil ?_; refine WC_seq ?_; refine WC_seq ?_; refine WC_region ?_; refine WL_val (rn_move (v := (.bool y33.2)) rfl) rfl ?_; refine WL_val (rn_not rfl) rfl ?_; refine WL_nil ?_; refine WC_cond rfl (fun hb37 => ?_) (fun hb37 => ?_)
    ·have H := ifT hb37 H; refine WC_seq ?_; obtain ⟨q38, hq38, H⟩ := bnd H; refine WC_cut (fun F w => ∃ (Fb : Fr) (G : Gm), F = upds Fb [(4, .bool q38)] ∧ Gle G35 G ∧ Since w0.heap.size G0 w0 G w ∧ Owns G w w0.heap.size []) ?_ ?_
     ·have Hoq38 := H; have H := hq38; refine WC_region ?_; refine WL_val (rn_move (v := (.int .i64 y12.2.2)) rfl) rfl ?_; refine WL_val (rn_eql rfl rfl) rfl ?_; refine WL_val (rn_move (v := (.bool (y12.2.2 == 5))) rfl) rfl ?_
      rcases bcases (y12.2.2 == 5) with hb39 | hb39
      ·have H := ifT hb39 H; refine WL_guardY rfl hb39 rfl rfl ?_; refine WL_val (rn_move (v := (.slice a15 n15 c15)) rfl) rfl ?_; refine WL_guardY rfl hb39 rfl rfl ?_
       have l2_4 := leG23.trans leG35
       refine WL_val (rn_len sl22 rfl rfl (h15.mono RInt_mono l2_4).1) rfl ?_; refine WL_guardY rfl hb39 rfl rfl ?_; refine WL_val (rn_eql rfl rfl) rfl ?_; refine WL_val (rn_pickT (v := (.bool ((y12.1.length : Int) == 0))) rfl hb39 rfl) rfl ?_; refine WL_val (rn_move (v := (.bool ((y12.1.length : Int) == 0))) rfl) rfl ?_
       rcases bcases ((y12.1.length : Int) == 0) with hb40 | hb40
       ·have H := ifT hb40 H; refine WL_guardY rfl hb40 rfl rfl ?_; refine WL_val (rn_move (v := (.int .i64 y12.2.1)) rfl) rfl ?_; refine WL_guardY rfl hb40 rfl rfl ?_; refine WL_val (rn_eql rfl rfl) rfl ?_; refine WL_val (rn_pickT (v := (.bool (y12.2.1 == 0))) rfl hb40 rfl) rfl ?_; refine WL_val (rn_move (v := (.bool (y12.2.1 == 0))) rfl) rfl ?_
        rcases bcases (y12.2.1 == 0) with hb41 | hb41
        ·have H := ifT hb41 H; refine WL_guardY rfl hb41 rfl rfl ?_; obtain ⟨y42, hy42, H⟩ := bnd H; refine WL_op rfl (OpP_callV cb17 (f17_ok  hS.sat  hy42) rfl rfl (fun w43 hb => ?_)); have hS := hS.keep hb; have hO := hO.below hb; refine WL_val (rn_pickT (v := (.bool y42)) rfl hb41 rfl) rfl ?_; refine WL_val (rn_assign (v := (.bool y42)) rfl) rfl ?_; refine WL_nil ?_
         have hO : Owns G35 w43 w0.heap.size ([]) := hO
         have H := Option.some.inj H; subst H
         exact ⟨_, G35, upds_self _ _ ⟨rfl, trivial⟩, Gle.refl _, hS, hO⟩
        ·have H := ifF hb41 H; refine WL_guardN rfl hb41 rfl rfl rfl ?_; refine WL_val (rn_pickF (v := (.bool false)) rfl hb41 rfl) rfl ?_; refine WL_val (rn_assign (v := (.bool false)) rfl) rfl ?_; refine WL_nil ?_
         have hO : Owns G35 w34 w0.heap.size ([]) := hO
         have H := Option.some.inj H; subst H
         exact ⟨_, G35, upds_self _ _ ⟨rfl, trivial⟩, Gle.refl _, hS, hO⟩
       ·have H := ifF hb40 H; refine WL_guardN rfl hb40 rfl rfl rfl ?_; refine WL_guardN rfl hb40 rfl rfl rfl ?_; refine WL_val (rn_pickF (v := (.bool false)) rfl hb40 rfl) rfl ?_; refine WL_val (rn_move (v := (.bool false)) rfl) rfl ?_; refine WL_guardN rfl rfl rfl rfl rfl ?_; refine WL_val (rn_pickF (v := (.bool false)) rfl rfl rfl) rfl ?_; refine WL_val (rn_assign (v := (.bool false)) rfl) rfl ?_; refine WL_nil ?_
        have hO : Owns G35 w34 w0.heap.size ([]) := hO
        have H := Option.some.inj H; subst H
        exact ⟨_, G35, upds_self _ _ ⟨rfl, trivial⟩, Gle.refl _, hS, hO⟩
      ·have H := ifF hb39 H; refine WL_guardN rfl hb39 rfl rfl rfl ?_; refine WL_guardN rfl hb39 rfl rfl rfl ?_; refine WL_guardN rfl hb39 rfl rfl rfl ?_; refine WL_val (rn_pickF (v := (.bool false)) rfl hb39 rfl) rfl ?_; refine WL_val (rn_move (v := (.bool false)) rfl) rfl ?_; refine WL_guardN rfl rfl rfl rfl rfl ?_; refine WL_guardN rfl rfl rfl rfl rfl ?_; refine WL_val (rn_pickF (v := (.bool false)) rfl rfl rfl) rfl ?_; refine WL_val (rn_move (v := (.bool false)) rfl) rfl ?_; refine WL_guardN rfl rfl rfl rfl rfl ?_; refine WL_val (rn_pickF (v := (.bool false)) rfl rfl rfl) rfl ?_; refine WL_val (rn_assign (v := (.bool false)) rfl) rfl ?_; refine WL_nil ?_
       have hO : Owns G35 w34 w0.heap.size ([]) := hO
       have H := Option.some.inj H; subst H
       exact ⟨_, G35, upds_self _ _ ⟨rfl, trivial⟩, Gle.refl _, hS, hO⟩
     ·rintro F w44 ⟨Fb, G45, rfl, leG45, hS, hO⟩
      refine WC_ret ?_
      have H : some q38 = some r := H
      have H := Option.some.inj H; subst H
      exact ⟨rfl, hS.below⟩
    ·have H := ifF hb37 H; refine WC_skip ?_; refine WC_seq ?_; obtain ⟨q46, hq46, H⟩ := bnd H; refine WC_cut (fun F w => ∃ (Fb : Fr) (G : Gm), F = upds Fb [(4, .bool q46)] ∧ Gle G35 G ∧ Since w0.heap.size G0 w0 G w ∧ Owns G w w0.heap.size []) ?_ ?_
     ·have Hoq46 := H; have H := hq46; refine WC_region ?_; refine WL_val (rn_move (v := (.int .i64 y12.2.2)) rfl) rfl ?_; refine WL_val (rn_eql rfl rfl) rfl ?_; refine WL_val (rn_move (v := (.bool (y12.2.2 == 0))) rfl) rfl ?_
      rcases bcases (y12.2.2 == 0) with hb47 | hb47
      ·have H := ifT hb47 H; refine WL_guardY rfl hb47 rfl rfl ?_; refine WL_val (rn_move (v := (.slice a15 n15 c15)) rfl) rfl ?_; refine WL_guardY rfl hb47 rfl rfl ?_; refine WL_val (rn_move (v := (.slice a36 n36 c36)) rfl) rfl ?_; refine WL_guardY rfl hb47 rfl rfl ?_; obtain ⟨y48, hy48, H⟩ := bnd H
       have l2_4 := leG23.trans leG35
       refine WL_op rfl (OpP_callV cb39 (f39_ok (x0 := y12.1) (x1 := y33.1) hS.sat (h15.mono RInt_mono l2_4) h36 hy48) rfl rfl (fun w49 hb => ?_)); have hS := hS.keep hb; have hO := hO.below hb; refine WL_val (rn_pickT (v := (.bool y48)) rfl hb47 rfl) rfl ?_; refine WL_val (rn_move (v := (.bool y48)) rfl) rfl ?_
       rcases bcases y48 with hb50 | hb50
       ·have H := ifT hb50 H; refine WL_guardY rfl hb50 rfl rfl ?_; refine WL_val (rn_move (v := (.int .i64 y12.2.1)) rfl) rfl ?_; refine WL_guardY rfl hb50 rfl rfl ?_
        have l1_4 := l1_3.trans leG35
        refine WL_val (rn_loadA ag42 (cs := [.slice a1 n1 c1, .slice a2 n2 c2, .int .i64 x0.Gap.Low, .int .i64 x0.Gap.High, .slice a3 n3 c3, .int .i64 x0.Hold]) rfl rfl (fun j v hj => (hS.sat.le l1_4).cell (hcb4.drop_take 0 6 j v hj))) rfl ?_; refine WL_guardY rfl hb50 rfl rfl ?_; refine WL_val (rn_move (v := (.slice a36 n36 c36)) rfl) rfl ?_; refine WL_guardY rfl hb50 rfl rfl ?_; obtain ⟨y51, hy51, H⟩ := bnd H
        have l0_4 := l0_3.trans leG35
        refine WL_op rfl (OpP_callV cb40 (f40_ok (x0 := x0) (x1 := y33.1) hS.sat (h1.mono RInt_mono l0_4) (h2.mono RTSpan_mono l0_4) (h3.mono RTShipLot_mono l0_4) h36 hy51) rfl rfl (fun w52 hb => ?_)); have hS := hS.keep hb; have hO := hO.below hb; refine WL_guardY rfl hb50 rfl rfl ?_; refine WL_val (rn_eql rfl rfl) rfl ?_; refine WL_val (rn_pickT (v := (.bool (y12.2.1 == y51))) rfl hb50 rfl) rfl ?_; refine WL_val (rn_move (v := (.bool (y12.2.1 == y51))) rfl) rfl ?_
        rcases bcases (y12.2.1 == y51) with hb53 | hb53
        ·have H := ifT hb53 H; refine WL_guardY rfl hb53 rfl rfl ?_; obtain ⟨y54, hy54, H⟩ := bnd H; refine WL_op rfl (OpP_callV cb17 (f17_ok  hS.sat  hy54) rfl rfl (fun w55 hb => ?_)); have hS := hS.keep hb; have hO := hO.below hb; refine WL_val (rn_pickT (v := (.bool y54)) rfl hb53 rfl) rfl ?_; refine WL_val (rn_assign (v := (.bool y54)) rfl) rfl ?_; refine WL_nil ?_
         have hO : Owns G35 w55 w0.heap.size ([]) := hO
         have H := Option.some.inj H; subst H
         exact ⟨_, G35, upds_self _ _ ⟨rfl, trivial⟩, Gle.refl _, hS, hO⟩
        ·have H := ifF hb53 H; refine WL_guardN rfl hb53 rfl rfl rfl ?_; refine WL_val (rn_pickF (v := (.bool false)) rfl hb53 rfl) rfl ?_; refine WL_val (rn_assign (v := (.bool false)) rfl) rfl ?_; refine WL_nil ?_
         have hO : Owns G35 w52 w0.heap.size ([]) := hO
         have H := Option.some.inj H; subst H
         exact ⟨_, G35, upds_self _ _ ⟨rfl, trivial⟩, Gle.refl _, hS, hO⟩
       ·have H := ifF hb50 H; refine WL_guardN rfl hb50 rfl rfl rfl ?_; refine WL_guardN rfl hb50 rfl rfl rfl ?_; refine WL_guardN rfl hb50 rfl rfl rfl ?_; refine WL_guardN rfl hb50 rfl rfl rfl ?_; refine WL_guardN rfl hb50 rfl rfl rfl ?_; refine WL_val (rn_pickF (v := (.bool false)) rfl hb50 rfl) rfl ?_; refine WL_val (rn_move (v := (.bool false)) rfl) rfl ?_; refine WL_guardN rfl rfl rfl rfl rfl ?_; refine WL_val (rn_pickF (v := (.bool false)) rfl rfl rfl) rfl ?_; refine WL_val (rn_assign (v := (.bool false)) rfl) rfl ?_; refine WL_nil ?_
        have hO : Owns G35 w49 w0.heap.size ([]) := hO
        have H := Option.some.inj H; subst H
        exact ⟨_, G35, upds_self _ _ ⟨rfl, trivial⟩, Gle.refl _, hS, hO⟩
      ·have H := ifF hb47 H; refine WL_guardN rfl hb47 rfl rfl rfl ?_; refine WL_guardN rfl hb47 rfl rfl rfl ?_; refine WL_guardN rfl hb47 rfl rfl rfl ?_; refine WL_val (rn_pickF (v := (.bool false)) rfl hb47 rfl) rfl ?_; refine WL_val (rn_move (v := (.bool false)) rfl) rfl ?_; refine WL_guardN rfl rfl rfl rfl rfl ?_; refine WL_guardN rfl rfl rfl rfl rfl ?_; refine WL_guardN rfl rfl rfl rfl rfl ?_; refine WL_guardN rfl rfl rfl rfl rfl ?_; refine WL_guardN rfl rfl rfl rfl rfl ?_; refine WL_val (rn_pickF (v := (.bool false)) rfl rfl rfl) rfl ?_; refine WL_val (rn_move (v := (.bool false)) rfl) rfl ?_; refine WL_guardN rfl rfl rfl rfl rfl ?_; refine WL_val (rn_pickF (v := (.bool false)) rfl rfl rfl) rfl ?_; refine WL_val (rn_assign (v := (.bool false)) rfl) rfl ?_; refine WL_nil ?_
       have hO : Owns G35 w34 w0.heap.size ([]) := hO
       have H := Option.some.inj H; subst H
       exact ⟨_, G35, upds_self _ _ ⟨rfl, trivial⟩, Gle.refl _, hS, hO⟩
     ·rintro F w56 ⟨Fb, G57, rfl, leG57, hS, hO⟩
      refine WC_ret ?_
      have H : some q46 = some r := H
      have H := Option.some.inj H; subst H
      exact ⟨rfl, hS.below⟩
end Go.Proofs.Ytajejmbnmphngaa
