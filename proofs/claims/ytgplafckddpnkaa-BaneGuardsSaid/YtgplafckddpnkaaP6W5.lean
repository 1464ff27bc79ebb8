/-
  The walks: each Go function computes its plain function (printed by a program of ours).
-/
import Derived.Test.YtgplafckddpnkaaRd
import Derived.Test.YtgplafckddpnkaaIt
import Derived.Test.YtgplafckddpnkaaP6W4
namespace Go.Proofs.Ytgplafckddpnkaa
open Go.RowKit
set_option linter.unusedVariables false

set_option maxRecDepth 20000
set_option linter.unusedVariables false
set_option maxHeartbeats 1000000 in
theorem f36_ok {G0 : Gm} {w0 : World} (hS0 : Sat G0 w0) {x0 : TBaneSea} {a1 : Option Addr} {n1 c1 : Nat} {a2 : Option Addr} {n2 c2 : Nat} {a3 : Option Addr} {n3 c3 : Nat} (h1 : RSl RInt 1 G0 a1 n1 c1 x0.Infested) (h2 : RSl RInt 1 G0 a2 n2 c2 x0.Clean) (h3 : RSl RTBaneTrip 4 G0 a3 n3 c3 x0.Trips) {r : (List Int) × Bool} (H : f36 x0 = some r) :
  Calls Try.prog 36 #[.agg #[.int .i64 x0.Islets, .slice a1 n1 c1, .slice a2 n2 c2, .slice a3 n3 c3, .int .i64 x0.Wait]] w0 (RetG G0 w0 (fun G v => ∃ (ra0 : Option Addr) (rn0 rc0 : Nat), v = .tuple #[.slice ra0 rn0 rc0, .bool r.2] ∧ RSl RInt 1 G ra0 rn0 rc0 r.1)) := by
 have hS := Since.start hS0
 have hO : Owns G0 w0 w0.heap.size [] := Owns.nil (Nat.le_refl _)
 unfold f36 at H
 refine enter2 (N := 55) (shutG _ _ _) Try.func36 rfl rfl rfl rfl ?_; refine WC_seq ?_; refine WC_region ?_; refine WL_op rfl (OpP_newF (v := fun b => .pointer (some ⟨b, 0, none⟩)) (cs := [.int .i64 x0.Islets, .slice a1 n1 c1, .slice a2 n2 c2, .slice a3 n3 c3, .int .i64 x0.Wait]) (e := 46) (rn_boxA rfl) hS.sat rfl (fun b4 G6 w5 hg hcb4 => ?_)); have hS := hS.grow hg; have hO := hO.grow hg
 have leG6 := hg.le
 refine WL_val (rn_assign (v := (.slice none 0 0)) rfl) rfl ?_; refine WL_val (rn_assign (v := (.bool false)) rfl) rfl ?_; refine WL_nil ?_; refine WC_seq ?_; refine WC_region ?_; refine WL_val (rn_assign (v := (.slice none 0 0)) rfl) rfl ?_; refine WL_nil ?_; refine WC_seq ?_; refine WC_region ?_; refine WL_val (rn_assign (v := (.bool false)) rfl) rfl ?_; refine WL_nil ?_; refine WC_seq ?_; refine WC_seq ?_; refine WC_region ?_; refine WL_val (rn_assign (v := (.int .i64 0)) rfl) rfl ?_; refine WL_nil ?_; obtain ⟨q9, hq9, H⟩ := bnd H; refine WC_cut (fun F w => ∃ (Fb : Fr) (G : Gm) (aq9_0 : Option Addr) (nq9_0 cq9_0 : Nat), F = upds Fb [(4, .slice aq9_0 nq9_0 cq9_0), (5, .bool q9.2)] ∧ Gle G6 G ∧ Since w0.heap.size G0 w0 G w ∧ Owns G w w0.heap.size [] ∧ RSl RInt 1 G aq9_0 nq9_0 cq9_0 q9.1) ?_ ?_
 ·refine WC_block (WC_loop hq9 (fun s7 F w => ∃ (Fb : Fr) (G : Gm) (as7_0 : Option Addr) (ns7_0 cs7_0 : Nat), F = upds Fb [(1, .pointer (some ⟨b4, 0, none⟩)), (4, .slice as7_0 ns7_0 cs7_0), (5, .bool s7.2.1), (6, .int .i64 s7.2.2)] ∧ Gle G6 G ∧ Since w0.heap.size G0 w0 G w ∧ Owns G w w0.heap.size [] ∧ RSl RInt 1 G as7_0 ns7_0 cs7_0 s7.1) ?_ ?_)
  ·have hO : Owns G6 w5 w0.heap.size ([]) := hO
   exact ⟨_, G6, none, 0, 0, upds_self _ _ ⟨rfl, rfl, rfl, rfl, trivial⟩, Gle.refl _, hS, hO, (RSl.nil _ _ _ _)⟩
  ·rintro s7 F w11 t10 ⟨Fb, G12, as7_0, ns7_0, cs7_0, rfl, leG12, hS, hO, hs7_0⟩
   intro H1 hqq9
   have Hoq9 := H; have H := H1
   unfold f36_b0 at H
   refine WC_seq ?_; refine WC_seq ?_; refine WC_region ?_; refine WL_val (rn_move (v := (.int .i64 s7.2.2)) rfl) rfl ?_; refine WL_val (rn_fld fd46_3 rfl) rfl ?_; refine WL_val (rn_load na44 rfl ((hS.sat.le leG12).cell (hcb4 3 _ rfl))) rfl ?_
   have l0_2 := leG6.trans leG12
   refine WL_val (rn_len sl44 rfl rfl (h3.mono RTBaneTrip_mono l0_2).1) rfl ?_; refine WL_val (rn_leq rfl rfl) rfl ?_; refine WL_nil ?_; refine WC_cond rfl (fun hb13 => ?_) (fun hb13 => ?_)
   ·have H := ifT hb13 H; refine WC_skip ?_; refine WC_seq ?_; refine WC_block ?_; refine WC_seq ?_; refine WC_region ?_; refine WL_val (rn_fld fd46_3 rfl) rfl ?_; refine WL_val (rn_load na44 rfl ((hS.sat.le leG12).cell (hcb4 3 _ rfl))) rfl ?_; refine WL_val (rn_len sl44 rfl rfl (h3.mono RTBaneTrip_mono l0_2).1) rfl ?_; refine WL_val (rn_move (v := (.int .i64 s7.2.2)) rfl) rfl ?_; obtain ⟨y14, hy14, H⟩ := bnd H; refine WL_op rfl (OpP_callG cb85 (f85_ok (x0 := (x0.Trips.length : Int)) (x1 := s7.2.2) hS.sat  hy14) rfl rfl (fun vy14 G16 w15 hg hvy14 => ?_)); obtain ⟨a17, n17, c17, ⟨⟩, h17⟩ := hvy14; have hS := hS.grow hg; have hO := hO.grow hg
    have leG16 := hg.le
    refine WL_val (rn_assign (v := (.slice a17 n17 c17)) rfl) rfl ?_; refine WL_nil ?_; refine WC_seq ?_; refine WC_region ?_; refine WL_val (rn_assign (v := (.int .i64 0)) rfl) rfl ?_; refine WL_nil ?_; obtain ⟨q20, hq20, H⟩ := bnd H; refine WC_cut (fun F w => ∃ (Fb : Fr) (G : Gm) (aq20_0 : Option Addr) (nq20_0 cq20_0 : Nat), F = upds Fb [(1, .pointer (some ⟨b4, 0, none⟩)), (4, .slice aq20_0 nq20_0 cq20_0), (5, .bool q20.2), (6, .int .i64 s7.2.2)] ∧ Gle G16 G ∧ Since w0.heap.size G0 w0 G w ∧ Owns G w w0.heap.size [] ∧ RSl RInt 1 G aq20_0 nq20_0 cq20_0 q20.1) ?_ ?_
    ·refine WC_block (WC_loop hq20 (fun s18 F w => ∃ (Fb : Fr) (G : Gm) (as18_0 : Option Addr) (ns18_0 cs18_0 : Nat), F = upds Fb [(1, .pointer (some ⟨b4, 0, none⟩)), (4, .slice as18_0 ns18_0 cs18_0), (5, .bool s18.2.1), (6, .int .i64 s7.2.2), (7, .slice a17 n17 c17), (8, .int .i64 s18.2.2)] ∧ Gle G16 G ∧ Since w0.heap.size G0 w0 G w ∧ Owns G w w0.heap.size [] ∧ RSl RInt 1 G as18_0 ns18_0 cs18_0 s18.1) ?_ ?_)
     ·have hO : Owns G16 w15 w0.heap.size ([]) := hO
      exact ⟨_, G16, as7_0, ns7_0, cs7_0, upds_self _ _ ⟨rfl, rfl, rfl, rfl, rfl, rfl, trivial⟩, Gle.refl _, hS, hO, (hs7_0.mono RInt_mono leG16)⟩
     ·rintro s18 F w22 t21 ⟨Fb, G23, as18_0, ns18_0, cs18_0, rfl, leG23, hS, hO, hs18_0⟩
      intro H1 hqq20
      have Hoq20 := H; have H := H1
      unfold f36_b1 at H
      refine WC_seq ?_; refine WC_seq ?_; refine WC_region ?_; refine WL_val (rn_move (v := (.int .i64 s18.2.2)) rfl) rfl ?_; refine WL_val (rn_move (v := (.slice a17 n17 c17)) rfl) rfl ?_; refine WL_val (rn_len sl26 rfl rfl (h17.mono (RSlice_mono RInt_mono) leG23).1) rfl ?_; refine WL_val (rn_lss rfl rfl) rfl ?_; refine WL_nil ?_; refine WC_cond rfl (fun hb24 => ?_) (fun hb24 => ?_)
      ·have H := ifT hb24 H; refine WC_skip ?_; refine WC_seq ?_; obtain ⟨q25, hq25, H⟩ := bnd H; refine WC_cut (fun F w => ∃ (Fb : Fr) (G : Gm) (aq25_0 : Option Addr) (nq25_0 cq25_0 : Nat), F = upds Fb [(1, .pointer (some ⟨b4, 0, none⟩)), (4, .slice aq25_0 nq25_0 cq25_0), (5, .bool q25.2), (6, .int .i64 s7.2.2), (7, .slice a17 n17 c17), (8, .int .i64 s18.2.2)] ∧ Gle G23 G ∧ Since w0.heap.size G0 w0 G w ∧ Owns G w w0.heap.size [] ∧ RSl RInt 1 G aq25_0 nq25_0 cq25_0 q25.1) ?_ ?_
       ·have Hoq25 := H; have H := hq25; refine WC_block ?_; refine WC_seq ?_; obtain ⟨q26, hq26, H⟩ := bnd H; refine WC_cut (fun F w => ∃ (Fb : Fr) (G : Gm), F = upds Fb [(1, .pointer (some ⟨b4, 0, none⟩)), (4, .slice as18_0 ns18_0 cs18_0), (5, .bool s18.2.1), (6, .int .i64 s7.2.2), (7, .slice a17 n17 c17), (8, .int .i64 s18.2.2), (48, .bool q26)] ∧ Gle G23 G ∧ Since w0.heap.size G0 w0 G w ∧ Owns G w w0.heap.size []) ?_ ?_
        ·have Hoq26 := H; have H := hq26; have hS := hS.keep (below_drew _); have hO := hO.below (below_drew _)
         refine WC_regionD mixedO (fun w => Sat G23 w ∧ True) (.fl 0 (.fl 1 (.on 2 (.on 3 (.on 4 (.on 5 (.on 6 (.on 7 (.on 8 (.on 9 (.fl 10 (.fl 11 (.fl 12 (.fl 13 (.fl 14 (.fl 16 (.fl 17 (.on 15 (.on 18 (.on 19 (.on 20 (.on 21 .nil)))))))))))))))))))))) (by kernel_rfl) rfl (by kernel_rfl) ⟨hS.sat, trivial⟩ ?_
         refine WD_val rfl (fun w hw => rn_loadA ag46 (cs := [.int .i64 x0.Islets, .slice a1 n1 c1, .slice a2 n2 c2, .slice a3 n3 c3, .int .i64 x0.Wait]) rfl rfl (fun j v hj => (hw.1.le ((leG12.trans leG16).trans leG23)).cell (hcb4.drop_take 0 5 j v hj))) rfl ?_; refine WD_val rfl (fun w hw => rn_move (v := (.slice a17 n17 c17)) rfl) rfl ?_; refine WD_op rfl rfl (OpP_val (rn_move (v := (.int .i64 s18.2.2)) rfl) rfl ?_); refine ⟨fun _ => ⟨hS.sat, trivial⟩, ?_⟩; obtain ⟨y27, hy27, H⟩ := bnd H; refine WD_op rfl rfl (OpP_idx sl26 (h17.mono (RSlice_mono RInt_mono) leG23) hy27 rfl rfl rfl ?_)
         rintro b28 o28 _ hcb28 _ ⟨a29, n29, c29, ⟨⟩, h29⟩
         refine ⟨fun _ => ⟨hS.sat, trivial⟩, ?_⟩; refine WD_op rfl rfl (OpP_val (rn_load na25 rfl (hS.sat.cell (hcb28 0 _ rfl))) rfl ?_); refine ⟨fun _ => ⟨hS.sat, trivial⟩, ?_⟩; obtain ⟨y30, hy30, H⟩ := bnd H
         have l0_4 := (l0_2.trans leG16).trans leG23
         refine WD_op rfl rfl (OpP_callV cb84 (f84_ok (x0 := x0) (x1 := y27) hS.sat (h1.mono RInt_mono l0_4) (h2.mono RInt_mono l0_4) (h3.mono RTBaneTrip_mono l0_4) h29 hy30) rfl rfl (fun w31 hb => ?_)); have hS := hS.keep hb; have hO := hO.below hb; refine ⟨fun _ => ⟨hS.sat, trivial⟩, ?_⟩; refine WD_op rfl rfl (OpP_val (rn_move (v := (.bool y30)) rfl) rfl ?_); refine ⟨fun _ => ⟨hS.sat, trivial⟩, ?_⟩
         rcases bcases y30 with hb32 | hb32
         ·have H := ifT hb32 H; refine WD_opY rfl rfl rfl hb32 rfl rfl (OpP_val (rn_move (v := (.bool s18.2.1)) rfl) rfl ?_); refine ⟨fun _ => ⟨hS.sat, trivial⟩, ?_⟩; refine WD_opY rfl rfl rfl hb32 rfl rfl (OpP_val (rn_not rfl) rfl ?_); refine ⟨fun _ => ⟨hS.sat, trivial⟩, ?_⟩; refine WD_opY rfl rfl rfl hb32 rfl rfl (OpP_val (rn_move (v := (.bool (!s18.2.1))) rfl) rfl ?_); refine ⟨fun _ => ⟨hS.sat, trivial⟩, ?_⟩
          rcases bcases (!s18.2.1) with hb33 | hb33
          ·have H := ifT hb33 H; refine WD_skip rfl rfl hb33 rfl rfl rfl ?_; refine WD_skip rfl rfl hb33 rfl rfl rfl ?_; refine WD_skip rfl rfl hb33 rfl rfl rfl ?_; refine WD_skip rfl rfl hb33 rfl rfl rfl ?_; refine WD_skip rfl rfl hb33 rfl rfl rfl ?_; refine WD_skip rfl rfl hb33 rfl rfl rfl ?_; refine WD_skip rfl rfl hb33 rfl rfl rfl ?_; refine WD_skipS rfl rfl hb33 rfl rfl rfl (fun _ => ⟨hS.sat, trivial⟩) ?_
           refine WD_skipS rfl rfl hb33 rfl rfl rfl (fun h => nomore (by kernel_rfl) h) ?_
           refine WD_skipS rfl rfl hb33 rfl rfl rfl (fun h => nomore (by kernel_rfl) h) ?_
           refine WD_opY rfl rfl rfl hb32 rfl rfl (OpP_val (rn_pickT (v := (.bool true)) rfl hb33 rfl) rfl ?_)
           refine ⟨fun h => nomore (by kernel_rfl) h, ?_⟩
           refine WD_op rfl rfl (OpP_val (rn_pickT (v := (.bool true)) rfl hb32 rfl) rfl ?_)
           refine ⟨fun h => nomore (by kernel_rfl) h, ?_⟩
           refine WD_nil ?_
           have hO : Owns G23 w31 w0.heap.size ([]) := hO
           have H := Option.some.inj H; subst H
           exact ⟨_, G23, upds_self _ _ ⟨rfl, rfl, rfl, rfl, rfl, rfl, rfl, trivial⟩, Gle.refl _, hS, hO⟩
          ·have H := ifF hb33 H; refine WD_valY rfl rfl hb33 rfl rfl (fun w hw => rn_loadA ag46 (cs := [.int .i64 x0.Islets, .slice a1 n1 c1, .slice a2 n2 c2, .slice a3 n3 c3, .int .i64 x0.Wait]) rfl rfl (fun j v hj => (hw.1.le ((leG12.trans leG16).trans leG23)).cell (hcb4.drop_take 0 5 j v hj))) rfl ?_; refine WD_valY rfl rfl hb33 rfl rfl (fun w hw => rn_move (v := (.slice a17 n17 c17)) rfl) rfl ?_; refine WD_valY rfl rfl hb33 rfl rfl (fun w hw => rn_move (v := (.int .i64 s18.2.2)) rfl) rfl ?_; refine WD_idxY rfl rfl hb33 rfl rfl sl26 (h17.mono (RSlice_mono RInt_mono) leG23) hy27 rfl rfl rfl ?_
           rintro b34 o34 _ hcb34 _ ⟨a35, n35, c35, ⟨⟩, h35⟩
           refine WD_valY rfl rfl hb33 rfl rfl (fun w hw => rn_load na25 rfl (hw.1.cell (hcb34 0 _ rfl))) rfl ?_; refine WD_valY rfl rfl hb33 rfl rfl (fun w hw => rn_loadA ag46 (cs := [.int .i64 x0.Islets, .slice a1 n1 c1, .slice a2 n2 c2, .slice a3 n3 c3, .int .i64 x0.Wait]) rfl rfl (fun j v hj => (hw.1.le ((leG12.trans leG16).trans leG23)).cell (hcb4.drop_take 0 5 j v hj))) rfl ?_; refine WD_valY rfl rfl hb33 rfl rfl (fun w hw => rn_move (v := (.slice as18_0 ns18_0 cs18_0)) rfl) rfl ?_; obtain ⟨y36, hy36, H⟩ := bnd H; refine WD_opY rfl rfl rfl hb33 rfl rfl (OpP_callV cb37 (f37_ok (x0 := x0) (x1 := y27) hS.sat (h1.mono RInt_mono l0_4) (h2.mono RInt_mono l0_4) (h3.mono RTBaneTrip_mono l0_4) h35 hy36) rfl rfl (fun w37 hb => ?_)); have hS := hS.keep hb; have hO := hO.below hb; refine ⟨fun _ => ⟨hS.sat, trivial⟩, ?_⟩; obtain ⟨y38, hy38, H⟩ := bnd H; refine WD_opY rfl rfl rfl hb33 rfl rfl (OpP_callV cb37 (f37_ok (x0 := x0) (x1 := s18.1) hS.sat (h1.mono RInt_mono l0_4) (h2.mono RInt_mono l0_4) (h3.mono RTBaneTrip_mono l0_4) hs18_0 hy38) rfl rfl (fun w39 hb => ?_)); have hS := hS.keep hb; have hO := hO.below hb
           refine ⟨fun h => nomore (by kernel_rfl) h, ?_⟩
           refine WD_opY rfl rfl rfl hb33 rfl rfl (OpP_val (rn_lss rfl rfl) rfl ?_)
           refine ⟨fun h => nomore (by kernel_rfl) h, ?_⟩
           refine WD_opY rfl rfl rfl hb32 rfl rfl (OpP_val (rn_pickF (v := (.bool (decide (y36 < y38)))) rfl hb33 rfl) rfl ?_)
           refine ⟨fun h => nomore (by kernel_rfl) h, ?_⟩
           refine WD_op rfl rfl (OpP_val (rn_pickT (v := (.bool (decide (y36 < y38)))) rfl hb32 rfl) rfl ?_)
           refine ⟨fun h => nomore (by kernel_rfl) h, ?_⟩
           refine WD_nil ?_
           have hO : Owns G23 w39 w0.heap.size ([]) := hO
           have H := Option.some.inj H; subst H
           exact ⟨_, G23, upds_self _ _ ⟨rfl, rfl, rfl, rfl, rfl, rfl, rfl, trivial⟩, Gle.refl _, hS, hO⟩
         ·have H := ifF hb32 H; refine WD_skipS rfl rfl hb32 rfl rfl rfl (fun _ => ⟨hS.sat, trivial⟩) ?_; refine WD_skipS rfl rfl hb32 rfl rfl rfl (fun _ => ⟨hS.sat, trivial⟩) ?_; refine WD_skipS rfl rfl hb32 rfl rfl rfl (fun _ => ⟨hS.sat, trivial⟩) ?_; refine WD_undefN rfl rfl rfl rfl rfl ?_; refine WD_undefN rfl rfl rfl rfl rfl ?_; refine WD_undefN rfl rfl rfl rfl rfl ?_; refine WD_undefN rfl rfl rfl rfl rfl ?_; refine WD_undefN rfl rfl rfl rfl rfl ?_; refine WD_undefN rfl rfl rfl rfl rfl ?_; refine WD_undefN rfl rfl rfl rfl rfl ?_; refine WD_undefS rfl rfl rfl rfl rfl (fun _ => ⟨hS.sat, trivial⟩) ?_
          refine WD_undefS rfl rfl rfl rfl rfl (fun h => nomore (by kernel_rfl) h) ?_
          refine WD_undefS rfl rfl rfl rfl rfl (fun h => nomore (by kernel_rfl) h) ?_
          refine WD_skipS rfl rfl hb32 rfl rfl rfl (fun h => nomore (by kernel_rfl) h) ?_
          refine WD_op rfl rfl (OpP_val (rn_pickF (v := (.bool false)) rfl hb32 rfl) rfl ?_)
          refine ⟨fun h => nomore (by kernel_rfl) h, ?_⟩
          refine WD_nil ?_
          have hO : Owns G23 w31 w0.heap.size ([]) := hO
          have H := Option.some.inj H; subst H
          exact ⟨_, G23, upds_self _ _ ⟨rfl, rfl, rfl, rfl, rfl, rfl, rfl, trivial⟩, Gle.refl _, hS, hO⟩
        ·rintro F w40 ⟨Fb, G41, rfl, leG41, hS, hO⟩
         refine WC_cond rfl (fun hb42 => ?_) (fun hb42 => ?_)
         ·have H := ifT hb42 H; refine WC_region ?_; refine WL_val (rn_move (v := (.slice a17 n17 c17)) rfl) rfl ?_; refine WL_val (rn_move (v := (.int .i64 s18.2.2)) rfl) rfl ?_; obtain ⟨y43, hy43, H⟩ := bnd H
          have l3_5 := leG23.trans leG41
          refine WL_idx sl26 (h17.mono (RSlice_mono RInt_mono) l3_5) hy43 rfl rfl rfl ?_
          rintro b44 o44 _ hcb44 _ ⟨a45, n45, c45, ⟨⟩, h45⟩
          refine WL_val (rn_load na25 rfl (hS.sat.cell (hcb44 0 _ rfl))) rfl ?_; refine WL_val (rn_assign (v := (.slice a45 n45 c45)) rfl) rfl ?_; refine WL_val (rn_assign (v := (.bool true)) rfl) rfl ?_; refine WL_nil ?_
          have hO : Owns G41 w40 w0.heap.size ([]) := hO
          have H := Option.some.inj H; subst H
          exact ⟨_, G41, a45, n45, c45, upds_self _ _ ⟨rfl, rfl, rfl, rfl, rfl, rfl, trivial⟩, leG41, hS, hO, h45⟩
         ·have H := ifF hb42 H; refine WC_skip ?_
          have hO : Owns G41 w40 w0.heap.size ([]) := hO
          have H := Option.some.inj H; subst H
          exact ⟨_, G41, as18_0, ns18_0, cs18_0, upds_self _ _ ⟨rfl, rfl, rfl, rfl, rfl, rfl, trivial⟩, leG41, hS, hO, (hs18_0.mono RInt_mono leG41)⟩
       ·rintro F w46 ⟨Fb, G47, aq25_0, nq25_0, cq25_0, rfl, leG47, hS, hO, hq25_0⟩
        refine WC_region ?_; refine WL_val (rn_move (v := (.int .i64 s18.2.2)) rfl) rfl ?_; refine WL_val (rn_add rfl rfl) rfl ?_; refine WL_val (rn_assign (v := (.int .i64 (IntKind.i64.wrap (s18.2.2 + 1)))) rfl) rfl ?_; refine WL_nil ?_
        have hO : Owns G47 w46 w0.heap.size ([]) := hO
        have H := Option.some.inj H; subst H; refine ⟨_, rfl, ?_⟩
        have l3_5 := leG23.trans leG47
        exact ⟨_, G47, aq25_0, nq25_0, cq25_0, upds_self _ _ ⟨rfl, rfl, rfl, rfl, rfl, rfl, trivial⟩, l3_5, hS, hO, hq25_0⟩
      ·have H := ifF hb24 H; refine WC_exit rfl ?_
       have hO : Owns G23 w22 w0.heap.size ([]) := hO
       have H := Option.some.inj H; subst H
       have hres := hqq20 _ rfl
       subst hres
       exact ⟨_, G23, as18_0, ns18_0, cs18_0, upds_self _ _ ⟨rfl, rfl, rfl, rfl, trivial⟩, leG23, hS, hO, hs18_0⟩
    ·rintro F w48 ⟨Fb, G49, aq20_0, nq20_0, cq20_0, rfl, leG49, hS, hO, hq20_0⟩
     refine WC_region ?_; refine WL_val (rn_move (v := (.int .i64 s7.2.2)) rfl) rfl ?_; refine WL_val (rn_add rfl rfl) rfl ?_; refine WL_val (rn_assign (v := (.int .i64 (IntKind.i64.wrap (s7.2.2 + 1)))) rfl) rfl ?_; refine WL_nil ?_
     have hO : Owns G49 w48 w0.heap.size ([]) := hO
     have H := Option.some.inj H; subst H; refine ⟨_, rfl, ?_⟩
     have l1_4 := (leG12.trans leG16).trans leG49
     exact ⟨_, G49, aq20_0, nq20_0, cq20_0, upds_self _ _ ⟨rfl, rfl, rfl, rfl, trivial⟩, l1_4, hS, hO, hq20_0⟩
   ·have H := ifF hb13 H; refine WC_exit rfl ?_
    have hO : Owns G12 w11 w0.heap.size ([]) := hO
    have H := Option.some.inj H; subst H
    have hres := hqq9 _ rfl
    subst hres
    exact ⟨_, G12, as7_0, ns7_0, cs7_0, upds_self _ _ ⟨rfl, rfl, trivial⟩, leG12, hS, hO, hs7_0⟩
 ·rintro F w50 ⟨Fb, G51, aq9_0, nq9_0, cq9_0, rfl, leG51, hS, hO, hq9_0⟩
  refine WC_seq ?_; refine WC_region ?_; refine WL_val (rn_move (v := (.slice aq9_0 nq9_0 cq9_0)) rfl) rfl ?_; refine WL_val (rn_move (v := (.bool q9.2)) rfl) rfl ?_; refine WL_val (rn_assign (v := (.slice aq9_0 nq9_0 cq9_0)) rfl) rfl ?_; refine WL_val (rn_assign (v := (.bool q9.2)) rfl) rfl ?_; refine WL_nil ?_; refine WC_ret ?_
  have H : some (q9.1, q9.2) = some r := H
  have H := Option.some.inj H; subst H
  exact ⟨_, _, rfl, hS.toGrow, _, _, _, rfl, hq9_0⟩
set_option maxHeartbeats 1000000 in
theorem f6_ok {G0 : Gm} {w0 : World} (hS0 : Sat G0 w0) {x0 : TBaneSea} {a1 : Option Addr} {n1 c1 : Nat} {a2 : Option Addr} {n2 c2 : Nat} {a3 : Option Addr} {n3 c3 : Nat} (h1 : RSl RInt 1 G0 a1 n1 c1 x0.Infested) (h2 : RSl RInt 1 G0 a2 n2 c2 x0.Clean) (h3 : RSl RTBaneTrip 4 G0 a3 n3 c3 x0.Trips) {r : Bool} (H : f6 x0 = some r) :
  Calls Try.prog 6 #[.agg #[.int .i64 x0.Islets, .slice a1 n1 c1, .slice a2 n2 c2, .slice a3 n3 c3, .int .i64 x0.Wait]] w0 (RetV w0 (.bool r)) := by
 have hS := Since.start hS0
 have hO : Owns G0 w0 w0.heap.size [] := Owns.nil (Nat.le_refl _)
 unfold f6 at H
 refine enter1 (N := 124) (shutV _ _) Try.func6 rfl rfl rfl rfl ?_; refine WC_seq ?_; refine WC_region ?_; refine WL_op rfl (OpP_newF (v := fun b => .pointer (some ⟨b, 0, none⟩)) (cs := [.int .i64 x0.Islets, .slice a1 n1 c1, .slice a2 n2 c2, .slice a3 n3 c3, .int .i64 x0.Wait]) (e := 46) (rn_boxA rfl) hS.sat rfl (fun b4 G6 w5 hg hcb4 => ?_)); have hS := hS.grow hg; have hO := hO.grow hg
 have leG6 := hg.le
 refine WL_val (rn_assign (v := (.bool false)) rfl) rfl ?_; refine WL_nil ?_; refine WC_seq ?_; refine WC_seq ?_; obtain ⟨q7, hq7, H⟩ := bnd H; refine WC_cut (fun F w => ∃ (Fb : Fr) (G : Gm), F = upds Fb [(1, .pointer (some ⟨b4, 0, none⟩)), (23, .bool q7)] ∧ Gle G6 G ∧ Since w0.heap.size G0 w0 G w ∧ Owns G w w0.heap.size []) ?_ ?_
 ·have Hoq7 := H; have H := hq7; refine WC_region ?_; refine WL_val (rn_loadA ag46 (cs := [.int .i64 x0.Islets, .slice a1 n1 c1, .slice a2 n2 c2, .slice a3 n3 c3, .int .i64 x0.Wait]) rfl rfl (fun j v hj => hS.sat.cell (hcb4.drop_take 0 5 j v hj))) rfl ?_; obtain ⟨y8, hy8, H⟩ := bnd H; refine WL_op rfl (OpP_callV cb27 (f27_ok (x0 := x0) hS.sat (h1.mono RInt_mono leG6) (h2.mono RInt_mono leG6) (h3.mono RTBaneTrip_mono leG6) hy8) rfl rfl (fun w9 hb => ?_)); have hS := hS.keep hb; have hO := hO.below hb; refine WL_val (rn_not rfl) rfl ?_; refine WL_val (rn_move (v := (.bool (!y8))) rfl) rfl ?_
  rcases bcases (!y8) with hb10 | hb10
  ·have H := ifT hb10 H; refine WL_guardN rfl hb10 rfl rfl rfl ?_; refine WL_guardN rfl hb10 rfl rfl rfl ?_; refine WL_guardN rfl hb10 rfl rfl rfl ?_; refine WL_guardU rfl rfl rfl rfl ?_; refine WL_guardU rfl rfl rfl rfl ?_; refine WL_guardU rfl rfl rfl rfl ?_; refine WL_guardU rfl rfl rfl rfl ?_; refine WL_guardN rfl hb10 rfl rfl rfl ?_; refine WL_val (rn_pickT (v := (.bool true)) rfl hb10 rfl) rfl ?_; refine WL_nil ?_
   have hO : Owns G6 w9 w0.heap.size ([]) := hO
   have H := Option.some.inj H; subst H
   exact ⟨_, G6, upds_self _ _ ⟨rfl, rfl, trivial⟩, Gle.refl _, hS, hO⟩
  ·have H := ifF hb10 H; refine WL_guardY rfl hb10 rfl rfl ?_; refine WL_val (rn_loadA ag46 (cs := [.int .i64 x0.Islets, .slice a1 n1 c1, .slice a2 n2 c2, .slice a3 n3 c3, .int .i64 x0.Wait]) rfl rfl (fun j v hj => hS.sat.cell (hcb4.drop_take 0 5 j v hj))) rfl ?_; refine WL_guardY rfl hb10 rfl rfl ?_; obtain ⟨y11, hy11, H⟩ := bnd H; refine WL_op rfl (OpP_callV cb28 (f28_ok (x0 := x0) hS.sat (h1.mono RInt_mono leG6) (h2.mono RInt_mono leG6) (h3.mono RTBaneTrip_mono leG6) hy11) rfl rfl (fun w12 hb => ?_)); have hS := hS.keep hb; have hO := hO.below hb; refine WL_guardY rfl hb10 rfl rfl ?_; refine WL_val (rn_move (v := (.bool y11)) rfl) rfl ?_
   rcases bcases y11 with hb13 | hb13
   ·have H := ifT hb13 H; refine WL_guardY rfl hb13 rfl rfl ?_; refine WL_val (rn_fld fd46_3 rfl) rfl ?_; refine WL_guardY rfl hb13 rfl rfl ?_; refine WL_val (rn_load na44 rfl (hS.sat.cell (hcb4 3 _ rfl))) rfl ?_; refine WL_guardY rfl hb13 rfl rfl ?_; refine WL_val (rn_len sl44 rfl rfl (h3.mono RTBaneTrip_mono leG6).1) rfl ?_; refine WL_guardY rfl hb13 rfl rfl ?_; refine WL_val (rn_gtr rfl rfl) rfl ?_; refine WL_guardY rfl hb10 rfl rfl ?_; refine WL_val (rn_pickT (v := (.bool (decide (7 < (x0.Trips.length : Int))))) rfl hb13 rfl) rfl ?_; refine WL_val (rn_pickF (v := (.bool (decide (7 < (x0.Trips.length : Int))))) rfl hb10 rfl) rfl ?_; refine WL_nil ?_
    have hO : Owns G6 w12 w0.heap.size ([]) := hO
    have H := Option.some.inj H; subst H
    exact ⟨_, G6, upds_self _ _ ⟨rfl, rfl, trivial⟩, Gle.refl _, hS, hO⟩
   ·have H := ifF hb13 H; refine WL_guardN rfl hb13 rfl rfl rfl ?_; refine WL_guardN rfl hb13 rfl rfl rfl ?_; refine WL_guardN rfl hb13 rfl rfl rfl ?_; refine WL_guardN rfl hb13 rfl rfl rfl ?_; refine WL_guardY rfl hb10 rfl rfl ?_; refine WL_val (rn_pickF (v := (.bool false)) rfl hb13 rfl) rfl ?_; refine WL_val (rn_pickF (v := (.bool false)) rfl hb10 rfl) rfl ?_; refine WL_nil ?_
    have hO : Owns G6 w12 w0.heap.size ([]) := hO
    have H := Option.some.inj H; subst H
    exact ⟨_, G6, upds_self _ _ ⟨rfl, rfl, trivial⟩, Gle.refl _, hS, hO⟩
 ·rintro F w14 ⟨Fb, G15, rfl, leG15, hS, hO⟩
  refine WC_cond rfl (fun hb16 => ?_) (fun hb16 => ?_)
  ·have H := ifT hb16 H; refine WC_seq ?_; refine WC_region ?_; obtain ⟨y17, hy17, H⟩ := bnd H; refine WL_op rfl (OpP_callV cb19 (f19_ok  hS.sat  hy17) rfl rfl (fun w18 hb => ?_)); have hS := hS.keep hb; have hO := hO.below hb; refine WL_val (rn_assign (v := (.bool y17)) rfl) rfl ?_; refine WL_nil ?_; refine WC_ret ?_
   have H : some y17 = some r := H
   have H := Option.some.inj H; subst H
   exact ⟨rfl, hS.below⟩
  ·have H := ifF hb16 H; refine WC_skip ?_; refine WC_seq ?_; refine WC_region ?_; refine WL_val (rn_loadA ag46 (cs := [.int .i64 x0.Islets, .slice a1 n1 c1, .slice a2 n2 c2, .slice a3 n3 c3, .int .i64 x0.Wait]) rfl rfl (fun j v hj => (hS.sat.le leG15).cell (hcb4.drop_take 0 5 j v hj))) rfl ?_; obtain ⟨y19, hy19, H⟩ := bnd H
   have l0_2 := leG6.trans leG15
   refine WL_op rfl (OpP_callG cb33 (f33_ok (x0 := x0) hS.sat (h1.mono RInt_mono l0_2) (h2.mono RInt_mono l0_2) (h3.mono RTBaneTrip_mono l0_2) hy19) rfl rfl (fun vy19 G21 w20 hg hvy19 => ?_)); obtain ⟨a22, n22, c22, ⟨⟩, h22⟩ := hvy19; have hS := hS.grow hg; have hO := hO.grow hg
   have leG21 := hg.le
   refine WL_val (rn_move (v := (.tuple #[.slice a22 n22 c22, .int .i64 y19.2.1, .int .i64 y19.2.2])) rfl) rfl ?_; refine WL_val (rn_extract (v := (.slice a22 n22 c22)) rfl rfl) rfl ?_; refine WL_val (rn_extract (v := (.int .i64 y19.2.1)) rfl rfl) rfl ?_; refine WL_val (rn_extract (v := (.int .i64 y19.2.2)) rfl rfl) rfl ?_; refine WL_val (rn_assign (v := (.slice a22 n22 c22)) rfl) rfl ?_; refine WL_val (rn_assign (v := (.int .i64 y19.2.1)) rfl) rfl ?_; refine WL_val (rn_assign (v := (.int .i64 y19.2.2)) rfl) rfl ?_; refine WL_nil ?_; refine WC_seq ?_; refine WC_region ?_
   have l1_3 := leG15.trans leG21
   refine WL_val (rn_loadA ag46 (cs := [.int .i64 x0.Islets, .slice a1 n1 c1, .slice a2 n2 c2, .slice a3 n3 c3, .int .i64 x0.Wait]) rfl rfl (fun j v hj => (hS.sat.le l1_3).cell (hcb4.drop_take 0 5 j v hj))) rfl ?_; obtain ⟨y23, hy23, H⟩ := bnd H
   have l0_3 := l0_2.trans leG21
   refine WL_op rfl (OpP_callV cb34 (f34_ok (x0 := x0) hS.sat (h1.mono RInt_mono l0_3) (h2.mono RInt_mono l0_3) (h3.mono RTBaneTrip_mono l0_3) hy23) rfl rfl (fun w24 hb => ?_)); have hS := hS.keep hb; have hO := hO.below hb; refine WL_val (rn_move (v := (.tuple #[.int .i64 y23.1, .int .i64 y23.2])) rfl) rfl ?_; refine WL_val (rn_extract (v := (.int .i64 y23.1)) rfl rfl) rfl ?_; refine WL_val (rn_extract (v := (.int .i64 y23.2)) rfl rfl) rfl ?_; refine WL_val (rn_assign (v := (.int .i64 y23.1)) rfl) rfl ?_; refine WL_val (rn_assign (v := (.int .i64 y23.2)) rfl) rfl ?_; refine WL_nil ?_; refine WC_seq ?_; refine WC_seq ?_; refine WC_region ?_; refine WL_val (rn_loadA ag46 (cs := [.int .i64 x0.Islets, .slice a1 n1 c1, .slice a2 n2 c2, .slice a3 n3 c3, .int .i64 x0.Wait]) rfl rfl (fun j v hj => (hS.sat.le l1_3).cell (hcb4.drop_take 0 5 j v hj))) rfl ?_; obtain ⟨y25, hy25, H⟩ := bnd H; refine WL_op rfl (OpP_callV cb28 (f28_ok (x0 := x0) hS.sat (h1.mono RInt_mono l0_3) (h2.mono RInt_mono l0_3) (h3.mono RTBaneTrip_mono l0_3) hy25) rfl rfl (fun w26 hb => ?_)); have hS := hS.keep hb; have hO := hO.below hb; refine WL_val (rn_not rfl) rfl ?_; refine WL_nil ?_; refine WC_cond rfl (fun hb27 => ?_) (fun hb27 => ?_)
   ·have H := ifT hb27 H; refine WC_seq ?_; obtain ⟨q28, hq28, H⟩ := bnd H; refine WC_cut (fun F w => ∃ (Fb : Fr) (G : Gm), F = upds Fb [(2, .bool q28)] ∧ Gle G21 G ∧ Since w0.heap.size G0 w0 G w ∧ Owns G w w0.heap.size []) ?_ ?_
    ·have Hoq28 := H; have H := hq28; refine WC_region ?_; refine WL_val (rn_move (v := (.int .i64 y19.2.2)) rfl) rfl ?_; refine WL_val (rn_eql rfl rfl) rfl ?_; refine WL_val (rn_move (v := (.bool (y19.2.2 == 2))) rfl) rfl ?_
     rcases bcases (y19.2.2 == 2) with hb29 | hb29
     ·have H := ifT hb29 H; refine WL_guardY rfl hb29 rfl rfl ?_; refine WL_val (rn_move (v := (.int .i64 y23.2)) rfl) rfl ?_; refine WL_guardY rfl hb29 rfl rfl ?_; refine WL_val (rn_eql rfl rfl) rfl ?_; refine WL_val (rn_pickT (v := (.bool (y23.2 == 2))) rfl hb29 rfl) rfl ?_; refine WL_val (rn_move (v := (.bool (y23.2 == 2))) rfl) rfl ?_
      rcases bcases (y23.2 == 2) with hb30 | hb30
      ·have H := ifT hb30 H; refine WL_guardY rfl hb30 rfl rfl ?_; refine WL_val (rn_move (v := (.slice a22 n22 c22)) rfl) rfl ?_; refine WL_guardY rfl hb30 rfl rfl ?_; refine WL_val (rn_len sl25 rfl rfl h22.1) rfl ?_; refine WL_guardY rfl hb30 rfl rfl ?_; refine WL_val (rn_eql rfl rfl) rfl ?_; refine WL_val (rn_pickT (v := (.bool ((y19.1.length : Int) == 0))) rfl hb30 rfl) rfl ?_; refine WL_val (rn_move (v := (.bool ((y19.1.length : Int) == 0))) rfl) rfl ?_
       rcases bcases ((y19.1.length : Int) == 0) with hb31 | hb31
       ·have H := ifT hb31 H; refine WL_guardY rfl hb31 rfl rfl ?_; refine WL_val (rn_move (v := (.int .i64 y19.2.1)) rfl) rfl ?_; refine WL_guardY rfl hb31 rfl rfl ?_; refine WL_val (rn_eql rfl rfl) rfl ?_; refine WL_val (rn_pickT (v := (.bool (y19.2.1 == 0))) rfl hb31 rfl) rfl ?_; refine WL_val (rn_move (v := (.bool (y19.2.1 == 0))) rfl) rfl ?_
        rcases bcases (y19.2.1 == 0) with hb32 | hb32
        ·have H := ifT hb32 H; refine WL_guardY rfl hb32 rfl rfl ?_; refine WL_val (rn_move (v := (.int .i64 y23.1)) rfl) rfl ?_; refine WL_guardY rfl hb32 rfl rfl ?_; refine WL_val (rn_eql rfl rfl) rfl ?_; refine WL_val (rn_pickT (v := (.bool (y23.1 == 0))) rfl hb32 rfl) rfl ?_; refine WL_val (rn_move (v := (.bool (y23.1 == 0))) rfl) rfl ?_
         rcases bcases (y23.1 == 0) with hb33 | hb33
         ·have H := ifT hb33 H; refine WL_guardY rfl hb33 rfl rfl ?_; obtain ⟨y34, hy34, H⟩ := bnd H; refine WL_op rfl (OpP_callV cb19 (f19_ok  hS.sat  hy34) rfl rfl (fun w35 hb => ?_)); have hS := hS.keep hb; have hO := hO.below hb; refine WL_val (rn_pickT (v := (.bool y34)) rfl hb33 rfl) rfl ?_; refine WL_val (rn_assign (v := (.bool y34)) rfl) rfl ?_; refine WL_nil ?_
          have hO : Owns G21 w35 w0.heap.size ([]) := hO
          have H := Option.some.inj H; subst H
          exact ⟨_, G21, upds_self _ _ ⟨rfl, trivial⟩, Gle.refl _, hS, hO⟩
         ·have H := ifF hb33 H; refine WL_guardN rfl hb33 rfl rfl rfl ?_; refine WL_val (rn_pickF (v := (.bool false)) rfl hb33 rfl) rfl ?_; refine WL_val (rn_assign (v := (.bool false)) rfl) rfl ?_; refine WL_nil ?_
          have hO : Owns G21 w26 w0.heap.size ([]) := hO
          have H := Option.some.inj H; subst H
          exact ⟨_, G21, upds_self _ _ ⟨rfl, trivial⟩, Gle.refl _, hS, hO⟩
        ·have H := ifF hb32 H; refine WL_guardN rfl hb32 rfl rfl rfl ?_; refine WL_guardN rfl hb32 rfl rfl rfl ?_; refine WL_val (rn_pickF (v := (.bool false)) rfl hb32 rfl) rfl ?_; refine WL_val (rn_move (v := (.bool false)) rfl) rfl ?_; refine WL_guardN rfl rfl rfl rfl rfl ?_; refine WL_val (rn_pickF (v := (.bool false)) rfl rfl rfl) rfl ?_; refine WL_val (rn_assign (v := (.bool false)) rfl) rfl ?_; refine WL_nil ?_
         have hO : Owns G21 w26 w0.heap.size ([]) := hO
         have H := Option.some.inj H; subst H
         exact ⟨_, G21, upds_self _ _ ⟨rfl, trivial⟩, Gle.refl _, hS, hO⟩
       ·have H := ifF hb31 H; refine WL_guardN rfl hb31 rfl rfl rfl ?_; refine WL_guardN rfl hb31 rfl rfl rfl ?_; refine WL_val (rn_pickF (v := (.bool false)) rfl hb31 rfl) rfl ?_; refine WL_val (rn_move (v := (.bool false)) rfl) rfl ?_; refine WL_guardN rfl rfl rfl rfl rfl ?_; refine WL_guardN rfl rfl rfl rfl rfl ?_; refine WL_val (rn_pickF (v := (.bool false)) rfl rfl rfl) rfl ?_; refine WL_val (rn_move (v := (.bool false)) rfl) rfl ?_; refine WL_guardN rfl rfl rfl rfl rfl ?_; refine WL_val (rn_pickF (v := (.bool false)) rfl rfl rfl) rfl ?_; refine WL_val (rn_assign (v := (.bool false)) rfl) rfl ?_; refine WL_nil ?_
        have hO : Owns G21 w26 w0.heap.size ([]) := hO
        have H := Option.some.inj H; subst H
        exact ⟨_, G21, upds_self _ _ ⟨rfl, trivial⟩, Gle.refl _, hS, hO⟩
      ·have H := ifF hb30 H; refine WL_guardN rfl hb30 rfl rfl rfl ?_; refine WL_guardN rfl hb30 rfl rfl rfl ?_; refine WL_guardN rfl hb30 rfl rfl rfl ?_; refine WL_val (rn_pickF (v := (.bool false)) rfl hb30 rfl) rfl ?_; refine WL_val (rn_move (v := (.bool false)) rfl) rfl ?_; refine WL_guardN rfl rfl rfl rfl rfl ?_; refine WL_guardN rfl rfl rfl rfl rfl ?_; refine WL_val (rn_pickF (v := (.bool false)) rfl rfl rfl) rfl ?_; refine WL_val (rn_move (v := (.bool false)) rfl) rfl ?_; refine WL_guardN rfl rfl rfl rfl rfl ?_; refine WL_guardN rfl rfl rfl rfl rfl ?_; refine WL_val (rn_pickF (v := (.bool false)) rfl rfl rfl) rfl ?_; refine WL_val (rn_move (v := (.bool false)) rfl) rfl ?_; refine WL_guardN rfl rfl rfl rfl rfl ?_; refine WL_val (rn_pickF (v := (.bool false)) rfl rfl rfl) rfl ?_; refine WL_val (rn_assign (v := (.bool false)) rfl) rfl ?_; refine WL_nil ?_
       have hO : Owns G21 w26 w0.heap.size ([]) := hO
       have H := Option.some.inj H; subst H
       exact ⟨_, G21, upds_self _ _ ⟨rfl, trivial⟩, Gle.refl _, hS, hO⟩
     ·have H := ifF hb29 H; refine WL_guardN rfl hb29 rfl rfl rfl ?_; refine WL_guardN rfl hb29 rfl rfl rfl ?_; refine WL_val (rn_pickF (v := (.bool false)) rfl hb29 rfl) rfl ?_; refine WL_val (rn_move (v := (.bool false)) rfl) rfl ?_; refine WL_guardN rfl rfl rfl rfl rfl ?_; refine WL_guardN rfl rfl rfl rfl rfl ?_; refine WL_guardN rfl rfl rfl rfl rfl ?_; refine WL_val (rn_pickF (v := (.bool false)) rfl rfl rfl) rfl ?_; refine WL_val (rn_move (v := (.bool false)) rfl) rfl ?_; refine WL_guardN rfl rfl rfl rfl rfl ?_; refine WL_guardN rfl rfl rfl rfl rfl ?_; refine WL_val (rn_pickF (v := (.bool false)) rfl rfl rfl) rfl ?_; refine WL_val (rn_move (v := (.bool false)) rfl) rfl ?_; refine WL_guardN rfl rfl rfl rfl rfl ?_; refine WL_guardN rfl rfl rfl rfl rfl ?_; refine WL_val (rn_pickF (v := (.bool false)) rfl rfl rfl) rfl ?_; refine WL_val (rn_move (v := (.bool false)) rfl) rfl ?_; refine WL_guardN rfl rfl rfl rfl rfl ?_; refine WL_val (rn_pickF (v := (.bool false)) rfl rfl rfl) rfl ?_; refine WL_val (rn_assign (v := (.bool false)) rfl) rfl ?_; refine WL_nil ?_
      have hO : Owns G21 w26 w0.heap.size ([]) := hO
      have H := Option.some.inj H; subst H
      exact ⟨_, G21, upds_self _ _ ⟨rfl, trivial⟩, Gle.refl _, hS, hO⟩
    ·rintro F w36 ⟨Fb, G37, rfl, leG37, hS, hO⟩
     refine WC_ret ?_
     have H : some q28 = some r := H
     have H := Option.some.inj H; subst H
     exact ⟨rfl, hS.below⟩
   ·have H := ifF hb27 H; refine WC_skip ?_; refine WC_seq ?_; refine WC_region ?_; refine WL_val (rn_loadA ag46 (cs := [.int .i64 x0.Islets, .slice a1 n1 c1, .slice a2 n2 c2, .slice a3 n3 c3, .int .i64 x0.Wait]) rfl rfl (fun j v hj => (hS.sat.le l1_3).cell (hcb4.drop_take 0 5 j v hj))) rfl ?_; obtain ⟨y38, hy38, H⟩ := bnd H; refine WL_op rfl (OpP_callV cb35 (f35_ok (x0 := x0) hS.sat (h1.mono RInt_mono l0_3) (h2.mono RInt_mono l0_3) (h3.mono RTBaneTrip_mono l0_3) hy38) rfl rfl (fun w39 hb => ?_)); have hS := hS.keep hb; have hO := hO.below hb; refine WL_val (rn_assign (v := (.int .i64 y38)) rfl) rfl ?_; refine WL_nil ?_; refine WC_seq ?_; refine WC_seq ?_; obtain ⟨q40, hq40, H⟩ := bnd H; refine WC_cut (fun F w => ∃ (Fb : Fr), F = upds Fb [(1, .pointer (some ⟨b4, 0, none⟩)), (3, .slice a22 n22 c22), (4, .int .i64 y19.2.1), (5, .int .i64 y19.2.2), (85, .bool q40)] ∧ w39 = w) ?_ ?_
    ·have Hoq40 := H; have H := hq40; refine WC_region ?_; refine WL_val (rn_move (v := (.int .i64 y38)) rfl) rfl ?_; refine WL_val (rn_lss rfl rfl) rfl ?_; refine WL_val (rn_move (v := (.bool (decide (y38 < 0)))) rfl) rfl ?_
     rcases bcases (decide (y38 < 0)) with hb41 | hb41
     ·have H := ifT hb41 H; refine WL_guardY rfl hb41 rfl rfl ?_; refine WL_val (rn_move (v := (.int .i64 y23.2)) rfl) rfl ?_; refine WL_guardY rfl hb41 rfl rfl ?_; refine WL_val (rn_neq rfl rfl) rfl ?_; refine WL_guardY rfl hb41 rfl rfl ?_; refine WL_val (rn_move (v := (.bool (y23.2 != 5))) rfl) rfl ?_
      rcases bcases (y23.2 != 5) with hb42 | hb42
      ·have H := ifT hb42 H; refine WL_guardN rfl hb42 rfl rfl rfl ?_; refine WL_guardN rfl hb42 rfl rfl rfl ?_; refine WL_guardY rfl hb41 rfl rfl ?_; refine WL_val (rn_pickT (v := (.bool true)) rfl hb42 rfl) rfl ?_; refine WL_val (rn_pickT (v := (.bool true)) rfl hb41 rfl) rfl ?_; refine WL_val (rn_move (v := (.bool true)) rfl) rfl ?_; refine WL_guardN rfl rfl rfl rfl rfl ?_; refine WL_guardN rfl rfl rfl rfl rfl ?_; refine WL_guardN rfl rfl rfl rfl rfl ?_; refine WL_guardU rfl rfl rfl rfl ?_; refine WL_guardU rfl rfl rfl rfl ?_; refine WL_guardU rfl rfl rfl rfl ?_; refine WL_guardU rfl rfl rfl rfl ?_; refine WL_guardU rfl rfl rfl rfl ?_; refine WL_guardU rfl rfl rfl rfl ?_; refine WL_guardU rfl rfl rfl rfl ?_; refine WL_guardN rfl rfl rfl rfl rfl ?_; refine WL_val (rn_pickT (v := (.bool true)) rfl rfl rfl) rfl ?_; refine WL_nil ?_; have H := Option.some.inj H; subst H
       exact ⟨_, upds_self _ _ ⟨rfl, rfl, rfl, rfl, rfl, trivial⟩, rfl⟩
      ·have H := ifF hb42 H; refine WL_guardY rfl hb42 rfl rfl ?_; refine WL_val (rn_move (v := (.int .i64 y23.1)) rfl) rfl ?_; refine WL_guardY rfl hb42 rfl rfl ?_; refine WL_val (rn_neq rfl rfl) rfl ?_; refine WL_guardY rfl hb41 rfl rfl ?_; refine WL_val (rn_pickF (v := (.bool (y23.1 != 0))) rfl hb42 rfl) rfl ?_; refine WL_val (rn_pickT (v := (.bool (y23.1 != 0))) rfl hb41 rfl) rfl ?_; refine WL_val (rn_move (v := (.bool (y23.1 != 0))) rfl) rfl ?_
       rcases bcases (y23.1 != 0) with hb43 | hb43
       ·have H := ifT hb43 H; refine WL_guardN rfl hb43 rfl rfl rfl ?_; refine WL_guardN rfl hb43 rfl rfl rfl ?_; refine WL_guardN rfl hb43 rfl rfl rfl ?_; refine WL_guardU rfl rfl rfl rfl ?_; refine WL_guardU rfl rfl rfl rfl ?_; refine WL_guardU rfl rfl rfl rfl ?_; refine WL_guardU rfl rfl rfl rfl ?_; refine WL_guardU rfl rfl rfl rfl ?_; refine WL_guardU rfl rfl rfl rfl ?_; refine WL_guardU rfl rfl rfl rfl ?_; refine WL_guardN rfl hb43 rfl rfl rfl ?_; refine WL_val (rn_pickT (v := (.bool true)) rfl hb43 rfl) rfl ?_; refine WL_nil ?_; have H := Option.some.inj H; subst H
        exact ⟨_, upds_self _ _ ⟨rfl, rfl, rfl, rfl, rfl, trivial⟩, rfl⟩
       ·have H := ifF hb43 H; refine WL_guardY rfl hb43 rfl rfl ?_; refine WL_val (rn_move (v := (.int .i64 y38)) rfl) rfl ?_; refine WL_guardY rfl hb43 rfl rfl ?_; refine WL_val (rn_geq rfl rfl) rfl ?_; refine WL_guardY rfl hb43 rfl rfl ?_; refine WL_val (rn_move (v := (.bool (decide (0 ≤ y38)))) rfl) rfl ?_
        rcases bcases (decide (0 ≤ y38)) with hb44 | hb44
        ·have H := ifT hb44 H; refine WL_guardY rfl hb44 rfl rfl ?_; refine WL_val (rn_move (v := (.int .i64 y23.2)) rfl) rfl ?_; refine WL_guardY rfl hb44 rfl rfl ?_; refine WL_val (rn_neq rfl rfl) rfl ?_; refine WL_guardY rfl hb44 rfl rfl ?_; refine WL_val (rn_move (v := (.bool (y23.2 != 0))) rfl) rfl ?_
         rcases bcases (y23.2 != 0) with hb45 | hb45
         ·have H := ifT hb45 H; refine WL_guardN rfl hb45 rfl rfl rfl ?_; refine WL_guardN rfl hb45 rfl rfl rfl ?_; refine WL_guardN rfl hb45 rfl rfl rfl ?_; refine WL_guardY rfl hb44 rfl rfl ?_; refine WL_val (rn_pickT (v := (.bool true)) rfl hb45 rfl) rfl ?_; refine WL_guardY rfl hb43 rfl rfl ?_; refine WL_val (rn_pickT (v := (.bool true)) rfl hb44 rfl) rfl ?_; refine WL_val (rn_pickF (v := (.bool true)) rfl hb43 rfl) rfl ?_; refine WL_nil ?_; have H := Option.some.inj H; subst H
          exact ⟨_, upds_self _ _ ⟨rfl, rfl, rfl, rfl, rfl, trivial⟩, rfl⟩
         ·have H := ifF hb45 H; refine WL_guardY rfl hb45 rfl rfl ?_; refine WL_val (rn_move (v := (.int .i64 y23.1)) rfl) rfl ?_; refine WL_guardY rfl hb45 rfl rfl ?_; refine WL_val (rn_move (v := (.int .i64 y38)) rfl) rfl ?_; refine WL_guardY rfl hb45 rfl rfl ?_; refine WL_val (rn_neq rfl rfl) rfl ?_; refine WL_guardY rfl hb44 rfl rfl ?_; refine WL_val (rn_pickF (v := (.bool (y23.1 != y38))) rfl hb45 rfl) rfl ?_; refine WL_guardY rfl hb43 rfl rfl ?_; refine WL_val (rn_pickT (v := (.bool (y23.1 != y38))) rfl hb44 rfl) rfl ?_; refine WL_val (rn_pickF (v := (.bool (y23.1 != y38))) rfl hb43 rfl) rfl ?_; refine WL_nil ?_; have H := Option.some.inj H; subst H
          exact ⟨_, upds_self _ _ ⟨rfl, rfl, rfl, rfl, rfl, trivial⟩, rfl⟩
        ·have H := ifF hb44 H; refine WL_guardN rfl hb44 rfl rfl rfl ?_; refine WL_guardN rfl hb44 rfl rfl rfl ?_; refine WL_guardN rfl hb44 rfl rfl rfl ?_; refine WL_guardU rfl rfl rfl rfl ?_; refine WL_guardU rfl rfl rfl rfl ?_; refine WL_guardU rfl rfl rfl rfl ?_; refine WL_guardN rfl hb44 rfl rfl rfl ?_; refine WL_guardY rfl hb43 rfl rfl ?_; refine WL_val (rn_pickF (v := (.bool false)) rfl hb44 rfl) rfl ?_; refine WL_val (rn_pickF (v := (.bool false)) rfl hb43 rfl) rfl ?_; refine WL_nil ?_; have H := Option.some.inj H; subst H
         exact ⟨_, upds_self _ _ ⟨rfl, rfl, rfl, rfl, rfl, trivial⟩, rfl⟩
     ·have H := ifF hb41 H; refine WL_guardN rfl hb41 rfl rfl rfl ?_; refine WL_guardN rfl hb41 rfl rfl rfl ?_; refine WL_guardN rfl hb41 rfl rfl rfl ?_; refine WL_guardU rfl rfl rfl rfl ?_; refine WL_guardU rfl rfl rfl rfl ?_; refine WL_guardN rfl hb41 rfl rfl rfl ?_; refine WL_val (rn_pickF (v := (.bool false)) rfl hb41 rfl) rfl ?_; refine WL_val (rn_move (v := (.bool false)) rfl) rfl ?_; refine WL_guardY rfl rfl rfl rfl ?_; refine WL_val (rn_move (v := (.int .i64 y38)) rfl) rfl ?_; refine WL_guardY rfl rfl rfl rfl ?_; refine WL_val (rn_geq rfl rfl) rfl ?_; refine WL_guardY rfl rfl rfl rfl ?_; refine WL_val (rn_move (v := (.bool (decide (0 ≤ y38)))) rfl) rfl ?_
      rcases bcases (decide (0 ≤ y38)) with hb46 | hb46
      ·have H := ifT hb46 H; refine WL_guardY rfl hb46 rfl rfl ?_; refine WL_val (rn_move (v := (.int .i64 y23.2)) rfl) rfl ?_; refine WL_guardY rfl hb46 rfl rfl ?_; refine WL_val (rn_neq rfl rfl) rfl ?_; refine WL_guardY rfl hb46 rfl rfl ?_; refine WL_val (rn_move (v := (.bool (y23.2 != 0))) rfl) rfl ?_
       rcases bcases (y23.2 != 0) with hb47 | hb47
       ·have H := ifT hb47 H; refine WL_guardN rfl hb47 rfl rfl rfl ?_; refine WL_guardN rfl hb47 rfl rfl rfl ?_; refine WL_guardN rfl hb47 rfl rfl rfl ?_; refine WL_guardY rfl hb46 rfl rfl ?_; refine WL_val (rn_pickT (v := (.bool true)) rfl hb47 rfl) rfl ?_; refine WL_guardY rfl rfl rfl rfl ?_; refine WL_val (rn_pickT (v := (.bool true)) rfl hb46 rfl) rfl ?_; refine WL_val (rn_pickF (v := (.bool true)) rfl rfl rfl) rfl ?_; refine WL_nil ?_; have H := Option.some.inj H; subst H
        exact ⟨_, upds_self _ _ ⟨rfl, rfl, rfl, rfl, rfl, trivial⟩, rfl⟩
       ·have H := ifF hb47 H; refine WL_guardY rfl hb47 rfl rfl ?_; refine WL_val (rn_move (v := (.int .i64 y23.1)) rfl) rfl ?_; refine WL_guardY rfl hb47 rfl rfl ?_; refine WL_val (rn_move (v := (.int .i64 y38)) rfl) rfl ?_; refine WL_guardY rfl hb47 rfl rfl ?_; refine WL_val (rn_neq rfl rfl) rfl ?_; refine WL_guardY rfl hb46 rfl rfl ?_; refine WL_val (rn_pickF (v := (.bool (y23.1 != y38))) rfl hb47 rfl) rfl ?_; refine WL_guardY rfl rfl rfl rfl ?_; refine WL_val (rn_pickT (v := (.bool (y23.1 != y38))) rfl hb46 rfl) rfl ?_; refine WL_val (rn_pickF (v := (.bool (y23.1 != y38))) rfl rfl rfl) rfl ?_; refine WL_nil ?_; have H := Option.some.inj H; subst H
        exact ⟨_, upds_self _ _ ⟨rfl, rfl, rfl, rfl, rfl, trivial⟩, rfl⟩
      ·have H := ifF hb46 H; refine WL_guardN rfl hb46 rfl rfl rfl ?_; refine WL_guardN rfl hb46 rfl rfl rfl ?_; refine WL_guardN rfl hb46 rfl rfl rfl ?_; refine WL_guardU rfl rfl rfl rfl ?_; refine WL_guardU rfl rfl rfl rfl ?_; refine WL_guardU rfl rfl rfl rfl ?_; refine WL_guardN rfl hb46 rfl rfl rfl ?_; refine WL_guardY rfl rfl rfl rfl ?_; refine WL_val (rn_pickF (v := (.bool false)) rfl hb46 rfl) rfl ?_; refine WL_val (rn_pickF (v := (.bool false)) rfl rfl rfl) rfl ?_; refine WL_nil ?_; have H := Option.some.inj H; subst H
       exact ⟨_, upds_self _ _ ⟨rfl, rfl, rfl, rfl, rfl, trivial⟩, rfl⟩
    ·rintro F wl ⟨Fb, rfl, rfl⟩
     refine WC_cond rfl (fun hb50 => ?_) (fun hb50 => ?_)
     ·have H := ifT hb50 H; refine WC_seq ?_; refine WC_region ?_; refine WL_val (rn_assign (v := (.bool false)) rfl) rfl ?_; refine WL_nil ?_; refine WC_ret ?_
      have H : some false = some r := H
      have H := Option.some.inj H; subst H
      exact ⟨rfl, hS.below⟩
     ·have H := ifF hb50 H; refine WC_skip ?_; refine WC_seq ?_; refine WC_region ?_; refine WL_val (rn_loadA ag46 (cs := [.int .i64 x0.Islets, .slice a1 n1 c1, .slice a2 n2 c2, .slice a3 n3 c3, .int .i64 x0.Wait]) rfl rfl (fun j v hj => (hS.sat.le l1_3).cell (hcb4.drop_take 0 5 j v hj))) rfl ?_; obtain ⟨y51, hy51, H⟩ := bnd H; refine WL_op rfl (OpP_callG cb36 (f36_ok (x0 := x0) hS.sat (h1.mono RInt_mono l0_3) (h2.mono RInt_mono l0_3) (h3.mono RTBaneTrip_mono l0_3) hy51) rfl rfl (fun vy51 G53 w52 hg hvy51 => ?_)); obtain ⟨a54, n54, c54, ⟨⟩, h54⟩ := hvy51; have hS := hS.grow hg; have hO := hO.grow hg
      have leG53 := hg.le
      refine WL_val (rn_move (v := (.tuple #[.slice a54 n54 c54, .bool y51.2])) rfl) rfl ?_; refine WL_val (rn_extract (v := (.slice a54 n54 c54)) rfl rfl) rfl ?_; refine WL_val (rn_extract (v := (.bool y51.2)) rfl rfl) rfl ?_; refine WL_val (rn_assign (v := (.slice a54 n54 c54)) rfl) rfl ?_; refine WL_val (rn_assign (v := (.bool y51.2)) rfl) rfl ?_; refine WL_nil ?_; refine WC_seq ?_; refine WC_seq ?_; refine WC_region ?_; refine WL_val (rn_move (v := (.bool y51.2)) rfl) rfl ?_; refine WL_val (rn_not rfl) rfl ?_; refine WL_nil ?_; refine WC_cond rfl (fun hb55 => ?_) (fun hb55 => ?_)
      ·have H := ifT hb55 H; refine WC_seq ?_; obtain ⟨q56, hq56, H⟩ := bnd H; refine WC_cut (fun F w => ∃ (Fb : Fr) (G : Gm), F = upds Fb [(2, .bool q56)] ∧ Gle G53 G ∧ Since w0.heap.size G0 w0 G w ∧ Owns G w w0.heap.size []) ?_ ?_
       ·have Hoq56 := H; have H := hq56; refine WC_region ?_; refine WL_val (rn_move (v := (.int .i64 y19.2.2)) rfl) rfl ?_; refine WL_val (rn_eql rfl rfl) rfl ?_; refine WL_val (rn_move (v := (.bool (y19.2.2 == 5))) rfl) rfl ?_
        rcases bcases (y19.2.2 == 5) with hb57 | hb57
        ·have H := ifT hb57 H; refine WL_guardY rfl hb57 rfl rfl ?_; refine WL_val (rn_move (v := (.slice a22 n22 c22)) rfl) rfl ?_; refine WL_guardY rfl hb57 rfl rfl ?_; refine WL_val (rn_len sl25 rfl rfl (h22.mono RInt_mono leG53).1) rfl ?_; refine WL_guardY rfl hb57 rfl rfl ?_; refine WL_val (rn_eql rfl rfl) rfl ?_; refine WL_val (rn_pickT (v := (.bool ((y19.1.length : Int) == 0))) rfl hb57 rfl) rfl ?_; refine WL_val (rn_move (v := (.bool ((y19.1.length : Int) == 0))) rfl) rfl ?_
         rcases bcases ((y19.1.length : Int) == 0) with hb58 | hb58
         ·have H := ifT hb58 H; refine WL_guardY rfl hb58 rfl rfl ?_; refine WL_val (rn_move (v := (.int .i64 y19.2.1)) rfl) rfl ?_; refine WL_guardY rfl hb58 rfl rfl ?_; refine WL_val (rn_eql rfl rfl) rfl ?_; refine WL_val (rn_pickT (v := (.bool (y19.2.1 == 0))) rfl hb58 rfl) rfl ?_; refine WL_val (rn_move (v := (.bool (y19.2.1 == 0))) rfl) rfl ?_
          rcases bcases (y19.2.1 == 0) with hb59 | hb59
          ·have H := ifT hb59 H; refine WL_guardY rfl hb59 rfl rfl ?_; obtain ⟨y60, hy60, H⟩ := bnd H; refine WL_op rfl (OpP_callV cb19 (f19_ok  hS.sat  hy60) rfl rfl (fun w61 hb => ?_)); have hS := hS.keep hb; have hO := hO.below hb; refine WL_val (rn_pickT (v := (.bool y60)) rfl hb59 rfl) rfl ?_; refine WL_val (rn_assign (v := (.bool y60)) rfl) rfl ?_; refine WL_nil ?_
           have hO : Owns G53 w61 w0.heap.size ([]) := hO
           have H := Option.some.inj H; subst H
           exact ⟨_, G53, upds_self _ _ ⟨rfl, trivial⟩, Gle.refl _, hS, hO⟩
          ·have H := ifF hb59 H; refine WL_guardN rfl hb59 rfl rfl rfl ?_; refine WL_val (rn_pickF (v := (.bool false)) rfl hb59 rfl) rfl ?_; refine WL_val (rn_assign (v := (.bool false)) rfl) rfl ?_; refine WL_nil ?_
           have hO : Owns G53 w52 w0.heap.size ([]) := hO
           have H := Option.some.inj H; subst H
           exact ⟨_, G53, upds_self _ _ ⟨rfl, trivial⟩, Gle.refl _, hS, hO⟩
         ·have H := ifF hb58 H; refine WL_guardN rfl hb58 rfl rfl rfl ?_; refine WL_guardN rfl hb58 rfl rfl rfl ?_; refine WL_val (rn_pickF (v := (.bool false)) rfl hb58 rfl) rfl ?_; refine WL_val (rn_move (v := (.bool false)) rfl) rfl ?_; refine WL_guardN rfl rfl rfl rfl rfl ?_; refine WL_val (rn_pickF (v := (.bool false)) rfl rfl rfl) rfl ?_; refine WL_val (rn_assign (v := (.bool false)) rfl) rfl ?_; refine WL_nil ?_
          have hO : Owns G53 w52 w0.heap.size ([]) := hO
          have H := Option.some.inj H; subst H
          exact ⟨_, G53, upds_self _ _ ⟨rfl, trivial⟩, Gle.refl _, hS, hO⟩
        ·have H := ifF hb57 H; refine WL_guardN rfl hb57 rfl rfl rfl ?_; refine WL_guardN rfl hb57 rfl rfl rfl ?_; refine WL_guardN rfl hb57 rfl rfl rfl ?_; refine WL_val (rn_pickF (v := (.bool false)) rfl hb57 rfl) rfl ?_; refine WL_val (rn_move (v := (.bool false)) rfl) rfl ?_; refine WL_guardN rfl rfl rfl rfl rfl ?_; refine WL_guardN rfl rfl rfl rfl rfl ?_; refine WL_val (rn_pickF (v := (.bool false)) rfl rfl rfl) rfl ?_; refine WL_val (rn_move (v := (.bool false)) rfl) rfl ?_; refine WL_guardN rfl rfl rfl rfl rfl ?_; refine WL_val (rn_pickF (v := (.bool false)) rfl rfl rfl) rfl ?_; refine WL_val (rn_assign (v := (.bool false)) rfl) rfl ?_; refine WL_nil ?_
         have hO : Owns G53 w52 w0.heap.size ([]) := hO
         have H := Option.some.inj H; subst H
         exact ⟨_, G53, upds_self _ _ ⟨rfl, trivial⟩, Gle.refl _, hS, hO⟩
       ·rintro F w62 ⟨Fb, G63, rfl, leG63, hS, hO⟩
        refine WC_ret ?_
        have H : some q56 = some r := H
        have H := Option.some.inj H; subst H
        exact ⟨rfl, hS.below⟩
      ·have H := ifF hb55 H; refine WC_skip ?_; refine WC_seq ?_; obtain ⟨q64, hq64, H⟩ := bnd H; refine WC_cut (fun F w => ∃ (Fb : Fr) (G : Gm), F = upds Fb [(2, .bool q64)] ∧ Gle G53 G ∧ Since w0.heap.size G0 w0 G w ∧ Owns G w w0.heap.size []) ?_ ?_
       ·have Hoq64 := H; have H := hq64; refine WC_region ?_; refine WL_val (rn_move (v := (.int .i64 y19.2.2)) rfl) rfl ?_; refine WL_val (rn_eql rfl rfl) rfl ?_; refine WL_val (rn_move (v := (.bool (y19.2.2 == 0))) rfl) rfl ?_
        rcases bcases (y19.2.2 == 0) with hb65 | hb65
        ·have H := ifT hb65 H; refine WL_guardY rfl hb65 rfl rfl ?_; refine WL_val (rn_move (v := (.slice a22 n22 c22)) rfl) rfl ?_; refine WL_guardY rfl hb65 rfl rfl ?_; refine WL_val (rn_move (v := (.slice a54 n54 c54)) rfl) rfl ?_; refine WL_guardY rfl hb65 rfl rfl ?_; obtain ⟨y66, hy66, H⟩ := bnd H; refine WL_op rfl (OpP_callV cb23 (f23_ok (x0 := y19.1) (x1 := y51.1) hS.sat (h22.mono RInt_mono leG53) h54 hy66) rfl rfl (fun w67 hb => ?_)); have hS := hS.keep hb; have hO := hO.below hb; refine WL_val (rn_pickT (v := (.bool y66)) rfl hb65 rfl) rfl ?_; refine WL_val (rn_move (v := (.bool y66)) rfl) rfl ?_
         rcases bcases y66 with hb68 | hb68
         ·have H := ifT hb68 H; refine WL_guardY rfl hb68 rfl rfl ?_; refine WL_val (rn_move (v := (.int .i64 y19.2.1)) rfl) rfl ?_; refine WL_guardY rfl hb68 rfl rfl ?_
          have l1_4 := l1_3.trans leG53
          refine WL_val (rn_loadA ag46 (cs := [.int .i64 x0.Islets, .slice a1 n1 c1, .slice a2 n2 c2, .slice a3 n3 c3, .int .i64 x0.Wait]) rfl rfl (fun j v hj => (hS.sat.le l1_4).cell (hcb4.drop_take 0 5 j v hj))) rfl ?_; refine WL_guardY rfl hb68 rfl rfl ?_; refine WL_val (rn_move (v := (.slice a54 n54 c54)) rfl) rfl ?_; refine WL_guardY rfl hb68 rfl rfl ?_; obtain ⟨y69, hy69, H⟩ := bnd H
          have l0_4 := l0_3.trans leG53
          refine WL_op rfl (OpP_callV cb37 (f37_ok (x0 := x0) (x1 := y51.1) hS.sat (h1.mono RInt_mono l0_4) (h2.mono RInt_mono l0_4) (h3.mono RTBaneTrip_mono l0_4) h54 hy69) rfl rfl (fun w70 hb => ?_)); have hS := hS.keep hb; have hO := hO.below hb; refine WL_guardY rfl hb68 rfl rfl ?_; refine WL_val (rn_eql rfl rfl) rfl ?_; refine WL_val (rn_pickT (v := (.bool (y19.2.1 == y69))) rfl hb68 rfl) rfl ?_; refine WL_val (rn_move (v := (.bool (y19.2.1 == y69))) rfl) rfl ?_
          rcases bcases (y19.2.1 == y69) with hb71 | hb71
          ·have H := ifT hb71 H; refine WL_guardY rfl hb71 rfl rfl ?_; obtain ⟨y72, hy72, H⟩ := bnd H; refine WL_op rfl (OpP_callV cb19 (f19_ok  hS.sat  hy72) rfl rfl (fun w73 hb => ?_)); have hS := hS.keep hb; have hO := hO.below hb; refine WL_val (rn_pickT (v := (.bool y72)) rfl hb71 rfl) rfl ?_; refine WL_val (rn_assign (v := (.bool y72)) rfl) rfl ?_; refine WL_nil ?_
           have hO : Owns G53 w73 w0.heap.size ([]) := hO
           have H := Option.some.inj H; subst H
           exact ⟨_, G53, upds_self _ _ ⟨rfl, trivial⟩, Gle.refl _, hS, hO⟩
          ·have H := ifF hb71 H; refine WL_guardN rfl hb71 rfl rfl rfl ?_; refine WL_val (rn_pickF (v := (.bool false)) rfl hb71 rfl) rfl ?_; refine WL_val (rn_assign (v := (.bool false)) rfl) rfl ?_; refine WL_nil ?_
           have hO : Owns G53 w70 w0.heap.size ([]) := hO
           have H := Option.some.inj H; subst H
           exact ⟨_, G53, upds_self _ _ ⟨rfl, trivial⟩, Gle.refl _, hS, hO⟩
         ·have H := ifF hb68 H; refine WL_guardN rfl hb68 rfl rfl rfl ?_; refine WL_guardN rfl hb68 rfl rfl rfl ?_; refine WL_guardN rfl hb68 rfl rfl rfl ?_; refine WL_guardN rfl hb68 rfl rfl rfl ?_; refine WL_guardN rfl hb68 rfl rfl rfl ?_; refine WL_val (rn_pickF (v := (.bool false)) rfl hb68 rfl) rfl ?_; refine WL_val (rn_move (v := (.bool false)) rfl) rfl ?_; refine WL_guardN rfl rfl rfl rfl rfl ?_; refine WL_val (rn_pickF (v := (.bool false)) rfl rfl rfl) rfl ?_; refine WL_val (rn_assign (v := (.bool false)) rfl) rfl ?_; refine WL_nil ?_
          have hO : Owns G53 w67 w0.heap.size ([]) := hO
          have H := Option.some.inj H; subst H
          exact ⟨_, G53, upds_self _ _ ⟨rfl, trivial⟩, Gle.refl _, hS, hO⟩
        ·have H := ifF hb65 H; refine WL_guardN rfl hb65 rfl rfl rfl ?_; refine WL_guardN rfl hb65 rfl rfl rfl ?_; refine WL_guardN rfl hb65 rfl rfl rfl ?_; refine WL_val (rn_pickF (v := (.bool false)) rfl hb65 rfl) rfl ?_; refine WL_val (rn_move (v := (.bool false)) rfl) rfl ?_; refine WL_guardN rfl rfl rfl rfl rfl ?_; refine WL_guardN rfl rfl rfl rfl rfl ?_; refine WL_guardN rfl rfl rfl rfl rfl ?_; refine WL_guardN rfl rfl rfl rfl rfl ?_; refine WL_guardN rfl rfl rfl rfl rfl ?_; refine WL_val (rn_pickF (v := (.bool false)) rfl rfl rfl) rfl ?_; refine WL_val (rn_move (v := (.bool false)) rfl) rfl ?_; refine WL_guardN rfl rfl rfl rfl rfl ?_; refine WL_val (rn_pickF (v := (.bool false)) rfl rfl rfl) rfl ?_; refine WL_val (rn_assign (v := (.bool false)) rfl) rfl ?_; refine WL_nil ?_
         have hO : Owns G53 w52 w0.heap.size ([]) := hO
         have H := Option.some.inj H; subst H
         exact ⟨_, G53, upds_self _ _ ⟨rfl, trivial⟩, Gle.refl _, hS, hO⟩
       ·rintro F w74 ⟨Fb, G75, rfl, leG75, hS, hO⟩
        refine WC_ret ?_
        have H : some q64 = some r := H
        have H := Option.some.inj H; subst H
        exact ⟨rfl, hS.below⟩
end Go.Proofs.Ytgplafckddpnkaa
