/-
  The walks: each Go function computes its plain function (printed by a program of ours).
-/
import Derived.Test.YtgplafckddpnkaaRd
import Derived.Test.YtgplafckddpnkaaIt
import Derived.Test.YtgplafckddpnkaaP5W4
namespace Go.Proofs.Ytgplafckddpnkaa
open Go.RowKit
set_option linter.unusedVariables false

set_option maxRecDepth 20000
set_option linter.unusedVariables false
set_option maxHeartbeats 1000000 in
theorem f102_ok {G0 : Gm} {w0 : World} (hS0 : Sat G0 w0) {x0 : TBaneSea} {a1 : Option Addr} {n1 c1 : Nat} {a2 : Option Addr} {n2 c2 : Nat} {a3 : Option Addr} {n3 c3 : Nat} {x1 : (List Int)} {a4 : Option Addr} {n4 c4 : Nat} (h1 : RSl RInt 1 G0 a1 n1 c1 x0.Infested) (h2 : RSl RInt 1 G0 a2 n2 c2 x0.Clean) (h3 : RSl RTBaneTrip 4 G0 a3 n3 c3 x0.Trips) (h4 : RSl RInt 1 G0 a4 n4 c4 x1) {r : Bool} (H : f102 x0 x1 = some r) :
  Calls Try.prog 102 #[.agg #[.int .i64 x0.Islets, .slice a1 n1 c1, .slice a2 n2 c2, .slice a3 n3 c3, .int .i64 x0.Wait], .slice a4 n4 c4] w0 (RetV w0 (.bool r)) := by
 have hS := Since.start hS0
 have hO : Owns G0 w0 w0.heap.size [] := Owns.nil (Nat.le_refl _)
 unfold f102 at H
 refine enter1 (N := 35) (shutV _ _) Try.func102 rfl rfl rfl rfl ?_; refine WC_seq ?_; refine WC_region ?_; refine WL_op rfl (OpP_newF (v := fun b => .pointer (some ⟨b, 0, none⟩)) (cs := [.int .i64 x0.Islets, .slice a1 n1 c1, .slice a2 n2 c2, .slice a3 n3 c3, .int .i64 x0.Wait]) (e := 46) (rn_boxA rfl) hS.sat rfl (fun b5 G7 w6 hg hcb5 => ?_)); have hS := hS.grow hg; have hO := hO.grow hg
 have leG7 := hg.le
 refine WL_val (rn_assign (v := (.bool false)) rfl) rfl ?_; refine WL_nil ?_; refine WC_seq ?_; have hS := hS.keep (below_drew _); have hO := hO.below (below_drew _)
 refine WC_regionD mixedO (fun w => Sat G7 w ∧ True) (.fl 0 (.fl 1 (.fl 2 (.on 3 (.on 4 (.on 5 (.on 6 (.on 7 (.on 8 (.on 9 (.on 10 (.on 11 .nil)))))))))))) (by kernel_rfl) rfl (by kernel_rfl) ⟨hS.sat, trivial⟩ ?_
 refine WD_val rfl (fun w hw => rn_fld fd46_3 rfl) rfl ?_; refine WD_val rfl (fun w hw => rn_load na44 rfl (hw.1.cell (hcb5 3 _ rfl))) rfl ?_; refine WD_val rfl (fun w hw => rn_move (v := (.slice a4 n4 c4)) rfl) rfl ?_; refine WD_op rfl rfl (OpP_val (rn_move (v := (.slice a4 n4 c4)) rfl) rfl ?_); refine ⟨fun _ => ⟨hS.sat, trivial⟩, ?_⟩; refine WD_op rfl rfl (OpP_val (rn_len sl25 rfl rfl (h4.mono RInt_mono leG7).1) rfl ?_); refine ⟨fun _ => ⟨hS.sat, trivial⟩, ?_⟩; refine WD_op rfl rfl (OpP_val (rn_sub rfl rfl) rfl ?_); refine ⟨fun _ => ⟨hS.sat, trivial⟩, ?_⟩; obtain ⟨y8, hy8, H⟩ := bnd H; refine WD_op rfl rfl (OpP_idx sl25 (h4.mono RInt_mono leG7) hy8 rfl rfl rfl ?_)
 rintro b9 o9 _ hcb9 _ ⟨⟩
 refine ⟨fun _ => ⟨hS.sat, trivial⟩, ?_⟩; refine WD_op rfl rfl (OpP_val (rn_load na3 rfl (hS.sat.cell (hcb9 0 _ rfl))) rfl ?_); refine ⟨fun _ => ⟨hS.sat, trivial⟩, ?_⟩; obtain ⟨y10, hy10, H⟩ := bnd H; refine WD_op rfl rfl (OpP_idx sl44 (h3.mono RTBaneTrip_mono leG7) hy10 rfl rfl rfl ?_)
 rintro b11 o11 _ hcb11 _ ⟨⟩
 refine ⟨fun h => nomore (by kernel_rfl) h, ?_⟩
 refine WD_op rfl rfl (OpP_val (rn_fld fd109_2 rfl) rfl ?_)
 refine ⟨fun h => nomore (by kernel_rfl) h, ?_⟩
 refine WD_op rfl rfl (OpP_val (rn_load na3 rfl (hS.sat.cell (hcb11 2 _ rfl))) rfl ?_)
 refine ⟨fun h => nomore (by kernel_rfl) h, ?_⟩
 refine WD_op rfl rfl (OpP_val (rn_assign (v := (.int .i64 y10.To)) rfl) rfl ?_)
 refine ⟨fun h => nomore (by kernel_rfl) h, ?_⟩
 refine WD_nil ?_; refine WC_seq ?_; refine WC_seq ?_; refine WC_region ?_; refine WL_val (rn_assign (v := (.int .i64 0)) rfl) rfl ?_; refine WL_nil ?_; obtain ⟨q14, hq14, H⟩ := bnd H; refine WC_cut (fun F w => ∃ (p13 : Unit) (Fb : Fr) (G : Gm), q14 = .inl p13 ∧ F = upds Fb [] ∧ Gle G7 G ∧ Since w0.heap.size G0 w0 G w ∧ Owns G w w0.heap.size []) ?_ ?_
 ·refine WC_block (WC_loop hq14 (fun s12 F w => ∃ (Fb : Fr) (G : Gm), F = upds Fb [(1, .slice a4 n4 c4), (2, .pointer (some ⟨b5, 0, none⟩)), (5, .int .i64 y10.To), (6, .int .i64 s12)] ∧ Gle G7 G ∧ Since w0.heap.size G0 w0 G w ∧ Owns G w w0.heap.size []) ?_ ?_)
  ·have hO : Owns G7 w6.drew w0.heap.size ([]) := hO
   exact ⟨_, G7, upds_self _ _ ⟨rfl, rfl, rfl, rfl, trivial⟩, Gle.refl _, hS, hO⟩
  ·rintro s12 F w16 t15 ⟨Fb, G17, rfl, leG17, hS, hO⟩
   intro H1 hqq14
   have Hoq14 := H; have H := H1
   unfold f102_b0 at H
   refine WC_seq ?_; refine WC_seq ?_; refine WC_region ?_; refine WL_val (rn_move (v := (.int .i64 s12)) rfl) rfl ?_; refine WL_val (rn_move (v := (.slice a4 n4 c4)) rfl) rfl ?_
   have l0_2 := leG7.trans leG17
   refine WL_val (rn_len sl25 rfl rfl (h4.mono RInt_mono l0_2).1) rfl ?_; refine WL_val (rn_lss rfl rfl) rfl ?_; refine WL_nil ?_; refine WC_cond rfl (fun hb18 => ?_) (fun hb18 => ?_)
   ·have H := ifT hb18 H; refine WC_skip ?_; refine WC_seq ?_; refine WC_block ?_; refine WC_seq ?_; have hS := hS.keep (below_drew _); have hO := hO.below (below_drew _)
    refine WC_regionD mixedO (fun w => Sat G17 w ∧ True) (.fl 0 (.fl 1 (.fl 2 (.fl 3 (.fl 4 (.fl 5 (.fl 6 (.fl 7 (.fl 8 (.on 9 (.on 10 .nil))))))))))) (by kernel_rfl) rfl (by kernel_rfl) ⟨hS.sat, trivial⟩ ?_
    refine WD_val rfl (fun w hw => rn_fld fd46_3 rfl) rfl ?_; refine WD_val rfl (fun w hw => rn_load na44 rfl ((hw.1.le leG17).cell (hcb5 3 _ rfl))) rfl ?_; refine WD_val rfl (fun w hw => rn_move (v := (.slice a4 n4 c4)) rfl) rfl ?_; refine WD_val rfl (fun w hw => rn_move (v := (.int .i64 s12)) rfl) rfl ?_; obtain ⟨y19, hy19, H⟩ := bnd H; refine WD_idx rfl sl25 (h4.mono RInt_mono l0_2) hy19 rfl rfl rfl ?_
    rintro b20 o20 _ hcb20 _ ⟨⟩
    refine WD_val rfl (fun w hw => rn_load na3 rfl (hw.1.cell (hcb20 0 _ rfl))) rfl ?_; obtain ⟨y21, hy21, H⟩ := bnd H; refine WD_idx rfl sl44 (h3.mono RTBaneTrip_mono l0_2) hy21 rfl rfl rfl ?_
    rintro b22 o22 _ hcb22 _ ⟨⟩
    refine WD_val rfl (fun w hw => rn_fld fd109_1 rfl) rfl ?_; refine WD_val rfl (fun w hw => rn_load na3 rfl (hw.1.cell (hcb22 1 _ rfl))) rfl ?_; refine WD_op rfl rfl (OpP_val (rn_move (v := (.int .i64 y10.To)) rfl) rfl ?_); refine ⟨fun _ => ⟨hS.sat, trivial⟩, ?_⟩; refine WD_op rfl rfl (OpP_val (rn_eql rfl rfl) rfl ?_)
    refine ⟨fun h => nomore (by kernel_rfl) h, ?_⟩
    refine WD_nil ?_; refine WC_cond rfl (fun hb23 => ?_) (fun hb23 => ?_)
    ·have H := ifT hb23 H; refine WC_seq ?_; refine WC_region ?_; refine WL_val (rn_assign (v := (.bool true)) rfl) rfl ?_; refine WL_nil ?_; refine WC_ret ?_; have H := Option.some.inj H; subst H
     have hres := hqq14 _ rfl
     subst hres; have H := Hoq14
     have H : some true = some r := H
     have H := Option.some.inj H; subst H
     exact ⟨rfl, hS.below⟩
    ·have H := ifF hb23 H; refine WC_skip ?_; refine WC_region ?_; refine WL_val (rn_move (v := (.int .i64 s12)) rfl) rfl ?_; refine WL_val (rn_add rfl rfl) rfl ?_; refine WL_val (rn_assign (v := (.int .i64 (IntKind.i64.wrap (s12 + 1)))) rfl) rfl ?_; refine WL_nil ?_
     have hO : Owns G17 w16.drew w0.heap.size ([]) := hO
     have H := Option.some.inj H; subst H; refine ⟨_, rfl, ?_⟩
     exact ⟨_, G17, upds_self _ _ ⟨rfl, rfl, rfl, rfl, trivial⟩, leG17, hS, hO⟩
   ·have H := ifF hb18 H; refine WC_exit rfl ?_
    have hO : Owns G17 w16 w0.heap.size ([]) := hO
    have H := Option.some.inj H; subst H
    have hres := hqq14 _ rfl
    subst hres
    exact ⟨_, _, G17, rfl, rfl, leG17, hS, hO⟩
 ·rintro F w24 ⟨p13, Fb, G25, rfl, rfl, leG25, hS, hO⟩
  refine WC_seq ?_; refine WC_region ?_; refine WL_val (rn_assign (v := (.bool false)) rfl) rfl ?_; refine WL_nil ?_; refine WC_ret ?_
  have H : some false = some r := H
  have H := Option.some.inj H; subst H
  exact ⟨rfl, hS.below⟩
set_option maxHeartbeats 1000000 in
theorem f78_ok {G0 : Gm} {w0 : World} (hS0 : Sat G0 w0) {x0 : TBaneSea} {a1 : Option Addr} {n1 c1 : Nat} {a2 : Option Addr} {n2 c2 : Nat} {a3 : Option Addr} {n3 c3 : Nat} {x1 : (List Int)} {a4 : Option Addr} {n4 c4 : Nat} {x2 : Int} (h1 : RSl RInt 1 G0 a1 n1 c1 x0.Infested) (h2 : RSl RInt 1 G0 a2 n2 c2 x0.Clean) (h3 : RSl RTBaneTrip 4 G0 a3 n3 c3 x0.Trips) (h4 : RSl RInt 1 G0 a4 n4 c4 x1) {r : (List (List Int))} (H : f78 x0 x1 x2 = some r) :
  Calls Try.prog 78 #[.agg #[.int .i64 x0.Islets, .slice a1 n1 c1, .slice a2 n2 c2, .slice a3 n3 c3, .int .i64 x0.Wait], .slice a4 n4 c4, .int .i64 x2] w0 (RetG G0 w0 (fun G v => ∃ (ra0 : Option Addr) (rn0 rc0 : Nat), v = .slice ra0 rn0 rc0 ∧ RSl (RSlice RInt 1) 1 G ra0 rn0 rc0 r)) := by
 have hS := Since.start hS0
 have hO : Owns G0 w0 w0.heap.size [] := Owns.nil (Nat.le_refl _)
 unfold f78 at H
 refine enter1 (N := 62) (shutG _ _ _) Try.func78 rfl rfl rfl rfl ?_; refine WC_seq ?_; refine WC_region ?_; refine WL_op rfl (OpP_newF (v := fun b => .pointer (some ⟨b, 0, none⟩)) (cs := [.int .i64 x0.Islets, .slice a1 n1 c1, .slice a2 n2 c2, .slice a3 n3 c3, .int .i64 x0.Wait]) (e := 46) (rn_boxA rfl) hS.sat rfl (fun b5 G7 w6 hg hcb5 => ?_)); have hS := hS.grow hg; have hO := hO.grow hg
 have leG7 := hg.le
 refine WL_val (rn_assign (v := (.slice none 0 0)) rfl) rfl ?_; refine WL_nil ?_; refine WC_seq ?_; refine WC_region ?_
 refine WL_op rfl (OpP_newF (v := fun b => .slice (some ⟨b, 0, none⟩) 1 1) (cs := [.slice none 0 0]) (e := 25) (by kernel_rfl) hS.sat rfl (fun b8 G10 w9 hg hcb8 => ?_))
 have hS := hS.grow hg; have hO := hO.grow hg
 have leG10 := hg.le
 have hfb8 : RSl (RSlice RInt 1) 1 G10 (some ⟨b8, 0, none⟩) 1 1 [[]] := RSl.of_rd hcb8 (Rd.cons (c := [.slice none 0 0]) rfl ⟨_, _, _, rfl, (RSl.nil RInt 1 G10 none)⟩ (Rd.nil (RSlice RInt 1) 1 _)) rfl (by decide)
 refine WL_val (rn_assign (v := (.slice (some ⟨b8, 0, none⟩) 1 1)) rfl) rfl ?_; refine WL_nil ?_; refine WC_seq ?_; refine WC_seq ?_; refine WC_region ?_; refine WL_val (rn_assign (v := (.int .i64 0)) rfl) rfl ?_; refine WL_nil ?_; obtain ⟨q13, hq13, H⟩ := bnd H; refine WC_cut (fun F w => ∃ (Fb : Fr) (G : Gm) (aq13_0 : Option Addr) (nq13_0 cq13_0 : Nat), F = upds Fb [(7, .slice aq13_0 nq13_0 cq13_0)] ∧ Gle G10 G ∧ Since w0.heap.size G0 w0 G w ∧ Owns G w w0.heap.size [] ∧ RSl (RSlice RInt 1) 1 G aq13_0 nq13_0 cq13_0 q13) ?_ ?_
 ·refine WC_block (WC_loop hq13 (fun s11 F w => ∃ (Fb : Fr) (G : Gm) (as11_0 : Option Addr) (ns11_0 cs11_0 : Nat), F = upds Fb [(1, .slice a4 n4 c4), (2, .int .i64 x2), (3, .pointer (some ⟨b5, 0, none⟩)), (7, .slice as11_0 ns11_0 cs11_0), (8, .int .i64 s11.2)] ∧ Gle G10 G ∧ Since w0.heap.size G0 w0 G w ∧ Owns G w w0.heap.size [] ∧ RSl (RSlice RInt 1) 1 G as11_0 ns11_0 cs11_0 s11.1) ?_ ?_)
  ·have hO : Owns G10 w9 w0.heap.size ([]) := hO
   exact ⟨_, G10, (some ⟨b8, 0, none⟩), 1, 1, upds_self _ _ ⟨rfl, rfl, rfl, rfl, rfl, trivial⟩, Gle.refl _, hS, hO, hfb8⟩
  ·rintro s11 F w15 t14 ⟨Fb, G16, as11_0, ns11_0, cs11_0, rfl, leG16, hS, hO, hs11_0⟩
   intro H1 hqq13
   have Hoq13 := H; have H := H1
   unfold f78_b0 at H
   refine WC_seq ?_; refine WC_seq ?_; refine WC_region ?_; refine WL_val (rn_move (v := (.int .i64 s11.2)) rfl) rfl ?_; refine WL_val (rn_move (v := (.int .i64 x2)) rfl) rfl ?_; refine WL_val (rn_lss rfl rfl) rfl ?_; refine WL_nil ?_; refine WC_cond rfl (fun hb17 => ?_) (fun hb17 => ?_)
   ·have H := ifT hb17 H; refine WC_skip ?_; refine WC_seq ?_; refine WC_block ?_; refine WC_seq ?_; refine WC_region ?_; refine WL_val (rn_assign (v := (.slice none 0 0)) rfl) rfl ?_; refine WL_nil ?_; refine WC_seq ?_; refine WC_seq ?_; refine WC_region ?_; refine WL_val (rn_assign (v := (.int .i64 0)) rfl) rfl ?_; refine WL_nil ?_; have hO := hO.cons_nil 25 1; obtain ⟨q21, hq21, H⟩ := bnd H; refine WC_cut (fun F w => ∃ (Fb : Fr) (G : Gm) (aq21_0 : Option Addr) (nq21_0 cq21_0 : Nat) (claq21_0 : List Value), F = upds Fb [(1, .slice a4 n4 c4), (2, .int .i64 x2), (3, .pointer (some ⟨b5, 0, none⟩)), (8, .int .i64 s11.2), (9, .slice aq21_0 nq21_0 cq21_0)] ∧ Gle G16 G ∧ Since w0.heap.size G0 w0 G w ∧ Owns G w w0.heap.size [⟨25, 1, nq21_0, .slice aq21_0 nq21_0 cq21_0, claq21_0⟩] ∧ nq21_0 = q21.length ∧ Rd (RSlice RInt 1) 1 G claq21_0 q21) ?_ ?_
    ·refine WC_block (WC_loop hq21 (fun s19 F w => ∃ (Fb : Fr) (G : Gm) (as19_0 : Option Addr) (ns19_0 cs19_0 : Nat) (clas19_0 : List Value), F = upds Fb [(1, .slice a4 n4 c4), (2, .int .i64 x2), (3, .pointer (some ⟨b5, 0, none⟩)), (7, .slice as11_0 ns11_0 cs11_0), (8, .int .i64 s11.2), (9, .slice as19_0 ns19_0 cs19_0), (10, .int .i64 s19.2)] ∧ Gle G16 G ∧ Since w0.heap.size G0 w0 G w ∧ Owns G w w0.heap.size [⟨25, 1, ns19_0, .slice as19_0 ns19_0 cs19_0, clas19_0⟩] ∧ ns19_0 = s19.1.length ∧ Rd (RSlice RInt 1) 1 G clas19_0 s19.1) ?_ ?_)
     ·have hO : Owns G16 w15 w0.heap.size ([⟨25, 1, 0, .slice none 0 0, []⟩]) := hO
      exact ⟨_, G16, none, 0, 0, [], upds_self _ _ ⟨rfl, rfl, rfl, rfl, rfl, rfl, rfl, trivial⟩, Gle.refl _, hS, hO, rfl, (Rd.nil (RSlice RInt 1) 1 G16)⟩
     ·rintro s19 F w23 t22 ⟨Fb, G24, as19_0, ns19_0, cs19_0, clas19_0, rfl, leG24, hS, hO, hnhs19_0, hs19_0⟩
      intro H1 hqq21
      have Hoq21 := H; have H := H1
      unfold f78_b1 at H
      refine WC_seq ?_; refine WC_seq ?_; refine WC_region ?_; refine WL_val (rn_move (v := (.int .i64 s19.2)) rfl) rfl ?_; refine WL_val (rn_move (v := (.slice as11_0 ns11_0 cs11_0)) rfl) rfl ?_; refine WL_val (rn_len sl26 rfl rfl (hs11_0.mono (RSlice_mono RInt_mono) leG24).1) rfl ?_; refine WL_val (rn_lss rfl rfl) rfl ?_; refine WL_nil ?_; refine WC_cond rfl (fun hb25 => ?_) (fun hb25 => ?_)
      ·have H := ifT hb25 H; refine WC_skip ?_; refine WC_seq ?_; refine WC_block ?_; refine WC_seq ?_; refine WC_region ?_; refine WL_val (rn_assign (v := (.int .i64 0)) rfl) rfl ?_; refine WL_nil ?_; obtain ⟨q28, hq28, H⟩ := bnd H; refine WC_cut (fun F w => ∃ (Fb : Fr) (G : Gm) (aq28_0 : Option Addr) (nq28_0 cq28_0 : Nat) (claq28_0 : List Value), F = upds Fb [(1, .slice a4 n4 c4), (2, .int .i64 x2), (3, .pointer (some ⟨b5, 0, none⟩)), (7, .slice as11_0 ns11_0 cs11_0), (8, .int .i64 s11.2), (9, .slice aq28_0 nq28_0 cq28_0), (10, .int .i64 s19.2)] ∧ Gle G24 G ∧ Since w0.heap.size G0 w0 G w ∧ Owns G w w0.heap.size [⟨25, 1, nq28_0, .slice aq28_0 nq28_0 cq28_0, claq28_0⟩] ∧ nq28_0 = q28.length ∧ Rd (RSlice RInt 1) 1 G claq28_0 q28) ?_ ?_
       ·refine WC_block (WC_loop hq28 (fun s26 F w => ∃ (Fb : Fr) (G : Gm) (as26_0 : Option Addr) (ns26_0 cs26_0 : Nat) (clas26_0 : List Value), F = upds Fb [(1, .slice a4 n4 c4), (2, .int .i64 x2), (3, .pointer (some ⟨b5, 0, none⟩)), (7, .slice as11_0 ns11_0 cs11_0), (8, .int .i64 s11.2), (9, .slice as26_0 ns26_0 cs26_0), (10, .int .i64 s19.2), (11, .int .i64 s26.2)] ∧ Gle G24 G ∧ Since w0.heap.size G0 w0 G w ∧ Owns G w w0.heap.size [⟨25, 1, ns26_0, .slice as26_0 ns26_0 cs26_0, clas26_0⟩] ∧ ns26_0 = s26.1.length ∧ Rd (RSlice RInt 1) 1 G clas26_0 s26.1) ?_ ?_)
        ·have hO : Owns G24 w23 w0.heap.size ([⟨25, 1, ns19_0, .slice as19_0 ns19_0 cs19_0, clas19_0⟩]) := hO
         exact ⟨_, G24, as19_0, ns19_0, cs19_0, clas19_0, upds_self _ _ ⟨rfl, rfl, rfl, rfl, rfl, rfl, rfl, rfl, trivial⟩, Gle.refl _, hS, hO, hnhs19_0, hs19_0⟩
        ·rintro s26 F w30 t29 ⟨Fb, G31, as26_0, ns26_0, cs26_0, clas26_0, rfl, leG31, hS, hO, hnhs26_0, hs26_0⟩
         intro H1 hqq28
         have Hoq28 := H; have H := H1
         unfold f78_b2 at H
         refine WC_seq ?_; refine WC_seq ?_; refine WC_region ?_; refine WL_val (rn_move (v := (.int .i64 s26.2)) rfl) rfl ?_; refine WL_val (rn_fld fd46_3 rfl) rfl ?_
         have l1_5 := ((leG10.trans leG16).trans leG24).trans leG31
         refine WL_val (rn_load na44 rfl ((hS.sat.le l1_5).cell (hcb5 3 _ rfl))) rfl ?_
         have l0_5 := leG7.trans l1_5
         refine WL_val (rn_len sl44 rfl rfl (h3.mono RTBaneTrip_mono l0_5).1) rfl ?_; refine WL_val (rn_lss rfl rfl) rfl ?_; refine WL_nil ?_; refine WC_cond rfl (fun hb32 => ?_) (fun hb32 => ?_)
         ·have H := ifT hb32 H; refine WC_skip ?_; refine WC_seq ?_; obtain ⟨q33, hq33, H⟩ := bnd H; refine WC_cut (fun F w => ∃ (Fb : Fr) (G : Gm) (aq33_0 : Option Addr) (nq33_0 cq33_0 : Nat) (claq33_0 : List Value), F = upds Fb [(1, .slice a4 n4 c4), (2, .int .i64 x2), (3, .pointer (some ⟨b5, 0, none⟩)), (7, .slice as11_0 ns11_0 cs11_0), (8, .int .i64 s11.2), (9, .slice aq33_0 nq33_0 cq33_0), (10, .int .i64 s19.2), (11, .int .i64 s26.2)] ∧ Gle G31 G ∧ Since w0.heap.size G0 w0 G w ∧ Owns G w w0.heap.size [⟨25, 1, nq33_0, .slice aq33_0 nq33_0 cq33_0, claq33_0⟩] ∧ nq33_0 = q33.length ∧ Rd (RSlice RInt 1) 1 G claq33_0 q33) ?_ ?_
          ·have Hoq33 := H; have H := hq33; refine WC_block ?_; refine WC_seq ?_; refine WC_region ?_; refine WL_val (rn_move (v := (.slice as11_0 ns11_0 cs11_0)) rfl) rfl ?_; refine WL_val (rn_move (v := (.int .i64 s19.2)) rfl) rfl ?_; obtain ⟨y34, hy34, H⟩ := bnd H
           have l3_5 := leG24.trans leG31
           refine WL_idx sl26 (hs11_0.mono (RSlice_mono RInt_mono) l3_5) hy34 rfl rfl rfl ?_
           rintro b35 o35 _ hcb35 _ ⟨a36, n36, c36, ⟨⟩, h36⟩
           refine WL_val (rn_load na25 rfl (hS.sat.cell (hcb35 0 _ rfl))) rfl ?_; have hO := hO.cons_nil 3 1; obtain ⟨y38, hy38, H⟩ := bnd H; refine WL_op rfl (OpP_append (k := 0) sl25 RInt_one hS hO rfl rfl (Rd.nil RInt 1 G31) h36 hy38 rfl rfl rfl rfl rfl (fun aw39 cw39 w39 clw39 hS hO hrw39 => ?_))
           have hO : Owns G31 w39 w0.heap.size ([⟨3, 1, y38.length, .slice aw39 y38.length cw39, clw39⟩, ⟨25, 1, ns26_0, .slice as26_0 ns26_0 cs26_0, clas26_0⟩]) := hO
           refine WL_val (rn_move (v := (.int .i64 s26.2)) rfl) rfl ?_
           refine WL_op rfl (OpP_newF (v := fun b => .slice (some ⟨b, 0, none⟩) 1 1) (cs := [.int .i64 s26.2]) (e := 3) (by kernel_rfl) hS.sat rfl (fun b40 G42 w41 hg hcb40 => ?_))
           have hS := hS.grow hg; have hO := hO.grow hg
           have leG42 := hg.le
           have hfb40 : RSl RInt 1 G42 (some ⟨b40, 0, none⟩) 1 1 [s26.2] := RSl.of_rd hcb40 (Rd.cons (c := [.int .i64 s26.2]) rfl rfl (Rd.nil RInt 1 _)) rfl (by decide)
           obtain ⟨y43, hy43, H⟩ := bnd H; refine WL_op rfl (OpP_append (k := 0) sl25 RInt_one hS hO rfl rfl (hrw39.mono RInt_mono leG42) hfb40 hy43 rfl rfl rfl rfl rfl (fun aw44 cw44 w44 clw44 hS hO hrw44 => ?_))
           have hO : Owns G42 w44 w0.heap.size ([⟨3, 1, y43.length, .slice aw44 y43.length cw44, clw44⟩, ⟨25, 1, ns26_0, .slice as26_0 ns26_0 cs26_0, clas26_0⟩]) := hO
           refine WL_val (rn_assign (v := (.slice aw44 y43.length cw44)) rfl) rfl ?_; refine WL_nil ?_; refine WC_seq ?_; obtain ⟨q45, hq45, H⟩ := bnd H; refine WC_cut (fun F w => ∃ (Fb : Fr) (G : Gm), F = upds Fb [(1, .slice a4 n4 c4), (2, .int .i64 x2), (3, .pointer (some ⟨b5, 0, none⟩)), (7, .slice as11_0 ns11_0 cs11_0), (8, .int .i64 s11.2), (9, .slice as26_0 ns26_0 cs26_0), (10, .int .i64 s19.2), (11, .int .i64 s26.2), (12, .slice aw44 y43.length cw44), (55, .bool q45)] ∧ Gle G42 G ∧ Since w0.heap.size G0 w0 G w ∧ Owns G w w0.heap.size [⟨3, 1, y43.length, .slice aw44 y43.length cw44, clw44⟩, ⟨25, 1, ns26_0, .slice as26_0 ns26_0 cs26_0, clas26_0⟩]) ?_ ?_
           ·have Hoq45 := H; have H := hq45; have hS := hS.keep (below_drew _); have hO := hO.below (below_drew _)
            refine WC_regionD mixedO (fun w => Sat G42 w ∧ Owns G42 w w0.heap.size [⟨3, 1, y43.length, .slice aw44 y43.length cw44, clw44⟩, ⟨25, 1, ns26_0, .slice as26_0 ns26_0 cs26_0, clas26_0⟩]) (.fl 0 (.fl 1 (.fl 2 (.fl 3 (.fl 4 (.on 5 (.on 6 (.on 7 (.on 8 (.on 9 (.on 10 (.fl 11 (.on 12 (.on 13 (.on 14 (.on 15 .nil)))))))))))))))) (by kernel_rfl) rfl (by kernel_rfl) ⟨hS.sat, hO⟩ ?_
            refine WD_val rfl (fun w hw => rn_loadA ag46 (cs := [.int .i64 x0.Islets, .slice a1 n1 c1, .slice a2 n2 c2, .slice a3 n3 c3, .int .i64 x0.Wait]) rfl rfl (fun j v hj => (hw.1.le (l1_5.trans leG42)).cell (hcb5.drop_take 0 5 j v hj))) rfl ?_; refine WD_val rfl (fun w hw => rn_move (v := (.slice a4 n4 c4)) rfl) rfl ?_; refine WD_val rfl (fun w hw => rn_move (v := (.slice aw44 y43.length cw44)) rfl) rfl ?_; refine WD_val rfl (fun w hw => rn_fld fd46_3 rfl) rfl ?_; refine WD_val rfl (fun w hw => rn_load na44 rfl ((hw.1.le (l1_5.trans leG42)).cell (hcb5 3 _ rfl))) rfl ?_; refine WD_op rfl rfl (OpP_val (rn_move (v := (.int .i64 s26.2)) rfl) rfl ?_); refine ⟨fun _ => ⟨hS.sat, hO⟩, ?_⟩; obtain ⟨y46, hy46, H⟩ := bnd H
            have l0_6 := l0_5.trans leG42
            refine WD_op rfl rfl (OpP_idx sl44 (h3.mono RTBaneTrip_mono l0_6) hy46 rfl rfl rfl ?_)
            rintro b47 o47 _ hcb47 _ ⟨⟩
            refine ⟨fun _ => ⟨hS.sat, hO⟩, ?_⟩; refine WD_op rfl rfl (OpP_val (rn_fld fd109_2 rfl) rfl ?_); refine ⟨fun _ => ⟨hS.sat, hO⟩, ?_⟩; refine WD_op rfl rfl (OpP_val (rn_load na3 rfl (hS.sat.cell (hcb47 2 _ rfl))) rfl ?_); refine ⟨fun _ => ⟨hS.sat, hO⟩, ?_⟩; obtain ⟨y48, hy48, H⟩ := bnd H; obtain ⟨Gv49, leGv49, hSGv49, hOGv49, hvGv49⟩ := hO.freezeS hS RInt_mono (k := 0) rfl hrw44 rfl; refine WD_op rfl rfl (OpP_callV cb51 (f51_ok (x0 := x0) (x1 := x1) (x2 := y43) (x3 := y46.To) hSGv49.sat ((h1.mono RInt_mono l0_6).mono RInt_mono leGv49) ((h2.mono RInt_mono l0_6).mono RInt_mono leGv49) ((h3.mono RTBaneTrip_mono l0_6).mono RTBaneTrip_mono leGv49) ((h4.mono RInt_mono l0_6).mono RInt_mono leGv49) hvGv49 hy48) rfl rfl (fun w50 hb => ?_)); have hS := hS.keep hb; have hO := hO.below hb; refine ⟨fun _ => ⟨hS.sat, hO⟩, ?_⟩; refine WD_op rfl rfl (OpP_val (rn_move (v := (.bool y48)) rfl) rfl ?_); refine ⟨fun _ => ⟨hS.sat, hO⟩, ?_⟩
            rcases bcases y48 with hb51 | hb51
            ·have H := ifT hb51 H; refine WD_valY rfl rfl hb51 rfl rfl (fun w hw => rn_loadA ag46 (cs := [.int .i64 x0.Islets, .slice a1 n1 c1, .slice a2 n2 c2, .slice a3 n3 c3, .int .i64 x0.Wait]) rfl rfl (fun j v hj => (hw.1.le (l1_5.trans leG42)).cell (hcb5.drop_take 0 5 j v hj))) rfl ?_; refine WD_opY rfl rfl rfl hb51 rfl rfl (OpP_val (rn_move (v := (.slice aw44 y43.length cw44)) rfl) rfl ?_); refine ⟨fun _ => ⟨hS.sat, hO⟩, ?_⟩; obtain ⟨y52, hy52, H⟩ := bnd H; obtain ⟨Gv53, leGv53, hSGv53, hOGv53, hvGv53⟩ := hO.freezeS hS RInt_mono (k := 0) rfl hrw44 rfl; refine WD_opY rfl rfl rfl hb51 rfl rfl (OpP_callV cb102 (f102_ok (x0 := x0) (x1 := y43) hSGv53.sat ((h1.mono RInt_mono l0_6).mono RInt_mono leGv53) ((h2.mono RInt_mono l0_6).mono RInt_mono leGv53) ((h3.mono RTBaneTrip_mono l0_6).mono RTBaneTrip_mono leGv53) hvGv53 hy52) rfl rfl (fun w54 hb => ?_)); have hS := hS.keep hb; have hO := hO.below hb
             refine ⟨fun h => nomore (by kernel_rfl) h, ?_⟩
             refine WD_opY rfl rfl rfl hb51 rfl rfl (OpP_val (rn_not rfl) rfl ?_)
             refine ⟨fun h => nomore (by kernel_rfl) h, ?_⟩
             refine WD_op rfl rfl (OpP_val (rn_pickT (v := (.bool (!y52))) rfl hb51 rfl) rfl ?_)
             refine ⟨fun h => nomore (by kernel_rfl) h, ?_⟩
             refine WD_nil ?_
             have hO : Owns G42 w54 w0.heap.size ([⟨3, 1, y43.length, .slice aw44 y43.length cw44, clw44⟩, ⟨25, 1, ns26_0, .slice as26_0 ns26_0 cs26_0, clas26_0⟩]) := hO
             have H := Option.some.inj H; subst H
             exact ⟨_, G42, upds_self _ _ ⟨rfl, rfl, rfl, rfl, rfl, rfl, rfl, rfl, rfl, rfl, trivial⟩, Gle.refl _, hS, hO⟩
            ·have H := ifF hb51 H; refine WD_skip rfl rfl hb51 rfl rfl rfl ?_; refine WD_skipS rfl rfl hb51 rfl rfl rfl (fun _ => ⟨hS.sat, hO⟩) ?_
             refine WD_skipS rfl rfl hb51 rfl rfl rfl (fun h => nomore (by kernel_rfl) h) ?_
             refine WD_skipS rfl rfl hb51 rfl rfl rfl (fun h => nomore (by kernel_rfl) h) ?_
             refine WD_op rfl rfl (OpP_val (rn_pickF (v := (.bool false)) rfl hb51 rfl) rfl ?_)
             refine ⟨fun h => nomore (by kernel_rfl) h, ?_⟩
             refine WD_nil ?_
             have hO : Owns G42 w50 w0.heap.size ([⟨3, 1, y43.length, .slice aw44 y43.length cw44, clw44⟩, ⟨25, 1, ns26_0, .slice as26_0 ns26_0 cs26_0, clas26_0⟩]) := hO
             have H := Option.some.inj H; subst H
             exact ⟨_, G42, upds_self _ _ ⟨rfl, rfl, rfl, rfl, rfl, rfl, rfl, rfl, rfl, rfl, trivial⟩, Gle.refl _, hS, hO⟩
           ·rintro F w55 ⟨Fb, G56, rfl, leG56, hS, hO⟩
            refine WC_cond rfl (fun hb57 => ?_) (fun hb57 => ?_)
            ·have H := ifT hb57 H; refine WC_region ?_; refine WL_val (rn_move (v := (.slice as26_0 ns26_0 cs26_0)) rfl) rfl ?_; refine WL_val (rn_move (v := (.slice aw44 y43.length cw44)) rfl) rfl ?_; obtain ⟨G58, leG58, hS, hO, hfG58⟩ := hO.freezeS hS RInt_mono (k := 0) rfl (hrw44.mono RInt_mono leG56) rfl
             refine WL_op rfl (OpP_newF (v := fun b => .slice (some ⟨b, 0, none⟩) 1 1) (cs := [.slice aw44 y43.length cw44]) (e := 25) (by kernel_rfl) hS.sat rfl (fun b59 G61 w60 hg hcb59 => ?_))
             have hS := hS.grow hg; have hO := hO.grow hg
             have leG61 := hg.le
             have hfb59 : RSl (RSlice RInt 1) 1 G61 (some ⟨b59, 0, none⟩) 1 1 [y43] := RSl.of_rd hcb59 (Rd.cons (c := [.slice aw44 y43.length cw44]) rfl ⟨_, _, _, rfl, (hfG58.mono RInt_mono leG61)⟩ (Rd.nil (RSlice RInt 1) 1 _)) rfl (by decide)
             obtain ⟨y62, hy62, H⟩ := bnd H
             have l5_9 := ((leG42.trans leG56).trans leG58).trans leG61
             refine WL_op rfl (OpP_append (k := 0) sl26 (RSlice_one RInt 1) hS hO rfl hnhs26_0 (hs26_0.mono (RSlice_mono RInt_mono) l5_9) hfb59 hy62 rfl rfl rfl rfl rfl (fun aw63 cw63 w63 clw63 hS hO hrw63 => ?_))
             have hO : Owns G61 w63 w0.heap.size ([⟨25, 1, y62.length, .slice aw63 y62.length cw63, clw63⟩]) := hO
             refine WL_val (rn_assign (v := (.slice aw63 y62.length cw63)) rfl) rfl ?_; refine WL_nil ?_
             have hO : Owns G61 w63 w0.heap.size ([⟨25, 1, y62.length, .slice aw63 y62.length cw63, clw63⟩]) := hO
             have H := Option.some.inj H; subst H
             exact ⟨_, G61, aw63, y62.length, cw63, clw63, upds_self _ _ ⟨rfl, rfl, rfl, rfl, rfl, rfl, rfl, rfl, trivial⟩, l5_9, hS, hO, rfl, hrw63⟩
            ·have H := ifF hb57 H; refine WC_skip ?_; have hO := hO.drop 0
             have hO : Owns G56 w55 w0.heap.size ([⟨25, 1, ns26_0, .slice as26_0 ns26_0 cs26_0, clas26_0⟩]) := hO
             have H := Option.some.inj H; subst H
             have l5_7 := leG42.trans leG56
             exact ⟨_, G56, as26_0, ns26_0, cs26_0, clas26_0, upds_self _ _ ⟨rfl, rfl, rfl, rfl, rfl, rfl, rfl, rfl, trivial⟩, l5_7, hS, hO, hnhs26_0, (hs26_0.mono (RSlice_mono RInt_mono) l5_7)⟩
          ·rintro F w64 ⟨Fb, G65, aq33_0, nq33_0, cq33_0, claq33_0, rfl, leG65, hS, hO, hnhq33_0, hq33_0⟩
           refine WC_region ?_; refine WL_val (rn_move (v := (.int .i64 s26.2)) rfl) rfl ?_; refine WL_val (rn_add rfl rfl) rfl ?_; refine WL_val (rn_assign (v := (.int .i64 (IntKind.i64.wrap (s26.2 + 1)))) rfl) rfl ?_; refine WL_nil ?_
           have hO : Owns G65 w64 w0.heap.size ([⟨25, 1, nq33_0, .slice aq33_0 nq33_0 cq33_0, claq33_0⟩]) := hO
           have H := Option.some.inj H; subst H; refine ⟨_, rfl, ?_⟩
           have l4_6 := leG31.trans leG65
           exact ⟨_, G65, aq33_0, nq33_0, cq33_0, claq33_0, upds_self _ _ ⟨rfl, rfl, rfl, rfl, rfl, rfl, rfl, rfl, trivial⟩, l4_6, hS, hO, hnhq33_0, hq33_0⟩
         ·have H := ifF hb32 H; refine WC_exit rfl ?_
          have hO : Owns G31 w30 w0.heap.size ([⟨25, 1, ns26_0, .slice as26_0 ns26_0 cs26_0, clas26_0⟩]) := hO
          have H := Option.some.inj H; subst H
          have hres := hqq28 _ rfl
          subst hres
          exact ⟨_, G31, as26_0, ns26_0, cs26_0, clas26_0, upds_self _ _ ⟨rfl, rfl, rfl, rfl, rfl, rfl, rfl, trivial⟩, leG31, hS, hO, hnhs26_0, hs26_0⟩
       ·rintro F w66 ⟨Fb, G67, aq28_0, nq28_0, cq28_0, claq28_0, rfl, leG67, hS, hO, hnhq28_0, hq28_0⟩
        refine WC_region ?_; refine WL_val (rn_move (v := (.int .i64 s19.2)) rfl) rfl ?_; refine WL_val (rn_add rfl rfl) rfl ?_; refine WL_val (rn_assign (v := (.int .i64 (IntKind.i64.wrap (s19.2 + 1)))) rfl) rfl ?_; refine WL_nil ?_
        have hO : Owns G67 w66 w0.heap.size ([⟨25, 1, nq28_0, .slice aq28_0 nq28_0 cq28_0, claq28_0⟩]) := hO
        have H := Option.some.inj H; subst H; refine ⟨_, rfl, ?_⟩
        have l3_5 := leG24.trans leG67
        exact ⟨_, G67, aq28_0, nq28_0, cq28_0, claq28_0, upds_self _ _ ⟨rfl, rfl, rfl, rfl, rfl, rfl, rfl, trivial⟩, l3_5, hS, hO, hnhq28_0, hq28_0⟩
      ·have H := ifF hb25 H; refine WC_exit rfl ?_
       have hO : Owns G24 w23 w0.heap.size ([⟨25, 1, ns19_0, .slice as19_0 ns19_0 cs19_0, clas19_0⟩]) := hO
       have H := Option.some.inj H; subst H
       have hres := hqq21 _ rfl
       subst hres
       exact ⟨_, G24, as19_0, ns19_0, cs19_0, clas19_0, upds_self _ _ ⟨rfl, rfl, rfl, rfl, rfl, trivial⟩, leG24, hS, hO, hnhs19_0, hs19_0⟩
    ·rintro F w68 ⟨Fb, G69, aq21_0, nq21_0, cq21_0, claq21_0, rfl, leG69, hS, hO, hnhq21_0, hq21_0⟩
     refine WC_region ?_; refine WL_val (rn_move (v := (.slice aq21_0 nq21_0 cq21_0)) rfl) rfl ?_; refine WL_val (rn_assign (v := (.slice aq21_0 nq21_0 cq21_0)) rfl) rfl ?_; refine WL_nil ?_; refine WC_region ?_; refine WL_val (rn_move (v := (.int .i64 s11.2)) rfl) rfl ?_; refine WL_val (rn_add rfl rfl) rfl ?_; refine WL_val (rn_assign (v := (.int .i64 (IntKind.i64.wrap (s11.2 + 1)))) rfl) rfl ?_; refine WL_nil ?_; obtain ⟨G70, leG70, hS, hO, hfG70⟩ := hO.freezeS hS (RSlice_mono RInt_mono) (k := 0) rfl hq21_0 hnhq21_0
     have hO : Owns G70 w68 w0.heap.size ([]) := hO
     have H := Option.some.inj H; subst H; refine ⟨_, rfl, ?_⟩
     have l2_5 := (leG16.trans leG69).trans leG70
     exact ⟨_, G70, aq21_0, nq21_0, cq21_0, upds_self _ _ ⟨rfl, rfl, rfl, rfl, rfl, trivial⟩, l2_5, hS, hO, hfG70⟩
   ·have H := ifF hb17 H; refine WC_exit rfl ?_
    have hO : Owns G16 w15 w0.heap.size ([]) := hO
    have H := Option.some.inj H; subst H
    have hres := hqq13 _ rfl
    subst hres
    exact ⟨_, G16, as11_0, ns11_0, cs11_0, upds_self _ _ ⟨rfl, trivial⟩, leG16, hS, hO, hs11_0⟩
 ·rintro F w71 ⟨Fb, G72, aq13_0, nq13_0, cq13_0, rfl, leG72, hS, hO, hq13_0⟩
  refine WC_seq ?_; refine WC_region ?_; refine WL_val (rn_move (v := (.slice aq13_0 nq13_0 cq13_0)) rfl) rfl ?_; refine WL_val (rn_assign (v := (.slice aq13_0 nq13_0 cq13_0)) rfl) rfl ?_; refine WL_nil ?_; refine WC_ret ?_
  have H : some q13 = some r := H
  have H := Option.some.inj H; subst H
  exact ⟨_, _, rfl, hS.toGrow, _, _, _, rfl, hq13_0⟩
set_option maxHeartbeats 1000000 in
theorem f32_ok {G0 : Gm} {w0 : World} (hS0 : Sat G0 w0) {x0 : TBaneSea} {a1 : Option Addr} {n1 c1 : Nat} {a2 : Option Addr} {n2 c2 : Nat} {a3 : Option Addr} {n3 c3 : Nat} {x1 : (List Int)} {a4 : Option Addr} {n4 c4 : Nat} {x2 : Int} (h1 : RSl RInt 1 G0 a1 n1 c1 x0.Infested) (h2 : RSl RInt 1 G0 a2 n2 c2 x0.Clean) (h3 : RSl RTBaneTrip 4 G0 a3 n3 c3 x0.Trips) (h4 : RSl RInt 1 G0 a4 n4 c4 x1) {r : (List Int) × Bool} (H : f32 x0 x1 x2 = some r) :
  Calls Try.prog 32 #[.agg #[.int .i64 x0.Islets, .slice a1 n1 c1, .slice a2 n2 c2, .slice a3 n3 c3, .int .i64 x0.Wait], .slice a4 n4 c4, .int .i64 x2] w0 (RetG G0 w0 (fun G v => ∃ (ra0 : Option Addr) (rn0 rc0 : Nat), v = .tuple #[.slice ra0 rn0 rc0, .bool r.2] ∧ RSl RInt 1 G ra0 rn0 rc0 r.1)) := by
 have hS := Since.start hS0
 have hO : Owns G0 w0 w0.heap.size [] := Owns.nil (Nat.le_refl _)
 unfold f32 at H
 refine enter2 (N := 58) (shutG _ _ _) Try.func32 rfl rfl rfl rfl ?_; refine WC_seq ?_; refine WC_region ?_; refine WL_op rfl (OpP_newF (v := fun b => .pointer (some ⟨b, 0, none⟩)) (cs := [.int .i64 x0.Islets, .slice a1 n1 c1, .slice a2 n2 c2, .slice a3 n3 c3, .int .i64 x0.Wait]) (e := 46) (rn_boxA rfl) hS.sat rfl (fun b5 G7 w6 hg hcb5 => ?_)); have hS := hS.grow hg; have hO := hO.grow hg
 have leG7 := hg.le
 refine WL_val (rn_assign (v := (.slice none 0 0)) rfl) rfl ?_; refine WL_val (rn_assign (v := (.bool false)) rfl) rfl ?_; refine WL_nil ?_; refine WC_seq ?_; refine WC_region ?_; refine WL_val (rn_loadA ag46 (cs := [.int .i64 x0.Islets, .slice a1 n1 c1, .slice a2 n2 c2, .slice a3 n3 c3, .int .i64 x0.Wait]) rfl rfl (fun j v hj => hS.sat.cell (hcb5.drop_take 0 5 j v hj))) rfl ?_; refine WL_val (rn_move (v := (.slice a4 n4 c4)) rfl) rfl ?_; obtain ⟨y8, hy8, H⟩ := bnd H; refine WL_op rfl (OpP_callG cb56 (f56_ok (x0 := x0) (x1 := x1) hS.sat (h1.mono RInt_mono leG7) (h2.mono RInt_mono leG7) (h3.mono RTBaneTrip_mono leG7) (h4.mono RInt_mono leG7) hy8) rfl rfl (fun vy8 G10 w9 hg hvy8 => ?_)); obtain ⟨a11, n11, c11, ⟨⟩, h11⟩ := hvy8; have hS := hS.grow hg; have hO := hO.grow hg
 have leG10 := hg.le
 refine WL_val (rn_move (v := (.int .i64 x2)) rfl) rfl ?_; obtain ⟨y12, hy12, H⟩ := bnd H; refine WL_idx sl25 h11 hy12 rfl rfl rfl ?_
 rintro b13 o13 _ hcb13 _ ⟨⟩
 refine WL_val (rn_load na3 rfl (hS.sat.cell (hcb13 0 _ rfl))) rfl ?_; refine WL_val (rn_assign (v := (.int .i64 y12)) rfl) rfl ?_; refine WL_nil ?_; refine WC_seq ?_; refine WC_seq ?_; refine WC_region ?_; refine WL_val (rn_move (v := (.int .i64 y12)) rfl) rfl ?_; refine WL_val (rn_eql rfl rfl) rfl ?_; refine WL_nil ?_; refine WC_cond rfl (fun hb14 => ?_) (fun hb14 => ?_)
 ·have H := ifT hb14 H; refine WC_seq ?_; refine WC_region ?_; refine WL_val (rn_assign (v := (.slice none 0 0)) rfl) rfl ?_; refine WL_val (rn_assign (v := (.bool false)) rfl) rfl ?_; refine WL_nil ?_; refine WC_ret ?_
  have H : some ([], false) = some r := H
  have H := Option.some.inj H; subst H
  exact ⟨_, _, rfl, hS.toGrow, _, _, _, rfl, (RSl.nil RInt 1 G10 none)⟩
 ·have H := ifF hb14 H; refine WC_skip ?_; refine WC_seq ?_; refine WC_seq ?_; refine WC_region ?_; refine WL_val (rn_assign (v := (.int .i64 0)) rfl) rfl ?_; refine WL_nil ?_; obtain ⟨q17, hq17, H⟩ := bnd H; refine WC_cut (fun F w => ∃ (p16 : Unit) (Fb : Fr) (G : Gm), q17 = .inl p16 ∧ F = upds Fb [] ∧ Gle G10 G ∧ Since w0.heap.size G0 w0 G w ∧ Owns G w w0.heap.size []) ?_ ?_
  ·refine WC_block (WC_loop hq17 (fun s15 F w => ∃ (Fb : Fr) (G : Gm), F = upds Fb [(1, .slice a4 n4 c4), (2, .int .i64 x2), (3, .pointer (some ⟨b5, 0, none⟩)), (8, .int .i64 y12), (9, .int .i64 s15)] ∧ Gle G10 G ∧ Since w0.heap.size G0 w0 G w ∧ Owns G w w0.heap.size []) ?_ ?_)
   ·have hO : Owns G10 w9 w0.heap.size ([]) := hO
    exact ⟨_, G10, upds_self _ _ ⟨rfl, rfl, rfl, rfl, rfl, trivial⟩, Gle.refl _, hS, hO⟩
   ·rintro s15 F w19 t18 ⟨Fb, G20, rfl, leG20, hS, hO⟩
    intro H1 hqq17
    have Hoq17 := H; have H := H1
    unfold f32_b0 at H
    refine WC_seq ?_; refine WC_seq ?_; refine WC_region ?_; refine WL_val (rn_move (v := (.int .i64 s15)) rfl) rfl ?_; refine WL_val (rn_fld fd46_0 rfl) rfl ?_
    have l1_3 := leG10.trans leG20
    refine WL_val (rn_load na3 rfl ((hS.sat.le l1_3).cell (hcb5 0 _ rfl))) rfl ?_; refine WL_val (rn_lss rfl rfl) rfl ?_; refine WL_nil ?_; refine WC_cond rfl (fun hb21 => ?_) (fun hb21 => ?_)
    ·have H := ifT hb21 H; refine WC_skip ?_; refine WC_seq ?_; refine WC_block ?_; refine WC_seq ?_; refine WC_region ?_; refine WL_val (rn_loadA ag46 (cs := [.int .i64 x0.Islets, .slice a1 n1 c1, .slice a2 n2 c2, .slice a3 n3 c3, .int .i64 x0.Wait]) rfl rfl (fun j v hj => (hS.sat.le l1_3).cell (hcb5.drop_take 0 5 j v hj))) rfl ?_; refine WL_val (rn_move (v := (.slice a4 n4 c4)) rfl) rfl ?_; refine WL_val (rn_move (v := (.int .i64 s15)) rfl) rfl ?_; obtain ⟨y22, hy22, H⟩ := bnd H
     have l0_3 := leG7.trans l1_3
     refine WL_op rfl (OpP_callG cb78 (f78_ok (x0 := x0) (x1 := x1) (x2 := s15) hS.sat (h1.mono RInt_mono l0_3) (h2.mono RInt_mono l0_3) (h3.mono RTBaneTrip_mono l0_3) (h4.mono RInt_mono l0_3) hy22) rfl rfl (fun vy22 G24 w23 hg hvy22 => ?_)); obtain ⟨a25, n25, c25, ⟨⟩, h25⟩ := hvy22; have hS := hS.grow hg; have hO := hO.grow hg
     have leG24 := hg.le
     refine WL_val (rn_assign (v := (.slice a25 n25 c25)) rfl) rfl ?_; refine WL_nil ?_; refine WC_seq ?_; refine WC_region ?_; refine WL_val (rn_assign (v := (.int .i64 0)) rfl) rfl ?_; refine WL_nil ?_; obtain ⟨q28, hq28, H⟩ := bnd H; refine WC_cut (fun F w => ∃ (p27 : Unit) (Fb : Fr) (G : Gm), q28 = .inl p27 ∧ F = upds Fb [(1, .slice a4 n4 c4), (2, .int .i64 x2), (3, .pointer (some ⟨b5, 0, none⟩)), (8, .int .i64 y12), (9, .int .i64 s15)] ∧ Gle G24 G ∧ Since w0.heap.size G0 w0 G w ∧ Owns G w w0.heap.size []) ?_ ?_
     ·refine WC_block (WC_loop hq28 (fun s26 F w => ∃ (Fb : Fr) (G : Gm), F = upds Fb [(1, .slice a4 n4 c4), (2, .int .i64 x2), (3, .pointer (some ⟨b5, 0, none⟩)), (8, .int .i64 y12), (9, .int .i64 s15), (10, .slice a25 n25 c25), (11, .int .i64 s26)] ∧ Gle G24 G ∧ Since w0.heap.size G0 w0 G w ∧ Owns G w w0.heap.size []) ?_ ?_)
      ·have hO : Owns G24 w23 w0.heap.size ([]) := hO
       exact ⟨_, G24, upds_self _ _ ⟨rfl, rfl, rfl, rfl, rfl, rfl, rfl, trivial⟩, Gle.refl _, hS, hO⟩
      ·rintro s26 F w30 t29 ⟨Fb, G31, rfl, leG31, hS, hO⟩
       intro H1 hqq28
       have Hoq28 := H; have H := H1
       unfold f32_b1 at H
       refine WC_seq ?_; refine WC_seq ?_; refine WC_region ?_; refine WL_val (rn_move (v := (.int .i64 s26)) rfl) rfl ?_; refine WL_val (rn_move (v := (.slice a25 n25 c25)) rfl) rfl ?_; refine WL_val (rn_len sl26 rfl rfl (h25.mono (RSlice_mono RInt_mono) leG31).1) rfl ?_; refine WL_val (rn_lss rfl rfl) rfl ?_; refine WL_nil ?_; refine WC_cond rfl (fun hb32 => ?_) (fun hb32 => ?_)
       ·have H := ifT hb32 H; refine WC_skip ?_; refine WC_seq ?_; refine WC_block ?_; refine WC_seq ?_; obtain ⟨q33, hq33, H⟩ := bnd H; refine WC_cut (fun F w => ∃ (Fb : Fr) (G : Gm), F = upds Fb [(1, .slice a4 n4 c4), (2, .int .i64 x2), (3, .pointer (some ⟨b5, 0, none⟩)), (8, .int .i64 y12), (9, .int .i64 s15), (10, .slice a25 n25 c25), (11, .int .i64 s26), (53, .bool q33)] ∧ Gle G31 G ∧ Since w0.heap.size G0 w0 G w ∧ Owns G w w0.heap.size []) ?_ ?_
        ·have Hoq33 := H; have H := hq33; have hS := hS.keep (below_drew _); have hO := hO.below (below_drew _)
         refine WC_regionD mixedO (fun w => Sat G31 w ∧ True) (.fl 0 (.fl 1 (.fl 2 (.fl 3 (.fl 4 (.fl 5 (.on 6 (.on 7 (.on 8 (.fl 9 (.fl 10 (.fl 11 (.fl 12 (.fl 13 (.fl 15 (.on 14 (.on 16 (.on 17 .nil)))))))))))))))))) (by kernel_rfl) rfl (by kernel_rfl) ⟨hS.sat, trivial⟩ ?_
         refine WD_val rfl (fun w hw => rn_loadA ag46 (cs := [.int .i64 x0.Islets, .slice a1 n1 c1, .slice a2 n2 c2, .slice a3 n3 c3, .int .i64 x0.Wait]) rfl rfl (fun j v hj => (hw.1.le ((l1_3.trans leG24).trans leG31)).cell (hcb5.drop_take 0 5 j v hj))) rfl ?_; refine WD_val rfl (fun w hw => rn_move (v := (.slice a4 n4 c4)) rfl) rfl ?_; refine WD_val rfl (fun w hw => rn_move (v := (.slice a25 n25 c25)) rfl) rfl ?_; refine WD_val rfl (fun w hw => rn_move (v := (.int .i64 s26)) rfl) rfl ?_; obtain ⟨y34, hy34, H⟩ := bnd H; refine WD_idx rfl sl26 (h25.mono (RSlice_mono RInt_mono) leG31) hy34 rfl rfl rfl ?_
         rintro b35 o35 _ hcb35 _ ⟨a36, n36, c36, ⟨⟩, h36⟩
         refine WD_val rfl (fun w hw => rn_load na25 rfl (hw.1.cell (hcb35 0 _ rfl))) rfl ?_; refine WD_op rfl rfl (OpP_val (rn_move (v := (.int .i64 x2)) rfl) rfl ?_); refine ⟨fun _ => ⟨hS.sat, trivial⟩, ?_⟩; obtain ⟨y37, hy37, H⟩ := bnd H
         have l0_5 := (l0_3.trans leG24).trans leG31
         refine WD_op rfl rfl (OpP_callV cb51 (f51_ok (x0 := x0) (x1 := x1) (x2 := y34) (x3 := x2) hS.sat (h1.mono RInt_mono l0_5) (h2.mono RInt_mono l0_5) (h3.mono RTBaneTrip_mono l0_5) (h4.mono RInt_mono l0_5) h36 hy37) rfl rfl (fun w38 hb => ?_)); have hS := hS.keep hb; have hO := hO.below hb; refine ⟨fun _ => ⟨hS.sat, trivial⟩, ?_⟩; refine WD_op rfl rfl (OpP_val (rn_move (v := (.bool y37)) rfl) rfl ?_); refine ⟨fun _ => ⟨hS.sat, trivial⟩, ?_⟩
         rcases bcases y37 with hb39 | hb39
         ·have H := ifT hb39 H; refine WD_valY rfl rfl hb39 rfl rfl (fun w hw => rn_loadA ag46 (cs := [.int .i64 x0.Islets, .slice a1 n1 c1, .slice a2 n2 c2, .slice a3 n3 c3, .int .i64 x0.Wait]) rfl rfl (fun j v hj => (hw.1.le ((l1_3.trans leG24).trans leG31)).cell (hcb5.drop_take 0 5 j v hj))) rfl ?_; refine WD_valY rfl rfl hb39 rfl rfl (fun w hw => rn_move (v := (.slice a25 n25 c25)) rfl) rfl ?_; refine WD_valY rfl rfl hb39 rfl rfl (fun w hw => rn_move (v := (.int .i64 s26)) rfl) rfl ?_; refine WD_idxY rfl rfl hb39 rfl rfl sl26 (h25.mono (RSlice_mono RInt_mono) leG31) hy34 rfl rfl rfl ?_
          rintro b40 o40 _ hcb40 _ ⟨a41, n41, c41, ⟨⟩, h41⟩
          refine WD_valY rfl rfl hb39 rfl rfl (fun w hw => rn_load na25 rfl (hw.1.cell (hcb40 0 _ rfl))) rfl ?_; refine WD_valY rfl rfl hb39 rfl rfl (fun w hw => rn_move (v := (.int .i64 y12)) rfl) rfl ?_; obtain ⟨y42, hy42, H⟩ := bnd H; refine WD_opY rfl rfl rfl hb39 rfl rfl (OpP_callV cb52 (f52_ok (x0 := x0) (x1 := y34) hS.sat (h1.mono RInt_mono l0_5) (h2.mono RInt_mono l0_5) (h3.mono RTBaneTrip_mono l0_5) h41 hy42) rfl rfl (fun w43 hb => ?_)); have hS := hS.keep hb; have hO := hO.below hb; refine ⟨fun _ => ⟨hS.sat, trivial⟩, ?_⟩; refine WD_opY rfl rfl rfl hb39 rfl rfl (OpP_val (rn_eql rfl rfl) rfl ?_)
          refine ⟨fun h => nomore (by kernel_rfl) h, ?_⟩
          refine WD_op rfl rfl (OpP_val (rn_pickT (v := (.bool (y42 == y12))) rfl hb39 rfl) rfl ?_)
          refine ⟨fun h => nomore (by kernel_rfl) h, ?_⟩
          refine WD_nil ?_
          have hO : Owns G31 w43 w0.heap.size ([]) := hO
          have H := Option.some.inj H; subst H
          exact ⟨_, G31, upds_self _ _ ⟨rfl, rfl, rfl, rfl, rfl, rfl, rfl, rfl, trivial⟩, Gle.refl _, hS, hO⟩
         ·have H := ifF hb39 H; refine WD_skip rfl rfl hb39 rfl rfl rfl ?_; refine WD_skip rfl rfl hb39 rfl rfl rfl ?_; refine WD_skip rfl rfl hb39 rfl rfl rfl ?_; refine WD_skip rfl rfl hb39 rfl rfl rfl ?_; refine WD_skip rfl rfl hb39 rfl rfl rfl ?_; refine WD_skip rfl rfl hb39 rfl rfl rfl ?_; refine WD_skipS rfl rfl hb39 rfl rfl rfl (fun _ => ⟨hS.sat, trivial⟩) ?_
          refine WD_skipS rfl rfl hb39 rfl rfl rfl (fun h => nomore (by kernel_rfl) h) ?_
          refine WD_op rfl rfl (OpP_val (rn_pickF (v := (.bool false)) rfl hb39 rfl) rfl ?_)
          refine ⟨fun h => nomore (by kernel_rfl) h, ?_⟩
          refine WD_nil ?_
          have hO : Owns G31 w38 w0.heap.size ([]) := hO
          have H := Option.some.inj H; subst H
          exact ⟨_, G31, upds_self _ _ ⟨rfl, rfl, rfl, rfl, rfl, rfl, rfl, rfl, trivial⟩, Gle.refl _, hS, hO⟩
        ·rintro F w44 ⟨Fb, G45, rfl, leG45, hS, hO⟩
         refine WC_cond rfl (fun hb46 => ?_) (fun hb46 => ?_)
         ·have H := ifT hb46 H; refine WC_seq ?_; refine WC_region ?_; refine WL_val (rn_move (v := (.slice a25 n25 c25)) rfl) rfl ?_; refine WL_val (rn_move (v := (.int .i64 s26)) rfl) rfl ?_; obtain ⟨y47, hy47, H⟩ := bnd H
          have l4_6 := leG31.trans leG45
          refine WL_idx sl26 (h25.mono (RSlice_mono RInt_mono) l4_6) hy47 rfl rfl rfl ?_
          rintro b48 o48 _ hcb48 _ ⟨a49, n49, c49, ⟨⟩, h49⟩
          refine WL_val (rn_load na25 rfl (hS.sat.cell (hcb48 0 _ rfl))) rfl ?_; refine WL_val (rn_assign (v := (.slice a49 n49 c49)) rfl) rfl ?_; refine WL_val (rn_assign (v := (.bool true)) rfl) rfl ?_; refine WL_nil ?_; refine WC_ret ?_; have H := Option.some.inj H; subst H
          have hres := hqq28 _ rfl
          subst hres; have H := Hoq28; have H := Option.some.inj H; subst H
          have hres := hqq17 _ rfl
          subst hres; have H := Hoq17
          have H : some (y47, true) = some r := H
          have H := Option.some.inj H; subst H
          exact ⟨_, _, rfl, hS.toGrow, _, _, _, rfl, h49⟩
         ·have H := ifF hb46 H; refine WC_skip ?_; refine WC_region ?_; refine WL_val (rn_move (v := (.int .i64 s26)) rfl) rfl ?_; refine WL_val (rn_add rfl rfl) rfl ?_; refine WL_val (rn_assign (v := (.int .i64 (IntKind.i64.wrap (s26 + 1)))) rfl) rfl ?_; refine WL_nil ?_
          have hO : Owns G45 w44 w0.heap.size ([]) := hO
          have H := Option.some.inj H; subst H; refine ⟨_, rfl, ?_⟩
          have l4_6 := leG31.trans leG45
          exact ⟨_, G45, upds_self _ _ ⟨rfl, rfl, rfl, rfl, rfl, rfl, rfl, trivial⟩, l4_6, hS, hO⟩
       ·have H := ifF hb32 H; refine WC_exit rfl ?_
        have hO : Owns G31 w30 w0.heap.size ([]) := hO
        have H := Option.some.inj H; subst H
        have hres := hqq28 _ rfl
        subst hres
        exact ⟨_, _, G31, rfl, upds_self _ _ ⟨rfl, rfl, rfl, rfl, rfl, trivial⟩, leG31, hS, hO⟩
     ·rintro F w50 ⟨p27, Fb, G51, rfl, rfl, leG51, hS, hO⟩
      refine WC_region ?_; refine WL_val (rn_move (v := (.int .i64 s15)) rfl) rfl ?_; refine WL_val (rn_add rfl rfl) rfl ?_; refine WL_val (rn_assign (v := (.int .i64 (IntKind.i64.wrap (s15 + 1)))) rfl) rfl ?_; refine WL_nil ?_
      have hO : Owns G51 w50 w0.heap.size ([]) := hO
      have H := Option.some.inj H; subst H; refine ⟨_, rfl, ?_⟩
      have l2_5 := (leG20.trans leG24).trans leG51
      exact ⟨_, G51, upds_self _ _ ⟨rfl, rfl, rfl, rfl, rfl, trivial⟩, l2_5, hS, hO⟩
    ·have H := ifF hb21 H; refine WC_exit rfl ?_
     have hO : Owns G20 w19 w0.heap.size ([]) := hO
     have H := Option.some.inj H; subst H
     have hres := hqq17 _ rfl
     subst hres
     exact ⟨_, _, G20, rfl, rfl, leG20, hS, hO⟩
  ·rintro F w53 ⟨p16, Fb, G54, rfl, rfl, leG54, hS, hO⟩
   refine WC_seq ?_; refine WC_region ?_; refine WL_val (rn_assign (v := (.slice none 0 0)) rfl) rfl ?_; refine WL_val (rn_assign (v := (.bool false)) rfl) rfl ?_; refine WL_nil ?_; refine WC_ret ?_
   have H : some ([], false) = some r := H
   have H := Option.some.inj H; subst H
   exact ⟨_, _, rfl, hS.toGrow, _, _, _, rfl, (RSl.nil RInt 1 G54 none)⟩
set_option maxHeartbeats 1000000 in
theorem f5_ok {G0 : Gm} {w0 : World} (hS0 : Sat G0 w0) {x0 : TBaneSea} {a1 : Option Addr} {n1 c1 : Nat} {a2 : Option Addr} {n2 c2 : Nat} {a3 : Option Addr} {n3 c3 : Nat} {x1 : (List Int)} {a4 : Option Addr} {n4 c4 : Nat} {x2 : Int} (h1 : RSl RInt 1 G0 a1 n1 c1 x0.Infested) (h2 : RSl RInt 1 G0 a2 n2 c2 x0.Clean) (h3 : RSl RTBaneTrip 4 G0 a3 n3 c3 x0.Trips) (h4 : RSl RInt 1 G0 a4 n4 c4 x1) {r : Bool} (H : f5 x0 x1 x2 = some r) :
  Calls Try.prog 5 #[.agg #[.int .i64 x0.Islets, .slice a1 n1 c1, .slice a2 n2 c2, .slice a3 n3 c3, .int .i64 x0.Wait], .slice a4 n4 c4, .int .i64 x2] w0 (RetV w0 (.bool r)) := by
 have hS := Since.start hS0
 have hO : Owns G0 w0 w0.heap.size [] := Owns.nil (Nat.le_refl _)
 unfold f5 at H
 refine enter1 (N := 86) (shutV _ _) Try.func5 rfl rfl rfl rfl ?_; refine WC_seq ?_; refine WC_region ?_; refine WL_op rfl (OpP_newF (v := fun b => .pointer (some ⟨b, 0, none⟩)) (cs := [.int .i64 x0.Islets, .slice a1 n1 c1, .slice a2 n2 c2, .slice a3 n3 c3, .int .i64 x0.Wait]) (e := 46) (rn_boxA rfl) hS.sat rfl (fun b5 G7 w6 hg hcb5 => ?_)); have hS := hS.grow hg; have hO := hO.grow hg
 have leG7 := hg.le
 refine WL_val (rn_assign (v := (.bool false)) rfl) rfl ?_; refine WL_nil ?_; refine WC_seq ?_; refine WC_seq ?_; obtain ⟨q8, hq8, H⟩ := bnd H; refine WC_cut (fun F w => ∃ (Fb : Fr) (G : Gm), F = upds Fb [(1, .slice a4 n4 c4), (2, .int .i64 x2), (3, .pointer (some ⟨b5, 0, none⟩)), (28, .bool q8)] ∧ Gle G7 G ∧ Since w0.heap.size G0 w0 G w ∧ Owns G w w0.heap.size []) ?_ ?_
 ·have Hoq8 := H; have H := hq8; refine WC_region ?_; refine WL_val (rn_loadA ag46 (cs := [.int .i64 x0.Islets, .slice a1 n1 c1, .slice a2 n2 c2, .slice a3 n3 c3, .int .i64 x0.Wait]) rfl rfl (fun j v hj => hS.sat.cell (hcb5.drop_take 0 5 j v hj))) rfl ?_; obtain ⟨y9, hy9, H⟩ := bnd H; refine WL_op rfl (OpP_callV cb27 (f27_ok (x0 := x0) hS.sat (h1.mono RInt_mono leG7) (h2.mono RInt_mono leG7) (h3.mono RTBaneTrip_mono leG7) hy9) rfl rfl (fun w10 hb => ?_)); have hS := hS.keep hb; have hO := hO.below hb; refine WL_val (rn_not rfl) rfl ?_; refine WL_val (rn_move (v := (.bool (!y9))) rfl) rfl ?_
  rcases bcases (!y9) with hb11 | hb11
  ·have H := ifT hb11 H; refine WL_guardN rfl hb11 rfl rfl rfl ?_; refine WL_guardN rfl hb11 rfl rfl rfl ?_; refine WL_guardN rfl hb11 rfl rfl rfl ?_; refine WL_val (rn_pickT (v := (.bool true)) rfl hb11 rfl) rfl ?_; refine WL_val (rn_move (v := (.bool true)) rfl) rfl ?_; refine WL_guardN rfl rfl rfl rfl rfl ?_; refine WL_guardN rfl rfl rfl rfl rfl ?_; refine WL_guardN rfl rfl rfl rfl rfl ?_; refine WL_guardU rfl rfl rfl rfl ?_; refine WL_guardU rfl rfl rfl rfl ?_; refine WL_guardU rfl rfl rfl rfl ?_; refine WL_guardU rfl rfl rfl rfl ?_; refine WL_guardN rfl rfl rfl rfl rfl ?_; refine WL_val (rn_pickT (v := (.bool true)) rfl rfl rfl) rfl ?_; refine WL_nil ?_
   have hO : Owns G7 w10 w0.heap.size ([]) := hO
   have H := Option.some.inj H; subst H
   exact ⟨_, G7, upds_self _ _ ⟨rfl, rfl, rfl, rfl, trivial⟩, Gle.refl _, hS, hO⟩
  ·have H := ifF hb11 H; refine WL_guardY rfl hb11 rfl rfl ?_; refine WL_val (rn_move (v := (.slice a4 n4 c4)) rfl) rfl ?_; refine WL_guardY rfl hb11 rfl rfl ?_; refine WL_val (rn_len sl25 rfl rfl (h4.mono RInt_mono leG7).1) rfl ?_; refine WL_guardY rfl hb11 rfl rfl ?_; refine WL_val (rn_gtr rfl rfl) rfl ?_; refine WL_val (rn_pickF (v := (.bool (decide (12 < (x1.length : Int))))) rfl hb11 rfl) rfl ?_; refine WL_val (rn_move (v := (.bool (decide (12 < (x1.length : Int))))) rfl) rfl ?_
   rcases bcases (decide (12 < (x1.length : Int))) with hb12 | hb12
   ·have H := ifT hb12 H; refine WL_guardN rfl hb12 rfl rfl rfl ?_; refine WL_guardN rfl hb12 rfl rfl rfl ?_; refine WL_guardN rfl hb12 rfl rfl rfl ?_; refine WL_guardU rfl rfl rfl rfl ?_; refine WL_guardU rfl rfl rfl rfl ?_; refine WL_guardU rfl rfl rfl rfl ?_; refine WL_guardU rfl rfl rfl rfl ?_; refine WL_guardN rfl hb12 rfl rfl rfl ?_; refine WL_val (rn_pickT (v := (.bool true)) rfl hb12 rfl) rfl ?_; refine WL_nil ?_
    have hO : Owns G7 w10 w0.heap.size ([]) := hO
    have H := Option.some.inj H; subst H
    exact ⟨_, G7, upds_self _ _ ⟨rfl, rfl, rfl, rfl, trivial⟩, Gle.refl _, hS, hO⟩
   ·have H := ifF hb12 H; refine WL_guardY rfl hb12 rfl rfl ?_; refine WL_val (rn_loadA ag46 (cs := [.int .i64 x0.Islets, .slice a1 n1 c1, .slice a2 n2 c2, .slice a3 n3 c3, .int .i64 x0.Wait]) rfl rfl (fun j v hj => hS.sat.cell (hcb5.drop_take 0 5 j v hj))) rfl ?_; refine WL_guardY rfl hb12 rfl rfl ?_; obtain ⟨y13, hy13, H⟩ := bnd H; refine WL_op rfl (OpP_callV cb28 (f28_ok (x0 := x0) hS.sat (h1.mono RInt_mono leG7) (h2.mono RInt_mono leG7) (h3.mono RTBaneTrip_mono leG7) hy13) rfl rfl (fun w14 hb => ?_)); have hS := hS.keep hb; have hO := hO.below hb; refine WL_guardY rfl hb12 rfl rfl ?_; refine WL_val (rn_move (v := (.bool y13)) rfl) rfl ?_
    rcases bcases y13 with hb15 | hb15
    ·have H := ifT hb15 H; refine WL_guardY rfl hb15 rfl rfl ?_; refine WL_val (rn_fld fd46_3 rfl) rfl ?_; refine WL_guardY rfl hb15 rfl rfl ?_; refine WL_val (rn_load na44 rfl (hS.sat.cell (hcb5 3 _ rfl))) rfl ?_; refine WL_guardY rfl hb15 rfl rfl ?_; refine WL_val (rn_len sl44 rfl rfl (h3.mono RTBaneTrip_mono leG7).1) rfl ?_; refine WL_guardY rfl hb15 rfl rfl ?_; refine WL_val (rn_gtr rfl rfl) rfl ?_; refine WL_guardY rfl hb12 rfl rfl ?_; refine WL_val (rn_pickT (v := (.bool (decide (7 < (x0.Trips.length : Int))))) rfl hb15 rfl) rfl ?_; refine WL_val (rn_pickF (v := (.bool (decide (7 < (x0.Trips.length : Int))))) rfl hb12 rfl) rfl ?_; refine WL_nil ?_
     have hO : Owns G7 w14 w0.heap.size ([]) := hO
     have H := Option.some.inj H; subst H
     exact ⟨_, G7, upds_self _ _ ⟨rfl, rfl, rfl, rfl, trivial⟩, Gle.refl _, hS, hO⟩
    ·have H := ifF hb15 H; refine WL_guardN rfl hb15 rfl rfl rfl ?_; refine WL_guardN rfl hb15 rfl rfl rfl ?_; refine WL_guardN rfl hb15 rfl rfl rfl ?_; refine WL_guardN rfl hb15 rfl rfl rfl ?_; refine WL_guardY rfl hb12 rfl rfl ?_; refine WL_val (rn_pickF (v := (.bool false)) rfl hb15 rfl) rfl ?_; refine WL_val (rn_pickF (v := (.bool false)) rfl hb12 rfl) rfl ?_; refine WL_nil ?_
     have hO : Owns G7 w14 w0.heap.size ([]) := hO
     have H := Option.some.inj H; subst H
     exact ⟨_, G7, upds_self _ _ ⟨rfl, rfl, rfl, rfl, trivial⟩, Gle.refl _, hS, hO⟩
 ·rintro F w16 ⟨Fb, G17, rfl, leG17, hS, hO⟩
  refine WC_cond rfl (fun hb18 => ?_) (fun hb18 => ?_)
  ·have H := ifT hb18 H; refine WC_seq ?_; refine WC_region ?_; obtain ⟨y19, hy19, H⟩ := bnd H; refine WL_op rfl (OpP_callV cb19 (f19_ok  hS.sat  hy19) rfl rfl (fun w20 hb => ?_)); have hS := hS.keep hb; have hO := hO.below hb; refine WL_val (rn_assign (v := (.bool y19)) rfl) rfl ?_; refine WL_nil ?_; refine WC_ret ?_
   have H : some y19 = some r := H
   have H := Option.some.inj H; subst H
   exact ⟨rfl, hS.below⟩
  ·have H := ifF hb18 H; refine WC_skip ?_; refine WC_seq ?_; refine WC_region ?_; refine WL_val (rn_loadA ag46 (cs := [.int .i64 x0.Islets, .slice a1 n1 c1, .slice a2 n2 c2, .slice a3 n3 c3, .int .i64 x0.Wait]) rfl rfl (fun j v hj => (hS.sat.le leG17).cell (hcb5.drop_take 0 5 j v hj))) rfl ?_; refine WL_val (rn_move (v := (.slice a4 n4 c4)) rfl) rfl ?_; refine WL_val (rn_move (v := (.int .i64 x2)) rfl) rfl ?_; obtain ⟨y21, hy21, H⟩ := bnd H
   have l0_2 := leG7.trans leG17
   refine WL_op rfl (OpP_callG cb29 (f29_ok (x0 := x0) (x1 := x1) (x2 := x2) hS.sat (h1.mono RInt_mono l0_2) (h2.mono RInt_mono l0_2) (h3.mono RTBaneTrip_mono l0_2) (h4.mono RInt_mono l0_2) hy21) rfl rfl (fun vy21 G23 w22 hg hvy21 => ?_)); obtain ⟨a24, n24, c24, ⟨⟩, h24⟩ := hvy21; have hS := hS.grow hg; have hO := hO.grow hg
   have leG23 := hg.le
   refine WL_val (rn_move (v := (.tuple #[.slice a24 n24 c24, .int .i64 y21.2])) rfl) rfl ?_; refine WL_val (rn_extract (v := (.slice a24 n24 c24)) rfl rfl) rfl ?_; refine WL_val (rn_extract (v := (.int .i64 y21.2)) rfl rfl) rfl ?_; refine WL_val (rn_assign (v := (.slice a24 n24 c24)) rfl) rfl ?_; refine WL_val (rn_assign (v := (.int .i64 y21.2)) rfl) rfl ?_; refine WL_nil ?_; refine WC_seq ?_; refine WC_seq ?_; obtain ⟨q25, hq25, H⟩ := bnd H; refine WC_cut (fun F w => ∃ (Fb : Fr) (G : Gm), F = upds Fb [(1, .slice a4 n4 c4), (2, .int .i64 x2), (3, .pointer (some ⟨b5, 0, none⟩)), (7, .slice a24 n24 c24), (8, .int .i64 y21.2), (46, .bool q25)] ∧ Gle G23 G ∧ Since w0.heap.size G0 w0 G w ∧ Owns G w w0.heap.size []) ?_ ?_
   ·have Hoq25 := H; have H := hq25; refine WC_region ?_
    have l1_3 := leG17.trans leG23
    refine WL_val (rn_loadA ag46 (cs := [.int .i64 x0.Islets, .slice a1 n1 c1, .slice a2 n2 c2, .slice a3 n3 c3, .int .i64 x0.Wait]) rfl rfl (fun j v hj => (hS.sat.le l1_3).cell (hcb5.drop_take 0 5 j v hj))) rfl ?_; refine WL_val (rn_move (v := (.slice a4 n4 c4)) rfl) rfl ?_; obtain ⟨y26, hy26, H⟩ := bnd H
    have l0_3 := l0_2.trans leG23
    refine WL_op rfl (OpP_callV cb30 (f30_ok (x0 := x0) (x1 := x1) hS.sat (h1.mono RInt_mono l0_3) (h2.mono RInt_mono l0_3) (h3.mono RTBaneTrip_mono l0_3) (h4.mono RInt_mono l0_3) hy26) rfl rfl (fun w27 hb => ?_)); have hS := hS.keep hb; have hO := hO.below hb; refine WL_val (rn_neq rfl rfl) rfl ?_; refine WL_val (rn_move (v := (.bool (y26 != 0))) rfl) rfl ?_
    rcases bcases (y26 != 0) with hb28 | hb28
    ·have H := ifT hb28 H; refine WL_guardN rfl hb28 rfl rfl rfl ?_; refine WL_guardN rfl hb28 rfl rfl rfl ?_; refine WL_guardN rfl hb28 rfl rfl rfl ?_; refine WL_guardN rfl hb28 rfl rfl rfl ?_; refine WL_val (rn_pickT (v := (.bool true)) rfl hb28 rfl) rfl ?_; refine WL_nil ?_
     have hO : Owns G23 w27 w0.heap.size ([]) := hO
     have H := Option.some.inj H; subst H
     exact ⟨_, G23, upds_self _ _ ⟨rfl, rfl, rfl, rfl, rfl, rfl, trivial⟩, Gle.refl _, hS, hO⟩
    ·have H := ifF hb28 H; refine WL_guardY rfl hb28 rfl rfl ?_; refine WL_val (rn_loadA ag46 (cs := [.int .i64 x0.Islets, .slice a1 n1 c1, .slice a2 n2 c2, .slice a3 n3 c3, .int .i64 x0.Wait]) rfl rfl (fun j v hj => (hS.sat.le l1_3).cell (hcb5.drop_take 0 5 j v hj))) rfl ?_; refine WL_guardY rfl hb28 rfl rfl ?_; refine WL_val (rn_move (v := (.int .i64 x2)) rfl) rfl ?_; refine WL_guardY rfl hb28 rfl rfl ?_; obtain ⟨y29, hy29, H⟩ := bnd H; refine WL_op rfl (OpP_callV cb31 (f31_ok (x0 := x0) (x1 := x2) hS.sat (h1.mono RInt_mono l0_3) (h2.mono RInt_mono l0_3) (h3.mono RTBaneTrip_mono l0_3) hy29) rfl rfl (fun w30 hb => ?_)); have hS := hS.keep hb; have hO := hO.below hb; refine WL_guardY rfl hb28 rfl rfl ?_; refine WL_val (rn_not rfl) rfl ?_; refine WL_val (rn_pickF (v := (.bool (!y29))) rfl hb28 rfl) rfl ?_; refine WL_nil ?_
     have hO : Owns G23 w30 w0.heap.size ([]) := hO
     have H := Option.some.inj H; subst H
     exact ⟨_, G23, upds_self _ _ ⟨rfl, rfl, rfl, rfl, rfl, rfl, trivial⟩, Gle.refl _, hS, hO⟩
   ·rintro F w31 ⟨Fb, G32, rfl, leG32, hS, hO⟩
    refine WC_cond rfl (fun hb33 => ?_) (fun hb33 => ?_)
    ·have H := ifT hb33 H; refine WC_seq ?_; obtain ⟨q34, hq34, H⟩ := bnd H; refine WC_cut (fun F w => ∃ (Fb : Fr) (G : Gm), F = upds Fb [(6, .bool q34)] ∧ Gle G32 G ∧ Since w0.heap.size G0 w0 G w ∧ Owns G w w0.heap.size []) ?_ ?_
     ·have Hoq34 := H; have H := hq34; refine WC_region ?_; refine WL_val (rn_move (v := (.int .i64 y21.2)) rfl) rfl ?_; refine WL_val (rn_eql rfl rfl) rfl ?_; refine WL_val (rn_move (v := (.bool (y21.2 == 2))) rfl) rfl ?_
      rcases bcases (y21.2 == 2) with hb35 | hb35
      ·have H := ifT hb35 H; refine WL_guardY rfl hb35 rfl rfl ?_; refine WL_val (rn_move (v := (.slice a24 n24 c24)) rfl) rfl ?_; refine WL_guardY rfl hb35 rfl rfl ?_; refine WL_val (rn_len sl25 rfl rfl (h24.mono RInt_mono leG32).1) rfl ?_; refine WL_guardY rfl hb35 rfl rfl ?_; refine WL_val (rn_eql rfl rfl) rfl ?_; refine WL_val (rn_pickT (v := (.bool ((y21.1.length : Int) == 0))) rfl hb35 rfl) rfl ?_; refine WL_val (rn_move (v := (.bool ((y21.1.length : Int) == 0))) rfl) rfl ?_
       rcases bcases ((y21.1.length : Int) == 0) with hb36 | hb36
       ·have H := ifT hb36 H; refine WL_guardY rfl hb36 rfl rfl ?_; obtain ⟨y37, hy37, H⟩ := bnd H; refine WL_op rfl (OpP_callV cb19 (f19_ok  hS.sat  hy37) rfl rfl (fun w38 hb => ?_)); have hS := hS.keep hb; have hO := hO.below hb; refine WL_val (rn_pickT (v := (.bool y37)) rfl hb36 rfl) rfl ?_; refine WL_val (rn_assign (v := (.bool y37)) rfl) rfl ?_; refine WL_nil ?_
        have hO : Owns G32 w38 w0.heap.size ([]) := hO
        have H := Option.some.inj H; subst H
        exact ⟨_, G32, upds_self _ _ ⟨rfl, trivial⟩, Gle.refl _, hS, hO⟩
       ·have H := ifF hb36 H; refine WL_guardN rfl hb36 rfl rfl rfl ?_; refine WL_val (rn_pickF (v := (.bool false)) rfl hb36 rfl) rfl ?_; refine WL_val (rn_assign (v := (.bool false)) rfl) rfl ?_; refine WL_nil ?_
        have hO : Owns G32 w31 w0.heap.size ([]) := hO
        have H := Option.some.inj H; subst H
        exact ⟨_, G32, upds_self _ _ ⟨rfl, trivial⟩, Gle.refl _, hS, hO⟩
      ·have H := ifF hb35 H; refine WL_guardN rfl hb35 rfl rfl rfl ?_; refine WL_guardN rfl hb35 rfl rfl rfl ?_; refine WL_guardN rfl hb35 rfl rfl rfl ?_; refine WL_val (rn_pickF (v := (.bool false)) rfl hb35 rfl) rfl ?_; refine WL_val (rn_move (v := (.bool false)) rfl) rfl ?_; refine WL_guardN rfl rfl rfl rfl rfl ?_; refine WL_val (rn_pickF (v := (.bool false)) rfl rfl rfl) rfl ?_; refine WL_val (rn_assign (v := (.bool false)) rfl) rfl ?_; refine WL_nil ?_
       have hO : Owns G32 w31 w0.heap.size ([]) := hO
       have H := Option.some.inj H; subst H
       exact ⟨_, G32, upds_self _ _ ⟨rfl, trivial⟩, Gle.refl _, hS, hO⟩
     ·rintro F w39 ⟨Fb, G40, rfl, leG40, hS, hO⟩
      refine WC_ret ?_
      have H : some q34 = some r := H
      have H := Option.some.inj H; subst H
      exact ⟨rfl, hS.below⟩
    ·have H := ifF hb33 H; refine WC_skip ?_; refine WC_seq ?_; refine WC_region ?_
     have l1_4 := (leG17.trans leG23).trans leG32
     refine WL_val (rn_loadA ag46 (cs := [.int .i64 x0.Islets, .slice a1 n1 c1, .slice a2 n2 c2, .slice a3 n3 c3, .int .i64 x0.Wait]) rfl rfl (fun j v hj => (hS.sat.le l1_4).cell (hcb5.drop_take 0 5 j v hj))) rfl ?_; refine WL_val (rn_move (v := (.slice a4 n4 c4)) rfl) rfl ?_; refine WL_val (rn_move (v := (.int .i64 x2)) rfl) rfl ?_; obtain ⟨y41, hy41, H⟩ := bnd H
     have l0_4 := (l0_2.trans leG23).trans leG32
     refine WL_op rfl (OpP_callG cb32 (f32_ok (x0 := x0) (x1 := x1) (x2 := x2) hS.sat (h1.mono RInt_mono l0_4) (h2.mono RInt_mono l0_4) (h3.mono RTBaneTrip_mono l0_4) (h4.mono RInt_mono l0_4) hy41) rfl rfl (fun vy41 G43 w42 hg hvy41 => ?_)); obtain ⟨a44, n44, c44, ⟨⟩, h44⟩ := hvy41; have hS := hS.grow hg; have hO := hO.grow hg
     have leG43 := hg.le
     refine WL_val (rn_move (v := (.tuple #[.slice a44 n44 c44, .bool y41.2])) rfl) rfl ?_; refine WL_val (rn_extract (v := (.slice a44 n44 c44)) rfl rfl) rfl ?_; refine WL_val (rn_extract (v := (.bool y41.2)) rfl rfl) rfl ?_; refine WL_val (rn_assign (v := (.slice a44 n44 c44)) rfl) rfl ?_; refine WL_val (rn_assign (v := (.bool y41.2)) rfl) rfl ?_; refine WL_nil ?_; refine WC_seq ?_; refine WC_seq ?_; refine WC_region ?_; refine WL_val (rn_move (v := (.bool y41.2)) rfl) rfl ?_; refine WL_val (rn_not rfl) rfl ?_; refine WL_nil ?_; refine WC_cond rfl (fun hb45 => ?_) (fun hb45 => ?_)
     ·have H := ifT hb45 H; refine WC_seq ?_; obtain ⟨q46, hq46, H⟩ := bnd H; refine WC_cut (fun F w => ∃ (Fb : Fr) (G : Gm), F = upds Fb [(6, .bool q46)] ∧ Gle G43 G ∧ Since w0.heap.size G0 w0 G w ∧ Owns G w w0.heap.size []) ?_ ?_
      ·have Hoq46 := H; have H := hq46; refine WC_region ?_; refine WL_val (rn_move (v := (.int .i64 y21.2)) rfl) rfl ?_; refine WL_val (rn_eql rfl rfl) rfl ?_; refine WL_val (rn_move (v := (.bool (y21.2 == 5))) rfl) rfl ?_
       rcases bcases (y21.2 == 5) with hb47 | hb47
       ·have H := ifT hb47 H; refine WL_guardY rfl hb47 rfl rfl ?_; refine WL_val (rn_move (v := (.slice a24 n24 c24)) rfl) rfl ?_; refine WL_guardY rfl hb47 rfl rfl ?_
        have l3_5 := leG32.trans leG43
        refine WL_val (rn_len sl25 rfl rfl (h24.mono RInt_mono l3_5).1) rfl ?_; refine WL_guardY rfl hb47 rfl rfl ?_; refine WL_val (rn_eql rfl rfl) rfl ?_; refine WL_val (rn_pickT (v := (.bool ((y21.1.length : Int) == 0))) rfl hb47 rfl) rfl ?_; refine WL_val (rn_move (v := (.bool ((y21.1.length : Int) == 0))) rfl) rfl ?_
        rcases bcases ((y21.1.length : Int) == 0) with hb48 | hb48
        ·have H := ifT hb48 H; refine WL_guardY rfl hb48 rfl rfl ?_; obtain ⟨y49, hy49, H⟩ := bnd H; refine WL_op rfl (OpP_callV cb19 (f19_ok  hS.sat  hy49) rfl rfl (fun w50 hb => ?_)); have hS := hS.keep hb; have hO := hO.below hb; refine WL_val (rn_pickT (v := (.bool y49)) rfl hb48 rfl) rfl ?_; refine WL_val (rn_assign (v := (.bool y49)) rfl) rfl ?_; refine WL_nil ?_
         have hO : Owns G43 w50 w0.heap.size ([]) := hO
         have H := Option.some.inj H; subst H
         exact ⟨_, G43, upds_self _ _ ⟨rfl, trivial⟩, Gle.refl _, hS, hO⟩
        ·have H := ifF hb48 H; refine WL_guardN rfl hb48 rfl rfl rfl ?_; refine WL_val (rn_pickF (v := (.bool false)) rfl hb48 rfl) rfl ?_; refine WL_val (rn_assign (v := (.bool false)) rfl) rfl ?_; refine WL_nil ?_
         have hO : Owns G43 w42 w0.heap.size ([]) := hO
         have H := Option.some.inj H; subst H
         exact ⟨_, G43, upds_self _ _ ⟨rfl, trivial⟩, Gle.refl _, hS, hO⟩
       ·have H := ifF hb47 H; refine WL_guardN rfl hb47 rfl rfl rfl ?_; refine WL_guardN rfl hb47 rfl rfl rfl ?_; refine WL_guardN rfl hb47 rfl rfl rfl ?_; refine WL_val (rn_pickF (v := (.bool false)) rfl hb47 rfl) rfl ?_; refine WL_val (rn_move (v := (.bool false)) rfl) rfl ?_; refine WL_guardN rfl rfl rfl rfl rfl ?_; refine WL_val (rn_pickF (v := (.bool false)) rfl rfl rfl) rfl ?_; refine WL_val (rn_assign (v := (.bool false)) rfl) rfl ?_; refine WL_nil ?_
        have hO : Owns G43 w42 w0.heap.size ([]) := hO
        have H := Option.some.inj H; subst H
        exact ⟨_, G43, upds_self _ _ ⟨rfl, trivial⟩, Gle.refl _, hS, hO⟩
      ·rintro F w51 ⟨Fb, G52, rfl, leG52, hS, hO⟩
       refine WC_ret ?_
       have H : some q46 = some r := H
       have H := Option.some.inj H; subst H
       exact ⟨rfl, hS.below⟩
     ·have H := ifF hb45 H; refine WC_skip ?_; refine WC_seq ?_; obtain ⟨q53, hq53, H⟩ := bnd H; refine WC_cut (fun F w => ∃ (Fb : Fr) (G : Gm), F = upds Fb [(6, .bool q53)] ∧ Gle G43 G ∧ Since w0.heap.size G0 w0 G w ∧ Owns G w w0.heap.size []) ?_ ?_
      ·have Hoq53 := H; have H := hq53; refine WC_region ?_; refine WL_val (rn_move (v := (.int .i64 y21.2)) rfl) rfl ?_; refine WL_val (rn_eql rfl rfl) rfl ?_; refine WL_val (rn_move (v := (.bool (y21.2 == 0))) rfl) rfl ?_
       rcases bcases (y21.2 == 0) with hb54 | hb54
       ·have H := ifT hb54 H; refine WL_guardY rfl hb54 rfl rfl ?_; refine WL_val (rn_move (v := (.slice a24 n24 c24)) rfl) rfl ?_; refine WL_guardY rfl hb54 rfl rfl ?_; refine WL_val (rn_move (v := (.slice a44 n44 c44)) rfl) rfl ?_; refine WL_guardY rfl hb54 rfl rfl ?_; obtain ⟨y55, hy55, H⟩ := bnd H
        have l3_5 := leG32.trans leG43
        refine WL_op rfl (OpP_callV cb23 (f23_ok (x0 := y21.1) (x1 := y41.1) hS.sat (h24.mono RInt_mono l3_5) h44 hy55) rfl rfl (fun w56 hb => ?_)); have hS := hS.keep hb; have hO := hO.below hb; refine WL_val (rn_pickT (v := (.bool y55)) rfl hb54 rfl) rfl ?_; refine WL_val (rn_move (v := (.bool y55)) rfl) rfl ?_
        rcases bcases y55 with hb57 | hb57
        ·have H := ifT hb57 H; refine WL_guardY rfl hb57 rfl rfl ?_; obtain ⟨y58, hy58, H⟩ := bnd H; refine WL_op rfl (OpP_callV cb19 (f19_ok  hS.sat  hy58) rfl rfl (fun w59 hb => ?_)); have hS := hS.keep hb; have hO := hO.below hb; refine WL_val (rn_pickT (v := (.bool y58)) rfl hb57 rfl) rfl ?_; refine WL_val (rn_assign (v := (.bool y58)) rfl) rfl ?_; refine WL_nil ?_
         have hO : Owns G43 w59 w0.heap.size ([]) := hO
         have H := Option.some.inj H; subst H
         exact ⟨_, G43, upds_self _ _ ⟨rfl, trivial⟩, Gle.refl _, hS, hO⟩
        ·have H := ifF hb57 H; refine WL_guardN rfl hb57 rfl rfl rfl ?_; refine WL_val (rn_pickF (v := (.bool false)) rfl hb57 rfl) rfl ?_; refine WL_val (rn_assign (v := (.bool false)) rfl) rfl ?_; refine WL_nil ?_
         have hO : Owns G43 w56 w0.heap.size ([]) := hO
         have H := Option.some.inj H; subst H
         exact ⟨_, G43, upds_self _ _ ⟨rfl, trivial⟩, Gle.refl _, hS, hO⟩
       ·have H := ifF hb54 H; refine WL_guardN rfl hb54 rfl rfl rfl ?_; refine WL_guardN rfl hb54 rfl rfl rfl ?_; refine WL_guardN rfl hb54 rfl rfl rfl ?_; refine WL_val (rn_pickF (v := (.bool false)) rfl hb54 rfl) rfl ?_; refine WL_val (rn_move (v := (.bool false)) rfl) rfl ?_; refine WL_guardN rfl rfl rfl rfl rfl ?_; refine WL_val (rn_pickF (v := (.bool false)) rfl rfl rfl) rfl ?_; refine WL_val (rn_assign (v := (.bool false)) rfl) rfl ?_; refine WL_nil ?_
        have hO : Owns G43 w42 w0.heap.size ([]) := hO
        have H := Option.some.inj H; subst H
        exact ⟨_, G43, upds_self _ _ ⟨rfl, trivial⟩, Gle.refl _, hS, hO⟩
      ·rintro F w60 ⟨Fb, G61, rfl, leG61, hS, hO⟩
       refine WC_ret ?_
       have H : some q53 = some r := H
       have H := Option.some.inj H; subst H
       exact ⟨rfl, hS.below⟩
end Go.Proofs.Ytgplafckddpnkaa
