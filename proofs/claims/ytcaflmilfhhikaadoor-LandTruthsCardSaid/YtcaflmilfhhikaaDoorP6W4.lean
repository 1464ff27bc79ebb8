/-
  The walks: each Go function computes its plain function (printed by a program of ours).
-/
import Derived.Test.YtcaflmilfhhikaaDoorRd
import Derived.Test.YtcaflmilfhhikaaDoorBaseQ
import Derived.Test.YtcaflmilfhhikaaDoorIt
import Derived.Test.YtcaflmilfhhikaaDoorLib
import Derived.Test.YtcaflmilfhhikaaDoorBu
import Derived.Test.YtcaflmilfhhikaaDoorP6W3
namespace Go.Proofs.YtcaflmilfhhikaaDoor
open Go.RowKit
set_option linter.unusedVariables false

set_option maxRecDepth 20000
set_option linter.unusedVariables false
set_option maxHeartbeats 1000000 in
theorem f44_ok {G0 : Gm} {w0 : World} (hS0 : Sat G0 w0) {x0 : TLandBook} {a1 : Option Addr} {n1 c1 : Nat} {a2 : Option Addr} {n2 c2 : Nat} {a3 : Option Addr} {n3 c3 : Nat} (h1 : RSl RTLandPerson 2 G0 a1 n1 c1 x0.People) (h2 : RSl RTLandEvent 2 G0 a2 n2 c2 x0.Events) (h3 : RSl RTLandMemory 4 G0 a3 n3 c3 x0.Memories) {r : (List TSpan)} (H : f44 x0 = some r) :
  Calls Tryd.prog 44 #[.agg #[.slice a1 n1 c1, .slice a2 n2 c2, .slice a3 n3 c3]] w0 (RetG G0 w0 (fun G v => ∃ (ra0 : Option Addr) (rn0 rc0 : Nat), v = .slice ra0 rn0 rc0 ∧ RSl RTSpan 2 G ra0 rn0 rc0 r)) := by
 have hS := Since.start hS0
 have hO : Owns G0 w0 w0.heap.size [] := Owns.nil (Nat.le_refl _)
 unfold f44 at H
 refine enter1 (N := 37) (shutG _ _ _) Tryd.func44 rfl rfl rfl rfl ?_; refine WC_seq ?_; refine WC_region ?_; refine WL_op rfl (OpP_newF (v := fun b => .pointer (some ⟨b, 0, none⟩)) (cs := [.slice a1 n1 c1, .slice a2 n2 c2, .slice a3 n3 c3]) (e := 26) (rn_boxA rfl) hS.sat rfl (fun b4 G6 w5 hg hcb4 => ?_)); have hS := hS.grow hg; have hO := hO.grow hg
 have leG6 := hg.le
 refine WL_val (rn_assign (v := (.slice none 0 0)) rfl) rfl ?_; refine WL_nil ?_; refine WC_seq ?_; refine WC_region ?_; refine WL_val (rn_loadA ag26 (cs := [.slice a1 n1 c1, .slice a2 n2 c2, .slice a3 n3 c3]) rfl rfl (fun j v hj => hS.sat.cell (hcb4.drop_take 0 3 j v hj))) rfl ?_; obtain ⟨y7, hy7, H⟩ := bnd H; refine WL_op rfl (OpP_callG cb61 (f61_ok (x0 := x0) hS.sat (h1.mono RTLandPerson_mono leG6) (h2.mono RTLandEvent_mono leG6) (h3.mono RTLandMemory_mono leG6) hy7) rfl rfl (fun vy7 G9 w8 hg hvy7 => ?_)); obtain ⟨a10, n10, c10, ⟨⟩, h10⟩ := hvy7; have hS := hS.grow hg; have hO := hO.grow hg
 have leG9 := hg.le
 refine WL_val (rn_assign (v := (.slice a10 n10 c10)) rfl) rfl ?_; refine WL_nil ?_; refine WC_seq ?_; refine WC_region ?_; refine WL_val (rn_fld fd26_1 rfl) rfl ?_; refine WL_val (rn_load na23 rfl ((hS.sat.le leG9).cell (hcb4 1 _ rfl))) rfl ?_
 have l0_2 := leG6.trans leG9
 refine WL_val (rn_len sl23 rfl rfl (h2.mono RTLandEvent_mono l0_2).1) rfl ?_; refine WL_val (rn_assign (v := (.int .i64 (x0.Events.length : Int))) rfl) rfl ?_; refine WL_nil ?_; refine WC_seq ?_; refine WC_region ?_; refine WL_val (rn_assign (v := (.slice none 0 0)) rfl) rfl ?_; refine WL_nil ?_; refine WC_seq ?_; refine WC_seq ?_; refine WC_region ?_; refine WL_val (rn_assign (v := (.int .i64 0)) rfl) rfl ?_; refine WL_nil ?_; have hO := hO.cons_nil 44 2; obtain ⟨q14, hq14, H⟩ := bnd H; refine WC_cut (fun F w => ∃ (Fb : Fr) (G : Gm) (aq14_0 : Option Addr) (nq14_0 cq14_0 : Nat) (claq14_0 : List Value), F = upds Fb [(5, .slice aq14_0 nq14_0 cq14_0)] ∧ Gle G9 G ∧ Since w0.heap.size G0 w0 G w ∧ Owns G w w0.heap.size [⟨44, 2, nq14_0, .slice aq14_0 nq14_0 cq14_0, claq14_0⟩] ∧ nq14_0 = q14.length ∧ Rd RTSpan 2 G claq14_0 q14) ?_ ?_
 ·refine WC_block (WC_loop hq14 (fun s12 F w => ∃ (Fb : Fr) (G : Gm) (as12_0 : Option Addr) (ns12_0 cs12_0 : Nat) (clas12_0 : List Value), F = upds Fb [(3, .slice a10 n10 c10), (4, .int .i64 (x0.Events.length : Int)), (5, .slice as12_0 ns12_0 cs12_0), (6, .int .i64 s12.2)] ∧ Gle G9 G ∧ Since w0.heap.size G0 w0 G w ∧ Owns G w w0.heap.size [⟨44, 2, ns12_0, .slice as12_0 ns12_0 cs12_0, clas12_0⟩] ∧ ns12_0 = s12.1.length ∧ Rd RTSpan 2 G clas12_0 s12.1) ?_ ?_)
  ·have hO : Owns G9 w8 w0.heap.size ([⟨44, 2, 0, .slice none 0 0, []⟩]) := hO
   exact ⟨_, G9, none, 0, 0, [], upds_self _ _ ⟨rfl, rfl, rfl, rfl, trivial⟩, Gle.refl _, hS, hO, rfl, (Rd.nil RTSpan 2 G9)⟩
  ·rintro s12 F w16 t15 ⟨Fb, G17, as12_0, ns12_0, cs12_0, clas12_0, rfl, leG17, hS, hO, hnhs12_0, hs12_0⟩
   intro H1 hqq14
   have Hoq14 := H; have H := H1
   unfold f44_b0 at H
   refine WC_seq ?_; refine WC_seq ?_; refine WC_region ?_; refine WL_val (rn_move (v := (.int .i64 s12.2)) rfl) rfl ?_; refine WL_val (rn_move (v := (.int .i64 (x0.Events.length : Int))) rfl) rfl ?_; refine WL_val (rn_lss rfl rfl) rfl ?_; refine WL_nil ?_; refine WC_cond rfl (fun hb18 => ?_) (fun hb18 => ?_)
   ·have H := ifT hb18 H; refine WC_skip ?_; refine WC_seq ?_; refine WC_block ?_; have hS := hS.keep (below_drew _); have hO := hO.below (below_drew _)
    refine WC_regionD mixedO (fun _ w => Sat G17 w ∧ Owns G17 w w0.heap.size [⟨44, 2, ns12_0, .slice as12_0 ns12_0 cs12_0, clas12_0⟩]) (.fl 0 (.fl 1 (.fl 2 (.fl 3 (.fl 4 (.fl 5 (.fl 6 (.fl 7 (.fl 8 (.fl 9 (.fl 10 (.fl 11 (.fl 12 (.on 13 (.on 14 (.on 15 (.on 16 (.on 17 (.on 18 (.on 19 .nil)))))))))))))))))))) (by kernel_rfl) rfl (by kernel_rfl) (fun _ => ⟨hS.sat, hO⟩) ?_
    refine WD_val rfl (fun w hw => rn_move (v := (.slice as12_0 ns12_0 cs12_0)) rfl) rfl ?_; refine WD_val rfl (fun w hw => rn_move (v := (.slice a10 n10 c10)) rfl) rfl ?_; refine WD_val rfl (fun w hw => rn_move (v := (.int .i64 s12.2)) rfl) rfl ?_; obtain ⟨y19, hy19, H⟩ := bnd H; refine WD_idx rfl sl86 (h10.mono (RSlice_mono RInt_mono) leG17) hy19 rfl rfl rfl ?_
    rintro b20 o20 _ hcb20 _ ⟨a21, n21, c21, ⟨⟩, h21⟩
    refine WD_val rfl (fun w hw => rn_load na29 rfl (hw.1.cell (hcb20 0 _ rfl))) rfl ?_; refine WD_val rfl (fun w hw => rn_move (v := (.int .i64 (x0.Events.length : Int))) rfl) rfl ?_; obtain ⟨y22, hy22, H⟩ := bnd H; refine WD_idx rfl sl29 h21 hy22 rfl rfl rfl ?_
    rintro b23 o23 _ hcb23 _ ⟨⟩
    refine WD_val rfl (fun w hw => rn_load na3 rfl (hw.1.cell (hcb23 0 _ rfl))) rfl ?_; refine WD_val rfl (fun w hw => rn_neg rfl) rfl ?_; refine WD_val rfl (fun w hw => rn_move (v := (.slice a10 n10 c10)) rfl) rfl ?_; refine WD_val rfl (fun w hw => rn_move (v := (.int .i64 (x0.Events.length : Int))) rfl) rfl ?_; obtain ⟨y24, hy24, H⟩ := bnd H; refine WD_idx rfl sl86 (h10.mono (RSlice_mono RInt_mono) leG17) hy24 rfl rfl rfl ?_
    rintro b25 o25 _ hcb25 _ ⟨a26, n26, c26, ⟨⟩, h26⟩
    refine WD_val rfl (fun w hw => rn_load na29 rfl (hw.1.cell (hcb25 0 _ rfl))) rfl ?_; refine WD_op rfl rfl (OpP_val (rn_move (v := (.int .i64 s12.2)) rfl) rfl ?_); refine ⟨fun _ _ => ⟨hS.sat, hO⟩, ?_⟩; obtain ⟨y27, hy27, H⟩ := bnd H; refine WD_op rfl rfl (OpP_idx sl29 h26 hy27 rfl rfl rfl ?_)
    rintro b28 o28 _ hcb28 _ ⟨⟩
    refine ⟨fun _ _ => ⟨hS.sat, hO⟩, ?_⟩; refine WD_op rfl rfl (OpP_val (rn_load na3 rfl (hS.sat.cell (hcb28 0 _ rfl))) rfl ?_); refine ⟨fun _ _ => ⟨hS.sat, hO⟩, ?_⟩
    refine WD_op rfl rfl (OpP_val (v := (.agg #[.int .i64 (IntKind.i64.wrap (0 - y22)), .int .i64 y27])) (by kernel_rfl) rfl ?_)
    refine ⟨fun _ _ => ⟨hS.sat, hO⟩, ?_⟩
    refine WD_op rfl rfl (OpP_newF (v := fun b => .slice (some ⟨b, 0, none⟩) 1 1) (cs := [.int .i64 (IntKind.i64.wrap (0 - y22)), .int .i64 y27]) (e := 44) (by kernel_rfl) hS.sat rfl (fun b29 G31 w30 hg hcb29 => ?_))
    have hS := hS.grow hg; have hO := hO.grow hg
    have leG31 := hg.le
    have hfb29 : RSl RTSpan 2 G31 (some ⟨b29, 0, none⟩) 1 1 [(⟨IntKind.i64.wrap (0 - y22), y27⟩ : TSpan)] := RSl.of_rd hcb29 (Rd.cons (c := [.int .i64 (IntKind.i64.wrap (0 - y22)), .int .i64 y27]) rfl rfl (Rd.nil RTSpan 2 _)) rfl (by decide)
    refine ⟨fun _ _ => ⟨hS.sat.le leG31, hO.le leG31⟩, ?_⟩; obtain ⟨y32, hy32, H⟩ := bnd H; refine WD_op rfl rfl (OpP_append (k := 0) sl47 RTSpan_one hS hO rfl hnhs12_0 (hs12_0.mono RTSpan_mono leG31) hfb29 hy32 rfl rfl rfl rfl rfl (fun aw33 cw33 w33 clw33 hS hO hrw33 => ?_))
    have hO : Owns G31 w33 w0.heap.size ([⟨44, 2, y32.length, .slice aw33 y32.length cw33, clw33⟩]) := hO
    refine ⟨fun _ h => noneed (by kernel_rfl) h, ?_⟩
    refine WD_op rfl rfl (OpP_val (rn_assign (v := (.slice aw33 y32.length cw33)) rfl) rfl ?_)
    refine ⟨fun _ h => noneed (by kernel_rfl) h, ?_⟩
    refine WD_nil ?_; refine WC_region ?_; refine WL_val (rn_move (v := (.int .i64 s12.2)) rfl) rfl ?_; refine WL_val (rn_add rfl rfl) rfl ?_; refine WL_val (rn_assign (v := (.int .i64 (IntKind.i64.wrap (s12.2 + 1)))) rfl) rfl ?_; refine WL_nil ?_
    have hO : Owns G31 w33 w0.heap.size ([⟨44, 2, y32.length, .slice aw33 y32.length cw33, clw33⟩]) := hO
    have H := Option.some.inj H; subst H; refine ⟨_, rfl, ?_⟩
    have l2_4 := leG17.trans leG31
    exact ⟨_, G31, aw33, y32.length, cw33, clw33, upds_self _ _ ⟨rfl, rfl, rfl, rfl, trivial⟩, l2_4, hS, hO, rfl, hrw33⟩
   ·have H := ifF hb18 H; refine WC_exit rfl ?_
    have hO : Owns G17 w16 w0.heap.size ([⟨44, 2, ns12_0, .slice as12_0 ns12_0 cs12_0, clas12_0⟩]) := hO
    have H := Option.some.inj H; subst H
    have hres := hqq14 _ rfl
    subst hres
    exact ⟨_, G17, as12_0, ns12_0, cs12_0, clas12_0, upds_self _ _ ⟨rfl, trivial⟩, leG17, hS, hO, hnhs12_0, hs12_0⟩
 ·rintro F w34 ⟨Fb, G35, aq14_0, nq14_0, cq14_0, claq14_0, rfl, leG35, hS, hO, hnhq14_0, hq14_0⟩
  refine WC_seq ?_; refine WC_region ?_; refine WL_val (rn_move (v := (.slice aq14_0 nq14_0 cq14_0)) rfl) rfl ?_; refine WL_val (rn_assign (v := (.slice aq14_0 nq14_0 cq14_0)) rfl) rfl ?_; refine WL_nil ?_; refine WC_ret ?_; obtain ⟨G36, leG36, hS, hO, hfG36⟩ := hO.freezeS hS RTSpan_mono (k := 0) rfl hq14_0 hnhq14_0
  have H : some q14 = some r := H
  have H := Option.some.inj H; subst H
  exact ⟨_, _, rfl, hS.toGrow, _, _, _, rfl, hfG36⟩
set_option maxHeartbeats 1000000 in
theorem f32_ok {G0 : Gm} {w0 : World} (hS0 : Sat G0 w0) {x0 : TLandBook} {a1 : Option Addr} {n1 c1 : Nat} {a2 : Option Addr} {n2 c2 : Nat} {a3 : Option Addr} {n3 c3 : Nat} (h1 : RSl RTLandPerson 2 G0 a1 n1 c1 x0.People) (h2 : RSl RTLandEvent 2 G0 a2 n2 c2 x0.Events) (h3 : RSl RTLandMemory 4 G0 a3 n3 c3 x0.Memories) {r : (List Int)} (H : f32 x0 = some r) :
  Calls Tryd.prog 32 #[.agg #[.slice a1 n1 c1, .slice a2 n2 c2, .slice a3 n3 c3]] w0 (RetG G0 w0 (fun G v => ∃ (ra0 : Option Addr) (rn0 rc0 : Nat), v = .slice ra0 rn0 rc0 ∧ RSl RInt 1 G ra0 rn0 rc0 r)) := by
 have hS := Since.start hS0
 have hO : Owns G0 w0 w0.heap.size [] := Owns.nil (Nat.le_refl _)
 unfold f32 at H
 refine enter1 (N := 23) (shutG _ _ _) Tryd.func32 rfl rfl rfl rfl ?_; refine WC_seq ?_; refine WC_region ?_; refine WL_op rfl (OpP_newF (v := fun b => .pointer (some ⟨b, 0, none⟩)) (cs := [.slice a1 n1 c1, .slice a2 n2 c2, .slice a3 n3 c3]) (e := 26) (rn_boxA rfl) hS.sat rfl (fun b4 G6 w5 hg hcb4 => ?_)); have hS := hS.grow hg; have hO := hO.grow hg
 have leG6 := hg.le
 refine WL_val (rn_assign (v := (.slice none 0 0)) rfl) rfl ?_; refine WL_nil ?_; refine WC_seq ?_; refine WC_region ?_; refine WL_val (rn_loadA ag26 (cs := [.slice a1 n1 c1, .slice a2 n2 c2, .slice a3 n3 c3]) rfl rfl (fun j v hj => hS.sat.cell (hcb4.drop_take 0 3 j v hj))) rfl ?_; obtain ⟨y7, hy7, H⟩ := bnd H; refine WL_op rfl (OpP_callG cb44 (f44_ok (x0 := x0) hS.sat (h1.mono RTLandPerson_mono leG6) (h2.mono RTLandEvent_mono leG6) (h3.mono RTLandMemory_mono leG6) hy7) rfl rfl (fun vy7 G9 w8 hg hvy7 => ?_)); obtain ⟨a10, n10, c10, ⟨⟩, h10⟩ := hvy7; have hS := hS.grow hg; have hO := hO.grow hg
 have leG9 := hg.le
 refine WL_val (rn_assign (v := (.slice a10 n10 c10)) rfl) rfl ?_; refine WL_nil ?_; refine WC_seq ?_; refine WC_region ?_; refine WL_val (rn_assign (v := (.slice none 0 0)) rfl) rfl ?_; refine WL_nil ?_; refine WC_seq ?_; refine WC_seq ?_; refine WC_region ?_; refine WL_val (rn_assign (v := (.int .i64 0)) rfl) rfl ?_; refine WL_nil ?_; have hO := hO.cons_nil 3 1; obtain ⟨q14, hq14, H⟩ := bnd H; refine WC_cut (fun F w => ∃ (Fb : Fr) (G : Gm) (aq14_0 : Option Addr) (nq14_0 cq14_0 : Nat) (claq14_0 : List Value), F = upds Fb [(4, .slice aq14_0 nq14_0 cq14_0)] ∧ Gle G9 G ∧ Since w0.heap.size G0 w0 G w ∧ Owns G w w0.heap.size [⟨3, 1, nq14_0, .slice aq14_0 nq14_0 cq14_0, claq14_0⟩] ∧ nq14_0 = q14.length ∧ Rd RInt 1 G claq14_0 q14) ?_ ?_
 ·refine WC_block (WC_loop hq14 (fun s12 F w => ∃ (Fb : Fr) (G : Gm) (as12_0 : Option Addr) (ns12_0 cs12_0 : Nat) (clas12_0 : List Value), F = upds Fb [(3, .slice a10 n10 c10), (4, .slice as12_0 ns12_0 cs12_0), (5, .int .i64 s12.2)] ∧ Gle G9 G ∧ Since w0.heap.size G0 w0 G w ∧ Owns G w w0.heap.size [⟨3, 1, ns12_0, .slice as12_0 ns12_0 cs12_0, clas12_0⟩] ∧ ns12_0 = s12.1.length ∧ Rd RInt 1 G clas12_0 s12.1) ?_ ?_)
  ·have hO : Owns G9 w8 w0.heap.size ([⟨3, 1, 0, .slice none 0 0, []⟩]) := hO
   exact ⟨_, G9, none, 0, 0, [], upds_self _ _ ⟨rfl, rfl, rfl, trivial⟩, Gle.refl _, hS, hO, rfl, (Rd.nil RInt 1 G9)⟩
  ·rintro s12 F w16 t15 ⟨Fb, G17, as12_0, ns12_0, cs12_0, clas12_0, rfl, leG17, hS, hO, hnhs12_0, hs12_0⟩
   intro H1 hqq14
   have Hoq14 := H; have H := H1
   unfold f32_b0 at H
   refine WC_seq ?_; refine WC_seq ?_; refine WC_region ?_; refine WL_val (rn_move (v := (.int .i64 s12.2)) rfl) rfl ?_; refine WL_val (rn_move (v := (.slice a10 n10 c10)) rfl) rfl ?_; refine WL_val (rn_len sl47 rfl rfl (h10.mono RTSpan_mono leG17).1) rfl ?_; refine WL_val (rn_lss rfl rfl) rfl ?_; refine WL_nil ?_; refine WC_cond rfl (fun hb18 => ?_) (fun hb18 => ?_)
   ·have H := ifT hb18 H; refine WC_skip ?_; refine WC_seq ?_; refine WC_block ?_; refine WC_region ?_; refine WL_val (rn_move (v := (.slice as12_0 ns12_0 cs12_0)) rfl) rfl ?_; refine WL_val (rn_move (v := (.slice a10 n10 c10)) rfl) rfl ?_; refine WL_val (rn_move (v := (.int .i64 s12.2)) rfl) rfl ?_; obtain ⟨y19, hy19, H⟩ := bnd H; refine WL_idx sl47 (h10.mono RTSpan_mono leG17) hy19 rfl rfl rfl ?_
    rintro b20 o20 _ hcb20 _ ⟨⟩
    refine WL_val (rn_fld fd44_0 rfl) rfl ?_; refine WL_val (rn_load na3 rfl (hS.sat.cell (hcb20 0 _ rfl))) rfl ?_
    refine WL_op rfl (OpP_newF (v := fun b => .slice (some ⟨b, 0, none⟩) 1 1) (cs := [.int .i64 y19.Low]) (e := 3) (by kernel_rfl) hS.sat rfl (fun b21 G23 w22 hg hcb21 => ?_))
    have hS := hS.grow hg; have hO := hO.grow hg
    have leG23 := hg.le
    have hfb21 : RSl RInt 1 G23 (some ⟨b21, 0, none⟩) 1 1 [y19.Low] := RSl.of_rd hcb21 (Rd.cons (c := [.int .i64 y19.Low]) rfl rfl (Rd.nil RInt 1 _)) rfl (by decide)
    obtain ⟨y24, hy24, H⟩ := bnd H; refine WL_op rfl (OpP_append (k := 0) sl29 RInt_one hS hO rfl hnhs12_0 (hs12_0.mono RInt_mono leG23) hfb21 hy24 rfl rfl rfl rfl rfl (fun aw25 cw25 w25 clw25 hS hO hrw25 => ?_))
    have hO : Owns G23 w25 w0.heap.size ([⟨3, 1, y24.length, .slice aw25 y24.length cw25, clw25⟩]) := hO
    refine WL_val (rn_assign (v := (.slice aw25 y24.length cw25)) rfl) rfl ?_; refine WL_nil ?_; refine WC_region ?_; refine WL_val (rn_move (v := (.int .i64 s12.2)) rfl) rfl ?_; refine WL_val (rn_add rfl rfl) rfl ?_; refine WL_val (rn_assign (v := (.int .i64 (IntKind.i64.wrap (s12.2 + 1)))) rfl) rfl ?_; refine WL_nil ?_
    have hO : Owns G23 w25 w0.heap.size ([⟨3, 1, y24.length, .slice aw25 y24.length cw25, clw25⟩]) := hO
    have H := Option.some.inj H; subst H; refine ⟨_, rfl, ?_⟩
    have l2_4 := leG17.trans leG23
    exact ⟨_, G23, aw25, y24.length, cw25, clw25, upds_self _ _ ⟨rfl, rfl, rfl, trivial⟩, l2_4, hS, hO, rfl, hrw25⟩
   ·have H := ifF hb18 H; refine WC_exit rfl ?_
    have hO : Owns G17 w16 w0.heap.size ([⟨3, 1, ns12_0, .slice as12_0 ns12_0 cs12_0, clas12_0⟩]) := hO
    have H := Option.some.inj H; subst H
    have hres := hqq14 _ rfl
    subst hres
    exact ⟨_, G17, as12_0, ns12_0, cs12_0, clas12_0, upds_self _ _ ⟨rfl, trivial⟩, leG17, hS, hO, hnhs12_0, hs12_0⟩
 ·rintro F w26 ⟨Fb, G27, aq14_0, nq14_0, cq14_0, claq14_0, rfl, leG27, hS, hO, hnhq14_0, hq14_0⟩
  refine WC_seq ?_; refine WC_region ?_; refine WL_val (rn_move (v := (.slice aq14_0 nq14_0 cq14_0)) rfl) rfl ?_; refine WL_val (rn_assign (v := (.slice aq14_0 nq14_0 cq14_0)) rfl) rfl ?_; refine WL_nil ?_; refine WC_ret ?_; obtain ⟨G28, leG28, hS, hO, hfG28⟩ := hO.freezeS hS RInt_mono (k := 0) rfl hq14_0 hnhq14_0
  have H : some q14 = some r := H
  have H := Option.some.inj H; subst H
  exact ⟨_, _, rfl, hS.toGrow, _, _, _, rfl, hfG28⟩
set_option maxHeartbeats 1000000 in
theorem f6_ok {G0 : Gm} {w0 : World} (hS0 : Sat G0 w0) {x0 : TLandBook} {a1 : Option Addr} {n1 c1 : Nat} {a2 : Option Addr} {n2 c2 : Nat} {a3 : Option Addr} {n3 c3 : Nat} {x1 : (List Int)} {a4 : Option Addr} {n4 c4 : Nat} (hT : TabG Tryd.prog G0) (h1 : RSl RTLandPerson 2 G0 a1 n1 c1 x0.People) (h2 : RSl RTLandEvent 2 G0 a2 n2 c2 x0.Events) (h3 : RSl RTLandMemory 4 G0 a3 n3 c3 x0.Memories) (h4 : RSl RInt 1 G0 a4 n4 c4 x1) {r : Bool} (H : f6 x0 x1 = some r) :
  Calls Tryd.prog 6 #[.agg #[.slice a1 n1 c1, .slice a2 n2 c2, .slice a3 n3 c3], .slice a4 n4 c4] w0 (RetV w0 (.bool r)) := by
 have hS := Since.start hS0
 have hO : Owns G0 w0 w0.heap.size [] := Owns.nil (Nat.le_refl _)
 unfold f6 at H
 refine enter1 (N := 79) (shutV _ _) Tryd.func6 rfl rfl rfl rfl ?_; refine WC_seq ?_; refine WC_region ?_; refine WL_op rfl (OpP_newF (v := fun b => .pointer (some ⟨b, 0, none⟩)) (cs := [.slice a1 n1 c1, .slice a2 n2 c2, .slice a3 n3 c3]) (e := 26) (rn_boxA rfl) hS.sat rfl (fun b5 G7 w6 hg hcb5 => ?_)); have hS := hS.grow hg; have hO := hO.grow hg
 have leG7 := hg.le
 refine WL_val (rn_assign (v := (.bool false)) rfl) rfl ?_; refine WL_nil ?_; refine WC_seq ?_; refine WC_seq ?_; obtain ⟨q8, hq8, H⟩ := bnd H; refine WC_cut (fun F w => ∃ (Fb : Fr) (G : Gm), F = upds Fb [(1, .slice a4 n4 c4), (2, .pointer (some ⟨b5, 0, none⟩)), (17, .bool q8)] ∧ Gle G7 G ∧ Since w0.heap.size G0 w0 G w ∧ Owns G w w0.heap.size []) ?_ ?_
 ·have Hoq8 := H; have H := hq8; refine WC_region ?_; refine WL_val (rn_loadA ag26 (cs := [.slice a1 n1 c1, .slice a2 n2 c2, .slice a3 n3 c3]) rfl rfl (fun j v hj => hS.sat.cell (hcb5.drop_take 0 3 j v hj))) rfl ?_; obtain ⟨y9, hy9, H⟩ := bnd H; refine WL_op rfl (OpP_callV cb14 (f14_ok (x0 := x0) hS.sat (h1.mono RTLandPerson_mono leG7) (h2.mono RTLandEvent_mono leG7) (h3.mono RTLandMemory_mono leG7) hy9) rfl rfl (fun w10 hb => ?_)); have hS := hS.keep hb; have hO := hO.below hb; refine WL_val (rn_not rfl) rfl ?_; refine WL_val (rn_move (v := (.bool (!y9))) rfl) rfl ?_
  rcases bcases (!y9) with hb11 | hb11
  ·have H := ifT hb11 H; refine WL_guardN rfl hb11 rfl rfl rfl ?_; refine WL_guardN rfl hb11 rfl rfl rfl ?_; refine WL_guardN rfl hb11 rfl rfl rfl ?_; refine WL_val (rn_pickT (v := (.bool true)) rfl hb11 rfl) rfl ?_; refine WL_nil ?_
   have hO : Owns G7 w10 w0.heap.size ([]) := hO
   have H := Option.some.inj H; subst H
   exact ⟨_, G7, upds_self _ _ ⟨rfl, rfl, rfl, trivial⟩, Gle.refl _, hS, hO⟩
  ·have H := ifF hb11 H; refine WL_guardY rfl hb11 rfl rfl ?_; refine WL_val (rn_move (v := (.slice a4 n4 c4)) rfl) rfl ?_; refine WL_guardY rfl hb11 rfl rfl ?_; refine WL_val (rn_len sl29 rfl rfl (h4.mono RInt_mono leG7).1) rfl ?_; refine WL_guardY rfl hb11 rfl rfl ?_; refine WL_val (rn_gtr rfl rfl) rfl ?_; refine WL_val (rn_pickF (v := (.bool (decide (15 < (x1.length : Int))))) rfl hb11 rfl) rfl ?_; refine WL_nil ?_
   have hO : Owns G7 w10 w0.heap.size ([]) := hO
   have H := Option.some.inj H; subst H
   exact ⟨_, G7, upds_self _ _ ⟨rfl, rfl, rfl, trivial⟩, Gle.refl _, hS, hO⟩
 ·rintro F w12 ⟨Fb, G13, rfl, leG13, hS, hO⟩
  refine WC_cond rfl (fun hb14 => ?_) (fun hb14 => ?_)
  ·have H := ifT hb14 H; refine WC_seq ?_; refine WC_region ?_; obtain ⟨y15, hy15, H⟩ := bnd H
   have l0_2 := leG7.trans leG13
   refine WL_op rfl (OpP_callV cb15 (f15_ok  hS.sat (hT.mono l0_2)  hy15) rfl rfl (fun w16 hb => ?_)); have hS := hS.keep hb; have hO := hO.below hb; refine WL_val (rn_assign (v := (.bool y15)) rfl) rfl ?_; refine WL_nil ?_; refine WC_ret ?_
   have H : some y15 = some r := H
   have H := Option.some.inj H; subst H
   exact ⟨rfl, hS.below⟩
  ·have H := ifF hb14 H; refine WC_skip ?_; refine WC_seq ?_; refine WC_region ?_; refine WL_val (rn_loadA ag26 (cs := [.slice a1 n1 c1, .slice a2 n2 c2, .slice a3 n3 c3]) rfl rfl (fun j v hj => (hS.sat.le leG13).cell (hcb5.drop_take 0 3 j v hj))) rfl ?_; refine WL_val (rn_move (v := (.slice a4 n4 c4)) rfl) rfl ?_; obtain ⟨y17, hy17, H⟩ := bnd H
   have l0_2 := leG7.trans leG13
   refine WL_op rfl (OpP_callV cb27 (f27_ok (x0 := x0) (x1 := x1) hS.sat (h1.mono RTLandPerson_mono l0_2) (h2.mono RTLandEvent_mono l0_2) (h3.mono RTLandMemory_mono l0_2) (h4.mono RInt_mono l0_2) hy17) rfl rfl (fun w18 hb => ?_)); have hS := hS.keep hb; have hO := hO.below hb; refine WL_val (rn_move (v := (.tuple #[.bool y17.1, .int .i64 y17.2])) rfl) rfl ?_; refine WL_val (rn_extract (v := (.bool y17.1)) rfl rfl) rfl ?_; refine WL_val (rn_extract (v := (.int .i64 y17.2)) rfl rfl) rfl ?_; refine WL_val (rn_assign (v := (.bool y17.1)) rfl) rfl ?_; refine WL_val (rn_assign (v := (.int .i64 y17.2)) rfl) rfl ?_; refine WL_nil ?_; refine WC_seq ?_; refine WC_region ?_; refine WL_val (rn_loadA ag26 (cs := [.slice a1 n1 c1, .slice a2 n2 c2, .slice a3 n3 c3]) rfl rfl (fun j v hj => (hS.sat.le leG13).cell (hcb5.drop_take 0 3 j v hj))) rfl ?_; obtain ⟨y19, hy19, H⟩ := bnd H; refine WL_op rfl (OpP_callG cb28 (f28_ok (x0 := x0) hS.sat (h1.mono RTLandPerson_mono l0_2) (h2.mono RTLandEvent_mono l0_2) (h3.mono RTLandMemory_mono l0_2) hy19) rfl rfl (fun vy19 G21 w20 hg hvy19 => ?_)); obtain ⟨a22, n22, c22, ⟨⟩, h22⟩ := hvy19; have hS := hS.grow hg; have hO := hO.grow hg
   have leG21 := hg.le
   refine WL_val (rn_move (v := (.tuple #[.slice a22 n22 c22, .int .i64 y19.2])) rfl) rfl ?_; refine WL_val (rn_extract (v := (.slice a22 n22 c22)) rfl rfl) rfl ?_; refine WL_val (rn_extract (v := (.int .i64 y19.2)) rfl rfl) rfl ?_; refine WL_val (rn_assign (v := (.slice a22 n22 c22)) rfl) rfl ?_; refine WL_val (rn_assign (v := (.int .i64 y19.2)) rfl) rfl ?_; refine WL_nil ?_; refine WC_seq ?_; obtain ⟨q23, hq23, H⟩ := bnd H; refine WC_cut (fun F w => ∃ (p24 : Unit) (Fb : Fr) (G : Gm), q23 = .inl p24 ∧ F = upds Fb [(2, .pointer (some ⟨b5, 0, none⟩)), (7, .slice a22 n22 c22), (8, .int .i64 y19.2)] ∧ Gle G21 G ∧ Since w0.heap.size G0 w0 G w ∧ Owns G w w0.heap.size []) ?_ ?_
   ·have Hoq23 := H; have H := hq23; refine WC_seq ?_; obtain ⟨q25, hq25, H⟩ := bnd H; refine WC_cut (fun F w => ∃ (Fb : Fr) (G : Gm), F = upds Fb [(1, .slice a4 n4 c4), (2, .pointer (some ⟨b5, 0, none⟩)), (5, .bool y17.1), (6, .int .i64 y17.2), (7, .slice a22 n22 c22), (8, .int .i64 y19.2), (38, .bool q25)] ∧ Gle G21 G ∧ Since w0.heap.size G0 w0 G w ∧ Owns G w w0.heap.size []) ?_ ?_
    ·have Hoq25 := H; have H := hq25; refine WC_region ?_
     have l1_3 := leG13.trans leG21
     refine WL_val (rn_loadA ag26 (cs := [.slice a1 n1 c1, .slice a2 n2 c2, .slice a3 n3 c3]) rfl rfl (fun j v hj => (hS.sat.le l1_3).cell (hcb5.drop_take 0 3 j v hj))) rfl ?_; obtain ⟨y26, hy26, H⟩ := bnd H
     have l0_3 := l0_2.trans leG21
     refine WL_op rfl (OpP_callV cb18 (f18_ok (x0 := x0) hS.sat (h1.mono RTLandPerson_mono l0_3) (h2.mono RTLandEvent_mono l0_3) (h3.mono RTLandMemory_mono l0_3) hy26) rfl rfl (fun w27 hb => ?_)); have hS := hS.keep hb; have hO := hO.below hb; refine WL_val (rn_not rfl) rfl ?_; refine WL_val (rn_move (v := (.bool (!y26))) rfl) rfl ?_
     rcases bcases (!y26) with hb28 | hb28
     ·have H := ifT hb28 H; refine WL_guardN rfl hb28 rfl rfl rfl ?_; refine WL_guardN rfl hb28 rfl rfl rfl ?_; refine WL_guardN rfl hb28 rfl rfl rfl ?_; refine WL_guardN rfl hb28 rfl rfl rfl ?_; refine WL_val (rn_pickT (v := (.bool true)) rfl hb28 rfl) rfl ?_; refine WL_nil ?_
      have hO : Owns G21 w27 w0.heap.size ([]) := hO
      have H := Option.some.inj H; subst H
      exact ⟨_, G21, upds_self _ _ ⟨rfl, rfl, rfl, rfl, rfl, rfl, rfl, trivial⟩, Gle.refl _, hS, hO⟩
     ·have H := ifF hb28 H; refine WL_guardY rfl hb28 rfl rfl ?_; refine WL_val (rn_loadA ag26 (cs := [.slice a1 n1 c1, .slice a2 n2 c2, .slice a3 n3 c3]) rfl rfl (fun j v hj => (hS.sat.le l1_3).cell (hcb5.drop_take 0 3 j v hj))) rfl ?_; refine WL_guardY rfl hb28 rfl rfl ?_; refine WL_val (rn_move (v := (.slice a4 n4 c4)) rfl) rfl ?_; refine WL_guardY rfl hb28 rfl rfl ?_; obtain ⟨y29, hy29, H⟩ := bnd H; refine WL_op rfl (OpP_callV cb29 (f29_ok (x0 := x0) (x1 := x1) hS.sat (h1.mono RTLandPerson_mono l0_3) (h2.mono RTLandEvent_mono l0_3) (h3.mono RTLandMemory_mono l0_3) (h4.mono RInt_mono l0_3) hy29) rfl rfl (fun w30 hb => ?_)); have hS := hS.keep hb; have hO := hO.below hb; refine WL_guardY rfl hb28 rfl rfl ?_; refine WL_val (rn_not rfl) rfl ?_; refine WL_val (rn_pickF (v := (.bool (!y29))) rfl hb28 rfl) rfl ?_; refine WL_nil ?_
      have hO : Owns G21 w30 w0.heap.size ([]) := hO
      have H := Option.some.inj H; subst H
      exact ⟨_, G21, upds_self _ _ ⟨rfl, rfl, rfl, rfl, rfl, rfl, rfl, trivial⟩, Gle.refl _, hS, hO⟩
    ·rintro F w31 ⟨Fb, G32, rfl, leG32, hS, hO⟩
     refine WC_cond rfl (fun hb33 => ?_) (fun hb33 => ?_)
     ·have H := ifT hb33 H; refine WC_seq ?_; obtain ⟨q34, hq34, H⟩ := bnd H; refine WC_cut (fun F w => ∃ (Fb : Fr), F = upds Fb [(2, .pointer (some ⟨b5, 0, none⟩)), (7, .slice a22 n22 c22), (8, .int .i64 y19.2), (43, .bool q34)] ∧ w31 = w) ?_ ?_
      ·have Hoq34 := H; have H := hq34; refine WC_region ?_; refine WL_val (rn_move (v := (.int .i64 y17.2)) rfl) rfl ?_; refine WL_val (rn_neq rfl rfl) rfl ?_; refine WL_val (rn_move (v := (.bool (y17.2 != 2))) rfl) rfl ?_
       rcases bcases (y17.2 != 2) with hb35 | hb35
       ·have H := ifT hb35 H; refine WL_guardN rfl hb35 rfl rfl rfl ?_; refine WL_val (rn_pickT (v := (.bool true)) rfl hb35 rfl) rfl ?_; refine WL_nil ?_; have H := Option.some.inj H; subst H
        exact ⟨_, upds_self _ _ ⟨rfl, rfl, rfl, rfl, trivial⟩, rfl⟩
       ·have H := ifF hb35 H; refine WL_guardY rfl hb35 rfl rfl ?_; refine WL_val (rn_move (v := (.bool y17.1)) rfl) rfl ?_; refine WL_val (rn_pickF (v := (.bool y17.1)) rfl hb35 rfl) rfl ?_; refine WL_nil ?_; have H := Option.some.inj H; subst H
        exact ⟨_, upds_self _ _ ⟨rfl, rfl, rfl, rfl, trivial⟩, rfl⟩
      ·rintro F wl ⟨Fb, rfl, rfl⟩
       refine WC_cond rfl (fun hb38 => ?_) (fun hb38 => ?_)
       ·have H := ifT hb38 H; refine WC_seq ?_; refine WC_region ?_; refine WL_val (rn_assign (v := (.bool false)) rfl) rfl ?_; refine WL_nil ?_; refine WC_ret ?_; have H := Option.some.inj H; subst H; have H := Hoq23
        have H : some false = some r := H
        have H := Option.some.inj H; subst H
        exact ⟨rfl, hS.below⟩
       ·have H := ifF hb38 H; refine WC_skip ?_
        have hO : Owns G32 w31 w0.heap.size ([]) := hO
        have H := Option.some.inj H; subst H
        exact ⟨_, _, G32, rfl, upds_self _ _ ⟨rfl, rfl, rfl, trivial⟩, leG32, hS, hO⟩
     ·have H := ifF hb33 H; refine WC_seq ?_; obtain ⟨q39, hq39, H⟩ := bnd H; refine WC_cut (fun F w => ∃ (Fb : Fr) (G : Gm), F = upds Fb [(2, .pointer (some ⟨b5, 0, none⟩)), (7, .slice a22 n22 c22), (8, .int .i64 y19.2), (52, .bool q39)] ∧ Gle G32 G ∧ Since w0.heap.size G0 w0 G w ∧ Owns G w w0.heap.size []) ?_ ?_
      ·have Hoq39 := H; have H := hq39; refine WC_region ?_; refine WL_val (rn_move (v := (.int .i64 y17.2)) rfl) rfl ?_; refine WL_val (rn_neq rfl rfl) rfl ?_; refine WL_val (rn_move (v := (.bool (y17.2 != 0))) rfl) rfl ?_
       rcases bcases (y17.2 != 0) with hb40 | hb40
       ·have H := ifT hb40 H; refine WL_guardN rfl hb40 rfl rfl rfl ?_; refine WL_guardN rfl hb40 rfl rfl rfl ?_; refine WL_guardN rfl hb40 rfl rfl rfl ?_; refine WL_guardN rfl hb40 rfl rfl rfl ?_; refine WL_guardN rfl hb40 rfl rfl rfl ?_; refine WL_val (rn_pickT (v := (.bool true)) rfl hb40 rfl) rfl ?_; refine WL_nil ?_
        have hO : Owns G32 w31 w0.heap.size ([]) := hO
        have H := Option.some.inj H; subst H
        exact ⟨_, G32, upds_self _ _ ⟨rfl, rfl, rfl, rfl, trivial⟩, Gle.refl _, hS, hO⟩
       ·have H := ifF hb40 H; refine WL_guardY rfl hb40 rfl rfl ?_; refine WL_val (rn_move (v := (.bool y17.1)) rfl) rfl ?_; refine WL_guardY rfl hb40 rfl rfl ?_
        have l1_4 := (leG13.trans leG21).trans leG32
        refine WL_val (rn_loadA ag26 (cs := [.slice a1 n1 c1, .slice a2 n2 c2, .slice a3 n3 c3]) rfl rfl (fun j v hj => (hS.sat.le l1_4).cell (hcb5.drop_take 0 3 j v hj))) rfl ?_; refine WL_guardY rfl hb40 rfl rfl ?_; refine WL_val (rn_move (v := (.slice a4 n4 c4)) rfl) rfl ?_; refine WL_guardY rfl hb40 rfl rfl ?_; obtain ⟨y41, hy41, H⟩ := bnd H
        have l0_4 := (l0_2.trans leG21).trans leG32
        refine WL_op rfl (OpP_callV cb30 (f30_ok (x0 := x0) (x1 := x1) hS.sat (h1.mono RTLandPerson_mono l0_4) (h2.mono RTLandEvent_mono l0_4) (h3.mono RTLandMemory_mono l0_4) (h4.mono RInt_mono l0_4) hy41) rfl rfl (fun w42 hb => ?_)); have hS := hS.keep hb; have hO := hO.below hb; refine WL_guardY rfl hb40 rfl rfl ?_; refine WL_val (rn_neqB Tryd.underlying4 rfl rfl) rfl ?_; refine WL_val (rn_pickF (v := (.bool (!(y17.1 == y41)))) rfl hb40 rfl) rfl ?_; refine WL_nil ?_
        have hO : Owns G32 w42 w0.heap.size ([]) := hO
        have H := Option.some.inj H; subst H
        exact ⟨_, G32, upds_self _ _ ⟨rfl, rfl, rfl, rfl, trivial⟩, Gle.refl _, hS, hO⟩
      ·rintro F w43 ⟨Fb, G44, rfl, leG44, hS, hO⟩
       refine WC_cond rfl (fun hb45 => ?_) (fun hb45 => ?_)
       ·have H := ifT hb45 H; refine WC_seq ?_; refine WC_region ?_; refine WL_val (rn_assign (v := (.bool false)) rfl) rfl ?_; refine WL_nil ?_; refine WC_ret ?_; have H := Option.some.inj H; subst H; have H := Hoq23
        have H : some false = some r := H
        have H := Option.some.inj H; subst H
        exact ⟨rfl, hS.below⟩
       ·have H := ifF hb45 H; refine WC_skip ?_
        have hO : Owns G44 w43 w0.heap.size ([]) := hO
        have H := Option.some.inj H; subst H
        have l3_5 := leG32.trans leG44
        exact ⟨_, _, G44, rfl, upds_self _ _ ⟨rfl, rfl, rfl, trivial⟩, l3_5, hS, hO⟩
   ·rintro F w46 ⟨p24, Fb, G47, rfl, rfl, leG47, hS, hO⟩
    refine WC_seq ?_; refine WC_seq ?_; refine WC_region ?_
    have l1_4 := (leG13.trans leG21).trans leG47
    refine WL_val (rn_loadA ag26 (cs := [.slice a1 n1 c1, .slice a2 n2 c2, .slice a3 n3 c3]) rfl rfl (fun j v hj => (hS.sat.le l1_4).cell (hcb5.drop_take 0 3 j v hj))) rfl ?_; obtain ⟨y48, hy48, H⟩ := bnd H
    have l0_4 := (l0_2.trans leG21).trans leG47
    refine WL_op rfl (OpP_callV cb31 (f31_ok (x0 := x0) (x1 := true) hS.sat (h1.mono RTLandPerson_mono l0_4) (h2.mono RTLandEvent_mono l0_4) (h3.mono RTLandMemory_mono l0_4) hy48) rfl rfl (fun w49 hb => ?_)); have hS := hS.keep hb; have hO := hO.below hb; refine WL_val (rn_assign (v := (.int .i64 y48)) rfl) rfl ?_; refine WL_nil ?_; refine WC_seq ?_; refine WC_region ?_; refine WL_val (rn_move (v := (.int .i64 y48)) rfl) rfl ?_; refine WL_val (rn_neq rfl rfl) rfl ?_; refine WL_nil ?_; refine WC_cond rfl (fun hb50 => ?_) (fun hb50 => ?_)
    ·have H := ifT hb50 H; refine WC_seq ?_; obtain ⟨q51, hq51, H⟩ := bnd H; refine WC_cut (fun F w => ∃ (Fb : Fr) (G : Gm), F = upds Fb [(4, .bool q51)] ∧ Gle G47 G ∧ Since w0.heap.size G0 w0 G w ∧ Owns G w w0.heap.size []) ?_ ?_
     ·have Hoq51 := H; have H := hq51; refine WC_region ?_; refine WL_val (rn_move (v := (.int .i64 y19.2)) rfl) rfl ?_; refine WL_val (rn_move (v := (.int .i64 y48)) rfl) rfl ?_; refine WL_val (rn_eql rfl rfl) rfl ?_; refine WL_val (rn_move (v := (.bool (y19.2 == y48))) rfl) rfl ?_
      rcases bcases (y19.2 == y48) with hb52 | hb52
      ·have H := ifT hb52 H; refine WL_guardY rfl hb52 rfl rfl ?_; refine WL_val (rn_move (v := (.slice a22 n22 c22)) rfl) rfl ?_; refine WL_guardY rfl hb52 rfl rfl ?_; refine WL_val (rn_len sl29 rfl rfl (h22.mono RInt_mono leG47).1) rfl ?_; refine WL_guardY rfl hb52 rfl rfl ?_; refine WL_val (rn_eql rfl rfl) rfl ?_; refine WL_val (rn_pickT (v := (.bool ((y19.1.length : Int) == 0))) rfl hb52 rfl) rfl ?_; refine WL_val (rn_move (v := (.bool ((y19.1.length : Int) == 0))) rfl) rfl ?_
       rcases bcases ((y19.1.length : Int) == 0) with hb53 | hb53
       ·have H := ifT hb53 H; refine WL_guardY rfl hb53 rfl rfl ?_; obtain ⟨y54, hy54, H⟩ := bnd H; refine WL_op rfl (OpP_callV cb15 (f15_ok  hS.sat (hT.mono l0_4)  hy54) rfl rfl (fun w55 hb => ?_)); have hS := hS.keep hb; have hO := hO.below hb; refine WL_val (rn_pickT (v := (.bool y54)) rfl hb53 rfl) rfl ?_; refine WL_val (rn_assign (v := (.bool y54)) rfl) rfl ?_; refine WL_nil ?_
        have hO : Owns G47 w55 w0.heap.size ([]) := hO
        have H := Option.some.inj H; subst H
        exact ⟨_, G47, upds_self _ _ ⟨rfl, trivial⟩, Gle.refl _, hS, hO⟩
       ·have H := ifF hb53 H; refine WL_guardN rfl hb53 rfl rfl rfl ?_; refine WL_val (rn_pickF (v := (.bool false)) rfl hb53 rfl) rfl ?_; refine WL_val (rn_assign (v := (.bool false)) rfl) rfl ?_; refine WL_nil ?_
        have hO : Owns G47 w49 w0.heap.size ([]) := hO
        have H := Option.some.inj H; subst H
        exact ⟨_, G47, upds_self _ _ ⟨rfl, trivial⟩, Gle.refl _, hS, hO⟩
      ·have H := ifF hb52 H; refine WL_guardN rfl hb52 rfl rfl rfl ?_; refine WL_guardN rfl hb52 rfl rfl rfl ?_; refine WL_guardN rfl hb52 rfl rfl rfl ?_; refine WL_val (rn_pickF (v := (.bool false)) rfl hb52 rfl) rfl ?_; refine WL_val (rn_move (v := (.bool false)) rfl) rfl ?_; refine WL_guardN rfl rfl rfl rfl rfl ?_; refine WL_val (rn_pickF (v := (.bool false)) rfl rfl rfl) rfl ?_; refine WL_val (rn_assign (v := (.bool false)) rfl) rfl ?_; refine WL_nil ?_
       have hO : Owns G47 w49 w0.heap.size ([]) := hO
       have H := Option.some.inj H; subst H
       exact ⟨_, G47, upds_self _ _ ⟨rfl, trivial⟩, Gle.refl _, hS, hO⟩
     ·rintro F w56 ⟨Fb, G57, rfl, leG57, hS, hO⟩
      refine WC_ret ?_
      have H : some q51 = some r := H
      have H := Option.some.inj H; subst H
      exact ⟨rfl, hS.below⟩
    ·have H := ifF hb50 H; refine WC_skip ?_; refine WC_seq ?_; obtain ⟨q58, hq58, H⟩ := bnd H; refine WC_cut (fun F w => ∃ (Fb : Fr) (G : Gm), F = upds Fb [(4, .bool q58)] ∧ Gle G47 G ∧ Since w0.heap.size G0 w0 G w ∧ Owns G w w0.heap.size []) ?_ ?_
     ·have Hoq58 := H; have H := hq58; refine WC_region ?_; refine WL_val (rn_move (v := (.int .i64 y19.2)) rfl) rfl ?_; refine WL_val (rn_eql rfl rfl) rfl ?_; refine WL_val (rn_move (v := (.bool (y19.2 == 0))) rfl) rfl ?_
      rcases bcases (y19.2 == 0) with hb59 | hb59
      ·have H := ifT hb59 H; refine WL_guardY rfl hb59 rfl rfl ?_; refine WL_val (rn_move (v := (.slice a22 n22 c22)) rfl) rfl ?_; refine WL_guardY rfl hb59 rfl rfl ?_; refine WL_val (rn_loadA ag26 (cs := [.slice a1 n1 c1, .slice a2 n2 c2, .slice a3 n3 c3]) rfl rfl (fun j v hj => (hS.sat.le l1_4).cell (hcb5.drop_take 0 3 j v hj))) rfl ?_; refine WL_guardY rfl hb59 rfl rfl ?_; obtain ⟨y60, hy60, H⟩ := bnd H; refine WL_op rfl (OpP_callG cb32 (f32_ok (x0 := x0) hS.sat (h1.mono RTLandPerson_mono l0_4) (h2.mono RTLandEvent_mono l0_4) (h3.mono RTLandMemory_mono l0_4) hy60) rfl rfl (fun vy60 G62 w61 hg hvy60 => ?_)); obtain ⟨a63, n63, c63, ⟨⟩, h63⟩ := hvy60; have hS := hS.grow hg; have hO := hO.grow hg
       have leG62 := hg.le
       refine WL_guardY rfl hb59 rfl rfl ?_; obtain ⟨y64, hy64, H⟩ := bnd H
       have l3_5 := leG47.trans leG62
       refine WL_op rfl (OpP_callV cb20 (f20_ok (x0 := y19.1) (x1 := y60) hS.sat (h22.mono RInt_mono l3_5) h63 hy64) rfl rfl (fun w65 hb => ?_)); have hS := hS.keep hb; have hO := hO.below hb; refine WL_val (rn_pickT (v := (.bool y64)) rfl hb59 rfl) rfl ?_; refine WL_val (rn_move (v := (.bool y64)) rfl) rfl ?_
       rcases bcases y64 with hb66 | hb66
       ·have H := ifT hb66 H; refine WL_guardY rfl hb66 rfl rfl ?_; obtain ⟨y67, hy67, H⟩ := bnd H
        have l0_5 := l0_4.trans leG62
        refine WL_op rfl (OpP_callV cb15 (f15_ok  hS.sat (hT.mono l0_5)  hy67) rfl rfl (fun w68 hb => ?_)); have hS := hS.keep hb; have hO := hO.below hb; refine WL_val (rn_pickT (v := (.bool y67)) rfl hb66 rfl) rfl ?_; refine WL_val (rn_assign (v := (.bool y67)) rfl) rfl ?_; refine WL_nil ?_
        have hO : Owns G62 w68 w0.heap.size ([]) := hO
        have H := Option.some.inj H; subst H
        exact ⟨_, G62, upds_self _ _ ⟨rfl, trivial⟩, leG62, hS, hO⟩
       ·have H := ifF hb66 H; refine WL_guardN rfl hb66 rfl rfl rfl ?_; refine WL_val (rn_pickF (v := (.bool false)) rfl hb66 rfl) rfl ?_; refine WL_val (rn_assign (v := (.bool false)) rfl) rfl ?_; refine WL_nil ?_
        have hO : Owns G62 w65 w0.heap.size ([]) := hO
        have H := Option.some.inj H; subst H
        exact ⟨_, G62, upds_self _ _ ⟨rfl, trivial⟩, leG62, hS, hO⟩
      ·have H := ifF hb59 H; refine WL_guardN rfl hb59 rfl rfl rfl ?_; refine WL_guardN rfl hb59 rfl rfl rfl ?_; refine WL_guardN rfl hb59 rfl rfl rfl ?_; refine WL_guardN rfl hb59 rfl rfl rfl ?_; refine WL_val (rn_pickF (v := (.bool false)) rfl hb59 rfl) rfl ?_; refine WL_val (rn_move (v := (.bool false)) rfl) rfl ?_; refine WL_guardN rfl rfl rfl rfl rfl ?_; refine WL_val (rn_pickF (v := (.bool false)) rfl rfl rfl) rfl ?_; refine WL_val (rn_assign (v := (.bool false)) rfl) rfl ?_; refine WL_nil ?_
       have hO : Owns G47 w49 w0.heap.size ([]) := hO
       have H := Option.some.inj H; subst H
       exact ⟨_, G47, upds_self _ _ ⟨rfl, trivial⟩, Gle.refl _, hS, hO⟩
     ·rintro F w69 ⟨Fb, G70, rfl, leG70, hS, hO⟩
      refine WC_ret ?_
      have H : some q58 = some r := H
      have H := Option.some.inj H; subst H
      exact ⟨rfl, hS.below⟩
end Go.Proofs.YtcaflmilfhhikaaDoor
