/-
  The walks: each Go function computes its plain function (printed by a program of ours).
-/
import Derived.Test.YtcaflmilfhhikaaDoorRd
import Derived.Test.YtcaflmilfhhikaaDoorBaseQ
import Derived.Test.YtcaflmilfhhikaaDoorIt
import Derived.Test.YtcaflmilfhhikaaDoorLib
import Derived.Test.YtcaflmilfhhikaaDoorBu
import Derived.Test.YtcaflmilfhhikaaDoorP3W3
namespace Go.Proofs.YtcaflmilfhhikaaDoor
open Go.RowKit
set_option linter.unusedVariables false

set_option maxRecDepth 20000
set_option linter.unusedVariables false
set_option maxHeartbeats 1000000 in
theorem f62_ok {G0 : Gm} {w0 : World} (hS0 : Sat G0 w0) {x0 : Int} {x1 : Int}  {r : (List (List Int))} (H : f62 x0 x1 = some r) :
  Calls Tryd.prog 62 #[.int .i64 x0, .int .i64 x1] w0 (RetG G0 w0 (fun G v => ∃ (ra0 : Option Addr) (rn0 rc0 : Nat), v = .slice ra0 rn0 rc0 ∧ RSl (RSlice RInt 1) 1 G ra0 rn0 rc0 r)) := by
 have hS := Since.start hS0
 have hO : Owns G0 w0 w0.heap.size [] := Owns.nil (Nat.le_refl _)
 unfold f62 at H
 refine enter1 (N := 53) (shutG _ _ _) Tryd.func62 rfl rfl rfl rfl ?_; refine WC_seq ?_; refine WC_region ?_; refine WL_val (rn_assign (v := (.slice none 0 0)) rfl) rfl ?_; refine WL_nil ?_; refine WC_seq ?_; refine WC_region ?_
 refine WL_op rfl (OpP_newF (v := fun b => .slice (some ⟨b, 0, none⟩) 1 1) (cs := [.slice none 0 0]) (e := 29) (by kernel_rfl) hS.sat rfl (fun b1 G3 w2 hg hcb1 => ?_))
 have hS := hS.grow hg; have hO := hO.grow hg
 have leG3 := hg.le
 have hfb1 : RSl (RSlice RInt 1) 1 G3 (some ⟨b1, 0, none⟩) 1 1 [[]] := RSl.of_rd hcb1 (Rd.cons (c := [.slice none 0 0]) rfl ⟨_, _, _, rfl, (RSl.nil RInt 1 G3 none)⟩ (Rd.nil (RSlice RInt 1) 1 _)) rfl (by decide)
 refine WL_val (rn_assign (v := (.slice (some ⟨b1, 0, none⟩) 1 1)) rfl) rfl ?_; refine WL_nil ?_; refine WC_seq ?_; refine WC_seq ?_; refine WC_region ?_; refine WL_val (rn_assign (v := (.int .i64 0)) rfl) rfl ?_; refine WL_nil ?_; obtain ⟨q6, hq6, H⟩ := bnd H; refine WC_cut (fun F w => ∃ (Fb : Fr) (G : Gm) (aq6_0 : Option Addr) (nq6_0 cq6_0 : Nat), F = upds Fb [(5, .slice aq6_0 nq6_0 cq6_0)] ∧ Gle G3 G ∧ Since w0.heap.size G0 w0 G w ∧ Owns G w w0.heap.size [] ∧ RSl (RSlice RInt 1) 1 G aq6_0 nq6_0 cq6_0 q6) ?_ ?_
 ·refine WC_block (WC_loop hq6 (fun s4 F w => ∃ (Fb : Fr) (G : Gm) (as4_0 : Option Addr) (ns4_0 cs4_0 : Nat), F = upds Fb [(0, .int .i64 x0), (1, .int .i64 x1), (5, .slice as4_0 ns4_0 cs4_0), (6, .int .i64 s4.2)] ∧ Gle G3 G ∧ Since w0.heap.size G0 w0 G w ∧ Owns G w w0.heap.size [] ∧ RSl (RSlice RInt 1) 1 G as4_0 ns4_0 cs4_0 s4.1) ?_ ?_)
  ·have hO : Owns G3 w2 w0.heap.size ([]) := hO
   exact ⟨_, G3, (some ⟨b1, 0, none⟩), 1, 1, upds_self _ _ ⟨rfl, rfl, rfl, rfl, trivial⟩, Gle.refl _, hS, hO, hfb1⟩
  ·rintro s4 F w8 t7 ⟨Fb, G9, as4_0, ns4_0, cs4_0, rfl, leG9, hS, hO, hs4_0⟩
   intro H1 hqq6
   have Hoq6 := H; have H := H1
   unfold f62_b0 at H
   refine WC_seq ?_; refine WC_seq ?_; refine WC_region ?_; refine WL_val (rn_move (v := (.int .i64 s4.2)) rfl) rfl ?_; refine WL_val (rn_move (v := (.int .i64 x1)) rfl) rfl ?_; refine WL_val (rn_lss rfl rfl) rfl ?_; refine WL_nil ?_; refine WC_cond rfl (fun hb10 => ?_) (fun hb10 => ?_)
   ·have H := ifT hb10 H; refine WC_skip ?_; refine WC_seq ?_; refine WC_block ?_; refine WC_seq ?_; refine WC_region ?_; refine WL_val (rn_assign (v := (.slice none 0 0)) rfl) rfl ?_; refine WL_nil ?_; refine WC_seq ?_; refine WC_seq ?_; refine WC_region ?_; refine WL_val (rn_assign (v := (.int .i64 0)) rfl) rfl ?_; refine WL_nil ?_; have hO := hO.cons_nil 29 1; obtain ⟨q14, hq14, H⟩ := bnd H; refine WC_cut (fun F w => ∃ (Fb : Fr) (G : Gm) (aq14_0 : Option Addr) (nq14_0 cq14_0 : Nat) (claq14_0 : List Value), F = upds Fb [(0, .int .i64 x0), (1, .int .i64 x1), (6, .int .i64 s4.2), (7, .slice aq14_0 nq14_0 cq14_0)] ∧ Gle G9 G ∧ Since w0.heap.size G0 w0 G w ∧ Owns G w w0.heap.size [⟨29, 1, nq14_0, .slice aq14_0 nq14_0 cq14_0, claq14_0⟩] ∧ nq14_0 = q14.length ∧ Rd (RSlice RInt 1) 1 G claq14_0 q14) ?_ ?_
    ·refine WC_block (WC_loop hq14 (fun s12 F w => ∃ (Fb : Fr) (G : Gm) (as12_0 : Option Addr) (ns12_0 cs12_0 : Nat) (clas12_0 : List Value), F = upds Fb [(0, .int .i64 x0), (1, .int .i64 x1), (5, .slice as4_0 ns4_0 cs4_0), (6, .int .i64 s4.2), (7, .slice as12_0 ns12_0 cs12_0), (8, .int .i64 s12.2)] ∧ Gle G9 G ∧ Since w0.heap.size G0 w0 G w ∧ Owns G w w0.heap.size [⟨29, 1, ns12_0, .slice as12_0 ns12_0 cs12_0, clas12_0⟩] ∧ ns12_0 = s12.1.length ∧ Rd (RSlice RInt 1) 1 G clas12_0 s12.1) ?_ ?_)
     ·have hO : Owns G9 w8 w0.heap.size ([⟨29, 1, 0, .slice none 0 0, []⟩]) := hO
      exact ⟨_, G9, none, 0, 0, [], upds_self _ _ ⟨rfl, rfl, rfl, rfl, rfl, rfl, trivial⟩, Gle.refl _, hS, hO, rfl, (Rd.nil (RSlice RInt 1) 1 G9)⟩
     ·rintro s12 F w16 t15 ⟨Fb, G17, as12_0, ns12_0, cs12_0, clas12_0, rfl, leG17, hS, hO, hnhs12_0, hs12_0⟩
      intro H1 hqq14
      have Hoq14 := H; have H := H1
      unfold f62_b1 at H
      refine WC_seq ?_; refine WC_seq ?_; refine WC_region ?_; refine WL_val (rn_move (v := (.int .i64 s12.2)) rfl) rfl ?_; refine WL_val (rn_move (v := (.slice as4_0 ns4_0 cs4_0)) rfl) rfl ?_; refine WL_val (rn_len sl86 rfl rfl (hs4_0.mono (RSlice_mono RInt_mono) leG17).1) rfl ?_; refine WL_val (rn_lss rfl rfl) rfl ?_; refine WL_nil ?_; refine WC_cond rfl (fun hb18 => ?_) (fun hb18 => ?_)
      ·have H := ifT hb18 H; refine WC_skip ?_; refine WC_seq ?_; refine WC_block ?_; refine WC_seq ?_; refine WC_region ?_; refine WL_val (rn_assign (v := (.int .i64 0)) rfl) rfl ?_; refine WL_nil ?_; refine WC_seq ?_; obtain ⟨q19, hq19, H⟩ := bnd H; refine WC_cut (fun F w => ∃ (Fb : Fr), F = upds Fb [(0, .int .i64 x0), (1, .int .i64 x1), (5, .slice as4_0 ns4_0 cs4_0), (6, .int .i64 s4.2), (7, .slice as12_0 ns12_0 cs12_0), (8, .int .i64 s12.2), (9, .int .i64 q19)] ∧ w16 = w) ?_ ?_
       ·have Hoq19 := H; have H := hq19; refine WC_seq ?_; refine WC_region ?_; refine WL_val (rn_move (v := (.int .i64 s4.2)) rfl) rfl ?_; refine WL_val (rn_gtr rfl rfl) rfl ?_; refine WL_nil ?_; refine WC_cond rfl (fun hb20 => ?_) (fun hb20 => ?_)
        ·have H := ifT hb20 H; refine WC_region ?_; refine WL_val (rn_move (v := (.slice as4_0 ns4_0 cs4_0)) rfl) rfl ?_; refine WL_val (rn_move (v := (.int .i64 s12.2)) rfl) rfl ?_; obtain ⟨y21, hy21, H⟩ := bnd H; refine WL_idx sl86 (hs4_0.mono (RSlice_mono RInt_mono) leG17) hy21 rfl rfl rfl ?_
         rintro b22 o22 _ hcb22 _ ⟨a23, n23, c23, ⟨⟩, h23⟩
         refine WL_val (rn_load na29 rfl (hS.sat.cell (hcb22 0 _ rfl))) rfl ?_; refine WL_val (rn_move (v := (.int .i64 s4.2)) rfl) rfl ?_; refine WL_val (rn_sub rfl rfl) rfl ?_; obtain ⟨y24, hy24, H⟩ := bnd H; refine WL_idx sl29 h23 hy24 rfl rfl rfl ?_
         rintro b25 o25 _ hcb25 _ ⟨⟩
         refine WL_val (rn_load na3 rfl (hS.sat.cell (hcb25 0 _ rfl))) rfl ?_; refine WL_val (rn_add rfl rfl) rfl ?_; refine WL_val (rn_assign (v := (.int .i64 (IntKind.i64.wrap (y24 + 1)))) rfl) rfl ?_; refine WL_nil ?_; have H := Option.some.inj H; subst H
         exact ⟨_, upds_self _ _ ⟨rfl, rfl, rfl, rfl, rfl, rfl, rfl, trivial⟩, rfl⟩
        ·have H := ifF hb20 H; refine WC_skip ?_; have H := Option.some.inj H; subst H
         exact ⟨_, upds_self _ _ ⟨rfl, rfl, rfl, rfl, rfl, rfl, rfl, trivial⟩, rfl⟩
       ·rintro F wl ⟨Fb, rfl, rfl⟩
        refine WC_seq ?_; refine WC_region ?_; refine WL_val (rn_move (v := (.int .i64 q19)) rfl) rfl ?_; refine WL_val (rn_assign (v := (.int .i64 q19)) rfl) rfl ?_; refine WL_nil ?_; obtain ⟨q30, hq30, H⟩ := bnd H; refine WC_cut (fun F w => ∃ (Fb : Fr) (G : Gm) (aq30_0 : Option Addr) (nq30_0 cq30_0 : Nat) (claq30_0 : List Value), F = upds Fb [(0, .int .i64 x0), (1, .int .i64 x1), (5, .slice as4_0 ns4_0 cs4_0), (6, .int .i64 s4.2), (7, .slice aq30_0 nq30_0 cq30_0), (8, .int .i64 s12.2)] ∧ Gle G17 G ∧ Since w0.heap.size G0 w0 G w ∧ Owns G w w0.heap.size [⟨29, 1, nq30_0, .slice aq30_0 nq30_0 cq30_0, claq30_0⟩] ∧ nq30_0 = q30.length ∧ Rd (RSlice RInt 1) 1 G claq30_0 q30) ?_ ?_
        ·refine WC_block (WC_loop hq30 (fun s28 F w => ∃ (Fb : Fr) (G : Gm) (as28_0 : Option Addr) (ns28_0 cs28_0 : Nat) (clas28_0 : List Value), F = upds Fb [(0, .int .i64 x0), (1, .int .i64 x1), (5, .slice as4_0 ns4_0 cs4_0), (6, .int .i64 s4.2), (7, .slice as28_0 ns28_0 cs28_0), (8, .int .i64 s12.2), (10, .int .i64 s28.2)] ∧ Gle G17 G ∧ Since w0.heap.size G0 w0 G w ∧ Owns G w w0.heap.size [⟨29, 1, ns28_0, .slice as28_0 ns28_0 cs28_0, clas28_0⟩] ∧ ns28_0 = s28.1.length ∧ Rd (RSlice RInt 1) 1 G clas28_0 s28.1) ?_ ?_)
         ·have hO : Owns G17 w16 w0.heap.size ([⟨29, 1, ns12_0, .slice as12_0 ns12_0 cs12_0, clas12_0⟩]) := hO
          exact ⟨_, G17, as12_0, ns12_0, cs12_0, clas12_0, upds_self _ _ ⟨rfl, rfl, rfl, rfl, rfl, rfl, rfl, trivial⟩, Gle.refl _, hS, hO, hnhs12_0, hs12_0⟩
         ·rintro s28 F w32 t31 ⟨Fb, G33, as28_0, ns28_0, cs28_0, clas28_0, rfl, leG33, hS, hO, hnhs28_0, hs28_0⟩
          intro H1 hqq30
          have Hoq30 := H; have H := H1
          unfold f62_b2 at H
          refine WC_seq ?_; refine WC_seq ?_; refine WC_region ?_; refine WL_val (rn_move (v := (.int .i64 s28.2)) rfl) rfl ?_; refine WL_val (rn_move (v := (.int .i64 x0)) rfl) rfl ?_; refine WL_val (rn_lss rfl rfl) rfl ?_; refine WL_nil ?_; refine WC_cond rfl (fun hb34 => ?_) (fun hb34 => ?_)
          ·have H := ifT hb34 H; refine WC_skip ?_; refine WC_seq ?_; refine WC_block ?_; refine WC_region ?_; refine WL_val (rn_move (v := (.slice as28_0 ns28_0 cs28_0)) rfl) rfl ?_; refine WL_val (rn_move (v := (.slice as4_0 ns4_0 cs4_0)) rfl) rfl ?_; refine WL_val (rn_move (v := (.int .i64 s12.2)) rfl) rfl ?_; obtain ⟨y35, hy35, H⟩ := bnd H
           have l2_4 := leG17.trans leG33
           refine WL_idx sl86 (hs4_0.mono (RSlice_mono RInt_mono) l2_4) hy35 rfl rfl rfl ?_
           rintro b36 o36 _ hcb36 _ ⟨a37, n37, c37, ⟨⟩, h37⟩
           refine WL_val (rn_load na29 rfl (hS.sat.cell (hcb36 0 _ rfl))) rfl ?_; have hO := hO.cons_nil 3 1; obtain ⟨y39, hy39, H⟩ := bnd H; refine WL_op rfl (OpP_append (k := 0) sl29 RInt_one hS hO rfl rfl (Rd.nil RInt 1 G33) h37 hy39 rfl rfl rfl rfl rfl (fun aw40 cw40 w40 clw40 hS hO hrw40 => ?_))
           have hO : Owns G33 w40 w0.heap.size ([⟨3, 1, y39.length, .slice aw40 y39.length cw40, clw40⟩, ⟨29, 1, ns28_0, .slice as28_0 ns28_0 cs28_0, clas28_0⟩]) := hO
           refine WL_val (rn_move (v := (.int .i64 s28.2)) rfl) rfl ?_
           refine WL_op rfl (OpP_newF (v := fun b => .slice (some ⟨b, 0, none⟩) 1 1) (cs := [.int .i64 s28.2]) (e := 3) (by kernel_rfl) hS.sat rfl (fun b41 G43 w42 hg hcb41 => ?_))
           have hS := hS.grow hg; have hO := hO.grow hg
           have leG43 := hg.le
           have hfb41 : RSl RInt 1 G43 (some ⟨b41, 0, none⟩) 1 1 [s28.2] := RSl.of_rd hcb41 (Rd.cons (c := [.int .i64 s28.2]) rfl rfl (Rd.nil RInt 1 _)) rfl (by decide)
           obtain ⟨y44, hy44, H⟩ := bnd H; refine WL_op rfl (OpP_append (k := 0) sl29 RInt_one hS hO rfl rfl (hrw40.mono RInt_mono leG43) hfb41 hy44 rfl rfl rfl rfl rfl (fun aw45 cw45 w45 clw45 hS hO hrw45 => ?_))
           have hO : Owns G43 w45 w0.heap.size ([⟨3, 1, y44.length, .slice aw45 y44.length cw45, clw45⟩, ⟨29, 1, ns28_0, .slice as28_0 ns28_0 cs28_0, clas28_0⟩]) := hO
           obtain ⟨G46, leG46, hS, hO, hfG46⟩ := hO.freezeS hS RInt_mono (k := 0) rfl hrw45 rfl
           refine WL_op rfl (OpP_newF (v := fun b => .slice (some ⟨b, 0, none⟩) 1 1) (cs := [.slice aw45 y44.length cw45]) (e := 29) (by kernel_rfl) hS.sat rfl (fun b47 G49 w48 hg hcb47 => ?_))
           have hS := hS.grow hg; have hO := hO.grow hg
           have leG49 := hg.le
           have hfb47 : RSl (RSlice RInt 1) 1 G49 (some ⟨b47, 0, none⟩) 1 1 [y44] := RSl.of_rd hcb47 (Rd.cons (c := [.slice aw45 y44.length cw45]) rfl ⟨_, _, _, rfl, (hfG46.mono RInt_mono leG49)⟩ (Rd.nil (RSlice RInt 1) 1 _)) rfl (by decide)
           obtain ⟨y50, hy50, H⟩ := bnd H
           have l4_7 := (leG43.trans leG46).trans leG49
           refine WL_op rfl (OpP_append (k := 0) sl86 (RSlice_one RInt 1) hS hO rfl hnhs28_0 (hs28_0.mono (RSlice_mono RInt_mono) l4_7) hfb47 hy50 rfl rfl rfl rfl rfl (fun aw51 cw51 w51 clw51 hS hO hrw51 => ?_))
           have hO : Owns G49 w51 w0.heap.size ([⟨29, 1, y50.length, .slice aw51 y50.length cw51, clw51⟩]) := hO
           refine WL_val (rn_assign (v := (.slice aw51 y50.length cw51)) rfl) rfl ?_; refine WL_nil ?_; refine WC_region ?_; refine WL_val (rn_move (v := (.int .i64 s28.2)) rfl) rfl ?_; refine WL_val (rn_add rfl rfl) rfl ?_; refine WL_val (rn_assign (v := (.int .i64 (IntKind.i64.wrap (s28.2 + 1)))) rfl) rfl ?_; refine WL_nil ?_
           have hO : Owns G49 w51 w0.heap.size ([⟨29, 1, y50.length, .slice aw51 y50.length cw51, clw51⟩]) := hO
           have H := Option.some.inj H; subst H; refine ⟨_, rfl, ?_⟩
           have l3_7 := leG33.trans l4_7
           exact ⟨_, G49, aw51, y50.length, cw51, clw51, upds_self _ _ ⟨rfl, rfl, rfl, rfl, rfl, rfl, rfl, trivial⟩, l3_7, hS, hO, rfl, hrw51⟩
          ·have H := ifF hb34 H; refine WC_exit rfl ?_
           have hO : Owns G33 w32 w0.heap.size ([⟨29, 1, ns28_0, .slice as28_0 ns28_0 cs28_0, clas28_0⟩]) := hO
           have H := Option.some.inj H; subst H
           have hres := hqq30 _ rfl
           subst hres
           exact ⟨_, G33, as28_0, ns28_0, cs28_0, clas28_0, upds_self _ _ ⟨rfl, rfl, rfl, rfl, rfl, rfl, trivial⟩, leG33, hS, hO, hnhs28_0, hs28_0⟩
        ·rintro F w52 ⟨Fb, G53, aq30_0, nq30_0, cq30_0, claq30_0, rfl, leG53, hS, hO, hnhq30_0, hq30_0⟩
         refine WC_region ?_; refine WL_val (rn_move (v := (.int .i64 s12.2)) rfl) rfl ?_; refine WL_val (rn_add rfl rfl) rfl ?_; refine WL_val (rn_assign (v := (.int .i64 (IntKind.i64.wrap (s12.2 + 1)))) rfl) rfl ?_; refine WL_nil ?_
         have hO : Owns G53 w52 w0.heap.size ([⟨29, 1, nq30_0, .slice aq30_0 nq30_0 cq30_0, claq30_0⟩]) := hO
         have H := Option.some.inj H; subst H; refine ⟨_, rfl, ?_⟩
         have l2_4 := leG17.trans leG53
         exact ⟨_, G53, aq30_0, nq30_0, cq30_0, claq30_0, upds_self _ _ ⟨rfl, rfl, rfl, rfl, rfl, rfl, trivial⟩, l2_4, hS, hO, hnhq30_0, hq30_0⟩
      ·have H := ifF hb18 H; refine WC_exit rfl ?_
       have hO : Owns G17 w16 w0.heap.size ([⟨29, 1, ns12_0, .slice as12_0 ns12_0 cs12_0, clas12_0⟩]) := hO
       have H := Option.some.inj H; subst H
       have hres := hqq14 _ rfl
       subst hres
       exact ⟨_, G17, as12_0, ns12_0, cs12_0, clas12_0, upds_self _ _ ⟨rfl, rfl, rfl, rfl, trivial⟩, leG17, hS, hO, hnhs12_0, hs12_0⟩
    ·rintro F w54 ⟨Fb, G55, aq14_0, nq14_0, cq14_0, claq14_0, rfl, leG55, hS, hO, hnhq14_0, hq14_0⟩
     refine WC_region ?_; refine WL_val (rn_move (v := (.slice aq14_0 nq14_0 cq14_0)) rfl) rfl ?_; refine WL_val (rn_assign (v := (.slice aq14_0 nq14_0 cq14_0)) rfl) rfl ?_; refine WL_nil ?_; refine WC_region ?_; refine WL_val (rn_move (v := (.int .i64 s4.2)) rfl) rfl ?_; refine WL_val (rn_add rfl rfl) rfl ?_; refine WL_val (rn_assign (v := (.int .i64 (IntKind.i64.wrap (s4.2 + 1)))) rfl) rfl ?_; refine WL_nil ?_; obtain ⟨G56, leG56, hS, hO, hfG56⟩ := hO.freezeS hS (RSlice_mono RInt_mono) (k := 0) rfl hq14_0 hnhq14_0
     have hO : Owns G56 w54 w0.heap.size ([]) := hO
     have H := Option.some.inj H; subst H; refine ⟨_, rfl, ?_⟩
     have l1_4 := (leG9.trans leG55).trans leG56
     exact ⟨_, G56, aq14_0, nq14_0, cq14_0, upds_self _ _ ⟨rfl, rfl, rfl, rfl, trivial⟩, l1_4, hS, hO, hfG56⟩
   ·have H := ifF hb10 H; refine WC_exit rfl ?_
    have hO : Owns G9 w8 w0.heap.size ([]) := hO
    have H := Option.some.inj H; subst H
    have hres := hqq6 _ rfl
    subst hres
    exact ⟨_, G9, as4_0, ns4_0, cs4_0, upds_self _ _ ⟨rfl, trivial⟩, leG9, hS, hO, hs4_0⟩
 ·rintro F w57 ⟨Fb, G58, aq6_0, nq6_0, cq6_0, rfl, leG58, hS, hO, hq6_0⟩
  refine WC_seq ?_; refine WC_region ?_; refine WL_val (rn_move (v := (.slice aq6_0 nq6_0 cq6_0)) rfl) rfl ?_; refine WL_val (rn_assign (v := (.slice aq6_0 nq6_0 cq6_0)) rfl) rfl ?_; refine WL_nil ?_; refine WC_ret ?_
  have H : some q6 = some r := H
  have H := Option.some.inj H; subst H
  exact ⟨_, _, rfl, hS.toGrow, _, _, _, rfl, hq6_0⟩
set_option maxHeartbeats 1000000 in
theorem f21_ok {G0 : Gm} {w0 : World} (hS0 : Sat G0 w0) {x0 : TLandBook} {a1 : Option Addr} {n1 c1 : Nat} {a2 : Option Addr} {n2 c2 : Nat} {a3 : Option Addr} {n3 c3 : Nat} (h1 : RSl RTLandPerson 2 G0 a1 n1 c1 x0.People) (h2 : RSl RTLandEvent 2 G0 a2 n2 c2 x0.Events) (h3 : RSl RTLandMemory 4 G0 a3 n3 c3 x0.Memories) {r : (List Int)} (H : f21 x0 = some r) :
  Calls Tryd.prog 21 #[.agg #[.slice a1 n1 c1, .slice a2 n2 c2, .slice a3 n3 c3]] w0 (RetG G0 w0 (fun G v => ∃ (ra0 : Option Addr) (rn0 rc0 : Nat), v = .slice ra0 rn0 rc0 ∧ RSl RInt 1 G ra0 rn0 rc0 r)) := by
 have hS := Since.start hS0
 have hO : Owns G0 w0 w0.heap.size [] := Owns.nil (Nat.le_refl _)
 unfold f21 at H
 refine enter1 (N := 36) (shutG _ _ _) Tryd.func21 rfl rfl rfl rfl ?_; refine WC_seq ?_; refine WC_region ?_; refine WL_op rfl (OpP_newF (v := fun b => .pointer (some ⟨b, 0, none⟩)) (cs := [.slice a1 n1 c1, .slice a2 n2 c2, .slice a3 n3 c3]) (e := 26) (rn_boxA rfl) hS.sat rfl (fun b4 G6 w5 hg hcb4 => ?_)); have hS := hS.grow hg; have hO := hO.grow hg
 have leG6 := hg.le
 refine WL_val (rn_assign (v := (.slice none 0 0)) rfl) rfl ?_; refine WL_nil ?_; refine WC_seq ?_; refine WC_seq ?_; refine WC_region ?_; refine WL_val (rn_assign (v := (.int .i64 0)) rfl) rfl ?_; refine WL_nil ?_; obtain ⟨q9, hq9, H⟩ := bnd H; refine WC_cut (fun F w => ∃ (p8 : Unit) (Fb : Fr) (G : Gm), q9 = .inl p8 ∧ F = upds Fb [] ∧ Gle G6 G ∧ Since w0.heap.size G0 w0 G w ∧ Owns G w w0.heap.size []) ?_ ?_
 ·refine WC_block (WC_loop hq9 (fun s7 F w => ∃ (Fb : Fr) (G : Gm), F = upds Fb [(1, .pointer (some ⟨b4, 0, none⟩)), (3, .int .i64 s7)] ∧ Gle G6 G ∧ Since w0.heap.size G0 w0 G w ∧ Owns G w w0.heap.size []) ?_ ?_)
  ·have hO : Owns G6 w5 w0.heap.size ([]) := hO
   exact ⟨_, G6, upds_self _ _ ⟨rfl, rfl, trivial⟩, Gle.refl _, hS, hO⟩
  ·rintro s7 F w11 t10 ⟨Fb, G12, rfl, leG12, hS, hO⟩
   intro H1 hqq9
   have Hoq9 := H; have H := H1
   unfold f21_b0 at H
   refine WC_seq ?_; refine WC_seq ?_; refine WC_region ?_; refine WL_val (rn_move (v := (.int .i64 s7)) rfl) rfl ?_; refine WL_val (rn_fld fd26_2 rfl) rfl ?_; refine WL_val (rn_load na24 rfl ((hS.sat.le leG12).cell (hcb4 2 _ rfl))) rfl ?_
   have l0_2 := leG6.trans leG12
   refine WL_val (rn_len sl24 rfl rfl (h3.mono RTLandMemory_mono l0_2).1) rfl ?_; refine WL_val (rn_leq rfl rfl) rfl ?_; refine WL_nil ?_; refine WC_cond rfl (fun hb13 => ?_) (fun hb13 => ?_)
   ·have H := ifT hb13 H; refine WC_skip ?_; refine WC_seq ?_; refine WC_block ?_; refine WC_seq ?_; refine WC_region ?_; refine WL_val (rn_fld fd26_2 rfl) rfl ?_; refine WL_val (rn_load na24 rfl ((hS.sat.le leG12).cell (hcb4 2 _ rfl))) rfl ?_; refine WL_val (rn_len sl24 rfl rfl (h3.mono RTLandMemory_mono l0_2).1) rfl ?_; refine WL_val (rn_move (v := (.int .i64 s7)) rfl) rfl ?_; obtain ⟨y14, hy14, H⟩ := bnd H; refine WL_op rfl (OpP_callG cb62 (f62_ok (x0 := (x0.Memories.length : Int)) (x1 := s7) hS.sat  hy14) rfl rfl (fun vy14 G16 w15 hg hvy14 => ?_)); obtain ⟨a17, n17, c17, ⟨⟩, h17⟩ := hvy14; have hS := hS.grow hg; have hO := hO.grow hg
    have leG16 := hg.le
    refine WL_val (rn_assign (v := (.slice a17 n17 c17)) rfl) rfl ?_; refine WL_nil ?_; refine WC_seq ?_; refine WC_region ?_; refine WL_val (rn_assign (v := (.int .i64 0)) rfl) rfl ?_; refine WL_nil ?_; obtain ⟨q20, hq20, H⟩ := bnd H; refine WC_cut (fun F w => ∃ (p19 : Unit) (Fb : Fr) (G : Gm), q20 = .inl p19 ∧ F = upds Fb [(1, .pointer (some ⟨b4, 0, none⟩)), (3, .int .i64 s7)] ∧ Gle G16 G ∧ Since w0.heap.size G0 w0 G w ∧ Owns G w w0.heap.size []) ?_ ?_
    ·refine WC_block (WC_loop hq20 (fun s18 F w => ∃ (Fb : Fr) (G : Gm), F = upds Fb [(1, .pointer (some ⟨b4, 0, none⟩)), (3, .int .i64 s7), (4, .slice a17 n17 c17), (5, .int .i64 s18)] ∧ Gle G16 G ∧ Since w0.heap.size G0 w0 G w ∧ Owns G w w0.heap.size []) ?_ ?_)
     ·have hO : Owns G16 w15 w0.heap.size ([]) := hO
      exact ⟨_, G16, upds_self _ _ ⟨rfl, rfl, rfl, rfl, trivial⟩, Gle.refl _, hS, hO⟩
     ·rintro s18 F w22 t21 ⟨Fb, G23, rfl, leG23, hS, hO⟩
      intro H1 hqq20
      have Hoq20 := H; have H := H1
      unfold f21_b1 at H
      refine WC_seq ?_; refine WC_seq ?_; refine WC_region ?_; refine WL_val (rn_move (v := (.int .i64 s18)) rfl) rfl ?_; refine WL_val (rn_move (v := (.slice a17 n17 c17)) rfl) rfl ?_; refine WL_val (rn_len sl86 rfl rfl (h17.mono (RSlice_mono RInt_mono) leG23).1) rfl ?_; refine WL_val (rn_lss rfl rfl) rfl ?_; refine WL_nil ?_; refine WC_cond rfl (fun hb24 => ?_) (fun hb24 => ?_)
      ·have H := ifT hb24 H; refine WC_skip ?_; refine WC_seq ?_; refine WC_block ?_; refine WC_seq ?_; have hS := hS.keep (below_drew _); have hO := hO.below (below_drew _)
       refine WC_regionD mixedO (fun _ w => Sat G23 w ∧ True) (.fl 0 (.fl 1 (.on 2 (.on 3 (.on 4 (.on 5 (.on 6 (.on 7 .nil)))))))) (by kernel_rfl) rfl (by kernel_rfl) (fun _ => ⟨hS.sat, trivial⟩) ?_
       refine WD_val rfl (fun w hw => rn_loadA ag26 (cs := [.slice a1 n1 c1, .slice a2 n2 c2, .slice a3 n3 c3]) rfl rfl (fun j v hj => (hw.1.le ((leG12.trans leG16).trans leG23)).cell (hcb4.drop_take 0 3 j v hj))) rfl ?_; refine WD_val rfl (fun w hw => rn_move (v := (.slice a17 n17 c17)) rfl) rfl ?_; refine WD_op rfl rfl (OpP_val (rn_move (v := (.int .i64 s18)) rfl) rfl ?_); refine ⟨fun _ _ => ⟨hS.sat, trivial⟩, ?_⟩; obtain ⟨y25, hy25, H⟩ := bnd H; refine WD_op rfl rfl (OpP_idx sl86 (h17.mono (RSlice_mono RInt_mono) leG23) hy25 rfl rfl rfl ?_)
       rintro b26 o26 _ hcb26 _ ⟨a27, n27, c27, ⟨⟩, h27⟩
       refine ⟨fun _ _ => ⟨hS.sat, trivial⟩, ?_⟩; refine WD_op rfl rfl (OpP_val (rn_load na29 rfl (hS.sat.cell (hcb26 0 _ rfl))) rfl ?_); refine ⟨fun _ _ => ⟨hS.sat, trivial⟩, ?_⟩; obtain ⟨y28, hy28, H⟩ := bnd H
       have l0_4 := (l0_2.trans leG16).trans leG23
       refine WD_op rfl rfl (OpP_callG cb25 (f25_ok (x0 := x0) (x1 := y25) (x2 := false) hS.sat (h1.mono RTLandPerson_mono l0_4) (h2.mono RTLandEvent_mono l0_4) (h3.mono RTLandMemory_mono l0_4) h27 hy28) rfl rfl (fun vy28 G30 w29 hg hvy28 => ?_)); obtain ⟨a31, n31, c31, a32, n32, c32, a33, n33, c33, ⟨⟩, h31, h32, h33⟩ := hvy28; have hS := hS.grow hg; have hO := hO.grow hg
       have leG30 := hg.le
       refine ⟨fun _ h => noneed (by kernel_rfl) h, ?_⟩
       obtain ⟨y34, hy34, H⟩ := bnd H; refine WD_op rfl rfl (OpP_callV cb19 (f19_ok (x0 := y28) hS.sat h31 h32 h33 hy34) rfl rfl (fun w35 hb => ?_)); have hS := hS.keep hb; have hO := hO.below hb
       refine ⟨fun _ h => noneed (by kernel_rfl) h, ?_⟩
       refine WD_op rfl rfl (OpP_val (rn_not rfl) rfl ?_)
       refine ⟨fun _ h => noneed (by kernel_rfl) h, ?_⟩
       refine WD_nil ?_; refine WC_cond rfl (fun hb36 => ?_) (fun hb36 => ?_)
       ·have H := ifT hb36 H; refine WC_seq ?_; refine WC_region ?_; refine WL_val (rn_move (v := (.slice a17 n17 c17)) rfl) rfl ?_; refine WL_val (rn_move (v := (.int .i64 s18)) rfl) rfl ?_
        have l3_5 := leG23.trans leG30
        refine WL_idx sl86 (h17.mono (RSlice_mono RInt_mono) l3_5) hy25 rfl rfl rfl ?_
        rintro b37 o37 _ hcb37 _ ⟨a38, n38, c38, ⟨⟩, h38⟩
        refine WL_val (rn_load na29 rfl (hS.sat.cell (hcb37 0 _ rfl))) rfl ?_; refine WL_val (rn_assign (v := (.slice a38 n38 c38)) rfl) rfl ?_; refine WL_nil ?_; refine WC_ret ?_; have H := Option.some.inj H; subst H
        have hres := hqq20 _ rfl
        subst hres; have H := Hoq20; have H := Option.some.inj H; subst H
        have hres := hqq9 _ rfl
        subst hres; have H := Hoq9
        have H : some y25 = some r := H
        have H := Option.some.inj H; subst H
        exact ⟨_, _, rfl, hS.toGrow, _, _, _, rfl, h38⟩
       ·have H := ifF hb36 H; refine WC_skip ?_; refine WC_region ?_; refine WL_val (rn_move (v := (.int .i64 s18)) rfl) rfl ?_; refine WL_val (rn_add rfl rfl) rfl ?_; refine WL_val (rn_assign (v := (.int .i64 (IntKind.i64.wrap (s18 + 1)))) rfl) rfl ?_; refine WL_nil ?_
        have hO : Owns G30 w35 w0.heap.size ([]) := hO
        have H := Option.some.inj H; subst H; refine ⟨_, rfl, ?_⟩
        have l3_5 := leG23.trans leG30
        exact ⟨_, G30, upds_self _ _ ⟨rfl, rfl, rfl, rfl, trivial⟩, l3_5, hS, hO⟩
      ·have H := ifF hb24 H; refine WC_exit rfl ?_
       have hO : Owns G23 w22 w0.heap.size ([]) := hO
       have H := Option.some.inj H; subst H
       have hres := hqq20 _ rfl
       subst hres
       exact ⟨_, _, G23, rfl, upds_self _ _ ⟨rfl, rfl, trivial⟩, leG23, hS, hO⟩
    ·rintro F w39 ⟨p19, Fb, G40, rfl, rfl, leG40, hS, hO⟩
     refine WC_region ?_; refine WL_val (rn_move (v := (.int .i64 s7)) rfl) rfl ?_; refine WL_val (rn_add rfl rfl) rfl ?_; refine WL_val (rn_assign (v := (.int .i64 (IntKind.i64.wrap (s7 + 1)))) rfl) rfl ?_; refine WL_nil ?_
     have hO : Owns G40 w39 w0.heap.size ([]) := hO
     have H := Option.some.inj H; subst H; refine ⟨_, rfl, ?_⟩
     have l1_4 := (leG12.trans leG16).trans leG40
     exact ⟨_, G40, upds_self _ _ ⟨rfl, rfl, trivial⟩, l1_4, hS, hO⟩
   ·have H := ifF hb13 H; refine WC_exit rfl ?_
    have hO : Owns G12 w11 w0.heap.size ([]) := hO
    have H := Option.some.inj H; subst H
    have hres := hqq9 _ rfl
    subst hres
    exact ⟨_, _, G12, rfl, rfl, leG12, hS, hO⟩
 ·rintro F w42 ⟨p8, Fb, G43, rfl, rfl, leG43, hS, hO⟩
  refine WC_seq ?_; refine WC_region ?_; refine WL_val (rn_assign (v := (.slice none 0 0)) rfl) rfl ?_; refine WL_nil ?_; refine WC_ret ?_
  have H : some [] = some r := H
  have H := Option.some.inj H; subst H
  exact ⟨_, _, rfl, hS.toGrow, _, _, _, rfl, (RSl.nil RInt 1 G43 none)⟩
set_option maxHeartbeats 1000000 in
theorem f22_ok {G0 : Gm} {w0 : World} (hS0 : Sat G0 w0) {x0 : TLandBook} {a1 : Option Addr} {n1 c1 : Nat} {a2 : Option Addr} {n2 c2 : Nat} {a3 : Option Addr} {n3 c3 : Nat} (h1 : RSl RTLandPerson 2 G0 a1 n1 c1 x0.People) (h2 : RSl RTLandEvent 2 G0 a2 n2 c2 x0.Events) (h3 : RSl RTLandMemory 4 G0 a3 n3 c3 x0.Memories) {r : (List Int)} (H : f22 x0 = some r) :
  Calls Tryd.prog 22 #[.agg #[.slice a1 n1 c1, .slice a2 n2 c2, .slice a3 n3 c3]] w0 (RetG G0 w0 (fun G v => ∃ (ra0 : Option Addr) (rn0 rc0 : Nat), v = .slice ra0 rn0 rc0 ∧ RSl RInt 1 G ra0 rn0 rc0 r)) := by
 have hS := Since.start hS0
 have hO : Owns G0 w0 w0.heap.size [] := Owns.nil (Nat.le_refl _)
 unfold f22 at H
 refine enter1 (N := 35) (shutG _ _ _) Tryd.func22 rfl rfl rfl rfl ?_; refine WC_seq ?_; refine WC_region ?_; refine WL_op rfl (OpP_newF (v := fun b => .pointer (some ⟨b, 0, none⟩)) (cs := [.slice a1 n1 c1, .slice a2 n2 c2, .slice a3 n3 c3]) (e := 26) (rn_boxA rfl) hS.sat rfl (fun b4 G6 w5 hg hcb4 => ?_)); have hS := hS.grow hg; have hO := hO.grow hg
 have leG6 := hg.le
 refine WL_val (rn_assign (v := (.slice none 0 0)) rfl) rfl ?_; refine WL_nil ?_; refine WC_seq ?_; refine WC_seq ?_; refine WC_region ?_; refine WL_val (rn_assign (v := (.int .i64 0)) rfl) rfl ?_; refine WL_nil ?_; obtain ⟨q9, hq9, H⟩ := bnd H; refine WC_cut (fun F w => ∃ (p8 : Unit) (Fb : Fr) (G : Gm), q9 = .inl p8 ∧ F = upds Fb [] ∧ Gle G6 G ∧ Since w0.heap.size G0 w0 G w ∧ Owns G w w0.heap.size []) ?_ ?_
 ·refine WC_block (WC_loop hq9 (fun s7 F w => ∃ (Fb : Fr) (G : Gm), F = upds Fb [(1, .pointer (some ⟨b4, 0, none⟩)), (3, .int .i64 s7)] ∧ Gle G6 G ∧ Since w0.heap.size G0 w0 G w ∧ Owns G w w0.heap.size []) ?_ ?_)
  ·have hO : Owns G6 w5 w0.heap.size ([]) := hO
   exact ⟨_, G6, upds_self _ _ ⟨rfl, rfl, trivial⟩, Gle.refl _, hS, hO⟩
  ·rintro s7 F w11 t10 ⟨Fb, G12, rfl, leG12, hS, hO⟩
   intro H1 hqq9
   have Hoq9 := H; have H := H1
   unfold f22_b0 at H
   refine WC_seq ?_; refine WC_seq ?_; refine WC_region ?_; refine WL_val (rn_move (v := (.int .i64 s7)) rfl) rfl ?_; refine WL_val (rn_fld fd26_2 rfl) rfl ?_; refine WL_val (rn_load na24 rfl ((hS.sat.le leG12).cell (hcb4 2 _ rfl))) rfl ?_
   have l0_2 := leG6.trans leG12
   refine WL_val (rn_len sl24 rfl rfl (h3.mono RTLandMemory_mono l0_2).1) rfl ?_; refine WL_val (rn_leq rfl rfl) rfl ?_; refine WL_nil ?_; refine WC_cond rfl (fun hb13 => ?_) (fun hb13 => ?_)
   ·have H := ifT hb13 H; refine WC_skip ?_; refine WC_seq ?_; refine WC_block ?_; refine WC_seq ?_; refine WC_region ?_; refine WL_val (rn_fld fd26_2 rfl) rfl ?_; refine WL_val (rn_load na24 rfl ((hS.sat.le leG12).cell (hcb4 2 _ rfl))) rfl ?_; refine WL_val (rn_len sl24 rfl rfl (h3.mono RTLandMemory_mono l0_2).1) rfl ?_; refine WL_val (rn_move (v := (.int .i64 s7)) rfl) rfl ?_; obtain ⟨y14, hy14, H⟩ := bnd H; refine WL_op rfl (OpP_callG cb62 (f62_ok (x0 := (x0.Memories.length : Int)) (x1 := s7) hS.sat  hy14) rfl rfl (fun vy14 G16 w15 hg hvy14 => ?_)); obtain ⟨a17, n17, c17, ⟨⟩, h17⟩ := hvy14; have hS := hS.grow hg; have hO := hO.grow hg
    have leG16 := hg.le
    refine WL_val (rn_assign (v := (.slice a17 n17 c17)) rfl) rfl ?_; refine WL_nil ?_; refine WC_seq ?_; refine WC_region ?_; refine WL_val (rn_assign (v := (.int .i64 0)) rfl) rfl ?_; refine WL_nil ?_; obtain ⟨q20, hq20, H⟩ := bnd H; refine WC_cut (fun F w => ∃ (p19 : Unit) (Fb : Fr) (G : Gm), q20 = .inl p19 ∧ F = upds Fb [(1, .pointer (some ⟨b4, 0, none⟩)), (3, .int .i64 s7)] ∧ Gle G16 G ∧ Since w0.heap.size G0 w0 G w ∧ Owns G w w0.heap.size []) ?_ ?_
    ·refine WC_block (WC_loop hq20 (fun s18 F w => ∃ (Fb : Fr) (G : Gm), F = upds Fb [(1, .pointer (some ⟨b4, 0, none⟩)), (3, .int .i64 s7), (4, .slice a17 n17 c17), (5, .int .i64 s18)] ∧ Gle G16 G ∧ Since w0.heap.size G0 w0 G w ∧ Owns G w w0.heap.size []) ?_ ?_)
     ·have hO : Owns G16 w15 w0.heap.size ([]) := hO
      exact ⟨_, G16, upds_self _ _ ⟨rfl, rfl, rfl, rfl, trivial⟩, Gle.refl _, hS, hO⟩
     ·rintro s18 F w22 t21 ⟨Fb, G23, rfl, leG23, hS, hO⟩
      intro H1 hqq20
      have Hoq20 := H; have H := H1
      unfold f22_b1 at H
      refine WC_seq ?_; refine WC_seq ?_; refine WC_region ?_; refine WL_val (rn_move (v := (.int .i64 s18)) rfl) rfl ?_; refine WL_val (rn_move (v := (.slice a17 n17 c17)) rfl) rfl ?_; refine WL_val (rn_len sl86 rfl rfl (h17.mono (RSlice_mono RInt_mono) leG23).1) rfl ?_; refine WL_val (rn_lss rfl rfl) rfl ?_; refine WL_nil ?_; refine WC_cond rfl (fun hb24 => ?_) (fun hb24 => ?_)
      ·have H := ifT hb24 H; refine WC_skip ?_; refine WC_seq ?_; refine WC_block ?_; refine WC_seq ?_; have hS := hS.keep (below_drew _); have hO := hO.below (below_drew _)
       refine WC_regionD mixedO (fun _ w => Sat G23 w ∧ True) (.fl 0 (.fl 1 (.on 2 (.on 3 (.on 4 (.on 5 (.on 6 .nil))))))) (by kernel_rfl) rfl (by kernel_rfl) (fun _ => ⟨hS.sat, trivial⟩) ?_
       refine WD_val rfl (fun w hw => rn_loadA ag26 (cs := [.slice a1 n1 c1, .slice a2 n2 c2, .slice a3 n3 c3]) rfl rfl (fun j v hj => (hw.1.le ((leG12.trans leG16).trans leG23)).cell (hcb4.drop_take 0 3 j v hj))) rfl ?_; refine WD_val rfl (fun w hw => rn_move (v := (.slice a17 n17 c17)) rfl) rfl ?_; refine WD_op rfl rfl (OpP_val (rn_move (v := (.int .i64 s18)) rfl) rfl ?_); refine ⟨fun _ _ => ⟨hS.sat, trivial⟩, ?_⟩; obtain ⟨y25, hy25, H⟩ := bnd H; refine WD_op rfl rfl (OpP_idx sl86 (h17.mono (RSlice_mono RInt_mono) leG23) hy25 rfl rfl rfl ?_)
       rintro b26 o26 _ hcb26 _ ⟨a27, n27, c27, ⟨⟩, h27⟩
       refine ⟨fun _ _ => ⟨hS.sat, trivial⟩, ?_⟩; refine WD_op rfl rfl (OpP_val (rn_load na29 rfl (hS.sat.cell (hcb26 0 _ rfl))) rfl ?_); refine ⟨fun _ _ => ⟨hS.sat, trivial⟩, ?_⟩; obtain ⟨y28, hy28, H⟩ := bnd H
       have l0_4 := (l0_2.trans leG16).trans leG23
       refine WD_op rfl rfl (OpP_callG cb25 (f25_ok (x0 := x0) (x1 := y25) (x2 := true) hS.sat (h1.mono RTLandPerson_mono l0_4) (h2.mono RTLandEvent_mono l0_4) (h3.mono RTLandMemory_mono l0_4) h27 hy28) rfl rfl (fun vy28 G30 w29 hg hvy28 => ?_)); obtain ⟨a31, n31, c31, a32, n32, c32, a33, n33, c33, ⟨⟩, h31, h32, h33⟩ := hvy28; have hS := hS.grow hg; have hO := hO.grow hg
       have leG30 := hg.le
       refine ⟨fun _ h => noneed (by kernel_rfl) h, ?_⟩
       obtain ⟨y34, hy34, H⟩ := bnd H; refine WD_op rfl rfl (OpP_callV cb19 (f19_ok (x0 := y28) hS.sat h31 h32 h33 hy34) rfl rfl (fun w35 hb => ?_)); have hS := hS.keep hb; have hO := hO.below hb
       refine ⟨fun _ h => noneed (by kernel_rfl) h, ?_⟩
       refine WD_nil ?_; refine WC_cond rfl (fun hb36 => ?_) (fun hb36 => ?_)
       ·have H := ifT hb36 H; refine WC_seq ?_; refine WC_region ?_; refine WL_val (rn_move (v := (.slice a17 n17 c17)) rfl) rfl ?_; refine WL_val (rn_move (v := (.int .i64 s18)) rfl) rfl ?_
        have l3_5 := leG23.trans leG30
        refine WL_idx sl86 (h17.mono (RSlice_mono RInt_mono) l3_5) hy25 rfl rfl rfl ?_
        rintro b37 o37 _ hcb37 _ ⟨a38, n38, c38, ⟨⟩, h38⟩
        refine WL_val (rn_load na29 rfl (hS.sat.cell (hcb37 0 _ rfl))) rfl ?_; refine WL_val (rn_assign (v := (.slice a38 n38 c38)) rfl) rfl ?_; refine WL_nil ?_; refine WC_ret ?_; have H := Option.some.inj H; subst H
        have hres := hqq20 _ rfl
        subst hres; have H := Hoq20; have H := Option.some.inj H; subst H
        have hres := hqq9 _ rfl
        subst hres; have H := Hoq9
        have H : some y25 = some r := H
        have H := Option.some.inj H; subst H
        exact ⟨_, _, rfl, hS.toGrow, _, _, _, rfl, h38⟩
       ·have H := ifF hb36 H; refine WC_skip ?_; refine WC_region ?_; refine WL_val (rn_move (v := (.int .i64 s18)) rfl) rfl ?_; refine WL_val (rn_add rfl rfl) rfl ?_; refine WL_val (rn_assign (v := (.int .i64 (IntKind.i64.wrap (s18 + 1)))) rfl) rfl ?_; refine WL_nil ?_
        have hO : Owns G30 w35 w0.heap.size ([]) := hO
        have H := Option.some.inj H; subst H; refine ⟨_, rfl, ?_⟩
        have l3_5 := leG23.trans leG30
        exact ⟨_, G30, upds_self _ _ ⟨rfl, rfl, rfl, rfl, trivial⟩, l3_5, hS, hO⟩
      ·have H := ifF hb24 H; refine WC_exit rfl ?_
       have hO : Owns G23 w22 w0.heap.size ([]) := hO
       have H := Option.some.inj H; subst H
       have hres := hqq20 _ rfl
       subst hres
       exact ⟨_, _, G23, rfl, upds_self _ _ ⟨rfl, rfl, trivial⟩, leG23, hS, hO⟩
    ·rintro F w39 ⟨p19, Fb, G40, rfl, rfl, leG40, hS, hO⟩
     refine WC_region ?_; refine WL_val (rn_move (v := (.int .i64 s7)) rfl) rfl ?_; refine WL_val (rn_add rfl rfl) rfl ?_; refine WL_val (rn_assign (v := (.int .i64 (IntKind.i64.wrap (s7 + 1)))) rfl) rfl ?_; refine WL_nil ?_
     have hO : Owns G40 w39 w0.heap.size ([]) := hO
     have H := Option.some.inj H; subst H; refine ⟨_, rfl, ?_⟩
     have l1_4 := (leG12.trans leG16).trans leG40
     exact ⟨_, G40, upds_self _ _ ⟨rfl, rfl, trivial⟩, l1_4, hS, hO⟩
   ·have H := ifF hb13 H; refine WC_exit rfl ?_
    have hO : Owns G12 w11 w0.heap.size ([]) := hO
    have H := Option.some.inj H; subst H
    have hres := hqq9 _ rfl
    subst hres
    exact ⟨_, _, G12, rfl, rfl, leG12, hS, hO⟩
 ·rintro F w42 ⟨p8, Fb, G43, rfl, rfl, leG43, hS, hO⟩
  refine WC_seq ?_; refine WC_region ?_; refine WL_val (rn_assign (v := (.slice none 0 0)) rfl) rfl ?_; refine WL_nil ?_; refine WC_ret ?_
  have H : some [] = some r := H
  have H := Option.some.inj H; subst H
  exact ⟨_, _, rfl, hS.toGrow, _, _, _, rfl, (RSl.nil RInt 1 G43 none)⟩
set_option maxHeartbeats 1000000 in
theorem f3_ok {G0 : Gm} {w0 : World} (hS0 : Sat G0 w0) {x0 : TLandBook} {a1 : Option Addr} {n1 c1 : Nat} {a2 : Option Addr} {n2 c2 : Nat} {a3 : Option Addr} {n3 c3 : Nat} (hT : TabG Tryd.prog G0) (h1 : RSl RTLandPerson 2 G0 a1 n1 c1 x0.People) (h2 : RSl RTLandEvent 2 G0 a2 n2 c2 x0.Events) (h3 : RSl RTLandMemory 4 G0 a3 n3 c3 x0.Memories) {r : Bool} (H : f3 x0 = some r) :
  Calls Tryd.prog 3 #[.agg #[.slice a1 n1 c1, .slice a2 n2 c2, .slice a3 n3 c3]] w0 (RetV w0 (.bool r)) := by
 have hS := Since.start hS0
 have hO : Owns G0 w0 w0.heap.size [] := Owns.nil (Nat.le_refl _)
 unfold f3 at H
 refine enter1 (N := 81) (shutV _ _) Tryd.func3 rfl rfl rfl rfl ?_; refine WC_seq ?_; refine WC_region ?_; refine WL_op rfl (OpP_newF (v := fun b => .pointer (some ⟨b, 0, none⟩)) (cs := [.slice a1 n1 c1, .slice a2 n2 c2, .slice a3 n3 c3]) (e := 26) (rn_boxA rfl) hS.sat rfl (fun b4 G6 w5 hg hcb4 => ?_)); have hS := hS.grow hg; have hO := hO.grow hg
 have leG6 := hg.le
 refine WL_val (rn_assign (v := (.bool false)) rfl) rfl ?_; refine WL_nil ?_; refine WC_seq ?_; refine WC_seq ?_; refine WC_region ?_; refine WL_val (rn_loadA ag26 (cs := [.slice a1 n1 c1, .slice a2 n2 c2, .slice a3 n3 c3]) rfl rfl (fun j v hj => hS.sat.cell (hcb4.drop_take 0 3 j v hj))) rfl ?_; obtain ⟨y7, hy7, H⟩ := bnd H; refine WL_op rfl (OpP_callV cb14 (f14_ok (x0 := x0) hS.sat (h1.mono RTLandPerson_mono leG6) (h2.mono RTLandEvent_mono leG6) (h3.mono RTLandMemory_mono leG6) hy7) rfl rfl (fun w8 hb => ?_)); have hS := hS.keep hb; have hO := hO.below hb; refine WL_val (rn_not rfl) rfl ?_; refine WL_nil ?_; refine WC_cond rfl (fun hb9 => ?_) (fun hb9 => ?_)
 ·have H := ifT hb9 H; refine WC_seq ?_; refine WC_region ?_; obtain ⟨y10, hy10, H⟩ := bnd H; refine WL_op rfl (OpP_callV cb15 (f15_ok  hS.sat (hT.mono leG6)  hy10) rfl rfl (fun w11 hb => ?_)); have hS := hS.keep hb; have hO := hO.below hb; refine WL_val (rn_assign (v := (.bool y10)) rfl) rfl ?_; refine WL_nil ?_; refine WC_ret ?_
  have H : some y10 = some r := H
  have H := Option.some.inj H; subst H
  exact ⟨rfl, hS.below⟩
 ·have H := ifF hb9 H; refine WC_skip ?_; refine WC_seq ?_; refine WC_region ?_; refine WL_val (rn_loadA ag26 (cs := [.slice a1 n1 c1, .slice a2 n2 c2, .slice a3 n3 c3]) rfl rfl (fun j v hj => hS.sat.cell (hcb4.drop_take 0 3 j v hj))) rfl ?_; obtain ⟨y12, hy12, H⟩ := bnd H; refine WL_op rfl (OpP_callG cb16 (f16_ok (x0 := x0) hS.sat (h1.mono RTLandPerson_mono leG6) (h2.mono RTLandEvent_mono leG6) (h3.mono RTLandMemory_mono leG6) hy12) rfl rfl (fun vy12 G14 w13 hg hvy12 => ?_)); obtain ⟨a15, n15, c15, ⟨⟩, h15⟩ := hvy12; have hS := hS.grow hg; have hO := hO.grow hg
  have leG14 := hg.le
  refine WL_val (rn_move (v := (.tuple #[.slice a15 n15 c15, .int .i64 y12.2])) rfl) rfl ?_; refine WL_val (rn_extract (v := (.slice a15 n15 c15)) rfl rfl) rfl ?_; refine WL_val (rn_extract (v := (.int .i64 y12.2)) rfl rfl) rfl ?_; refine WL_val (rn_assign (v := (.slice a15 n15 c15)) rfl) rfl ?_; refine WL_val (rn_assign (v := (.int .i64 y12.2)) rfl) rfl ?_; refine WL_nil ?_; refine WC_seq ?_; refine WC_region ?_; refine WL_val (rn_loadA ag26 (cs := [.slice a1 n1 c1, .slice a2 n2 c2, .slice a3 n3 c3]) rfl rfl (fun j v hj => (hS.sat.le leG14).cell (hcb4.drop_take 0 3 j v hj))) rfl ?_; obtain ⟨y16, hy16, H⟩ := bnd H
  have l0_2 := leG6.trans leG14
  refine WL_op rfl (OpP_callG cb17 (f17_ok (x0 := x0) hS.sat (h1.mono RTLandPerson_mono l0_2) (h2.mono RTLandEvent_mono l0_2) (h3.mono RTLandMemory_mono l0_2) hy16) rfl rfl (fun vy16 G18 w17 hg hvy16 => ?_)); obtain ⟨a19, n19, c19, ⟨⟩, h19⟩ := hvy16; have hS := hS.grow hg; have hO := hO.grow hg
  have leG18 := hg.le
  refine WL_val (rn_move (v := (.tuple #[.slice a19 n19 c19, .int .i64 y16.2])) rfl) rfl ?_; refine WL_val (rn_extract (v := (.slice a19 n19 c19)) rfl rfl) rfl ?_; refine WL_val (rn_extract (v := (.int .i64 y16.2)) rfl rfl) rfl ?_; refine WL_val (rn_assign (v := (.slice a19 n19 c19)) rfl) rfl ?_; refine WL_val (rn_assign (v := (.int .i64 y16.2)) rfl) rfl ?_; refine WL_nil ?_; refine WC_seq ?_; refine WC_seq ?_; refine WC_region ?_
  have l1_3 := leG14.trans leG18
  refine WL_val (rn_loadA ag26 (cs := [.slice a1 n1 c1, .slice a2 n2 c2, .slice a3 n3 c3]) rfl rfl (fun j v hj => (hS.sat.le l1_3).cell (hcb4.drop_take 0 3 j v hj))) rfl ?_; obtain ⟨y20, hy20, H⟩ := bnd H
  have l0_3 := l0_2.trans leG18
  refine WL_op rfl (OpP_callV cb18 (f18_ok (x0 := x0) hS.sat (h1.mono RTLandPerson_mono l0_3) (h2.mono RTLandEvent_mono l0_3) (h3.mono RTLandMemory_mono l0_3) hy20) rfl rfl (fun w21 hb => ?_)); have hS := hS.keep hb; have hO := hO.below hb; refine WL_val (rn_not rfl) rfl ?_; refine WL_nil ?_; refine WC_cond rfl (fun hb22 => ?_) (fun hb22 => ?_)
  ·have H := ifT hb22 H; refine WC_seq ?_; obtain ⟨q23, hq23, H⟩ := bnd H; refine WC_cut (fun F w => ∃ (Fb : Fr) (G : Gm), F = upds Fb [(2, .bool q23)] ∧ Gle G18 G ∧ Since w0.heap.size G0 w0 G w ∧ Owns G w w0.heap.size []) ?_ ?_
   ·have Hoq23 := H; have H := hq23; refine WC_region ?_; refine WL_val (rn_move (v := (.int .i64 y12.2)) rfl) rfl ?_; refine WL_val (rn_eql rfl rfl) rfl ?_; refine WL_val (rn_move (v := (.bool (y12.2 == 2))) rfl) rfl ?_
    rcases bcases (y12.2 == 2) with hb24 | hb24
    ·have H := ifT hb24 H; refine WL_guardY rfl hb24 rfl rfl ?_; refine WL_val (rn_move (v := (.int .i64 y16.2)) rfl) rfl ?_; refine WL_guardY rfl hb24 rfl rfl ?_; refine WL_val (rn_eql rfl rfl) rfl ?_; refine WL_val (rn_pickT (v := (.bool (y16.2 == 2))) rfl hb24 rfl) rfl ?_; refine WL_val (rn_move (v := (.bool (y16.2 == 2))) rfl) rfl ?_
     rcases bcases (y16.2 == 2) with hb25 | hb25
     ·have H := ifT hb25 H; refine WL_guardY rfl hb25 rfl rfl ?_; refine WL_val (rn_move (v := (.slice a15 n15 c15)) rfl) rfl ?_; refine WL_guardY rfl hb25 rfl rfl ?_; refine WL_val (rn_len sl29 rfl rfl (h15.mono RInt_mono leG18).1) rfl ?_; refine WL_guardY rfl hb25 rfl rfl ?_; refine WL_val (rn_move (v := (.slice a19 n19 c19)) rfl) rfl ?_; refine WL_guardY rfl hb25 rfl rfl ?_; refine WL_val (rn_len sl29 rfl rfl h19.1) rfl ?_; refine WL_guardY rfl hb25 rfl rfl ?_; refine WL_val (rn_add rfl rfl) rfl ?_; refine WL_guardY rfl hb25 rfl rfl ?_; refine WL_val (rn_eql rfl rfl) rfl ?_; refine WL_val (rn_pickT (v := (.bool ((IntKind.i64.wrap ((y12.1.length : Int) + (y16.1.length : Int))) == 0))) rfl hb25 rfl) rfl ?_; refine WL_val (rn_move (v := (.bool ((IntKind.i64.wrap ((y12.1.length : Int) + (y16.1.length : Int))) == 0))) rfl) rfl ?_
      rcases bcases ((IntKind.i64.wrap ((y12.1.length : Int) + (y16.1.length : Int))) == 0) with hb26 | hb26
      ·have H := ifT hb26 H; refine WL_guardY rfl hb26 rfl rfl ?_; obtain ⟨y27, hy27, H⟩ := bnd H; refine WL_op rfl (OpP_callV cb15 (f15_ok  hS.sat (hT.mono l0_3)  hy27) rfl rfl (fun w28 hb => ?_)); have hS := hS.keep hb; have hO := hO.below hb; refine WL_val (rn_pickT (v := (.bool y27)) rfl hb26 rfl) rfl ?_; refine WL_val (rn_assign (v := (.bool y27)) rfl) rfl ?_; refine WL_nil ?_
       have hO : Owns G18 w28 w0.heap.size ([]) := hO
       have H := Option.some.inj H; subst H
       exact ⟨_, G18, upds_self _ _ ⟨rfl, trivial⟩, Gle.refl _, hS, hO⟩
      ·have H := ifF hb26 H; refine WL_guardN rfl hb26 rfl rfl rfl ?_; refine WL_val (rn_pickF (v := (.bool false)) rfl hb26 rfl) rfl ?_; refine WL_val (rn_assign (v := (.bool false)) rfl) rfl ?_; refine WL_nil ?_
       have hO : Owns G18 w21 w0.heap.size ([]) := hO
       have H := Option.some.inj H; subst H
       exact ⟨_, G18, upds_self _ _ ⟨rfl, trivial⟩, Gle.refl _, hS, hO⟩
     ·have H := ifF hb25 H; refine WL_guardN rfl hb25 rfl rfl rfl ?_; refine WL_guardN rfl hb25 rfl rfl rfl ?_; refine WL_guardN rfl hb25 rfl rfl rfl ?_; refine WL_guardN rfl hb25 rfl rfl rfl ?_; refine WL_guardN rfl hb25 rfl rfl rfl ?_; refine WL_guardN rfl hb25 rfl rfl rfl ?_; refine WL_val (rn_pickF (v := (.bool false)) rfl hb25 rfl) rfl ?_; refine WL_val (rn_move (v := (.bool false)) rfl) rfl ?_; refine WL_guardN rfl rfl rfl rfl rfl ?_; refine WL_val (rn_pickF (v := (.bool false)) rfl rfl rfl) rfl ?_; refine WL_val (rn_assign (v := (.bool false)) rfl) rfl ?_; refine WL_nil ?_
      have hO : Owns G18 w21 w0.heap.size ([]) := hO
      have H := Option.some.inj H; subst H
      exact ⟨_, G18, upds_self _ _ ⟨rfl, trivial⟩, Gle.refl _, hS, hO⟩
    ·have H := ifF hb24 H; refine WL_guardN rfl hb24 rfl rfl rfl ?_; refine WL_guardN rfl hb24 rfl rfl rfl ?_; refine WL_val (rn_pickF (v := (.bool false)) rfl hb24 rfl) rfl ?_; refine WL_val (rn_move (v := (.bool false)) rfl) rfl ?_; refine WL_guardN rfl rfl rfl rfl rfl ?_; refine WL_guardN rfl rfl rfl rfl rfl ?_; refine WL_guardN rfl rfl rfl rfl rfl ?_; refine WL_guardN rfl rfl rfl rfl rfl ?_; refine WL_guardN rfl rfl rfl rfl rfl ?_; refine WL_guardN rfl rfl rfl rfl rfl ?_; refine WL_val (rn_pickF (v := (.bool false)) rfl rfl rfl) rfl ?_; refine WL_val (rn_move (v := (.bool false)) rfl) rfl ?_; refine WL_guardN rfl rfl rfl rfl rfl ?_; refine WL_val (rn_pickF (v := (.bool false)) rfl rfl rfl) rfl ?_; refine WL_val (rn_assign (v := (.bool false)) rfl) rfl ?_; refine WL_nil ?_
     have hO : Owns G18 w21 w0.heap.size ([]) := hO
     have H := Option.some.inj H; subst H
     exact ⟨_, G18, upds_self _ _ ⟨rfl, trivial⟩, Gle.refl _, hS, hO⟩
   ·rintro F w29 ⟨Fb, G30, rfl, leG30, hS, hO⟩
    refine WC_ret ?_
    have H : some q23 = some r := H
    have H := Option.some.inj H; subst H
    exact ⟨rfl, hS.below⟩
  ·have H := ifF hb22 H; refine WC_skip ?_; refine WC_seq ?_; refine WC_seq ?_; refine WC_region ?_; refine WL_val (rn_loadA ag26 (cs := [.slice a1 n1 c1, .slice a2 n2 c2, .slice a3 n3 c3]) rfl rfl (fun j v hj => (hS.sat.le l1_3).cell (hcb4.drop_take 0 3 j v hj))) rfl ?_; obtain ⟨y31, hy31, H⟩ := bnd H; refine WL_op rfl (OpP_callV cb19 (f19_ok (x0 := x0) hS.sat (h1.mono RTLandPerson_mono l0_3) (h2.mono RTLandEvent_mono l0_3) (h3.mono RTLandMemory_mono l0_3) hy31) rfl rfl (fun w32 hb => ?_)); have hS := hS.keep hb; have hO := hO.below hb; refine WL_nil ?_; refine WC_cond rfl (fun hb33 => ?_) (fun hb33 => ?_)
   ·have H := ifT hb33 H; refine WC_seq ?_; obtain ⟨q34, hq34, H⟩ := bnd H; refine WC_cut (fun F w => ∃ (Fb : Fr) (G : Gm), F = upds Fb [(2, .bool q34)] ∧ Gle G18 G ∧ Since w0.heap.size G0 w0 G w ∧ Owns G w w0.heap.size []) ?_ ?_
    ·have Hoq34 := H; have H := hq34; refine WC_region ?_; refine WL_val (rn_move (v := (.int .i64 y12.2)) rfl) rfl ?_; refine WL_val (rn_eql rfl rfl) rfl ?_; refine WL_val (rn_move (v := (.bool (y12.2 == 5))) rfl) rfl ?_
     rcases bcases (y12.2 == 5) with hb35 | hb35
     ·have H := ifT hb35 H; refine WL_guardY rfl hb35 rfl rfl ?_; refine WL_val (rn_move (v := (.int .i64 y16.2)) rfl) rfl ?_; refine WL_guardY rfl hb35 rfl rfl ?_; refine WL_val (rn_eql rfl rfl) rfl ?_; refine WL_val (rn_pickT (v := (.bool (y16.2 == 0))) rfl hb35 rfl) rfl ?_; refine WL_val (rn_move (v := (.bool (y16.2 == 0))) rfl) rfl ?_
      rcases bcases (y16.2 == 0) with hb36 | hb36
      ·have H := ifT hb36 H; refine WL_guardY rfl hb36 rfl rfl ?_; refine WL_val (rn_move (v := (.slice a15 n15 c15)) rfl) rfl ?_; refine WL_guardY rfl hb36 rfl rfl ?_; refine WL_val (rn_len sl29 rfl rfl (h15.mono RInt_mono leG18).1) rfl ?_; refine WL_guardY rfl hb36 rfl rfl ?_; refine WL_val (rn_move (v := (.slice a19 n19 c19)) rfl) rfl ?_; refine WL_guardY rfl hb36 rfl rfl ?_; refine WL_val (rn_len sl29 rfl rfl h19.1) rfl ?_; refine WL_guardY rfl hb36 rfl rfl ?_; refine WL_val (rn_add rfl rfl) rfl ?_; refine WL_guardY rfl hb36 rfl rfl ?_; refine WL_val (rn_eql rfl rfl) rfl ?_; refine WL_val (rn_pickT (v := (.bool ((IntKind.i64.wrap ((y12.1.length : Int) + (y16.1.length : Int))) == 0))) rfl hb36 rfl) rfl ?_; refine WL_val (rn_move (v := (.bool ((IntKind.i64.wrap ((y12.1.length : Int) + (y16.1.length : Int))) == 0))) rfl) rfl ?_
       rcases bcases ((IntKind.i64.wrap ((y12.1.length : Int) + (y16.1.length : Int))) == 0) with hb37 | hb37
       ·have H := ifT hb37 H; refine WL_guardY rfl hb37 rfl rfl ?_; obtain ⟨y38, hy38, H⟩ := bnd H; refine WL_op rfl (OpP_callV cb15 (f15_ok  hS.sat (hT.mono l0_3)  hy38) rfl rfl (fun w39 hb => ?_)); have hS := hS.keep hb; have hO := hO.below hb; refine WL_val (rn_pickT (v := (.bool y38)) rfl hb37 rfl) rfl ?_; refine WL_val (rn_assign (v := (.bool y38)) rfl) rfl ?_; refine WL_nil ?_
        have hO : Owns G18 w39 w0.heap.size ([]) := hO
        have H := Option.some.inj H; subst H
        exact ⟨_, G18, upds_self _ _ ⟨rfl, trivial⟩, Gle.refl _, hS, hO⟩
       ·have H := ifF hb37 H; refine WL_guardN rfl hb37 rfl rfl rfl ?_; refine WL_val (rn_pickF (v := (.bool false)) rfl hb37 rfl) rfl ?_; refine WL_val (rn_assign (v := (.bool false)) rfl) rfl ?_; refine WL_nil ?_
        have hO : Owns G18 w32 w0.heap.size ([]) := hO
        have H := Option.some.inj H; subst H
        exact ⟨_, G18, upds_self _ _ ⟨rfl, trivial⟩, Gle.refl _, hS, hO⟩
      ·have H := ifF hb36 H; refine WL_guardN rfl hb36 rfl rfl rfl ?_; refine WL_guardN rfl hb36 rfl rfl rfl ?_; refine WL_guardN rfl hb36 rfl rfl rfl ?_; refine WL_guardN rfl hb36 rfl rfl rfl ?_; refine WL_guardN rfl hb36 rfl rfl rfl ?_; refine WL_guardN rfl hb36 rfl rfl rfl ?_; refine WL_val (rn_pickF (v := (.bool false)) rfl hb36 rfl) rfl ?_; refine WL_val (rn_move (v := (.bool false)) rfl) rfl ?_; refine WL_guardN rfl rfl rfl rfl rfl ?_; refine WL_val (rn_pickF (v := (.bool false)) rfl rfl rfl) rfl ?_; refine WL_val (rn_assign (v := (.bool false)) rfl) rfl ?_; refine WL_nil ?_
       have hO : Owns G18 w32 w0.heap.size ([]) := hO
       have H := Option.some.inj H; subst H
       exact ⟨_, G18, upds_self _ _ ⟨rfl, trivial⟩, Gle.refl _, hS, hO⟩
     ·have H := ifF hb35 H; refine WL_guardN rfl hb35 rfl rfl rfl ?_; refine WL_guardN rfl hb35 rfl rfl rfl ?_; refine WL_val (rn_pickF (v := (.bool false)) rfl hb35 rfl) rfl ?_; refine WL_val (rn_move (v := (.bool false)) rfl) rfl ?_; refine WL_guardN rfl rfl rfl rfl rfl ?_; refine WL_guardN rfl rfl rfl rfl rfl ?_; refine WL_guardN rfl rfl rfl rfl rfl ?_; refine WL_guardN rfl rfl rfl rfl rfl ?_; refine WL_guardN rfl rfl rfl rfl rfl ?_; refine WL_guardN rfl rfl rfl rfl rfl ?_; refine WL_val (rn_pickF (v := (.bool false)) rfl rfl rfl) rfl ?_; refine WL_val (rn_move (v := (.bool false)) rfl) rfl ?_; refine WL_guardN rfl rfl rfl rfl rfl ?_; refine WL_val (rn_pickF (v := (.bool false)) rfl rfl rfl) rfl ?_; refine WL_val (rn_assign (v := (.bool false)) rfl) rfl ?_; refine WL_nil ?_
      have hO : Owns G18 w32 w0.heap.size ([]) := hO
      have H := Option.some.inj H; subst H
      exact ⟨_, G18, upds_self _ _ ⟨rfl, trivial⟩, Gle.refl _, hS, hO⟩
    ·rintro F w40 ⟨Fb, G41, rfl, leG41, hS, hO⟩
     refine WC_ret ?_
     have H : some q34 = some r := H
     have H := Option.some.inj H; subst H
     exact ⟨rfl, hS.below⟩
   ·have H := ifF hb33 H; refine WC_skip ?_; refine WC_seq ?_; obtain ⟨q42, hq42, H⟩ := bnd H; refine WC_cut (fun F w => ∃ (Fb : Fr) (G : Gm), F = upds Fb [(2, .bool q42)] ∧ Gle G18 G ∧ Since w0.heap.size G0 w0 G w ∧ Owns G w w0.heap.size []) ?_ ?_
    ·have Hoq42 := H; have H := hq42; refine WC_region ?_; refine WL_val (rn_move (v := (.int .i64 y12.2)) rfl) rfl ?_; refine WL_val (rn_eql rfl rfl) rfl ?_; refine WL_val (rn_move (v := (.bool (y12.2 == 0))) rfl) rfl ?_
     rcases bcases (y12.2 == 0) with hb43 | hb43
     ·have H := ifT hb43 H; refine WL_guardY rfl hb43 rfl rfl ?_; refine WL_val (rn_move (v := (.slice a15 n15 c15)) rfl) rfl ?_; refine WL_guardY rfl hb43 rfl rfl ?_; refine WL_val (rn_loadA ag26 (cs := [.slice a1 n1 c1, .slice a2 n2 c2, .slice a3 n3 c3]) rfl rfl (fun j v hj => (hS.sat.le l1_3).cell (hcb4.drop_take 0 3 j v hj))) rfl ?_; refine WL_guardY rfl hb43 rfl rfl ?_; obtain ⟨y44, hy44, H⟩ := bnd H; refine WL_op rfl (OpP_callG cb21 (f21_ok (x0 := x0) hS.sat (h1.mono RTLandPerson_mono l0_3) (h2.mono RTLandEvent_mono l0_3) (h3.mono RTLandMemory_mono l0_3) hy44) rfl rfl (fun vy44 G46 w45 hg hvy44 => ?_)); obtain ⟨a47, n47, c47, ⟨⟩, h47⟩ := hvy44; have hS := hS.grow hg; have hO := hO.grow hg
      have leG46 := hg.le
      refine WL_guardY rfl hb43 rfl rfl ?_; obtain ⟨y48, hy48, H⟩ := bnd H
      have l2_4 := leG18.trans leG46
      refine WL_op rfl (OpP_callV cb20 (f20_ok (x0 := y12.1) (x1 := y44) hS.sat (h15.mono RInt_mono l2_4) h47 hy48) rfl rfl (fun w49 hb => ?_)); have hS := hS.keep hb; have hO := hO.below hb; refine WL_val (rn_pickT (v := (.bool y48)) rfl hb43 rfl) rfl ?_; refine WL_val (rn_move (v := (.bool y48)) rfl) rfl ?_
      rcases bcases y48 with hb50 | hb50
      ·have H := ifT hb50 H; refine WL_guardY rfl hb50 rfl rfl ?_; refine WL_val (rn_move (v := (.int .i64 y16.2)) rfl) rfl ?_; refine WL_guardY rfl hb50 rfl rfl ?_; refine WL_val (rn_eql rfl rfl) rfl ?_; refine WL_val (rn_pickT (v := (.bool (y16.2 == 0))) rfl hb50 rfl) rfl ?_; refine WL_val (rn_move (v := (.bool (y16.2 == 0))) rfl) rfl ?_
       rcases bcases (y16.2 == 0) with hb51 | hb51
       ·have H := ifT hb51 H; refine WL_guardY rfl hb51 rfl rfl ?_; refine WL_val (rn_move (v := (.slice a19 n19 c19)) rfl) rfl ?_; refine WL_guardY rfl hb51 rfl rfl ?_
        have l1_4 := l1_3.trans leG46
        refine WL_val (rn_loadA ag26 (cs := [.slice a1 n1 c1, .slice a2 n2 c2, .slice a3 n3 c3]) rfl rfl (fun j v hj => (hS.sat.le l1_4).cell (hcb4.drop_take 0 3 j v hj))) rfl ?_; refine WL_guardY rfl hb51 rfl rfl ?_; obtain ⟨y52, hy52, H⟩ := bnd H
        have l0_4 := l0_3.trans leG46
        refine WL_op rfl (OpP_callG cb22 (f22_ok (x0 := x0) hS.sat (h1.mono RTLandPerson_mono l0_4) (h2.mono RTLandEvent_mono l0_4) (h3.mono RTLandMemory_mono l0_4) hy52) rfl rfl (fun vy52 G54 w53 hg hvy52 => ?_)); obtain ⟨a55, n55, c55, ⟨⟩, h55⟩ := hvy52; have hS := hS.grow hg; have hO := hO.grow hg
        have leG54 := hg.le
        refine WL_guardY rfl hb51 rfl rfl ?_; obtain ⟨y56, hy56, H⟩ := bnd H
        have l3_5 := leG46.trans leG54
        refine WL_op rfl (OpP_callV cb20 (f20_ok (x0 := y16.1) (x1 := y52) hS.sat (h19.mono RInt_mono l3_5) h55 hy56) rfl rfl (fun w57 hb => ?_)); have hS := hS.keep hb; have hO := hO.below hb; refine WL_val (rn_pickT (v := (.bool y56)) rfl hb51 rfl) rfl ?_; refine WL_val (rn_move (v := (.bool y56)) rfl) rfl ?_
        rcases bcases y56 with hb58 | hb58
        ·have H := ifT hb58 H; refine WL_guardY rfl hb58 rfl rfl ?_; obtain ⟨y59, hy59, H⟩ := bnd H
         have l0_5 := l0_4.trans leG54
         refine WL_op rfl (OpP_callV cb15 (f15_ok  hS.sat (hT.mono l0_5)  hy59) rfl rfl (fun w60 hb => ?_)); have hS := hS.keep hb; have hO := hO.below hb; refine WL_val (rn_pickT (v := (.bool y59)) rfl hb58 rfl) rfl ?_; refine WL_val (rn_assign (v := (.bool y59)) rfl) rfl ?_; refine WL_nil ?_
         have hO : Owns G54 w60 w0.heap.size ([]) := hO
         have H := Option.some.inj H; subst H
         exact ⟨_, G54, upds_self _ _ ⟨rfl, trivial⟩, l3_5, hS, hO⟩
        ·have H := ifF hb58 H; refine WL_guardN rfl hb58 rfl rfl rfl ?_; refine WL_val (rn_pickF (v := (.bool false)) rfl hb58 rfl) rfl ?_; refine WL_val (rn_assign (v := (.bool false)) rfl) rfl ?_; refine WL_nil ?_
         have hO : Owns G54 w57 w0.heap.size ([]) := hO
         have H := Option.some.inj H; subst H
         exact ⟨_, G54, upds_self _ _ ⟨rfl, trivial⟩, l3_5, hS, hO⟩
       ·have H := ifF hb51 H; refine WL_guardN rfl hb51 rfl rfl rfl ?_; refine WL_guardN rfl hb51 rfl rfl rfl ?_; refine WL_guardN rfl hb51 rfl rfl rfl ?_; refine WL_guardN rfl hb51 rfl rfl rfl ?_; refine WL_val (rn_pickF (v := (.bool false)) rfl hb51 rfl) rfl ?_; refine WL_val (rn_move (v := (.bool false)) rfl) rfl ?_; refine WL_guardN rfl rfl rfl rfl rfl ?_; refine WL_val (rn_pickF (v := (.bool false)) rfl rfl rfl) rfl ?_; refine WL_val (rn_assign (v := (.bool false)) rfl) rfl ?_; refine WL_nil ?_
        have hO : Owns G46 w49 w0.heap.size ([]) := hO
        have H := Option.some.inj H; subst H
        exact ⟨_, G46, upds_self _ _ ⟨rfl, trivial⟩, leG46, hS, hO⟩
      ·have H := ifF hb50 H; refine WL_guardN rfl hb50 rfl rfl rfl ?_; refine WL_guardN rfl hb50 rfl rfl rfl ?_; refine WL_val (rn_pickF (v := (.bool false)) rfl hb50 rfl) rfl ?_; refine WL_val (rn_move (v := (.bool false)) rfl) rfl ?_; refine WL_guardN rfl rfl rfl rfl rfl ?_; refine WL_guardN rfl rfl rfl rfl rfl ?_; refine WL_guardN rfl rfl rfl rfl rfl ?_; refine WL_guardN rfl rfl rfl rfl rfl ?_; refine WL_val (rn_pickF (v := (.bool false)) rfl rfl rfl) rfl ?_; refine WL_val (rn_move (v := (.bool false)) rfl) rfl ?_; refine WL_guardN rfl rfl rfl rfl rfl ?_; refine WL_val (rn_pickF (v := (.bool false)) rfl rfl rfl) rfl ?_; refine WL_val (rn_assign (v := (.bool false)) rfl) rfl ?_; refine WL_nil ?_
       have hO : Owns G46 w49 w0.heap.size ([]) := hO
       have H := Option.some.inj H; subst H
       exact ⟨_, G46, upds_self _ _ ⟨rfl, trivial⟩, leG46, hS, hO⟩
     ·have H := ifF hb43 H; refine WL_guardN rfl hb43 rfl rfl rfl ?_; refine WL_guardN rfl hb43 rfl rfl rfl ?_; refine WL_guardN rfl hb43 rfl rfl rfl ?_; refine WL_guardN rfl hb43 rfl rfl rfl ?_; refine WL_val (rn_pickF (v := (.bool false)) rfl hb43 rfl) rfl ?_; refine WL_val (rn_move (v := (.bool false)) rfl) rfl ?_; refine WL_guardN rfl rfl rfl rfl rfl ?_; refine WL_guardN rfl rfl rfl rfl rfl ?_; refine WL_val (rn_pickF (v := (.bool false)) rfl rfl rfl) rfl ?_; refine WL_val (rn_move (v := (.bool false)) rfl) rfl ?_; refine WL_guardN rfl rfl rfl rfl rfl ?_; refine WL_guardN rfl rfl rfl rfl rfl ?_; refine WL_guardN rfl rfl rfl rfl rfl ?_; refine WL_guardN rfl rfl rfl rfl rfl ?_; refine WL_val (rn_pickF (v := (.bool false)) rfl rfl rfl) rfl ?_; refine WL_val (rn_move (v := (.bool false)) rfl) rfl ?_; refine WL_guardN rfl rfl rfl rfl rfl ?_; refine WL_val (rn_pickF (v := (.bool false)) rfl rfl rfl) rfl ?_; refine WL_val (rn_assign (v := (.bool false)) rfl) rfl ?_; refine WL_nil ?_
      have hO : Owns G18 w32 w0.heap.size ([]) := hO
      have H := Option.some.inj H; subst H
      exact ⟨_, G18, upds_self _ _ ⟨rfl, trivial⟩, Gle.refl _, hS, hO⟩
    ·rintro F w61 ⟨Fb, G62, rfl, leG62, hS, hO⟩
     refine WC_ret ?_
     have H : some q42 = some r := H
     have H := Option.some.inj H; subst H
     exact ⟨rfl, hS.below⟩
end Go.Proofs.YtcaflmilfhhikaaDoor
