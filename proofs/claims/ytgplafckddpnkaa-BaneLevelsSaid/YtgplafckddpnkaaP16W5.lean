/-
  The walks: each Go function computes its plain function (printed by a program of ours).
-/
import Derived.Test.YtgplafckddpnkaaRd
import Derived.Test.YtgplafckddpnkaaIt
import Derived.Test.YtgplafckddpnkaaBaseL
import Derived.Test.YtgplafckddpnkaaP16W4
namespace Go.Proofs.Ytgplafckddpnkaa
open Go.RowKit
set_option linter.unusedVariables false

set_option maxRecDepth 20000
set_option linter.unusedVariables false
set_option maxHeartbeats 1000000 in
theorem f61_ok {G0 : Gm} {w0 : World} (hS0 : Sat G0 w0) {x0 : TBaneWeb} {a1 : Option Addr} {n1 c1 : Nat} (h1 : RSl RTBaneFish 5 G0 a1 n1 c1 x0.Fish) {r : (List TSpan)} (H : f61 x0 = some r) :
  Calls Try.prog 61 #[.agg #[.slice a1 n1 c1, .int .i64 x0.Limit]] w0 (RetG G0 w0 (fun G v => ∃ (ra0 : Option Addr) (rn0 rc0 : Nat), v = .slice ra0 rn0 rc0 ∧ RSl RTSpan 2 G ra0 rn0 rc0 r)) := by
 have hS := Since.start hS0
 have hO : Owns G0 w0 w0.heap.size [] := Owns.nil (Nat.le_refl _)
 unfold f61 at H
 refine enter1 (N := 34) (shutG _ _ _) Try.func61 rfl rfl rfl rfl ?_; refine WC_seq ?_; refine WC_region ?_; refine WL_op rfl (OpP_newF (v := fun b => .pointer (some ⟨b, 0, none⟩)) (cs := [.slice a1 n1 c1, .int .i64 x0.Limit]) (e := 24) (rn_boxA rfl) hS.sat rfl (fun b2 G4 w3 hg hcb2 => ?_)); have hS := hS.grow hg; have hO := hO.grow hg
 have leG4 := hg.le
 refine WL_val (rn_assign (v := (.slice none 0 0)) rfl) rfl ?_; refine WL_nil ?_; refine WC_seq ?_; have hS := hS.keep (below_drew _); have hO := hO.below (below_drew _)
 refine WC_regionD mixedO (fun _ w => Sat G4 w ∧ True) (.fl 0 (.fl 1 (.fl 4 (.fl 5 (.on 2 (.on 3 (.on 6 (.on 7 (.on 8 (.on 9 .nil)))))))))) (by kernel_rfl) rfl (by kernel_rfl) (fun _ => ⟨hS.sat, trivial⟩) ?_
 refine WD_val rfl (fun w hw => rn_loadA ag24 (cs := [.slice a1 n1 c1, .int .i64 x0.Limit]) rfl rfl (fun j v hj => hw.1.cell (hcb2.drop_take 0 2 j v hj))) rfl ?_; refine WD_val rfl (fun w hw => rn_loadA ag24 (cs := [.slice a1 n1 c1, .int .i64 x0.Limit]) rfl rfl (fun j v hj => hw.1.cell (hcb2.drop_take 0 2 j v hj))) rfl ?_; refine WD_val rfl (fun w hw => rn_loadA ag24 (cs := [.slice a1 n1 c1, .int .i64 x0.Limit]) rfl rfl (fun j v hj => hw.1.cell (hcb2.drop_take 0 2 j v hj))) rfl ?_; refine WD_val rfl (fun w hw => rn_loadA ag24 (cs := [.slice a1 n1 c1, .int .i64 x0.Limit]) rfl rfl (fun j v hj => hw.1.cell (hcb2.drop_take 0 2 j v hj))) rfl ?_; obtain ⟨y5, hy5, H⟩ := bnd H; refine WD_op rfl rfl (OpP_callG cb26 (f26_ok (x0 := x0) (x1 := false) hS.sat (h1.mono RTBaneFish_mono leG4) hy5) rfl rfl (fun vy5 G7 w6 hg hvy5 => ?_)); obtain ⟨a8, n8, c8, a9, n9, c9, ⟨⟩, h8, h9⟩ := hvy5; have hS := hS.grow hg; have hO := hO.grow hg
 have leG7 := hg.le
 refine ⟨fun _ _ => ⟨hS.sat.le leG7, trivial⟩, ?_⟩; obtain ⟨y10, hy10, H⟩ := bnd H
 have l0_2 := leG4.trans leG7
 refine WD_op rfl rfl (OpP_callG cb24 (f24_ok (x0 := x0) (x1 := y5) hS.sat (h1.mono RTBaneFish_mono l0_2) h8 h9 hy10) rfl rfl (fun vy10 G12 w11 hg hvy10 => ?_)); obtain ⟨a13, n13, c13, ⟨⟩, h13⟩ := hvy10; have hS := hS.grow hg; have hO := hO.grow hg
 have leG12 := hg.le
 have l1_3 := leG7.trans leG12
 refine ⟨fun _ _ => ⟨hS.sat.le l1_3, trivial⟩, ?_⟩; obtain ⟨y14, hy14, H⟩ := bnd H
 have l0_3 := l0_2.trans leG12
 refine WD_op rfl rfl (OpP_callG cb26 (f26_ok (x0 := x0) (x1 := true) hS.sat (h1.mono RTBaneFish_mono l0_3) hy14) rfl rfl (fun vy14 G16 w15 hg hvy14 => ?_)); obtain ⟨a17, n17, c17, a18, n18, c18, ⟨⟩, h17, h18⟩ := hvy14; have hS := hS.grow hg; have hO := hO.grow hg
 have leG16 := hg.le
 have l1_4 := l1_3.trans leG16
 refine ⟨fun _ _ => ⟨hS.sat.le l1_4, trivial⟩, ?_⟩; obtain ⟨y19, hy19, H⟩ := bnd H
 have l0_4 := l0_3.trans leG16
 refine WD_op rfl rfl (OpP_callG cb24 (f24_ok (x0 := x0) (x1 := y14) hS.sat (h1.mono RTBaneFish_mono l0_4) h17 h18 hy19) rfl rfl (fun vy19 G21 w20 hg hvy19 => ?_)); obtain ⟨a22, n22, c22, ⟨⟩, h22⟩ := hvy19; have hS := hS.grow hg; have hO := hO.grow hg
 have leG21 := hg.le
 refine ⟨fun _ h => noneed (by kernel_rfl) h, ?_⟩
 refine WD_op rfl rfl (OpP_val (rn_assign (v := (.slice a13 n13 c13)) rfl) rfl ?_)
 refine ⟨fun _ h => noneed (by kernel_rfl) h, ?_⟩
 refine WD_op rfl rfl (OpP_val (rn_assign (v := (.slice a22 n22 c22)) rfl) rfl ?_)
 refine ⟨fun _ h => noneed (by kernel_rfl) h, ?_⟩
 refine WD_nil ?_; refine WC_seq ?_; refine WC_region ?_; refine WL_val (rn_assign (v := (.slice none 0 0)) rfl) rfl ?_; refine WL_nil ?_; refine WC_seq ?_; refine WC_seq ?_; refine WC_region ?_; refine WL_val (rn_assign (v := (.int .i64 0)) rfl) rfl ?_; refine WL_nil ?_; have hO := hO.cons_nil 43 2; obtain ⟨q26, hq26, H⟩ := bnd H; refine WC_cut (fun F w => ∃ (Fb : Fr) (G : Gm) (aq26_0 : Option Addr) (nq26_0 cq26_0 : Nat) (claq26_0 : List Value), F = upds Fb [(5, .slice aq26_0 nq26_0 cq26_0)] ∧ Gle G21 G ∧ Since w0.heap.size G0 w0 G w ∧ Owns G w w0.heap.size [⟨43, 2, nq26_0, .slice aq26_0 nq26_0 cq26_0, claq26_0⟩] ∧ nq26_0 = q26.length ∧ Rd RTSpan 2 G claq26_0 q26) ?_ ?_
 ·refine WC_block (WC_loop hq26 (fun s24 F w => ∃ (Fb : Fr) (G : Gm) (as24_0 : Option Addr) (ns24_0 cs24_0 : Nat) (clas24_0 : List Value), F = upds Fb [(3, .slice a13 n13 c13), (4, .slice a22 n22 c22), (5, .slice as24_0 ns24_0 cs24_0), (6, .int .i64 s24.2)] ∧ Gle G21 G ∧ Since w0.heap.size G0 w0 G w ∧ Owns G w w0.heap.size [⟨43, 2, ns24_0, .slice as24_0 ns24_0 cs24_0, clas24_0⟩] ∧ ns24_0 = s24.1.length ∧ Rd RTSpan 2 G clas24_0 s24.1) ?_ ?_)
  ·have hO : Owns G21 w20 w0.heap.size ([⟨43, 2, 0, .slice none 0 0, []⟩]) := hO
   exact ⟨_, G21, none, 0, 0, [], upds_self _ _ ⟨rfl, rfl, rfl, rfl, trivial⟩, Gle.refl _, hS, hO, rfl, (Rd.nil RTSpan 2 G21)⟩
  ·rintro s24 F w28 t27 ⟨Fb, G29, as24_0, ns24_0, cs24_0, clas24_0, rfl, leG29, hS, hO, hnhs24_0, hs24_0⟩
   intro H1 hqq26
   have Hoq26 := H; have H := H1
   unfold f61_b0 at H
   refine WC_seq ?_; refine WC_seq ?_; refine WC_region ?_; refine WL_val (rn_move (v := (.int .i64 s24.2)) rfl) rfl ?_; refine WL_val (rn_move (v := (.slice a13 n13 c13)) rfl) rfl ?_
   have l3_6 := (leG16.trans leG21).trans leG29
   refine WL_val (rn_len sl25 rfl rfl (h13.mono RInt_mono l3_6).1) rfl ?_; refine WL_val (rn_lss rfl rfl) rfl ?_; refine WL_nil ?_; refine WC_cond rfl (fun hb30 => ?_) (fun hb30 => ?_)
   ·have H := ifT hb30 H; refine WC_skip ?_; refine WC_seq ?_; refine WC_block ?_; have hS := hS.keep (below_drew _); have hO := hO.below (below_drew _)
    refine WC_regionD mixedO (fun _ w => Sat G29 w ∧ Owns G29 w w0.heap.size [⟨43, 2, ns24_0, .slice as24_0 ns24_0 cs24_0, clas24_0⟩]) (.fl 0 (.fl 1 (.fl 2 (.fl 3 (.fl 4 (.fl 5 (.on 6 (.on 7 (.on 8 (.on 9 (.on 10 (.on 11 (.on 12 .nil))))))))))))) (by kernel_rfl) rfl (by kernel_rfl) (fun _ => ⟨hS.sat, hO⟩) ?_
    refine WD_val rfl (fun w hw => rn_move (v := (.slice as24_0 ns24_0 cs24_0)) rfl) rfl ?_; refine WD_val rfl (fun w hw => rn_move (v := (.slice a13 n13 c13)) rfl) rfl ?_; refine WD_val rfl (fun w hw => rn_move (v := (.int .i64 s24.2)) rfl) rfl ?_; obtain ⟨y31, hy31, H⟩ := bnd H; refine WD_idx rfl sl25 (h13.mono RInt_mono l3_6) hy31 rfl rfl rfl ?_
    rintro b32 o32 _ hcb32 _ ⟨⟩
    refine WD_val rfl (fun w hw => rn_load na3 rfl (hw.1.cell (hcb32 0 _ rfl))) rfl ?_; refine WD_val rfl (fun w hw => rn_move (v := (.slice a22 n22 c22)) rfl) rfl ?_; refine WD_op rfl rfl (OpP_val (rn_move (v := (.int .i64 s24.2)) rfl) rfl ?_); refine ⟨fun _ _ => ⟨hS.sat, hO⟩, ?_⟩; obtain ⟨y33, hy33, H⟩ := bnd H; refine WD_op rfl rfl (OpP_idx sl25 (h22.mono RInt_mono leG29) hy33 rfl rfl rfl ?_)
    rintro b34 o34 _ hcb34 _ ⟨⟩
    refine ⟨fun _ _ => ⟨hS.sat, hO⟩, ?_⟩; refine WD_op rfl rfl (OpP_val (rn_load na3 rfl (hS.sat.cell (hcb34 0 _ rfl))) rfl ?_); refine ⟨fun _ _ => ⟨hS.sat, hO⟩, ?_⟩
    refine WD_op rfl rfl (OpP_val (v := (.agg #[.int .i64 y31, .int .i64 y33])) (by kernel_rfl) rfl ?_)
    refine ⟨fun _ _ => ⟨hS.sat, hO⟩, ?_⟩
    refine WD_op rfl rfl (OpP_newF (v := fun b => .slice (some ⟨b, 0, none⟩) 1 1) (cs := [.int .i64 y31, .int .i64 y33]) (e := 43) (by kernel_rfl) hS.sat rfl (fun b35 G37 w36 hg hcb35 => ?_))
    have hS := hS.grow hg; have hO := hO.grow hg
    have leG37 := hg.le
    have hfb35 : RSl RTSpan 2 G37 (some ⟨b35, 0, none⟩) 1 1 [(⟨y31, y33⟩ : TSpan)] := RSl.of_rd hcb35 (Rd.cons (c := [.int .i64 y31, .int .i64 y33]) rfl rfl (Rd.nil RTSpan 2 _)) rfl (by decide)
    refine ⟨fun _ _ => ⟨hS.sat.le leG37, hO.le leG37⟩, ?_⟩; obtain ⟨y38, hy38, H⟩ := bnd H; refine WD_op rfl rfl (OpP_append (k := 0) sl38 RTSpan_one hS hO rfl hnhs24_0 (hs24_0.mono RTSpan_mono leG37) hfb35 hy38 rfl rfl rfl rfl rfl (fun aw39 cw39 w39 clw39 hS hO hrw39 => ?_))
    have hO : Owns G37 w39 w0.heap.size ([⟨43, 2, y38.length, .slice aw39 y38.length cw39, clw39⟩]) := hO
    refine ⟨fun _ h => noneed (by kernel_rfl) h, ?_⟩
    refine WD_op rfl rfl (OpP_val (rn_assign (v := (.slice aw39 y38.length cw39)) rfl) rfl ?_)
    refine ⟨fun _ h => noneed (by kernel_rfl) h, ?_⟩
    refine WD_nil ?_; refine WC_region ?_; refine WL_val (rn_move (v := (.int .i64 s24.2)) rfl) rfl ?_; refine WL_val (rn_add rfl rfl) rfl ?_; refine WL_val (rn_assign (v := (.int .i64 (IntKind.i64.wrap (s24.2 + 1)))) rfl) rfl ?_; refine WL_nil ?_
    have hO : Owns G37 w39 w0.heap.size ([⟨43, 2, y38.length, .slice aw39 y38.length cw39, clw39⟩]) := hO
    have H := Option.some.inj H; subst H; refine ⟨_, rfl, ?_⟩
    have l5_7 := leG29.trans leG37
    exact ⟨_, G37, aw39, y38.length, cw39, clw39, upds_self _ _ ⟨rfl, rfl, rfl, rfl, trivial⟩, l5_7, hS, hO, rfl, hrw39⟩
   ·have H := ifF hb30 H; refine WC_exit rfl ?_
    have hO : Owns G29 w28 w0.heap.size ([⟨43, 2, ns24_0, .slice as24_0 ns24_0 cs24_0, clas24_0⟩]) := hO
    have H := Option.some.inj H; subst H
    have hres := hqq26 _ rfl
    subst hres
    exact ⟨_, G29, as24_0, ns24_0, cs24_0, clas24_0, upds_self _ _ ⟨rfl, trivial⟩, leG29, hS, hO, hnhs24_0, hs24_0⟩
 ·rintro F w40 ⟨Fb, G41, aq26_0, nq26_0, cq26_0, claq26_0, rfl, leG41, hS, hO, hnhq26_0, hq26_0⟩
  refine WC_seq ?_; refine WC_region ?_; refine WL_val (rn_move (v := (.slice aq26_0 nq26_0 cq26_0)) rfl) rfl ?_; refine WL_val (rn_assign (v := (.slice aq26_0 nq26_0 cq26_0)) rfl) rfl ?_; refine WL_nil ?_; refine WC_ret ?_; obtain ⟨G42, leG42, hS, hO, hfG42⟩ := hO.freezeS hS RTSpan_mono (k := 0) rfl hq26_0 hnhq26_0
  have H : some q26 = some r := H
  have H := Option.some.inj H; subst H
  exact ⟨_, _, rfl, hS.toGrow, _, _, _, rfl, hfG42⟩
set_option maxHeartbeats 1000000 in
theorem f62_ok {G0 : Gm} {w0 : World} (hS0 : Sat G0 w0) {x0 : TBaneWeb} {a1 : Option Addr} {n1 c1 : Nat} {x1 : Int} (h1 : RSl RTBaneFish 5 G0 a1 n1 c1 x0.Fish) {r : (List Int)} (H : f62 x0 x1 = some r) :
  Calls Try.prog 62 #[.agg #[.slice a1 n1 c1, .int .i64 x0.Limit], .int .i64 x1] w0 (RetG G0 w0 (fun G v => ∃ (ra0 : Option Addr) (rn0 rc0 : Nat), v = .slice ra0 rn0 rc0 ∧ RSl RInt 1 G ra0 rn0 rc0 r)) := by
 have hS := Since.start hS0
 have hO : Owns G0 w0 w0.heap.size [] := Owns.nil (Nat.le_refl _)
 unfold f62 at H
 refine enter1 (N := 89) (shutG _ _ _) Try.func62 rfl rfl rfl rfl ?_; refine WC_seq ?_; refine WC_region ?_; refine WL_op rfl (OpP_newF (v := fun b => .pointer (some ⟨b, 0, none⟩)) (cs := [.slice a1 n1 c1, .int .i64 x0.Limit]) (e := 24) (rn_boxA rfl) hS.sat rfl (fun b2 G4 w3 hg hcb2 => ?_)); have hS := hS.grow hg; have hO := hO.grow hg
 have leG4 := hg.le
 refine WL_val (rn_assign (v := (.slice none 0 0)) rfl) rfl ?_; refine WL_nil ?_; refine WC_seq ?_; have hS := hS.keep (below_drew _); have hO := hO.below (below_drew _)
 refine WC_regionD mixedO (fun _ w => Sat G4 w ∧ True) (.fl 0 (.on 1 (.on 2 (.on 3 (.on 4 .nil))))) (by kernel_rfl) rfl (by kernel_rfl) (fun _ => ⟨hS.sat, trivial⟩) ?_
 refine WD_val rfl (fun w hw => rn_loadA ag24 (cs := [.slice a1 n1 c1, .int .i64 x0.Limit]) rfl rfl (fun j v hj => hw.1.cell (hcb2.drop_take 0 2 j v hj))) rfl ?_; refine WD_op rfl rfl (OpP_val (rn_loadA ag24 (cs := [.slice a1 n1 c1, .int .i64 x0.Limit]) rfl rfl (fun j v hj => hS.sat.cell (hcb2.drop_take 0 2 j v hj))) rfl ?_); refine ⟨fun _ _ => ⟨hS.sat, trivial⟩, ?_⟩; obtain ⟨y5, hy5, H⟩ := bnd H; refine WD_op rfl rfl (OpP_callG cb26 (f26_ok (x0 := x0) (x1 := true) hS.sat (h1.mono RTBaneFish_mono leG4) hy5) rfl rfl (fun vy5 G7 w6 hg hvy5 => ?_)); obtain ⟨a8, n8, c8, a9, n9, c9, ⟨⟩, h8, h9⟩ := hvy5; have hS := hS.grow hg; have hO := hO.grow hg
 have leG7 := hg.le
 refine ⟨fun _ _ => ⟨hS.sat.le leG7, trivial⟩, ?_⟩; obtain ⟨y10, hy10, H⟩ := bnd H
 have l0_2 := leG4.trans leG7
 refine WD_op rfl rfl (OpP_callG cb24 (f24_ok (x0 := x0) (x1 := y5) hS.sat (h1.mono RTBaneFish_mono l0_2) h8 h9 hy10) rfl rfl (fun vy10 G12 w11 hg hvy10 => ?_)); obtain ⟨a13, n13, c13, ⟨⟩, h13⟩ := hvy10; have hS := hS.grow hg; have hO := hO.grow hg
 have leG12 := hg.le
 refine ⟨fun _ h => noneed (by kernel_rfl) h, ?_⟩
 refine WD_op rfl rfl (OpP_val (rn_assign (v := (.slice a13 n13 c13)) rfl) rfl ?_)
 refine ⟨fun _ h => noneed (by kernel_rfl) h, ?_⟩
 refine WD_nil ?_; refine WC_seq ?_; refine WC_region ?_; refine WL_val (rn_move (v := (.int .i64 x1)) rfl) rfl ?_
 refine WL_op rfl (OpP_newO (v := fun b => .slice (some ⟨b, 0, none⟩) 1 1) (cs := [.int .i64 x1]) (e := 3) (by kernel_rfl) hS.sat hO rfl 1 1 rfl (by decide) (fun b14 w15 hb hO => ?_))
 have hS := hS.keep hb
 have hrb14 : Rd RInt 1 G12 [.int .i64 x1] [x1] := (Rd.cons (c := [.int .i64 x1]) rfl rfl (Rd.nil RInt 1 _))
 refine WL_val (rn_assign (v := (.slice (some ⟨b14, 0, none⟩) 1 1)) rfl) rfl ?_; refine WL_nil ?_; refine WC_seq ?_; obtain ⟨q19, hq19, H⟩ := bnd H; refine WC_cut (fun F w => ∃ (Fb : Fr) (G : Gm) (aq19_0 : Option Addr) (nq19_0 cq19_0 : Nat) (claq19_0 : List Value), F = upds Fb [(6, .slice aq19_0 nq19_0 cq19_0)] ∧ Gle G12 G ∧ Since w0.heap.size G0 w0 G w ∧ Owns G w w0.heap.size [⟨3, 1, nq19_0, .slice aq19_0 nq19_0 cq19_0, claq19_0⟩] ∧ nq19_0 = q19.length ∧ Rd RInt 1 G claq19_0 q19) ?_ ?_
 ·refine WC_block (WC_loop hq19 (fun s17 F w => ∃ (Fb : Fr) (G : Gm) (as17_0 : Option Addr) (ns17_0 cs17_0 : Nat) (clas17_0 : List Value), F = upds Fb [(2, .pointer (some ⟨b2, 0, none⟩)), (5, .slice a13 n13 c13), (6, .slice as17_0 ns17_0 cs17_0)] ∧ Gle G12 G ∧ Since w0.heap.size G0 w0 G w ∧ Owns G w w0.heap.size [⟨3, 1, ns17_0, .slice as17_0 ns17_0 cs17_0, clas17_0⟩] ∧ ns17_0 = s17.length ∧ Rd RInt 1 G clas17_0 s17) ?_ ?_)
  ·have hO : Owns G12 w15 w0.heap.size ([⟨3, 1, 1, .slice (some ⟨b14, 0, none⟩) 1 1, [.int .i64 x1]⟩]) := hO
   exact ⟨_, G12, (some ⟨b14, 0, none⟩), 1, 1, [.int .i64 x1], upds_self _ _ ⟨rfl, rfl, rfl, trivial⟩, Gle.refl _, hS, hO, rfl, hrb14⟩
  ·rintro s17 F w21 t20 ⟨Fb, G22, as17_0, ns17_0, cs17_0, clas17_0, rfl, leG22, hS, hO, hnhs17_0, hs17_0⟩
   intro H1 hqq19
   have Hoq19 := H; have H := H1
   unfold f62_b0 at H
   refine WC_seq ?_; refine WC_seq ?_; have hS := hS.keep (below_drew _); have hO := hO.below (below_drew _)
   refine WC_regionD mixedO (fun _ w => Sat G22 w ∧ Owns G22 w w0.heap.size [⟨3, 1, ns17_0, .slice as17_0 ns17_0 cs17_0, clas17_0⟩]) (.fl 0 (.fl 1 (.fl 2 (.on 3 (.on 4 (.on 5 (.on 6 (.on 7 (.on 8 (.on 9 (.on 10 (.on 11 (.on 12 .nil))))))))))))) (by kernel_rfl) rfl (by kernel_rfl) (fun _ => ⟨hS.sat, hO⟩) ?_
   refine WD_val rfl (fun w hw => rn_fld fd24_0 rfl) rfl ?_; refine WD_val rfl (fun w hw => rn_load na22 rfl ((hw.1.le ((leG7.trans leG12).trans leG22)).cell (hcb2 0 _ rfl))) rfl ?_; refine WD_val rfl (fun w hw => rn_move (v := (.slice as17_0 ns17_0 cs17_0)) rfl) rfl ?_; refine WD_op rfl rfl (OpP_val (rn_move (v := (.slice as17_0 ns17_0 cs17_0)) rfl) rfl ?_); refine ⟨fun _ _ => ⟨hS.sat, hO⟩, ?_⟩; refine WD_op rfl rfl (OpP_val (rn_len (m := s17.length) sl25 rfl rfl hnhs17_0) rfl ?_); refine ⟨fun _ _ => ⟨hS.sat, hO⟩, ?_⟩; refine WD_op rfl rfl (OpP_val (rn_sub rfl rfl) rfl ?_); refine ⟨fun _ _ => ⟨hS.sat, hO⟩, ?_⟩; obtain ⟨y23, hy23, H⟩ := bnd H; refine WD_op rfl rfl (OpP_idxO sl25 hO (k := 0) rfl hnhs17_0 hs17_0 hy23 rfl rfl rfl ?_)
   rintro b24 ob24 _ hb24 _ hcb24 ⟨⟩
   refine ⟨fun _ _ => ⟨hS.sat, hO⟩, ?_⟩; refine WD_op rfl rfl (OpP_val (rn_load na3 rfl (own_cellB hO (k := 0) rfl hb24 _ 0 (hcb24 0 _ rfl))) rfl ?_); refine ⟨fun _ _ => ⟨hS.sat, hO⟩, ?_⟩; obtain ⟨y25, hy25, H⟩ := bnd H
   have l0_4 := (l0_2.trans leG12).trans leG22
   refine WD_op rfl rfl (OpP_idx sl22 (h1.mono RTBaneFish_mono l0_4) hy25 rfl rfl rfl ?_)
   rintro b26 o26 _ hcb26 _ ⟨a27, n27, c27, ⟨⟩, h27⟩
   refine ⟨fun _ h => noneed (by kernel_rfl) h, ?_⟩
   refine WD_op rfl rfl (OpP_val (rn_fld fd72_1 rfl) rfl ?_)
   refine ⟨fun _ h => noneed (by kernel_rfl) h, ?_⟩
   refine WD_op rfl rfl (OpP_val (rn_load na70 rfl (hS.sat.cell (hcb26 2 _ rfl))) rfl ?_)
   refine ⟨fun _ h => noneed (by kernel_rfl) h, ?_⟩
   refine WD_op rfl rfl (OpP_val (rn_len sl70 rfl rfl h27.1) rfl ?_)
   refine ⟨fun _ h => noneed (by kernel_rfl) h, ?_⟩
   refine WD_op rfl rfl (OpP_val (rn_gtr rfl rfl) rfl ?_)
   refine ⟨fun _ h => noneed (by kernel_rfl) h, ?_⟩
   refine WD_nil ?_; refine WC_cond rfl (fun hb28 => ?_) (fun hb28 => ?_)
   ·have H := ifT hb28 H; refine WC_skip ?_; refine WC_block ?_; refine WC_seq ?_; have hS := hS.keep (below_drew _); have hO := hO.below (below_drew _)
    refine WC_regionD mixedO (fun _ w => Sat G22 w ∧ Owns G22 w w0.heap.size [⟨3, 1, ns17_0, .slice as17_0 ns17_0 cs17_0, clas17_0⟩]) (.fl 0 (.fl 1 (.fl 2 (.on 3 (.on 4 (.on 5 (.on 6 (.on 7 (.on 8 (.on 9 (.on 10 (.on 11 .nil)))))))))))) (by kernel_rfl) rfl (by kernel_rfl) (fun _ => ⟨hS.sat, hO⟩) ?_
    refine WD_val rfl (fun w hw => rn_fld fd24_0 rfl) rfl ?_; refine WD_val rfl (fun w hw => rn_load na22 rfl ((hw.1.le ((leG7.trans leG12).trans leG22)).cell (hcb2 0 _ rfl))) rfl ?_; refine WD_val rfl (fun w hw => rn_move (v := (.slice as17_0 ns17_0 cs17_0)) rfl) rfl ?_; refine WD_op rfl rfl (OpP_val (rn_move (v := (.slice as17_0 ns17_0 cs17_0)) rfl) rfl ?_); refine ⟨fun _ _ => ⟨hS.sat, hO⟩, ?_⟩; refine WD_op rfl rfl (OpP_val (rn_len (m := s17.length) sl25 rfl rfl hnhs17_0) rfl ?_); refine ⟨fun _ _ => ⟨hS.sat, hO⟩, ?_⟩; refine WD_op rfl rfl (OpP_val (rn_sub rfl rfl) rfl ?_); refine ⟨fun _ _ => ⟨hS.sat, hO⟩, ?_⟩; refine WD_op rfl rfl (OpP_idxO sl25 hO (k := 0) rfl hnhs17_0 hs17_0 hy23 rfl rfl rfl ?_)
    rintro b29 ob29 _ hb29 _ hcb29 ⟨⟩
    refine ⟨fun _ _ => ⟨hS.sat, hO⟩, ?_⟩; refine WD_op rfl rfl (OpP_val (rn_load na3 rfl (own_cellB hO (k := 0) rfl hb29 _ 0 (hcb29 0 _ rfl))) rfl ?_); refine ⟨fun _ _ => ⟨hS.sat, hO⟩, ?_⟩; refine WD_op rfl rfl (OpP_idx sl22 (h1.mono RTBaneFish_mono l0_4) hy25 rfl rfl rfl ?_)
    rintro b30 o30 _ hcb30 _ ⟨a31, n31, c31, ⟨⟩, h31⟩
    refine ⟨fun _ h => noneed (by kernel_rfl) h, ?_⟩
    refine WD_op rfl rfl (OpP_val (rn_fld fd72_1 rfl) rfl ?_)
    refine ⟨fun _ h => noneed (by kernel_rfl) h, ?_⟩
    refine WD_op rfl rfl (OpP_val (rn_load na70 rfl (hS.sat.cell (hcb30 2 _ rfl))) rfl ?_)
    refine ⟨fun _ h => noneed (by kernel_rfl) h, ?_⟩
    refine WD_op rfl rfl (OpP_val (rn_assign (v := (.slice a31 n31 c31)) rfl) rfl ?_)
    refine ⟨fun _ h => noneed (by kernel_rfl) h, ?_⟩
    refine WD_nil ?_; refine WC_seq ?_; refine WC_region ?_; refine WL_val (rn_assign (v := (.int .i64 0)) rfl) rfl ?_; refine WL_nil ?_; refine WC_seq ?_; refine WC_seq ?_; refine WC_region ?_; refine WL_val (rn_assign (v := (.int .i64 1)) rfl) rfl ?_; refine WL_nil ?_; obtain ⟨q34, hq34, H⟩ := bnd H; refine WC_cut (fun F w => ∃ (Fb : Fr) (G : Gm), F = upds Fb [(2, .pointer (some ⟨b2, 0, none⟩)), (5, .slice a13 n13 c13), (6, .slice as17_0 ns17_0 cs17_0), (7, .slice a31 n31 c31), (8, .int .i64 q34)] ∧ Gle G22 G ∧ Since w0.heap.size G0 w0 G w ∧ Owns G w w0.heap.size [⟨3, 1, ns17_0, .slice as17_0 ns17_0 cs17_0, clas17_0⟩]) ?_ ?_
    ·refine WC_block (WC_loop hq34 (fun s32 F w => ∃ (Fb : Fr) (G : Gm), F = upds Fb [(2, .pointer (some ⟨b2, 0, none⟩)), (5, .slice a13 n13 c13), (6, .slice as17_0 ns17_0 cs17_0), (7, .slice a31 n31 c31), (8, .int .i64 s32.1), (9, .int .i64 s32.2)] ∧ Gle G22 G ∧ Since w0.heap.size G0 w0 G w ∧ Owns G w w0.heap.size [⟨3, 1, ns17_0, .slice as17_0 ns17_0 cs17_0, clas17_0⟩]) ?_ ?_)
     ·have hO : Owns G22 (w21.drew).drew w0.heap.size ([⟨3, 1, ns17_0, .slice as17_0 ns17_0 cs17_0, clas17_0⟩]) := hO
      exact ⟨_, G22, upds_self _ _ ⟨rfl, rfl, rfl, rfl, rfl, rfl, trivial⟩, Gle.refl _, hS, hO⟩
     ·rintro s32 F w36 t35 ⟨Fb, G37, rfl, leG37, hS, hO⟩
      intro H1 hqq34
      have Hoq34 := H; have H := H1
      unfold f62_b1 at H
      refine WC_seq ?_; refine WC_seq ?_; refine WC_region ?_; refine WL_val (rn_move (v := (.int .i64 s32.2)) rfl) rfl ?_; refine WL_val (rn_move (v := (.slice a31 n31 c31)) rfl) rfl ?_; refine WL_val (rn_len sl70 rfl rfl (h31.mono RTBaneBite_mono leG37).1) rfl ?_; refine WL_val (rn_lss rfl rfl) rfl ?_; refine WL_nil ?_; refine WC_cond rfl (fun hb38 => ?_) (fun hb38 => ?_)
      ·have H := ifT hb38 H; refine WC_skip ?_; refine WC_seq ?_; obtain ⟨q39, hq39, H⟩ := bnd H; refine WC_cut (fun F w => ∃ (Fb : Fr) (G : Gm), F = upds Fb [(2, .pointer (some ⟨b2, 0, none⟩)), (5, .slice a13 n13 c13), (6, .slice as17_0 ns17_0 cs17_0), (7, .slice a31 n31 c31), (8, .int .i64 q39), (9, .int .i64 s32.2)] ∧ Gle G37 G ∧ Since w0.heap.size G0 w0 G w ∧ Owns G w w0.heap.size [⟨3, 1, ns17_0, .slice as17_0 ns17_0 cs17_0, clas17_0⟩]) ?_ ?_
       ·have Hoq39 := H; have H := hq39; refine WC_block ?_; refine WC_seq ?_; have hS := hS.keep (below_drew _); have hO := hO.below (below_drew _)
        refine WC_regionD mixedO (fun _ w => Sat G37 w ∧ Owns G37 w w0.heap.size [⟨3, 1, ns17_0, .slice as17_0 ns17_0 cs17_0, clas17_0⟩]) (.fl 0 (.fl 1 (.fl 2 (.fl 3 (.fl 4 (.fl 5 (.fl 6 (.fl 7 (.fl 8 (.fl 9 (.fl 10 (.fl 11 (.fl 12 (.fl 13 (.fl 14 (.fl 15 (.fl 16 (.fl 17 (.fl 18 (.fl 19 (.fl 20 (.fl 21 (.fl 22 (.fl 23 (.on 24 (.on 25 (.on 26 (.on 27 (.on 28 (.on 29 (.on 30 (.on 31 (.on 32 .nil))))))))))))))))))))))))))))))))) (by kernel_rfl) rfl (by kernel_rfl) (fun _ => ⟨hS.sat, hO⟩) ?_
        refine WD_val rfl (fun w hw => rn_move (v := (.slice a31 n31 c31)) rfl) rfl ?_; refine WD_val rfl (fun w hw => rn_move (v := (.int .i64 s32.2)) rfl) rfl ?_; obtain ⟨y40, hy40, H⟩ := bnd H; refine WD_idx rfl sl70 (h31.mono RTBaneBite_mono leG37) hy40 rfl rfl rfl ?_
        rintro b41 o41 _ hcb41 _ ⟨⟩
        refine WD_val rfl (fun w hw => rn_fld fd77_1 rfl) rfl ?_; refine WD_val rfl (fun w hw => rn_fld fd43_1 rfl) rfl ?_; refine WD_val rfl (fun w hw => rn_load na3 rfl (hw.1.cell (hcb41 2 _ rfl))) rfl ?_; refine WD_val rfl (fun w hw => rn_move (v := (.slice a13 n13 c13)) rfl) rfl ?_; refine WD_val rfl (fun w hw => rn_move (v := (.slice a31 n31 c31)) rfl) rfl ?_; refine WD_val rfl (fun w hw => rn_move (v := (.int .i64 s32.2)) rfl) rfl ?_; refine WD_idx rfl sl70 (h31.mono RTBaneBite_mono leG37) hy40 rfl rfl rfl ?_
        rintro b42 o42 _ hcb42 _ ⟨⟩
        refine WD_val rfl (fun w hw => rn_fld fd77_0 rfl) rfl ?_; refine WD_val rfl (fun w hw => rn_load na3 rfl (hw.1.cell (hcb42 0 _ rfl))) rfl ?_; obtain ⟨y43, hy43, H⟩ := bnd H
        have l3_5 := leG22.trans leG37
        refine WD_idx rfl sl25 (h13.mono RInt_mono l3_5) hy43 rfl rfl rfl ?_
        rintro b44 o44 _ hcb44 _ ⟨⟩
        refine WD_val rfl (fun w hw => rn_load na3 rfl (hw.1.cell (hcb44 0 _ rfl))) rfl ?_; refine WD_val rfl (fun w hw => rn_mul rfl rfl) rfl ?_
        refine WD_val rfl (fun w hw => rn_quo rfl rfl (by decide)) rfl ?_
        refine WD_val rfl (fun w hw => rn_move (v := (.slice a31 n31 c31)) rfl) rfl ?_; refine WD_val rfl (fun w hw => rn_move (v := (.int .i64 s32.1)) rfl) rfl ?_; obtain ⟨y45, hy45, H⟩ := bnd H; refine WD_idx rfl sl70 (h31.mono RTBaneBite_mono leG37) hy45 rfl rfl rfl ?_
        rintro b46 o46 _ hcb46 _ ⟨⟩
        refine WD_val rfl (fun w hw => rn_fld fd77_1 rfl) rfl ?_; refine WD_val rfl (fun w hw => rn_fld fd43_1 rfl) rfl ?_; refine WD_val rfl (fun w hw => rn_load na3 rfl (hw.1.cell (hcb46 2 _ rfl))) rfl ?_; refine WD_val rfl (fun w hw => rn_move (v := (.slice a13 n13 c13)) rfl) rfl ?_; refine WD_val rfl (fun w hw => rn_move (v := (.slice a31 n31 c31)) rfl) rfl ?_; refine WD_op rfl rfl (OpP_val (rn_move (v := (.int .i64 s32.1)) rfl) rfl ?_); refine ⟨fun _ _ => ⟨hS.sat, hO⟩, ?_⟩; refine WD_op rfl rfl (OpP_idx sl70 (h31.mono RTBaneBite_mono leG37) hy45 rfl rfl rfl ?_)
        rintro b47 o47 _ hcb47 _ ⟨⟩
        refine ⟨fun _ _ => ⟨hS.sat, hO⟩, ?_⟩; refine WD_op rfl rfl (OpP_val (rn_fld fd77_0 rfl) rfl ?_); refine ⟨fun _ _ => ⟨hS.sat, hO⟩, ?_⟩; refine WD_op rfl rfl (OpP_val (rn_load na3 rfl (hS.sat.cell (hcb47 0 _ rfl))) rfl ?_); refine ⟨fun _ _ => ⟨hS.sat, hO⟩, ?_⟩; obtain ⟨y48, hy48, H⟩ := bnd H; refine WD_op rfl rfl (OpP_idx sl25 (h13.mono RInt_mono l3_5) hy48 rfl rfl rfl ?_)
        rintro b49 o49 _ hcb49 _ ⟨⟩
        refine ⟨fun _ _ => ⟨hS.sat, hO⟩, ?_⟩; refine WD_op rfl rfl (OpP_val (rn_load na3 rfl (hS.sat.cell (hcb49 0 _ rfl))) rfl ?_); refine ⟨fun _ _ => ⟨hS.sat, hO⟩, ?_⟩; refine WD_op rfl rfl (OpP_val (rn_mul rfl rfl) rfl ?_); refine ⟨fun _ _ => ⟨hS.sat, hO⟩, ?_⟩
        refine WD_op rfl rfl (OpP_val (rn_quo rfl rfl (by decide)) rfl ?_)
        refine ⟨fun _ _ => ⟨hS.sat, hO⟩, ?_⟩; refine WD_op rfl rfl (OpP_val (rn_gtr rfl rfl) rfl ?_)
        refine ⟨fun _ h => noneed (by kernel_rfl) h, ?_⟩
        refine WD_nil ?_; refine WC_cond rfl (fun hb50 => ?_) (fun hb50 => ?_)
        ·have H := ifT hb50 H; refine WC_region ?_; refine WL_val (rn_move (v := (.int .i64 s32.2)) rfl) rfl ?_; refine WL_val (rn_assign (v := (.int .i64 s32.2)) rfl) rfl ?_; refine WL_nil ?_
         have hO : Owns G37 w36.drew w0.heap.size ([⟨3, 1, ns17_0, .slice as17_0 ns17_0 cs17_0, clas17_0⟩]) := hO
         have H := Option.some.inj H; subst H
         exact ⟨_, G37, upds_self _ _ ⟨rfl, rfl, rfl, rfl, rfl, rfl, trivial⟩, Gle.refl _, hS, hO⟩
        ·have H := ifF hb50 H; refine WC_skip ?_
         have hO : Owns G37 w36.drew w0.heap.size ([⟨3, 1, ns17_0, .slice as17_0 ns17_0 cs17_0, clas17_0⟩]) := hO
         have H := Option.some.inj H; subst H
         exact ⟨_, G37, upds_self _ _ ⟨rfl, rfl, rfl, rfl, rfl, rfl, trivial⟩, Gle.refl _, hS, hO⟩
       ·rintro F w51 ⟨Fb, G52, rfl, leG52, hS, hO⟩
        refine WC_region ?_; refine WL_val (rn_move (v := (.int .i64 s32.2)) rfl) rfl ?_; refine WL_val (rn_add rfl rfl) rfl ?_; refine WL_val (rn_assign (v := (.int .i64 (IntKind.i64.wrap (s32.2 + 1)))) rfl) rfl ?_; refine WL_nil ?_
        have hO : Owns G52 w51 w0.heap.size ([⟨3, 1, ns17_0, .slice as17_0 ns17_0 cs17_0, clas17_0⟩]) := hO
        have H := Option.some.inj H; subst H; refine ⟨_, rfl, ?_⟩
        have l4_6 := leG37.trans leG52
        exact ⟨_, G52, upds_self _ _ ⟨rfl, rfl, rfl, rfl, rfl, rfl, trivial⟩, l4_6, hS, hO⟩
      ·have H := ifF hb38 H; refine WC_exit rfl ?_
       have hO : Owns G37 w36 w0.heap.size ([⟨3, 1, ns17_0, .slice as17_0 ns17_0 cs17_0, clas17_0⟩]) := hO
       have H := Option.some.inj H; subst H
       have hres := hqq34 _ rfl
       subst hres
       exact ⟨_, G37, upds_self _ _ ⟨rfl, rfl, rfl, rfl, rfl, trivial⟩, leG37, hS, hO⟩
    ·rintro F w53 ⟨Fb, G54, rfl, leG54, hS, hO⟩
     refine WC_region ?_; refine WL_val (rn_move (v := (.slice as17_0 ns17_0 cs17_0)) rfl) rfl ?_; refine WL_val (rn_move (v := (.slice a31 n31 c31)) rfl) rfl ?_; refine WL_val (rn_move (v := (.int .i64 q34)) rfl) rfl ?_; obtain ⟨y55, hy55, H⟩ := bnd H; refine WL_idx sl70 (h31.mono RTBaneBite_mono leG54) hy55 rfl rfl rfl ?_
     rintro b56 o56 _ hcb56 _ ⟨⟩
     refine WL_val (rn_fld fd77_0 rfl) rfl ?_; refine WL_val (rn_load na3 rfl (hS.sat.cell (hcb56 0 _ rfl))) rfl ?_
     refine WL_op rfl (OpP_newF (v := fun b => .slice (some ⟨b, 0, none⟩) 1 1) (cs := [.int .i64 y55.Prey]) (e := 3) (by kernel_rfl) hS.sat rfl (fun b57 G59 w58 hg hcb57 => ?_))
     have hS := hS.grow hg; have hO := hO.grow hg
     have leG59 := hg.le
     have hfb57 : RSl RInt 1 G59 (some ⟨b57, 0, none⟩) 1 1 [y55.Prey] := RSl.of_rd hcb57 (Rd.cons (c := [.int .i64 y55.Prey]) rfl rfl (Rd.nil RInt 1 _)) rfl (by decide)
     obtain ⟨y60, hy60, H⟩ := bnd H
     have l4_6 := leG54.trans leG59
     refine WL_op rfl (OpP_append (k := 0) sl25 RInt_one hS hO rfl hnhs17_0 (hs17_0.mono RInt_mono l4_6) hfb57 hy60 rfl rfl rfl rfl rfl (fun aw61 cw61 w61 clw61 hS hO hrw61 => ?_))
     have hO : Owns G59 w61 w0.heap.size ([⟨3, 1, y60.length, .slice aw61 y60.length cw61, clw61⟩]) := hO
     refine WL_val (rn_assign (v := (.slice aw61 y60.length cw61)) rfl) rfl ?_; refine WL_nil ?_
     have hO : Owns G59 w61 w0.heap.size ([⟨3, 1, y60.length, .slice aw61 y60.length cw61, clw61⟩]) := hO
     have H := Option.some.inj H; subst H; refine ⟨_, rfl, ?_⟩
     have l3_6 := leG22.trans l4_6
     exact ⟨_, G59, aw61, y60.length, cw61, clw61, upds_self _ _ ⟨rfl, rfl, rfl, trivial⟩, l3_6, hS, hO, rfl, hrw61⟩
   ·have H := ifF hb28 H; refine WC_exit rfl ?_
    have hO : Owns G22 w21.drew w0.heap.size ([⟨3, 1, ns17_0, .slice as17_0 ns17_0 cs17_0, clas17_0⟩]) := hO
    have H := Option.some.inj H; subst H
    have hres := hqq19 _ rfl
    subst hres
    exact ⟨_, G22, as17_0, ns17_0, cs17_0, clas17_0, upds_self _ _ ⟨rfl, trivial⟩, leG22, hS, hO, hnhs17_0, hs17_0⟩
 ·rintro F w62 ⟨Fb, G63, aq19_0, nq19_0, cq19_0, claq19_0, rfl, leG63, hS, hO, hnhq19_0, hq19_0⟩
  refine WC_seq ?_; refine WC_region ?_; refine WL_val (rn_move (v := (.slice aq19_0 nq19_0 cq19_0)) rfl) rfl ?_; refine WL_val (rn_assign (v := (.slice aq19_0 nq19_0 cq19_0)) rfl) rfl ?_; refine WL_nil ?_; refine WC_ret ?_; obtain ⟨G64, leG64, hS, hO, hfG64⟩ := hO.freezeS hS RInt_mono (k := 0) rfl hq19_0 hnhq19_0
  have H : some q19 = some r := H
  have H := Option.some.inj H; subst H
  exact ⟨_, _, rfl, hS.toGrow, _, _, _, rfl, hfG64⟩
set_option maxHeartbeats 1000000 in
theorem f16_ok {G0 : Gm} {w0 : World} (hS0 : Sat G0 w0) {x0 : TBaneWeb} {a1 : Option Addr} {n1 c1 : Nat} {x1 : Int} (h1 : RSl RTBaneFish 5 G0 a1 n1 c1 x0.Fish) {r : Bool} (H : f16 x0 x1 = some r) :
  Calls Try.prog 16 #[.agg #[.slice a1 n1 c1, .int .i64 x0.Limit], .int .i64 x1] w0 (RetV w0 (.bool r)) := by
 have hS := Since.start hS0
 have hO : Owns G0 w0 w0.heap.size [] := Owns.nil (Nat.le_refl _)
 unfold f16 at H
 refine enter1 (N := 90) (shutV _ _) Try.func16 rfl rfl rfl rfl ?_; refine WC_seq ?_; refine WC_region ?_; refine WL_op rfl (OpP_newF (v := fun b => .pointer (some ⟨b, 0, none⟩)) (cs := [.slice a1 n1 c1, .int .i64 x0.Limit]) (e := 24) (rn_boxA rfl) hS.sat rfl (fun b2 G4 w3 hg hcb2 => ?_)); have hS := hS.grow hg; have hO := hO.grow hg
 have leG4 := hg.le
 refine WL_val (rn_assign (v := (.bool false)) rfl) rfl ?_; refine WL_nil ?_; refine WC_seq ?_; refine WC_seq ?_; refine WC_region ?_; refine WL_val (rn_loadA ag24 (cs := [.slice a1 n1 c1, .int .i64 x0.Limit]) rfl rfl (fun j v hj => hS.sat.cell (hcb2.drop_take 0 2 j v hj))) rfl ?_; obtain ⟨y5, hy5, H⟩ := bnd H; refine WL_op rfl (OpP_callV cb17 (f17_ok (x0 := x0) hS.sat (h1.mono RTBaneFish_mono leG4) hy5) rfl rfl (fun w6 hb => ?_)); have hS := hS.keep hb; have hO := hO.below hb; refine WL_val (rn_not rfl) rfl ?_; refine WL_nil ?_; refine WC_cond rfl (fun hb7 => ?_) (fun hb7 => ?_)
 ·have H := ifT hb7 H; refine WC_seq ?_; refine WC_region ?_; obtain ⟨y8, hy8, H⟩ := bnd H; refine WL_op rfl (OpP_callV cb19 (f19_ok  hS.sat  hy8) rfl rfl (fun w9 hb => ?_)); have hS := hS.keep hb; have hO := hO.below hb; refine WL_val (rn_assign (v := (.bool y8)) rfl) rfl ?_; refine WL_nil ?_; refine WC_ret ?_
  have H : some y8 = some r := H
  have H := Option.some.inj H; subst H
  exact ⟨rfl, hS.below⟩
 ·have H := ifF hb7 H; refine WC_skip ?_; refine WC_seq ?_; refine WC_region ?_; refine WL_val (rn_loadA ag24 (cs := [.slice a1 n1 c1, .int .i64 x0.Limit]) rfl rfl (fun j v hj => hS.sat.cell (hcb2.drop_take 0 2 j v hj))) rfl ?_; obtain ⟨y10, hy10, H⟩ := bnd H; refine WL_op rfl (OpP_callV cb59 (f59_ok (x0 := x0) hS.sat (h1.mono RTBaneFish_mono leG4) hy10) rfl rfl (fun w11 hb => ?_)); have hS := hS.keep hb; have hO := hO.below hb; refine WL_val (rn_assign (v := (.int .i64 y10)) rfl) rfl ?_; refine WL_nil ?_; refine WC_seq ?_; refine WC_region ?_; refine WL_val (rn_loadA ag24 (cs := [.slice a1 n1 c1, .int .i64 x0.Limit]) rfl rfl (fun j v hj => hS.sat.cell (hcb2.drop_take 0 2 j v hj))) rfl ?_; obtain ⟨y12, hy12, H⟩ := bnd H; refine WL_op rfl (OpP_callG cb25 (f25_ok (x0 := x0) hS.sat (h1.mono RTBaneFish_mono leG4) hy12) rfl rfl (fun vy12 G14 w13 hg hvy12 => ?_)); obtain ⟨a15, n15, c15, ⟨⟩, h15⟩ := hvy12; have hS := hS.grow hg; have hO := hO.grow hg
  have leG14 := hg.le
  refine WL_val (rn_move (v := (.tuple #[.slice a15 n15 c15, .int .i64 y12.2])) rfl) rfl ?_; refine WL_val (rn_extract (v := (.slice a15 n15 c15)) rfl rfl) rfl ?_; refine WL_val (rn_extract (v := (.int .i64 y12.2)) rfl rfl) rfl ?_; refine WL_val (rn_assign (v := (.slice a15 n15 c15)) rfl) rfl ?_; refine WL_val (rn_assign (v := (.int .i64 y12.2)) rfl) rfl ?_; refine WL_nil ?_; refine WC_seq ?_; refine WC_region ?_; refine WL_val (rn_loadA ag24 (cs := [.slice a1 n1 c1, .int .i64 x0.Limit]) rfl rfl (fun j v hj => (hS.sat.le leG14).cell (hcb2.drop_take 0 2 j v hj))) rfl ?_; refine WL_val (rn_move (v := (.int .i64 x1)) rfl) rfl ?_; obtain ⟨y16, hy16, H⟩ := bnd H
  have l0_2 := leG4.trans leG14
  refine WL_op rfl (OpP_callG cb58 (f58_ok (x0 := x0) (x1 := x1) hS.sat (h1.mono RTBaneFish_mono l0_2) hy16) rfl rfl (fun vy16 G18 w17 hg hvy16 => ?_)); obtain ⟨a19, n19, c19, ⟨⟩, h19⟩ := hvy16; have hS := hS.grow hg; have hO := hO.grow hg
  have leG18 := hg.le
  refine WL_val (rn_move (v := (.tuple #[.slice a19 n19 c19, .int .i64 y16.2])) rfl) rfl ?_; refine WL_val (rn_extract (v := (.slice a19 n19 c19)) rfl rfl) rfl ?_; refine WL_val (rn_extract (v := (.int .i64 y16.2)) rfl rfl) rfl ?_; refine WL_val (rn_assign (v := (.slice a19 n19 c19)) rfl) rfl ?_; refine WL_val (rn_assign (v := (.int .i64 y16.2)) rfl) rfl ?_; refine WL_nil ?_; refine WC_seq ?_; refine WC_seq ?_; refine WC_region ?_
  have l1_3 := leG14.trans leG18
  refine WL_val (rn_loadA ag24 (cs := [.slice a1 n1 c1, .int .i64 x0.Limit]) rfl rfl (fun j v hj => (hS.sat.le l1_3).cell (hcb2.drop_take 0 2 j v hj))) rfl ?_; obtain ⟨y20, hy20, H⟩ := bnd H
  have l0_3 := l0_2.trans leG18
  refine WL_op rfl (OpP_callV cb21 (f21_ok (x0 := x0) hS.sat (h1.mono RTBaneFish_mono l0_3) hy20) rfl rfl (fun w21 hb => ?_)); have hS := hS.keep hb; have hO := hO.below hb; refine WL_val (rn_not rfl) rfl ?_; refine WL_nil ?_; refine WC_cond rfl (fun hb22 => ?_) (fun hb22 => ?_)
  ·have H := ifT hb22 H; refine WC_seq ?_; obtain ⟨q23, hq23, H⟩ := bnd H; refine WC_cut (fun F w => ∃ (Fb : Fr) (G : Gm), F = upds Fb [(4, .bool q23)] ∧ Gle G18 G ∧ Since w0.heap.size G0 w0 G w ∧ Owns G w w0.heap.size []) ?_ ?_
   ·have Hoq23 := H; have H := hq23; refine WC_region ?_; refine WL_val (rn_move (v := (.int .i64 y10)) rfl) rfl ?_; refine WL_val (rn_eql rfl rfl) rfl ?_; refine WL_val (rn_move (v := (.bool (y10 == 2))) rfl) rfl ?_
    rcases bcases (y10 == 2) with hb24 | hb24
    ·have H := ifT hb24 H; refine WL_guardY rfl hb24 rfl rfl ?_; refine WL_val (rn_move (v := (.int .i64 y12.2)) rfl) rfl ?_; refine WL_guardY rfl hb24 rfl rfl ?_; refine WL_val (rn_eql rfl rfl) rfl ?_; refine WL_val (rn_pickT (v := (.bool (y12.2 == 2))) rfl hb24 rfl) rfl ?_; refine WL_val (rn_move (v := (.bool (y12.2 == 2))) rfl) rfl ?_
     rcases bcases (y12.2 == 2) with hb25 | hb25
     ·have H := ifT hb25 H; refine WL_guardY rfl hb25 rfl rfl ?_; refine WL_val (rn_move (v := (.int .i64 y16.2)) rfl) rfl ?_; refine WL_guardY rfl hb25 rfl rfl ?_; refine WL_val (rn_eql rfl rfl) rfl ?_; refine WL_val (rn_pickT (v := (.bool (y16.2 == 2))) rfl hb25 rfl) rfl ?_; refine WL_val (rn_move (v := (.bool (y16.2 == 2))) rfl) rfl ?_
      rcases bcases (y16.2 == 2) with hb26 | hb26
      ·have H := ifT hb26 H; refine WL_guardY rfl hb26 rfl rfl ?_; refine WL_val (rn_move (v := (.slice a15 n15 c15)) rfl) rfl ?_; refine WL_guardY rfl hb26 rfl rfl ?_; refine WL_val (rn_len sl38 rfl rfl (h15.mono RTSpan_mono leG18).1) rfl ?_; refine WL_guardY rfl hb26 rfl rfl ?_; refine WL_val (rn_move (v := (.slice a19 n19 c19)) rfl) rfl ?_; refine WL_guardY rfl hb26 rfl rfl ?_; refine WL_val (rn_len sl25 rfl rfl h19.1) rfl ?_; refine WL_guardY rfl hb26 rfl rfl ?_; refine WL_val (rn_add rfl rfl) rfl ?_; refine WL_guardY rfl hb26 rfl rfl ?_; refine WL_val (rn_eql rfl rfl) rfl ?_; refine WL_val (rn_pickT (v := (.bool ((IntKind.i64.wrap ((y12.1.length : Int) + (y16.1.length : Int))) == 0))) rfl hb26 rfl) rfl ?_; refine WL_val (rn_move (v := (.bool ((IntKind.i64.wrap ((y12.1.length : Int) + (y16.1.length : Int))) == 0))) rfl) rfl ?_
       rcases bcases ((IntKind.i64.wrap ((y12.1.length : Int) + (y16.1.length : Int))) == 0) with hb27 | hb27
       ·have H := ifT hb27 H; refine WL_guardY rfl hb27 rfl rfl ?_; obtain ⟨y28, hy28, H⟩ := bnd H; refine WL_op rfl (OpP_callV cb19 (f19_ok  hS.sat  hy28) rfl rfl (fun w29 hb => ?_)); have hS := hS.keep hb; have hO := hO.below hb; refine WL_val (rn_pickT (v := (.bool y28)) rfl hb27 rfl) rfl ?_; refine WL_val (rn_assign (v := (.bool y28)) rfl) rfl ?_; refine WL_nil ?_
        have hO : Owns G18 w29 w0.heap.size ([]) := hO
        have H := Option.some.inj H; subst H
        exact ⟨_, G18, upds_self _ _ ⟨rfl, trivial⟩, Gle.refl _, hS, hO⟩
       ·have H := ifF hb27 H; refine WL_guardN rfl hb27 rfl rfl rfl ?_; refine WL_val (rn_pickF (v := (.bool false)) rfl hb27 rfl) rfl ?_; refine WL_val (rn_assign (v := (.bool false)) rfl) rfl ?_; refine WL_nil ?_
        have hO : Owns G18 w21 w0.heap.size ([]) := hO
        have H := Option.some.inj H; subst H
        exact ⟨_, G18, upds_self _ _ ⟨rfl, trivial⟩, Gle.refl _, hS, hO⟩
      ·have H := ifF hb26 H; refine WL_guardN rfl hb26 rfl rfl rfl ?_; refine WL_guardN rfl hb26 rfl rfl rfl ?_; refine WL_guardN rfl hb26 rfl rfl rfl ?_; refine WL_guardN rfl hb26 rfl rfl rfl ?_; refine WL_guardN rfl hb26 rfl rfl rfl ?_; refine WL_guardN rfl hb26 rfl rfl rfl ?_; refine WL_val (rn_pickF (v := (.bool false)) rfl hb26 rfl) rfl ?_; refine WL_val (rn_move (v := (.bool false)) rfl) rfl ?_; refine WL_guardN rfl rfl rfl rfl rfl ?_; refine WL_val (rn_pickF (v := (.bool false)) rfl rfl rfl) rfl ?_; refine WL_val (rn_assign (v := (.bool false)) rfl) rfl ?_; refine WL_nil ?_
       have hO : Owns G18 w21 w0.heap.size ([]) := hO
       have H := Option.some.inj H; subst H
       exact ⟨_, G18, upds_self _ _ ⟨rfl, trivial⟩, Gle.refl _, hS, hO⟩
     ·have H := ifF hb25 H; refine WL_guardN rfl hb25 rfl rfl rfl ?_; refine WL_guardN rfl hb25 rfl rfl rfl ?_; refine WL_val (rn_pickF (v := (.bool false)) rfl hb25 rfl) rfl ?_; refine WL_val (rn_move (v := (.bool false)) rfl) rfl ?_; refine WL_guardN rfl rfl rfl rfl rfl ?_; refine WL_guardN rfl rfl rfl rfl rfl ?_; refine WL_guardN rfl rfl rfl rfl rfl ?_; refine WL_guardN rfl rfl rfl rfl rfl ?_; refine WL_guardN rfl rfl rfl rfl rfl ?_; refine WL_guardN rfl rfl rfl rfl rfl ?_; refine WL_val (rn_pickF (v := (.bool false)) rfl rfl rfl) rfl ?_; refine WL_val (rn_move (v := (.bool false)) rfl) rfl ?_; refine WL_guardN rfl rfl rfl rfl rfl ?_; refine WL_val (rn_pickF (v := (.bool false)) rfl rfl rfl) rfl ?_; refine WL_val (rn_assign (v := (.bool false)) rfl) rfl ?_; refine WL_nil ?_
      have hO : Owns G18 w21 w0.heap.size ([]) := hO
      have H := Option.some.inj H; subst H
      exact ⟨_, G18, upds_self _ _ ⟨rfl, trivial⟩, Gle.refl _, hS, hO⟩
    ·have H := ifF hb24 H; refine WL_guardN rfl hb24 rfl rfl rfl ?_; refine WL_guardN rfl hb24 rfl rfl rfl ?_; refine WL_val (rn_pickF (v := (.bool false)) rfl hb24 rfl) rfl ?_; refine WL_val (rn_move (v := (.bool false)) rfl) rfl ?_; refine WL_guardN rfl rfl rfl rfl rfl ?_; refine WL_guardN rfl rfl rfl rfl rfl ?_; refine WL_val (rn_pickF (v := (.bool false)) rfl rfl rfl) rfl ?_; refine WL_val (rn_move (v := (.bool false)) rfl) rfl ?_; refine WL_guardN rfl rfl rfl rfl rfl ?_; refine WL_guardN rfl rfl rfl rfl rfl ?_; refine WL_guardN rfl rfl rfl rfl rfl ?_; refine WL_guardN rfl rfl rfl rfl rfl ?_; refine WL_guardN rfl rfl rfl rfl rfl ?_; refine WL_guardN rfl rfl rfl rfl rfl ?_; refine WL_val (rn_pickF (v := (.bool false)) rfl rfl rfl) rfl ?_; refine WL_val (rn_move (v := (.bool false)) rfl) rfl ?_; refine WL_guardN rfl rfl rfl rfl rfl ?_; refine WL_val (rn_pickF (v := (.bool false)) rfl rfl rfl) rfl ?_; refine WL_val (rn_assign (v := (.bool false)) rfl) rfl ?_; refine WL_nil ?_
     have hO : Owns G18 w21 w0.heap.size ([]) := hO
     have H := Option.some.inj H; subst H
     exact ⟨_, G18, upds_self _ _ ⟨rfl, trivial⟩, Gle.refl _, hS, hO⟩
   ·rintro F w30 ⟨Fb, G31, rfl, leG31, hS, hO⟩
    refine WC_ret ?_
    have H : some q23 = some r := H
    have H := Option.some.inj H; subst H
    exact ⟨rfl, hS.below⟩
  ·have H := ifF hb22 H; refine WC_skip ?_; refine WC_seq ?_; refine WC_seq ?_; obtain ⟨q32, hq32, H⟩ := bnd H; refine WC_cut (fun F w => ∃ (Fb : Fr) (G : Gm), F = upds Fb [(1, .int .i64 x1), (2, .pointer (some ⟨b2, 0, none⟩)), (8, .slice a19 n19 c19), (9, .int .i64 y16.2), (63, .bool q32)] ∧ Gle G18 G ∧ Since w0.heap.size G0 w0 G w ∧ Owns G w w0.heap.size []) ?_ ?_
   ·have Hoq32 := H; have H := hq32; refine WC_region ?_; refine WL_val (rn_move (v := (.int .i64 y10)) rfl) rfl ?_; refine WL_val (rn_neq rfl rfl) rfl ?_; refine WL_val (rn_move (v := (.bool (y10 != 0))) rfl) rfl ?_
    rcases bcases (y10 != 0) with hb33 | hb33
    ·have H := ifT hb33 H; refine WL_guardN rfl hb33 rfl rfl rfl ?_; refine WL_guardN rfl hb33 rfl rfl rfl ?_; refine WL_val (rn_pickT (v := (.bool true)) rfl hb33 rfl) rfl ?_; refine WL_val (rn_move (v := (.bool true)) rfl) rfl ?_; refine WL_guardN rfl rfl rfl rfl rfl ?_; refine WL_guardN rfl rfl rfl rfl rfl ?_; refine WL_guardN rfl rfl rfl rfl rfl ?_; refine WL_guardN rfl rfl rfl rfl rfl ?_; refine WL_guardN rfl rfl rfl rfl rfl ?_; refine WL_val (rn_pickT (v := (.bool true)) rfl rfl rfl) rfl ?_; refine WL_nil ?_
     have hO : Owns G18 w21 w0.heap.size ([]) := hO
     have H := Option.some.inj H; subst H
     exact ⟨_, G18, upds_self _ _ ⟨rfl, rfl, rfl, rfl, rfl, trivial⟩, Gle.refl _, hS, hO⟩
    ·have H := ifF hb33 H; refine WL_guardY rfl hb33 rfl rfl ?_; refine WL_val (rn_move (v := (.int .i64 y12.2)) rfl) rfl ?_; refine WL_guardY rfl hb33 rfl rfl ?_; refine WL_val (rn_neq rfl rfl) rfl ?_; refine WL_val (rn_pickF (v := (.bool (y12.2 != 0))) rfl hb33 rfl) rfl ?_; refine WL_val (rn_move (v := (.bool (y12.2 != 0))) rfl) rfl ?_
     rcases bcases (y12.2 != 0) with hb34 | hb34
     ·have H := ifT hb34 H; refine WL_guardN rfl hb34 rfl rfl rfl ?_; refine WL_guardN rfl hb34 rfl rfl rfl ?_; refine WL_guardN rfl hb34 rfl rfl rfl ?_; refine WL_guardN rfl hb34 rfl rfl rfl ?_; refine WL_guardN rfl hb34 rfl rfl rfl ?_; refine WL_val (rn_pickT (v := (.bool true)) rfl hb34 rfl) rfl ?_; refine WL_nil ?_
      have hO : Owns G18 w21 w0.heap.size ([]) := hO
      have H := Option.some.inj H; subst H
      exact ⟨_, G18, upds_self _ _ ⟨rfl, rfl, rfl, rfl, rfl, trivial⟩, Gle.refl _, hS, hO⟩
     ·have H := ifF hb34 H; refine WL_guardY rfl hb34 rfl rfl ?_; refine WL_val (rn_move (v := (.slice a15 n15 c15)) rfl) rfl ?_; refine WL_guardY rfl hb34 rfl rfl ?_; refine WL_val (rn_loadA ag24 (cs := [.slice a1 n1 c1, .int .i64 x0.Limit]) rfl rfl (fun j v hj => (hS.sat.le l1_3).cell (hcb2.drop_take 0 2 j v hj))) rfl ?_; refine WL_guardY rfl hb34 rfl rfl ?_; obtain ⟨y35, hy35, H⟩ := bnd H; refine WL_op rfl (OpP_callG cb61 (f61_ok (x0 := x0) hS.sat (h1.mono RTBaneFish_mono l0_3) hy35) rfl rfl (fun vy35 G37 w36 hg hvy35 => ?_)); obtain ⟨a38, n38, c38, ⟨⟩, h38⟩ := hvy35; have hS := hS.grow hg; have hO := hO.grow hg
      have leG37 := hg.le
      refine WL_guardY rfl hb34 rfl rfl ?_; obtain ⟨y39, hy39, H⟩ := bnd H
      have l2_4 := leG18.trans leG37
      refine WL_op rfl (OpP_callV cb60 (f60_ok (x0 := y12.1) (x1 := y35) hS.sat (h15.mono RTSpan_mono l2_4) h38 hy39) rfl rfl (fun w40 hb => ?_)); have hS := hS.keep hb; have hO := hO.below hb; refine WL_guardY rfl hb34 rfl rfl ?_; refine WL_val (rn_not rfl) rfl ?_; refine WL_val (rn_pickF (v := (.bool (!y39))) rfl hb34 rfl) rfl ?_; refine WL_nil ?_
      have hO : Owns G37 w40 w0.heap.size ([]) := hO
      have H := Option.some.inj H; subst H
      exact ⟨_, G37, upds_self _ _ ⟨rfl, rfl, rfl, rfl, rfl, trivial⟩, leG37, hS, hO⟩
   ·rintro F w41 ⟨Fb, G42, rfl, leG42, hS, hO⟩
    refine WC_cond rfl (fun hb43 => ?_) (fun hb43 => ?_)
    ·have H := ifT hb43 H; refine WC_seq ?_; refine WC_region ?_; refine WL_val (rn_assign (v := (.bool false)) rfl) rfl ?_; refine WL_nil ?_; refine WC_ret ?_
     have H : some false = some r := H
     have H := Option.some.inj H; subst H
     exact ⟨rfl, hS.below⟩
    ·have H := ifF hb43 H; refine WC_skip ?_; refine WC_seq ?_; refine WC_seq ?_; refine WC_region ?_
     have l1_4 := l1_3.trans leG42
     refine WL_val (rn_loadA ag24 (cs := [.slice a1 n1 c1, .int .i64 x0.Limit]) rfl rfl (fun j v hj => (hS.sat.le l1_4).cell (hcb2.drop_take 0 2 j v hj))) rfl ?_; refine WL_val (rn_move (v := (.int .i64 x1)) rfl) rfl ?_; obtain ⟨y44, hy44, H⟩ := bnd H
     have l0_4 := l0_3.trans leG42
     refine WL_op rfl (OpP_callV cb48 (f48_ok (x0 := x0) (x1 := x1) hS.sat (h1.mono RTBaneFish_mono l0_4) hy44) rfl rfl (fun w45 hb => ?_)); have hS := hS.keep hb; have hO := hO.below hb; refine WL_val (rn_not rfl) rfl ?_; refine WL_nil ?_; refine WC_cond rfl (fun hb46 => ?_) (fun hb46 => ?_)
     ·have H := ifT hb46 H; refine WC_seq ?_; obtain ⟨q47, hq47, H⟩ := bnd H; refine WC_cut (fun F w => ∃ (Fb : Fr) (G : Gm), F = upds Fb [(4, .bool q47)] ∧ Gle G42 G ∧ Since w0.heap.size G0 w0 G w ∧ Owns G w w0.heap.size []) ?_ ?_
      ·have Hoq47 := H; have H := hq47; refine WC_region ?_; refine WL_val (rn_move (v := (.int .i64 y16.2)) rfl) rfl ?_; refine WL_val (rn_eql rfl rfl) rfl ?_; refine WL_val (rn_move (v := (.bool (y16.2 == 2))) rfl) rfl ?_
       rcases bcases (y16.2 == 2) with hb48 | hb48
       ·have H := ifT hb48 H; refine WL_guardY rfl hb48 rfl rfl ?_; refine WL_val (rn_move (v := (.slice a19 n19 c19)) rfl) rfl ?_; refine WL_guardY rfl hb48 rfl rfl ?_; refine WL_val (rn_len sl25 rfl rfl (h19.mono RInt_mono leG42).1) rfl ?_; refine WL_guardY rfl hb48 rfl rfl ?_; refine WL_val (rn_eql rfl rfl) rfl ?_; refine WL_val (rn_pickT (v := (.bool ((y16.1.length : Int) == 0))) rfl hb48 rfl) rfl ?_; refine WL_val (rn_move (v := (.bool ((y16.1.length : Int) == 0))) rfl) rfl ?_
        rcases bcases ((y16.1.length : Int) == 0) with hb49 | hb49
        ·have H := ifT hb49 H; refine WL_guardY rfl hb49 rfl rfl ?_; obtain ⟨y50, hy50, H⟩ := bnd H; refine WL_op rfl (OpP_callV cb19 (f19_ok  hS.sat  hy50) rfl rfl (fun w51 hb => ?_)); have hS := hS.keep hb; have hO := hO.below hb; refine WL_val (rn_pickT (v := (.bool y50)) rfl hb49 rfl) rfl ?_; refine WL_val (rn_assign (v := (.bool y50)) rfl) rfl ?_; refine WL_nil ?_
         have hO : Owns G42 w51 w0.heap.size ([]) := hO
         have H := Option.some.inj H; subst H
         exact ⟨_, G42, upds_self _ _ ⟨rfl, trivial⟩, Gle.refl _, hS, hO⟩
        ·have H := ifF hb49 H; refine WL_guardN rfl hb49 rfl rfl rfl ?_; refine WL_val (rn_pickF (v := (.bool false)) rfl hb49 rfl) rfl ?_; refine WL_val (rn_assign (v := (.bool false)) rfl) rfl ?_; refine WL_nil ?_
         have hO : Owns G42 w45 w0.heap.size ([]) := hO
         have H := Option.some.inj H; subst H
         exact ⟨_, G42, upds_self _ _ ⟨rfl, trivial⟩, Gle.refl _, hS, hO⟩
       ·have H := ifF hb48 H; refine WL_guardN rfl hb48 rfl rfl rfl ?_; refine WL_guardN rfl hb48 rfl rfl rfl ?_; refine WL_guardN rfl hb48 rfl rfl rfl ?_; refine WL_val (rn_pickF (v := (.bool false)) rfl hb48 rfl) rfl ?_; refine WL_val (rn_move (v := (.bool false)) rfl) rfl ?_; refine WL_guardN rfl rfl rfl rfl rfl ?_; refine WL_val (rn_pickF (v := (.bool false)) rfl rfl rfl) rfl ?_; refine WL_val (rn_assign (v := (.bool false)) rfl) rfl ?_; refine WL_nil ?_
        have hO : Owns G42 w45 w0.heap.size ([]) := hO
        have H := Option.some.inj H; subst H
        exact ⟨_, G42, upds_self _ _ ⟨rfl, trivial⟩, Gle.refl _, hS, hO⟩
      ·rintro F w52 ⟨Fb, G53, rfl, leG53, hS, hO⟩
       refine WC_ret ?_
       have H : some q47 = some r := H
       have H := Option.some.inj H; subst H
       exact ⟨rfl, hS.below⟩
     ·have H := ifF hb46 H; refine WC_skip ?_; refine WC_seq ?_; obtain ⟨q54, hq54, H⟩ := bnd H; refine WC_cut (fun F w => ∃ (Fb : Fr) (G : Gm), F = upds Fb [(4, .bool q54)] ∧ Gle G42 G ∧ Since w0.heap.size G0 w0 G w ∧ Owns G w w0.heap.size []) ?_ ?_
      ·have Hoq54 := H; have H := hq54; refine WC_region ?_; refine WL_val (rn_move (v := (.int .i64 y16.2)) rfl) rfl ?_; refine WL_val (rn_eql rfl rfl) rfl ?_; refine WL_val (rn_move (v := (.bool (y16.2 == 0))) rfl) rfl ?_
       rcases bcases (y16.2 == 0) with hb55 | hb55
       ·have H := ifT hb55 H; refine WL_guardY rfl hb55 rfl rfl ?_; refine WL_val (rn_move (v := (.slice a19 n19 c19)) rfl) rfl ?_; refine WL_guardY rfl hb55 rfl rfl ?_; refine WL_val (rn_loadA ag24 (cs := [.slice a1 n1 c1, .int .i64 x0.Limit]) rfl rfl (fun j v hj => (hS.sat.le l1_4).cell (hcb2.drop_take 0 2 j v hj))) rfl ?_; refine WL_guardY rfl hb55 rfl rfl ?_; refine WL_val (rn_move (v := (.int .i64 x1)) rfl) rfl ?_; refine WL_guardY rfl hb55 rfl rfl ?_; obtain ⟨y56, hy56, H⟩ := bnd H; refine WL_op rfl (OpP_callG cb62 (f62_ok (x0 := x0) (x1 := x1) hS.sat (h1.mono RTBaneFish_mono l0_4) hy56) rfl rfl (fun vy56 G58 w57 hg hvy56 => ?_)); obtain ⟨a59, n59, c59, ⟨⟩, h59⟩ := hvy56; have hS := hS.grow hg; have hO := hO.grow hg
        have leG58 := hg.le
        refine WL_guardY rfl hb55 rfl rfl ?_; obtain ⟨y60, hy60, H⟩ := bnd H
        have l3_5 := leG42.trans leG58
        refine WL_op rfl (OpP_callV cb23 (f23_ok (x0 := y16.1) (x1 := y56) hS.sat (h19.mono RInt_mono l3_5) h59 hy60) rfl rfl (fun w61 hb => ?_)); have hS := hS.keep hb; have hO := hO.below hb; refine WL_val (rn_pickT (v := (.bool y60)) rfl hb55 rfl) rfl ?_; refine WL_val (rn_move (v := (.bool y60)) rfl) rfl ?_
        rcases bcases y60 with hb62 | hb62
        ·have H := ifT hb62 H; refine WL_guardY rfl hb62 rfl rfl ?_; obtain ⟨y63, hy63, H⟩ := bnd H; refine WL_op rfl (OpP_callV cb19 (f19_ok  hS.sat  hy63) rfl rfl (fun w64 hb => ?_)); have hS := hS.keep hb; have hO := hO.below hb; refine WL_val (rn_pickT (v := (.bool y63)) rfl hb62 rfl) rfl ?_; refine WL_val (rn_assign (v := (.bool y63)) rfl) rfl ?_; refine WL_nil ?_
         have hO : Owns G58 w64 w0.heap.size ([]) := hO
         have H := Option.some.inj H; subst H
         exact ⟨_, G58, upds_self _ _ ⟨rfl, trivial⟩, leG58, hS, hO⟩
        ·have H := ifF hb62 H; refine WL_guardN rfl hb62 rfl rfl rfl ?_; refine WL_val (rn_pickF (v := (.bool false)) rfl hb62 rfl) rfl ?_; refine WL_val (rn_assign (v := (.bool false)) rfl) rfl ?_; refine WL_nil ?_
         have hO : Owns G58 w61 w0.heap.size ([]) := hO
         have H := Option.some.inj H; subst H
         exact ⟨_, G58, upds_self _ _ ⟨rfl, trivial⟩, leG58, hS, hO⟩
       ·have H := ifF hb55 H; refine WL_guardN rfl hb55 rfl rfl rfl ?_; refine WL_guardN rfl hb55 rfl rfl rfl ?_; refine WL_guardN rfl hb55 rfl rfl rfl ?_; refine WL_guardN rfl hb55 rfl rfl rfl ?_; refine WL_guardN rfl hb55 rfl rfl rfl ?_; refine WL_val (rn_pickF (v := (.bool false)) rfl hb55 rfl) rfl ?_; refine WL_val (rn_move (v := (.bool false)) rfl) rfl ?_; refine WL_guardN rfl rfl rfl rfl rfl ?_; refine WL_val (rn_pickF (v := (.bool false)) rfl rfl rfl) rfl ?_; refine WL_val (rn_assign (v := (.bool false)) rfl) rfl ?_; refine WL_nil ?_
        have hO : Owns G42 w45 w0.heap.size ([]) := hO
        have H := Option.some.inj H; subst H
        exact ⟨_, G42, upds_self _ _ ⟨rfl, trivial⟩, Gle.refl _, hS, hO⟩
      ·rintro F w65 ⟨Fb, G66, rfl, leG66, hS, hO⟩
       refine WC_ret ?_
       have H : some q54 = some r := H
       have H := Option.some.inj H; subst H
       exact ⟨rfl, hS.below⟩
end Go.Proofs.Ytgplafckddpnkaa
