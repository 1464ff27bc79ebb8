/-
  The walks: each Go function computes its plain function (printed by a program of ours).
-/
import Derived.Test.YtgplafckddpnkaaRd
import Derived.Test.YtgplafckddpnkaaIt
import Derived.Test.YtgplafckddpnkaaBaseL
import Derived.Test.YtgplafckddpnkaaP16W3
namespace Go.Proofs.Ytgplafckddpnkaa
open Go.RowKit
set_option linter.unusedVariables false

set_option maxRecDepth 20000
set_option linter.unusedVariables false
set_option maxHeartbeats 1000000 in
theorem f89_ok {G0 : Gm} {w0 : World} (hS0 : Sat G0 w0) {x0 : (List TBaneFish)} {a1 : Option Addr} {n1 c1 : Nat} {x1 : (TBaneFish → Option Int)} {k2 : Nat} {fi2 ca2 : List Value} {x2 : (Int → Option Bool)} {k3 : Nat} {fi3 ca3 : List Value} (h1 : RSl RTBaneFish 5 G0 a1 n1 c1 x0) (hf2 : FnOk131 G0 k2 fi2 ca2 x1) (hf3 : FnOk125 G0 k3 fi3 ca3 x2) {r : TChoice × Bool} (H : f89 x0 x1 x2 = some r) :
  Calls Try.prog 89 #[.slice a1 n1 c1, .func (.func k2) (fi2).toArray (ca2).toArray, .func (.func k3) (fi3).toArray (ca3).toArray] w0 (RetG G0 w0 (fun G v => ∃ (ra0 : Option Addr) (rn0 rc0 : Nat), v = .tuple #[.agg #[.int .i64 r.1.cost, .slice ra0 rn0 rc0], .bool r.2] ∧ RSl RInt 1 G ra0 rn0 rc0 r.1.list)) := by
 have hS := Since.start hS0
 have hO : Owns G0 w0 w0.heap.size [] := Owns.nil (Nat.le_refl _)
 unfold f89 at H
 refine enterG (N := 59) (shutG _ _ _) [.cell 6 121, .tmp 7] Try.func89 rfl rfl rfl rfl ?_; refine WC_seq ?_; refine WC_region ?_
 refine WL_op rfl (OpP_newO (v := fun b => .pointer (some ⟨b, 0, none⟩)) (cs := [.int .i64 0, .slice none 0 0]) (e := 121) (by kernel_rfl) hS.sat hO rfl 2 1 rfl (by decide) (fun b4 w5 hb hO => ?_))
 have hS := hS.keep hb; refine WL_val (rn_assign (v := (.bool false)) rfl) rfl ?_; refine WL_nil ?_; refine WC_seq ?_; refine WC_region ?_
 refine WL_op rfl (OpP_newO (v := fun b => .pointer (some ⟨b, 0, none⟩)) (cs := [.int .i64 0, .slice none 0 0]) (e := 121) (by kernel_rfl) hS.sat hO rfl 2 1 rfl (by decide) (fun b7 w8 hb hO => ?_))
 have hS := hS.keep hb; refine WL_nil ?_; refine WC_seq ?_; refine WC_region ?_; refine WL_val (rn_assign (v := (.bool false)) rfl) rfl ?_; refine WL_nil ?_; refine WC_seq ?_; refine WC_seq ?_; refine WC_region ?_; refine WL_val (rn_move (v := (.slice a1 n1 c1)) rfl) rfl ?_; refine WL_val (rn_len sl22 rfl rfl h1.1) rfl ?_; obtain ⟨y10, hy10, H⟩ := bnd H; refine WL_val (rn_shl rfl rfl hy10) rfl ?_; refine WL_val (rn_move (v := (.int .i64 0)) rfl) rfl ?_; refine WL_nil ?_; obtain ⟨q13, hq13, H⟩ := bnd H; refine WC_cut (fun F w => ∃ (Fb : Fr) (G : Gm) (aq13_0 : Option Addr) (nq13_0 cq13_0 : Nat) (aq13_1 : Option Addr) (nq13_1 cq13_1 : Nat), F = upds Fb [(6, .pointer (some ⟨b4, 0, none⟩)), (8, .pointer (some ⟨b7, 0, none⟩)), (9, .bool q13.1)] ∧ Gle G0 G ∧ Since w0.heap.size G0 w0 G w ∧ Owns G w w0.heap.size [⟨121, 2, 1, .slice (some ⟨b7, 0, none⟩) 1 1, [.int .i64 q13.2.1.cost, .slice aq13_0 nq13_0 cq13_0]⟩, ⟨121, 2, 1, .slice (some ⟨b4, 0, none⟩) 1 1, [.int .i64 q13.2.2.cost, .slice aq13_1 nq13_1 cq13_1]⟩] ∧ RSl RInt 1 G aq13_0 nq13_0 cq13_0 q13.2.1.list ∧ RSl RInt 1 G aq13_1 nq13_1 cq13_1 q13.2.2.list) ?_ ?_
 ·refine WC_block (WC_loop hq13 (fun s11 F w => ∃ (Fb : Fr) (G : Gm) (as11_0 : Option Addr) (ns11_0 cs11_0 : Nat) (as11_1 : Option Addr) (ns11_1 cs11_1 : Nat), F = upds Fb [(0, .slice a1 n1 c1), (1, .func (.func k2) (fi2).toArray (ca2).toArray), (2, .func (.func k3) (fi3).toArray (ca3).toArray), (6, .pointer (some ⟨b4, 0, none⟩)), (8, .pointer (some ⟨b7, 0, none⟩)), (9, .bool s11.1), (16, .int .i64 y10), (17, .int .i64 s11.2.1)] ∧ Gle G0 G ∧ Since w0.heap.size G0 w0 G w ∧ Owns G w w0.heap.size [⟨121, 2, 1, .slice (some ⟨b7, 0, none⟩) 1 1, [.int .i64 s11.2.2.1.cost, .slice as11_0 ns11_0 cs11_0]⟩, ⟨121, 2, 1, .slice (some ⟨b4, 0, none⟩) 1 1, [.int .i64 s11.2.2.2.cost, .slice as11_1 ns11_1 cs11_1]⟩] ∧ RSl RInt 1 G as11_0 ns11_0 cs11_0 s11.2.2.1.list ∧ RSl RInt 1 G as11_1 ns11_1 cs11_1 s11.2.2.2.list) ?_ ?_)
  ·have hO : Owns G0 w8 w0.heap.size ([⟨121, 2, 1, .slice (some ⟨b7, 0, none⟩) 1 1, [.int .i64 0, .slice none 0 0]⟩, ⟨121, 2, 1, .slice (some ⟨b4, 0, none⟩) 1 1, [.int .i64 0, .slice none 0 0]⟩]) := hO
   exact ⟨_, G0, none, 0, 0, none, 0, 0, upds_self _ _ ⟨rfl, rfl, rfl, rfl, rfl, rfl, rfl, rfl, trivial⟩, Gle.refl _, hS, hO, (RSl.nil _ _ _ _), (RSl.nil _ _ _ _)⟩
  ·rintro s11 F w15 t14 ⟨Fb, G16, as11_0, ns11_0, cs11_0, as11_1, ns11_1, cs11_1, rfl, leG16, hS, hO, hs11_0, hs11_1⟩
   intro H1 hqq13
   have Hoq13 := H; have H := H1
   unfold f89_b0 at H
   refine WC_seq ?_; refine WC_region ?_; refine WL_val (rn_lss rfl rfl) rfl ?_; refine WL_nil ?_; refine WC_seq ?_; refine WC_cond rfl (fun hb17 => ?_) (fun hb17 => ?_)
   ·have H := ifT hb17 H; refine WC_skip ?_; refine WC_seq ?_; obtain ⟨q18, hq18, H⟩ := bnd H; refine WC_cut (fun F w => ∃ (Fb : Fr) (G : Gm) (aq18_0 : Option Addr) (nq18_0 cq18_0 : Nat) (aq18_1 : Option Addr) (nq18_1 cq18_1 : Nat), F = upds Fb [(0, .slice a1 n1 c1), (1, .func (.func k2) (fi2).toArray (ca2).toArray), (2, .func (.func k3) (fi3).toArray (ca3).toArray), (6, .pointer (some ⟨b4, 0, none⟩)), (8, .pointer (some ⟨b7, 0, none⟩)), (9, .bool q18.1), (16, .int .i64 y10), (17, .int .i64 s11.2.1)] ∧ Gle G16 G ∧ Since w0.heap.size G0 w0 G w ∧ Owns G w w0.heap.size [⟨121, 2, 1, .slice (some ⟨b7, 0, none⟩) 1 1, [.int .i64 q18.2.1.cost, .slice aq18_0 nq18_0 cq18_0]⟩, ⟨121, 2, 1, .slice (some ⟨b4, 0, none⟩) 1 1, [.int .i64 q18.2.2.cost, .slice aq18_1 nq18_1 cq18_1]⟩] ∧ RSl RInt 1 G aq18_0 nq18_0 cq18_0 q18.2.1.list ∧ RSl RInt 1 G aq18_1 nq18_1 cq18_1 q18.2.2.list) ?_ ?_
    ·have Hoq18 := H; have H := hq18; refine WC_block ?_; refine WC_seq ?_; refine WC_region ?_; refine WL_val (rn_move (v := (.int .i64 s11.2.1)) rfl) rfl ?_; refine WL_val (rn_assign (v := (.int .i64 s11.2.1)) rfl) rfl ?_; refine WL_nil ?_; refine WC_seq ?_; refine WC_region ?_; refine WL_val (rn_move (v := (.int .i64 s11.2.1)) rfl) rfl ?_; refine WL_val (rn_move (v := (.slice a1 n1 c1)) rfl) rfl ?_; refine WL_val (rn_len sl22 rfl rfl (h1.mono RTBaneFish_mono leG16).1) rfl ?_; obtain ⟨y19, hy19, H⟩ := bnd H; refine WL_op rfl (OpP_callG cb105 (f105_ok (x0 := s11.2.1) (x1 := (x0.length : Int)) hS.sat  hy19) rfl rfl (fun vy19 G21 w20 hg hvy19 => ?_)); obtain ⟨a22, n22, c22, ⟨⟩, h22⟩ := hvy19; have hS := hS.grow hg; have hO := hO.grow hg
     have leG21 := hg.le
     refine WL_val (v := (.agg #[.int .i64 0, .slice a22 n22 c22])) (by kernel_rfl) rfl ?_
     refine WL_op rfl (OpP_newO (v := fun b => .pointer (some ⟨b, 0, none⟩)) (cs := [.int .i64 0, .slice none 0 0]) (e := 121) (by kernel_rfl) hS.sat hO rfl 2 1 rfl (by decide) (fun b23 w24 hb hO => ?_))
     have hS := hS.keep hb; refine WL_op rfl (OpP_store (vs := [.int .i64 0, .slice a22 n22 c22]) sz121 hS hO (k := 0) rfl rfl rfl rfl rfl (one_all rfl) (Nat.le_of_ble_eq_true rfl) (fun w26 hS hO => ?_))
     have hO : Owns G21 w26 w0.heap.size ([⟨121, 2, 1, .slice (some ⟨b23, 0, none⟩) 1 1, [.int .i64 0, .slice a22 n22 c22]⟩, ⟨121, 2, 1, .slice (some ⟨b7, 0, none⟩) 1 1, [.int .i64 s11.2.2.1.cost, .slice as11_0 ns11_0 cs11_0]⟩, ⟨121, 2, 1, .slice (some ⟨b4, 0, none⟩) 1 1, [.int .i64 s11.2.2.2.cost, .slice as11_1 ns11_1 cs11_1]⟩]) := hO
     refine WL_nil ?_; refine WC_seq ?_; refine WC_seq ?_; refine WC_region ?_; refine WL_val (rn_fld fd121_1 rfl) rfl ?_; refine WL_val (rn_load na25 rfl (own_cell hO (k := 0) rfl (j := 1) rfl)) rfl ?_; refine WL_val (rn_len sl25 rfl rfl h22.1) rfl ?_; refine WL_val (rn_move (v := (.int .i64 0)) rfl) rfl ?_; refine WL_nil ?_; obtain ⟨q29, hq29, H⟩ := bnd H; refine WC_cut (fun F w => ∃ (Fb : Fr) (G : Gm) (aq29_0 : Option Addr) (nq29_0 cq29_0 : Nat) (aq29_1 : Option Addr) (nq29_1 cq29_1 : Nat) (aq29_2 : Option Addr) (nq29_2 cq29_2 : Nat), F = upds Fb [(0, .slice a1 n1 c1), (1, .func (.func k2) (fi2).toArray (ca2).toArray), (2, .func (.func k3) (fi3).toArray (ca3).toArray), (6, .pointer (some ⟨b4, 0, none⟩)), (8, .pointer (some ⟨b7, 0, none⟩)), (9, .bool s11.1), (10, .int .i64 s11.2.1), (11, .pointer (some ⟨b23, 0, none⟩)), (16, .int .i64 y10), (17, .int .i64 s11.2.1)] ∧ Gle G21 G ∧ Since w0.heap.size G0 w0 G w ∧ Owns G w w0.heap.size [⟨121, 2, 1, .slice (some ⟨b23, 0, none⟩) 1 1, [.int .i64 q29.1.cost, .slice aq29_0 nq29_0 cq29_0]⟩, ⟨121, 2, 1, .slice (some ⟨b7, 0, none⟩) 1 1, [.int .i64 q29.2.1.cost, .slice aq29_1 nq29_1 cq29_1]⟩, ⟨121, 2, 1, .slice (some ⟨b4, 0, none⟩) 1 1, [.int .i64 q29.2.2.cost, .slice aq29_2 nq29_2 cq29_2]⟩] ∧ RSl RInt 1 G aq29_0 nq29_0 cq29_0 q29.1.list ∧ RSl RInt 1 G aq29_1 nq29_1 cq29_1 q29.2.1.list ∧ RSl RInt 1 G aq29_2 nq29_2 cq29_2 q29.2.2.list) ?_ ?_
     ·refine WC_block (WC_loop hq29 (fun s27 F w => ∃ (Fb : Fr) (G : Gm) (as27_0 : Option Addr) (ns27_0 cs27_0 : Nat) (as27_1 : Option Addr) (ns27_1 cs27_1 : Nat) (as27_2 : Option Addr) (ns27_2 cs27_2 : Nat), F = upds Fb [(0, .slice a1 n1 c1), (1, .func (.func k2) (fi2).toArray (ca2).toArray), (2, .func (.func k3) (fi3).toArray (ca3).toArray), (6, .pointer (some ⟨b4, 0, none⟩)), (8, .pointer (some ⟨b7, 0, none⟩)), (9, .bool s11.1), (10, .int .i64 s11.2.1), (11, .pointer (some ⟨b23, 0, none⟩)), (16, .int .i64 y10), (17, .int .i64 s11.2.1), (26, .slice a22 n22 c22), (27, .int .i64 (y19.length : Int)), (28, .int .i64 s27.1)] ∧ Gle G21 G ∧ Since w0.heap.size G0 w0 G w ∧ Owns G w w0.heap.size [⟨121, 2, 1, .slice (some ⟨b23, 0, none⟩) 1 1, [.int .i64 s27.2.1.cost, .slice as27_0 ns27_0 cs27_0]⟩, ⟨121, 2, 1, .slice (some ⟨b7, 0, none⟩) 1 1, [.int .i64 s27.2.2.1.cost, .slice as27_1 ns27_1 cs27_1]⟩, ⟨121, 2, 1, .slice (some ⟨b4, 0, none⟩) 1 1, [.int .i64 s27.2.2.2.cost, .slice as27_2 ns27_2 cs27_2]⟩] ∧ RSl RInt 1 G as27_0 ns27_0 cs27_0 s27.2.1.list ∧ RSl RInt 1 G as27_1 ns27_1 cs27_1 s27.2.2.1.list ∧ RSl RInt 1 G as27_2 ns27_2 cs27_2 s27.2.2.2.list) ?_ ?_)
      ·have hO : Owns G21 w26 w0.heap.size ([⟨121, 2, 1, .slice (some ⟨b23, 0, none⟩) 1 1, [.int .i64 0, .slice a22 n22 c22]⟩, ⟨121, 2, 1, .slice (some ⟨b7, 0, none⟩) 1 1, [.int .i64 s11.2.2.1.cost, .slice as11_0 ns11_0 cs11_0]⟩, ⟨121, 2, 1, .slice (some ⟨b4, 0, none⟩) 1 1, [.int .i64 s11.2.2.2.cost, .slice as11_1 ns11_1 cs11_1]⟩]) := hO
       exact ⟨_, G21, a22, n22, c22, as11_0, ns11_0, cs11_0, as11_1, ns11_1, cs11_1, upds_self _ _ ⟨rfl, rfl, rfl, rfl, rfl, rfl, rfl, rfl, rfl, rfl, rfl, rfl, rfl, trivial⟩, Gle.refl _, hS, hO, h22, (hs11_0.mono RInt_mono leG21), (hs11_1.mono RInt_mono leG21)⟩
      ·rintro s27 F w31 t30 ⟨Fb, G32, as27_0, ns27_0, cs27_0, as27_1, ns27_1, cs27_1, as27_2, ns27_2, cs27_2, rfl, leG32, hS, hO, hs27_0, hs27_1, hs27_2⟩
       intro H1 hqq29
       have Hoq29 := H; have H := H1
       unfold f89_b1 at H
       refine WC_seq ?_; refine WC_region ?_; refine WL_val (rn_lss rfl rfl) rfl ?_; refine WL_nil ?_; refine WC_seq ?_; refine WC_cond rfl (fun hb33 => ?_) (fun hb33 => ?_)
       ·have H := ifT hb33 H; refine WC_skip ?_; refine WC_seq ?_; refine WC_block ?_; refine WC_seq ?_; refine WC_region ?_; obtain ⟨y34, hy34, H⟩ := bnd H; refine WL_idx sl25 (h22.mono RInt_mono leG32) hy34 rfl rfl rfl ?_
        rintro b35 o35 _ hcb35 _ ⟨⟩
        refine WL_val (rn_load na3 rfl (hS.sat.cell (hcb35 0 _ rfl))) rfl ?_; refine WL_val (rn_assign (v := (.int .i64 y34)) rfl) rfl ?_; refine WL_nil ?_; have hS := hS.keep (below_drew _); have hO := hO.below (below_drew _)
        refine WC_regionD mixedO (fun _ w => Sat G32 w ∧ Owns G32 w w0.heap.size [⟨121, 2, 1, .slice (some ⟨b23, 0, none⟩) 1 1, [.int .i64 s27.2.1.cost, .slice as27_0 ns27_0 cs27_0]⟩, ⟨121, 2, 1, .slice (some ⟨b7, 0, none⟩) 1 1, [.int .i64 s27.2.2.1.cost, .slice as27_1 ns27_1 cs27_1]⟩, ⟨121, 2, 1, .slice (some ⟨b4, 0, none⟩) 1 1, [.int .i64 s27.2.2.2.cost, .slice as27_2 ns27_2 cs27_2]⟩]) (.fl 0 (.fl 1 (.fl 2 (.fl 3 (.on 4 (.on 5 (.on 6 (.on 7 (.on 8 (.on 9 (.on 10 .nil))))))))))) (by kernel_rfl) rfl (by kernel_rfl) (fun _ => ⟨hS.sat, hO⟩) ?_
        refine WD_val rfl (fun w hw => rn_fld fd121_0 rfl) rfl ?_; refine WD_val rfl (fun w hw => rn_load na3 rfl (own_cell hw.2 (k := 0) rfl (j := 0) rfl)) rfl ?_; refine WD_val rfl (fun w hw => rn_move (v := (.func (.func k2) (fi2).toArray (ca2).toArray)) rfl) rfl ?_; refine WD_val rfl (fun w hw => rn_move (v := (.slice a1 n1 c1)) rfl) rfl ?_; refine WD_op rfl rfl (OpP_val (rn_move (v := (.int .i64 y34)) rfl) rfl ?_); refine ⟨fun _ _ => ⟨hS.sat, hO⟩, ?_⟩; obtain ⟨y36, hy36, H⟩ := bnd H
        have l0_3 := (leG16.trans leG21).trans leG32
        refine WD_op rfl rfl (OpP_idx sl22 (h1.mono RTBaneFish_mono l0_3) hy36 rfl rfl rfl ?_)
        rintro b37 o37 _ hcb37 _ ⟨a38, n38, c38, ⟨⟩, h38⟩
        refine ⟨fun _ _ => ⟨hS.sat, hO⟩, ?_⟩; refine WD_op rfl rfl (OpP_val (rn_loadA ag72 (cs := [.int .i64 y36.Base.Low, .int .i64 y36.Base.High, .slice a38 n38 c38, .int .i64 y36.Pass, .int .i64 y36.Cost]) rfl rfl (fun j v hj => hS.sat.cell (hcb37.drop_take 0 5 j v hj))) rfl ?_); refine ⟨fun _ _ => ⟨hS.sat, hO⟩, ?_⟩; obtain ⟨y39, hy39, H⟩ := bnd H; refine WD_op rfl rfl (OpP_callVF hf2.1 (hf2.2 _ _ l0_3 hS.sat y36 _ _ _ _ h38 hy39) rfl rfl rfl (fun w40 hb => ?_)); have hS := hS.keep hb; have hO := hO.below hb; refine ⟨fun _ _ => ⟨hS.sat, hO⟩, ?_⟩; refine WD_op rfl rfl (OpP_val (rn_add rfl rfl) rfl ?_)
        refine ⟨fun _ h => noneed (by kernel_rfl) h, ?_⟩
        refine WD_op rfl rfl (OpP_val (rn_fld fd121_0 rfl) rfl ?_)
        refine ⟨fun _ h => noneed (by kernel_rfl) h, ?_⟩
        refine WD_op rfl rfl (OpP_store (vs := [.int .i64 (IntKind.i64.wrap (s27.2.1.cost + y39))]) sz3 hS hO (k := 0) rfl rfl rfl rfl rfl (one_all rfl) (Nat.le_of_ble_eq_true rfl) (fun w41 hS hO => ?_))
        have hO : Owns G32 w41 w0.heap.size ([⟨121, 2, 1, .slice (some ⟨b23, 0, none⟩) 1 1, [.int .i64 (IntKind.i64.wrap (s27.2.1.cost + y39)), .slice as27_0 ns27_0 cs27_0]⟩, ⟨121, 2, 1, .slice (some ⟨b7, 0, none⟩) 1 1, [.int .i64 s27.2.2.1.cost, .slice as27_1 ns27_1 cs27_1]⟩, ⟨121, 2, 1, .slice (some ⟨b4, 0, none⟩) 1 1, [.int .i64 s27.2.2.2.cost, .slice as27_2 ns27_2 cs27_2]⟩]) := hO
        refine ⟨fun _ h => noneed (by kernel_rfl) h, ?_⟩
        refine WD_nil ?_; refine WC_region ?_; refine WL_val (rn_add rfl rfl) rfl ?_; refine WL_val (rn_move (v := (.int .i64 (IntKind.i64.wrap (s27.1 + 1)))) rfl) rfl ?_; refine WL_nil ?_
        have hO : Owns G32 w41 w0.heap.size ([⟨121, 2, 1, .slice (some ⟨b23, 0, none⟩) 1 1, [.int .i64 (IntKind.i64.wrap (s27.2.1.cost + y39)), .slice as27_0 ns27_0 cs27_0]⟩, ⟨121, 2, 1, .slice (some ⟨b7, 0, none⟩) 1 1, [.int .i64 s27.2.2.1.cost, .slice as27_1 ns27_1 cs27_1]⟩, ⟨121, 2, 1, .slice (some ⟨b4, 0, none⟩) 1 1, [.int .i64 s27.2.2.2.cost, .slice as27_2 ns27_2 cs27_2]⟩]) := hO
        have H := Option.some.inj H; subst H; refine ⟨_, rfl, ?_⟩
        exact ⟨_, G32, as27_0, ns27_0, cs27_0, as27_1, ns27_1, cs27_1, as27_2, ns27_2, cs27_2, upds_self _ _ ⟨rfl, rfl, rfl, rfl, rfl, rfl, rfl, rfl, rfl, rfl, rfl, rfl, rfl, trivial⟩, leG32, hS, hO, hs27_0, hs27_1, hs27_2⟩
       ·have H := ifF hb33 H; refine WC_exit rfl ?_
        have hO : Owns G32 w31 w0.heap.size ([⟨121, 2, 1, .slice (some ⟨b23, 0, none⟩) 1 1, [.int .i64 s27.2.1.cost, .slice as27_0 ns27_0 cs27_0]⟩, ⟨121, 2, 1, .slice (some ⟨b7, 0, none⟩) 1 1, [.int .i64 s27.2.2.1.cost, .slice as27_1 ns27_1 cs27_1]⟩, ⟨121, 2, 1, .slice (some ⟨b4, 0, none⟩) 1 1, [.int .i64 s27.2.2.2.cost, .slice as27_2 ns27_2 cs27_2]⟩]) := hO
        have H := Option.some.inj H; subst H
        have hres := hqq29 _ rfl
        subst hres
        exact ⟨_, G32, as27_0, ns27_0, cs27_0, as27_1, ns27_1, cs27_1, as27_2, ns27_2, cs27_2, upds_self _ _ ⟨rfl, rfl, rfl, rfl, rfl, rfl, rfl, rfl, rfl, rfl, trivial⟩, leG32, hS, hO, hs27_0, hs27_1, hs27_2⟩
     ·rintro F w42 ⟨Fb, G43, aq29_0, nq29_0, cq29_0, aq29_1, nq29_1, cq29_1, aq29_2, nq29_2, cq29_2, rfl, leG43, hS, hO, hq29_0, hq29_1, hq29_2⟩
      refine WC_seq ?_; obtain ⟨q44, hq44, H⟩ := bnd H; refine WC_cut (fun F w => ∃ (Fb : Fr) (G : Gm), F = upds Fb [(0, .slice a1 n1 c1), (1, .func (.func k2) (fi2).toArray (ca2).toArray), (2, .func (.func k3) (fi3).toArray (ca3).toArray), (6, .pointer (some ⟨b4, 0, none⟩)), (8, .pointer (some ⟨b7, 0, none⟩)), (9, .bool s11.1), (11, .pointer (some ⟨b23, 0, none⟩)), (16, .int .i64 y10), (17, .int .i64 s11.2.1), (54, .bool q44)] ∧ Gle G43 G ∧ Since w0.heap.size G0 w0 G w ∧ Owns G w w0.heap.size [⟨121, 2, 1, .slice (some ⟨b23, 0, none⟩) 1 1, [.int .i64 q29.1.cost, .slice aq29_0 nq29_0 cq29_0]⟩, ⟨121, 2, 1, .slice (some ⟨b7, 0, none⟩) 1 1, [.int .i64 q29.2.1.cost, .slice aq29_1 nq29_1 cq29_1]⟩, ⟨121, 2, 1, .slice (some ⟨b4, 0, none⟩) 1 1, [.int .i64 q29.2.2.cost, .slice aq29_2 nq29_2 cq29_2]⟩]) ?_ ?_
      ·have Hoq44 := H; have H := hq44; refine WC_region ?_; refine WL_val (rn_move (v := (.bool s11.1)) rfl) rfl ?_; refine WL_val (rn_not rfl) rfl ?_; refine WL_val (rn_move (v := (.bool (!s11.1))) rfl) rfl ?_
       rcases bcases (!s11.1) with hb45 | hb45
       ·have H := ifT hb45 H; refine WL_guardN rfl hb45 rfl rfl rfl ?_; refine WL_guardN rfl hb45 rfl rfl rfl ?_; refine WL_guardN rfl hb45 rfl rfl rfl ?_; refine WL_val (rn_pickT (v := (.bool true)) rfl hb45 rfl) rfl ?_; refine WL_val (rn_move (v := (.bool true)) rfl) rfl ?_; refine WL_guardY rfl rfl rfl rfl ?_; refine WL_val (rn_move (v := (.func (.func k3) (fi3).toArray (ca3).toArray)) rfl) rfl ?_; refine WL_guardY rfl rfl rfl rfl ?_; refine WL_val (rn_move (v := (.int .i64 s11.2.1)) rfl) rfl ?_; refine WL_guardY rfl rfl rfl rfl ?_; obtain ⟨y46, hy46, H⟩ := bnd H
        have l0_3 := (leG16.trans leG21).trans leG43
        refine WL_op rfl (OpP_callVF hf3.1 (hf3.2 _ _ l0_3 hS.sat s11.2.1 _  hy46) rfl rfl rfl (fun w47 hb => ?_)); have hS := hS.keep hb; have hO := hO.below hb; refine WL_val (rn_pickT (v := (.bool y46)) rfl rfl rfl) rfl ?_; refine WL_nil ?_
        have hO : Owns G43 w47 w0.heap.size ([⟨121, 2, 1, .slice (some ⟨b23, 0, none⟩) 1 1, [.int .i64 q29.1.cost, .slice aq29_0 nq29_0 cq29_0]⟩, ⟨121, 2, 1, .slice (some ⟨b7, 0, none⟩) 1 1, [.int .i64 q29.2.1.cost, .slice aq29_1 nq29_1 cq29_1]⟩, ⟨121, 2, 1, .slice (some ⟨b4, 0, none⟩) 1 1, [.int .i64 q29.2.2.cost, .slice aq29_2 nq29_2 cq29_2]⟩]) := hO
        have H := Option.some.inj H; subst H
        exact ⟨_, G43, upds_self _ _ ⟨rfl, rfl, rfl, rfl, rfl, rfl, rfl, rfl, rfl, rfl, trivial⟩, Gle.refl _, hS, hO⟩
       ·have H := ifF hb45 H; refine WL_guardY rfl hb45 rfl rfl ?_; refine WL_val (rn_loadA ag121 (cs := [.int .i64 q29.1.cost, .slice aq29_0 nq29_0 cq29_0]) rfl rfl (fun j v hj => own_sub hO (k := 0) rfl 0 2 j v hj)) rfl ?_; refine WL_guardY rfl hb45 rfl rfl ?_; refine WL_val (rn_loadA ag121 (cs := [.int .i64 q29.2.1.cost, .slice aq29_1 nq29_1 cq29_1]) rfl rfl (fun j v hj => own_sub hO (k := 1) rfl 0 2 j v hj)) rfl ?_; refine WL_guardY rfl hb45 rfl rfl ?_; obtain ⟨y48, hy48, H⟩ := bnd H; refine WL_op rfl (OpP_callV cb106 (f106_ok (x0 := q29.1) (x1 := q29.2.1) hS.sat hq29_0 hq29_1 hy48) rfl rfl (fun w49 hb => ?_)); have hS := hS.keep hb; have hO := hO.below hb; refine WL_val (rn_pickF (v := (.bool y48)) rfl hb45 rfl) rfl ?_; refine WL_val (rn_move (v := (.bool y48)) rfl) rfl ?_
        rcases bcases y48 with hb50 | hb50
        ·have H := ifT hb50 H; refine WL_guardY rfl hb50 rfl rfl ?_; refine WL_val (rn_move (v := (.func (.func k3) (fi3).toArray (ca3).toArray)) rfl) rfl ?_; refine WL_guardY rfl hb50 rfl rfl ?_; refine WL_val (rn_move (v := (.int .i64 s11.2.1)) rfl) rfl ?_; refine WL_guardY rfl hb50 rfl rfl ?_; obtain ⟨y51, hy51, H⟩ := bnd H
         have l0_3 := (leG16.trans leG21).trans leG43
         refine WL_op rfl (OpP_callVF hf3.1 (hf3.2 _ _ l0_3 hS.sat s11.2.1 _  hy51) rfl rfl rfl (fun w52 hb => ?_)); have hS := hS.keep hb; have hO := hO.below hb; refine WL_val (rn_pickT (v := (.bool y51)) rfl hb50 rfl) rfl ?_; refine WL_nil ?_
         have hO : Owns G43 w52 w0.heap.size ([⟨121, 2, 1, .slice (some ⟨b23, 0, none⟩) 1 1, [.int .i64 q29.1.cost, .slice aq29_0 nq29_0 cq29_0]⟩, ⟨121, 2, 1, .slice (some ⟨b7, 0, none⟩) 1 1, [.int .i64 q29.2.1.cost, .slice aq29_1 nq29_1 cq29_1]⟩, ⟨121, 2, 1, .slice (some ⟨b4, 0, none⟩) 1 1, [.int .i64 q29.2.2.cost, .slice aq29_2 nq29_2 cq29_2]⟩]) := hO
         have H := Option.some.inj H; subst H
         exact ⟨_, G43, upds_self _ _ ⟨rfl, rfl, rfl, rfl, rfl, rfl, rfl, rfl, rfl, rfl, trivial⟩, Gle.refl _, hS, hO⟩
        ·have H := ifF hb50 H; refine WL_guardN rfl hb50 rfl rfl rfl ?_; refine WL_guardN rfl hb50 rfl rfl rfl ?_; refine WL_guardN rfl hb50 rfl rfl rfl ?_; refine WL_val (rn_pickF (v := (.bool false)) rfl hb50 rfl) rfl ?_; refine WL_nil ?_
         have hO : Owns G43 w49 w0.heap.size ([⟨121, 2, 1, .slice (some ⟨b23, 0, none⟩) 1 1, [.int .i64 q29.1.cost, .slice aq29_0 nq29_0 cq29_0]⟩, ⟨121, 2, 1, .slice (some ⟨b7, 0, none⟩) 1 1, [.int .i64 q29.2.1.cost, .slice aq29_1 nq29_1 cq29_1]⟩, ⟨121, 2, 1, .slice (some ⟨b4, 0, none⟩) 1 1, [.int .i64 q29.2.2.cost, .slice aq29_2 nq29_2 cq29_2]⟩]) := hO
         have H := Option.some.inj H; subst H
         exact ⟨_, G43, upds_self _ _ ⟨rfl, rfl, rfl, rfl, rfl, rfl, rfl, rfl, rfl, rfl, trivial⟩, Gle.refl _, hS, hO⟩
      ·rintro F w53 ⟨Fb, G54, rfl, leG54, hS, hO⟩
       refine WC_cond rfl (fun hb55 => ?_) (fun hb55 => ?_)
       ·have H := ifT hb55 H; refine WC_region ?_; refine WL_val (rn_loadA ag121 (cs := [.int .i64 q29.1.cost, .slice aq29_0 nq29_0 cq29_0]) rfl rfl (fun j v hj => own_sub hO (k := 0) rfl 0 2 j v hj)) rfl ?_; refine WL_op rfl (OpP_store (vs := [.int .i64 q29.1.cost, .slice aq29_0 nq29_0 cq29_0]) sz121 hS hO (k := 1) rfl rfl rfl rfl rfl (one_all rfl) (Nat.le_of_ble_eq_true rfl) (fun w56 hS hO => ?_))
        have hO : Owns G54 w56 w0.heap.size ([⟨121, 2, 1, .slice (some ⟨b23, 0, none⟩) 1 1, [.int .i64 q29.1.cost, .slice aq29_0 nq29_0 cq29_0]⟩, ⟨121, 2, 1, .slice (some ⟨b7, 0, none⟩) 1 1, [.int .i64 q29.1.cost, .slice aq29_0 nq29_0 cq29_0]⟩, ⟨121, 2, 1, .slice (some ⟨b4, 0, none⟩) 1 1, [.int .i64 q29.2.2.cost, .slice aq29_2 nq29_2 cq29_2]⟩]) := hO
        refine WL_val (rn_assign (v := (.bool true)) rfl) rfl ?_; refine WL_nil ?_; have hO := hO.drop 0
        have hO : Owns G54 w56 w0.heap.size ([⟨121, 2, 1, .slice (some ⟨b7, 0, none⟩) 1 1, [.int .i64 q29.1.cost, .slice aq29_0 nq29_0 cq29_0]⟩, ⟨121, 2, 1, .slice (some ⟨b4, 0, none⟩) 1 1, [.int .i64 q29.2.2.cost, .slice aq29_2 nq29_2 cq29_2]⟩]) := hO
        have H := Option.some.inj H; subst H
        have l1_4 := (leG21.trans leG43).trans leG54
        exact ⟨_, G54, aq29_0, nq29_0, cq29_0, aq29_2, nq29_2, cq29_2, upds_self _ _ ⟨rfl, rfl, rfl, rfl, rfl, rfl, rfl, rfl, trivial⟩, l1_4, hS, hO, (hq29_0.mono RInt_mono leG54), (hq29_2.mono RInt_mono leG54)⟩
       ·have H := ifF hb55 H; refine WC_skip ?_; have hO := hO.drop 0
        have hO : Owns G54 w53 w0.heap.size ([⟨121, 2, 1, .slice (some ⟨b7, 0, none⟩) 1 1, [.int .i64 q29.2.1.cost, .slice aq29_1 nq29_1 cq29_1]⟩, ⟨121, 2, 1, .slice (some ⟨b4, 0, none⟩) 1 1, [.int .i64 q29.2.2.cost, .slice aq29_2 nq29_2 cq29_2]⟩]) := hO
        have H := Option.some.inj H; subst H
        have l1_4 := (leG21.trans leG43).trans leG54
        exact ⟨_, G54, aq29_1, nq29_1, cq29_1, aq29_2, nq29_2, cq29_2, upds_self _ _ ⟨rfl, rfl, rfl, rfl, rfl, rfl, rfl, rfl, trivial⟩, l1_4, hS, hO, (hq29_1.mono RInt_mono leG54), (hq29_2.mono RInt_mono leG54)⟩
    ·rintro F w57 ⟨Fb, G58, aq18_0, nq18_0, cq18_0, aq18_1, nq18_1, cq18_1, rfl, leG58, hS, hO, hq18_0, hq18_1⟩
     refine WC_region ?_; refine WL_val (rn_add rfl rfl) rfl ?_; refine WL_val (rn_move (v := (.int .i64 (IntKind.i64.wrap (s11.2.1 + 1)))) rfl) rfl ?_; refine WL_nil ?_
     have hO : Owns G58 w57 w0.heap.size ([⟨121, 2, 1, .slice (some ⟨b7, 0, none⟩) 1 1, [.int .i64 q18.2.1.cost, .slice aq18_0 nq18_0 cq18_0]⟩, ⟨121, 2, 1, .slice (some ⟨b4, 0, none⟩) 1 1, [.int .i64 q18.2.2.cost, .slice aq18_1 nq18_1 cq18_1]⟩]) := hO
     have H := Option.some.inj H; subst H; refine ⟨_, rfl, ?_⟩
     have l0_2 := leG16.trans leG58
     exact ⟨_, G58, aq18_0, nq18_0, cq18_0, aq18_1, nq18_1, cq18_1, upds_self _ _ ⟨rfl, rfl, rfl, rfl, rfl, rfl, rfl, rfl, trivial⟩, l0_2, hS, hO, hq18_0, hq18_1⟩
   ·have H := ifF hb17 H; refine WC_exit rfl ?_
    have hO : Owns G16 w15 w0.heap.size ([⟨121, 2, 1, .slice (some ⟨b7, 0, none⟩) 1 1, [.int .i64 s11.2.2.1.cost, .slice as11_0 ns11_0 cs11_0]⟩, ⟨121, 2, 1, .slice (some ⟨b4, 0, none⟩) 1 1, [.int .i64 s11.2.2.2.cost, .slice as11_1 ns11_1 cs11_1]⟩]) := hO
    have H := Option.some.inj H; subst H
    have hres := hqq13 _ rfl
    subst hres
    exact ⟨_, G16, as11_0, ns11_0, cs11_0, as11_1, ns11_1, cs11_1, upds_self _ _ ⟨rfl, rfl, rfl, trivial⟩, leG16, hS, hO, hs11_0, hs11_1⟩
 ·rintro F w59 ⟨Fb, G60, aq13_0, nq13_0, cq13_0, aq13_1, nq13_1, cq13_1, rfl, leG60, hS, hO, hq13_0, hq13_1⟩
  refine WC_seq ?_; refine WC_region ?_; refine WL_val (rn_loadA ag121 (cs := [.int .i64 q13.2.1.cost, .slice aq13_0 nq13_0 cq13_0]) rfl rfl (fun j v hj => own_sub hO (k := 0) rfl 0 2 j v hj)) rfl ?_; refine WL_val (rn_move (v := (.bool q13.1)) rfl) rfl ?_; refine WL_op rfl (OpP_store (vs := [.int .i64 q13.2.1.cost, .slice aq13_0 nq13_0 cq13_0]) sz121 hS hO (k := 1) rfl rfl rfl rfl rfl (one_all rfl) (Nat.le_of_ble_eq_true rfl) (fun w61 hS hO => ?_))
  have hO : Owns G60 w61 w0.heap.size ([⟨121, 2, 1, .slice (some ⟨b7, 0, none⟩) 1 1, [.int .i64 q13.2.1.cost, .slice aq13_0 nq13_0 cq13_0]⟩, ⟨121, 2, 1, .slice (some ⟨b4, 0, none⟩) 1 1, [.int .i64 q13.2.1.cost, .slice aq13_0 nq13_0 cq13_0]⟩]) := hO
  obtain ⟨G62, leG62, hS, hO, hqG62, _⟩ := hO.freeze hS (k := 1) rfl
  have hcG62 : Cells G62 b4 0 [.int .i64 q13.2.1.cost, .slice aq13_0 nq13_0 cq13_0] := (hqG62 _ _ _ _ rfl)
  refine WL_val (rn_assign (v := (.bool q13.1)) rfl) rfl ?_; refine WL_nil ?_; refine WC_ret ?_
  have H : some (q13.2.1, q13.1) = some r := H
  have H := Option.some.inj H; subst H
  exact ⟨[.agg #[.int .i64 q13.2.1.cost, .slice aq13_0 nq13_0 cq13_0], .bool q13.1], ⟨⟨_, rfl, ld_agg (cs := [.int .i64 q13.2.1.cost, .slice aq13_0 nq13_0 cq13_0]) ag121 rfl (fun j v hj => hS.sat.cell (hcG62 j v hj))⟩, rfl, trivial⟩, ⟨_, _, rfl, hS.toGrow, _, _, _, rfl, (hq13_0.mono RInt_mono leG62)⟩⟩
set_option maxHeartbeats 1000000 in
theorem f90_ok {G0 : Gm} {w0 : World} (hS0 : Sat G0 w0) {x0 : TBaneFish} {a1 : Option Addr} {n1 c1 : Nat} (h1 : RSl RTBaneBite 3 G0 a1 n1 c1 x0.Bites) {r : Int} (H : f90 x0 = some r) :
  Calls Try.prog 90 #[.agg #[.int .i64 x0.Base.Low, .int .i64 x0.Base.High, .slice a1 n1 c1, .int .i64 x0.Pass, .int .i64 x0.Cost]] w0 (RetV w0 (.int .i64 r)) := by
 have hS := Since.start hS0
 have hO : Owns G0 w0 w0.heap.size [] := Owns.nil (Nat.le_refl _)
 unfold f90 at H
 refine enter1 (N := 5) (shutV _ _) Try.func90 rfl rfl rfl rfl ?_; refine WC_seq ?_; refine WC_region ?_; refine WL_op rfl (OpP_newF (v := fun b => .pointer (some ⟨b, 0, none⟩)) (cs := [.int .i64 x0.Base.Low, .int .i64 x0.Base.High, .slice a1 n1 c1, .int .i64 x0.Pass, .int .i64 x0.Cost]) (e := 72) (rn_boxA rfl) hS.sat rfl (fun b2 G4 w3 hg hcb2 => ?_)); have hS := hS.grow hg; have hO := hO.grow hg
 have leG4 := hg.le
 refine WL_val (rn_assign (v := (.int .i64 0)) rfl) rfl ?_; refine WL_nil ?_; refine WC_seq ?_; refine WC_region ?_; refine WL_val (rn_fld fd72_3 rfl) rfl ?_; refine WL_val (rn_load na3 rfl (hS.sat.cell (hcb2 4 _ rfl))) rfl ?_; refine WL_val (rn_assign (v := (.int .i64 x0.Cost)) rfl) rfl ?_; refine WL_nil ?_; refine WC_ret ?_
 have H : some x0.Cost = some r := H
 have H := Option.some.inj H; subst H
 exact ⟨rfl, hS.below⟩
set_option maxHeartbeats 1000000 in
theorem f109_ok {G0 : Gm} {w0 : World} (hS0 : Sat G0 w0) {x0 : Int} {x1 : (List Int)} {bq1 : Nat} {a1 : Option Addr} {n1 c1 : Nat} {x2 : TWeb} {bq2 : Nat} {a2 : Option Addr} {n2 c2 : Nat} (hcq1 : Cells G0 bq1 0 [.slice a1 n1 c1]) (h1 : RSl RInt 1 G0 a1 n1 c1 x1) (hcq2 : Cells G0 bq2 0 [.slice a2 n2 c2, .int .i64 x2.BaneWeb.Limit, .int .i64 x2.tests]) (h2 : RSl RTBaneFish 5 G0 a2 n2 c2 x2.BaneWeb.Fish) {r : Bool} (H : f109 x0 x1 x2 = some r) :
  Calls Try.prog 109 #[.int .i64 x0, .pointer (some ⟨bq1, 0, none⟩), .pointer (some ⟨bq2, 0, none⟩)] w0 (RetV w0 (.bool r)) := by
 have hS := Since.start hS0
 have hO : Owns G0 w0 w0.heap.size [] := Owns.nil (Nat.le_refl _)
 unfold f109 at H
 refine enter1 (N := 13) (shutV _ _) Try.func109 rfl rfl rfl rfl ?_; refine WC_seq ?_; refine WC_region ?_; refine WL_val (rn_assign (v := (.bool false)) rfl) rfl ?_; refine WL_nil ?_; refine WC_seq ?_; have hS := hS.keep (below_drew _); have hO := hO.below (below_drew _)
 refine WC_regionD mixedO (fun _ w => Sat G0 w ∧ True) (.fl 0 (.fl 1 (.fl 2 (.fl 3 (.on 4 (.on 5 (.on 6 (.on 7 (.on 8 .nil))))))))) (by kernel_rfl) rfl (by kernel_rfl) (fun _ => ⟨hS.sat, trivial⟩) ?_
 refine WD_val rfl (fun w hw => rn_load na25 rfl (hw.1.cell (hcq1 0 _ rfl))) rfl ?_; refine WD_val rfl (fun w hw => rn_move (v := (.int .i64 x0)) rfl) rfl ?_; obtain ⟨y3, hy3, H⟩ := bnd H; refine WD_idx rfl sl25 h1 hy3 rfl rfl rfl ?_
 rintro b4 o4 _ hcb4 _ ⟨⟩
 refine WD_val rfl (fun w hw => rn_load na3 rfl (hw.1.cell (hcb4 0 _ rfl))) rfl ?_; refine WD_op rfl rfl (OpP_val (rn_fld fd104_0 rfl) rfl ?_); refine ⟨fun _ _ => ⟨hS.sat, trivial⟩, ?_⟩; refine WD_op rfl rfl (OpP_val (rn_fld fd24_1 rfl) rfl ?_); refine ⟨fun _ _ => ⟨hS.sat, trivial⟩, ?_⟩; refine WD_op rfl rfl (OpP_val (rn_load na3 rfl (hS.sat.cell (hcq2 1 _ rfl))) rfl ?_); refine ⟨fun _ _ => ⟨hS.sat, trivial⟩, ?_⟩; refine WD_op rfl rfl (OpP_val (rn_gtr rfl rfl) rfl ?_)
 refine ⟨fun _ h => noneed (by kernel_rfl) h, ?_⟩
 refine WD_op rfl rfl (OpP_val (rn_assign (v := (.bool (decide (x2.BaneWeb.Limit < y3)))) rfl) rfl ?_)
 refine ⟨fun _ h => noneed (by kernel_rfl) h, ?_⟩
 refine WD_nil ?_; refine WC_ret ?_
 have H : some (decide (x2.BaneWeb.Limit < y3)) = some r := H
 have H := Option.some.inj H; subst H
 exact ⟨rfl, hS.below⟩
set_option maxHeartbeats 1000000 in
theorem f88_ok {G0 : Gm} {w0 : World} (hS0 : Sat G0 w0) {x0 : TWeb} {a1 : Option Addr} {n1 c1 : Nat} {x1 : (List Int)} {a2 : Option Addr} {n2 c2 : Nat} (h1 : RSl RTBaneFish 5 G0 a1 n1 c1 x0.BaneWeb.Fish) (h2 : RSl RInt 1 G0 a2 n2 c2 x1) {r : Bool} (H : f88 x0 x1 = some r) :
  Calls Try.prog 88 #[.agg #[.slice a1 n1 c1, .int .i64 x0.BaneWeb.Limit, .int .i64 x0.tests], .slice a2 n2 c2] w0 (RetV w0 (.bool r)) := by
 have hS := Since.start hS0
 have hO : Owns G0 w0 w0.heap.size [] := Owns.nil (Nat.le_refl _)
 unfold f88 at H
 refine enter1 (N := 12) (shutV _ _) Try.func88 rfl rfl rfl rfl ?_; refine WC_seq ?_; refine WC_region ?_; refine WL_op rfl (OpP_newF (v := fun b => .pointer (some ⟨b, 0, none⟩)) (cs := [.slice a1 n1 c1, .int .i64 x0.BaneWeb.Limit, .int .i64 x0.tests]) (e := 104) (rn_boxA rfl) hS.sat rfl (fun b3 G5 w4 hg hcb3 => ?_)); have hS := hS.grow hg; have hO := hO.grow hg
 have leG5 := hg.le
 refine WL_val (rn_assign (v := (.bool false)) rfl) rfl ?_; refine WL_nil ?_; refine WC_seq ?_; refine WC_region ?_; refine WL_val (rn_loadA ag104 (cs := [.slice a1 n1 c1, .int .i64 x0.BaneWeb.Limit, .int .i64 x0.tests]) rfl rfl (fun j v hj => hS.sat.cell (hcb3.drop_take 0 3 j v hj))) rfl ?_; obtain ⟨y6, hy6, H⟩ := bnd H; refine WL_op rfl (OpP_callG cb72 (f72_ok (x0 := x0) hS.sat (h1.mono RTBaneFish_mono leG5) hy6) rfl rfl (fun vy6 G8 w7 hg hvy6 => ?_)); obtain ⟨a9, n9, c9, ⟨⟩, h9⟩ := hvy6; have hS := hS.grow hg; have hO := hO.grow hg
 have leG8 := hg.le
 refine WL_op rfl (OpP_newO (v := fun b => .pointer (some ⟨b, 0, none⟩)) (cs := [.slice none 0 0]) (e := 25) (by kernel_rfl) hS.sat hO rfl 1 1 rfl (by decide) (fun b10 w11 hb hO => ?_))
 have hS := hS.keep hb; refine WL_op rfl (OpP_store (vs := [.slice a9 n9 c9]) sz25 hS hO (k := 0) rfl rfl rfl rfl rfl (one_all rfl) (Nat.le_of_ble_eq_true rfl) (fun w13 hS hO => ?_))
 have hO : Owns G8 w13 w0.heap.size ([⟨25, 1, 1, .slice (some ⟨b10, 0, none⟩) 1 1, [.slice a9 n9 c9]⟩]) := hO
 obtain ⟨G14, leG14, hS, hO, hqG14, _⟩ := hO.freeze hS (k := 0) rfl
 have hcG14 : Cells G14 b10 0 [.slice a9 n9 c9] := (hqG14 _ _ _ _ rfl)
 refine WL_nil ?_; refine WC_seq ?_; refine WC_region ?_; refine WL_val (rn_move (v := (.slice a2 n2 c2)) rfl) rfl ?_
 have l1_3 := leG8.trans leG14
 have l0_3 := leG5.trans l1_3
 have hF15 : FnOk125 G14 109 [] [.pointer (some ⟨b10, 0, none⟩), .pointer (some ⟨b3, 0, none⟩)] (fun (z0 : Int) => f109 z0 y6 x0) := ⟨cb109, fun G1 W1 hl hw z0 r1 H1 => f109_ok (x0 := z0) (x1 := y6) (x2 := x0) hw (hcG14.mono hl) ((h9.mono RInt_mono leG14).mono RInt_mono hl) ((hcb3.mono l1_3).mono hl) ((h1.mono RTBaneFish_mono l0_3).mono RTBaneFish_mono hl) H1⟩
 refine WL_val (rn_func (vs := []) (us := [.pointer (some ⟨b10, 0, none⟩), .pointer (some ⟨b3, 0, none⟩)]) rfl rfl) rfl ?_; obtain ⟨y16, hy16, H⟩ := bnd H; refine WL_op rfl (OpP_callV cb107 (f107_ok (x0 := x1) (x1 := (fun (z0 : Int) => f109 z0 y6 x0)) hS.sat (h2.mono RInt_mono l0_3) hF15 hy16) rfl rfl (fun w17 hb => ?_)); have hS := hS.keep hb; have hO := hO.below hb; refine WL_val (rn_not rfl) rfl ?_; refine WL_val (rn_assign (v := (.bool (!y16))) rfl) rfl ?_; refine WL_nil ?_; refine WC_ret ?_
 have H : some (!y16) = some r := H
 have H := Option.some.inj H; subst H
 exact ⟨rfl, hS.below⟩
set_option maxHeartbeats 1000000 in
theorem f91_ok {G0 : Gm} {w0 : World} (hS0 : Sat G0 w0) {x0 : Int} {x1 : TBaneWeb} {bq1 : Nat} {a1 : Option Addr} {n1 c1 : Nat} {x2 : (List Int)} {bq2 : Nat} {a2 : Option Addr} {n2 c2 : Nat} (hcq1 : Cells G0 bq1 0 [.slice a1 n1 c1, .int .i64 x1.Limit]) (h1 : RSl RTBaneFish 5 G0 a1 n1 c1 x1.Fish) (hcq2 : Cells G0 bq2 0 [.slice a2 n2 c2]) (h2 : RSl RInt 1 G0 a2 n2 c2 x2) {r : Bool} (H : f91 x0 x1 x2 = some r) :
  Calls Try.prog 91 #[.int .i64 x0, .pointer (some ⟨bq1, 0, none⟩), .pointer (some ⟨bq2, 0, none⟩)] w0 (RetV w0 (.bool r)) := by
 have hS := Since.start hS0
 have hO : Owns G0 w0 w0.heap.size [] := Owns.nil (Nat.le_refl _)
 unfold f91 at H
 refine enter1 (N := 10) (shutV _ _) Try.func91 rfl rfl rfl rfl ?_; refine WC_seq ?_; refine WC_region ?_; refine WL_val (rn_assign (v := (.bool false)) rfl) rfl ?_; refine WL_nil ?_; refine WC_seq ?_; refine WC_region ?_; refine WL_val (rn_loadA ag24 (cs := [.slice a1 n1 c1, .int .i64 x1.Limit]) rfl rfl (fun j v hj => hS.sat.cell (hcq1.drop_take 0 2 j v hj))) rfl ?_; refine WL_val (rn_move (v := (.int .i64 x0)) rfl) rfl ?_
 refine WL_val (v := (.agg #[.slice a1 n1 c1, .int .i64 x1.Limit, .int .i64 x0])) (by kernel_rfl) rfl ?_
 refine WL_val (rn_load na25 rfl (hS.sat.cell (hcq2 0 _ rfl))) rfl ?_; obtain ⟨y3, hy3, H⟩ := bnd H; refine WL_op rfl (OpP_callV cb88 (f88_ok (x0 := (⟨x1, x0⟩ : TWeb)) (x1 := x2) hS.sat h1 h2 hy3) rfl rfl (fun w4 hb => ?_)); have hS := hS.keep hb; have hO := hO.below hb; refine WL_val (rn_assign (v := (.bool y3)) rfl) rfl ?_; refine WL_nil ?_; refine WC_ret ?_
 have H : some y3 = some r := H
 have H := Option.some.inj H; subst H
 exact ⟨rfl, hS.below⟩
set_option maxHeartbeats 1000000 in
theorem f42_ok {G0 : Gm} {w0 : World} (hS0 : Sat G0 w0) {x0 : TBaneWeb} {a1 : Option Addr} {n1 c1 : Nat} {x1 : (List Int)} {a2 : Option Addr} {n2 c2 : Nat} (h1 : RSl RTBaneFish 5 G0 a1 n1 c1 x0.Fish) (h2 : RSl RInt 1 G0 a2 n2 c2 x1) {r : (List Int) × Int × Int} (H : f42 x0 x1 = some r) :
  Calls Try.prog 42 #[.agg #[.slice a1 n1 c1, .int .i64 x0.Limit], .slice a2 n2 c2] w0 (RetG G0 w0 (fun G v => ∃ (ra0 : Option Addr) (rn0 rc0 : Nat), v = .tuple #[.slice ra0 rn0 rc0, .int .i64 r.2.1, .int .i64 r.2.2] ∧ RSl RInt 1 G ra0 rn0 rc0 r.1)) := by
 have hS := Since.start hS0
 have hO : Owns G0 w0 w0.heap.size [] := Owns.nil (Nat.le_refl _)
 unfold f42 at H
 refine enter3 (N := 33) (shutG _ _ _) Try.func42 rfl rfl rfl rfl ?_; refine WC_seq ?_; refine WC_region ?_; refine WL_op rfl (OpP_newF (v := fun b => .pointer (some ⟨b, 0, none⟩)) (cs := [.slice a1 n1 c1, .int .i64 x0.Limit]) (e := 24) (rn_boxA rfl) hS.sat rfl (fun b3 G5 w4 hg hcb3 => ?_)); have hS := hS.grow hg; have hO := hO.grow hg
 have leG5 := hg.le
 refine WL_op rfl (OpP_newF (v := fun b => .pointer (some ⟨b, 0, none⟩)) (cs := [.slice a2 n2 c2]) (e := 25) (rn_box1 rfl rfl) hS.sat rfl (fun b6 G8 w7 hg hcb6 => ?_)); have hS := hS.grow hg; have hO := hO.grow hg
 have leG8 := hg.le
 refine WL_val (rn_assign (v := (.slice none 0 0)) rfl) rfl ?_; refine WL_val (rn_assign (v := (.int .i64 0)) rfl) rfl ?_; refine WL_val (rn_assign (v := (.int .i64 0)) rfl) rfl ?_; refine WL_nil ?_; refine WC_seq ?_; refine WC_seq ?_; obtain ⟨q9, hq9, H⟩ := bnd H; refine WC_cut (fun F w => ∃ (Fb : Fr) (G : Gm), F = upds Fb [(2, .pointer (some ⟨b3, 0, none⟩)), (3, .pointer (some ⟨b6, 0, none⟩)), (19, .bool q9)] ∧ Gle G8 G ∧ Since w0.heap.size G0 w0 G w ∧ Owns G w w0.heap.size []) ?_ ?_
 ·have Hoq9 := H; have H := hq9; refine WC_region ?_; refine WL_val (rn_loadA ag24 (cs := [.slice a1 n1 c1, .int .i64 x0.Limit]) rfl rfl (fun j v hj => (hS.sat.le leG8).cell (hcb3.drop_take 0 2 j v hj))) rfl ?_; obtain ⟨y10, hy10, H⟩ := bnd H
  have l0_2 := leG5.trans leG8
  refine WL_op rfl (OpP_callV cb65 (f65_ok (x0 := x0) hS.sat (h1.mono RTBaneFish_mono l0_2) hy10) rfl rfl (fun w11 hb => ?_)); have hS := hS.keep hb; have hO := hO.below hb; refine WL_val (rn_not rfl) rfl ?_; refine WL_val (rn_move (v := (.bool (!y10))) rfl) rfl ?_
  rcases bcases (!y10) with hb12 | hb12
  ·have H := ifT hb12 H; refine WL_guardN rfl hb12 rfl rfl rfl ?_; refine WL_guardN rfl hb12 rfl rfl rfl ?_; refine WL_guardN rfl hb12 rfl rfl rfl ?_; refine WL_guardN rfl hb12 rfl rfl rfl ?_; refine WL_guardN rfl hb12 rfl rfl rfl ?_; refine WL_guardN rfl hb12 rfl rfl rfl ?_; refine WL_val (rn_pickT (v := (.bool true)) rfl hb12 rfl) rfl ?_; refine WL_nil ?_
   have hO : Owns G8 w11 w0.heap.size ([]) := hO
   have H := Option.some.inj H; subst H
   exact ⟨_, G8, upds_self _ _ ⟨rfl, rfl, rfl, trivial⟩, Gle.refl _, hS, hO⟩
  ·have H := ifF hb12 H; refine WL_guardY rfl hb12 rfl rfl ?_; refine WL_val (rn_load na25 rfl (hS.sat.cell (hcb6 0 _ rfl))) rfl ?_; refine WL_guardY rfl hb12 rfl rfl ?_; refine WL_val (rn_fld fd24_0 rfl) rfl ?_; refine WL_guardY rfl hb12 rfl rfl ?_; refine WL_val (rn_load na22 rfl ((hS.sat.le leG8).cell (hcb3 0 _ rfl))) rfl ?_; refine WL_guardY rfl hb12 rfl rfl ?_; refine WL_val (rn_len sl22 rfl rfl (h1.mono RTBaneFish_mono l0_2).1) rfl ?_; refine WL_guardY rfl hb12 rfl rfl ?_; obtain ⟨y13, hy13, H⟩ := bnd H; refine WL_op rfl (OpP_callV cb86 (f86_ok (x0 := x1) (x1 := (x0.Fish.length : Int)) hS.sat (h2.mono RInt_mono l0_2) hy13) rfl rfl (fun w14 hb => ?_)); have hS := hS.keep hb; have hO := hO.below hb; refine WL_guardY rfl hb12 rfl rfl ?_; refine WL_val (rn_not rfl) rfl ?_; refine WL_val (rn_pickF (v := (.bool (!y13))) rfl hb12 rfl) rfl ?_; refine WL_nil ?_
   have hO : Owns G8 w14 w0.heap.size ([]) := hO
   have H := Option.some.inj H; subst H
   exact ⟨_, G8, upds_self _ _ ⟨rfl, rfl, rfl, trivial⟩, Gle.refl _, hS, hO⟩
 ·rintro F w15 ⟨Fb, G16, rfl, leG16, hS, hO⟩
  refine WC_cond rfl (fun hb17 => ?_) (fun hb17 => ?_)
  ·have H := ifT hb17 H; refine WC_seq ?_; refine WC_region ?_; refine WL_val (rn_assign (v := (.slice none 0 0)) rfl) rfl ?_; refine WL_val (rn_assign (v := (.int .i64 0)) rfl) rfl ?_; refine WL_val (rn_assign (v := (.int .i64 2)) rfl) rfl ?_; refine WL_nil ?_; refine WC_ret ?_
   have H : some ([], 0, 2) = some r := H
   have H := Option.some.inj H; subst H
   exact ⟨_, _, rfl, hS.toGrow, _, _, _, rfl, (RSl.nil RInt 1 G16 none)⟩
  ·have H := ifF hb17 H; refine WC_skip ?_; refine WC_seq ?_; refine WC_region ?_; refine WL_val (rn_fld fd24_0 rfl) rfl ?_
   have l1_3 := leG8.trans leG16
   refine WL_val (rn_load na22 rfl ((hS.sat.le l1_3).cell (hcb3 0 _ rfl))) rfl ?_
   have l0_3 := leG5.trans l1_3
   have hF18 : FnOk125 G16 91 [] [.pointer (some ⟨b3, 0, none⟩), .pointer (some ⟨b6, 0, none⟩)] (fun (z0 : Int) => f91 z0 x0 x1) := ⟨cb91, fun G1 W1 hl hw z0 r1 H1 => f91_ok (x0 := z0) (x1 := x0) (x2 := x1) hw ((hcb3.mono l1_3).mono hl) ((h1.mono RTBaneFish_mono l0_3).mono RTBaneFish_mono hl) ((hcb6.mono leG16).mono hl) ((h2.mono RInt_mono l0_3).mono RInt_mono hl) H1⟩
   refine WL_val (rn_func (vs := []) (us := [.pointer (some ⟨b3, 0, none⟩), .pointer (some ⟨b6, 0, none⟩)]) rfl rfl) rfl ?_
   have hF19 : FnOk131 G16 90 [] [] (fun (z0 : TBaneFish) => f90 z0) := ⟨cb90, fun G1 W1 hl hw z0 _ _ _ r1 hz0_0 H1 => f90_ok (x0 := z0) hw hz0_0 H1⟩
   obtain ⟨y20, hy20, H⟩ := bnd H; refine WL_op rfl (OpP_callG cb89 (f89_ok (x0 := x0.Fish) (x1 := (fun (z0 : TBaneFish) => f90 z0)) (x2 := (fun (z0 : Int) => f91 z0 x0 x1)) hS.sat (h1.mono RTBaneFish_mono l0_3) hF19 hF18 hy20) rfl rfl (fun vy20 G22 w21 hg hvy20 => ?_)); obtain ⟨a23, n23, c23, ⟨⟩, h23⟩ := hvy20; have hS := hS.grow hg; have hO := hO.grow hg
   have leG22 := hg.le
   refine WL_val (rn_move (v := (.tuple #[.agg #[.int .i64 y20.1.cost, .slice a23 n23 c23], .bool y20.2])) rfl) rfl ?_; refine WL_val (rn_extract (v := (.agg #[.int .i64 y20.1.cost, .slice a23 n23 c23])) rfl rfl) rfl ?_; refine WL_val (rn_extract (v := (.bool y20.2)) rfl rfl) rfl ?_
   refine WL_op rfl (OpP_newO (v := fun b => .pointer (some ⟨b, 0, none⟩)) (cs := [.int .i64 0, .slice none 0 0]) (e := 121) (by kernel_rfl) hS.sat hO rfl 2 1 rfl (by decide) (fun b24 w25 hb hO => ?_))
   have hS := hS.keep hb; refine WL_op rfl (OpP_store (vs := [.int .i64 y20.1.cost, .slice a23 n23 c23]) sz121 hS hO (k := 0) rfl rfl rfl rfl rfl (one_all rfl) (Nat.le_of_ble_eq_true rfl) (fun w27 hS hO => ?_))
   have hO : Owns G22 w27 w0.heap.size ([⟨121, 2, 1, .slice (some ⟨b24, 0, none⟩) 1 1, [.int .i64 y20.1.cost, .slice a23 n23 c23]⟩]) := hO
   obtain ⟨G28, leG28, hS, hO, hqG28, _⟩ := hO.freeze hS (k := 0) rfl
   have hcG28 : Cells G28 b24 0 [.int .i64 y20.1.cost, .slice a23 n23 c23] := (hqG28 _ _ _ _ rfl)
   refine WL_val (rn_assign (v := (.bool y20.2)) rfl) rfl ?_; refine WL_nil ?_; refine WC_seq ?_; refine WC_seq ?_; refine WC_region ?_; refine WL_val (rn_move (v := (.bool y20.2)) rfl) rfl ?_; refine WL_val (rn_not rfl) rfl ?_; refine WL_nil ?_; refine WC_cond rfl (fun hb29 => ?_) (fun hb29 => ?_)
   ·have H := ifT hb29 H; refine WC_seq ?_; refine WC_region ?_; refine WL_val (rn_assign (v := (.slice none 0 0)) rfl) rfl ?_; refine WL_val (rn_assign (v := (.int .i64 0)) rfl) rfl ?_; refine WL_val (rn_assign (v := (.int .i64 5)) rfl) rfl ?_; refine WL_nil ?_; refine WC_ret ?_
    have H : some ([], 0, 5) = some r := H
    have H := Option.some.inj H; subst H
    exact ⟨_, _, rfl, hS.toGrow, _, _, _, rfl, (RSl.nil RInt 1 G28 none)⟩
   ·have H := ifF hb29 H; refine WC_skip ?_; refine WC_seq ?_; have hS := hS.keep (below_drew _); have hO := hO.below (below_drew _)
    refine WC_regionD mixedO (fun _ w => Sat G28 w ∧ True) (.fl 0 (.fl 1 (.fl 2 (.fl 3 (.on 4 (.on 5 (.on 6 .nil))))))) (by kernel_rfl) rfl (by kernel_rfl) (fun _ => ⟨hS.sat, trivial⟩) ?_
    refine WD_val rfl (fun w hw => rn_fld fd121_1 rfl) rfl ?_; refine WD_val rfl (fun w hw => rn_load na25 rfl (hw.1.cell (hcG28 1 _ rfl))) rfl ?_; refine WD_val rfl (fun w hw => rn_fld fd121_0 rfl) rfl ?_; refine WD_val rfl (fun w hw => rn_load na3 rfl (hw.1.cell (hcG28 0 _ rfl))) rfl ?_; refine WD_op rfl rfl (OpP_val (rn_assign (v := (.slice a23 n23 c23)) rfl) rfl ?_); refine ⟨fun _ _ => ⟨hS.sat, trivial⟩, ?_⟩; refine WD_op rfl rfl (OpP_val (rn_assign (v := (.int .i64 y20.1.cost)) rfl) rfl ?_)
    refine ⟨fun _ h => noneed (by kernel_rfl) h, ?_⟩
    refine WD_op rfl rfl (OpP_val (rn_assign (v := (.int .i64 0)) rfl) rfl ?_)
    refine ⟨fun _ h => noneed (by kernel_rfl) h, ?_⟩
    refine WD_nil ?_; refine WC_ret ?_
    have H : some (y20.1.list, y20.1.cost, 0) = some r := H
    have H := Option.some.inj H; subst H
    exact ⟨_, _, rfl, hS.toGrow, _, _, _, rfl, (h23.mono RInt_mono leG28)⟩
set_option maxHeartbeats 1000000 in
theorem f60_ok {G0 : Gm} {w0 : World} (hS0 : Sat G0 w0) {x0 : (List TSpan)} {a1 : Option Addr} {n1 c1 : Nat} {x1 : (List TSpan)} {a2 : Option Addr} {n2 c2 : Nat} (h1 : RSl RTSpan 2 G0 a1 n1 c1 x0) (h2 : RSl RTSpan 2 G0 a2 n2 c2 x1) {r : Bool} (H : f60 x0 x1 = some r) :
  Calls Try.prog 60 #[.slice a1 n1 c1, .slice a2 n2 c2] w0 (RetV w0 (.bool r)) := by
 have hS := Since.start hS0
 have hO : Owns G0 w0 w0.heap.size [] := Owns.nil (Nat.le_refl _)
 unfold f60 at H
 refine enter1 (N := 26) (shutV _ _) Try.func60 rfl rfl rfl rfl ?_; refine WC_seq ?_; refine WC_region ?_; refine WL_val (rn_assign (v := (.bool false)) rfl) rfl ?_; refine WL_nil ?_; refine WC_seq ?_; refine WC_seq ?_; refine WC_region ?_; refine WL_val (rn_move (v := (.slice a1 n1 c1)) rfl) rfl ?_; refine WL_val (rn_len sl38 rfl rfl h1.1) rfl ?_; refine WL_val (rn_move (v := (.slice a2 n2 c2)) rfl) rfl ?_; refine WL_val (rn_len sl38 rfl rfl h2.1) rfl ?_; refine WL_val (rn_neq rfl rfl) rfl ?_; refine WL_nil ?_; refine WC_cond rfl (fun hb3 => ?_) (fun hb3 => ?_)
 ·have H := ifT hb3 H; refine WC_seq ?_; refine WC_region ?_; refine WL_val (rn_assign (v := (.bool false)) rfl) rfl ?_; refine WL_nil ?_; refine WC_ret ?_
  have H : some false = some r := H
  have H := Option.some.inj H; subst H
  exact ⟨rfl, hS.below⟩
 ·have H := ifF hb3 H; refine WC_skip ?_; refine WC_seq ?_; refine WC_seq ?_; refine WC_region ?_; refine WL_val (rn_assign (v := (.int .i64 0)) rfl) rfl ?_; refine WL_nil ?_; obtain ⟨q6, hq6, H⟩ := bnd H; refine WC_cut (fun F w => ∃ (p5 : Unit) (Fb : Fr) (G : Gm), q6 = .inl p5 ∧ F = upds Fb [] ∧ Gle G0 G ∧ Since w0.heap.size G0 w0 G w ∧ Owns G w w0.heap.size []) ?_ ?_
  ·refine WC_block (WC_loop hq6 (fun s4 F w => ∃ (Fb : Fr) (G : Gm), F = upds Fb [(0, .slice a1 n1 c1), (1, .slice a2 n2 c2), (5, .int .i64 s4)] ∧ Gle G0 G ∧ Since w0.heap.size G0 w0 G w ∧ Owns G w w0.heap.size []) ?_ ?_)
   ·have hO : Owns G0 w0 w0.heap.size ([]) := hO
    exact ⟨_, G0, upds_self _ _ ⟨rfl, rfl, rfl, trivial⟩, Gle.refl _, hS, hO⟩
   ·rintro s4 F w8 t7 ⟨Fb, G9, rfl, leG9, hS, hO⟩
    intro H1 hqq6
    have Hoq6 := H; have H := H1
    unfold f60_b0 at H
    refine WC_seq ?_; refine WC_seq ?_; refine WC_region ?_; refine WL_val (rn_move (v := (.int .i64 s4)) rfl) rfl ?_; refine WL_val (rn_move (v := (.slice a1 n1 c1)) rfl) rfl ?_; refine WL_val (rn_len sl38 rfl rfl (h1.mono RTSpan_mono leG9).1) rfl ?_; refine WL_val (rn_lss rfl rfl) rfl ?_; refine WL_nil ?_; refine WC_cond rfl (fun hb10 => ?_) (fun hb10 => ?_)
    ·have H := ifT hb10 H; refine WC_skip ?_; refine WC_seq ?_; refine WC_block ?_; refine WC_seq ?_; have hS := hS.keep (below_drew _); have hO := hO.below (below_drew _)
     refine WC_regionD mixedO (fun _ w => Sat G9 w ∧ True) (.fl 0 (.fl 1 (.fl 2 (.fl 3 (.fl 4 (.on 5 (.on 6 (.on 7 (.on 8 .nil))))))))) (by kernel_rfl) rfl (by kernel_rfl) (fun _ => ⟨hS.sat, trivial⟩) ?_
     refine WD_val rfl (fun w hw => rn_move (v := (.slice a1 n1 c1)) rfl) rfl ?_; refine WD_val rfl (fun w hw => rn_move (v := (.int .i64 s4)) rfl) rfl ?_; obtain ⟨y11, hy11, H⟩ := bnd H; refine WD_idx rfl sl38 (h1.mono RTSpan_mono leG9) hy11 rfl rfl rfl ?_
     rintro b12 o12 _ hcb12 _ ⟨⟩
     refine WD_val rfl (fun w hw => rn_loadA ag43 (cs := [.int .i64 y11.Low, .int .i64 y11.High]) rfl rfl (fun j v hj => hw.1.cell (hcb12.drop_take 0 2 j v hj))) rfl ?_; refine WD_val rfl (fun w hw => rn_move (v := (.slice a2 n2 c2)) rfl) rfl ?_; refine WD_op rfl rfl (OpP_val (rn_move (v := (.int .i64 s4)) rfl) rfl ?_); refine ⟨fun _ _ => ⟨hS.sat, trivial⟩, ?_⟩; obtain ⟨y13, hy13, H⟩ := bnd H; refine WD_op rfl rfl (OpP_idx sl38 (h2.mono RTSpan_mono leG9) hy13 rfl rfl rfl ?_)
     rintro b14 o14 _ hcb14 _ ⟨⟩
     refine ⟨fun _ _ => ⟨hS.sat, trivial⟩, ?_⟩; refine WD_op rfl rfl (OpP_val (rn_loadA ag43 (cs := [.int .i64 y13.Low, .int .i64 y13.High]) rfl rfl (fun j v hj => hS.sat.cell (hcb14.drop_take 0 2 j v hj))) rfl ?_); refine ⟨fun _ _ => ⟨hS.sat, trivial⟩, ?_⟩; refine WD_op rfl rfl (OpP_val (rn_neqA (xs := [y11.Low, y11.High]) (ys := [y13.Low, y13.High]) in43 rfl rfl rfl rfl) rfl ?_)
     refine ⟨fun _ h => noneed (by kernel_rfl) h, ?_⟩
     refine WD_nil ?_; refine WC_cond rfl (fun hb15 => ?_) (fun hb15 => ?_)
     ·have H := ifT hb15 H; refine WC_seq ?_; refine WC_region ?_; refine WL_val (rn_assign (v := (.bool false)) rfl) rfl ?_; refine WL_nil ?_; refine WC_ret ?_; have H := Option.some.inj H; subst H
      have hres := hqq6 _ rfl
      subst hres; have H := Hoq6
      have H : some false = some r := H
      have H := Option.some.inj H; subst H
      exact ⟨rfl, hS.below⟩
     ·have H := ifF hb15 H; refine WC_skip ?_; refine WC_region ?_; refine WL_val (rn_move (v := (.int .i64 s4)) rfl) rfl ?_; refine WL_val (rn_add rfl rfl) rfl ?_; refine WL_val (rn_assign (v := (.int .i64 (IntKind.i64.wrap (s4 + 1)))) rfl) rfl ?_; refine WL_nil ?_
      have hO : Owns G9 w8.drew w0.heap.size ([]) := hO
      have H := Option.some.inj H; subst H; refine ⟨_, rfl, ?_⟩
      exact ⟨_, G9, upds_self _ _ ⟨rfl, rfl, rfl, trivial⟩, leG9, hS, hO⟩
    ·have H := ifF hb10 H; refine WC_exit rfl ?_
     have hO : Owns G9 w8 w0.heap.size ([]) := hO
     have H := Option.some.inj H; subst H
     have hres := hqq6 _ rfl
     subst hres
     exact ⟨_, _, G9, rfl, rfl, leG9, hS, hO⟩
  ·rintro F w16 ⟨p5, Fb, G17, rfl, rfl, leG17, hS, hO⟩
   refine WC_seq ?_; refine WC_region ?_; refine WL_val (rn_assign (v := (.bool true)) rfl) rfl ?_; refine WL_nil ?_; refine WC_ret ?_
   have H : some true = some r := H
   have H := Option.some.inj H; subst H
   exact ⟨rfl, hS.below⟩
set_option maxHeartbeats 1000000 in
theorem f63_ok {G0 : Gm} {w0 : World} (hS0 : Sat G0 w0)   {r : TBaneWeb} (H : f63 = some r) :
  Calls Try.prog 63 #[] w0 (RetG G0 w0 (fun G v => ∃ (ra0 : Option Addr) (rn0 rc0 : Nat), v = .agg #[.slice ra0 rn0 rc0, .int .i64 r.Limit] ∧ RSl RTBaneFish 5 G ra0 rn0 rc0 r.Fish)) := by
 have hS := Since.start hS0
 have hO : Owns G0 w0 w0.heap.size [] := Owns.nil (Nat.le_refl _)
 unfold f63 at H
 refine enterG (N := 17) (shutG _ _ _) [.cell 0 24] Try.func63 rfl rfl rfl rfl ?_; refine WC_seq ?_; refine WC_region ?_
 refine WL_op rfl (OpP_newO (v := fun b => .pointer (some ⟨b, 0, none⟩)) (cs := [.slice none 0 0, .int .i64 0]) (e := 24) (by kernel_rfl) hS.sat hO rfl 2 1 rfl (by decide) (fun b1 w2 hb hO => ?_))
 have hS := hS.keep hb; refine WL_nil ?_; refine WC_seq ?_; refine WC_region ?_
 refine WL_val (v := (.agg #[.int .i64 100, .int .i64 200])) (by kernel_rfl) rfl ?_
 refine WL_val (v := (.agg #[.int .i64 100, .int .i64 200, .slice none 0 0, .int .i64 150, .int .i64 10])) (by kernel_rfl) rfl ?_
 refine WL_val (v := (.agg #[.int .i64 0, .int .i64 50])) (by kernel_rfl) rfl ?_
 refine WL_val (v := (.agg #[.int .i64 500, .int .i64 800])) (by kernel_rfl) rfl ?_
 refine WL_val (v := (.agg #[.int .i64 0, .int .i64 500, .int .i64 800])) (by kernel_rfl) rfl ?_
 refine WL_op rfl (OpP_newF (v := fun b => .slice (some ⟨b, 0, none⟩) 1 1) (cs := [.int .i64 0, .int .i64 500, .int .i64 800]) (e := 77) (by kernel_rfl) hS.sat rfl (fun b4 G6 w5 hg hcb4 => ?_))
 have hS := hS.grow hg; have hO := hO.grow hg
 have leG6 := hg.le
 have hfb4 : RSl RTBaneBite 3 G6 (some ⟨b4, 0, none⟩) 1 1 [(⟨0, (⟨500, 800⟩ : TSpan)⟩ : TBaneBite)] := RSl.of_rd hcb4 (Rd.cons (c := [.int .i64 0, .int .i64 500, .int .i64 800]) rfl rfl (Rd.nil RTBaneBite 3 _)) rfl (by decide)
 refine WL_val (v := (.agg #[.int .i64 0, .int .i64 50, .slice (some ⟨b4, 0, none⟩) 1 1, .int .i64 200, .int .i64 20])) (by kernel_rfl) rfl ?_
 refine WL_val (v := (.agg #[.int .i64 10, .int .i64 20])) (by kernel_rfl) rfl ?_
 refine WL_val (v := (.agg #[.int .i64 900, .int .i64 1000])) (by kernel_rfl) rfl ?_
 refine WL_val (v := (.agg #[.int .i64 1, .int .i64 900, .int .i64 1000])) (by kernel_rfl) rfl ?_
 refine WL_val (v := (.agg #[.int .i64 100, .int .i64 200])) (by kernel_rfl) rfl ?_
 refine WL_val (v := (.agg #[.int .i64 0, .int .i64 100, .int .i64 200])) (by kernel_rfl) rfl ?_
 refine WL_op rfl (OpP_newF (v := fun b => .slice (some ⟨b, 0, none⟩) 2 2) (cs := [.int .i64 1, .int .i64 900, .int .i64 1000, .int .i64 0, .int .i64 100, .int .i64 200]) (e := 77) (by kernel_rfl) hS.sat rfl (fun b7 G9 w8 hg hcb7 => ?_))
 have hS := hS.grow hg; have hO := hO.grow hg
 have leG9 := hg.le
 have hfb7 : RSl RTBaneBite 3 G9 (some ⟨b7, 0, none⟩) 2 2 [(⟨1, (⟨900, 1000⟩ : TSpan)⟩ : TBaneBite), (⟨0, (⟨100, 200⟩ : TSpan)⟩ : TBaneBite)] := RSl.of_rd hcb7 (Rd.cons (c := [.int .i64 1, .int .i64 900, .int .i64 1000]) rfl rfl (Rd.cons (c := [.int .i64 0, .int .i64 100, .int .i64 200]) rfl rfl (Rd.nil RTBaneBite 3 _))) rfl (by decide)
 refine WL_val (v := (.agg #[.int .i64 10, .int .i64 20, .slice (some ⟨b7, 0, none⟩) 2 2, .int .i64 150, .int .i64 30])) (by kernel_rfl) rfl ?_
 refine WL_op rfl (OpP_newF (v := fun b => .slice (some ⟨b, 0, none⟩) 3 3) (cs := [.int .i64 100, .int .i64 200, .slice none 0 0, .int .i64 150, .int .i64 10, .int .i64 0, .int .i64 50, .slice (some ⟨b4, 0, none⟩) 1 1, .int .i64 200, .int .i64 20, .int .i64 10, .int .i64 20, .slice (some ⟨b7, 0, none⟩) 2 2, .int .i64 150, .int .i64 30]) (e := 72) (by kernel_rfl) hS.sat rfl (fun b10 G12 w11 hg hcb10 => ?_))
 have hS := hS.grow hg; have hO := hO.grow hg
 have leG12 := hg.le
 have l1_3 := leG9.trans leG12
 have hfb10 : RSl RTBaneFish 5 G12 (some ⟨b10, 0, none⟩) 3 3 [(⟨(⟨100, 200⟩ : TSpan), [], 150, 10⟩ : TBaneFish), (⟨(⟨0, 50⟩ : TSpan), [(⟨0, (⟨500, 800⟩ : TSpan)⟩ : TBaneBite)], 200, 20⟩ : TBaneFish), (⟨(⟨10, 20⟩ : TSpan), [(⟨1, (⟨900, 1000⟩ : TSpan)⟩ : TBaneBite), (⟨0, (⟨100, 200⟩ : TSpan)⟩ : TBaneBite)], 150, 30⟩ : TBaneFish)] := RSl.of_rd hcb10 (Rd.cons (c := [.int .i64 100, .int .i64 200, .slice none 0 0, .int .i64 150, .int .i64 10]) rfl ⟨_, _, _, rfl, (RSl.nil RTBaneBite 3 G12 none)⟩ (Rd.cons (c := [.int .i64 0, .int .i64 50, .slice (some ⟨b4, 0, none⟩) 1 1, .int .i64 200, .int .i64 20]) rfl ⟨_, _, _, rfl, (hfb4.mono RTBaneBite_mono l1_3)⟩ (Rd.cons (c := [.int .i64 10, .int .i64 20, .slice (some ⟨b7, 0, none⟩) 2 2, .int .i64 150, .int .i64 30]) rfl ⟨_, _, _, rfl, (hfb7.mono RTBaneBite_mono leG12)⟩ (Rd.nil RTBaneFish 5 _)))) rfl (by decide)
 refine WL_val (v := (.agg #[.slice (some ⟨b10, 0, none⟩) 3 3, .int .i64 200])) (by kernel_rfl) rfl ?_
 refine WL_op rfl (OpP_store (vs := [.slice (some ⟨b10, 0, none⟩) 3 3, .int .i64 200]) sz24 hS hO (k := 0) rfl rfl rfl rfl rfl (one_all rfl) (Nat.le_of_ble_eq_true rfl) (fun w13 hS hO => ?_))
 have hO : Owns G12 w13 w0.heap.size ([⟨24, 2, 1, .slice (some ⟨b1, 0, none⟩) 1 1, [.slice (some ⟨b10, 0, none⟩) 3 3, .int .i64 200]⟩]) := hO
 obtain ⟨G14, leG14, hS, hO, hqG14, _⟩ := hO.freeze hS (k := 0) rfl
 have hcG14 : Cells G14 b1 0 [.slice (some ⟨b10, 0, none⟩) 3 3, .int .i64 200] := (hqG14 _ _ _ _ rfl)
 refine WL_nil ?_; refine WC_ret ?_
 have H : some (⟨[(⟨(⟨100, 200⟩ : TSpan), [], 150, 10⟩ : TBaneFish), (⟨(⟨0, 50⟩ : TSpan), [(⟨0, (⟨500, 800⟩ : TSpan)⟩ : TBaneBite)], 200, 20⟩ : TBaneFish), (⟨(⟨10, 20⟩ : TSpan), [(⟨1, (⟨900, 1000⟩ : TSpan)⟩ : TBaneBite), (⟨0, (⟨100, 200⟩ : TSpan)⟩ : TBaneBite)], 150, 30⟩ : TBaneFish)], 200⟩ : TBaneWeb) = some r := H
 have H := Option.some.inj H; subst H
 exact ⟨[.agg #[.slice (some ⟨b10, 0, none⟩) 3 3, .int .i64 200]], ⟨⟨_, rfl, ld_agg (cs := [.slice (some ⟨b10, 0, none⟩) 3 3, .int .i64 200]) ag24 rfl (fun j v hj => hS.sat.cell (hcG14 j v hj))⟩, trivial⟩, ⟨_, _, rfl, hS.toGrow, _, _, _, rfl, (hfb10.mono RTBaneFish_mono leG14)⟩⟩
set_option maxHeartbeats 1000000 in
theorem f64_ok {G0 : Gm} {w0 : World} (hS0 : Sat G0 w0)   {r : TBaneSea} (H : f64 = some r) :
  Calls Try.prog 64 #[] w0 (RetG G0 w0 (fun G v => ∃ (ra0 : Option Addr) (rn0 rc0 : Nat) (ra1 : Option Addr) (rn1 rc1 : Nat) (ra2 : Option Addr) (rn2 rc2 : Nat), v = .agg #[.int .i64 r.Islets, .slice ra0 rn0 rc0, .slice ra1 rn1 rc1, .slice ra2 rn2 rc2, .int .i64 r.Wait] ∧ RSl RInt 1 G ra0 rn0 rc0 r.Infested ∧ RSl RInt 1 G ra1 rn1 rc1 r.Clean ∧ RSl RTBaneTrip 4 G ra2 rn2 rc2 r.Trips)) := by
 have hS := Since.start hS0
 have hO : Owns G0 w0 w0.heap.size [] := Owns.nil (Nat.le_refl _)
 unfold f64 at H
 refine enterG (N := 10) (shutG _ _ _) [.cell 0 46] Try.func64 rfl rfl rfl rfl ?_; refine WC_seq ?_; refine WC_region ?_
 refine WL_op rfl (OpP_newO (v := fun b => .pointer (some ⟨b, 0, none⟩)) (cs := [.int .i64 0, .slice none 0 0, .slice none 0 0, .slice none 0 0, .int .i64 0]) (e := 46) (by kernel_rfl) hS.sat hO rfl 5 1 rfl (by decide) (fun b1 w2 hb hO => ?_))
 have hS := hS.keep hb; refine WL_nil ?_; refine WC_seq ?_; refine WC_region ?_
 refine WL_op rfl (OpP_newF (v := fun b => .slice (some ⟨b, 0, none⟩) 1 1) (cs := [.int .i64 0]) (e := 3) (by kernel_rfl) hS.sat rfl (fun b4 G6 w5 hg hcb4 => ?_))
 have hS := hS.grow hg; have hO := hO.grow hg
 have leG6 := hg.le
 have hfb4 : RSl RInt 1 G6 (some ⟨b4, 0, none⟩) 1 1 [0] := RSl.of_rd hcb4 (Rd.cons (c := [.int .i64 0]) rfl rfl (Rd.nil RInt 1 _)) rfl (by decide)
 refine WL_op rfl (OpP_newF (v := fun b => .slice (some ⟨b, 0, none⟩) 1 1) (cs := [.int .i64 3]) (e := 3) (by kernel_rfl) hS.sat rfl (fun b7 G9 w8 hg hcb7 => ?_))
 have hS := hS.grow hg; have hO := hO.grow hg
 have leG9 := hg.le
 have hfb7 : RSl RInt 1 G9 (some ⟨b7, 0, none⟩) 1 1 [3] := RSl.of_rd hcb7 (Rd.cons (c := [.int .i64 3]) rfl rfl (Rd.nil RInt 1 _)) rfl (by decide)
 refine WL_val (v := (.agg #[.int .i64 1, .int .i64 0, .int .i64 1, .int .i64 5])) (by kernel_rfl) rfl ?_
 refine WL_val (v := (.agg #[.int .i64 2, .int .i64 1, .int .i64 3, .int .i64 9])) (by kernel_rfl) rfl ?_
 refine WL_val (v := (.agg #[.int .i64 3, .int .i64 1, .int .i64 2, .int .i64 4])) (by kernel_rfl) rfl ?_
 refine WL_val (v := (.agg #[.int .i64 5, .int .i64 2, .int .i64 3, .int .i64 6])) (by kernel_rfl) rfl ?_
 refine WL_val (v := (.agg #[.int .i64 4, .int .i64 0, .int .i64 2, .int .i64 7])) (by kernel_rfl) rfl ?_
 refine WL_op rfl (OpP_newF (v := fun b => .slice (some ⟨b, 0, none⟩) 5 5) (cs := [.int .i64 1, .int .i64 0, .int .i64 1, .int .i64 5, .int .i64 2, .int .i64 1, .int .i64 3, .int .i64 9, .int .i64 3, .int .i64 1, .int .i64 2, .int .i64 4, .int .i64 5, .int .i64 2, .int .i64 3, .int .i64 6, .int .i64 4, .int .i64 0, .int .i64 2, .int .i64 7]) (e := 109) (by kernel_rfl) hS.sat rfl (fun b10 G12 w11 hg hcb10 => ?_))
 have hS := hS.grow hg; have hO := hO.grow hg
 have leG12 := hg.le
 have hfb10 : RSl RTBaneTrip 4 G12 (some ⟨b10, 0, none⟩) 5 5 [(⟨1, 0, 1, 5⟩ : TBaneTrip), (⟨2, 1, 3, 9⟩ : TBaneTrip), (⟨3, 1, 2, 4⟩ : TBaneTrip), (⟨5, 2, 3, 6⟩ : TBaneTrip), (⟨4, 0, 2, 7⟩ : TBaneTrip)] := RSl.of_rd hcb10 (Rd.cons (c := [.int .i64 1, .int .i64 0, .int .i64 1, .int .i64 5]) rfl rfl (Rd.cons (c := [.int .i64 2, .int .i64 1, .int .i64 3, .int .i64 9]) rfl rfl (Rd.cons (c := [.int .i64 3, .int .i64 1, .int .i64 2, .int .i64 4]) rfl rfl (Rd.cons (c := [.int .i64 5, .int .i64 2, .int .i64 3, .int .i64 6]) rfl rfl (Rd.cons (c := [.int .i64 4, .int .i64 0, .int .i64 2, .int .i64 7]) rfl rfl (Rd.nil RTBaneTrip 4 _)))))) rfl (by decide)
 refine WL_val (v := (.agg #[.int .i64 4, .slice (some ⟨b4, 0, none⟩) 1 1, .slice (some ⟨b7, 0, none⟩) 1 1, .slice (some ⟨b10, 0, none⟩) 5 5, .int .i64 2])) (by kernel_rfl) rfl ?_
 refine WL_op rfl (OpP_store (vs := [.int .i64 4, .slice (some ⟨b4, 0, none⟩) 1 1, .slice (some ⟨b7, 0, none⟩) 1 1, .slice (some ⟨b10, 0, none⟩) 5 5, .int .i64 2]) sz46 hS hO (k := 0) rfl rfl rfl rfl rfl (one_all rfl) (Nat.le_of_ble_eq_true rfl) (fun w13 hS hO => ?_))
 have hO : Owns G12 w13 w0.heap.size ([⟨46, 5, 1, .slice (some ⟨b1, 0, none⟩) 1 1, [.int .i64 4, .slice (some ⟨b4, 0, none⟩) 1 1, .slice (some ⟨b7, 0, none⟩) 1 1, .slice (some ⟨b10, 0, none⟩) 5 5, .int .i64 2]⟩]) := hO
 obtain ⟨G14, leG14, hS, hO, hqG14, _⟩ := hO.freeze hS (k := 0) rfl
 have hcG14 : Cells G14 b1 0 [.int .i64 4, .slice (some ⟨b4, 0, none⟩) 1 1, .slice (some ⟨b7, 0, none⟩) 1 1, .slice (some ⟨b10, 0, none⟩) 5 5, .int .i64 2] := (hqG14 _ _ _ _ rfl)
 refine WL_nil ?_; refine WC_ret ?_
 have H : some (⟨4, [0], [3], [(⟨1, 0, 1, 5⟩ : TBaneTrip), (⟨2, 1, 3, 9⟩ : TBaneTrip), (⟨3, 1, 2, 4⟩ : TBaneTrip), (⟨5, 2, 3, 6⟩ : TBaneTrip), (⟨4, 0, 2, 7⟩ : TBaneTrip)], 2⟩ : TBaneSea) = some r := H
 have H := Option.some.inj H; subst H
 have l1_4 := (leG9.trans leG12).trans leG14
 have l2_4 := leG12.trans leG14
 exact ⟨[.agg #[.int .i64 4, .slice (some ⟨b4, 0, none⟩) 1 1, .slice (some ⟨b7, 0, none⟩) 1 1, .slice (some ⟨b10, 0, none⟩) 5 5, .int .i64 2]], ⟨⟨_, rfl, ld_agg (cs := [.int .i64 4, .slice (some ⟨b4, 0, none⟩) 1 1, .slice (some ⟨b7, 0, none⟩) 1 1, .slice (some ⟨b10, 0, none⟩) 5 5, .int .i64 2]) ag46 rfl (fun j v hj => hS.sat.cell (hcG14 j v hj))⟩, trivial⟩, ⟨_, _, rfl, hS.toGrow, _, _, _, _, _, _, _, _, _, rfl, (hfb4.mono RInt_mono l1_4), (hfb7.mono RInt_mono l2_4), (hfb10.mono RTBaneTrip_mono leG14)⟩⟩
set_option maxHeartbeats 1000000 in
theorem f19_ok {G0 : Gm} {w0 : World} (hS0 : Sat G0 w0)   {r : Bool} (H : f19 = some r) :
  Calls Try.prog 19 #[] w0 (RetV w0 (.bool r)) := by
 have hS := Since.start hS0
 have hO : Owns G0 w0 w0.heap.size [] := Owns.nil (Nat.le_refl _)
 unfold f19 at H
 refine enter1 (N := 130) (shutV _ _) Try.func19 rfl rfl rfl rfl ?_; refine WC_seq ?_; refine WC_region ?_; refine WL_val (rn_assign (v := (.bool false)) rfl) rfl ?_; refine WL_nil ?_; refine WC_seq ?_; refine WC_region ?_; obtain ⟨y1, hy1, H⟩ := bnd H; refine WL_op rfl (OpP_callG cb63 (f63_ok  hS.sat  hy1) rfl rfl (fun vy1 G3 w2 hg hvy1 => ?_)); obtain ⟨a4, n4, c4, ⟨⟩, h4⟩ := hvy1; have hS := hS.grow hg; have hO := hO.grow hg
 have leG3 := hg.le
 obtain ⟨y5, hy5, H⟩ := bnd H; refine WL_op rfl (OpP_callG cb25 (f25_ok (x0 := y1) hS.sat h4 hy5) rfl rfl (fun vy5 G7 w6 hg hvy5 => ?_)); obtain ⟨a8, n8, c8, ⟨⟩, h8⟩ := hvy5; have hS := hS.grow hg; have hO := hO.grow hg
 have leG7 := hg.le
 refine WL_val (rn_move (v := (.tuple #[.slice a8 n8 c8, .int .i64 y5.2])) rfl) rfl ?_; refine WL_val (rn_extract (v := (.slice a8 n8 c8)) rfl rfl) rfl ?_; refine WL_val (rn_extract (v := (.int .i64 y5.2)) rfl rfl) rfl ?_; refine WL_val (rn_assign (v := (.slice a8 n8 c8)) rfl) rfl ?_; refine WL_val (rn_assign (v := (.int .i64 y5.2)) rfl) rfl ?_; refine WL_nil ?_; refine WC_seq ?_; refine WC_region ?_; obtain ⟨y9, hy9, H⟩ := bnd H; refine WL_op rfl (OpP_callG cb63 (f63_ok  hS.sat  hy9) rfl rfl (fun vy9 G11 w10 hg hvy9 => ?_)); obtain ⟨a12, n12, c12, ⟨⟩, h12⟩ := hvy9; have hS := hS.grow hg; have hO := hO.grow hg
 have leG11 := hg.le
 refine WL_op rfl (OpP_newF (v := fun b => .slice (some ⟨b, 0, none⟩) 3 3) (cs := [.int .i64 150, .int .i64 20, .int .i64 15]) (e := 3) (by kernel_rfl) hS.sat rfl (fun b13 G15 w14 hg hcb13 => ?_))
 have hS := hS.grow hg; have hO := hO.grow hg
 have leG15 := hg.le
 have hfb13 : RSl RInt 1 G15 (some ⟨b13, 0, none⟩) 3 3 [150, 20, 15] := RSl.of_rd hcb13 (Rd.cons (c := [.int .i64 150]) rfl rfl (Rd.cons (c := [.int .i64 20]) rfl rfl (Rd.cons (c := [.int .i64 15]) rfl rfl (Rd.nil RInt 1 _)))) rfl (by decide)
 refine WL_op rfl (OpP_newF (v := fun b => .slice (some ⟨b, 0, none⟩) 1 1) (cs := [.int .i64 600]) (e := 3) (by kernel_rfl) hS.sat rfl (fun b16 G18 w17 hg hcb16 => ?_))
 have hS := hS.grow hg; have hO := hO.grow hg
 have leG18 := hg.le
 have hfb16 : RSl RInt 1 G18 (some ⟨b16, 0, none⟩) 1 1 [600] := RSl.of_rd hcb16 (Rd.cons (c := [.int .i64 600]) rfl rfl (Rd.nil RInt 1 _)) rfl (by decide)
 refine WL_op rfl (OpP_newF (v := fun b => .slice (some ⟨b, 0, none⟩) 2 2) (cs := [.int .i64 950, .int .i64 150]) (e := 3) (by kernel_rfl) hS.sat rfl (fun b19 G21 w20 hg hcb19 => ?_))
 have hS := hS.grow hg; have hO := hO.grow hg
 have leG21 := hg.le
 have hfb19 : RSl RInt 1 G21 (some ⟨b19, 0, none⟩) 2 2 [950, 150] := RSl.of_rd hcb19 (Rd.cons (c := [.int .i64 950]) rfl rfl (Rd.cons (c := [.int .i64 150]) rfl rfl (Rd.nil RInt 1 _))) rfl (by decide)
 refine WL_op rfl (OpP_newF (v := fun b => .slice (some ⟨b, 0, none⟩) 3 3) (cs := [.slice none 0 0, .slice (some ⟨b16, 0, none⟩) 1 1, .slice (some ⟨b19, 0, none⟩) 2 2]) (e := 25) (by kernel_rfl) hS.sat rfl (fun b22 G24 w23 hg hcb22 => ?_))
 have hS := hS.grow hg; have hO := hO.grow hg
 have leG24 := hg.le
 have l5_7 := leG21.trans leG24
 have hfb22 : RSl (RSlice RInt 1) 1 G24 (some ⟨b22, 0, none⟩) 3 3 [[], [600], [950, 150]] := RSl.of_rd hcb22 (Rd.cons (c := [.slice none 0 0]) rfl ⟨_, _, _, rfl, (RSl.nil RInt 1 G24 none)⟩ (Rd.cons (c := [.slice (some ⟨b16, 0, none⟩) 1 1]) rfl ⟨_, _, _, rfl, (hfb16.mono RInt_mono l5_7)⟩ (Rd.cons (c := [.slice (some ⟨b19, 0, none⟩) 2 2]) rfl ⟨_, _, _, rfl, (hfb19.mono RInt_mono leG24)⟩ (Rd.nil (RSlice RInt 1) 1 _)))) rfl (by decide)
 refine WL_val (v := (.agg #[.slice (some ⟨b13, 0, none⟩) 3 3, .slice (some ⟨b22, 0, none⟩) 3 3])) (by kernel_rfl) rfl ?_
 obtain ⟨y25, hy25, H⟩ := bnd H
 have l3_7 := (leG15.trans leG18).trans l5_7
 have l4_7 := leG18.trans l5_7
 refine WL_op rfl (OpP_callG cb20 (f20_ok (x0 := y9) (x1 := (⟨[150, 20, 15], [[], [600], [950, 150]]⟩ : TBaneTruth)) hS.sat (h12.mono RTBaneFish_mono l3_7) (hfb13.mono RInt_mono l4_7) hfb22 hy25) rfl rfl (fun vy25 G27 w26 hg hvy25 => ?_)); obtain ⟨a28, n28, c28, ⟨⟩, h28⟩ := hvy25; have hS := hS.grow hg; have hO := hO.grow hg
 have leG27 := hg.le
 refine WL_val (rn_move (v := (.tuple #[.slice a28 n28 c28, .int .i64 y25.2])) rfl) rfl ?_; refine WL_val (rn_extract (v := (.slice a28 n28 c28)) rfl rfl) rfl ?_; refine WL_val (rn_extract (v := (.int .i64 y25.2)) rfl rfl) rfl ?_; refine WL_val (rn_assign (v := (.slice a28 n28 c28)) rfl) rfl ?_; refine WL_val (rn_assign (v := (.int .i64 y25.2)) rfl) rfl ?_; refine WL_nil ?_; refine WC_seq ?_; refine WC_region ?_; obtain ⟨y29, hy29, H⟩ := bnd H; refine WL_op rfl (OpP_callG cb63 (f63_ok  hS.sat  hy29) rfl rfl (fun vy29 G31 w30 hg hvy29 => ?_)); obtain ⟨a32, n32, c32, ⟨⟩, h32⟩ := hvy29; have hS := hS.grow hg; have hO := hO.grow hg
 have leG31 := hg.le
 refine WL_op rfl (OpP_newF (v := fun b => .slice (some ⟨b, 0, none⟩) 2 2) (cs := [.int .i64 1, .int .i64 2]) (e := 3) (by kernel_rfl) hS.sat rfl (fun b33 G35 w34 hg hcb33 => ?_))
 have hS := hS.grow hg; have hO := hO.grow hg
 have leG35 := hg.le
 have hfb33 : RSl RInt 1 G35 (some ⟨b33, 0, none⟩) 2 2 [1, 2] := RSl.of_rd hcb33 (Rd.cons (c := [.int .i64 1]) rfl rfl (Rd.cons (c := [.int .i64 2]) rfl rfl (Rd.nil RInt 1 _))) rfl (by decide)
 obtain ⟨y36, hy36, H⟩ := bnd H; refine WL_op rfl (OpP_callG cb42 (f42_ok (x0 := y29) (x1 := [1, 2]) hS.sat (h32.mono RTBaneFish_mono leG35) hfb33 hy36) rfl rfl (fun vy36 G38 w37 hg hvy36 => ?_)); obtain ⟨a39, n39, c39, ⟨⟩, h39⟩ := hvy36; have hS := hS.grow hg; have hO := hO.grow hg
 have leG38 := hg.le
 refine WL_val (rn_move (v := (.tuple #[.slice a39 n39 c39, .int .i64 y36.2.1, .int .i64 y36.2.2])) rfl) rfl ?_; refine WL_val (rn_extract (v := (.slice a39 n39 c39)) rfl rfl) rfl ?_; refine WL_val (rn_extract (v := (.int .i64 y36.2.1)) rfl rfl) rfl ?_; refine WL_val (rn_extract (v := (.int .i64 y36.2.2)) rfl rfl) rfl ?_; refine WL_val (rn_assign (v := (.slice a39 n39 c39)) rfl) rfl ?_; refine WL_val (rn_assign (v := (.int .i64 y36.2.1)) rfl) rfl ?_; refine WL_val (rn_assign (v := (.int .i64 y36.2.2)) rfl) rfl ?_; refine WL_nil ?_; refine WC_seq ?_; refine WC_region ?_; obtain ⟨y40, hy40, H⟩ := bnd H; refine WL_op rfl (OpP_callG cb64 (f64_ok  hS.sat  hy40) rfl rfl (fun vy40 G42 w41 hg hvy40 => ?_)); obtain ⟨a43, n43, c43, a44, n44, c44, a45, n45, c45, ⟨⟩, h43, h44, h45⟩ := hvy40; have hS := hS.grow hg; have hO := hO.grow hg
 have leG42 := hg.le
 obtain ⟨y46, hy46, H⟩ := bnd H; refine WL_op rfl (OpP_callG cb39 (f39_ok (x0 := y40) (x1 := []) hS.sat h43 h44 h45 (RSl.nil RInt 1 G42 none) hy46) rfl rfl (fun vy46 G48 w47 hg hvy46 => ?_)); obtain ⟨a49, n49, c49, ⟨⟩, h49⟩ := hvy46; have hS := hS.grow hg; have hO := hO.grow hg
 have leG48 := hg.le
 refine WL_val (rn_move (v := (.tuple #[.slice a49 n49 c49, .int .i64 y46.2])) rfl) rfl ?_; refine WL_val (rn_extract (v := (.slice a49 n49 c49)) rfl rfl) rfl ?_; refine WL_val (rn_extract (v := (.int .i64 y46.2)) rfl rfl) rfl ?_; refine WL_val (rn_assign (v := (.slice a49 n49 c49)) rfl) rfl ?_; refine WL_val (rn_assign (v := (.int .i64 y46.2)) rfl) rfl ?_; refine WL_nil ?_; refine WC_seq ?_; refine WC_region ?_; obtain ⟨y50, hy50, H⟩ := bnd H; refine WL_op rfl (OpP_callG cb64 (f64_ok  hS.sat  hy50) rfl rfl (fun vy50 G52 w51 hg hvy50 => ?_)); obtain ⟨a53, n53, c53, a54, n54, c54, a55, n55, c55, ⟨⟩, h53, h54, h55⟩ := hvy50; have hS := hS.grow hg; have hO := hO.grow hg
 have leG52 := hg.le
 obtain ⟨y56, hy56, H⟩ := bnd H; refine WL_op rfl (OpP_callG cb29 (f29_ok (x0 := y50) (x1 := []) (x2 := 3) hS.sat h53 h54 h55 (RSl.nil RInt 1 G52 none) hy56) rfl rfl (fun vy56 G58 w57 hg hvy56 => ?_)); obtain ⟨a59, n59, c59, ⟨⟩, h59⟩ := hvy56; have hS := hS.grow hg; have hO := hO.grow hg
 have leG58 := hg.le
 refine WL_val (rn_move (v := (.tuple #[.slice a59 n59 c59, .int .i64 y56.2])) rfl) rfl ?_; refine WL_val (rn_extract (v := (.slice a59 n59 c59)) rfl rfl) rfl ?_; refine WL_val (rn_extract (v := (.int .i64 y56.2)) rfl rfl) rfl ?_; refine WL_val (rn_assign (v := (.slice a59 n59 c59)) rfl) rfl ?_; refine WL_val (rn_assign (v := (.int .i64 y56.2)) rfl) rfl ?_; refine WL_nil ?_; refine WC_seq ?_; refine WC_region ?_; obtain ⟨y60, hy60, H⟩ := bnd H; refine WL_op rfl (OpP_callG cb64 (f64_ok  hS.sat  hy60) rfl rfl (fun vy60 G62 w61 hg hvy60 => ?_)); obtain ⟨a63, n63, c63, a64, n64, c64, a65, n65, c65, ⟨⟩, h63, h64, h65⟩ := hvy60; have hS := hS.grow hg; have hO := hO.grow hg
 have leG62 := hg.le
 obtain ⟨y66, hy66, H⟩ := bnd H; refine WL_op rfl (OpP_callG cb33 (f33_ok (x0 := y60) hS.sat h63 h64 h65 hy66) rfl rfl (fun vy66 G68 w67 hg hvy66 => ?_)); obtain ⟨a69, n69, c69, ⟨⟩, h69⟩ := hvy66; have hS := hS.grow hg; have hO := hO.grow hg
 have leG68 := hg.le
 refine WL_val (rn_move (v := (.tuple #[.slice a69 n69 c69, .int .i64 y66.2.1, .int .i64 y66.2.2])) rfl) rfl ?_; refine WL_val (rn_extract (v := (.slice a69 n69 c69)) rfl rfl) rfl ?_; refine WL_val (rn_extract (v := (.int .i64 y66.2.1)) rfl rfl) rfl ?_; refine WL_val (rn_extract (v := (.int .i64 y66.2.2)) rfl rfl) rfl ?_; refine WL_val (rn_assign (v := (.slice a69 n69 c69)) rfl) rfl ?_; refine WL_val (rn_assign (v := (.int .i64 y66.2.1)) rfl) rfl ?_; refine WL_val (rn_assign (v := (.int .i64 y66.2.2)) rfl) rfl ?_; refine WL_nil ?_; refine WC_seq ?_; refine WC_region ?_; obtain ⟨y70, hy70, H⟩ := bnd H; refine WL_op rfl (OpP_callG cb64 (f64_ok  hS.sat  hy70) rfl rfl (fun vy70 G72 w71 hg hvy70 => ?_)); obtain ⟨a73, n73, c73, a74, n74, c74, a75, n75, c75, ⟨⟩, h73, h74, h75⟩ := hvy70; have hS := hS.grow hg; have hO := hO.grow hg
 have leG72 := hg.le
 obtain ⟨y76, hy76, H⟩ := bnd H; refine WL_op rfl (OpP_callV cb34 (f34_ok (x0 := y70) hS.sat h73 h74 h75 hy76) rfl rfl (fun w77 hb => ?_)); have hS := hS.keep hb; have hO := hO.below hb; refine WL_val (rn_move (v := (.tuple #[.int .i64 y76.1, .int .i64 y76.2])) rfl) rfl ?_; refine WL_val (rn_extract (v := (.int .i64 y76.1)) rfl rfl) rfl ?_; refine WL_val (rn_extract (v := (.int .i64 y76.2)) rfl rfl) rfl ?_; refine WL_val (rn_assign (v := (.int .i64 y76.1)) rfl) rfl ?_; refine WL_val (rn_assign (v := (.int .i64 y76.2)) rfl) rfl ?_; refine WL_nil ?_; refine WC_seq ?_; refine WC_seq ?_; obtain ⟨q78, hq78, H⟩ := bnd H; refine WC_cut (fun F w => ∃ (Fb : Fr), F = upds Fb [(1, .slice a8 n8 c8), (3, .slice a28 n28 c28), (5, .slice a39 n39 c39), (6, .int .i64 y36.2.1), (8, .slice a49 n49 c49), (10, .slice a59 n59 c59), (12, .slice a69 n69 c69), (13, .int .i64 y66.2.1), (15, .int .i64 y76.1), (85, .bool q78)] ∧ w77 = w) ?_ ?_
 ·have Hoq78 := H; have H := hq78; refine WC_region ?_; refine WL_val (rn_move (v := (.int .i64 y5.2)) rfl) rfl ?_; refine WL_val (rn_neq rfl rfl) rfl ?_; refine WL_val (rn_move (v := (.bool (y5.2 != 0))) rfl) rfl ?_
  rcases bcases (y5.2 != 0) with hb79 | hb79
  ·have H := ifT hb79 H; refine WL_guardN rfl hb79 rfl rfl rfl ?_; refine WL_guardN rfl hb79 rfl rfl rfl ?_; refine WL_val (rn_pickT (v := (.bool true)) rfl hb79 rfl) rfl ?_; refine WL_val (rn_move (v := (.bool true)) rfl) rfl ?_; refine WL_guardN rfl rfl rfl rfl rfl ?_; refine WL_guardN rfl rfl rfl rfl rfl ?_; refine WL_val (rn_pickT (v := (.bool true)) rfl rfl rfl) rfl ?_; refine WL_val (rn_move (v := (.bool true)) rfl) rfl ?_; refine WL_guardN rfl rfl rfl rfl rfl ?_; refine WL_guardN rfl rfl rfl rfl rfl ?_; refine WL_val (rn_pickT (v := (.bool true)) rfl rfl rfl) rfl ?_; refine WL_val (rn_move (v := (.bool true)) rfl) rfl ?_; refine WL_guardN rfl rfl rfl rfl rfl ?_; refine WL_guardN rfl rfl rfl rfl rfl ?_; refine WL_val (rn_pickT (v := (.bool true)) rfl rfl rfl) rfl ?_; refine WL_val (rn_move (v := (.bool true)) rfl) rfl ?_; refine WL_guardN rfl rfl rfl rfl rfl ?_; refine WL_guardN rfl rfl rfl rfl rfl ?_; refine WL_val (rn_pickT (v := (.bool true)) rfl rfl rfl) rfl ?_; refine WL_val (rn_move (v := (.bool true)) rfl) rfl ?_; refine WL_guardN rfl rfl rfl rfl rfl ?_; refine WL_guardN rfl rfl rfl rfl rfl ?_; refine WL_val (rn_pickT (v := (.bool true)) rfl rfl rfl) rfl ?_; refine WL_nil ?_; have H := Option.some.inj H; subst H
   exact ⟨_, upds_self _ _ ⟨rfl, rfl, rfl, rfl, rfl, rfl, rfl, rfl, rfl, rfl, trivial⟩, rfl⟩
  ·have H := ifF hb79 H; refine WL_guardY rfl hb79 rfl rfl ?_; refine WL_val (rn_move (v := (.int .i64 y25.2)) rfl) rfl ?_; refine WL_guardY rfl hb79 rfl rfl ?_; refine WL_val (rn_neq rfl rfl) rfl ?_; refine WL_val (rn_pickF (v := (.bool (y25.2 != 0))) rfl hb79 rfl) rfl ?_; refine WL_val (rn_move (v := (.bool (y25.2 != 0))) rfl) rfl ?_
   rcases bcases (y25.2 != 0) with hb80 | hb80
   ·have H := ifT hb80 H; refine WL_guardN rfl hb80 rfl rfl rfl ?_; refine WL_guardN rfl hb80 rfl rfl rfl ?_; refine WL_val (rn_pickT (v := (.bool true)) rfl hb80 rfl) rfl ?_; refine WL_val (rn_move (v := (.bool true)) rfl) rfl ?_; refine WL_guardN rfl rfl rfl rfl rfl ?_; refine WL_guardN rfl rfl rfl rfl rfl ?_; refine WL_val (rn_pickT (v := (.bool true)) rfl rfl rfl) rfl ?_; refine WL_val (rn_move (v := (.bool true)) rfl) rfl ?_; refine WL_guardN rfl rfl rfl rfl rfl ?_; refine WL_guardN rfl rfl rfl rfl rfl ?_; refine WL_val (rn_pickT (v := (.bool true)) rfl rfl rfl) rfl ?_; refine WL_val (rn_move (v := (.bool true)) rfl) rfl ?_; refine WL_guardN rfl rfl rfl rfl rfl ?_; refine WL_guardN rfl rfl rfl rfl rfl ?_; refine WL_val (rn_pickT (v := (.bool true)) rfl rfl rfl) rfl ?_; refine WL_val (rn_move (v := (.bool true)) rfl) rfl ?_; refine WL_guardN rfl rfl rfl rfl rfl ?_; refine WL_guardN rfl rfl rfl rfl rfl ?_; refine WL_val (rn_pickT (v := (.bool true)) rfl rfl rfl) rfl ?_; refine WL_nil ?_; have H := Option.some.inj H; subst H
    exact ⟨_, upds_self _ _ ⟨rfl, rfl, rfl, rfl, rfl, rfl, rfl, rfl, rfl, rfl, trivial⟩, rfl⟩
   ·have H := ifF hb80 H; refine WL_guardY rfl hb80 rfl rfl ?_; refine WL_val (rn_move (v := (.int .i64 y36.2.2)) rfl) rfl ?_; refine WL_guardY rfl hb80 rfl rfl ?_; refine WL_val (rn_neq rfl rfl) rfl ?_; refine WL_val (rn_pickF (v := (.bool (y36.2.2 != 0))) rfl hb80 rfl) rfl ?_; refine WL_val (rn_move (v := (.bool (y36.2.2 != 0))) rfl) rfl ?_
    rcases bcases (y36.2.2 != 0) with hb81 | hb81
    ·have H := ifT hb81 H; refine WL_guardN rfl hb81 rfl rfl rfl ?_; refine WL_guardN rfl hb81 rfl rfl rfl ?_; refine WL_val (rn_pickT (v := (.bool true)) rfl hb81 rfl) rfl ?_; refine WL_val (rn_move (v := (.bool true)) rfl) rfl ?_; refine WL_guardN rfl rfl rfl rfl rfl ?_; refine WL_guardN rfl rfl rfl rfl rfl ?_; refine WL_val (rn_pickT (v := (.bool true)) rfl rfl rfl) rfl ?_; refine WL_val (rn_move (v := (.bool true)) rfl) rfl ?_; refine WL_guardN rfl rfl rfl rfl rfl ?_; refine WL_guardN rfl rfl rfl rfl rfl ?_; refine WL_val (rn_pickT (v := (.bool true)) rfl rfl rfl) rfl ?_; refine WL_val (rn_move (v := (.bool true)) rfl) rfl ?_; refine WL_guardN rfl rfl rfl rfl rfl ?_; refine WL_guardN rfl rfl rfl rfl rfl ?_; refine WL_val (rn_pickT (v := (.bool true)) rfl rfl rfl) rfl ?_; refine WL_nil ?_; have H := Option.some.inj H; subst H
     exact ⟨_, upds_self _ _ ⟨rfl, rfl, rfl, rfl, rfl, rfl, rfl, rfl, rfl, rfl, trivial⟩, rfl⟩
    ·have H := ifF hb81 H; refine WL_guardY rfl hb81 rfl rfl ?_; refine WL_val (rn_move (v := (.int .i64 y46.2)) rfl) rfl ?_; refine WL_guardY rfl hb81 rfl rfl ?_; refine WL_val (rn_neq rfl rfl) rfl ?_; refine WL_val (rn_pickF (v := (.bool (y46.2 != 0))) rfl hb81 rfl) rfl ?_; refine WL_val (rn_move (v := (.bool (y46.2 != 0))) rfl) rfl ?_
     rcases bcases (y46.2 != 0) with hb82 | hb82
     ·have H := ifT hb82 H; refine WL_guardN rfl hb82 rfl rfl rfl ?_; refine WL_guardN rfl hb82 rfl rfl rfl ?_; refine WL_val (rn_pickT (v := (.bool true)) rfl hb82 rfl) rfl ?_; refine WL_val (rn_move (v := (.bool true)) rfl) rfl ?_; refine WL_guardN rfl rfl rfl rfl rfl ?_; refine WL_guardN rfl rfl rfl rfl rfl ?_; refine WL_val (rn_pickT (v := (.bool true)) rfl rfl rfl) rfl ?_; refine WL_val (rn_move (v := (.bool true)) rfl) rfl ?_; refine WL_guardN rfl rfl rfl rfl rfl ?_; refine WL_guardN rfl rfl rfl rfl rfl ?_; refine WL_val (rn_pickT (v := (.bool true)) rfl rfl rfl) rfl ?_; refine WL_nil ?_; have H := Option.some.inj H; subst H
      exact ⟨_, upds_self _ _ ⟨rfl, rfl, rfl, rfl, rfl, rfl, rfl, rfl, rfl, rfl, trivial⟩, rfl⟩
     ·have H := ifF hb82 H; refine WL_guardY rfl hb82 rfl rfl ?_; refine WL_val (rn_move (v := (.int .i64 y56.2)) rfl) rfl ?_; refine WL_guardY rfl hb82 rfl rfl ?_; refine WL_val (rn_neq rfl rfl) rfl ?_; refine WL_val (rn_pickF (v := (.bool (y56.2 != 0))) rfl hb82 rfl) rfl ?_; refine WL_val (rn_move (v := (.bool (y56.2 != 0))) rfl) rfl ?_
      rcases bcases (y56.2 != 0) with hb83 | hb83
      ·have H := ifT hb83 H; refine WL_guardN rfl hb83 rfl rfl rfl ?_; refine WL_guardN rfl hb83 rfl rfl rfl ?_; refine WL_val (rn_pickT (v := (.bool true)) rfl hb83 rfl) rfl ?_; refine WL_val (rn_move (v := (.bool true)) rfl) rfl ?_; refine WL_guardN rfl rfl rfl rfl rfl ?_; refine WL_guardN rfl rfl rfl rfl rfl ?_; refine WL_val (rn_pickT (v := (.bool true)) rfl rfl rfl) rfl ?_; refine WL_nil ?_; have H := Option.some.inj H; subst H
       exact ⟨_, upds_self _ _ ⟨rfl, rfl, rfl, rfl, rfl, rfl, rfl, rfl, rfl, rfl, trivial⟩, rfl⟩
      ·have H := ifF hb83 H; refine WL_guardY rfl hb83 rfl rfl ?_; refine WL_val (rn_move (v := (.int .i64 y66.2.2)) rfl) rfl ?_; refine WL_guardY rfl hb83 rfl rfl ?_; refine WL_val (rn_neq rfl rfl) rfl ?_; refine WL_val (rn_pickF (v := (.bool (y66.2.2 != 0))) rfl hb83 rfl) rfl ?_; refine WL_val (rn_move (v := (.bool (y66.2.2 != 0))) rfl) rfl ?_
       rcases bcases (y66.2.2 != 0) with hb84 | hb84
       ·have H := ifT hb84 H; refine WL_guardN rfl hb84 rfl rfl rfl ?_; refine WL_guardN rfl hb84 rfl rfl rfl ?_; refine WL_val (rn_pickT (v := (.bool true)) rfl hb84 rfl) rfl ?_; refine WL_nil ?_; have H := Option.some.inj H; subst H
        exact ⟨_, upds_self _ _ ⟨rfl, rfl, rfl, rfl, rfl, rfl, rfl, rfl, rfl, rfl, trivial⟩, rfl⟩
       ·have H := ifF hb84 H; refine WL_guardY rfl hb84 rfl rfl ?_; refine WL_val (rn_move (v := (.int .i64 y76.2)) rfl) rfl ?_; refine WL_guardY rfl hb84 rfl rfl ?_; refine WL_val (rn_neq rfl rfl) rfl ?_; refine WL_val (rn_pickF (v := (.bool (y76.2 != 0))) rfl hb84 rfl) rfl ?_; refine WL_nil ?_; have H := Option.some.inj H; subst H
        exact ⟨_, upds_self _ _ ⟨rfl, rfl, rfl, rfl, rfl, rfl, rfl, rfl, rfl, rfl, trivial⟩, rfl⟩
 ·rintro F wl ⟨Fb, rfl, rfl⟩
  refine WC_cond rfl (fun hb87 => ?_) (fun hb87 => ?_)
  ·have H := ifT hb87 H; refine WC_seq ?_; refine WC_region ?_; refine WL_val (rn_assign (v := (.bool false)) rfl) rfl ?_; refine WL_nil ?_; refine WC_ret ?_
   have H : some false = some r := H
   have H := Option.some.inj H; subst H
   exact ⟨rfl, hS.below⟩
  ·have H := ifF hb87 H; refine WC_skip ?_; refine WC_seq ?_; refine WC_seq ?_; obtain ⟨q88, hq88, H⟩ := bnd H; refine WC_cut (fun F w => ∃ (Fb : Fr) (G : Gm), F = upds Fb [(8, .slice a49 n49 c49), (10, .slice a59 n59 c59), (12, .slice a69 n69 c69), (13, .int .i64 y66.2.1), (15, .int .i64 y76.1), (108, .bool q88)] ∧ Gle G72 G ∧ Since w0.heap.size G0 w0 G w ∧ Owns G w w0.heap.size []) ?_ ?_
   ·have Hoq88 := H; have H := hq88; refine WC_region ?_; refine WL_val (rn_move (v := (.slice a8 n8 c8)) rfl) rfl ?_
    refine WL_val (v := (.agg #[.int .i64 100, .int .i64 200])) (by kernel_rfl) rfl ?_
    refine WL_val (v := (.agg #[.int .i64 50, .int .i64 210])) (by kernel_rfl) rfl ?_
    refine WL_val (v := (.agg #[.int .i64 65, .int .i64 270])) (by kernel_rfl) rfl ?_
    refine WL_op rfl (OpP_newF (v := fun b => .slice (some ⟨b, 0, none⟩) 3 3) (cs := [.int .i64 100, .int .i64 200, .int .i64 50, .int .i64 210, .int .i64 65, .int .i64 270]) (e := 43) (by kernel_rfl) hS.sat rfl (fun b89 G91 w90 hg hcb89 => ?_))
    have hS := hS.grow hg; have hO := hO.grow hg
    have leG91 := hg.le
    have hfb89 : RSl RTSpan 2 G91 (some ⟨b89, 0, none⟩) 3 3 [(⟨100, 200⟩ : TSpan), (⟨50, 210⟩ : TSpan), (⟨65, 270⟩ : TSpan)] := RSl.of_rd hcb89 (Rd.cons (c := [.int .i64 100, .int .i64 200]) rfl rfl (Rd.cons (c := [.int .i64 50, .int .i64 210]) rfl rfl (Rd.cons (c := [.int .i64 65, .int .i64 270]) rfl rfl (Rd.nil RTSpan 2 _)))) rfl (by decide)
    obtain ⟨y92, hy92, H⟩ := bnd H
    have l2_19 := ((((((((((((leG11.trans l3_7).trans leG27).trans leG31).trans leG35).trans leG38).trans leG42).trans leG48).trans leG52).trans leG58).trans leG62).trans leG68).trans leG72).trans leG91
    refine WL_op rfl (OpP_callV cb60 (f60_ok (x0 := y5.1) (x1 := [(⟨100, 200⟩ : TSpan), (⟨50, 210⟩ : TSpan), (⟨65, 270⟩ : TSpan)]) hS.sat (h8.mono RTSpan_mono l2_19) hfb89 hy92) rfl rfl (fun w93 hb => ?_)); have hS := hS.keep hb; have hO := hO.below hb; refine WL_val (rn_not rfl) rfl ?_; refine WL_val (rn_move (v := (.bool (!y92))) rfl) rfl ?_
    rcases bcases (!y92) with hb94 | hb94
    ·have H := ifT hb94 H; refine WL_guardN rfl hb94 rfl rfl rfl ?_; refine WL_guardN rfl hb94 rfl rfl rfl ?_; refine WL_guardN rfl hb94 rfl rfl rfl ?_; refine WL_guardN rfl hb94 rfl rfl rfl ?_; refine WL_val (rn_pickT (v := (.bool true)) rfl hb94 rfl) rfl ?_; refine WL_val (rn_move (v := (.bool true)) rfl) rfl ?_; refine WL_guardN rfl rfl rfl rfl rfl ?_; refine WL_guardN rfl rfl rfl rfl rfl ?_; refine WL_guardN rfl rfl rfl rfl rfl ?_; refine WL_guardN rfl rfl rfl rfl rfl ?_; refine WL_val (rn_pickT (v := (.bool true)) rfl rfl rfl) rfl ?_; refine WL_val (rn_move (v := (.bool true)) rfl) rfl ?_; refine WL_guardN rfl rfl rfl rfl rfl ?_; refine WL_guardN rfl rfl rfl rfl rfl ?_; refine WL_val (rn_pickT (v := (.bool true)) rfl rfl rfl) rfl ?_; refine WL_nil ?_
     have hO : Owns G91 w93 w0.heap.size ([]) := hO
     have H := Option.some.inj H; subst H
     exact ⟨_, G91, upds_self _ _ ⟨rfl, rfl, rfl, rfl, rfl, rfl, trivial⟩, leG91, hS, hO⟩
    ·have H := ifF hb94 H; refine WL_guardY rfl hb94 rfl rfl ?_; refine WL_val (rn_move (v := (.slice a28 n28 c28)) rfl) rfl ?_; refine WL_guardY rfl hb94 rfl rfl ?_
     refine WL_op rfl (OpP_newF (v := fun b => .slice (some ⟨b, 0, none⟩) 3 3) (cs := [.int .i64 150, .int .i64 110, .int .i64 141]) (e := 3) (by kernel_rfl) hS.sat rfl (fun b95 G97 w96 hg hcb95 => ?_))
     have hS := hS.grow hg; have hO := hO.grow hg
     have leG97 := hg.le
     have hfb95 : RSl RInt 1 G97 (some ⟨b95, 0, none⟩) 3 3 [150, 110, 141] := RSl.of_rd hcb95 (Rd.cons (c := [.int .i64 150]) rfl rfl (Rd.cons (c := [.int .i64 110]) rfl rfl (Rd.cons (c := [.int .i64 141]) rfl rfl (Rd.nil RInt 1 _)))) rfl (by decide)
     refine WL_guardY rfl hb94 rfl rfl ?_; obtain ⟨y98, hy98, H⟩ := bnd H
     have l8_20 := ((((((((((leG31.trans leG35).trans leG38).trans leG42).trans leG48).trans leG52).trans leG58).trans leG62).trans leG68).trans leG72).trans leG91).trans leG97
     refine WL_op rfl (OpP_callV cb23 (f23_ok (x0 := y25.1) (x1 := [150, 110, 141]) hS.sat (h28.mono RInt_mono l8_20) hfb95 hy98) rfl rfl (fun w99 hb => ?_)); have hS := hS.keep hb; have hO := hO.below hb; refine WL_guardY rfl hb94 rfl rfl ?_; refine WL_val (rn_not rfl) rfl ?_; refine WL_val (rn_pickF (v := (.bool (!y98))) rfl hb94 rfl) rfl ?_; refine WL_val (rn_move (v := (.bool (!y98))) rfl) rfl ?_
     rcases bcases (!y98) with hb100 | hb100
     ·have H := ifT hb100 H; refine WL_guardN rfl hb100 rfl rfl rfl ?_; refine WL_guardN rfl hb100 rfl rfl rfl ?_; refine WL_guardN rfl hb100 rfl rfl rfl ?_; refine WL_guardN rfl hb100 rfl rfl rfl ?_; refine WL_val (rn_pickT (v := (.bool true)) rfl hb100 rfl) rfl ?_; refine WL_val (rn_move (v := (.bool true)) rfl) rfl ?_; refine WL_guardN rfl rfl rfl rfl rfl ?_; refine WL_guardN rfl rfl rfl rfl rfl ?_; refine WL_val (rn_pickT (v := (.bool true)) rfl rfl rfl) rfl ?_; refine WL_nil ?_
      have hO : Owns G97 w99 w0.heap.size ([]) := hO
      have H := Option.some.inj H; subst H
      have l18_20 := leG91.trans leG97
      exact ⟨_, G97, upds_self _ _ ⟨rfl, rfl, rfl, rfl, rfl, rfl, trivial⟩, l18_20, hS, hO⟩
     ·have H := ifF hb100 H; refine WL_guardY rfl hb100 rfl rfl ?_; refine WL_val (rn_move (v := (.slice a39 n39 c39)) rfl) rfl ?_; refine WL_guardY rfl hb100 rfl rfl ?_
      refine WL_op rfl (OpP_newF (v := fun b => .slice (some ⟨b, 0, none⟩) 2 2) (cs := [.int .i64 0, .int .i64 2]) (e := 3) (by kernel_rfl) hS.sat rfl (fun b101 G103 w102 hg hcb101 => ?_))
      have hS := hS.grow hg; have hO := hO.grow hg
      have leG103 := hg.le
      have hfb101 : RSl RInt 1 G103 (some ⟨b101, 0, none⟩) 2 2 [0, 2] := RSl.of_rd hcb101 (Rd.cons (c := [.int .i64 0]) rfl rfl (Rd.cons (c := [.int .i64 2]) rfl rfl (Rd.nil RInt 1 _))) rfl (by decide)
      refine WL_guardY rfl hb100 rfl rfl ?_; obtain ⟨y104, hy104, H⟩ := bnd H
      have l11_21 := ((((((((leG42.trans leG48).trans leG52).trans leG58).trans leG62).trans leG68).trans leG72).trans leG91).trans leG97).trans leG103
      refine WL_op rfl (OpP_callV cb23 (f23_ok (x0 := y36.1) (x1 := [0, 2]) hS.sat (h39.mono RInt_mono l11_21) hfb101 hy104) rfl rfl (fun w105 hb => ?_)); have hS := hS.keep hb; have hO := hO.below hb; refine WL_guardY rfl hb100 rfl rfl ?_; refine WL_val (rn_not rfl) rfl ?_; refine WL_val (rn_pickF (v := (.bool (!y104))) rfl hb100 rfl) rfl ?_; refine WL_val (rn_move (v := (.bool (!y104))) rfl) rfl ?_
      rcases bcases (!y104) with hb106 | hb106
      ·have H := ifT hb106 H; refine WL_guardN rfl hb106 rfl rfl rfl ?_; refine WL_guardN rfl hb106 rfl rfl rfl ?_; refine WL_val (rn_pickT (v := (.bool true)) rfl hb106 rfl) rfl ?_; refine WL_nil ?_
       have hO : Owns G103 w105 w0.heap.size ([]) := hO
       have H := Option.some.inj H; subst H
       have l18_21 := (leG91.trans leG97).trans leG103
       exact ⟨_, G103, upds_self _ _ ⟨rfl, rfl, rfl, rfl, rfl, rfl, trivial⟩, l18_21, hS, hO⟩
      ·have H := ifF hb106 H; refine WL_guardY rfl hb106 rfl rfl ?_; refine WL_val (rn_move (v := (.int .i64 y36.2.1)) rfl) rfl ?_; refine WL_guardY rfl hb106 rfl rfl ?_; refine WL_val (rn_neq rfl rfl) rfl ?_; refine WL_val (rn_pickF (v := (.bool (y36.2.1 != 40))) rfl hb106 rfl) rfl ?_; refine WL_nil ?_
       have hO : Owns G103 w105 w0.heap.size ([]) := hO
       have H := Option.some.inj H; subst H
       have l18_21 := (leG91.trans leG97).trans leG103
       exact ⟨_, G103, upds_self _ _ ⟨rfl, rfl, rfl, rfl, rfl, rfl, trivial⟩, l18_21, hS, hO⟩
   ·rintro F w107 ⟨Fb, G108, rfl, leG108, hS, hO⟩
    refine WC_cond rfl (fun hb109 => ?_) (fun hb109 => ?_)
    ·have H := ifT hb109 H; refine WC_seq ?_; refine WC_region ?_; refine WL_val (rn_assign (v := (.bool false)) rfl) rfl ?_; refine WL_nil ?_; refine WC_ret ?_
     have H : some false = some r := H
     have H := Option.some.inj H; subst H
     exact ⟨rfl, hS.below⟩
    ·have H := ifF hb109 H; refine WC_skip ?_; refine WC_seq ?_; obtain ⟨q110, hq110, H⟩ := bnd H; refine WC_cut (fun F w => ∃ (Fb : Fr) (G : Gm), F = upds Fb [(0, .bool q110)] ∧ Gle G108 G ∧ Since w0.heap.size G0 w0 G w ∧ Owns G w w0.heap.size []) ?_ ?_
     ·have Hoq110 := H; have H := hq110; refine WC_region ?_; refine WL_val (rn_move (v := (.slice a49 n49 c49)) rfl) rfl ?_
      refine WL_op rfl (OpP_newF (v := fun b => .slice (some ⟨b, 0, none⟩) 4 4) (cs := [.int .i64 0, .int .i64 1, .int .i64 3, .int .i64 5]) (e := 3) (by kernel_rfl) hS.sat rfl (fun b111 G113 w112 hg hcb111 => ?_))
      have hS := hS.grow hg; have hO := hO.grow hg
      have leG113 := hg.le
      have hfb111 : RSl RInt 1 G113 (some ⟨b111, 0, none⟩) 4 4 [0, 1, 3, 5] := RSl.of_rd hcb111 (Rd.cons (c := [.int .i64 0]) rfl rfl (Rd.cons (c := [.int .i64 1]) rfl rfl (Rd.cons (c := [.int .i64 3]) rfl rfl (Rd.cons (c := [.int .i64 5]) rfl rfl (Rd.nil RInt 1 _))))) rfl (by decide)
      obtain ⟨y114, hy114, H⟩ := bnd H
      have l13_20 := (((((leG52.trans leG58).trans leG62).trans leG68).trans leG72).trans leG108).trans leG113
      refine WL_op rfl (OpP_callV cb23 (f23_ok (x0 := y46.1) (x1 := [0, 1, 3, 5]) hS.sat (h49.mono RInt_mono l13_20) hfb111 hy114) rfl rfl (fun w115 hb => ?_)); have hS := hS.keep hb; have hO := hO.below hb; refine WL_val (rn_move (v := (.bool y114)) rfl) rfl ?_
      rcases bcases y114 with hb116 | hb116
      ·have H := ifT hb116 H; refine WL_guardY rfl hb116 rfl rfl ?_; refine WL_val (rn_move (v := (.slice a59 n59 c59)) rfl) rfl ?_; refine WL_guardY rfl hb116 rfl rfl ?_
       refine WL_op rfl (OpP_newF (v := fun b => .slice (some ⟨b, 0, none⟩) 3 3) (cs := [.int .i64 0, .int .i64 2, .int .i64 3]) (e := 3) (by kernel_rfl) hS.sat rfl (fun b117 G119 w118 hg hcb117 => ?_))
       have hS := hS.grow hg; have hO := hO.grow hg
       have leG119 := hg.le
       have hfb117 : RSl RInt 1 G119 (some ⟨b117, 0, none⟩) 3 3 [0, 2, 3] := RSl.of_rd hcb117 (Rd.cons (c := [.int .i64 0]) rfl rfl (Rd.cons (c := [.int .i64 2]) rfl rfl (Rd.cons (c := [.int .i64 3]) rfl rfl (Rd.nil RInt 1 _)))) rfl (by decide)
       refine WL_guardY rfl hb116 rfl rfl ?_; obtain ⟨y120, hy120, H⟩ := bnd H
       have l15_21 := ((((leG62.trans leG68).trans leG72).trans leG108).trans leG113).trans leG119
       refine WL_op rfl (OpP_callV cb23 (f23_ok (x0 := y56.1) (x1 := [0, 2, 3]) hS.sat (h59.mono RInt_mono l15_21) hfb117 hy120) rfl rfl (fun w121 hb => ?_)); have hS := hS.keep hb; have hO := hO.below hb; refine WL_val (rn_pickT (v := (.bool y120)) rfl hb116 rfl) rfl ?_; refine WL_val (rn_move (v := (.bool y120)) rfl) rfl ?_
       rcases bcases y120 with hb122 | hb122
       ·have H := ifT hb122 H; refine WL_guardY rfl hb122 rfl rfl ?_; refine WL_val (rn_move (v := (.slice a69 n69 c69)) rfl) rfl ?_; refine WL_guardY rfl hb122 rfl rfl ?_
        refine WL_op rfl (OpP_newF (v := fun b => .slice (some ⟨b, 0, none⟩) 1 1) (cs := [.int .i64 2]) (e := 3) (by kernel_rfl) hS.sat rfl (fun b123 G125 w124 hg hcb123 => ?_))
        have hS := hS.grow hg; have hO := hO.grow hg
        have leG125 := hg.le
        have hfb123 : RSl RInt 1 G125 (some ⟨b123, 0, none⟩) 1 1 [2] := RSl.of_rd hcb123 (Rd.cons (c := [.int .i64 2]) rfl rfl (Rd.nil RInt 1 _)) rfl (by decide)
        refine WL_guardY rfl hb122 rfl rfl ?_; obtain ⟨y126, hy126, H⟩ := bnd H
        have l17_22 := (((leG72.trans leG108).trans leG113).trans leG119).trans leG125
        refine WL_op rfl (OpP_callV cb23 (f23_ok (x0 := y66.1) (x1 := [2]) hS.sat (h69.mono RInt_mono l17_22) hfb123 hy126) rfl rfl (fun w127 hb => ?_)); have hS := hS.keep hb; have hO := hO.below hb; refine WL_val (rn_pickT (v := (.bool y126)) rfl hb122 rfl) rfl ?_; refine WL_val (rn_move (v := (.bool y126)) rfl) rfl ?_
        rcases bcases y126 with hb128 | hb128
        ·have H := ifT hb128 H; refine WL_guardY rfl hb128 rfl rfl ?_; refine WL_val (rn_move (v := (.int .i64 y66.2.1)) rfl) rfl ?_; refine WL_guardY rfl hb128 rfl rfl ?_; refine WL_val (rn_eql rfl rfl) rfl ?_; refine WL_val (rn_pickT (v := (.bool (y66.2.1 == 4))) rfl hb128 rfl) rfl ?_; refine WL_val (rn_move (v := (.bool (y66.2.1 == 4))) rfl) rfl ?_
         rcases bcases (y66.2.1 == 4) with hb129 | hb129
         ·have H := ifT hb129 H; refine WL_guardY rfl hb129 rfl rfl ?_; refine WL_val (rn_move (v := (.int .i64 y76.1)) rfl) rfl ?_; refine WL_guardY rfl hb129 rfl rfl ?_; refine WL_val (rn_eql rfl rfl) rfl ?_; refine WL_val (rn_pickT (v := (.bool (y76.1 == 3))) rfl hb129 rfl) rfl ?_; refine WL_val (rn_assign (v := (.bool (y76.1 == 3))) rfl) rfl ?_; refine WL_nil ?_
          have hO : Owns G125 w127 w0.heap.size ([]) := hO
          have H := Option.some.inj H; subst H
          have l19_22 := (leG113.trans leG119).trans leG125
          exact ⟨_, G125, upds_self _ _ ⟨rfl, trivial⟩, l19_22, hS, hO⟩
         ·have H := ifF hb129 H; refine WL_guardN rfl hb129 rfl rfl rfl ?_; refine WL_guardN rfl hb129 rfl rfl rfl ?_; refine WL_val (rn_pickF (v := (.bool false)) rfl hb129 rfl) rfl ?_; refine WL_val (rn_assign (v := (.bool false)) rfl) rfl ?_; refine WL_nil ?_
          have hO : Owns G125 w127 w0.heap.size ([]) := hO
          have H := Option.some.inj H; subst H
          have l19_22 := (leG113.trans leG119).trans leG125
          exact ⟨_, G125, upds_self _ _ ⟨rfl, trivial⟩, l19_22, hS, hO⟩
        ·have H := ifF hb128 H; refine WL_guardN rfl hb128 rfl rfl rfl ?_; refine WL_guardN rfl hb128 rfl rfl rfl ?_; refine WL_val (rn_pickF (v := (.bool false)) rfl hb128 rfl) rfl ?_; refine WL_val (rn_move (v := (.bool false)) rfl) rfl ?_; refine WL_guardN rfl rfl rfl rfl rfl ?_; refine WL_guardN rfl rfl rfl rfl rfl ?_; refine WL_val (rn_pickF (v := (.bool false)) rfl rfl rfl) rfl ?_; refine WL_val (rn_assign (v := (.bool false)) rfl) rfl ?_; refine WL_nil ?_
         have hO : Owns G125 w127 w0.heap.size ([]) := hO
         have H := Option.some.inj H; subst H
         have l19_22 := (leG113.trans leG119).trans leG125
         exact ⟨_, G125, upds_self _ _ ⟨rfl, trivial⟩, l19_22, hS, hO⟩
       ·have H := ifF hb122 H; refine WL_guardN rfl hb122 rfl rfl rfl ?_; refine WL_guardN rfl hb122 rfl rfl rfl ?_; refine WL_guardN rfl hb122 rfl rfl rfl ?_; refine WL_val (rn_pickF (v := (.bool false)) rfl hb122 rfl) rfl ?_; refine WL_val (rn_move (v := (.bool false)) rfl) rfl ?_; refine WL_guardN rfl rfl rfl rfl rfl ?_; refine WL_guardN rfl rfl rfl rfl rfl ?_; refine WL_val (rn_pickF (v := (.bool false)) rfl rfl rfl) rfl ?_; refine WL_val (rn_move (v := (.bool false)) rfl) rfl ?_; refine WL_guardN rfl rfl rfl rfl rfl ?_; refine WL_guardN rfl rfl rfl rfl rfl ?_; refine WL_val (rn_pickF (v := (.bool false)) rfl rfl rfl) rfl ?_; refine WL_val (rn_assign (v := (.bool false)) rfl) rfl ?_; refine WL_nil ?_
        have hO : Owns G119 w121 w0.heap.size ([]) := hO
        have H := Option.some.inj H; subst H
        have l19_21 := leG113.trans leG119
        exact ⟨_, G119, upds_self _ _ ⟨rfl, trivial⟩, l19_21, hS, hO⟩
      ·have H := ifF hb116 H; refine WL_guardN rfl hb116 rfl rfl rfl ?_; refine WL_guardN rfl hb116 rfl rfl rfl ?_; refine WL_guardN rfl hb116 rfl rfl rfl ?_; refine WL_val (rn_pickF (v := (.bool false)) rfl hb116 rfl) rfl ?_; refine WL_val (rn_move (v := (.bool false)) rfl) rfl ?_; refine WL_guardN rfl rfl rfl rfl rfl ?_; refine WL_guardN rfl rfl rfl rfl rfl ?_; refine WL_guardN rfl rfl rfl rfl rfl ?_; refine WL_val (rn_pickF (v := (.bool false)) rfl rfl rfl) rfl ?_; refine WL_val (rn_move (v := (.bool false)) rfl) rfl ?_; refine WL_guardN rfl rfl rfl rfl rfl ?_; refine WL_guardN rfl rfl rfl rfl rfl ?_; refine WL_val (rn_pickF (v := (.bool false)) rfl rfl rfl) rfl ?_; refine WL_val (rn_move (v := (.bool false)) rfl) rfl ?_; refine WL_guardN rfl rfl rfl rfl rfl ?_; refine WL_guardN rfl rfl rfl rfl rfl ?_; refine WL_val (rn_pickF (v := (.bool false)) rfl rfl rfl) rfl ?_; refine WL_val (rn_assign (v := (.bool false)) rfl) rfl ?_; refine WL_nil ?_
       have hO : Owns G113 w115 w0.heap.size ([]) := hO
       have H := Option.some.inj H; subst H
       exact ⟨_, G113, upds_self _ _ ⟨rfl, trivial⟩, leG113, hS, hO⟩
     ·rintro F w130 ⟨Fb, G131, rfl, leG131, hS, hO⟩
      refine WC_ret ?_
      have H : some q110 = some r := H
      have H := Option.some.inj H; subst H
      exact ⟨rfl, hS.below⟩
set_option maxHeartbeats 1000000 in
theorem f69_ok {G0 : Gm} {w0 : World} (hS0 : Sat G0 w0) {x0 : Int} {x1 : Int} {x2 : Int}  {r : Bool} (H : f69 x0 x1 x2 = some r) :
  Calls Try.prog 69 #[.int .i64 x0, .int .i64 x1, .int .i64 x2] w0 (RetV w0 (.bool r)) := by
 have hS := Since.start hS0
 have hO : Owns G0 w0 w0.heap.size [] := Owns.nil (Nat.le_refl _)
 unfold f69 at H
 refine enter1 (N := 15) (shutV _ _) Try.func69 rfl rfl rfl rfl ?_; refine WC_seq ?_; refine WC_region ?_; refine WL_val (rn_assign (v := (.bool false)) rfl) rfl ?_; refine WL_nil ?_; refine WC_seq ?_; obtain ⟨q1, hq1, H⟩ := bnd H; refine WC_cut (fun F w => ∃ (Fb : Fr), F = upds Fb [(6, .bool q1)] ∧ w0 = w) ?_ ?_
 ·have Hoq1 := H; have H := hq1; refine WC_region ?_; refine WL_val (rn_move (v := (.int .i64 x0)) rfl) rfl ?_; refine WL_val (rn_move (v := (.int .i64 x1)) rfl) rfl ?_; refine WL_val (rn_geq rfl rfl) rfl ?_; refine WL_val (rn_move (v := (.bool (decide (x1 ≤ x0)))) rfl) rfl ?_
  rcases bcases (decide (x1 ≤ x0)) with hb2 | hb2
  ·have H := ifT hb2 H; refine WL_guardY rfl hb2 rfl rfl ?_; refine WL_val (rn_move (v := (.int .i64 x0)) rfl) rfl ?_; refine WL_guardY rfl hb2 rfl rfl ?_; refine WL_val (rn_move (v := (.int .i64 x2)) rfl) rfl ?_; refine WL_guardY rfl hb2 rfl rfl ?_; refine WL_val (rn_leq rfl rfl) rfl ?_; refine WL_val (rn_pickT (v := (.bool (decide (x0 ≤ x2)))) rfl hb2 rfl) rfl ?_; refine WL_val (rn_assign (v := (.bool (decide (x0 ≤ x2)))) rfl) rfl ?_; refine WL_nil ?_; have H := Option.some.inj H; subst H
   exact ⟨_, upds_self _ _ ⟨rfl, trivial⟩, rfl⟩
  ·have H := ifF hb2 H; refine WL_guardN rfl hb2 rfl rfl rfl ?_; refine WL_guardN rfl hb2 rfl rfl rfl ?_; refine WL_guardN rfl hb2 rfl rfl rfl ?_; refine WL_val (rn_pickF (v := (.bool false)) rfl hb2 rfl) rfl ?_; refine WL_val (rn_assign (v := (.bool false)) rfl) rfl ?_; refine WL_nil ?_; have H := Option.some.inj H; subst H
   exact ⟨_, upds_self _ _ ⟨rfl, trivial⟩, rfl⟩
 ·rintro F wl ⟨Fb, rfl, rfl⟩
  refine WC_ret ?_
  have H : some q1 = some r := H
  have H := Option.some.inj H; subst H
  exact ⟨rfl, hS.below⟩
set_option maxHeartbeats 1000000 in
theorem f70_ok {G0 : Gm} {w0 : World} (hS0 : Sat G0 w0) {x0 : TSpan} {x1 : Int}  {r : Bool} (H : f70 x0 x1 = some r) :
  Calls Try.prog 70 #[.agg #[.int .i64 x0.Low, .int .i64 x0.High], .int .i64 x1] w0 (RetV w0 (.bool r)) := by
 have hS := Since.start hS0
 have hO : Owns G0 w0 w0.heap.size [] := Owns.nil (Nat.le_refl _)
 unfold f70 at H
 refine enter1 (N := 21) (shutV _ _) Try.func70 rfl rfl rfl rfl ?_; refine WC_seq ?_; refine WC_region ?_; refine WL_op rfl (OpP_newF (v := fun b => .pointer (some ⟨b, 0, none⟩)) (cs := [.int .i64 x0.Low, .int .i64 x0.High]) (e := 43) (rn_boxA rfl) hS.sat rfl (fun b1 G3 w2 hg hcb1 => ?_)); have hS := hS.grow hg; have hO := hO.grow hg
 have leG3 := hg.le
 refine WL_val (rn_assign (v := (.bool false)) rfl) rfl ?_; refine WL_nil ?_; refine WC_seq ?_; obtain ⟨q4, hq4, H⟩ := bnd H; refine WC_cut (fun F w => ∃ (Fb : Fr), F = upds Fb [(4, .bool q4)] ∧ w2 = w) ?_ ?_
 ·have Hoq4 := H; have H := hq4; refine WC_region ?_; refine WL_val (rn_fld fd43_0 rfl) rfl ?_; refine WL_val (rn_load na3 rfl (hS.sat.cell (hcb1 0 _ rfl))) rfl ?_; refine WL_val (rn_geq rfl rfl) rfl ?_; refine WL_val (rn_move (v := (.bool (decide (0 ≤ x0.Low)))) rfl) rfl ?_
  rcases bcases (decide (0 ≤ x0.Low)) with hb5 | hb5
  ·have H := ifT hb5 H; refine WL_guardY rfl hb5 rfl rfl ?_; refine WL_val (rn_fld fd43_0 rfl) rfl ?_; refine WL_guardY rfl hb5 rfl rfl ?_; refine WL_val (rn_load na3 rfl (hS.sat.cell (hcb1 0 _ rfl))) rfl ?_; refine WL_guardY rfl hb5 rfl rfl ?_; refine WL_val (rn_fld fd43_1 rfl) rfl ?_; refine WL_guardY rfl hb5 rfl rfl ?_; refine WL_val (rn_load na3 rfl (hS.sat.cell (hcb1 1 _ rfl))) rfl ?_; refine WL_guardY rfl hb5 rfl rfl ?_; refine WL_val (rn_leq rfl rfl) rfl ?_; refine WL_val (rn_pickT (v := (.bool (decide (x0.Low ≤ x0.High)))) rfl hb5 rfl) rfl ?_; refine WL_val (rn_move (v := (.bool (decide (x0.Low ≤ x0.High)))) rfl) rfl ?_
   rcases bcases (decide (x0.Low ≤ x0.High)) with hb6 | hb6
   ·have H := ifT hb6 H; refine WL_guardY rfl hb6 rfl rfl ?_; refine WL_val (rn_fld fd43_1 rfl) rfl ?_; refine WL_guardY rfl hb6 rfl rfl ?_; refine WL_val (rn_load na3 rfl (hS.sat.cell (hcb1 1 _ rfl))) rfl ?_; refine WL_guardY rfl hb6 rfl rfl ?_; refine WL_val (rn_move (v := (.int .i64 x1)) rfl) rfl ?_; refine WL_guardY rfl hb6 rfl rfl ?_; refine WL_val (rn_leq rfl rfl) rfl ?_; refine WL_val (rn_pickT (v := (.bool (decide (x0.High ≤ x1)))) rfl hb6 rfl) rfl ?_; refine WL_val (rn_assign (v := (.bool (decide (x0.High ≤ x1)))) rfl) rfl ?_; refine WL_nil ?_; have H := Option.some.inj H; subst H
    exact ⟨_, upds_self _ _ ⟨rfl, trivial⟩, rfl⟩
   ·have H := ifF hb6 H; refine WL_guardN rfl hb6 rfl rfl rfl ?_; refine WL_guardN rfl hb6 rfl rfl rfl ?_; refine WL_guardN rfl hb6 rfl rfl rfl ?_; refine WL_guardN rfl hb6 rfl rfl rfl ?_; refine WL_val (rn_pickF (v := (.bool false)) rfl hb6 rfl) rfl ?_; refine WL_val (rn_assign (v := (.bool false)) rfl) rfl ?_; refine WL_nil ?_; have H := Option.some.inj H; subst H
    exact ⟨_, upds_self _ _ ⟨rfl, trivial⟩, rfl⟩
  ·have H := ifF hb5 H; refine WL_guardN rfl hb5 rfl rfl rfl ?_; refine WL_guardN rfl hb5 rfl rfl rfl ?_; refine WL_guardN rfl hb5 rfl rfl rfl ?_; refine WL_guardN rfl hb5 rfl rfl rfl ?_; refine WL_guardN rfl hb5 rfl rfl rfl ?_; refine WL_val (rn_pickF (v := (.bool false)) rfl hb5 rfl) rfl ?_; refine WL_val (rn_move (v := (.bool false)) rfl) rfl ?_; refine WL_guardN rfl rfl rfl rfl rfl ?_; refine WL_guardN rfl rfl rfl rfl rfl ?_; refine WL_guardN rfl rfl rfl rfl rfl ?_; refine WL_guardN rfl rfl rfl rfl rfl ?_; refine WL_val (rn_pickF (v := (.bool false)) rfl rfl rfl) rfl ?_; refine WL_val (rn_assign (v := (.bool false)) rfl) rfl ?_; refine WL_nil ?_; have H := Option.some.inj H; subst H
   exact ⟨_, upds_self _ _ ⟨rfl, trivial⟩, rfl⟩
 ·rintro F wl ⟨Fb, rfl, rfl⟩
  refine WC_ret ?_
  have H : some q4 = some r := H
  have H := Option.some.inj H; subst H
  exact ⟨rfl, hS.below⟩
set_option maxHeartbeats 1000000 in
theorem f21_ok {G0 : Gm} {w0 : World} (hS0 : Sat G0 w0) {x0 : TBaneWeb} {a1 : Option Addr} {n1 c1 : Nat} (h1 : RSl RTBaneFish 5 G0 a1 n1 c1 x0.Fish) {r : Bool} (H : f21 x0 = some r) :
  Calls Try.prog 21 #[.agg #[.slice a1 n1 c1, .int .i64 x0.Limit]] w0 (RetV w0 (.bool r)) := by
 have hS := Since.start hS0
 have hO : Owns G0 w0 w0.heap.size [] := Owns.nil (Nat.le_refl _)
 unfold f21 at H
 refine enter1 (N := 95) (shutV _ _) Try.func21 rfl rfl rfl rfl ?_; refine WC_seq ?_; refine WC_region ?_; refine WL_op rfl (OpP_newF (v := fun b => .pointer (some ⟨b, 0, none⟩)) (cs := [.slice a1 n1 c1, .int .i64 x0.Limit]) (e := 24) (rn_boxA rfl) hS.sat rfl (fun b2 G4 w3 hg hcb2 => ?_)); have hS := hS.grow hg; have hO := hO.grow hg
 have leG4 := hg.le
 refine WL_val (rn_assign (v := (.bool false)) rfl) rfl ?_; refine WL_nil ?_; refine WC_seq ?_; refine WC_seq ?_; refine WC_region ?_; refine WL_val (rn_assign (v := (.int .i64 0)) rfl) rfl ?_; refine WL_nil ?_; obtain ⟨q7, hq7, H⟩ := bnd H; refine WC_cut (fun F w => ∃ (p6 : Unit) (Fb : Fr) (G : Gm), q7 = .inl p6 ∧ F = upds Fb [(1, .pointer (some ⟨b2, 0, none⟩))] ∧ Gle G4 G ∧ Since w0.heap.size G0 w0 G w ∧ Owns G w w0.heap.size []) ?_ ?_
 ·refine WC_block (WC_loop hq7 (fun s5 F w => ∃ (Fb : Fr) (G : Gm), F = upds Fb [(1, .pointer (some ⟨b2, 0, none⟩)), (3, .int .i64 s5)] ∧ Gle G4 G ∧ Since w0.heap.size G0 w0 G w ∧ Owns G w w0.heap.size []) ?_ ?_)
  ·have hO : Owns G4 w3 w0.heap.size ([]) := hO
   exact ⟨_, G4, upds_self _ _ ⟨rfl, rfl, trivial⟩, Gle.refl _, hS, hO⟩
  ·rintro s5 F w9 t8 ⟨Fb, G10, rfl, leG10, hS, hO⟩
   intro H1 hqq7
   have Hoq7 := H; have H := H1
   unfold f21_b0 at H
   refine WC_seq ?_; refine WC_seq ?_; refine WC_region ?_; refine WL_val (rn_move (v := (.int .i64 s5)) rfl) rfl ?_; refine WL_val (rn_fld fd24_0 rfl) rfl ?_; refine WL_val (rn_load na22 rfl ((hS.sat.le leG10).cell (hcb2 0 _ rfl))) rfl ?_
   have l0_2 := leG4.trans leG10
   refine WL_val (rn_len sl22 rfl rfl (h1.mono RTBaneFish_mono l0_2).1) rfl ?_; refine WL_val (rn_lss rfl rfl) rfl ?_; refine WL_nil ?_; refine WC_cond rfl (fun hb11 => ?_) (fun hb11 => ?_)
   ·have H := ifT hb11 H; refine WC_skip ?_; refine WC_seq ?_; refine WC_block ?_; refine WC_seq ?_; refine WC_region ?_; refine WL_val (rn_fld fd24_0 rfl) rfl ?_; refine WL_val (rn_load na22 rfl ((hS.sat.le leG10).cell (hcb2 0 _ rfl))) rfl ?_; refine WL_val (rn_move (v := (.int .i64 s5)) rfl) rfl ?_; obtain ⟨y12, hy12, H⟩ := bnd H; refine WL_idx sl22 (h1.mono RTBaneFish_mono l0_2) hy12 rfl rfl rfl ?_
    rintro b13 o13 _ hcb13 _ ⟨a14, n14, c14, ⟨⟩, h14⟩
    refine WL_val (rn_loadA ag72 (cs := [.int .i64 y12.Base.Low, .int .i64 y12.Base.High, .slice a14 n14 c14, .int .i64 y12.Pass, .int .i64 y12.Cost]) rfl rfl (fun j v hj => hS.sat.cell (hcb13.drop_take 0 5 j v hj))) rfl ?_
    refine WL_op rfl (OpP_newO (v := fun b => .pointer (some ⟨b, 0, none⟩)) (cs := [.int .i64 0, .int .i64 0, .slice none 0 0, .int .i64 0, .int .i64 0]) (e := 72) (by kernel_rfl) hS.sat hO rfl 5 1 rfl (by decide) (fun b15 w16 hb hO => ?_))
    have hS := hS.keep hb; refine WL_op rfl (OpP_store (vs := [.int .i64 y12.Base.Low, .int .i64 y12.Base.High, .slice a14 n14 c14, .int .i64 y12.Pass, .int .i64 y12.Cost]) sz72 hS hO (k := 0) rfl rfl rfl rfl rfl (one_all rfl) (Nat.le_of_ble_eq_true rfl) (fun w18 hS hO => ?_))
    have hO : Owns G10 w18 w0.heap.size ([⟨72, 5, 1, .slice (some ⟨b15, 0, none⟩) 1 1, [.int .i64 y12.Base.Low, .int .i64 y12.Base.High, .slice a14 n14 c14, .int .i64 y12.Pass, .int .i64 y12.Cost]⟩]) := hO
    obtain ⟨G19, leG19, hS, hO, hqG19, _⟩ := hO.freeze hS (k := 0) rfl
    have hcG19 : Cells G19 b15 0 [.int .i64 y12.Base.Low, .int .i64 y12.Base.High, .slice a14 n14 c14, .int .i64 y12.Pass, .int .i64 y12.Cost] := (hqG19 _ _ _ _ rfl)
    refine WL_nil ?_; refine WC_seq ?_; refine WC_seq ?_; refine WC_region ?_; refine WL_val (rn_assign (v := (.int .i64 0)) rfl) rfl ?_; refine WL_nil ?_; obtain ⟨q22, hq22, H⟩ := bnd H; refine WC_cut (fun F w => ∃ (p21 : Unit) (Fb : Fr) (G : Gm), q22 = .inl p21 ∧ F = upds Fb [(1, .pointer (some ⟨b2, 0, none⟩)), (3, .int .i64 s5), (4, .pointer (some ⟨b15, 0, none⟩))] ∧ Gle G19 G ∧ Since w0.heap.size G0 w0 G w ∧ Owns G w w0.heap.size []) ?_ ?_
    ·refine WC_block (WC_loop hq22 (fun s20 F w => ∃ (Fb : Fr) (G : Gm), F = upds Fb [(1, .pointer (some ⟨b2, 0, none⟩)), (3, .int .i64 s5), (4, .pointer (some ⟨b15, 0, none⟩)), (5, .int .i64 s20)] ∧ Gle G19 G ∧ Since w0.heap.size G0 w0 G w ∧ Owns G w w0.heap.size []) ?_ ?_)
     ·have hO : Owns G19 w18 w0.heap.size ([]) := hO
      exact ⟨_, G19, upds_self _ _ ⟨rfl, rfl, rfl, rfl, trivial⟩, Gle.refl _, hS, hO⟩
     ·rintro s20 F w24 t23 ⟨Fb, G25, rfl, leG25, hS, hO⟩
      intro H1 hqq22
      have Hoq22 := H; have H := H1
      unfold f21_b1 at H
      refine WC_seq ?_; refine WC_seq ?_; refine WC_region ?_; refine WL_val (rn_move (v := (.int .i64 s20)) rfl) rfl ?_; refine WL_val (rn_fld fd72_1 rfl) rfl ?_; refine WL_val (rn_load na70 rfl ((hS.sat.le leG25).cell (hcG19 2 _ rfl))) rfl ?_
      have l2_4 := leG19.trans leG25
      refine WL_val (rn_len sl70 rfl rfl (h14.mono RTBaneBite_mono l2_4).1) rfl ?_; refine WL_val (rn_lss rfl rfl) rfl ?_; refine WL_nil ?_; refine WC_cond rfl (fun hb26 => ?_) (fun hb26 => ?_)
      ·have H := ifT hb26 H; refine WC_skip ?_; refine WC_seq ?_; refine WC_block ?_; refine WC_seq ?_; refine WC_seq ?_; obtain ⟨q27, hq27, H⟩ := bnd H; refine WC_cut (fun F w => ∃ (Fb : Fr) (G : Gm), F = upds Fb [(1, .pointer (some ⟨b2, 0, none⟩)), (3, .int .i64 s5), (4, .pointer (some ⟨b15, 0, none⟩)), (5, .int .i64 s20), (45, .bool q27)] ∧ Gle G25 G ∧ Since w0.heap.size G0 w0 G w ∧ Owns G w w0.heap.size []) ?_ ?_
       ·have Hoq27 := H; have H := hq27; refine WC_region ?_; refine WL_val (rn_fld fd72_1 rfl) rfl ?_; refine WL_val (rn_load na70 rfl ((hS.sat.le leG25).cell (hcG19 2 _ rfl))) rfl ?_; refine WL_val (rn_move (v := (.int .i64 s20)) rfl) rfl ?_; obtain ⟨y28, hy28, H⟩ := bnd H; refine WL_idx sl70 (h14.mono RTBaneBite_mono l2_4) hy28 rfl rfl rfl ?_
        rintro b29 o29 _ hcb29 _ ⟨⟩
        refine WL_val (rn_fld fd77_0 rfl) rfl ?_; refine WL_val (rn_load na3 rfl (hS.sat.cell (hcb29 0 _ rfl))) rfl ?_; refine WL_val (rn_move (v := (.int .i64 s5)) rfl) rfl ?_; refine WL_val (rn_sub rfl rfl) rfl ?_; obtain ⟨y30, hy30, H⟩ := bnd H; refine WL_op rfl (OpP_callV cb69 (f69_ok (x0 := y28.Prey) (x1 := 0) (x2 := IntKind.i64.wrap (s5 - 1)) hS.sat  hy30) rfl rfl (fun w31 hb => ?_)); have hS := hS.keep hb; have hO := hO.below hb; refine WL_val (rn_not rfl) rfl ?_; refine WL_val (rn_move (v := (.bool (!y30))) rfl) rfl ?_
        rcases bcases (!y30) with hb32 | hb32
        ·have H := ifT hb32 H; refine WL_guardN rfl hb32 rfl rfl rfl ?_; refine WL_guardN rfl hb32 rfl rfl rfl ?_; refine WL_guardN rfl hb32 rfl rfl rfl ?_; refine WL_guardN rfl hb32 rfl rfl rfl ?_; refine WL_guardN rfl hb32 rfl rfl rfl ?_; refine WL_guardN rfl hb32 rfl rfl rfl ?_; refine WL_guardN rfl hb32 rfl rfl rfl ?_; refine WL_guardN rfl hb32 rfl rfl rfl ?_; refine WL_val (rn_pickT (v := (.bool true)) rfl hb32 rfl) rfl ?_; refine WL_nil ?_
         have hO : Owns G25 w31 w0.heap.size ([]) := hO
         have H := Option.some.inj H; subst H
         exact ⟨_, G25, upds_self _ _ ⟨rfl, rfl, rfl, rfl, rfl, trivial⟩, Gle.refl _, hS, hO⟩
        ·have H := ifF hb32 H; refine WL_guardY rfl hb32 rfl rfl ?_; refine WL_val (rn_fld fd72_1 rfl) rfl ?_; refine WL_guardY rfl hb32 rfl rfl ?_; refine WL_val (rn_load na70 rfl ((hS.sat.le leG25).cell (hcG19 2 _ rfl))) rfl ?_; refine WL_guardY rfl hb32 rfl rfl ?_; refine WL_val (rn_move (v := (.int .i64 s20)) rfl) rfl ?_; refine WL_guardY rfl hb32 rfl rfl ?_; refine WL_idx sl70 (h14.mono RTBaneBite_mono l2_4) hy28 rfl rfl rfl ?_
         rintro b33 o33 _ hcb33 _ ⟨⟩
         refine WL_guardY rfl hb32 rfl rfl ?_; refine WL_val (rn_fld fd77_1 rfl) rfl ?_; refine WL_guardY rfl hb32 rfl rfl ?_; refine WL_val (rn_loadA ag43 (cs := [.int .i64 y28.Share.Low, .int .i64 y28.Share.High]) rfl rfl (fun j v hj => hS.sat.cell (hcb33.drop_take 1 2 j v hj))) rfl ?_; refine WL_guardY rfl hb32 rfl rfl ?_; obtain ⟨y34, hy34, H⟩ := bnd H; refine WL_op rfl (OpP_callV cb70 (f70_ok (x0 := y28.Share) (x1 := 1000) hS.sat  hy34) rfl rfl (fun w35 hb => ?_)); have hS := hS.keep hb; have hO := hO.below hb; refine WL_guardY rfl hb32 rfl rfl ?_; refine WL_val (rn_not rfl) rfl ?_; refine WL_val (rn_pickF (v := (.bool (!y34))) rfl hb32 rfl) rfl ?_; refine WL_nil ?_
         have hO : Owns G25 w35 w0.heap.size ([]) := hO
         have H := Option.some.inj H; subst H
         exact ⟨_, G25, upds_self _ _ ⟨rfl, rfl, rfl, rfl, rfl, trivial⟩, Gle.refl _, hS, hO⟩
       ·rintro F w36 ⟨Fb, G37, rfl, leG37, hS, hO⟩
        refine WC_cond rfl (fun hb38 => ?_) (fun hb38 => ?_)
        ·have H := ifT hb38 H; refine WC_seq ?_; refine WC_region ?_; refine WL_val (rn_assign (v := (.bool false)) rfl) rfl ?_; refine WL_nil ?_; refine WC_ret ?_; have H := Option.some.inj H; subst H
         have hres := hqq22 _ rfl
         subst hres; have H := Hoq22; have H := Option.some.inj H; subst H
         have hres := hqq7 _ rfl
         subst hres; have H := Hoq7
         have H : some false = some r := H
         have H := Option.some.inj H; subst H
         exact ⟨rfl, hS.below⟩
        ·have H := ifF hb38 H; refine WC_skip ?_; refine WC_seq ?_; refine WC_region ?_; refine WL_val (rn_assign (v := (.int .i64 0)) rfl) rfl ?_; refine WL_nil ?_; obtain ⟨q41, hq41, H⟩ := bnd H; refine WC_cut (fun F w => ∃ (p40 : Unit) (Fb : Fr) (G : Gm), q41 = .inl p40 ∧ F = upds Fb [(1, .pointer (some ⟨b2, 0, none⟩)), (3, .int .i64 s5), (4, .pointer (some ⟨b15, 0, none⟩)), (5, .int .i64 s20)] ∧ Gle G37 G ∧ Since w0.heap.size G0 w0 G w ∧ Owns G w w0.heap.size []) ?_ ?_
         ·refine WC_block (WC_loop hq41 (fun s39 F w => ∃ (Fb : Fr) (G : Gm), F = upds Fb [(1, .pointer (some ⟨b2, 0, none⟩)), (3, .int .i64 s5), (4, .pointer (some ⟨b15, 0, none⟩)), (5, .int .i64 s20), (6, .int .i64 s39)] ∧ Gle G37 G ∧ Since w0.heap.size G0 w0 G w ∧ Owns G w w0.heap.size []) ?_ ?_)
          ·have hO : Owns G37 w36 w0.heap.size ([]) := hO
           exact ⟨_, G37, upds_self _ _ ⟨rfl, rfl, rfl, rfl, rfl, trivial⟩, Gle.refl _, hS, hO⟩
          ·rintro s39 F w43 t42 ⟨Fb, G44, rfl, leG44, hS, hO⟩
           intro H1 hqq41
           have Hoq41 := H; have H := H1
           unfold f21_b2 at H
           refine WC_seq ?_; refine WC_seq ?_; refine WC_region ?_; refine WL_val (rn_move (v := (.int .i64 s39)) rfl) rfl ?_; refine WL_val (rn_move (v := (.int .i64 s20)) rfl) rfl ?_; refine WL_val (rn_lss rfl rfl) rfl ?_; refine WL_nil ?_; refine WC_cond rfl (fun hb45 => ?_) (fun hb45 => ?_)
           ·have H := ifT hb45 H; refine WC_skip ?_; refine WC_seq ?_; refine WC_block ?_; refine WC_seq ?_; have hS := hS.keep (below_drew _); have hO := hO.below (below_drew _)
            refine WC_regionD mixedO (fun _ w => Sat G44 w ∧ True) (.fl 0 (.fl 1 (.fl 2 (.fl 3 (.fl 4 (.fl 5 (.fl 6 (.fl 7 (.on 8 (.on 9 (.on 10 (.on 11 (.on 12 .nil))))))))))))) (by kernel_rfl) rfl (by kernel_rfl) (fun _ => ⟨hS.sat, trivial⟩) ?_
            refine WD_val rfl (fun w hw => rn_fld fd72_1 rfl) rfl ?_; refine WD_val rfl (fun w hw => rn_load na70 rfl ((hw.1.le ((leG25.trans leG37).trans leG44)).cell (hcG19 2 _ rfl))) rfl ?_; refine WD_val rfl (fun w hw => rn_move (v := (.int .i64 s39)) rfl) rfl ?_; obtain ⟨y46, hy46, H⟩ := bnd H
            have l2_6 := (l2_4.trans leG37).trans leG44
            refine WD_idx rfl sl70 (h14.mono RTBaneBite_mono l2_6) hy46 rfl rfl rfl ?_
            rintro b47 o47 _ hcb47 _ ⟨⟩
            refine WD_val rfl (fun w hw => rn_fld fd77_0 rfl) rfl ?_; refine WD_val rfl (fun w hw => rn_load na3 rfl (hw.1.cell (hcb47 0 _ rfl))) rfl ?_; refine WD_val rfl (fun w hw => rn_fld fd72_1 rfl) rfl ?_; refine WD_val rfl (fun w hw => rn_load na70 rfl ((hw.1.le ((leG25.trans leG37).trans leG44)).cell (hcG19 2 _ rfl))) rfl ?_; refine WD_op rfl rfl (OpP_val (rn_move (v := (.int .i64 s20)) rfl) rfl ?_); refine ⟨fun _ _ => ⟨hS.sat, trivial⟩, ?_⟩; obtain ⟨y48, hy48, H⟩ := bnd H; refine WD_op rfl rfl (OpP_idx sl70 (h14.mono RTBaneBite_mono l2_6) hy48 rfl rfl rfl ?_)
            rintro b49 o49 _ hcb49 _ ⟨⟩
            refine ⟨fun _ _ => ⟨hS.sat, trivial⟩, ?_⟩; refine WD_op rfl rfl (OpP_val (rn_fld fd77_0 rfl) rfl ?_); refine ⟨fun _ _ => ⟨hS.sat, trivial⟩, ?_⟩; refine WD_op rfl rfl (OpP_val (rn_load na3 rfl (hS.sat.cell (hcb49 0 _ rfl))) rfl ?_); refine ⟨fun _ _ => ⟨hS.sat, trivial⟩, ?_⟩; refine WD_op rfl rfl (OpP_val (rn_eql rfl rfl) rfl ?_)
            refine ⟨fun _ h => noneed (by kernel_rfl) h, ?_⟩
            refine WD_nil ?_; refine WC_cond rfl (fun hb50 => ?_) (fun hb50 => ?_)
            ·have H := ifT hb50 H; refine WC_seq ?_; refine WC_region ?_; refine WL_val (rn_assign (v := (.bool false)) rfl) rfl ?_; refine WL_nil ?_; refine WC_ret ?_; have H := Option.some.inj H; subst H
             have hres := hqq41 _ rfl
             subst hres; have H := Hoq41; have H := Option.some.inj H; subst H
             have hres := hqq22 _ rfl
             subst hres; have H := Hoq22; have H := Option.some.inj H; subst H
             have hres := hqq7 _ rfl
             subst hres; have H := Hoq7
             have H : some false = some r := H
             have H := Option.some.inj H; subst H
             exact ⟨rfl, hS.below⟩
            ·have H := ifF hb50 H; refine WC_skip ?_; refine WC_region ?_; refine WL_val (rn_move (v := (.int .i64 s39)) rfl) rfl ?_; refine WL_val (rn_add rfl rfl) rfl ?_; refine WL_val (rn_assign (v := (.int .i64 (IntKind.i64.wrap (s39 + 1)))) rfl) rfl ?_; refine WL_nil ?_
             have hO : Owns G44 w43.drew w0.heap.size ([]) := hO
             have H := Option.some.inj H; subst H; refine ⟨_, rfl, ?_⟩
             exact ⟨_, G44, upds_self _ _ ⟨rfl, rfl, rfl, rfl, rfl, trivial⟩, leG44, hS, hO⟩
           ·have H := ifF hb45 H; refine WC_exit rfl ?_
            have hO : Owns G44 w43 w0.heap.size ([]) := hO
            have H := Option.some.inj H; subst H
            have hres := hqq41 _ rfl
            subst hres
            exact ⟨_, _, G44, rfl, upds_self _ _ ⟨rfl, rfl, rfl, rfl, trivial⟩, leG44, hS, hO⟩
         ·rintro F w51 ⟨p40, Fb, G52, rfl, rfl, leG52, hS, hO⟩
          refine WC_region ?_; refine WL_val (rn_move (v := (.int .i64 s20)) rfl) rfl ?_; refine WL_val (rn_add rfl rfl) rfl ?_; refine WL_val (rn_assign (v := (.int .i64 (IntKind.i64.wrap (s20 + 1)))) rfl) rfl ?_; refine WL_nil ?_
          have hO : Owns G52 w51 w0.heap.size ([]) := hO
          have H := Option.some.inj H; subst H; refine ⟨_, rfl, ?_⟩
          have l3_6 := (leG25.trans leG37).trans leG52
          exact ⟨_, G52, upds_self _ _ ⟨rfl, rfl, rfl, rfl, trivial⟩, l3_6, hS, hO⟩
      ·have H := ifF hb26 H; refine WC_exit rfl ?_
       have hO : Owns G25 w24 w0.heap.size ([]) := hO
       have H := Option.some.inj H; subst H
       have hres := hqq22 _ rfl
       subst hres
       exact ⟨_, _, G25, rfl, upds_self _ _ ⟨rfl, rfl, rfl, trivial⟩, leG25, hS, hO⟩
    ·rintro F w54 ⟨p21, Fb, G55, rfl, rfl, leG55, hS, hO⟩
     refine WC_seq ?_; obtain ⟨q56, hq56, H⟩ := bnd H; refine WC_cut (fun F w => ∃ (Fb : Fr) (G : Gm), F = upds Fb [(1, .pointer (some ⟨b2, 0, none⟩)), (3, .int .i64 s5), (85, .bool q56)] ∧ Gle G55 G ∧ Since w0.heap.size G0 w0 G w ∧ Owns G w w0.heap.size []) ?_ ?_
     ·have Hoq56 := H; have H := hq56; refine WC_region ?_; refine WL_val (rn_fld fd72_0 rfl) rfl ?_; refine WL_val (rn_loadA ag43 (cs := [.int .i64 y12.Base.Low, .int .i64 y12.Base.High]) rfl rfl (fun j v hj => (hS.sat.le leG55).cell (hcG19.drop_take 0 2 j v hj))) rfl ?_; obtain ⟨y57, hy57, H⟩ := bnd H; refine WL_op rfl (OpP_callV cb70 (f70_ok (x0 := y12.Base) (x1 := 1000000) hS.sat  hy57) rfl rfl (fun w58 hb => ?_)); have hS := hS.keep hb; have hO := hO.below hb; refine WL_val (rn_not rfl) rfl ?_; refine WL_val (rn_move (v := (.bool (!y57))) rfl) rfl ?_
      rcases bcases (!y57) with hb59 | hb59
      ·have H := ifT hb59 H; refine WL_guardN rfl hb59 rfl rfl rfl ?_; refine WL_guardN rfl hb59 rfl rfl rfl ?_; refine WL_guardN rfl hb59 rfl rfl rfl ?_; refine WL_guardN rfl hb59 rfl rfl rfl ?_; refine WL_val (rn_pickT (v := (.bool true)) rfl hb59 rfl) rfl ?_; refine WL_val (rn_move (v := (.bool true)) rfl) rfl ?_; refine WL_guardN rfl rfl rfl rfl rfl ?_; refine WL_guardN rfl rfl rfl rfl rfl ?_; refine WL_guardN rfl rfl rfl rfl rfl ?_; refine WL_guardN rfl rfl rfl rfl rfl ?_; refine WL_val (rn_pickT (v := (.bool true)) rfl rfl rfl) rfl ?_; refine WL_val (rn_move (v := (.bool true)) rfl) rfl ?_; refine WL_guardN rfl rfl rfl rfl rfl ?_; refine WL_guardN rfl rfl rfl rfl rfl ?_; refine WL_guardN rfl rfl rfl rfl rfl ?_; refine WL_guardN rfl rfl rfl rfl rfl ?_; refine WL_val (rn_pickT (v := (.bool true)) rfl rfl rfl) rfl ?_; refine WL_nil ?_
       have hO : Owns G55 w58 w0.heap.size ([]) := hO
       have H := Option.some.inj H; subst H
       exact ⟨_, G55, upds_self _ _ ⟨rfl, rfl, rfl, trivial⟩, Gle.refl _, hS, hO⟩
      ·have H := ifF hb59 H; refine WL_guardY rfl hb59 rfl rfl ?_; refine WL_val (rn_fld fd72_1 rfl) rfl ?_; refine WL_guardY rfl hb59 rfl rfl ?_; refine WL_val (rn_load na70 rfl ((hS.sat.le leG55).cell (hcG19 2 _ rfl))) rfl ?_; refine WL_guardY rfl hb59 rfl rfl ?_
       have l2_4 := leG19.trans leG55
       refine WL_val (rn_len sl70 rfl rfl (h14.mono RTBaneBite_mono l2_4).1) rfl ?_; refine WL_guardY rfl hb59 rfl rfl ?_; refine WL_val (rn_gtr rfl rfl) rfl ?_; refine WL_val (rn_pickF (v := (.bool (decide (6 < (y12.Bites.length : Int))))) rfl hb59 rfl) rfl ?_; refine WL_val (rn_move (v := (.bool (decide (6 < (y12.Bites.length : Int))))) rfl) rfl ?_
       rcases bcases (decide (6 < (y12.Bites.length : Int))) with hb60 | hb60
       ·have H := ifT hb60 H; refine WL_guardN rfl hb60 rfl rfl rfl ?_; refine WL_guardN rfl hb60 rfl rfl rfl ?_; refine WL_guardN rfl hb60 rfl rfl rfl ?_; refine WL_guardN rfl hb60 rfl rfl rfl ?_; refine WL_val (rn_pickT (v := (.bool true)) rfl hb60 rfl) rfl ?_; refine WL_val (rn_move (v := (.bool true)) rfl) rfl ?_; refine WL_guardN rfl rfl rfl rfl rfl ?_; refine WL_guardN rfl rfl rfl rfl rfl ?_; refine WL_guardN rfl rfl rfl rfl rfl ?_; refine WL_guardN rfl rfl rfl rfl rfl ?_; refine WL_val (rn_pickT (v := (.bool true)) rfl rfl rfl) rfl ?_; refine WL_nil ?_
        have hO : Owns G55 w58 w0.heap.size ([]) := hO
        have H := Option.some.inj H; subst H
        exact ⟨_, G55, upds_self _ _ ⟨rfl, rfl, rfl, trivial⟩, Gle.refl _, hS, hO⟩
       ·have H := ifF hb60 H; refine WL_guardY rfl hb60 rfl rfl ?_; refine WL_val (rn_fld fd72_2 rfl) rfl ?_; refine WL_guardY rfl hb60 rfl rfl ?_; refine WL_val (rn_load na3 rfl ((hS.sat.le leG55).cell (hcG19 3 _ rfl))) rfl ?_; refine WL_guardY rfl hb60 rfl rfl ?_; obtain ⟨y61, hy61, H⟩ := bnd H; refine WL_op rfl (OpP_callV cb69 (f69_ok (x0 := y12.Pass) (x1 := 0) (x2 := 1000000) hS.sat  hy61) rfl rfl (fun w62 hb => ?_)); have hS := hS.keep hb; have hO := hO.below hb; refine WL_guardY rfl hb60 rfl rfl ?_; refine WL_val (rn_not rfl) rfl ?_; refine WL_val (rn_pickF (v := (.bool (!y61))) rfl hb60 rfl) rfl ?_; refine WL_val (rn_move (v := (.bool (!y61))) rfl) rfl ?_
        rcases bcases (!y61) with hb63 | hb63
        ·have H := ifT hb63 H; refine WL_guardN rfl hb63 rfl rfl rfl ?_; refine WL_guardN rfl hb63 rfl rfl rfl ?_; refine WL_guardN rfl hb63 rfl rfl rfl ?_; refine WL_guardN rfl hb63 rfl rfl rfl ?_; refine WL_val (rn_pickT (v := (.bool true)) rfl hb63 rfl) rfl ?_; refine WL_nil ?_
         have hO : Owns G55 w62 w0.heap.size ([]) := hO
         have H := Option.some.inj H; subst H
         exact ⟨_, G55, upds_self _ _ ⟨rfl, rfl, rfl, trivial⟩, Gle.refl _, hS, hO⟩
        ·have H := ifF hb63 H; refine WL_guardY rfl hb63 rfl rfl ?_; refine WL_val (rn_fld fd72_3 rfl) rfl ?_; refine WL_guardY rfl hb63 rfl rfl ?_; refine WL_val (rn_load na3 rfl ((hS.sat.le leG55).cell (hcG19 4 _ rfl))) rfl ?_; refine WL_guardY rfl hb63 rfl rfl ?_; obtain ⟨y64, hy64, H⟩ := bnd H; refine WL_op rfl (OpP_callV cb69 (f69_ok (x0 := y12.Cost) (x1 := 0) (x2 := 1000000) hS.sat  hy64) rfl rfl (fun w65 hb => ?_)); have hS := hS.keep hb; have hO := hO.below hb; refine WL_guardY rfl hb63 rfl rfl ?_; refine WL_val (rn_not rfl) rfl ?_; refine WL_val (rn_pickF (v := (.bool (!y64))) rfl hb63 rfl) rfl ?_; refine WL_nil ?_
         have hO : Owns G55 w65 w0.heap.size ([]) := hO
         have H := Option.some.inj H; subst H
         exact ⟨_, G55, upds_self _ _ ⟨rfl, rfl, rfl, trivial⟩, Gle.refl _, hS, hO⟩
     ·rintro F w66 ⟨Fb, G67, rfl, leG67, hS, hO⟩
      refine WC_cond rfl (fun hb68 => ?_) (fun hb68 => ?_)
      ·have H := ifT hb68 H; refine WC_seq ?_; refine WC_region ?_; refine WL_val (rn_assign (v := (.bool false)) rfl) rfl ?_; refine WL_nil ?_; refine WC_ret ?_; have H := Option.some.inj H; subst H
       have hres := hqq7 _ rfl
       subst hres; have H := Hoq7
       have H : some false = some r := H
       have H := Option.some.inj H; subst H
       exact ⟨rfl, hS.below⟩
      ·have H := ifF hb68 H; refine WC_skip ?_; refine WC_region ?_; refine WL_val (rn_move (v := (.int .i64 s5)) rfl) rfl ?_; refine WL_val (rn_add rfl rfl) rfl ?_; refine WL_val (rn_assign (v := (.int .i64 (IntKind.i64.wrap (s5 + 1)))) rfl) rfl ?_; refine WL_nil ?_
       have hO : Owns G67 w66 w0.heap.size ([]) := hO
       have H := Option.some.inj H; subst H; refine ⟨_, rfl, ?_⟩
       have l1_5 := ((leG10.trans leG19).trans leG55).trans leG67
       exact ⟨_, G67, upds_self _ _ ⟨rfl, rfl, trivial⟩, l1_5, hS, hO⟩
   ·have H := ifF hb11 H; refine WC_exit rfl ?_
    have hO : Owns G10 w9 w0.heap.size ([]) := hO
    have H := Option.some.inj H; subst H
    have hres := hqq7 _ rfl
    subst hres
    exact ⟨_, _, G10, rfl, upds_self _ _ ⟨rfl, trivial⟩, leG10, hS, hO⟩
 ·rintro F w70 ⟨p6, Fb, G71, rfl, rfl, leG71, hS, hO⟩
  refine WC_seq ?_; obtain ⟨q72, hq72, H⟩ := bnd H; refine WC_cut (fun F w => ∃ (Fb : Fr) (G : Gm), F = upds Fb [(2, .bool q72)] ∧ Gle G71 G ∧ Since w0.heap.size G0 w0 G w ∧ Owns G w w0.heap.size []) ?_ ?_
  ·have Hoq72 := H; have H := hq72; refine WC_region ?_; refine WL_val (rn_fld fd24_0 rfl) rfl ?_; refine WL_val (rn_load na22 rfl ((hS.sat.le leG71).cell (hcb2 0 _ rfl))) rfl ?_
   have l0_2 := leG4.trans leG71
   refine WL_val (rn_len sl22 rfl rfl (h1.mono RTBaneFish_mono l0_2).1) rfl ?_; obtain ⟨y73, hy73, H⟩ := bnd H; refine WL_op rfl (OpP_callV cb69 (f69_ok (x0 := (x0.Fish.length : Int)) (x1 := 1) (x2 := 7) hS.sat  hy73) rfl rfl (fun w74 hb => ?_)); have hS := hS.keep hb; have hO := hO.below hb; refine WL_val (rn_move (v := (.bool y73)) rfl) rfl ?_
   rcases bcases y73 with hb75 | hb75
   ·have H := ifT hb75 H; refine WL_guardY rfl hb75 rfl rfl ?_; refine WL_val (rn_fld fd24_1 rfl) rfl ?_; refine WL_guardY rfl hb75 rfl rfl ?_; refine WL_val (rn_load na3 rfl ((hS.sat.le leG71).cell (hcb2 1 _ rfl))) rfl ?_; refine WL_guardY rfl hb75 rfl rfl ?_; obtain ⟨y76, hy76, H⟩ := bnd H; refine WL_op rfl (OpP_callV cb69 (f69_ok (x0 := x0.Limit) (x1 := 0) (x2 := 1000000) hS.sat  hy76) rfl rfl (fun w77 hb => ?_)); have hS := hS.keep hb; have hO := hO.below hb; refine WL_val (rn_pickT (v := (.bool y76)) rfl hb75 rfl) rfl ?_; refine WL_val (rn_assign (v := (.bool y76)) rfl) rfl ?_; refine WL_nil ?_
    have hO : Owns G71 w77 w0.heap.size ([]) := hO
    have H := Option.some.inj H; subst H
    exact ⟨_, G71, upds_self _ _ ⟨rfl, trivial⟩, Gle.refl _, hS, hO⟩
   ·have H := ifF hb75 H; refine WL_guardN rfl hb75 rfl rfl rfl ?_; refine WL_guardN rfl hb75 rfl rfl rfl ?_; refine WL_guardN rfl hb75 rfl rfl rfl ?_; refine WL_val (rn_pickF (v := (.bool false)) rfl hb75 rfl) rfl ?_; refine WL_val (rn_assign (v := (.bool false)) rfl) rfl ?_; refine WL_nil ?_
    have hO : Owns G71 w74 w0.heap.size ([]) := hO
    have H := Option.some.inj H; subst H
    exact ⟨_, G71, upds_self _ _ ⟨rfl, trivial⟩, Gle.refl _, hS, hO⟩
  ·rintro F w78 ⟨Fb, G79, rfl, leG79, hS, hO⟩
   refine WC_ret ?_
   have H : some q72 = some r := H
   have H := Option.some.inj H; subst H
   exact ⟨rfl, hS.below⟩
set_option maxHeartbeats 1000000 in
theorem f24_ok {G0 : Gm} {w0 : World} (hS0 : Sat G0 w0) {x0 : TBaneWeb} {a1 : Option Addr} {n1 c1 : Nat} {x1 : TBaneTruth} {a2 : Option Addr} {n2 c2 : Nat} {a3 : Option Addr} {n3 c3 : Nat} (h1 : RSl RTBaneFish 5 G0 a1 n1 c1 x0.Fish) (h2 : RSl RInt 1 G0 a2 n2 c2 x1.Bases) (h3 : RSl (RSlice RInt 1) 1 G0 a3 n3 c3 x1.Shares) {r : (List Int)} (H : f24 x0 x1 = some r) :
  Calls Try.prog 24 #[.agg #[.slice a1 n1 c1, .int .i64 x0.Limit], .agg #[.slice a2 n2 c2, .slice a3 n3 c3]] w0 (RetG G0 w0 (fun G v => ∃ (ra0 : Option Addr) (rn0 rc0 : Nat), v = .slice ra0 rn0 rc0 ∧ RSl RInt 1 G ra0 rn0 rc0 r)) := by
 have hS := Since.start hS0
 have hO : Owns G0 w0 w0.heap.size [] := Owns.nil (Nat.le_refl _)
 unfold f24 at H
 refine enter1 (N := 62) (shutG _ _ _) Try.func24 rfl rfl rfl rfl ?_; refine WC_seq ?_; refine WC_region ?_; refine WL_op rfl (OpP_newF (v := fun b => .pointer (some ⟨b, 0, none⟩)) (cs := [.slice a1 n1 c1, .int .i64 x0.Limit]) (e := 24) (rn_boxA rfl) hS.sat rfl (fun b4 G6 w5 hg hcb4 => ?_)); have hS := hS.grow hg; have hO := hO.grow hg
 have leG6 := hg.le
 refine WL_op rfl (OpP_newF (v := fun b => .pointer (some ⟨b, 0, none⟩)) (cs := [.slice a2 n2 c2, .slice a3 n3 c3]) (e := 28) (rn_boxA rfl) hS.sat rfl (fun b7 G9 w8 hg hcb7 => ?_)); have hS := hS.grow hg; have hO := hO.grow hg
 have leG9 := hg.le
 refine WL_val (rn_assign (v := (.slice none 0 0)) rfl) rfl ?_; refine WL_nil ?_; refine WC_seq ?_; refine WC_region ?_; refine WL_val (rn_assign (v := (.slice none 0 0)) rfl) rfl ?_; refine WL_nil ?_; refine WC_seq ?_; refine WC_seq ?_; refine WC_region ?_; refine WL_val (rn_assign (v := (.int .i64 0)) rfl) rfl ?_; refine WL_nil ?_; have hO := hO.cons_nil 3 1; obtain ⟨q13, hq13, H⟩ := bnd H; refine WC_cut (fun F w => ∃ (Fb : Fr) (G : Gm) (aq13_0 : Option Addr) (nq13_0 cq13_0 : Nat) (claq13_0 : List Value), F = upds Fb [(5, .slice aq13_0 nq13_0 cq13_0)] ∧ Gle G9 G ∧ Since w0.heap.size G0 w0 G w ∧ Owns G w w0.heap.size [⟨3, 1, nq13_0, .slice aq13_0 nq13_0 cq13_0, claq13_0⟩] ∧ nq13_0 = q13.length ∧ Rd RInt 1 G claq13_0 q13) ?_ ?_
 ·refine WC_block (WC_loop hq13 (fun s11 F w => ∃ (Fb : Fr) (G : Gm) (as11_0 : Option Addr) (ns11_0 cs11_0 : Nat) (clas11_0 : List Value), F = upds Fb [(2, .pointer (some ⟨b4, 0, none⟩)), (3, .pointer (some ⟨b7, 0, none⟩)), (5, .slice as11_0 ns11_0 cs11_0), (6, .int .i64 s11.2)] ∧ Gle G9 G ∧ Since w0.heap.size G0 w0 G w ∧ Owns G w w0.heap.size [⟨3, 1, ns11_0, .slice as11_0 ns11_0 cs11_0, clas11_0⟩] ∧ ns11_0 = s11.1.length ∧ Rd RInt 1 G clas11_0 s11.1) ?_ ?_)
  ·have hO : Owns G9 w8 w0.heap.size ([⟨3, 1, 0, .slice none 0 0, []⟩]) := hO
   exact ⟨_, G9, none, 0, 0, [], upds_self _ _ ⟨rfl, rfl, rfl, rfl, trivial⟩, Gle.refl _, hS, hO, rfl, (Rd.nil RInt 1 G9)⟩
  ·rintro s11 F w15 t14 ⟨Fb, G16, as11_0, ns11_0, cs11_0, clas11_0, rfl, leG16, hS, hO, hnhs11_0, hs11_0⟩
   intro H1 hqq13
   have Hoq13 := H; have H := H1
   unfold f24_b0 at H
   refine WC_seq ?_; refine WC_seq ?_; refine WC_region ?_; refine WL_val (rn_move (v := (.int .i64 s11.2)) rfl) rfl ?_; refine WL_val (rn_fld fd24_0 rfl) rfl ?_
   have l1_3 := leG9.trans leG16
   refine WL_val (rn_load na22 rfl ((hS.sat.le l1_3).cell (hcb4 0 _ rfl))) rfl ?_
   have l0_3 := leG6.trans l1_3
   refine WL_val (rn_len sl22 rfl rfl (h1.mono RTBaneFish_mono l0_3).1) rfl ?_; refine WL_val (rn_lss rfl rfl) rfl ?_; refine WL_nil ?_; refine WC_cond rfl (fun hb17 => ?_) (fun hb17 => ?_)
   ·have H := ifT hb17 H; refine WC_skip ?_; refine WC_seq ?_; refine WC_block ?_; refine WC_seq ?_; refine WC_region ?_; refine WL_val (rn_fld fd28_0 rfl) rfl ?_; refine WL_val (rn_load na25 rfl ((hS.sat.le leG16).cell (hcb7 0 _ rfl))) rfl ?_; refine WL_val (rn_move (v := (.int .i64 s11.2)) rfl) rfl ?_; obtain ⟨y18, hy18, H⟩ := bnd H; refine WL_idx sl25 (h2.mono RInt_mono l0_3) hy18 rfl rfl rfl ?_
    rintro b19 o19 _ hcb19 _ ⟨⟩
    refine WL_val (rn_load na3 rfl (hS.sat.cell (hcb19 0 _ rfl))) rfl ?_; refine WL_val (rn_assign (v := (.int .i64 y18)) rfl) rfl ?_; refine WL_nil ?_; refine WC_seq ?_; refine WC_seq ?_; refine WC_region ?_; refine WL_val (rn_assign (v := (.int .i64 0)) rfl) rfl ?_; refine WL_nil ?_; obtain ⟨q22, hq22, H⟩ := bnd H; refine WC_cut (fun F w => ∃ (Fb : Fr) (G : Gm), F = upds Fb [(2, .pointer (some ⟨b4, 0, none⟩)), (3, .pointer (some ⟨b7, 0, none⟩)), (5, .slice as11_0 ns11_0 cs11_0), (6, .int .i64 s11.2), (7, .int .i64 q22)] ∧ Gle G16 G ∧ Since w0.heap.size G0 w0 G w ∧ Owns G w w0.heap.size [⟨3, 1, ns11_0, .slice as11_0 ns11_0 cs11_0, clas11_0⟩]) ?_ ?_
    ·refine WC_block (WC_loop hq22 (fun s20 F w => ∃ (Fb : Fr) (G : Gm), F = upds Fb [(2, .pointer (some ⟨b4, 0, none⟩)), (3, .pointer (some ⟨b7, 0, none⟩)), (5, .slice as11_0 ns11_0 cs11_0), (6, .int .i64 s11.2), (7, .int .i64 s20.1), (8, .int .i64 s20.2)] ∧ Gle G16 G ∧ Since w0.heap.size G0 w0 G w ∧ Owns G w w0.heap.size [⟨3, 1, ns11_0, .slice as11_0 ns11_0 cs11_0, clas11_0⟩]) ?_ ?_)
     ·have hO : Owns G16 w15 w0.heap.size ([⟨3, 1, ns11_0, .slice as11_0 ns11_0 cs11_0, clas11_0⟩]) := hO
      exact ⟨_, G16, upds_self _ _ ⟨rfl, rfl, rfl, rfl, rfl, rfl, trivial⟩, Gle.refl _, hS, hO⟩
     ·rintro s20 F w24 t23 ⟨Fb, G25, rfl, leG25, hS, hO⟩
      intro H1 hqq22
      have Hoq22 := H; have H := H1
      unfold f24_b1 at H
      refine WC_seq ?_; refine WC_seq ?_; refine WC_region ?_; refine WL_val (rn_move (v := (.int .i64 s20.2)) rfl) rfl ?_; refine WL_val (rn_fld fd24_0 rfl) rfl ?_
      have l1_4 := l1_3.trans leG25
      refine WL_val (rn_load na22 rfl ((hS.sat.le l1_4).cell (hcb4 0 _ rfl))) rfl ?_; refine WL_val (rn_move (v := (.int .i64 s11.2)) rfl) rfl ?_; obtain ⟨y26, hy26, H⟩ := bnd H
      have l0_4 := l0_3.trans leG25
      refine WL_idx sl22 (h1.mono RTBaneFish_mono l0_4) hy26 rfl rfl rfl ?_
      rintro b27 o27 _ hcb27 _ ⟨a28, n28, c28, ⟨⟩, h28⟩
      refine WL_val (rn_fld fd72_1 rfl) rfl ?_; refine WL_val (rn_load na70 rfl (hS.sat.cell (hcb27 2 _ rfl))) rfl ?_; refine WL_val (rn_len sl70 rfl rfl h28.1) rfl ?_; refine WL_val (rn_lss rfl rfl) rfl ?_; refine WL_nil ?_; refine WC_cond rfl (fun hb29 => ?_) (fun hb29 => ?_)
      ·have H := ifT hb29 H; refine WC_skip ?_; refine WC_seq ?_; refine WC_block ?_; have hS := hS.keep (below_drew _); have hO := hO.below (below_drew _)
       refine WC_regionD mixedO (fun _ w => Sat G25 w ∧ Owns G25 w w0.heap.size [⟨3, 1, ns11_0, .slice as11_0 ns11_0 cs11_0, clas11_0⟩]) (.fl 0 (.fl 1 (.fl 2 (.fl 3 (.fl 4 (.fl 5 (.fl 6 (.fl 7 (.fl 8 (.fl 9 (.fl 10 (.fl 11 (.fl 12 (.fl 13 (.fl 14 (.fl 15 (.on 16 (.on 17 (.on 18 (.on 19 (.on 20 (.on 21 (.on 22 (.on 23 (.on 24 (.on 25 .nil)))))))))))))))))))))))))) (by kernel_rfl) rfl (by kernel_rfl) (fun _ => ⟨hS.sat, hO⟩) ?_
       refine WD_val rfl (fun w hw => rn_move (v := (.int .i64 s20.1)) rfl) rfl ?_; refine WD_val rfl (fun w hw => rn_fld fd28_1 rfl) rfl ?_; refine WD_val rfl (fun w hw => rn_load na26 rfl ((hw.1.le (leG16.trans leG25)).cell (hcb7 1 _ rfl))) rfl ?_; refine WD_val rfl (fun w hw => rn_move (v := (.int .i64 s11.2)) rfl) rfl ?_; obtain ⟨y30, hy30, H⟩ := bnd H; refine WD_idx rfl sl26 (h3.mono (RSlice_mono RInt_mono) l0_4) hy30 rfl rfl rfl ?_
       rintro b31 o31 _ hcb31 _ ⟨a32, n32, c32, ⟨⟩, h32⟩
       refine WD_val rfl (fun w hw => rn_load na25 rfl (hw.1.cell (hcb31 0 _ rfl))) rfl ?_; refine WD_val rfl (fun w hw => rn_move (v := (.int .i64 s20.2)) rfl) rfl ?_; obtain ⟨y33, hy33, H⟩ := bnd H; refine WD_idx rfl sl25 h32 hy33 rfl rfl rfl ?_
       rintro b34 o34 _ hcb34 _ ⟨⟩
       refine WD_val rfl (fun w hw => rn_load na3 rfl (hw.1.cell (hcb34 0 _ rfl))) rfl ?_; refine WD_val rfl (fun w hw => rn_move (v := (.slice as11_0 ns11_0 cs11_0)) rfl) rfl ?_; refine WD_val rfl (fun w hw => rn_fld fd24_0 rfl) rfl ?_; refine WD_val rfl (fun w hw => rn_load na22 rfl ((hw.1.le l1_4).cell (hcb4 0 _ rfl))) rfl ?_; refine WD_val rfl (fun w hw => rn_move (v := (.int .i64 s11.2)) rfl) rfl ?_; refine WD_idx rfl sl22 (h1.mono RTBaneFish_mono l0_4) hy26 rfl rfl rfl ?_
       rintro b35 o35 _ hcb35 _ ⟨a36, n36, c36, ⟨⟩, h36⟩
       refine WD_val rfl (fun w hw => rn_fld fd72_1 rfl) rfl ?_; refine WD_val rfl (fun w hw => rn_load na70 rfl (hw.1.cell (hcb35 2 _ rfl))) rfl ?_; refine WD_op rfl rfl (OpP_val (rn_move (v := (.int .i64 s20.2)) rfl) rfl ?_); refine ⟨fun _ _ => ⟨hS.sat, hO⟩, ?_⟩; obtain ⟨y37, hy37, H⟩ := bnd H; refine WD_op rfl rfl (OpP_idx sl70 h36 hy37 rfl rfl rfl ?_)
       rintro b38 o38 _ hcb38 _ ⟨⟩
       refine ⟨fun _ _ => ⟨hS.sat, hO⟩, ?_⟩; refine WD_op rfl rfl (OpP_val (rn_fld fd77_0 rfl) rfl ?_); refine ⟨fun _ _ => ⟨hS.sat, hO⟩, ?_⟩; refine WD_op rfl rfl (OpP_val (rn_load na3 rfl (hS.sat.cell (hcb38 0 _ rfl))) rfl ?_); refine ⟨fun _ _ => ⟨hS.sat, hO⟩, ?_⟩; obtain ⟨y39, hy39, H⟩ := bnd H; refine WD_op rfl rfl (OpP_idxO sl25 hO (k := 0) rfl hnhs11_0 (hs11_0.mono RInt_mono leG25) hy39 rfl rfl rfl ?_)
       rintro b40 ob40 _ hb40 _ hcb40 ⟨⟩
       refine ⟨fun _ _ => ⟨hS.sat, hO⟩, ?_⟩; refine WD_op rfl rfl (OpP_val (rn_load na3 rfl (own_cellB hO (k := 0) rfl hb40 _ 0 (hcb40 0 _ rfl))) rfl ?_); refine ⟨fun _ _ => ⟨hS.sat, hO⟩, ?_⟩; refine WD_op rfl rfl (OpP_val (rn_mul rfl rfl) rfl ?_); refine ⟨fun _ _ => ⟨hS.sat, hO⟩, ?_⟩
       refine WD_op rfl rfl (OpP_val (rn_quo rfl rfl (by decide)) rfl ?_)
       refine ⟨fun _ _ => ⟨hS.sat, hO⟩, ?_⟩; refine WD_op rfl rfl (OpP_val (rn_add rfl rfl) rfl ?_)
       refine ⟨fun _ h => noneed (by kernel_rfl) h, ?_⟩
       refine WD_op rfl rfl (OpP_val (rn_assign (v := (.int .i64 (IntKind.i64.wrap (s20.1 + (IntKind.i64.wrap ((IntKind.i64.wrap (y33 * y39)).tdiv 1000)))))) rfl) rfl ?_)
       refine ⟨fun _ h => noneed (by kernel_rfl) h, ?_⟩
       refine WD_nil ?_; refine WC_region ?_; refine WL_val (rn_move (v := (.int .i64 s20.2)) rfl) rfl ?_; refine WL_val (rn_add rfl rfl) rfl ?_; refine WL_val (rn_assign (v := (.int .i64 (IntKind.i64.wrap (s20.2 + 1)))) rfl) rfl ?_; refine WL_nil ?_
       have hO : Owns G25 w24.drew w0.heap.size ([⟨3, 1, ns11_0, .slice as11_0 ns11_0 cs11_0, clas11_0⟩]) := hO
       have H := Option.some.inj H; subst H; refine ⟨_, rfl, ?_⟩
       exact ⟨_, G25, upds_self _ _ ⟨rfl, rfl, rfl, rfl, rfl, rfl, trivial⟩, leG25, hS, hO⟩
      ·have H := ifF hb29 H; refine WC_exit rfl ?_
       have hO : Owns G25 w24 w0.heap.size ([⟨3, 1, ns11_0, .slice as11_0 ns11_0 cs11_0, clas11_0⟩]) := hO
       have H := Option.some.inj H; subst H
       have hres := hqq22 _ rfl
       subst hres
       exact ⟨_, G25, upds_self _ _ ⟨rfl, rfl, rfl, rfl, rfl, trivial⟩, leG25, hS, hO⟩
    ·rintro F w41 ⟨Fb, G42, rfl, leG42, hS, hO⟩
     refine WC_region ?_; refine WL_val (rn_move (v := (.slice as11_0 ns11_0 cs11_0)) rfl) rfl ?_; refine WL_val (rn_move (v := (.int .i64 q22)) rfl) rfl ?_
     refine WL_op rfl (OpP_newF (v := fun b => .slice (some ⟨b, 0, none⟩) 1 1) (cs := [.int .i64 q22]) (e := 3) (by kernel_rfl) hS.sat rfl (fun b43 G45 w44 hg hcb43 => ?_))
     have hS := hS.grow hg; have hO := hO.grow hg
     have leG45 := hg.le
     have hfb43 : RSl RInt 1 G45 (some ⟨b43, 0, none⟩) 1 1 [q22] := RSl.of_rd hcb43 (Rd.cons (c := [.int .i64 q22]) rfl rfl (Rd.nil RInt 1 _)) rfl (by decide)
     obtain ⟨y46, hy46, H⟩ := bnd H
     have l3_5 := leG42.trans leG45
     refine WL_op rfl (OpP_append (k := 0) sl25 RInt_one hS hO rfl hnhs11_0 (hs11_0.mono RInt_mono l3_5) hfb43 hy46 rfl rfl rfl rfl rfl (fun aw47 cw47 w47 clw47 hS hO hrw47 => ?_))
     have hO : Owns G45 w47 w0.heap.size ([⟨3, 1, y46.length, .slice aw47 y46.length cw47, clw47⟩]) := hO
     refine WL_val (rn_assign (v := (.slice aw47 y46.length cw47)) rfl) rfl ?_; refine WL_nil ?_; refine WC_region ?_; refine WL_val (rn_move (v := (.int .i64 s11.2)) rfl) rfl ?_; refine WL_val (rn_add rfl rfl) rfl ?_; refine WL_val (rn_assign (v := (.int .i64 (IntKind.i64.wrap (s11.2 + 1)))) rfl) rfl ?_; refine WL_nil ?_
     have hO : Owns G45 w47 w0.heap.size ([⟨3, 1, y46.length, .slice aw47 y46.length cw47, clw47⟩]) := hO
     have H := Option.some.inj H; subst H; refine ⟨_, rfl, ?_⟩
     have l2_5 := leG16.trans l3_5
     exact ⟨_, G45, aw47, y46.length, cw47, clw47, upds_self _ _ ⟨rfl, rfl, rfl, rfl, trivial⟩, l2_5, hS, hO, rfl, hrw47⟩
   ·have H := ifF hb17 H; refine WC_exit rfl ?_
    have hO : Owns G16 w15 w0.heap.size ([⟨3, 1, ns11_0, .slice as11_0 ns11_0 cs11_0, clas11_0⟩]) := hO
    have H := Option.some.inj H; subst H
    have hres := hqq13 _ rfl
    subst hres
    exact ⟨_, G16, as11_0, ns11_0, cs11_0, clas11_0, upds_self _ _ ⟨rfl, trivial⟩, leG16, hS, hO, hnhs11_0, hs11_0⟩
 ·rintro F w48 ⟨Fb, G49, aq13_0, nq13_0, cq13_0, claq13_0, rfl, leG49, hS, hO, hnhq13_0, hq13_0⟩
  refine WC_seq ?_; refine WC_region ?_; refine WL_val (rn_move (v := (.slice aq13_0 nq13_0 cq13_0)) rfl) rfl ?_; refine WL_val (rn_assign (v := (.slice aq13_0 nq13_0 cq13_0)) rfl) rfl ?_; refine WL_nil ?_; refine WC_ret ?_; obtain ⟨G50, leG50, hS, hO, hfG50⟩ := hO.freezeS hS RInt_mono (k := 0) rfl hq13_0 hnhq13_0
  have H : some q13 = some r := H
  have H := Option.some.inj H; subst H
  exact ⟨_, _, rfl, hS.toGrow, _, _, _, rfl, hfG50⟩
set_option maxHeartbeats 1000000 in
theorem f26_ok {G0 : Gm} {w0 : World} (hS0 : Sat G0 w0) {x0 : TBaneWeb} {a1 : Option Addr} {n1 c1 : Nat} {x1 : Bool} (h1 : RSl RTBaneFish 5 G0 a1 n1 c1 x0.Fish) {r : TBaneTruth} (H : f26 x0 x1 = some r) :
  Calls Try.prog 26 #[.agg #[.slice a1 n1 c1, .int .i64 x0.Limit], .bool x1] w0 (RetG G0 w0 (fun G v => ∃ (ra0 : Option Addr) (rn0 rc0 : Nat) (ra1 : Option Addr) (rn1 rc1 : Nat), v = .agg #[.slice ra0 rn0 rc0, .slice ra1 rn1 rc1] ∧ RSl RInt 1 G ra0 rn0 rc0 r.Bases ∧ RSl (RSlice RInt 1) 1 G ra1 rn1 rc1 r.Shares)) := by
 have hS := Since.start hS0
 have hO : Owns G0 w0 w0.heap.size [] := Owns.nil (Nat.le_refl _)
 unfold f26 at H
 refine enterG (N := 70) (shutG _ _ _) [.cell 4 28] Try.func26 rfl rfl rfl rfl ?_; refine WC_seq ?_; refine WC_region ?_; refine WL_op rfl (OpP_newF (v := fun b => .pointer (some ⟨b, 0, none⟩)) (cs := [.slice a1 n1 c1, .int .i64 x0.Limit]) (e := 24) (rn_boxA rfl) hS.sat rfl (fun b2 G4 w3 hg hcb2 => ?_)); have hS := hS.grow hg; have hO := hO.grow hg
 have leG4 := hg.le
 refine WL_op rfl (OpP_newO (v := fun b => .pointer (some ⟨b, 0, none⟩)) (cs := [.slice none 0 0, .slice none 0 0]) (e := 28) (by kernel_rfl) hS.sat hO rfl 2 1 rfl (by decide) (fun b5 w6 hb hO => ?_))
 have hS := hS.keep hb; refine WL_nil ?_; refine WC_seq ?_; refine WC_region ?_
 refine WL_op rfl (OpP_newO (v := fun b => .pointer (some ⟨b, 0, none⟩)) (cs := [.slice none 0 0, .slice none 0 0]) (e := 28) (by kernel_rfl) hS.sat hO rfl 2 1 rfl (by decide) (fun b8 w9 hb hO => ?_))
 have hS := hS.keep hb; refine WL_nil ?_; refine WC_seq ?_; refine WC_seq ?_; refine WC_region ?_; refine WL_val (rn_assign (v := (.int .i64 0)) rfl) rfl ?_; refine WL_nil ?_; have hO := hO.cons_nil 3 1; have hO := hO.cons_nil 25 1; obtain ⟨q15, hq15, H⟩ := bnd H; refine WC_cut (fun F w => ∃ (Fb : Fr) (G : Gm) (aq15_0 : Option Addr) (nq15_0 cq15_0 : Nat) (claq15_0 : List Value) (aq15_1 : Option Addr) (nq15_1 cq15_1 : Nat) (claq15_1 : List Value) (aq15_2 : Option Addr) (nq15_2 cq15_2 : Nat) (aq15_3 : Option Addr) (nq15_3 cq15_3 : Nat), F = upds Fb [(4, .pointer (some ⟨b5, 0, none⟩)), (5, .pointer (some ⟨b8, 0, none⟩))] ∧ Gle G4 G ∧ Since w0.heap.size G0 w0 G w ∧ Owns G w w0.heap.size [⟨25, 1, nq15_1, .slice aq15_1 nq15_1 cq15_1, claq15_1⟩, ⟨3, 1, nq15_0, .slice aq15_0 nq15_0 cq15_0, claq15_0⟩, ⟨28, 2, 1, .slice (some ⟨b8, 0, none⟩) 1 1, [.slice aq15_0 nq15_0 cq15_0, .slice aq15_1 nq15_1 cq15_1]⟩, ⟨28, 2, 1, .slice (some ⟨b5, 0, none⟩) 1 1, [.slice aq15_2 nq15_2 cq15_2, .slice aq15_3 nq15_3 cq15_3]⟩] ∧ nq15_0 = q15.1.Bases.length ∧ Rd RInt 1 G claq15_0 q15.1.Bases ∧ nq15_1 = q15.1.Shares.length ∧ Rd (RSlice RInt 1) 1 G claq15_1 q15.1.Shares ∧ RSl RInt 1 G aq15_2 nq15_2 cq15_2 q15.2.Bases ∧ RSl (RSlice RInt 1) 1 G aq15_3 nq15_3 cq15_3 q15.2.Shares) ?_ ?_
 ·refine WC_block (WC_loop hq15 (fun s13 F w => ∃ (Fb : Fr) (G : Gm) (as13_0 : Option Addr) (ns13_0 cs13_0 : Nat) (clas13_0 : List Value) (as13_1 : Option Addr) (ns13_1 cs13_1 : Nat) (clas13_1 : List Value) (as13_2 : Option Addr) (ns13_2 cs13_2 : Nat) (as13_3 : Option Addr) (ns13_3 cs13_3 : Nat), F = upds Fb [(1, .bool x1), (2, .pointer (some ⟨b2, 0, none⟩)), (4, .pointer (some ⟨b5, 0, none⟩)), (5, .pointer (some ⟨b8, 0, none⟩)), (6, .int .i64 s13.1)] ∧ Gle G4 G ∧ Since w0.heap.size G0 w0 G w ∧ Owns G w w0.heap.size [⟨25, 1, ns13_1, .slice as13_1 ns13_1 cs13_1, clas13_1⟩, ⟨3, 1, ns13_0, .slice as13_0 ns13_0 cs13_0, clas13_0⟩, ⟨28, 2, 1, .slice (some ⟨b8, 0, none⟩) 1 1, [.slice as13_0 ns13_0 cs13_0, .slice as13_1 ns13_1 cs13_1]⟩, ⟨28, 2, 1, .slice (some ⟨b5, 0, none⟩) 1 1, [.slice as13_2 ns13_2 cs13_2, .slice as13_3 ns13_3 cs13_3]⟩] ∧ ns13_0 = s13.2.1.Bases.length ∧ Rd RInt 1 G clas13_0 s13.2.1.Bases ∧ ns13_1 = s13.2.1.Shares.length ∧ Rd (RSlice RInt 1) 1 G clas13_1 s13.2.1.Shares ∧ RSl RInt 1 G as13_2 ns13_2 cs13_2 s13.2.2.Bases ∧ RSl (RSlice RInt 1) 1 G as13_3 ns13_3 cs13_3 s13.2.2.Shares) ?_ ?_)
  ·have hO : Owns G4 w9 w0.heap.size ([⟨25, 1, 0, .slice none 0 0, []⟩, ⟨3, 1, 0, .slice none 0 0, []⟩, ⟨28, 2, 1, .slice (some ⟨b8, 0, none⟩) 1 1, [.slice none 0 0, .slice none 0 0]⟩, ⟨28, 2, 1, .slice (some ⟨b5, 0, none⟩) 1 1, [.slice none 0 0, .slice none 0 0]⟩]) := hO
   exact ⟨_, G4, none, 0, 0, [], none, 0, 0, [], none, 0, 0, none, 0, 0, upds_self _ _ ⟨rfl, rfl, rfl, rfl, rfl, trivial⟩, Gle.refl _, hS, hO, rfl, (Rd.nil RInt 1 G4), rfl, (Rd.nil (RSlice RInt 1) 1 G4), (RSl.nil _ _ _ _), (RSl.nil _ _ _ _)⟩
  ·rintro s13 F w17 t16 ⟨Fb, G18, as13_0, ns13_0, cs13_0, clas13_0, as13_1, ns13_1, cs13_1, clas13_1, as13_2, ns13_2, cs13_2, as13_3, ns13_3, cs13_3, rfl, leG18, hS, hO, hnhs13_0, hs13_0, hnhs13_1, hs13_1, hs13_2, hs13_3⟩
   intro H1 hqq15
   have Hoq15 := H; have H := H1
   unfold f26_b0 at H
   refine WC_seq ?_; refine WC_seq ?_; refine WC_region ?_; refine WL_val (rn_move (v := (.int .i64 s13.1)) rfl) rfl ?_; refine WL_val (rn_fld fd24_0 rfl) rfl ?_; refine WL_val (rn_load na22 rfl ((hS.sat.le leG18).cell (hcb2 0 _ rfl))) rfl ?_
   have l0_2 := leG4.trans leG18
   refine WL_val (rn_len sl22 rfl rfl (h1.mono RTBaneFish_mono l0_2).1) rfl ?_; refine WL_val (rn_lss rfl rfl) rfl ?_; refine WL_nil ?_; refine WC_cond rfl (fun hb19 => ?_) (fun hb19 => ?_)
   ·have H := ifT hb19 H; refine WC_skip ?_; refine WC_seq ?_; obtain ⟨q20, hq20, H⟩ := bnd H; refine WC_cut (fun F w => ∃ (Fb : Fr) (G : Gm) (aq20_0 : Option Addr) (nq20_0 cq20_0 : Nat) (claq20_0 : List Value) (aq20_1 : Option Addr) (nq20_1 cq20_1 : Nat) (claq20_1 : List Value) (aq20_2 : Option Addr) (nq20_2 cq20_2 : Nat) (aq20_3 : Option Addr) (nq20_3 cq20_3 : Nat), F = upds Fb [(1, .bool x1), (2, .pointer (some ⟨b2, 0, none⟩)), (4, .pointer (some ⟨b5, 0, none⟩)), (5, .pointer (some ⟨b8, 0, none⟩)), (6, .int .i64 s13.1)] ∧ Gle G18 G ∧ Since w0.heap.size G0 w0 G w ∧ Owns G w w0.heap.size [⟨25, 1, nq20_1, .slice aq20_1 nq20_1 cq20_1, claq20_1⟩, ⟨3, 1, nq20_0, .slice aq20_0 nq20_0 cq20_0, claq20_0⟩, ⟨28, 2, 1, .slice (some ⟨b8, 0, none⟩) 1 1, [.slice aq20_0 nq20_0 cq20_0, .slice aq20_1 nq20_1 cq20_1]⟩, ⟨28, 2, 1, .slice (some ⟨b5, 0, none⟩) 1 1, [.slice aq20_2 nq20_2 cq20_2, .slice aq20_3 nq20_3 cq20_3]⟩] ∧ nq20_0 = q20.1.Bases.length ∧ Rd RInt 1 G claq20_0 q20.1.Bases ∧ nq20_1 = q20.1.Shares.length ∧ Rd (RSlice RInt 1) 1 G claq20_1 q20.1.Shares ∧ RSl RInt 1 G aq20_2 nq20_2 cq20_2 q20.2.Bases ∧ RSl (RSlice RInt 1) 1 G aq20_3 nq20_3 cq20_3 q20.2.Shares) ?_ ?_
    ·have Hoq20 := H; have H := hq20; refine WC_block ?_; refine WC_seq ?_; refine WC_region ?_; refine WL_val (rn_fld fd24_0 rfl) rfl ?_; refine WL_val (rn_load na22 rfl ((hS.sat.le leG18).cell (hcb2 0 _ rfl))) rfl ?_; refine WL_val (rn_move (v := (.int .i64 s13.1)) rfl) rfl ?_; obtain ⟨y21, hy21, H⟩ := bnd H; refine WL_idx sl22 (h1.mono RTBaneFish_mono l0_2) hy21 rfl rfl rfl ?_
     rintro b22 o22 _ hcb22 _ ⟨a23, n23, c23, ⟨⟩, h23⟩
     refine WL_val (rn_loadA ag72 (cs := [.int .i64 y21.Base.Low, .int .i64 y21.Base.High, .slice a23 n23 c23, .int .i64 y21.Pass, .int .i64 y21.Cost]) rfl rfl (fun j v hj => hS.sat.cell (hcb22.drop_take 0 5 j v hj))) rfl ?_
     refine WL_op rfl (OpP_newO (v := fun b => .pointer (some ⟨b, 0, none⟩)) (cs := [.int .i64 0, .int .i64 0, .slice none 0 0, .int .i64 0, .int .i64 0]) (e := 72) (by kernel_rfl) hS.sat hO rfl 5 1 rfl (by decide) (fun b24 w25 hb hO => ?_))
     have hS := hS.keep hb; refine WL_op rfl (OpP_store (vs := [.int .i64 y21.Base.Low, .int .i64 y21.Base.High, .slice a23 n23 c23, .int .i64 y21.Pass, .int .i64 y21.Cost]) sz72 hS hO (k := 0) rfl rfl rfl rfl rfl (one_all rfl) (Nat.le_of_ble_eq_true rfl) (fun w27 hS hO => ?_))
     have hO : Owns G18 w27 w0.heap.size ([⟨72, 5, 1, .slice (some ⟨b24, 0, none⟩) 1 1, [.int .i64 y21.Base.Low, .int .i64 y21.Base.High, .slice a23 n23 c23, .int .i64 y21.Pass, .int .i64 y21.Cost]⟩, ⟨25, 1, ns13_1, .slice as13_1 ns13_1 cs13_1, clas13_1⟩, ⟨3, 1, ns13_0, .slice as13_0 ns13_0 cs13_0, clas13_0⟩, ⟨28, 2, 1, .slice (some ⟨b8, 0, none⟩) 1 1, [.slice as13_0 ns13_0 cs13_0, .slice as13_1 ns13_1 cs13_1]⟩, ⟨28, 2, 1, .slice (some ⟨b5, 0, none⟩) 1 1, [.slice as13_2 ns13_2 cs13_2, .slice as13_3 ns13_3 cs13_3]⟩]) := hO
     obtain ⟨G28, leG28, hS, hO, hqG28, _⟩ := hO.freeze hS (k := 0) rfl
     have hcG28 : Cells G28 b24 0 [.int .i64 y21.Base.Low, .int .i64 y21.Base.High, .slice a23 n23 c23, .int .i64 y21.Pass, .int .i64 y21.Cost] := (hqG28 _ _ _ _ rfl)
     refine WL_nil ?_; refine WC_seq ?_; refine WC_region ?_; refine WL_val (rn_fld fd72_0 rfl) rfl ?_; refine WL_val (rn_fld fd43_0 rfl) rfl ?_; refine WL_val (rn_load na3 rfl (hS.sat.cell (hcG28 0 _ rfl))) rfl ?_; refine WL_val (rn_assign (v := (.int .i64 y21.Base.Low)) rfl) rfl ?_; refine WL_nil ?_; refine WC_seq ?_; obtain ⟨q29, hq29, H⟩ := bnd H; refine WC_cut (fun F w => ∃ (Fb : Fr), F = upds Fb [(1, .bool x1), (2, .pointer (some ⟨b2, 0, none⟩)), (4, .pointer (some ⟨b5, 0, none⟩)), (5, .pointer (some ⟨b8, 0, none⟩)), (6, .int .i64 s13.1), (7, .pointer (some ⟨b24, 0, none⟩)), (8, .int .i64 q29)] ∧ w27 = w) ?_ ?_
     ·have Hoq29 := H; have H := hq29; refine WC_seq ?_; refine WC_region ?_; refine WL_val (rn_move (v := (.bool x1)) rfl) rfl ?_; refine WL_nil ?_; refine WC_cond rfl (fun hb30 => ?_) (fun hb30 => ?_)
      ·have H := ifT hb30 H; refine WC_region ?_; refine WL_val (rn_fld fd72_0 rfl) rfl ?_; refine WL_val (rn_fld fd43_1 rfl) rfl ?_; refine WL_val (rn_load na3 rfl (hS.sat.cell (hcG28 1 _ rfl))) rfl ?_; refine WL_val (rn_assign (v := (.int .i64 y21.Base.High)) rfl) rfl ?_; refine WL_nil ?_; have H := Option.some.inj H; subst H
       exact ⟨_, upds_self _ _ ⟨rfl, rfl, rfl, rfl, rfl, rfl, rfl, trivial⟩, rfl⟩
      ·have H := ifF hb30 H; refine WC_skip ?_; have H := Option.some.inj H; subst H
       exact ⟨_, upds_self _ _ ⟨rfl, rfl, rfl, rfl, rfl, rfl, rfl, trivial⟩, rfl⟩
     ·rintro F wl ⟨Fb, rfl, rfl⟩
      refine WC_seq ?_; refine WC_region ?_; refine WL_val (rn_assign (v := (.slice none 0 0)) rfl) rfl ?_; refine WL_nil ?_; refine WC_seq ?_; refine WC_seq ?_; refine WC_region ?_; refine WL_val (rn_assign (v := (.int .i64 0)) rfl) rfl ?_; refine WL_nil ?_; have hO := hO.cons_nil 3 1; obtain ⟨q36, hq36, H⟩ := bnd H; refine WC_cut (fun F w => ∃ (Fb : Fr) (G : Gm) (aq36_0 : Option Addr) (nq36_0 cq36_0 : Nat) (claq36_0 : List Value) (aq36_1 : Option Addr) (nq36_1 cq36_1 : Nat) (claq36_1 : List Value) (aq36_2 : Option Addr) (nq36_2 cq36_2 : Nat) (claq36_2 : List Value) (aq36_3 : Option Addr) (nq36_3 cq36_3 : Nat) (aq36_4 : Option Addr) (nq36_4 cq36_4 : Nat), F = upds Fb [(1, .bool x1), (2, .pointer (some ⟨b2, 0, none⟩)), (4, .pointer (some ⟨b5, 0, none⟩)), (5, .pointer (some ⟨b8, 0, none⟩)), (6, .int .i64 s13.1), (8, .int .i64 q29), (9, .slice aq36_0 nq36_0 cq36_0)] ∧ Gle G28 G ∧ Since w0.heap.size G0 w0 G w ∧ Owns G w w0.heap.size [⟨3, 1, nq36_0, .slice aq36_0 nq36_0 cq36_0, claq36_0⟩, ⟨25, 1, nq36_2, .slice aq36_2 nq36_2 cq36_2, claq36_2⟩, ⟨3, 1, nq36_1, .slice aq36_1 nq36_1 cq36_1, claq36_1⟩, ⟨28, 2, 1, .slice (some ⟨b8, 0, none⟩) 1 1, [.slice aq36_1 nq36_1 cq36_1, .slice aq36_2 nq36_2 cq36_2]⟩, ⟨28, 2, 1, .slice (some ⟨b5, 0, none⟩) 1 1, [.slice aq36_3 nq36_3 cq36_3, .slice aq36_4 nq36_4 cq36_4]⟩] ∧ nq36_0 = q36.1.length ∧ Rd RInt 1 G claq36_0 q36.1 ∧ nq36_1 = q36.2.1.Bases.length ∧ Rd RInt 1 G claq36_1 q36.2.1.Bases ∧ nq36_2 = q36.2.1.Shares.length ∧ Rd (RSlice RInt 1) 1 G claq36_2 q36.2.1.Shares ∧ RSl RInt 1 G aq36_3 nq36_3 cq36_3 q36.2.2.Bases ∧ RSl (RSlice RInt 1) 1 G aq36_4 nq36_4 cq36_4 q36.2.2.Shares) ?_ ?_
      ·refine WC_block (WC_loop hq36 (fun s34 F w => ∃ (Fb : Fr) (G : Gm) (as34_0 : Option Addr) (ns34_0 cs34_0 : Nat) (clas34_0 : List Value) (as34_1 : Option Addr) (ns34_1 cs34_1 : Nat) (clas34_1 : List Value) (as34_2 : Option Addr) (ns34_2 cs34_2 : Nat) (clas34_2 : List Value) (as34_3 : Option Addr) (ns34_3 cs34_3 : Nat) (as34_4 : Option Addr) (ns34_4 cs34_4 : Nat), F = upds Fb [(1, .bool x1), (2, .pointer (some ⟨b2, 0, none⟩)), (4, .pointer (some ⟨b5, 0, none⟩)), (5, .pointer (some ⟨b8, 0, none⟩)), (6, .int .i64 s13.1), (7, .pointer (some ⟨b24, 0, none⟩)), (8, .int .i64 q29), (9, .slice as34_0 ns34_0 cs34_0), (10, .int .i64 s34.2.1)] ∧ Gle G28 G ∧ Since w0.heap.size G0 w0 G w ∧ Owns G w w0.heap.size [⟨3, 1, ns34_0, .slice as34_0 ns34_0 cs34_0, clas34_0⟩, ⟨25, 1, ns34_2, .slice as34_2 ns34_2 cs34_2, clas34_2⟩, ⟨3, 1, ns34_1, .slice as34_1 ns34_1 cs34_1, clas34_1⟩, ⟨28, 2, 1, .slice (some ⟨b8, 0, none⟩) 1 1, [.slice as34_1 ns34_1 cs34_1, .slice as34_2 ns34_2 cs34_2]⟩, ⟨28, 2, 1, .slice (some ⟨b5, 0, none⟩) 1 1, [.slice as34_3 ns34_3 cs34_3, .slice as34_4 ns34_4 cs34_4]⟩] ∧ ns34_0 = s34.1.length ∧ Rd RInt 1 G clas34_0 s34.1 ∧ ns34_1 = s34.2.2.1.Bases.length ∧ Rd RInt 1 G clas34_1 s34.2.2.1.Bases ∧ ns34_2 = s34.2.2.1.Shares.length ∧ Rd (RSlice RInt 1) 1 G clas34_2 s34.2.2.1.Shares ∧ RSl RInt 1 G as34_3 ns34_3 cs34_3 s34.2.2.2.Bases ∧ RSl (RSlice RInt 1) 1 G as34_4 ns34_4 cs34_4 s34.2.2.2.Shares) ?_ ?_)
       ·have hO : Owns G28 w27 w0.heap.size ([⟨3, 1, 0, .slice none 0 0, []⟩, ⟨25, 1, ns13_1, .slice as13_1 ns13_1 cs13_1, clas13_1⟩, ⟨3, 1, ns13_0, .slice as13_0 ns13_0 cs13_0, clas13_0⟩, ⟨28, 2, 1, .slice (some ⟨b8, 0, none⟩) 1 1, [.slice as13_0 ns13_0 cs13_0, .slice as13_1 ns13_1 cs13_1]⟩, ⟨28, 2, 1, .slice (some ⟨b5, 0, none⟩) 1 1, [.slice as13_2 ns13_2 cs13_2, .slice as13_3 ns13_3 cs13_3]⟩]) := hO
        exact ⟨_, G28, none, 0, 0, [], as13_0, ns13_0, cs13_0, clas13_0, as13_1, ns13_1, cs13_1, clas13_1, as13_2, ns13_2, cs13_2, as13_3, ns13_3, cs13_3, upds_self _ _ ⟨rfl, rfl, rfl, rfl, rfl, rfl, rfl, rfl, rfl, trivial⟩, Gle.refl _, hS, hO, rfl, (Rd.nil RInt 1 G28), hnhs13_0, (hs13_0.mono RInt_mono leG28), hnhs13_1, (hs13_1.mono (RSlice_mono RInt_mono) leG28), (hs13_2.mono RInt_mono leG28), (hs13_3.mono (RSlice_mono RInt_mono) leG28)⟩
       ·rintro s34 F w38 t37 ⟨Fb, G39, as34_0, ns34_0, cs34_0, clas34_0, as34_1, ns34_1, cs34_1, clas34_1, as34_2, ns34_2, cs34_2, clas34_2, as34_3, ns34_3, cs34_3, as34_4, ns34_4, cs34_4, rfl, leG39, hS, hO, hnhs34_0, hs34_0, hnhs34_1, hs34_1, hnhs34_2, hs34_2, hs34_3, hs34_4⟩
        intro H1 hqq36
        have Hoq36 := H; have H := H1
        unfold f26_b1 at H
        refine WC_seq ?_; refine WC_seq ?_; refine WC_region ?_; refine WL_val (rn_move (v := (.int .i64 s34.2.1)) rfl) rfl ?_; refine WL_val (rn_fld fd72_1 rfl) rfl ?_; refine WL_val (rn_load na70 rfl ((hS.sat.le leG39).cell (hcG28 2 _ rfl))) rfl ?_
        have l2_4 := leG28.trans leG39
        refine WL_val (rn_len sl70 rfl rfl (h23.mono RTBaneBite_mono l2_4).1) rfl ?_; refine WL_val (rn_lss rfl rfl) rfl ?_; refine WL_nil ?_; refine WC_cond rfl (fun hb40 => ?_) (fun hb40 => ?_)
        ·have H := ifT hb40 H; refine WC_skip ?_; refine WC_seq ?_; refine WC_block ?_; refine WC_seq ?_; refine WC_region ?_; refine WL_val (rn_fld fd72_1 rfl) rfl ?_; refine WL_val (rn_load na70 rfl ((hS.sat.le leG39).cell (hcG28 2 _ rfl))) rfl ?_; refine WL_val (rn_move (v := (.int .i64 s34.2.1)) rfl) rfl ?_; obtain ⟨y41, hy41, H⟩ := bnd H; refine WL_idx sl70 (h23.mono RTBaneBite_mono l2_4) hy41 rfl rfl rfl ?_
         rintro b42 o42 _ hcb42 _ ⟨⟩
         refine WL_val (rn_fld fd77_1 rfl) rfl ?_; refine WL_val (rn_fld fd43_0 rfl) rfl ?_; refine WL_val (rn_load na3 rfl (hS.sat.cell (hcb42 1 _ rfl))) rfl ?_; refine WL_val (rn_assign (v := (.int .i64 y41.Share.Low)) rfl) rfl ?_; refine WL_nil ?_; refine WC_seq ?_; obtain ⟨q43, hq43, H⟩ := bnd H; refine WC_cut (fun F w => ∃ (Fb : Fr), F = upds Fb [(1, .bool x1), (2, .pointer (some ⟨b2, 0, none⟩)), (4, .pointer (some ⟨b5, 0, none⟩)), (5, .pointer (some ⟨b8, 0, none⟩)), (6, .int .i64 s13.1), (7, .pointer (some ⟨b24, 0, none⟩)), (8, .int .i64 q29), (9, .slice as34_0 ns34_0 cs34_0), (10, .int .i64 s34.2.1), (11, .int .i64 q43)] ∧ w38 = w) ?_ ?_
         ·have Hoq43 := H; have H := hq43; refine WC_seq ?_; refine WC_region ?_; refine WL_val (rn_move (v := (.bool x1)) rfl) rfl ?_; refine WL_nil ?_; refine WC_cond rfl (fun hb44 => ?_) (fun hb44 => ?_)
          ·have H := ifT hb44 H; refine WC_region ?_; refine WL_val (rn_fld fd72_1 rfl) rfl ?_; refine WL_val (rn_load na70 rfl ((hS.sat.le leG39).cell (hcG28 2 _ rfl))) rfl ?_; refine WL_val (rn_move (v := (.int .i64 s34.2.1)) rfl) rfl ?_; refine WL_idx sl70 (h23.mono RTBaneBite_mono l2_4) hy41 rfl rfl rfl ?_
           rintro b45 o45 _ hcb45 _ ⟨⟩
           refine WL_val (rn_fld fd77_1 rfl) rfl ?_; refine WL_val (rn_fld fd43_1 rfl) rfl ?_; refine WL_val (rn_load na3 rfl (hS.sat.cell (hcb45 2 _ rfl))) rfl ?_; refine WL_val (rn_assign (v := (.int .i64 y41.Share.High)) rfl) rfl ?_; refine WL_nil ?_; have H := Option.some.inj H; subst H
           exact ⟨_, upds_self _ _ ⟨rfl, rfl, rfl, rfl, rfl, rfl, rfl, rfl, rfl, rfl, trivial⟩, rfl⟩
          ·have H := ifF hb44 H; refine WC_skip ?_; have H := Option.some.inj H; subst H
           exact ⟨_, upds_self _ _ ⟨rfl, rfl, rfl, rfl, rfl, rfl, rfl, rfl, rfl, rfl, trivial⟩, rfl⟩
         ·rintro F wl ⟨Fb, rfl, rfl⟩
          refine WC_region ?_; refine WL_val (rn_move (v := (.slice as34_0 ns34_0 cs34_0)) rfl) rfl ?_; refine WL_val (rn_move (v := (.int .i64 q43)) rfl) rfl ?_
          refine WL_op rfl (OpP_newF (v := fun b => .slice (some ⟨b, 0, none⟩) 1 1) (cs := [.int .i64 q43]) (e := 3) (by kernel_rfl) hS.sat rfl (fun b48 G50 w49 hg hcb48 => ?_))
          have hS := hS.grow hg; have hO := hO.grow hg
          have leG50 := hg.le
          have hfb48 : RSl RInt 1 G50 (some ⟨b48, 0, none⟩) 1 1 [q43] := RSl.of_rd hcb48 (Rd.cons (c := [.int .i64 q43]) rfl rfl (Rd.nil RInt 1 _)) rfl (by decide)
          obtain ⟨y51, hy51, H⟩ := bnd H; refine WL_op rfl (OpP_append (k := 0) sl25 RInt_one hS hO rfl hnhs34_0 (hs34_0.mono RInt_mono leG50) hfb48 hy51 rfl rfl rfl rfl rfl (fun aw52 cw52 w52 clw52 hS hO hrw52 => ?_))
          have hO : Owns G50 w52 w0.heap.size ([⟨3, 1, y51.length, .slice aw52 y51.length cw52, clw52⟩, ⟨25, 1, ns34_2, .slice as34_2 ns34_2 cs34_2, clas34_2⟩, ⟨3, 1, ns34_1, .slice as34_1 ns34_1 cs34_1, clas34_1⟩, ⟨28, 2, 1, .slice (some ⟨b8, 0, none⟩) 1 1, [.slice as34_1 ns34_1 cs34_1, .slice as34_2 ns34_2 cs34_2]⟩, ⟨28, 2, 1, .slice (some ⟨b5, 0, none⟩) 1 1, [.slice as34_3 ns34_3 cs34_3, .slice as34_4 ns34_4 cs34_4]⟩]) := hO
          refine WL_val (rn_assign (v := (.slice aw52 y51.length cw52)) rfl) rfl ?_; refine WL_nil ?_; refine WC_region ?_; refine WL_val (rn_move (v := (.int .i64 s34.2.1)) rfl) rfl ?_; refine WL_val (rn_add rfl rfl) rfl ?_; refine WL_val (rn_assign (v := (.int .i64 (IntKind.i64.wrap (s34.2.1 + 1)))) rfl) rfl ?_; refine WL_nil ?_
          have hO : Owns G50 w52 w0.heap.size ([⟨3, 1, y51.length, .slice aw52 y51.length cw52, clw52⟩, ⟨25, 1, ns34_2, .slice as34_2 ns34_2 cs34_2, clas34_2⟩, ⟨3, 1, ns34_1, .slice as34_1 ns34_1 cs34_1, clas34_1⟩, ⟨28, 2, 1, .slice (some ⟨b8, 0, none⟩) 1 1, [.slice as34_1 ns34_1 cs34_1, .slice as34_2 ns34_2 cs34_2]⟩, ⟨28, 2, 1, .slice (some ⟨b5, 0, none⟩) 1 1, [.slice as34_3 ns34_3 cs34_3, .slice as34_4 ns34_4 cs34_4]⟩]) := hO
          have H := Option.some.inj H; subst H; refine ⟨_, rfl, ?_⟩
          have l3_5 := leG39.trans leG50
          exact ⟨_, G50, aw52, y51.length, cw52, clw52, as34_1, ns34_1, cs34_1, clas34_1, as34_2, ns34_2, cs34_2, clas34_2, as34_3, ns34_3, cs34_3, as34_4, ns34_4, cs34_4, upds_self _ _ ⟨rfl, rfl, rfl, rfl, rfl, rfl, rfl, rfl, rfl, trivial⟩, l3_5, hS, hO, rfl, hrw52, hnhs34_1, (hs34_1.mono RInt_mono leG50), hnhs34_2, (hs34_2.mono (RSlice_mono RInt_mono) leG50), (hs34_3.mono RInt_mono leG50), (hs34_4.mono (RSlice_mono RInt_mono) leG50)⟩
        ·have H := ifF hb40 H; refine WC_exit rfl ?_
         have hO : Owns G39 w38 w0.heap.size ([⟨3, 1, ns34_0, .slice as34_0 ns34_0 cs34_0, clas34_0⟩, ⟨25, 1, ns34_2, .slice as34_2 ns34_2 cs34_2, clas34_2⟩, ⟨3, 1, ns34_1, .slice as34_1 ns34_1 cs34_1, clas34_1⟩, ⟨28, 2, 1, .slice (some ⟨b8, 0, none⟩) 1 1, [.slice as34_1 ns34_1 cs34_1, .slice as34_2 ns34_2 cs34_2]⟩, ⟨28, 2, 1, .slice (some ⟨b5, 0, none⟩) 1 1, [.slice as34_3 ns34_3 cs34_3, .slice as34_4 ns34_4 cs34_4]⟩]) := hO
         have H := Option.some.inj H; subst H
         have hres := hqq36 _ rfl
         subst hres
         exact ⟨_, G39, as34_0, ns34_0, cs34_0, clas34_0, as34_1, ns34_1, cs34_1, clas34_1, as34_2, ns34_2, cs34_2, clas34_2, as34_3, ns34_3, cs34_3, as34_4, ns34_4, cs34_4, upds_self _ _ ⟨rfl, rfl, rfl, rfl, rfl, rfl, rfl, trivial⟩, leG39, hS, hO, hnhs34_0, hs34_0, hnhs34_1, hs34_1, hnhs34_2, hs34_2, hs34_3, hs34_4⟩
      ·rintro F w53 ⟨Fb, G54, aq36_0, nq36_0, cq36_0, claq36_0, aq36_1, nq36_1, cq36_1, claq36_1, aq36_2, nq36_2, cq36_2, claq36_2, aq36_3, nq36_3, cq36_3, aq36_4, nq36_4, cq36_4, rfl, leG54, hS, hO, hnhq36_0, hq36_0, hnhq36_1, hq36_1, hnhq36_2, hq36_2, hq36_3, hq36_4⟩
       have hS := hS.keep (below_drew _); have hO := hO.below (below_drew _)
       refine WC_regionD mixedO (fun _ w => Sat G54 w ∧ Owns G54 w w0.heap.size [⟨28, 2, 1, .slice (some ⟨b8, 0, none⟩) 1 1, [.slice aq36_1 nq36_1 cq36_1, .slice aq36_2 nq36_2 cq36_2]⟩, ⟨28, 2, 1, .slice (some ⟨b5, 0, none⟩) 1 1, [.slice aq36_3 nq36_3 cq36_3, .slice aq36_4 nq36_4 cq36_4]⟩]) (.fl 0 (.fl 1 (.fl 2 (.fl 5 (.fl 6 (.fl 7 (.two 3 (.two 4 (.fl 10 (.on 8 (.on 9 (.on 11 (.on 12 (.on 13 .nil)))))) 8 (.on 4 (.fl 10 (.on 9 (.on 11 (.on 12 (.on 13 .nil))))))) 8 (.on 3 (.on 4 (.fl 10 (.on 9 (.on 11 (.on 12 (.on 13 .nil)))))))))))))) (by kernel_rfl) rfl (by kernel_rfl) (fun _ => ⟨hS.sat, (((hO.drop 2).drop 1).drop 0)⟩) ?_
       refine WD_val rfl (fun w hw => rn_fld fd28_0 rfl) rfl ?_; refine WD_val rfl (fun w hw => rn_load na25 rfl (own_cell hw.2 (k := 0) rfl (j := 0) rfl)) rfl ?_; refine WD_val rfl (fun w hw => rn_move (v := (.int .i64 q29)) rfl) rfl ?_; refine WD_val rfl (fun w hw => rn_fld fd28_1 rfl) rfl ?_; refine WD_val rfl (fun w hw => rn_load na26 rfl (own_cell hw.2 (k := 0) rfl (j := 1) rfl)) rfl ?_; refine WD_val rfl (fun w hw => rn_move (v := (.slice aq36_0 nq36_0 cq36_0)) rfl) rfl ?_; refine WD_two ?_ ?_
       ·refine WD_op rfl rfl (OpP_newF (v := fun b => .slice (some ⟨b, 0, none⟩) 1 1) (cs := [.int .i64 q29]) (e := 3) (by kernel_rfl) hS.sat rfl (fun b55 G57 w56 hg hcb55 => ?_))
        have hS := hS.grow hg; have hO := hO.grow hg
        have leG57 := hg.le
        have hfb55 : RSl RInt 1 G57 (some ⟨b55, 0, none⟩) 1 1 [q29] := RSl.of_rd hcb55 (Rd.cons (c := [.int .i64 q29]) rfl rfl (Rd.nil RInt 1 _)) rfl (by decide)
        refine ⟨fun _ _ => ⟨hS.sat.le leG57, (((hO.drop 2).drop 1).drop 0).le leG57⟩, ?_⟩; refine WD_two ?_ ?_
        ·obtain ⟨y58, hy58, H⟩ := bnd H; refine WD_op rfl rfl (OpP_append (k := 2) sl25 RInt_one hS hO rfl hnhq36_1 (hq36_1.mono RInt_mono leG57) hfb55 hy58 rfl rfl rfl rfl rfl (fun aw59 cw59 w59 clw59 hS hO hrw59 => ?_))
         have hO : Owns G57 w59 w0.heap.size ([⟨3, 1, nq36_0, .slice aq36_0 nq36_0 cq36_0, claq36_0⟩, ⟨25, 1, nq36_2, .slice aq36_2 nq36_2 cq36_2, claq36_2⟩, ⟨3, 1, y58.length, .slice aw59 y58.length cw59, clw59⟩, ⟨28, 2, 1, .slice (some ⟨b8, 0, none⟩) 1 1, [.slice aq36_1 nq36_1 cq36_1, .slice aq36_2 nq36_2 cq36_2]⟩, ⟨28, 2, 1, .slice (some ⟨b5, 0, none⟩) 1 1, [.slice aq36_3 nq36_3 cq36_3, .slice aq36_4 nq36_4 cq36_4]⟩]) := hO
         refine ⟨fun _ _ => ⟨hS.sat.le leG57, (((hO.drop 2).drop 1).drop 0).le leG57⟩, ?_⟩; refine WD_val rfl (fun w hw => rn_fld fd28_0 rfl) rfl ?_; obtain ⟨G60, leG60, hS, hO, hfG60⟩ := hO.freezeS hS RInt_mono (k := 0) rfl (hq36_0.mono RInt_mono leG57) hnhq36_0
         refine WD_op rfl rfl (OpP_newF (v := fun b => .slice (some ⟨b, 0, none⟩) 1 1) (cs := [.slice aq36_0 nq36_0 cq36_0]) (e := 25) (by kernel_rfl) hS.sat rfl (fun b61 G63 w62 hg hcb61 => ?_))
         have hS := hS.grow hg; have hO := hO.grow hg
         have leG63 := hg.le
         have hfb61 : RSl (RSlice RInt 1) 1 G63 (some ⟨b61, 0, none⟩) 1 1 [q36.1] := RSl.of_rd hcb61 (Rd.cons (c := [.slice aq36_0 nq36_0 cq36_0]) rfl ⟨_, _, _, rfl, (hfG60.mono RInt_mono leG63)⟩ (Rd.nil (RSlice RInt 1) 1 _)) rfl (by decide)
         have l4_7 := (leG57.trans leG60).trans leG63
         refine ⟨fun _ _ => ⟨hS.sat.le l4_7, ((hO.drop 1).drop 0).le l4_7⟩, ?_⟩; obtain ⟨y64, hy64, H⟩ := bnd H; refine WD_op rfl rfl (OpP_append (k := 0) sl26 (RSlice_one RInt 1) hS hO rfl hnhq36_2 (hq36_2.mono (RSlice_mono RInt_mono) l4_7) hfb61 hy64 rfl rfl rfl rfl rfl (fun aw65 cw65 w65 clw65 hS hO hrw65 => ?_))
         have hO : Owns G63 w65 w0.heap.size ([⟨25, 1, y64.length, .slice aw65 y64.length cw65, clw65⟩, ⟨3, 1, y58.length, .slice aw59 y58.length cw59, clw59⟩, ⟨28, 2, 1, .slice (some ⟨b8, 0, none⟩) 1 1, [.slice aq36_1 nq36_1 cq36_1, .slice aq36_2 nq36_2 cq36_2]⟩, ⟨28, 2, 1, .slice (some ⟨b5, 0, none⟩) 1 1, [.slice aq36_3 nq36_3 cq36_3, .slice aq36_4 nq36_4 cq36_4]⟩]) := hO
         refine ⟨fun _ _ => ⟨hS.sat.le l4_7, ((hO.drop 1).drop 0).le l4_7⟩, ?_⟩; refine WD_op rfl rfl (OpP_store (vs := [.slice aw59 y58.length cw59]) sz25 hS hO (k := 2) rfl rfl rfl rfl rfl (one_all rfl) (Nat.le_of_ble_eq_true rfl) (fun w66 hS hO => ?_))
         have hO : Owns G63 w66 w0.heap.size ([⟨25, 1, y64.length, .slice aw65 y64.length cw65, clw65⟩, ⟨3, 1, y58.length, .slice aw59 y58.length cw59, clw59⟩, ⟨28, 2, 1, .slice (some ⟨b8, 0, none⟩) 1 1, [.slice aw59 y58.length cw59, .slice aq36_2 nq36_2 cq36_2]⟩, ⟨28, 2, 1, .slice (some ⟨b5, 0, none⟩) 1 1, [.slice aq36_3 nq36_3 cq36_3, .slice aq36_4 nq36_4 cq36_4]⟩]) := hO
         refine ⟨fun _ h => noneed (by kernel_rfl) h, ?_⟩
         refine WD_op rfl rfl (OpP_val (rn_fld fd28_1 rfl) rfl ?_)
         refine ⟨fun _ h => noneed (by kernel_rfl) h, ?_⟩
         refine WD_op rfl rfl (OpP_store (vs := [.slice aw65 y64.length cw65]) sz26 hS hO (k := 2) rfl rfl rfl rfl rfl (one_all rfl) (Nat.le_of_ble_eq_true rfl) (fun w67 hS hO => ?_))
         have hO : Owns G63 w67 w0.heap.size ([⟨25, 1, y64.length, .slice aw65 y64.length cw65, clw65⟩, ⟨3, 1, y58.length, .slice aw59 y58.length cw59, clw59⟩, ⟨28, 2, 1, .slice (some ⟨b8, 0, none⟩) 1 1, [.slice aw59 y58.length cw59, .slice aw65 y64.length cw65]⟩, ⟨28, 2, 1, .slice (some ⟨b5, 0, none⟩) 1 1, [.slice aq36_3 nq36_3 cq36_3, .slice aq36_4 nq36_4 cq36_4]⟩]) := hO
         refine ⟨fun _ h => noneed (by kernel_rfl) h, ?_⟩
         refine WD_nil ?_
         have hO : Owns G63 w67 w0.heap.size ([⟨25, 1, y64.length, .slice aw65 y64.length cw65, clw65⟩, ⟨3, 1, y58.length, .slice aw59 y58.length cw59, clw59⟩, ⟨28, 2, 1, .slice (some ⟨b8, 0, none⟩) 1 1, [.slice aw59 y58.length cw59, .slice aw65 y64.length cw65]⟩, ⟨28, 2, 1, .slice (some ⟨b5, 0, none⟩) 1 1, [.slice aq36_3 nq36_3 cq36_3, .slice aq36_4 nq36_4 cq36_4]⟩]) := hO
         have H := Option.some.inj H; subst H
         have l2_7 := (leG28.trans leG54).trans l4_7
         have l5_7 := leG60.trans leG63
         exact ⟨_, G63, aw59, y58.length, cw59, clw59, aw65, y64.length, cw65, clw65, aq36_3, nq36_3, cq36_3, aq36_4, nq36_4, cq36_4, upds_self _ _ ⟨rfl, rfl, rfl, rfl, rfl, trivial⟩, l2_7, hS, hO, rfl, (hrw59.mono RInt_mono l5_7), rfl, hrw65, (hq36_3.mono RInt_mono l4_7), (hq36_4.mono (RSlice_mono RInt_mono) l4_7)⟩
        ·obtain ⟨G58, leG58, hS, hO, hfG58⟩ := hO.freezeS hS RInt_mono (k := 0) rfl (hq36_0.mono RInt_mono leG57) hnhq36_0
         refine WD_op rfl rfl (OpP_newF (v := fun b => .slice (some ⟨b, 0, none⟩) 1 1) (cs := [.slice aq36_0 nq36_0 cq36_0]) (e := 25) (by kernel_rfl) hS.sat rfl (fun b59 G61 w60 hg hcb59 => ?_))
         have hS := hS.grow hg; have hO := hO.grow hg
         have leG61 := hg.le
         have hfb59 : RSl (RSlice RInt 1) 1 G61 (some ⟨b59, 0, none⟩) 1 1 [q36.1] := RSl.of_rd hcb59 (Rd.cons (c := [.slice aq36_0 nq36_0 cq36_0]) rfl ⟨_, _, _, rfl, (hfG58.mono RInt_mono leG61)⟩ (Rd.nil (RSlice RInt 1) 1 _)) rfl (by decide)
         have l4_7 := (leG57.trans leG58).trans leG61
         refine ⟨fun _ _ => ⟨hS.sat.le l4_7, ((hO.drop 1).drop 0).le l4_7⟩, ?_⟩; obtain ⟨y62, hy62, H⟩ := bnd H
         have l5_7 := leG58.trans leG61
         refine WD_op rfl rfl (OpP_append (k := 1) sl25 RInt_one hS hO rfl hnhq36_1 (hq36_1.mono RInt_mono l4_7) (hfb55.mono RInt_mono l5_7) hy62 rfl rfl rfl rfl rfl (fun aw63 cw63 w63 clw63 hS hO hrw63 => ?_))
         have hO : Owns G61 w63 w0.heap.size ([⟨25, 1, nq36_2, .slice aq36_2 nq36_2 cq36_2, claq36_2⟩, ⟨3, 1, y62.length, .slice aw63 y62.length cw63, clw63⟩, ⟨28, 2, 1, .slice (some ⟨b8, 0, none⟩) 1 1, [.slice aq36_1 nq36_1 cq36_1, .slice aq36_2 nq36_2 cq36_2]⟩, ⟨28, 2, 1, .slice (some ⟨b5, 0, none⟩) 1 1, [.slice aq36_3 nq36_3 cq36_3, .slice aq36_4 nq36_4 cq36_4]⟩]) := hO
         refine ⟨fun _ _ => ⟨hS.sat.le l4_7, ((hO.drop 1).drop 0).le l4_7⟩, ?_⟩; refine WD_val rfl (fun w hw => rn_fld fd28_0 rfl) rfl ?_; obtain ⟨y64, hy64, H⟩ := bnd H; refine WD_op rfl rfl (OpP_append (k := 0) sl26 (RSlice_one RInt 1) hS hO rfl hnhq36_2 (hq36_2.mono (RSlice_mono RInt_mono) l4_7) hfb59 hy64 rfl rfl rfl rfl rfl (fun aw65 cw65 w65 clw65 hS hO hrw65 => ?_))
         have hO : Owns G61 w65 w0.heap.size ([⟨25, 1, y64.length, .slice aw65 y64.length cw65, clw65⟩, ⟨3, 1, y62.length, .slice aw63 y62.length cw63, clw63⟩, ⟨28, 2, 1, .slice (some ⟨b8, 0, none⟩) 1 1, [.slice aq36_1 nq36_1 cq36_1, .slice aq36_2 nq36_2 cq36_2]⟩, ⟨28, 2, 1, .slice (some ⟨b5, 0, none⟩) 1 1, [.slice aq36_3 nq36_3 cq36_3, .slice aq36_4 nq36_4 cq36_4]⟩]) := hO
         refine ⟨fun _ _ => ⟨hS.sat.le l4_7, ((hO.drop 1).drop 0).le l4_7⟩, ?_⟩; refine WD_op rfl rfl (OpP_store (vs := [.slice aw63 y62.length cw63]) sz25 hS hO (k := 2) rfl rfl rfl rfl rfl (one_all rfl) (Nat.le_of_ble_eq_true rfl) (fun w66 hS hO => ?_))
         have hO : Owns G61 w66 w0.heap.size ([⟨25, 1, y64.length, .slice aw65 y64.length cw65, clw65⟩, ⟨3, 1, y62.length, .slice aw63 y62.length cw63, clw63⟩, ⟨28, 2, 1, .slice (some ⟨b8, 0, none⟩) 1 1, [.slice aw63 y62.length cw63, .slice aq36_2 nq36_2 cq36_2]⟩, ⟨28, 2, 1, .slice (some ⟨b5, 0, none⟩) 1 1, [.slice aq36_3 nq36_3 cq36_3, .slice aq36_4 nq36_4 cq36_4]⟩]) := hO
         refine ⟨fun _ h => noneed (by kernel_rfl) h, ?_⟩
         refine WD_op rfl rfl (OpP_val (rn_fld fd28_1 rfl) rfl ?_)
         refine ⟨fun _ h => noneed (by kernel_rfl) h, ?_⟩
         refine WD_op rfl rfl (OpP_store (vs := [.slice aw65 y64.length cw65]) sz26 hS hO (k := 2) rfl rfl rfl rfl rfl (one_all rfl) (Nat.le_of_ble_eq_true rfl) (fun w67 hS hO => ?_))
         have hO : Owns G61 w67 w0.heap.size ([⟨25, 1, y64.length, .slice aw65 y64.length cw65, clw65⟩, ⟨3, 1, y62.length, .slice aw63 y62.length cw63, clw63⟩, ⟨28, 2, 1, .slice (some ⟨b8, 0, none⟩) 1 1, [.slice aw63 y62.length cw63, .slice aw65 y64.length cw65]⟩, ⟨28, 2, 1, .slice (some ⟨b5, 0, none⟩) 1 1, [.slice aq36_3 nq36_3 cq36_3, .slice aq36_4 nq36_4 cq36_4]⟩]) := hO
         refine ⟨fun _ h => noneed (by kernel_rfl) h, ?_⟩
         refine WD_nil ?_
         have hO : Owns G61 w67 w0.heap.size ([⟨25, 1, y64.length, .slice aw65 y64.length cw65, clw65⟩, ⟨3, 1, y62.length, .slice aw63 y62.length cw63, clw63⟩, ⟨28, 2, 1, .slice (some ⟨b8, 0, none⟩) 1 1, [.slice aw63 y62.length cw63, .slice aw65 y64.length cw65]⟩, ⟨28, 2, 1, .slice (some ⟨b5, 0, none⟩) 1 1, [.slice aq36_3 nq36_3 cq36_3, .slice aq36_4 nq36_4 cq36_4]⟩]) := hO
         have H := Option.some.inj H; subst H
         have l2_7 := (leG28.trans leG54).trans l4_7
         exact ⟨_, G61, aw63, y62.length, cw63, clw63, aw65, y64.length, cw65, clw65, aq36_3, nq36_3, cq36_3, aq36_4, nq36_4, cq36_4, upds_self _ _ ⟨rfl, rfl, rfl, rfl, rfl, trivial⟩, l2_7, hS, hO, rfl, hrw63, rfl, hrw65, (hq36_3.mono RInt_mono l4_7), (hq36_4.mono (RSlice_mono RInt_mono) l4_7)⟩
       ·obtain ⟨G55, leG55, hS, hO, hfG55⟩ := hO.freezeS hS RInt_mono (k := 0) rfl hq36_0 hnhq36_0
        refine WD_op rfl rfl (OpP_newF (v := fun b => .slice (some ⟨b, 0, none⟩) 1 1) (cs := [.slice aq36_0 nq36_0 cq36_0]) (e := 25) (by kernel_rfl) hS.sat rfl (fun b56 G58 w57 hg hcb56 => ?_))
        have hS := hS.grow hg; have hO := hO.grow hg
        have leG58 := hg.le
        have hfb56 : RSl (RSlice RInt 1) 1 G58 (some ⟨b56, 0, none⟩) 1 1 [q36.1] := RSl.of_rd hcb56 (Rd.cons (c := [.slice aq36_0 nq36_0 cq36_0]) rfl ⟨_, _, _, rfl, (hfG55.mono RInt_mono leG58)⟩ (Rd.nil (RSlice RInt 1) 1 _)) rfl (by decide)
        have l4_6 := leG55.trans leG58
        refine ⟨fun _ _ => ⟨hS.sat.le l4_6, ((hO.drop 1).drop 0).le l4_6⟩, ?_⟩
        refine WD_op rfl rfl (OpP_newF (v := fun b => .slice (some ⟨b, 0, none⟩) 1 1) (cs := [.int .i64 q29]) (e := 3) (by kernel_rfl) hS.sat rfl (fun b59 G61 w60 hg hcb59 => ?_))
        have hS := hS.grow hg; have hO := hO.grow hg
        have leG61 := hg.le
        have hfb59 : RSl RInt 1 G61 (some ⟨b59, 0, none⟩) 1 1 [q29] := RSl.of_rd hcb59 (Rd.cons (c := [.int .i64 q29]) rfl rfl (Rd.nil RInt 1 _)) rfl (by decide)
        have l4_7 := l4_6.trans leG61
        refine ⟨fun _ _ => ⟨hS.sat.le l4_7, ((hO.drop 1).drop 0).le l4_7⟩, ?_⟩; obtain ⟨y62, hy62, H⟩ := bnd H; refine WD_op rfl rfl (OpP_append (k := 1) sl25 RInt_one hS hO rfl hnhq36_1 (hq36_1.mono RInt_mono l4_7) hfb59 hy62 rfl rfl rfl rfl rfl (fun aw63 cw63 w63 clw63 hS hO hrw63 => ?_))
        have hO : Owns G61 w63 w0.heap.size ([⟨25, 1, nq36_2, .slice aq36_2 nq36_2 cq36_2, claq36_2⟩, ⟨3, 1, y62.length, .slice aw63 y62.length cw63, clw63⟩, ⟨28, 2, 1, .slice (some ⟨b8, 0, none⟩) 1 1, [.slice aq36_1 nq36_1 cq36_1, .slice aq36_2 nq36_2 cq36_2]⟩, ⟨28, 2, 1, .slice (some ⟨b5, 0, none⟩) 1 1, [.slice aq36_3 nq36_3 cq36_3, .slice aq36_4 nq36_4 cq36_4]⟩]) := hO
        refine ⟨fun _ _ => ⟨hS.sat.le l4_7, ((hO.drop 1).drop 0).le l4_7⟩, ?_⟩; refine WD_val rfl (fun w hw => rn_fld fd28_0 rfl) rfl ?_; obtain ⟨y64, hy64, H⟩ := bnd H; refine WD_op rfl rfl (OpP_append (k := 0) sl26 (RSlice_one RInt 1) hS hO rfl hnhq36_2 (hq36_2.mono (RSlice_mono RInt_mono) l4_7) (hfb56.mono (RSlice_mono RInt_mono) leG61) hy64 rfl rfl rfl rfl rfl (fun aw65 cw65 w65 clw65 hS hO hrw65 => ?_))
        have hO : Owns G61 w65 w0.heap.size ([⟨25, 1, y64.length, .slice aw65 y64.length cw65, clw65⟩, ⟨3, 1, y62.length, .slice aw63 y62.length cw63, clw63⟩, ⟨28, 2, 1, .slice (some ⟨b8, 0, none⟩) 1 1, [.slice aq36_1 nq36_1 cq36_1, .slice aq36_2 nq36_2 cq36_2]⟩, ⟨28, 2, 1, .slice (some ⟨b5, 0, none⟩) 1 1, [.slice aq36_3 nq36_3 cq36_3, .slice aq36_4 nq36_4 cq36_4]⟩]) := hO
        refine ⟨fun _ _ => ⟨hS.sat.le l4_7, ((hO.drop 1).drop 0).le l4_7⟩, ?_⟩; refine WD_op rfl rfl (OpP_store (vs := [.slice aw63 y62.length cw63]) sz25 hS hO (k := 2) rfl rfl rfl rfl rfl (one_all rfl) (Nat.le_of_ble_eq_true rfl) (fun w66 hS hO => ?_))
        have hO : Owns G61 w66 w0.heap.size ([⟨25, 1, y64.length, .slice aw65 y64.length cw65, clw65⟩, ⟨3, 1, y62.length, .slice aw63 y62.length cw63, clw63⟩, ⟨28, 2, 1, .slice (some ⟨b8, 0, none⟩) 1 1, [.slice aw63 y62.length cw63, .slice aq36_2 nq36_2 cq36_2]⟩, ⟨28, 2, 1, .slice (some ⟨b5, 0, none⟩) 1 1, [.slice aq36_3 nq36_3 cq36_3, .slice aq36_4 nq36_4 cq36_4]⟩]) := hO
        refine ⟨fun _ h => noneed (by kernel_rfl) h, ?_⟩
        refine WD_op rfl rfl (OpP_val (rn_fld fd28_1 rfl) rfl ?_)
        refine ⟨fun _ h => noneed (by kernel_rfl) h, ?_⟩
        refine WD_op rfl rfl (OpP_store (vs := [.slice aw65 y64.length cw65]) sz26 hS hO (k := 2) rfl rfl rfl rfl rfl (one_all rfl) (Nat.le_of_ble_eq_true rfl) (fun w67 hS hO => ?_))
        have hO : Owns G61 w67 w0.heap.size ([⟨25, 1, y64.length, .slice aw65 y64.length cw65, clw65⟩, ⟨3, 1, y62.length, .slice aw63 y62.length cw63, clw63⟩, ⟨28, 2, 1, .slice (some ⟨b8, 0, none⟩) 1 1, [.slice aw63 y62.length cw63, .slice aw65 y64.length cw65]⟩, ⟨28, 2, 1, .slice (some ⟨b5, 0, none⟩) 1 1, [.slice aq36_3 nq36_3 cq36_3, .slice aq36_4 nq36_4 cq36_4]⟩]) := hO
        refine ⟨fun _ h => noneed (by kernel_rfl) h, ?_⟩
        refine WD_nil ?_
        have hO : Owns G61 w67 w0.heap.size ([⟨25, 1, y64.length, .slice aw65 y64.length cw65, clw65⟩, ⟨3, 1, y62.length, .slice aw63 y62.length cw63, clw63⟩, ⟨28, 2, 1, .slice (some ⟨b8, 0, none⟩) 1 1, [.slice aw63 y62.length cw63, .slice aw65 y64.length cw65]⟩, ⟨28, 2, 1, .slice (some ⟨b5, 0, none⟩) 1 1, [.slice aq36_3 nq36_3 cq36_3, .slice aq36_4 nq36_4 cq36_4]⟩]) := hO
        have H := Option.some.inj H; subst H
        have l2_7 := (leG28.trans leG54).trans l4_7
        exact ⟨_, G61, aw63, y62.length, cw63, clw63, aw65, y64.length, cw65, clw65, aq36_3, nq36_3, cq36_3, aq36_4, nq36_4, cq36_4, upds_self _ _ ⟨rfl, rfl, rfl, rfl, rfl, trivial⟩, l2_7, hS, hO, rfl, hrw63, rfl, hrw65, (hq36_3.mono RInt_mono l4_7), (hq36_4.mono (RSlice_mono RInt_mono) l4_7)⟩
    ·rintro F w68 ⟨Fb, G69, aq20_0, nq20_0, cq20_0, claq20_0, aq20_1, nq20_1, cq20_1, claq20_1, aq20_2, nq20_2, cq20_2, aq20_3, nq20_3, cq20_3, rfl, leG69, hS, hO, hnhq20_0, hq20_0, hnhq20_1, hq20_1, hq20_2, hq20_3⟩
     refine WC_region ?_; refine WL_val (rn_move (v := (.int .i64 s13.1)) rfl) rfl ?_; refine WL_val (rn_add rfl rfl) rfl ?_; refine WL_val (rn_assign (v := (.int .i64 (IntKind.i64.wrap (s13.1 + 1)))) rfl) rfl ?_; refine WL_nil ?_
     have hO : Owns G69 w68 w0.heap.size ([⟨25, 1, nq20_1, .slice aq20_1 nq20_1 cq20_1, claq20_1⟩, ⟨3, 1, nq20_0, .slice aq20_0 nq20_0 cq20_0, claq20_0⟩, ⟨28, 2, 1, .slice (some ⟨b8, 0, none⟩) 1 1, [.slice aq20_0 nq20_0 cq20_0, .slice aq20_1 nq20_1 cq20_1]⟩, ⟨28, 2, 1, .slice (some ⟨b5, 0, none⟩) 1 1, [.slice aq20_2 nq20_2 cq20_2, .slice aq20_3 nq20_3 cq20_3]⟩]) := hO
     have H := Option.some.inj H; subst H; refine ⟨_, rfl, ?_⟩
     have l1_3 := leG18.trans leG69
     exact ⟨_, G69, aq20_0, nq20_0, cq20_0, claq20_0, aq20_1, nq20_1, cq20_1, claq20_1, aq20_2, nq20_2, cq20_2, aq20_3, nq20_3, cq20_3, upds_self _ _ ⟨rfl, rfl, rfl, rfl, rfl, trivial⟩, l1_3, hS, hO, hnhq20_0, hq20_0, hnhq20_1, hq20_1, hq20_2, hq20_3⟩
   ·have H := ifF hb19 H; refine WC_exit rfl ?_
    have hO : Owns G18 w17 w0.heap.size ([⟨25, 1, ns13_1, .slice as13_1 ns13_1 cs13_1, clas13_1⟩, ⟨3, 1, ns13_0, .slice as13_0 ns13_0 cs13_0, clas13_0⟩, ⟨28, 2, 1, .slice (some ⟨b8, 0, none⟩) 1 1, [.slice as13_0 ns13_0 cs13_0, .slice as13_1 ns13_1 cs13_1]⟩, ⟨28, 2, 1, .slice (some ⟨b5, 0, none⟩) 1 1, [.slice as13_2 ns13_2 cs13_2, .slice as13_3 ns13_3 cs13_3]⟩]) := hO
    have H := Option.some.inj H; subst H
    have hres := hqq15 _ rfl
    subst hres
    exact ⟨_, G18, as13_0, ns13_0, cs13_0, clas13_0, as13_1, ns13_1, cs13_1, clas13_1, as13_2, ns13_2, cs13_2, as13_3, ns13_3, cs13_3, upds_self _ _ ⟨rfl, rfl, trivial⟩, leG18, hS, hO, hnhs13_0, hs13_0, hnhs13_1, hs13_1, hs13_2, hs13_3⟩
 ·rintro F w70 ⟨Fb, G71, aq15_0, nq15_0, cq15_0, claq15_0, aq15_1, nq15_1, cq15_1, claq15_1, aq15_2, nq15_2, cq15_2, aq15_3, nq15_3, cq15_3, rfl, leG71, hS, hO, hnhq15_0, hq15_0, hnhq15_1, hq15_1, hq15_2, hq15_3⟩
  refine WC_seq ?_; refine WC_region ?_; refine WL_val (rn_loadA ag28 (cs := [.slice aq15_0 nq15_0 cq15_0, .slice aq15_1 nq15_1 cq15_1]) rfl rfl (fun j v hj => own_sub hO (k := 2) rfl 0 2 j v hj)) rfl ?_; refine WL_op rfl (OpP_store (vs := [.slice aq15_0 nq15_0 cq15_0, .slice aq15_1 nq15_1 cq15_1]) sz28 hS hO (k := 3) rfl rfl rfl rfl rfl (one_all rfl) (Nat.le_of_ble_eq_true rfl) (fun w72 hS hO => ?_))
  have hO : Owns G71 w72 w0.heap.size ([⟨25, 1, nq15_1, .slice aq15_1 nq15_1 cq15_1, claq15_1⟩, ⟨3, 1, nq15_0, .slice aq15_0 nq15_0 cq15_0, claq15_0⟩, ⟨28, 2, 1, .slice (some ⟨b8, 0, none⟩) 1 1, [.slice aq15_0 nq15_0 cq15_0, .slice aq15_1 nq15_1 cq15_1]⟩, ⟨28, 2, 1, .slice (some ⟨b5, 0, none⟩) 1 1, [.slice aq15_0 nq15_0 cq15_0, .slice aq15_1 nq15_1 cq15_1]⟩]) := hO
  refine WL_nil ?_; refine WC_ret ?_; obtain ⟨G73, leG73, hS, hO, hfG73⟩ := hO.freezeS hS RInt_mono (k := 1) rfl hq15_0 hnhq15_0; obtain ⟨G74, leG74, hS, hO, hfG74⟩ := hO.freezeS hS (RSlice_mono RInt_mono) (k := 0) rfl (hq15_1.mono (RSlice_mono RInt_mono) leG73) hnhq15_1
  have H : some (⟨q15.1.Bases, q15.1.Shares⟩ : TBaneTruth) = some r := H
  have H := Option.some.inj H; subst H
  exact ⟨[.agg #[.slice aq15_0 nq15_0 cq15_0, .slice aq15_1 nq15_1 cq15_1]], ⟨⟨_, rfl, ld_agg (cs := [.slice aq15_0 nq15_0 cq15_0, .slice aq15_1 nq15_1 cq15_1]) ag28 rfl (fun j v hj => own_sub hO (k := 1) rfl 0 2 j v hj)⟩, trivial⟩, ⟨_, _, rfl, hS.toGrow, _, _, _, _, _, _, rfl, (hfG73.mono RInt_mono leG74), hfG74⟩⟩
set_option maxHeartbeats 1000000 in
theorem f48_ok {G0 : Gm} {w0 : World} (hS0 : Sat G0 w0) {x0 : TBaneWeb} {a1 : Option Addr} {n1 c1 : Nat} {x1 : Int} (h1 : RSl RTBaneFish 5 G0 a1 n1 c1 x0.Fish) {r : Bool} (H : f48 x0 x1 = some r) :
  Calls Try.prog 48 #[.agg #[.slice a1 n1 c1, .int .i64 x0.Limit], .int .i64 x1] w0 (RetV w0 (.bool r)) := by
 have hS := Since.start hS0
 have hO : Owns G0 w0 w0.heap.size [] := Owns.nil (Nat.le_refl _)
 unfold f48 at H
 refine enter1 (N := 11) (shutV _ _) Try.func48 rfl rfl rfl rfl ?_; refine WC_seq ?_; refine WC_region ?_; refine WL_op rfl (OpP_newF (v := fun b => .pointer (some ⟨b, 0, none⟩)) (cs := [.slice a1 n1 c1, .int .i64 x0.Limit]) (e := 24) (rn_boxA rfl) hS.sat rfl (fun b2 G4 w3 hg hcb2 => ?_)); have hS := hS.grow hg; have hO := hO.grow hg
 have leG4 := hg.le
 refine WL_val (rn_assign (v := (.bool false)) rfl) rfl ?_; refine WL_nil ?_; refine WC_seq ?_; refine WC_region ?_; refine WL_val (rn_move (v := (.int .i64 x1)) rfl) rfl ?_; refine WL_val (rn_fld fd24_0 rfl) rfl ?_; refine WL_val (rn_load na22 rfl (hS.sat.cell (hcb2 0 _ rfl))) rfl ?_; refine WL_val (rn_len sl22 rfl rfl (h1.mono RTBaneFish_mono leG4).1) rfl ?_; refine WL_val (rn_sub rfl rfl) rfl ?_; obtain ⟨y5, hy5, H⟩ := bnd H; refine WL_op rfl (OpP_callV cb69 (f69_ok (x0 := x1) (x1 := 0) (x2 := IntKind.i64.wrap ((x0.Fish.length : Int) - 1)) hS.sat  hy5) rfl rfl (fun w6 hb => ?_)); have hS := hS.keep hb; have hO := hO.below hb; refine WL_val (rn_assign (v := (.bool y5)) rfl) rfl ?_; refine WL_nil ?_; refine WC_ret ?_
 have H : some y5 = some r := H
 have H := Option.some.inj H; subst H
 exact ⟨rfl, hS.below⟩
set_option maxHeartbeats 1000000 in
theorem f111_ok {G0 : Gm} {w0 : World} (hS0 : Sat G0 w0) {x0 : TWeb} {a1 : Option Addr} {n1 c1 : Nat} {x1 : Int} {x2 : (List Int)} {a2 : Option Addr} {n2 c2 : Nat} (h1 : RSl RTBaneFish 5 G0 a1 n1 c1 x0.BaneWeb.Fish) (h2 : RSl RInt 1 G0 a2 n2 c2 x2) {r : (Int) ⊕ Int} (H : f111 x0 x1 x2 = some r) :
  Calls Try.prog 111 #[.agg #[.slice a1 n1 c1, .int .i64 x0.BaneWeb.Limit, .int .i64 x0.tests], .int .i64 x1, .slice a2 n2 c2] w0 (RetE w0 (Sum.elim (fun v : Int => Ending.returned (.int .i64 v)) (fun x : Int => Ending.panicked [{ v := .iface 151 (.agg #[.int .i64 x]), recovered := false }]) r)) := by
 have hS := Since.start hS0
 have hO : Owns G0 w0 w0.heap.size [] := Owns.nil (Nat.le_refl _)
 unfold f111 at H
 refine enterE1 (N := 47) Try.func111 rfl rfl rfl rfl ?_; refine WC_seq ?_; refine WC_region ?_; refine WL_op rfl (OpP_newF (v := fun b => .pointer (some ⟨b, 0, none⟩)) (cs := [.slice a1 n1 c1, .int .i64 x0.BaneWeb.Limit, .int .i64 x0.tests]) (e := 104) (rn_boxA rfl) hS.sat rfl (fun b3 G5 w4 hg hcb3 => ?_)); have hS := hS.grow hg; have hO := hO.grow hg
 have leG5 := hg.le
 refine WL_val (rn_assign (v := (.int .i64 0)) rfl) rfl ?_; refine WL_nil ?_; refine WC_seq ?_; refine WC_region ?_; refine WL_val (rn_assign (v := (.int .i64 (-1))) rfl) rfl ?_; refine WL_val (rn_assign (v := (.int .i64 (-1))) rfl) rfl ?_; refine WL_nil ?_; refine WC_seq ?_; refine WC_seq ?_; refine WC_region ?_; refine WL_val (rn_fld fd104_0 rfl) rfl ?_; refine WL_val (rn_fld fd24_0 rfl) rfl ?_; refine WL_val (rn_load na22 rfl (hS.sat.cell (hcb3 0 _ rfl))) rfl ?_; refine WL_val (rn_move (v := (.int .i64 x1)) rfl) rfl ?_; obtain ⟨y6, hy6, H⟩ := bnd H; refine WL_idx sl22 (h1.mono RTBaneFish_mono leG5) hy6 rfl rfl rfl ?_
 rintro b7 o7 _ hcb7 _ ⟨a8, n8, c8, ⟨⟩, h8⟩
 refine WL_val (rn_fld fd72_1 rfl) rfl ?_; refine WL_val (rn_load na70 rfl (hS.sat.cell (hcb7 2 _ rfl))) rfl ?_; refine WL_val (rn_len sl70 rfl rfl h8.1) rfl ?_; refine WL_val (rn_move (v := (.int .i64 0)) rfl) rfl ?_; refine WL_nil ?_; obtain ⟨q11, hq11, H⟩ := bnd H; refine WC_cut (fun F w => ∃ (Fb : Fr) (G : Gm), F = upds Fb [(1, .int .i64 x1), (8, .int .i64 q11)] ∧ Gle G5 G ∧ Since w0.heap.size G0 w0 G w ∧ Owns G w w0.heap.size []) ?_ ?_
 ·refine WC_block (WC_loop hq11 (fun s9 F w => ∃ (Fb : Fr) (G : Gm), F = upds Fb [(1, .int .i64 x1), (2, .slice a2 n2 c2), (7, .int .i64 s9.1), (8, .int .i64 s9.2.1), (18, .slice a8 n8 c8), (19, .int .i64 (y6.Bites.length : Int)), (20, .int .i64 s9.2.2)] ∧ Gle G5 G ∧ Since w0.heap.size G0 w0 G w ∧ Owns G w w0.heap.size []) ?_ ?_)
  ·have hO : Owns G5 w4 w0.heap.size ([]) := hO
   exact ⟨_, G5, upds_self _ _ ⟨rfl, rfl, rfl, rfl, rfl, rfl, rfl, trivial⟩, Gle.refl _, hS, hO⟩
  ·rintro s9 F w13 t12 ⟨Fb, G14, rfl, leG14, hS, hO⟩
   intro H1 hqq11
   have Hoq11 := H; have H := H1
   unfold f111_b0 at H
   refine WC_seq ?_; refine WC_region ?_; refine WL_val (rn_lss rfl rfl) rfl ?_; refine WL_nil ?_; refine WC_seq ?_; refine WC_cond rfl (fun hb15 => ?_) (fun hb15 => ?_)
   ·have H := ifT hb15 H; refine WC_skip ?_; refine WC_seq ?_; obtain ⟨q16, hq16, H⟩ := bnd H; refine WC_cut (fun F w => ∃ (Fb : Fr) (G : Gm), F = upds Fb [(1, .int .i64 x1), (2, .slice a2 n2 c2), (7, .int .i64 q16.1), (8, .int .i64 q16.2), (18, .slice a8 n8 c8), (19, .int .i64 (y6.Bites.length : Int)), (20, .int .i64 s9.2.2)] ∧ Gle G14 G ∧ Since w0.heap.size G0 w0 G w ∧ Owns G w w0.heap.size []) ?_ ?_
    ·have Hoq16 := H; have H := hq16; refine WC_block ?_; refine WC_seq ?_; refine WC_region ?_; obtain ⟨y17, hy17, H⟩ := bnd H; refine WL_idx sl70 (h8.mono RTBaneBite_mono leG14) hy17 rfl rfl rfl ?_
     rintro b18 o18 _ hcb18 _ ⟨⟩
     refine WL_val (rn_loadA ag77 (cs := [.int .i64 y17.Prey, .int .i64 y17.Share.Low, .int .i64 y17.Share.High]) rfl rfl (fun j v hj => hS.sat.cell (hcb18.drop_take 0 3 j v hj))) rfl ?_
     refine WL_op rfl (OpP_newO (v := fun b => .pointer (some ⟨b, 0, none⟩)) (cs := [.int .i64 0, .int .i64 0, .int .i64 0]) (e := 77) (by kernel_rfl) hS.sat hO rfl 3 1 rfl (by decide) (fun b19 w20 hb hO => ?_))
     have hS := hS.keep hb; refine WL_op rfl (OpP_store (vs := [.int .i64 y17.Prey, .int .i64 y17.Share.Low, .int .i64 y17.Share.High]) sz77 hS hO (k := 0) rfl rfl rfl rfl rfl (one_all rfl) (Nat.le_of_ble_eq_true rfl) (fun w22 hS hO => ?_))
     have hO : Owns G14 w22 w0.heap.size ([⟨77, 3, 1, .slice (some ⟨b19, 0, none⟩) 1 1, [.int .i64 y17.Prey, .int .i64 y17.Share.Low, .int .i64 y17.Share.High]⟩]) := hO
     obtain ⟨G23, leG23, hS, hO, hqG23, _⟩ := hO.freeze hS (k := 0) rfl
     have hcG23 : Cells G23 b19 0 [.int .i64 y17.Prey, .int .i64 y17.Share.Low, .int .i64 y17.Share.High] := (hqG23 _ _ _ _ rfl)
     refine WL_nil ?_; refine WC_seq ?_; have hS := hS.keep (below_drew _); have hO := hO.below (below_drew _)
     refine WC_regionD mixedO (fun _ w => Sat G23 w ∧ True) (.fl 0 (.fl 1 (.fl 2 (.fl 3 (.on 4 (.on 5 (.on 6 (.on 7 (.on 8 (.on 9 (.on 10 .nil))))))))))) (by kernel_rfl) rfl (by kernel_rfl) (fun _ => ⟨hS.sat, trivial⟩) ?_
     refine WD_val rfl (fun w hw => rn_fld fd77_1 rfl) rfl ?_; refine WD_val rfl (fun w hw => rn_fld fd43_1 rfl) rfl ?_; refine WD_val rfl (fun w hw => rn_load na3 rfl (hw.1.cell (hcG23 2 _ rfl))) rfl ?_; refine WD_val rfl (fun w hw => rn_move (v := (.slice a2 n2 c2)) rfl) rfl ?_; refine WD_op rfl rfl (OpP_val (rn_fld fd77_0 rfl) rfl ?_); refine ⟨fun _ _ => ⟨hS.sat, trivial⟩, ?_⟩; refine WD_op rfl rfl (OpP_val (rn_load na3 rfl (hS.sat.cell (hcG23 0 _ rfl))) rfl ?_); refine ⟨fun _ _ => ⟨hS.sat, trivial⟩, ?_⟩; obtain ⟨y24, hy24, H⟩ := bnd H
     have l0_3 := (leG5.trans leG14).trans leG23
     refine WD_op rfl rfl (OpP_idx sl25 (h2.mono RInt_mono l0_3) hy24 rfl rfl rfl ?_)
     rintro b25 o25 _ hcb25 _ ⟨⟩
     refine ⟨fun _ _ => ⟨hS.sat, trivial⟩, ?_⟩; refine WD_op rfl rfl (OpP_val (rn_load na3 rfl (hS.sat.cell (hcb25 0 _ rfl))) rfl ?_); refine ⟨fun _ _ => ⟨hS.sat, trivial⟩, ?_⟩; refine WD_op rfl rfl (OpP_val (rn_mul rfl rfl) rfl ?_)
     refine ⟨fun _ h => noneed (by kernel_rfl) h, ?_⟩
     refine WD_op rfl rfl (OpP_val (rn_quo rfl rfl (by decide)) rfl ?_)
     refine ⟨fun _ h => noneed (by kernel_rfl) h, ?_⟩
     refine WD_op rfl rfl (OpP_val (rn_assign (v := (.int .i64 (IntKind.i64.wrap ((IntKind.i64.wrap (y17.Share.High * y24)).tdiv 1000)))) rfl) rfl ?_)
     refine ⟨fun _ h => noneed (by kernel_rfl) h, ?_⟩
     refine WD_nil ?_; refine WC_seq ?_; refine WC_region ?_; refine WL_val (rn_move (v := (.int .i64 (IntKind.i64.wrap ((IntKind.i64.wrap (y17.Share.High * y24)).tdiv 1000)))) rfl) rfl ?_; refine WL_val (rn_move (v := (.int .i64 s9.1)) rfl) rfl ?_; refine WL_val (rn_gtr rfl rfl) rfl ?_; refine WL_nil ?_; refine WC_cond rfl (fun hb26 => ?_) (fun hb26 => ?_)
     ·have H := ifT hb26 H; have hS := hS.keep (below_drew _); have hO := hO.below (below_drew _)
      refine WC_regionD mixedO (fun _ w => Sat G23 w ∧ True) (.fl 0 (.fl 1 (.fl 2 (.on 3 (.on 4 .nil))))) (by kernel_rfl) rfl (by kernel_rfl) (fun _ => ⟨hS.sat, trivial⟩) ?_
      refine WD_val rfl (fun w hw => rn_move (v := (.int .i64 (IntKind.i64.wrap ((IntKind.i64.wrap (y17.Share.High * y24)).tdiv 1000)))) rfl) rfl ?_; refine WD_val rfl (fun w hw => rn_fld fd77_0 rfl) rfl ?_; refine WD_val rfl (fun w hw => rn_load na3 rfl (hw.1.cell (hcG23 0 _ rfl))) rfl ?_; refine WD_op rfl rfl (OpP_val (rn_assign (v := (.int .i64 (IntKind.i64.wrap ((IntKind.i64.wrap (y17.Share.High * y24)).tdiv 1000)))) rfl) rfl ?_); refine ⟨fun _ _ => ⟨hS.sat, trivial⟩, ?_⟩; refine WD_op rfl rfl (OpP_val (rn_assign (v := (.int .i64 y17.Prey)) rfl) rfl ?_)
      refine ⟨fun _ h => noneed (by kernel_rfl) h, ?_⟩
      refine WD_nil ?_
      have hO : Owns G23 (w22.drew).drew w0.heap.size ([]) := hO
      have H := Option.some.inj H; subst H
      exact ⟨_, G23, upds_self _ _ ⟨rfl, rfl, rfl, rfl, rfl, rfl, rfl, trivial⟩, leG23, hS, hO⟩
     ·have H := ifF hb26 H; refine WC_skip ?_
      have hO : Owns G23 w22.drew w0.heap.size ([]) := hO
      have H := Option.some.inj H; subst H
      exact ⟨_, G23, upds_self _ _ ⟨rfl, rfl, rfl, rfl, rfl, rfl, rfl, trivial⟩, leG23, hS, hO⟩
    ·rintro F w27 ⟨Fb, G28, rfl, leG28, hS, hO⟩
     refine WC_region ?_; refine WL_val (rn_add rfl rfl) rfl ?_; refine WL_val (rn_move (v := (.int .i64 (IntKind.i64.wrap (s9.2.2 + 1)))) rfl) rfl ?_; refine WL_nil ?_
     have hO : Owns G28 w27 w0.heap.size ([]) := hO
     have H := Option.some.inj H; subst H; refine ⟨_, rfl, ?_⟩
     have l1_3 := leG14.trans leG28
     exact ⟨_, G28, upds_self _ _ ⟨rfl, rfl, rfl, rfl, rfl, rfl, rfl, trivial⟩, l1_3, hS, hO⟩
   ·have H := ifF hb15 H; refine WC_exit rfl ?_
    have hO : Owns G14 w13 w0.heap.size ([]) := hO
    have H := Option.some.inj H; subst H
    have hres := hqq11 _ rfl
    subst hres
    exact ⟨_, G14, upds_self _ _ ⟨rfl, rfl, trivial⟩, leG14, hS, hO⟩
 ·rintro F w29 ⟨Fb, G30, rfl, leG30, hS, hO⟩
  refine WC_seq ?_; refine WC_seq ?_; refine WC_region ?_; refine WL_val (rn_move (v := (.int .i64 q11)) rfl) rfl ?_; refine WL_val (rn_lss rfl rfl) rfl ?_; refine WL_nil ?_; refine WC_cond rfl (fun hb31 => ?_) (fun hb31 => ?_)
  ·have H := ifT hb31 H; refine WC_region ?_; refine WL_val (rn_move (v := (.int .i64 x1)) rfl) rfl ?_
   refine WL_val (v := (.agg #[.int .i64 x1])) (by kernel_rfl) rfl ?_
   refine WL_val (v := (.iface 151 (.agg #[.int .i64 x1]))) (by kernel_rfl) rfl ?_
   refine WL_op rfl (OpP_panic (v := (.iface 151 (.agg #[.int .i64 x1]))) rfl ⟨_, _, rfl⟩ ?_)
   have H : some (Sum.inr x1) = some r := H
   have H := Option.some.inj H; subst H
   exact ⟨rfl, hS.below⟩
  ·have H := ifF hb31 H; refine WC_skip ?_; refine WC_seq ?_; refine WC_region ?_; refine WL_val (rn_move (v := (.int .i64 q11)) rfl) rfl ?_; refine WL_val (rn_assign (v := (.int .i64 q11)) rfl) rfl ?_; refine WL_nil ?_; refine WC_ret ?_
   have H : some (.inl q11) = some r := H
   have H := Option.some.inj H; subst H
   exact ⟨rfl, hS.below⟩
set_option maxHeartbeats 1000000 in
theorem rn_invoke {P : Program} {k : Nat} {fi ca : Array Value} {w : World} (hk : callB P k = true) : (invoke (.fn (.func k) ca) fi).run P w = .ok (.enter k (fi ++ ca)) w := by
 unfold callB at hk
 split at hk
 ·rename_i fn hf
  simp only [Bool.and_eq_true, Bool.not_eq_true'] at hk
  obtain ⟨c, hb⟩ := Option.isSome_iff_exists.1 hk.2
  have hn : ¬ fn.name = "runtime.NumGoroutine" := by simpa using hk.1
  simp [invoke, callFunc, hf, hn, hb]
 ·cases hk
theorem CallsDIn.imp {F : Fence} {n : Nat} {P : Program} {f : FuncId} {args : Array Value} {u : FrameMode} {w : World} {R R' : Ending → FrameMode → World → Prop} (h : CallsDIn F n P f args u w R) (k : ∀ e u' w', R e u' w' → R' e u' w') : CallsDIn F n P f args u w R' :=
 ⟨h.1, fun c cs h1 h2 => let ⟨e, u', w', fr, h3, h4⟩ := h.2 c cs h1 h2; ⟨e, u', w', fr, k _ _ _ h3, h4⟩⟩
theorem rn_eqlNil (x : Int) (w : World) (e : Operand → Value) (he : e (.tmp 2) = .iface 151 (.agg #[.int .i64 x])) (hn : e (.const .nilIface) = .nilIface) (d : Option Nat) (pos : String) (af : Array Edge) (gd : Option (Nat × Bool)) :
  (execOp e ⟨d, .binOp .eql 20 (.tmp 2) (.const .nilIface) 20, 4, pos, af, gd⟩).run Try.prog w = .ok (.value (.bool false)) w := by
 simp [execOp, he, hn, go_sem]
theorem un151 : Try.prog.underlying 151 = some (.struct (Try.prog.fieldsOf 151)) := by kernel_rfl
theorem rn_isEnded (x : Int) (w : World) (e : Operand → Value) (he : e (.tmp 2) = .iface 151 (.agg #[.int .i64 x])) (d : Option Nat) (pos : String) (af : Array Edge) (gd : Option (Nat × Bool)) :
  (execOp e ⟨d, .typeAssert (.tmp 2) 20 151 true, 0, pos, af, gd⟩).run Try.prog w = .ok (.value (.tuple #[.agg #[.int .i64 x], .bool true])) w := by
 simp only [execOp, he, Instr.typeAssert, Sem.run_bind, run_underlying un151, Result.andThen_ok]
 simp
theorem f110_rec (x : Int) (older : List PanicEntry) (w : World) :
  CallsDIn Fence.wide 0 Try.prog 110 #[] (.panicking ({ v := .iface 151 (.agg #[.int .i64 x]), recovered := false } :: older)) w fun e u' w' =>
   e = .returned (.tuple #[]) ∧ u' = .panicking ({ v := .iface 151 (.agg #[.int .i64 x]), recovered := true } :: older) ∧ w' = w := by
 refine callsDIn_of_wpSIn Try.func110 rfl trivial fun c₀ cs hu => ?_
 apply wpSIn_seq
 apply wpSIn_region
 simp [wpOpsSIn, go_sem, recoverD, hu, Try.ntmps110, Exit.thenS]
 refine wpSIn_of_wpIn rfl ?_
 refine wpIn_mono (WC_block (κ := ⟨none, none, 0, true, []⟩) (N := 9) (n := fun _ w' => w' = w) (r := fun _ w' => w' = w) (x := []) (p := fun _ _ _ => False) (F := frOf _) (w := w) ?_ _ w ⟨by simp, Calm.nil _ _, Keeps.refl _, Nat.zero_le _⟩ rfl) ?_
 ·refine WC_seq ?_; refine WC_region ?_; refine WL_val (rn_eqlNil x w _ rfl rfl _ _ _ _) rfl ?_; refine WL_val (rn_isEnded x w _ rfl _ _ _ _) rfl ?_; refine WL_val (v := .bool true) (rn_extract (vs := #[.agg #[.int .i64 x], .bool true]) rfl rfl) rfl ?_; refine WL_val (v := .agg #[.int .i64 x]) (rn_extract (vs := #[.agg #[.int .i64 x], .bool true]) rfl rfl) rfl ?_; refine WL_val (rn_pickF (v := .bool true) rfl rfl rfl) rfl ?_; refine WL_nil ?_; refine WC_condT true rfl rfl ?_; refine WC_region ?_; refine WL_val (rn_assign rfl) rfl ?_
  exact WL_nil rfl
 ·rintro e a' w' ⟨p1, p3⟩
  have hd := p1.calm.none rfl
  cases e with
  | normal => exact ⟨hd, _, rfl, _, by simp [results, Try.results110], rfl, rfl, p3⟩
  | ret => exact ⟨hd, _, rfl, _, by simp [results, Try.results110], rfl, rfl, p3⟩
  | exit k => obtain ⟨K, hK, _⟩ := p3; cases hK
  | goto l => exact p3.elim
  | panic c => exact p3.elim
  | outgrown => exact p3.elim
set_option maxHeartbeats 1000000 in
theorem f94_ok {B : Nat} {G0 : Gm} {w0 : World} {Gc : Gm} {wc : World} {Lq : List Row} {x0 : TWeb} {a1 : Option Addr} {n1 c1 : Nat} {x2 : List Int} {a2 : Option Addr} {n2 c2 : Nat} {bq : Nat} {m1 : List Int} {aq : Option Addr} {nq cq : Nat} {clq : List Value} (hS : Since B G0 w0 Gc wc) (hO : Owns Gc wc B (⟨25, 1, 1, .slice (some ⟨bq, 0, none⟩) 1 1, [.slice aq nq cq]⟩ :: ⟨3, 1, nq, .slice aq nq cq, clq⟩ :: Lq))
  (h1 : RSl RTBaneFish 5 Gc a1 n1 c1 x0.BaneWeb.Fish) (h2 : RSl RInt 1 Gc a2 n2 c2 x2) (hnq : nq = m1.length) (hrq : Rd RInt 1 Gc clq m1) {r : List Int} (H : f94 x0 x2 m1 = some r) :
  Calls Try.prog 94 #[.agg #[.slice a1 n1 c1, .int .i64 x0.BaneWeb.Limit, .int .i64 x0.tests], .pointer (some ⟨bq, 0, none⟩), .slice a2 n2 c2] wc (RetO B G0 w0 Gc wc (fun G L' v => ∃ (ap2 : Option Addr) (np2 cp2 : Nat) (clp2 : List Value), v = .tuple #[] ∧ L' = ⟨25, 1, 1, .slice (some ⟨bq, 0, none⟩) 1 1, [.slice ap2 np2 cp2]⟩ :: ⟨3, 1, np2, .slice ap2 np2 cp2, clp2⟩ :: Lq ∧ np2 = r.length ∧ Rd RInt 1 G clp2 r)) := by
 unfold f94 at H
 obtain ⟨Q, hQd⟩ : ∃ Q : Deferred → List PanicEntry → World → Prop, Q = fun d ch w' => ∃ (x : Int) (G : Gm) (ap : Option Addr) (np cp : Nat) (clp : List Value), d = { target := .fn (.func 110) #[], args := #[] } ∧ ch = [{ v := .iface 151 (.agg #[.int .i64 x]), recovered := false }] ∧ Gle Gc G ∧ Since B G0 w0 G w' ∧ Owns G w' B (⟨25, 1, 1, .slice (some ⟨bq, 0, none⟩) 1 1, [.slice ap np cp]⟩ :: ⟨3, 1, np, .slice ap np cp, clp⟩ :: Lq) ∧ np = r.length ∧ Rd RInt 1 G clp r := ⟨_, rfl⟩; refine enterDfK (N := 28) (fun _ _ _ => False) (fun d ch _ => Q d ch) Try.func94 rfl rfl rfl ?_ ?_ ?_
 ·exact fun _ _ _ _ h => h.elim
 ·rintro d ch tmps w' hk h
  subst hQd; obtain ⟨x, G, ap, np, cp, clp, rfl, rfl, hle, hS, hO, hn, hr⟩ := h
  refine ⟨by simp, .inr ⟨fun h => (by cases h), _, _, 110, #[], rfl, rn_invoke cb110, fun _ _ => trivial, CallsDIn.imp (f110_rec x [] w') ?_⟩⟩
  rintro e u' w'' ⟨rfl, rfl, rfl⟩
  exact ⟨.tuple #[], by simp [results, Try.results94], _, rfl, hk, G, _, hle, hS, hO, ap, np, cp, clp, rfl, rfl, hn, hr⟩
 ·refine WC_region ?_; refine WL_op rfl (OpP_newF (v := fun b => .pointer (some ⟨b, 0, none⟩)) (cs := [.slice a1 n1 c1, .int .i64 x0.BaneWeb.Limit, .int .i64 x0.tests]) (e := 104) (rn_boxA rfl) hS.sat rfl (fun b3 G5 w4 hg hcb3 => ?_)); have hS := hS.grow hg; have hO := hO.grow hg
  have leG5 := hg.le
  refine WL_nil ?_
  refine WLd_defer (d := { target := .fn (.func 110) #[], args := #[] }) (fun D => by simp) (by simp [execOp, resolve, ev, Deferred.ofValue]) ?_
  refine WC_block (WC_loop H (fun s13 F w => ∃ (Fb : Fr) (G : Gm) (as13_0 : Option Addr) (ns13_0 cs13_0 : Nat) (clas13_0 : List Value), F = upds Fb [(1, .pointer (some ⟨bq, 0, none⟩)), (2, .slice a2 n2 c2), (3, .pointer (some ⟨b3, 0, none⟩))] ∧ Gle G5 G ∧ Since B G0 w0 G w ∧ Owns G w B (⟨25, 1, 1, .slice (some ⟨bq, 0, none⟩) 1 1, [.slice as13_0 ns13_0 cs13_0]⟩ :: ⟨3, 1, ns13_0, .slice as13_0 ns13_0 cs13_0, clas13_0⟩ :: Lq) ∧ ns13_0 = s13.length ∧ Rd RInt 1 G clas13_0 s13) ?_ ?_)
  ·exact ⟨_, G5, aq, nq, cq, clq, upds_self _ _ ⟨rfl, rfl, rfl, trivial⟩, Gle.refl _, hS, hO, hnq, hrq.mono RInt_mono leG5⟩
  ·rintro s13 F w16 t15 ⟨Fb, G17, as13_0, ns13_0, cs13_0, clas13_0, rfl, leG17, hS, hO, hnhs13_0, hs13_0⟩
   intro H1 hqH
   have Hoq14 := H; have H := H1
   unfold f94_b0 at H
   refine WC_block ?_; refine WC_seq ?_; have hS := hS.keep (below_drew _); have hO := hO.below (below_drew _)
   refine WC_regionD mixedO (fun _ w => Sat G17 w ∧ Owns G17 w B (⟨25, 1, 1, .slice (some ⟨bq, 0, none⟩) 1 1, [.slice as13_0 ns13_0 cs13_0]⟩ :: ⟨3, 1, ns13_0, .slice as13_0 ns13_0 cs13_0, clas13_0⟩ :: Lq)) (.fl 0 (.fl 1 (.fl 2 (.fl 3 (.fl 4 (.fl 5 (.fl 6 (.fl 7 (.fl 8 (.fl 9 (.fl 10 (.on 11 (.on 12 (.on 13 .nil)))))))))))))) (by kernel_rfl) rfl (by kernel_rfl) (fun _ => ⟨hS.sat, hO⟩) ?_
   refine WD_val rfl (fun w hw => rn_loadA ag104 (cs := [.slice a1 n1 c1, .int .i64 x0.BaneWeb.Limit, .int .i64 x0.tests]) rfl rfl (fun j v hj => (hw.1.le leG17).cell (hcb3.drop_take 0 3 j v hj))) rfl ?_; refine WD_val rfl (fun w hw => rn_move (v := (.pointer (some ⟨bq, 0, none⟩))) rfl) rfl ?_
   refine WD_val (v := (.pointer (some ⟨bq, 0, none⟩))) rfl (fun w hw => by kernel_rfl) rfl ?_
   refine WD_val rfl (fun w hw => rn_load na25 rfl (own_cell hw.2 (k := 0) rfl (j := 0) rfl)) rfl ?_; refine WD_val rfl (fun w hw => rn_move (v := (.pointer (some ⟨bq, 0, none⟩))) rfl) rfl ?_
   refine WD_val (v := (.pointer (some ⟨bq, 0, none⟩))) rfl (fun w hw => by kernel_rfl) rfl ?_
   refine WD_val rfl (fun w hw => rn_load na25 rfl (own_cell hw.2 (k := 0) rfl (j := 0) rfl)) rfl ?_; refine WD_val rfl (fun w hw => rn_len (m := s13.length) sl25 rfl rfl hnhs13_0) rfl ?_; refine WD_val rfl (fun w hw => rn_sub rfl rfl) rfl ?_; obtain ⟨y18, hy18, H⟩ := bnd H; refine WD_idxO rfl sl25 hO (k := 1) rfl hnhs13_0 hs13_0 hy18 rfl rfl rfl ?_
   rintro b19 ob19 _ hb19 _ hcb19 ⟨⟩
   refine WD_val rfl (fun w hw => rn_load na3 rfl (own_cellB hw.2 (k := 1) rfl hb19 _ 0 (hcb19 0 _ rfl))) rfl ?_; refine WD_op rfl rfl (OpP_val (rn_move (v := (.slice a2 n2 c2)) rfl) rfl ?_); refine ⟨fun _ _ => ⟨hS.sat, hO⟩, ?_⟩; obtain ⟨y20, hy20, H⟩ := bnd H
   have l0_2 := leG5.trans leG17
   have hxy20 := f111_ok (x0 := x0) (x1 := y18) (x2 := x2) hS.sat (h1.mono RTBaneFish_mono l0_2) (h2.mono RInt_mono l0_2) hy20
   refine WD_op rfl rfl (OpP_enterP (rn_call cb111 rfl) rfl hxy20 (fun _ w21 hR => ?_)); obtain ⟨rfl, hb⟩ := hR; have hS := hS.keep hb; have hO := hO.below hb
   rcases y20 with v22 | v23
   ·refine .inl ⟨_, rfl, .below hb, ?_⟩
    refine ⟨fun _ h => noneed (by kernel_rfl) h, ?_⟩
    refine WD_op rfl rfl (OpP_val (rn_assign (v := (.int .i64 v22)) rfl) rfl ?_)
    refine ⟨fun _ h => noneed (by kernel_rfl) h, ?_⟩
    refine WD_nil ?_; refine WC_region ?_; refine WL_val (rn_move (v := (.pointer (some ⟨bq, 0, none⟩))) rfl) rfl ?_; refine WL_val (rn_move (v := (.pointer (some ⟨bq, 0, none⟩))) rfl) rfl ?_
    refine WL_val (v := (.pointer (some ⟨bq, 0, none⟩))) (by kernel_rfl) rfl ?_
    refine WL_val (rn_load na25 rfl (own_cell hO (k := 0) rfl (j := 0) rfl)) rfl ?_; refine WL_val (rn_move (v := (.int .i64 v22)) rfl) rfl ?_
    refine WL_op rfl (OpP_newF (v := fun b => .slice (some ⟨b, 0, none⟩) 1 1) (cs := [.int .i64 v22]) (e := 3) (by kernel_rfl) hS.sat rfl (fun b24 G26 w25 hg hcb24 => ?_))
    have hS := hS.grow hg; have hO := hO.grow hg
    have leG26 := hg.le
    have hfb24 : RSl RInt 1 G26 (some ⟨b24, 0, none⟩) 1 1 [v22] := RSl.of_rd hcb24 (Rd.cons (c := [.int .i64 v22]) rfl rfl (Rd.nil RInt 1 _)) rfl (by decide)
    obtain ⟨y27, hy27, H⟩ := bnd H; refine WL_op rfl (OpP_append (k := 1) sl25 RInt_one hS hO rfl hnhs13_0 (hs13_0.mono RInt_mono leG26) hfb24 hy27 rfl rfl rfl rfl rfl (fun aw28 cw28 w28 clw28 hS hO hrw28 => ?_))
    have hO : Owns G26 w28 B ((⟨25, 1, 1, .slice (some ⟨bq, 0, none⟩) 1 1, [.slice as13_0 ns13_0 cs13_0]⟩ :: ⟨3, 1, y27.length, .slice aw28 y27.length cw28, clw28⟩ :: Lq)) := hO
    refine WL_val (v := (.pointer (some ⟨bq, 0, none⟩))) (by kernel_rfl) rfl ?_
    refine WL_op rfl (OpP_store (vs := [.slice aw28 y27.length cw28]) sz25 hS hO (k := 0) rfl rfl rfl rfl rfl (one_all rfl) (Nat.le_of_ble_eq_true rfl) (fun w29 hS hO => ?_))
    have hO : Owns G26 w29 B ((⟨25, 1, 1, .slice (some ⟨bq, 0, none⟩) 1 1, [.slice aw28 y27.length cw28]⟩ :: ⟨3, 1, y27.length, .slice aw28 y27.length cw28, clw28⟩ :: Lq)) := hO
    refine WL_nil ?_
    have hO : Owns G26 w29 B ((⟨25, 1, 1, .slice (some ⟨bq, 0, none⟩) 1 1, [.slice aw28 y27.length cw28]⟩ :: ⟨3, 1, y27.length, .slice aw28 y27.length cw28, clw28⟩ :: Lq)) := hO
    have H := Option.some.inj H; subst H; refine ⟨_, rfl, ?_⟩
    have l1_3 := leG17.trans leG26
    exact ⟨_, G26, aw28, y27.length, cw28, clw28, upds_self _ _ ⟨rfl, rfl, rfl, trivial⟩, l1_3, hS, hO, rfl, hrw28⟩
   ·refine .inr ⟨_, rfl, .below hb, ?_⟩; have H := Option.some.inj H; subst H
    have hres := hqH _ rfl
    subst hres; subst hQd
    exact ⟨v23, G17, as13_0, ns13_0, cs13_0, clas13_0, rfl, rfl, leG5.trans leG17, hS, hO, hnhs13_0, hs13_0⟩

set_option maxHeartbeats 1000000 in
theorem f58_ok {G0 : Gm} {w0 : World} (hS0 : Sat G0 w0) {x0 : TBaneWeb} {a1 : Option Addr} {n1 c1 : Nat} {x1 : Int} (h1 : RSl RTBaneFish 5 G0 a1 n1 c1 x0.Fish) {r : (List Int) × Int} (H : f58 x0 x1 = some r) :
  Calls Try.prog 58 #[.agg #[.slice a1 n1 c1, .int .i64 x0.Limit], .int .i64 x1] w0 (RetG G0 w0 (fun G v => ∃ (ra0 : Option Addr) (rn0 rc0 : Nat), v = .tuple #[.slice ra0 rn0 rc0, .int .i64 r.2] ∧ RSl RInt 1 G ra0 rn0 rc0 r.1)) := by
 have hS := Since.start hS0
 have hO : Owns G0 w0 w0.heap.size [] := Owns.nil (Nat.le_refl _)
 unfold f58 at H
 refine enter2 (N := 29) (shutG _ _ _) Try.func58 rfl rfl rfl rfl ?_; refine WC_seq ?_; refine WC_region ?_; refine WL_op rfl (OpP_newF (v := fun b => .pointer (some ⟨b, 0, none⟩)) (cs := [.slice a1 n1 c1, .int .i64 x0.Limit]) (e := 24) (rn_boxA rfl) hS.sat rfl (fun b2 G4 w3 hg hcb2 => ?_)); have hS := hS.grow hg; have hO := hO.grow hg
 have leG4 := hg.le
 refine WL_val (rn_assign (v := (.slice none 0 0)) rfl) rfl ?_; refine WL_val (rn_assign (v := (.int .i64 0)) rfl) rfl ?_; refine WL_nil ?_; refine WC_seq ?_; refine WC_seq ?_; obtain ⟨q5, hq5, H⟩ := bnd H; refine WC_cut (fun F w => ∃ (Fb : Fr) (G : Gm), F = upds Fb [(1, .int .i64 x1), (2, .pointer (some ⟨b2, 0, none⟩)), (19, .bool q5)] ∧ Gle G4 G ∧ Since w0.heap.size G0 w0 G w ∧ Owns G w w0.heap.size []) ?_ ?_
 ·have Hoq5 := H; have H := hq5; refine WC_region ?_; refine WL_val (rn_loadA ag24 (cs := [.slice a1 n1 c1, .int .i64 x0.Limit]) rfl rfl (fun j v hj => hS.sat.cell (hcb2.drop_take 0 2 j v hj))) rfl ?_; obtain ⟨y6, hy6, H⟩ := bnd H; refine WL_op rfl (OpP_callV cb65 (f65_ok (x0 := x0) hS.sat (h1.mono RTBaneFish_mono leG4) hy6) rfl rfl (fun w7 hb => ?_)); have hS := hS.keep hb; have hO := hO.below hb; refine WL_val (rn_not rfl) rfl ?_; refine WL_val (rn_move (v := (.bool (!y6))) rfl) rfl ?_
  rcases bcases (!y6) with hb8 | hb8
  ·have H := ifT hb8 H; refine WL_guardN rfl hb8 rfl rfl rfl ?_; refine WL_guardN rfl hb8 rfl rfl rfl ?_; refine WL_guardN rfl hb8 rfl rfl rfl ?_; refine WL_guardN rfl hb8 rfl rfl rfl ?_; refine WL_guardN rfl hb8 rfl rfl rfl ?_; refine WL_guardN rfl hb8 rfl rfl rfl ?_; refine WL_guardN rfl hb8 rfl rfl rfl ?_; refine WL_val (rn_pickT (v := (.bool true)) rfl hb8 rfl) rfl ?_; refine WL_nil ?_
   have hO : Owns G4 w7 w0.heap.size ([]) := hO
   have H := Option.some.inj H; subst H
   exact ⟨_, G4, upds_self _ _ ⟨rfl, rfl, rfl, trivial⟩, Gle.refl _, hS, hO⟩
  ·have H := ifF hb8 H; refine WL_guardY rfl hb8 rfl rfl ?_; refine WL_val (rn_move (v := (.int .i64 x1)) rfl) rfl ?_; refine WL_guardY rfl hb8 rfl rfl ?_; refine WL_val (rn_fld fd24_0 rfl) rfl ?_; refine WL_guardY rfl hb8 rfl rfl ?_; refine WL_val (rn_load na22 rfl (hS.sat.cell (hcb2 0 _ rfl))) rfl ?_; refine WL_guardY rfl hb8 rfl rfl ?_; refine WL_val (rn_len sl22 rfl rfl (h1.mono RTBaneFish_mono leG4).1) rfl ?_; refine WL_guardY rfl hb8 rfl rfl ?_; refine WL_val (rn_sub rfl rfl) rfl ?_; refine WL_guardY rfl hb8 rfl rfl ?_; obtain ⟨y9, hy9, H⟩ := bnd H; refine WL_op rfl (OpP_callV cb66 (f66_ok (x0 := x1) (x1 := 0) (x2 := IntKind.i64.wrap ((x0.Fish.length : Int) - 1)) hS.sat  hy9) rfl rfl (fun w10 hb => ?_)); have hS := hS.keep hb; have hO := hO.below hb; refine WL_guardY rfl hb8 rfl rfl ?_; refine WL_val (rn_not rfl) rfl ?_; refine WL_val (rn_pickF (v := (.bool (!y9))) rfl hb8 rfl) rfl ?_; refine WL_nil ?_
   have hO : Owns G4 w10 w0.heap.size ([]) := hO
   have H := Option.some.inj H; subst H
   exact ⟨_, G4, upds_self _ _ ⟨rfl, rfl, rfl, trivial⟩, Gle.refl _, hS, hO⟩
 ·rintro F w11 ⟨Fb, G12, rfl, leG12, hS, hO⟩
  refine WC_cond rfl (fun hb13 => ?_) (fun hb13 => ?_)
  ·have H := ifT hb13 H; refine WC_seq ?_; refine WC_region ?_; refine WL_val (rn_assign (v := (.slice none 0 0)) rfl) rfl ?_; refine WL_val (rn_assign (v := (.int .i64 2)) rfl) rfl ?_; refine WL_nil ?_; refine WC_ret ?_
   have H : some ([], 2) = some r := H
   have H := Option.some.inj H; subst H
   exact ⟨_, _, rfl, hS.toGrow, _, _, _, rfl, (RSl.nil RInt 1 G12 none)⟩
  ·have H := ifF hb13 H; refine WC_skip ?_; refine WC_seq ?_; refine WC_region ?_; refine WL_val (rn_loadA ag24 (cs := [.slice a1 n1 c1, .int .i64 x0.Limit]) rfl rfl (fun j v hj => (hS.sat.le leG12).cell (hcb2.drop_take 0 2 j v hj))) rfl ?_
   refine WL_val (v := (.agg #[.slice a1 n1 c1, .int .i64 x0.Limit, .int .i64 0])) (by kernel_rfl) rfl ?_
   refine WL_op rfl (OpP_newO (v := fun b => .pointer (some ⟨b, 0, none⟩)) (cs := [.slice none 0 0, .int .i64 0, .int .i64 0]) (e := 104) (by kernel_rfl) hS.sat hO rfl 3 1 rfl (by decide) (fun b14 w15 hb hO => ?_))
   have hS := hS.keep hb; refine WL_op rfl (OpP_store (vs := [.slice a1 n1 c1, .int .i64 x0.Limit, .int .i64 0]) sz104 hS hO (k := 0) rfl rfl rfl rfl rfl (one_all rfl) (Nat.le_of_ble_eq_true rfl) (fun w17 hS hO => ?_))
   have hO : Owns G12 w17 w0.heap.size ([⟨104, 3, 1, .slice (some ⟨b14, 0, none⟩) 1 1, [.slice a1 n1 c1, .int .i64 x0.Limit, .int .i64 0]⟩]) := hO
   obtain ⟨G18, leG18, hS, hO, hqG18, _⟩ := hO.freeze hS (k := 0) rfl
   have hcG18 : Cells G18 b14 0 [.slice a1 n1 c1, .int .i64 x0.Limit, .int .i64 0] := (hqG18 _ _ _ _ rfl)
   refine WL_nil ?_; refine WC_seq ?_; refine WC_region ?_; refine WL_val (rn_move (v := (.int .i64 x1)) rfl) rfl ?_
   refine WL_op rfl (OpP_newO (v := fun b => .slice (some ⟨b, 0, none⟩) 1 1) (cs := [.int .i64 x1]) (e := 3) (by kernel_rfl) hS.sat hO rfl 1 1 rfl (by decide) (fun b19 w20 hb hO => ?_))
   have hS := hS.keep hb
   have hrb19 : Rd RInt 1 G18 [.int .i64 x1] [x1] := (Rd.cons (c := [.int .i64 x1]) rfl rfl (Rd.nil RInt 1 _))
   refine WL_op rfl (OpP_newO (v := fun b => .pointer (some ⟨b, 0, none⟩)) (cs := [.slice none 0 0]) (e := 25) (by kernel_rfl) hS.sat hO rfl 1 1 rfl (by decide) (fun b22 w23 hb hO => ?_))
   have hS := hS.keep hb; refine WL_op rfl (OpP_store (vs := [.slice (some ⟨b19, 0, none⟩) 1 1]) sz25 hS hO (k := 0) rfl rfl rfl rfl rfl (one_all rfl) (Nat.le_of_ble_eq_true rfl) (fun w25 hS hO => ?_))
   have hO : Owns G18 w25 w0.heap.size ([⟨25, 1, 1, .slice (some ⟨b22, 0, none⟩) 1 1, [.slice (some ⟨b19, 0, none⟩) 1 1]⟩, ⟨3, 1, 1, .slice (some ⟨b19, 0, none⟩) 1 1, [.int .i64 x1]⟩]) := hO
   refine WL_nil ?_; refine WC_seq ?_; have hS := hS.keep (below_drew _); have hO := hO.below (below_drew _)
   refine WC_regionD mixedO (fun _ w => Sat G18 w ∧ Owns G18 w w0.heap.size [⟨25, 1, 1, .slice (some ⟨b22, 0, none⟩) 1 1, [.slice (some ⟨b19, 0, none⟩) 1 1]⟩, ⟨3, 1, 1, .slice (some ⟨b19, 0, none⟩) 1 1, [.int .i64 x1]⟩]) (.fl 0 (.on 1 (.on 2 (.on 3 .nil)))) (by kernel_rfl) rfl (by kernel_rfl) (fun _ => ⟨hS.sat, hO⟩) ?_
   refine WD_val rfl (fun w hw => rn_loadA ag104 (cs := [.slice a1 n1 c1, .int .i64 x0.Limit, .int .i64 0]) rfl rfl (fun j v hj => hw.1.cell (hcG18.drop_take 0 3 j v hj))) rfl ?_; refine WD_op rfl rfl (OpP_val (rn_loadA ag104 (cs := [.slice a1 n1 c1, .int .i64 x0.Limit, .int .i64 0]) rfl rfl (fun j v hj => hS.sat.cell (hcG18.drop_take 0 3 j v hj))) rfl ?_); refine ⟨fun _ _ => ⟨hS.sat, hO⟩, ?_⟩; obtain ⟨y26, hy26, H⟩ := bnd H
   have l0_3 := (leG4.trans leG12).trans leG18
   refine WD_op rfl rfl (OpP_callG cb72 (f72_ok (x0 := (⟨x0, 0⟩ : TWeb)) hS.sat (h1.mono RTBaneFish_mono l0_3) hy26) rfl rfl (fun vy26 G28 w27 hg hvy26 => ?_)); obtain ⟨a29, n29, c29, ⟨⟩, h29⟩ := hvy26; have hS := hS.grow hg; have hO := hO.grow hg
   have leG28 := hg.le
   refine ⟨fun _ _ => ⟨hS.sat.le leG28, hO.le leG28⟩, ?_⟩
   have l0_4 := l0_3.trans leG28
   obtain ⟨y30, hy30, H⟩ := bnd H; refine WD_op rfl rfl (OpP_lent (fi := []) (al := [.agg #[.slice a1 n1 c1, .int .i64 x0.Limit, .int .i64 0], .pointer (some ⟨b22, 0, none⟩), .slice a29 n29 c29]) (ca := []) cb94 (f94_ok (x0 := (⟨x0, 0⟩ : TWeb)) (x2 := y26) (m1 := [x1]) hS hO (h1.mono RTBaneFish_mono l0_4) h29 rfl (hrb19.mono RInt_mono leG28) hy30) rfl rfl rfl (fun vG32 G32 w31 L33 leG32 hS hO hvG32 => ?_)); obtain ⟨aG321, nG321, cG321, clG321, rfl, rfl, hnG321, hrG321⟩ := hvG32
   have hO : Owns G32 w31 w0.heap.size ([⟨25, 1, 1, .slice (some ⟨b22, 0, none⟩) 1 1, [.slice aG321 nG321 cG321]⟩, ⟨3, 1, nG321, .slice aG321 nG321 cG321, clG321⟩]) := hO
   refine ⟨fun _ h => noneed (by kernel_rfl) h, ?_⟩
   refine WD_nil ?_; refine WC_seq ?_; refine WC_region ?_; refine WL_val (rn_load na25 rfl (own_cell hO (k := 0) rfl (j := 0) rfl)) rfl ?_; refine WL_val (rn_assign (v := (.slice aG321 nG321 cG321)) rfl) rfl ?_; refine WL_val (rn_assign (v := (.int .i64 0)) rfl) rfl ?_; refine WL_nil ?_; refine WC_ret ?_; obtain ⟨G34, leG34, hS, hO, hfG34⟩ := hO.freezeS hS RInt_mono (k := 1) rfl hrG321 hnG321
   have H : some (y30, 0) = some r := H
   have H := Option.some.inj H; subst H
   exact ⟨_, _, rfl, hS.toGrow, _, _, _, rfl, hfG34⟩
set_option maxHeartbeats 1000000 in
theorem f59_ok {G0 : Gm} {w0 : World} (hS0 : Sat G0 w0) {x0 : TBaneWeb} {a1 : Option Addr} {n1 c1 : Nat} (h1 : RSl RTBaneFish 5 G0 a1 n1 c1 x0.Fish) {r : Int} (H : f59 x0 = some r) :
  Calls Try.prog 59 #[.agg #[.slice a1 n1 c1, .int .i64 x0.Limit]] w0 (RetV w0 (.int .i64 r)) := by
 have hS := Since.start hS0
 have hO : Owns G0 w0 w0.heap.size [] := Owns.nil (Nat.le_refl _)
 unfold f59 at H
 refine enter1 (N := 6) (shutV _ _) Try.func59 rfl rfl rfl rfl ?_; refine WC_seq ?_; refine WC_region ?_; refine WL_op rfl (OpP_newF (v := fun b => .pointer (some ⟨b, 0, none⟩)) (cs := [.slice a1 n1 c1, .int .i64 x0.Limit]) (e := 24) (rn_boxA rfl) hS.sat rfl (fun b2 G4 w3 hg hcb2 => ?_)); have hS := hS.grow hg; have hO := hO.grow hg
 have leG4 := hg.le
 refine WL_val (rn_assign (v := (.int .i64 0)) rfl) rfl ?_; refine WL_nil ?_; refine WC_seq ?_; refine WC_seq ?_; refine WC_region ?_; refine WL_val (rn_loadA ag24 (cs := [.slice a1 n1 c1, .int .i64 x0.Limit]) rfl rfl (fun j v hj => hS.sat.cell (hcb2.drop_take 0 2 j v hj))) rfl ?_; obtain ⟨y5, hy5, H⟩ := bnd H; refine WL_op rfl (OpP_callV cb65 (f65_ok (x0 := x0) hS.sat (h1.mono RTBaneFish_mono leG4) hy5) rfl rfl (fun w6 hb => ?_)); have hS := hS.keep hb; have hO := hO.below hb; refine WL_val (rn_not rfl) rfl ?_; refine WL_nil ?_; refine WC_cond rfl (fun hb7 => ?_) (fun hb7 => ?_)
 ·have H := ifT hb7 H; refine WC_seq ?_; refine WC_region ?_; refine WL_val (rn_assign (v := (.int .i64 2)) rfl) rfl ?_; refine WL_nil ?_; refine WC_ret ?_
  have H : some 2 = some r := H
  have H := Option.some.inj H; subst H
  exact ⟨rfl, hS.below⟩
 ·have H := ifF hb7 H; refine WC_skip ?_; refine WC_seq ?_; refine WC_region ?_; refine WL_val (rn_assign (v := (.int .i64 0)) rfl) rfl ?_; refine WL_nil ?_; refine WC_ret ?_
  have H : some 0 = some r := H
  have H := Option.some.inj H; subst H
  exact ⟨rfl, hS.below⟩
end Go.Proofs.Ytgplafckddpnkaa
