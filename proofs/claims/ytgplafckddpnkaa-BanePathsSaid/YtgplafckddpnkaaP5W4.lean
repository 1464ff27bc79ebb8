/-
  The walks: each Go function computes its plain function (printed by a program of ours).
-/
import Derived.Test.YtgplafckddpnkaaRd
import Derived.Test.YtgplafckddpnkaaIt
import Derived.Test.YtgplafckddpnkaaP5W3
namespace Go.Proofs.Ytgplafckddpnkaa
open Go.RowKit
set_option linter.unusedVariables false

set_option maxRecDepth 20000
set_option linter.unusedVariables false
set_option maxHeartbeats 1000000 in
theorem f89_ok {G0 : Gm} {w0 : World} (hS0 : Sat G0 w0) {x0 : (List TBaneFish)} {a1 : Option Addr} {n1 c1 : Nat} {x1 : (TBaneFish → Option Int)} {k2 : Nat} {fi2 ca2 : List Value} {x2 : (Int → Option Bool)} {k3 : Nat} {fi3 ca3 : List Value} (h1 : RSl RTBaneFish 5 G0 a1 n1 c1 x0) (hf2 : FnOk131 G0 k2 fi2 ca2 x1) (hf3 : FnOk125 G0 k3 fi3 ca3 x2) {r : TChoice × Bool} (H : f89 x0 x1 x2 = some r) :
  Calls Try.prog 89 #[.slice a1 n1 c1, .func (.func k2) (fi2).toArray (ca2).toArray, .func (.func k3) (fi3).toArray (ca3).toArray] w0 (RetG G0 w0 (fun G v => ∃ (ra0 : Option Addr) (rn0 rc0 : Nat), v = .tuple #[.agg #[.int .i64 r.1.cost, .slice ra0 rn0 rc0], .bool r.2] ∧ RSl RInt 1 G ra0 rn0 rc0 r.1.list)) := by
 have hS := Since.start hS0
 have hO : Owns G0 w0 w0.heap.size [] := Owns.nil (Nat.le_refl _)
 unfold f89 at H
 refine enterG (N := 59) (shutG _ _ _) [.cell 6 121, .tmp 7] Try.func89 rfl rfl rfl rfl ?_; refine WC_seq ?_; refine WC_region ?_
 refine WL_op rfl (OpP_newO (v := fun b => .pointer (some ⟨b, 0, none⟩)) (cs := [.int .i64 0, .slice none 0 0]) (e := 121) (by kernel_rfl) hS.sat hO rfl 2 1 rfl (by decide) (fun b4 w5 hb hO => ?_))
 have hS := hS.keep hb; refine WL_val (rn_assign (v := (.bool false)) rfl) rfl ?_; refine WL_nil ?_; refine WC_seq ?_; refine WC_region ?_
 refine WL_op rfl (OpP_newO (v := fun b => .pointer (some ⟨b, 0, none⟩)) (cs := [.int .i64 0, .slice none 0 0]) (e := 121) (by kernel_rfl) hS.sat hO rfl 2 1 rfl (by decide) (fun b7 w8 hb hO => ?_))
 have hS := hS.keep hb; refine WL_nil ?_; refine WC_seq ?_; refine WC_region ?_; refine WL_val (rn_assign (v := (.bool false)) rfl) rfl ?_; refine WL_nil ?_; refine WC_seq ?_; refine WC_seq ?_; refine WC_region ?_; refine WL_val (rn_move (v := (.slice a1 n1 c1)) rfl) rfl ?_; refine WL_val (rn_len sl22 rfl rfl h1.1) rfl ?_; obtain ⟨y10, hy10, H⟩ := bnd H; refine WL_val (rn_shl rfl rfl hy10) rfl ?_; refine WL_val (rn_move (v := (.int .i64 0)) rfl) rfl ?_; refine WL_nil ?_; obtain ⟨q13, hq13, H⟩ := bnd H; refine WC_cut (fun F w => ∃ (Fb : Fr) (G : Gm) (aq13_0 : Option Addr) (nq13_0 cq13_0 : Nat) (aq13_1 : Option Addr) (nq13_1 cq13_1 : Nat), F = upds Fb [(6, .pointer (some ⟨b4, 0, none⟩)), (8, .pointer (some ⟨b7, 0, none⟩)), (9, .bool q13.1)] ∧ Gle G0 G ∧ Since w0.heap.size G0 w0 G w ∧ Owns G w w0.heap.size [⟨121, 2, 1, .slice (some ⟨b7, 0, none⟩) 1 1, [.int .i64 q13.2.1.cost, .slice aq13_0 nq13_0 cq13_0]⟩, ⟨121, 2, 1, .slice (some ⟨b4, 0, none⟩) 1 1, [.int .i64 q13.2.2.cost, .slice aq13_1 nq13_1 cq13_1]⟩] ∧ RSl RInt 1 G aq13_0 nq13_0 cq13_0 q13.2.1.list ∧ RSl RInt 1 G aq13_1 nq13_1 cq13_1 q13.2.2.list) ?_ ?_
 ·refine WC_block (WC_loop hq13 (fun s11 F w => ∃ (Fb : Fr) (G : Gm) (as11_0 : Option Addr) (ns11_0 cs11_0 : Nat) (as11_1 : Option Addr) (ns11_1 cs11_1 : Nat), F = upds Fb [(0, .slice a1 n1 c1), (1, .func (.func k2) (fi2).toArray (ca2).toArray), (2, .func (.func k3) (fi3).toArray (ca3).toArray), (6, .pointer (some ⟨b4, 0, none⟩)), (8, .pointer (some ⟨b7, 0, none⟩)), (9, .bool s11.1), (16, .int .i64 y10), (17, .int .i64 s11.2.1)] ∧ Gle G0 G ∧ Since w0.heap.size G0 w0 G w ∧ Owns G w w0.heap.size [⟨121, 2, 1, .slice (some ⟨b7, 0, none⟩) 1 1, [.int .i64 s11.2.2.1.cost, .slice as11_0 ns11_0 cs11_0]⟩, ⟨121, 2, 1, .slice (some ⟨b4, 0, none⟩) 1 1, [.int .i64 s11.2.2.2.cost, .slice as11_1 ns11_1 cs11_1]⟩] ∧ RSl RInt 1 G as11_0 ns11_0 cs11_0 s11.2.2.1.list ∧ RSl RInt 1 G as11_1 ns11_1 cs11_1 s11.2.2.2.list) ?_ ?_)
  ·have hO : Owns G0 w8 w0.heap.size ([⟨121, 2, 1, .slice (some ⟨b7, 0, none⟩) 1 1, [.int .i64 0, .slice none 0 0]⟩, ⟨121, 2, 1, .slice (some ⟨b4, 0, none⟩) 1 1, [.int .i64 0, .slice none 0 0]⟩]) := hO
   exact ⟨_, G0, none, 0, 0, none, 0, 0, upds_self _ _ ⟨rfl, rfl, rfl, rfl, rfl, rfl, rfl, rfl, trivial⟩, Gle.refl _, hS, hO, (RSl.nil _ _ _ _), (RSl.nil _ _ _ _)⟩
  ·rintro s11 F w15 t14 ⟨Fb, G16, as11_0, ns11_0, cs11_0, as11_1, ns11_1, cs11_1, rfl, leG16, hS, hO, hs11_0, hs11_1⟩
   intro H1 hqq13
   have Hoq13 := H; have H := H1
   unfold f89_b0 at H
   refine WC_seq ?_; refine WC_region ?_; refine WL_val (rn_lss rfl rfl) rfl ?_; refine WL_nil ?_; refine WC_seq ?_; refine WC_cond rfl (fun hb17 => ?_) (fun hb17 => ?_)
   ·have H := ifT hb17 H; refine WC_skip ?_; refine WC_seq ?_; obtain ⟨q18, hq18, H⟩ := bnd H; refine WC_cut (fun F w => ∃ (Fb : Fr) (G : Gm) (aq18_0 : Option Addr) (nq18_0 cq18_0 : Nat) (aq18_1 : Option Addr) (nq18_1 cq18_1 : Nat), F = upds Fb [(0, .slice a1 n1 c1), (1, .func (.func k2) (fi2).toArray (ca2).toArray), (2, .func (.func k3) (fi3).toArray (ca3).toArray), (6, .pointer (some ⟨b4, 0, none⟩)), (8, .pointer (some ⟨b7, 0, none⟩)), (9, .bool q18.1), (16, .int .i64 y10), (17, .int .i64 s11.2.1)] ∧ Gle G16 G ∧ Since w0.heap.size G0 w0 G w ∧ Owns G w w0.heap.size [⟨121, 2, 1, .slice (some ⟨b7, 0, none⟩) 1 1, [.int .i64 q18.2.1.cost, .slice aq18_0 nq18_0 cq18_0]⟩, ⟨121, 2, 1, .slice (some ⟨b4, 0, none⟩) 1 1, [.int .i64 q18.2.2.cost, .slice aq18_1 nq18_1 cq18_1]⟩] ∧ RSl RInt 1 G aq18_0 nq18_0 cq18_0 q18.2.1.list ∧ RSl RInt 1 G aq18_1 nq18_1 cq18_1 q18.2.2.list) ?_ ?_
    ·have Hoq18 := H; have H := hq18; refine WC_block ?_; refine WC_seq ?_; refine WC_region ?_; refine WL_val (rn_move (v := (.int .i64 s11.2.1)) rfl) rfl ?_; refine WL_val (rn_assign (v := (.int .i64 s11.2.1)) rfl) rfl ?_; refine WL_nil ?_; refine WC_seq ?_; refine WC_region ?_; refine WL_val (rn_move (v := (.int .i64 s11.2.1)) rfl) rfl ?_; refine WL_val (rn_move (v := (.slice a1 n1 c1)) rfl) rfl ?_; refine WL_val (rn_len sl22 rfl rfl (h1.mono RTBaneFish_mono leG16).1) rfl ?_; obtain ⟨y19, hy19, H⟩ := bnd H; refine WL_op rfl (OpP_callG cb105 (f105_ok (x0 := s11.2.1) (x1 := (x0.length : Int)) hS.sat  hy19) rfl rfl (fun vy19 G21 w20 hg hvy19 => ?_)); obtain ⟨a22, n22, c22, ⟨⟩, h22⟩ := hvy19; have hS := hS.grow hg; have hO := hO.grow hg
     have leG21 := hg.le
     refine WL_val (v := (.agg #[.int .i64 0, .slice a22 n22 c22])) (by kernel_rfl) rfl ?_
     refine WL_op rfl (OpP_newO (v := fun b => .pointer (some ⟨b, 0, none⟩)) (cs := [.int .i64 0, .slice none 0 0]) (e := 121) (by kernel_rfl) hS.sat hO rfl 2 1 rfl (by decide) (fun b23 w24 hb hO => ?_))
     have hS := hS.keep hb; refine WL_op rfl (OpP_store (vs := [.int .i64 0, .slice a22 n22 c22]) sz121 hS hO (k := 0) rfl rfl rfl rfl rfl (one_all rfl) (Nat.le_of_ble_eq_true rfl) (fun w26 hS hO => ?_))
     have hO : Owns G21 w26 w0.heap.size ([⟨121, 2, 1, .slice (some ⟨b23, 0, none⟩) 1 1, [.int .i64 0, .slice a22 n22 c22]⟩, ⟨121, 2, 1, .slice (some ⟨b7, 0, none⟩) 1 1, [.int .i64 s11.2.2.1.cost, .slice as11_0 ns11_0 cs11_0]⟩, ⟨121, 2, 1, .slice (some ⟨b4, 0, none⟩) 1 1, [.int .i64 s11.2.2.2.cost, .slice as11_1 ns11_1 cs11_1]⟩]) := hO
     refine WL_nil ?_; refine WC_seq ?_; refine WC_seq ?_; refine WC_region ?_; refine WL_val (rn_fld fd121_1 rfl) rfl ?_; refine WL_val (rn_load na25 rfl (own_cell hO (k := 0) rfl (j := 1) rfl)) rfl ?_; refine WL_val (rn_len sl25 rfl rfl h22.1) rfl ?_; refine WL_val (rn_move (v := (.int .i64 0)) rfl) rfl ?_; refine WL_nil ?_; obtain ⟨q29, hq29, H⟩ := bnd H; refine WC_cut (fun F w => ∃ (Fb : Fr) (G : Gm) (aq29_0 : Option Addr) (nq29_0 cq29_0 : Nat) (aq29_1 : Option Addr) (nq29_1 cq29_1 : Nat) (aq29_2 : Option Addr) (nq29_2 cq29_2 : Nat), F = upds Fb [(0, .slice a1 n1 c1), (1, .func (.func k2) (fi2).toArray (ca2).toArray), (2, .func (.func k3) (fi3).toArray (ca3).toArray), (6, .pointer (some ⟨b4, 0, none⟩)), (8, .pointer (some ⟨b7, 0, none⟩)), (9, .bool s11.1), (10, .int .i64 s11.2.1), (11, .pointer (some ⟨b23, 0, none⟩)), (16, .int .i64 y10), (17, .int .i64 s11.2.1)] ∧ Gle G21 G ∧ Since w0.heap.size G0 w0 G w ∧ Owns G w w0.heap.size [⟨121, 2, 1, .slice (some ⟨b23, 0, none⟩) 1 1, [.int .i64 q29.1.cost, .slice aq29_0 nq29_0 cq29_0]⟩, ⟨121, 2, 1, .slice (some ⟨b7, 0, none⟩) 1 1, [.int .i64 q29.2.1.cost, .slice aq29_1 nq29_1 cq29_1]⟩, ⟨121, 2, 1, .slice (some ⟨b4, 0, none⟩) 1 1, [.int .i64 q29.2.2.cost, .slice aq29_2 nq29_2 cq29_2]⟩] ∧ RSl RInt 1 G aq29_0 nq29_0 cq29_0 q29.1.list ∧ RSl RInt 1 G aq29_1 nq29_1 cq29_1 q29.2.1.list ∧ RSl RInt 1 G aq29_2 nq29_2 cq29_2 q29.2.2.list) ?_ ?_
     ·refine WC_block (WC_loop hq29 (fun s27 F w => ∃ (Fb : Fr) (G : Gm) (as27_0 : Option Addr) (ns27_0 cs27_0 : Nat) (as27_1 : Option Addr) (ns27_1 cs27_1 : Nat) (as27_2 : Option Addr) (ns27_2 cs27_2 : Nat), F = upds Fb [(0, .slice a1 n1 c1), (1, .func (.func k2) (fi2).toArray (ca2).toArray), (2, .func (.func k3) (fi3).toArray (ca3).toArray), (6, .pointer (some ⟨b4, 0, none⟩)), (8, .pointer (some ⟨b7, 0, none⟩)), (9, .bool s11.1), (10, .int .i64 s11.2.1), (11, .pointer (some ⟨b23, 0, none⟩)), (16, .int .i64 y10), (17, .int .i64 s11.2.1), (26, .slice a22 n22 c22), (27, .int .i64 (y19.length : Int)), (28, .int .i64 s27.1)] ∧ Gle G21 G ∧ Since w0.heap.size G0 w0 G w ∧ Owns G w w0.heap.size [⟨121, 2, 1, .slice (some ⟨b23, 0, none⟩) 1 1, [.int .i64 s27.2.1.cost, .slice as27_0 ns27_0 cs27_0]⟩, ⟨121, 2, 1, .slice (some ⟨b7, 0, none⟩) 1 1, [.int .i64 s27.2.2.1.cost, .slice as27_1 ns27_1 cs27_1]⟩, ⟨121, 2, 1, .slice (some ⟨b4, 0, none⟩) 1 1, [.int .i64 s27.2.2.2.cost, .slice as27_2 ns27_2 cs27_2]⟩] ∧ RSl RInt 1 G as27_0 ns27_0 cs27_0 s27.2.1.list ∧ RSl RInt 1 G as27_1 ns27_1 cs27_1 s27.2.2.1.list ∧ RSl RInt 1 G as27_2 ns27_2 cs27_2 s27.2.2.2.list) ?_ ?_)
      ·have hO : Owns G21 w26 w0.heap.size ([⟨121, 2, 1, .slice (some ⟨b23, 0, none⟩) 1 1, [.int .i64 0, .slice a22 n22 c22]⟩, ⟨121, 2, 1, .slice (some ⟨b7, 0, none⟩) 1 1, [.int .i64 s11.2.2.1.cost, .slice as11_0 ns11_0 cs11_0]⟩, ⟨121, 2, 1, .slice (some ⟨b4, 0, none⟩) 1 1, [.int .i64 s11.2.2.2.cost, .slice as11_1 ns11_1 cs11_1]⟩]) := hO
       exact ⟨_, G21, a22, n22, c22, as11_0, ns11_0, cs11_0, as11_1, ns11_1, cs11_1, upds_self _ _ ⟨rfl, rfl, rfl, rfl, rfl, rfl, rfl, rfl, rfl, rfl, rfl, rfl, rfl, trivial⟩, Gle.refl _, hS, hO, h22, (hs11_0.mono RInt_mono leG21), (hs11_1.mono RInt_mono leG21)⟩
      ·rintro s27 F w31 t30 ⟨Fb, G32, as27_0, ns27_0, cs27_0, as27_1, ns27_1, cs27_1, as27_2, ns27_2, cs27_2, rfl, leG32, hS, hO, hs27_0, hs27_1, hs27_2⟩
       intro H1 hqq29
       have Hoq29 := H; have H := H1
       unfold f89_b1 at H
       refine WC_seq ?_; refine WC_region ?_; refine WL_val (rn_lss rfl rfl) rfl ?_; refine WL_nil ?_; refine WC_seq ?_; refine WC_cond rfl (fun hb33 => ?_) (fun hb33 => ?_)
       ·have H := ifT hb33 H; refine WC_skip ?_; refine WC_seq ?_; refine WC_block ?_; refine WC_seq ?_; refine WC_region ?_; obtain ⟨y34, hy34, H⟩ := bnd H; refine WL_idx sl25 (h22.mono RInt_mono leG32) hy34 rfl rfl rfl ?_
        rintro b35 o35 _ hcb35 _ ⟨⟩
        refine WL_val (rn_load na3 rfl (hS.sat.cell (hcb35 0 _ rfl))) rfl ?_; refine WL_val (rn_assign (v := (.int .i64 y34)) rfl) rfl ?_; refine WL_nil ?_; have hS := hS.keep (below_drew _); have hO := hO.below (below_drew _)
        refine WC_regionD mixedO (fun w => Sat G32 w ∧ Owns G32 w w0.heap.size [⟨121, 2, 1, .slice (some ⟨b23, 0, none⟩) 1 1, [.int .i64 s27.2.1.cost, .slice as27_0 ns27_0 cs27_0]⟩, ⟨121, 2, 1, .slice (some ⟨b7, 0, none⟩) 1 1, [.int .i64 s27.2.2.1.cost, .slice as27_1 ns27_1 cs27_1]⟩, ⟨121, 2, 1, .slice (some ⟨b4, 0, none⟩) 1 1, [.int .i64 s27.2.2.2.cost, .slice as27_2 ns27_2 cs27_2]⟩]) (.fl 0 (.fl 1 (.fl 2 (.fl 3 (.on 4 (.on 5 (.on 6 (.on 7 (.on 8 (.on 9 (.on 10 .nil))))))))))) (by kernel_rfl) rfl (by kernel_rfl) ⟨hS.sat, hO⟩ ?_
        refine WD_val rfl (fun w hw => rn_fld fd121_0 rfl) rfl ?_; refine WD_val rfl (fun w hw => rn_load na3 rfl (own_cell hw.2 (k := 0) rfl (j := 0) rfl)) rfl ?_; refine WD_val rfl (fun w hw => rn_move (v := (.func (.func k2) (fi2).toArray (ca2).toArray)) rfl) rfl ?_; refine WD_val rfl (fun w hw => rn_move (v := (.slice a1 n1 c1)) rfl) rfl ?_; refine WD_op rfl rfl (OpP_val (rn_move (v := (.int .i64 y34)) rfl) rfl ?_); refine ⟨fun _ => ⟨hS.sat, hO⟩, ?_⟩; obtain ⟨y36, hy36, H⟩ := bnd H
        have l0_3 := (leG16.trans leG21).trans leG32
        refine WD_op rfl rfl (OpP_idx sl22 (h1.mono RTBaneFish_mono l0_3) hy36 rfl rfl rfl ?_)
        rintro b37 o37 _ hcb37 _ ⟨a38, n38, c38, ⟨⟩, h38⟩
        refine ⟨fun _ => ⟨hS.sat, hO⟩, ?_⟩; refine WD_op rfl rfl (OpP_val (rn_loadA ag72 (cs := [.int .i64 y36.Base.Low, .int .i64 y36.Base.High, .slice a38 n38 c38, .int .i64 y36.Pass, .int .i64 y36.Cost]) rfl rfl (fun j v hj => hS.sat.cell (hcb37.drop_take 0 5 j v hj))) rfl ?_); refine ⟨fun _ => ⟨hS.sat, hO⟩, ?_⟩; obtain ⟨y39, hy39, H⟩ := bnd H; refine WD_op rfl rfl (OpP_callVF hf2.1 (hf2.2 _ _ l0_3 hS.sat y36 _ _ _ _ h38 hy39) rfl rfl rfl (fun w40 hb => ?_)); have hS := hS.keep hb; have hO := hO.below hb; refine ⟨fun _ => ⟨hS.sat, hO⟩, ?_⟩; refine WD_op rfl rfl (OpP_val (rn_add rfl rfl) rfl ?_)
        refine ⟨fun h => nomore (by kernel_rfl) h, ?_⟩
        refine WD_op rfl rfl (OpP_val (rn_fld fd121_0 rfl) rfl ?_)
        refine ⟨fun h => nomore (by kernel_rfl) h, ?_⟩
        refine WD_op rfl rfl (OpP_store (vs := [.int .i64 (IntKind.i64.wrap (s27.2.1.cost + y39))]) sz3 hS hO (k := 0) rfl rfl rfl rfl rfl (one_all rfl) (Nat.le_of_ble_eq_true rfl) (fun w41 hS hO => ?_))
        have hO : Owns G32 w41 w0.heap.size ([⟨121, 2, 1, .slice (some ⟨b23, 0, none⟩) 1 1, [.int .i64 (IntKind.i64.wrap (s27.2.1.cost + y39)), .slice as27_0 ns27_0 cs27_0]⟩, ⟨121, 2, 1, .slice (some ⟨b7, 0, none⟩) 1 1, [.int .i64 s27.2.2.1.cost, .slice as27_1 ns27_1 cs27_1]⟩, ⟨121, 2, 1, .slice (some ⟨b4, 0, none⟩) 1 1, [.int .i64 s27.2.2.2.cost, .slice as27_2 ns27_2 cs27_2]⟩]) := hO
        refine ⟨fun h => nomore (by kernel_rfl) h, ?_⟩
        refine WD_nil ?_; refine WC_region ?_; refine WL_val (rn_add rfl rfl) rfl ?_; refine WL_val (rn_move (v := (.int .i64 (IntKind.i64.wrap (s27.1 + 1)))) rfl) rfl ?_; refine WL_nil ?_
        have hO : Owns G32 w41 w0.heap.size ([⟨121, 2, 1, .slice (some ⟨b23, 0, none⟩) 1 1, [.int .i64 (IntKind.i64.wrap (s27.2.1.cost + y39)), .slice as27_0 ns27_0 cs27_0]⟩, ⟨121, 2, 1, .slice (some ⟨b7, 0, none⟩) 1 1, [.int .i64 s27.2.2.1.cost, .slice as27_1 ns27_1 cs27_1]⟩, ⟨121, 2, 1, .slice (some ⟨b4, 0, none⟩) 1 1, [.int .i64 s27.2.2.2.cost, .slice as27_2 ns27_2 cs27_2]⟩]) := hO
        have H := Option.some.inj H; subst H; refine ⟨_, rfl, ?_⟩
        exact ⟨_, G32, as27_0, ns27_0, cs27_0, as27_1, ns27_1, cs27_1, as27_2, ns27_2, cs27_2, upds_self _ _ ⟨rfl, rfl, rfl, rfl, rfl, rfl, rfl, rfl, rfl, rfl, rfl, rfl, rfl, trivial⟩, leG32, hS, hO, hs27_0, hs27_1, hs27_2⟩
       ·have H := ifF hb33 H; refine WC_exit rfl ?_
        have hO : Owns G32 w31 w0.heap.size ([⟨121, 2, 1, .slice (some ⟨b23, 0, none⟩) 1 1, [.int .i64 s27.2.1.cost, .slice as27_0 ns27_0 cs27_0]⟩, ⟨121, 2, 1, .slice (some ⟨b7, 0, none⟩) 1 1, [.int .i64 s27.2.2.1.cost, .slice as27_1 ns27_1 cs27_1]⟩, ⟨121, 2, 1, .slice (some ⟨b4, 0, none⟩) 1 1, [.int .i64 s27.2.2.2.cost, .slice as27_2 ns27_2 cs27_2]⟩]) := hO
        have H := Option.some.inj H; subst H
        have hres := hqq29 _ rfl
        subst hres
        exact ⟨_, G32, as27_0, ns27_0, cs27_0, as27_1, ns27_1, cs27_1, as27_2, ns27_2, cs27_2, upds_self _ _ ⟨rfl, rfl, rfl, rfl, rfl, rfl, rfl, rfl, rfl, rfl, trivial⟩, leG32, hS, hO, hs27_0, hs27_1, hs27_2⟩
     ·rintro F w42 ⟨Fb, G43, aq29_0, nq29_0, cq29_0, aq29_1, nq29_1, cq29_1, aq29_2, nq29_2, cq29_2, rfl, leG43, hS, hO, hq29_0, hq29_1, hq29_2⟩
      refine WC_seq ?_; obtain ⟨q44, hq44, H⟩ := bnd H; refine WC_cut (fun F w => ∃ (Fb : Fr) (G : Gm), F = upds Fb [(0, .slice a1 n1 c1), (1, .func (.func k2) (fi2).toArray (ca2).toArray), (2, .func (.func k3) (fi3).toArray (ca3).toArray), (6, .pointer (some ⟨b4, 0, none⟩)), (8, .pointer (some ⟨b7, 0, none⟩)), (9, .bool s11.1), (11, .pointer (some ⟨b23, 0, none⟩)), (16, .int .i64 y10), (17, .int .i64 s11.2.1), (54, .bool q44)] ∧ Gle G43 G ∧ Since w0.heap.size G0 w0 G w ∧ Owns G w w0.heap.size [⟨121, 2, 1, .slice (some ⟨b23, 0, none⟩) 1 1, [.int .i64 q29.1.cost, .slice aq29_0 nq29_0 cq29_0]⟩, ⟨121, 2, 1, .slice (some ⟨b7, 0, none⟩) 1 1, [.int .i64 q29.2.1.cost, .slice aq29_1 nq29_1 cq29_1]⟩, ⟨121, 2, 1, .slice (some ⟨b4, 0, none⟩) 1 1, [.int .i64 q29.2.2.cost, .slice aq29_2 nq29_2 cq29_2]⟩]) ?_ ?_
      ·have Hoq44 := H; have H := hq44; refine WC_region ?_; refine WL_val (rn_move (v := (.bool s11.1)) rfl) rfl ?_; refine WL_val (rn_not rfl) rfl ?_; refine WL_val (rn_move (v := (.bool (!s11.1))) rfl) rfl ?_
       rcases bcases (!s11.1) with hb45 | hb45
       ·have H := ifT hb45 H; refine WL_guardN rfl hb45 rfl rfl rfl ?_; refine WL_guardN rfl hb45 rfl rfl rfl ?_; refine WL_guardN rfl hb45 rfl rfl rfl ?_; refine WL_val (rn_pickT (v := (.bool true)) rfl hb45 rfl) rfl ?_; refine WL_val (rn_move (v := (.bool true)) rfl) rfl ?_; refine WL_guardY rfl rfl rfl rfl ?_; refine WL_val (rn_move (v := (.func (.func k3) (fi3).toArray (ca3).toArray)) rfl) rfl ?_; refine WL_guardY rfl rfl rfl rfl ?_; refine WL_val (rn_move (v := (.int .i64 s11.2.1)) rfl) rfl ?_; refine WL_guardY rfl rfl rfl rfl ?_; obtain ⟨y46, hy46, H⟩ := bnd H
        have l0_3 := (leG16.trans leG21).trans leG43
        refine WL_op rfl (OpP_callVF hf3.1 (hf3.2 _ _ l0_3 hS.sat s11.2.1 _  hy46) rfl rfl rfl (fun w47 hb => ?_)); have hS := hS.keep hb; have hO := hO.below hb; refine WL_val (rn_pickT (v := (.bool y46)) rfl rfl rfl) rfl ?_; refine WL_nil ?_
        have hO : Owns G43 w47 w0.heap.size ([⟨121, 2, 1, .slice (some ⟨b23, 0, none⟩) 1 1, [.int .i64 q29.1.cost, .slice aq29_0 nq29_0 cq29_0]⟩, ⟨121, 2, 1, .slice (some ⟨b7, 0, none⟩) 1 1, [.int .i64 q29.2.1.cost, .slice aq29_1 nq29_1 cq29_1]⟩, ⟨121, 2, 1, .slice (some ⟨b4, 0, none⟩) 1 1, [.int .i64 q29.2.2.cost, .slice aq29_2 nq29_2 cq29_2]⟩]) := hO
        have H := Option.some.inj H; subst H
        exact ⟨_, G43, upds_self _ _ ⟨rfl, rfl, rfl, rfl, rfl, rfl, rfl, rfl, rfl, rfl, trivial⟩, Gle.refl _, hS, hO⟩
       ·have H := ifF hb45 H; refine WL_guardY rfl hb45 rfl rfl ?_; refine WL_val (rn_loadA ag121 (cs := [.int .i64 q29.1.cost, .slice aq29_0 nq29_0 cq29_0]) rfl rfl (fun j v hj => own_sub hO (k := 0) rfl 0 2 j v hj)) rfl ?_; refine WL_guardY rfl hb45 rfl rfl ?_; refine WL_val (rn_loadA ag121 (cs := [.int .i64 q29.2.1.cost, .slice aq29_1 nq29_1 cq29_1]) rfl rfl (fun j v hj => own_sub hO (k := 1) rfl 0 2 j v hj)) rfl ?_; refine WL_guardY rfl hb45 rfl rfl ?_; obtain ⟨y48, hy48, H⟩ := bnd H; refine WL_op rfl (OpP_callV cb106 (f106_ok (x0 := q29.1) (x1 := q29.2.1) hS.sat hq29_0 hq29_1 hy48) rfl rfl (fun w49 hb => ?_)); have hS := hS.keep hb; have hO := hO.below hb; refine WL_val (rn_pickF (v := (.bool y48)) rfl hb45 rfl) rfl ?_; refine WL_val (rn_move (v := (.bool y48)) rfl) rfl ?_
        rcases bcases y48 with hb50 | hb50
        ·have H := ifT hb50 H; refine WL_guardY rfl hb50 rfl rfl ?_; refine WL_val (rn_move (v := (.func (.func k3) (fi3).toArray (ca3).toArray)) rfl) rfl ?_; refine WL_guardY rfl hb50 rfl rfl ?_; refine WL_val (rn_move (v := (.int .i64 s11.2.1)) rfl) rfl ?_; refine WL_guardY rfl hb50 rfl rfl ?_; obtain ⟨y51, hy51, H⟩ := bnd H
         have l0_3 := (leG16.trans leG21).trans leG43
         refine WL_op rfl (OpP_callVF hf3.1 (hf3.2 _ _ l0_3 hS.sat s11.2.1 _  hy51) rfl rfl rfl (fun w52 hb => ?_)); have hS := hS.keep hb; have hO := hO.below hb; refine WL_val (rn_pickT (v := (.bool y51)) rfl hb50 rfl) rfl ?_; refine WL_nil ?_
         have hO : Owns G43 w52 w0.heap.size ([⟨121, 2, 1, .slice (some ⟨b23, 0, none⟩) 1 1, [.int .i64 q29.1.cost, .slice aq29_0 nq29_0 cq29_0]⟩, ⟨121, 2, 1, .slice (some ⟨b7, 0, none⟩) 1 1, [.int .i64 q29.2.1.cost, .slice aq29_1 nq29_1 cq29_1]⟩, ⟨121, 2, 1, .slice (some ⟨b4, 0, none⟩) 1 1, [.int .i64 q29.2.2.cost, .slice aq29_2 nq29_2 cq29_2]⟩]) := hO
         have H := Option.some.inj H; subst H
         exact ⟨_, G43, upds_self _ _ ⟨rfl, rfl, rfl, rfl, rfl, rfl, rfl, rfl, rfl, rfl, trivial⟩, Gle.refl _, hS, hO⟩
        ·have H := ifF hb50 H; refine WL_guardN rfl hb50 rfl rfl rfl ?_; refine WL_guardN rfl hb50 rfl rfl rfl ?_; refine WL_guardN rfl hb50 rfl rfl rfl ?_; refine WL_val (rn_pickF (v := (.bool false)) rfl hb50 rfl) rfl ?_; refine WL_nil ?_
         have hO : Owns G43 w49 w0.heap.size ([⟨121, 2, 1, .slice (some ⟨b23, 0, none⟩) 1 1, [.int .i64 q29.1.cost, .slice aq29_0 nq29_0 cq29_0]⟩, ⟨121, 2, 1, .slice (some ⟨b7, 0, none⟩) 1 1, [.int .i64 q29.2.1.cost, .slice aq29_1 nq29_1 cq29_1]⟩, ⟨121, 2, 1, .slice (some ⟨b4, 0, none⟩) 1 1, [.int .i64 q29.2.2.cost, .slice aq29_2 nq29_2 cq29_2]⟩]) := hO
         have H := Option.some.inj H; subst H
         exact ⟨_, G43, upds_self _ _ ⟨rfl, rfl, rfl, rfl, rfl, rfl, rfl, rfl, rfl, rfl, trivial⟩, Gle.refl _, hS, hO⟩
      ·rintro F w53 ⟨Fb, G54, rfl, leG54, hS, hO⟩
       refine WC_cond rfl (fun hb55 => ?_) (fun hb55 => ?_)
       ·have H := ifT hb55 H; refine WC_region ?_; refine WL_val (rn_loadA ag121 (cs := [.int .i64 q29.1.cost, .slice aq29_0 nq29_0 cq29_0]) rfl rfl (fun j v hj => own_sub hO (k := 0) rfl 0 2 j v hj)) rfl ?_; refine WL_op rfl (OpP_store (vs := [.int .i64 q29.1.cost, .slice aq29_0 nq29_0 cq29_0]) sz121 hS hO (k := 1) rfl rfl rfl rfl rfl (one_all rfl) (Nat.le_of_ble_eq_true rfl) (fun w56 hS hO => ?_))
        have hO : Owns G54 w56 w0.heap.size ([⟨121, 2, 1, .slice (some ⟨b23, 0, none⟩) 1 1, [.int .i64 q29.1.cost, .slice aq29_0 nq29_0 cq29_0]⟩, ⟨121, 2, 1, .slice (some ⟨b7, 0, none⟩) 1 1, [.int .i64 q29.1.cost, .slice aq29_0 nq29_0 cq29_0]⟩, ⟨121, 2, 1, .slice (some ⟨b4, 0, none⟩) 1 1, [.int .i64 q29.2.2.cost, .slice aq29_2 nq29_2 cq29_2]⟩]) := hO
        refine WL_val (rn_assign (v := (.bool true)) rfl) rfl ?_; refine WL_nil ?_; have hO := hO.drop 0
        have hO : Owns G54 w56 w0.heap.size ([⟨121, 2, 1, .slice (some ⟨b7, 0, none⟩) 1 1, [.int .i64 q29.1.cost, .slice aq29_0 nq29_0 cq29_0]⟩, ⟨121, 2, 1, .slice (some ⟨b4, 0, none⟩) 1 1, [.int .i64 q29.2.2.cost, .slice aq29_2 nq29_2 cq29_2]⟩]) := hO
        have H := Option.some.inj H; subst H
        have l1_4 := (leG21.trans leG43).trans leG54
        exact ⟨_, G54, aq29_0, nq29_0, cq29_0, aq29_2, nq29_2, cq29_2, upds_self _ _ ⟨rfl, rfl, rfl, rfl, rfl, rfl, rfl, rfl, trivial⟩, l1_4, hS, hO, (hq29_0.mono RInt_mono leG54), (hq29_2.mono RInt_mono leG54)⟩
       ·have H := ifF hb55 H; refine WC_skip ?_; have hO := hO.drop 0
        have hO : Owns G54 w53 w0.heap.size ([⟨121, 2, 1, .slice (some ⟨b7, 0, none⟩) 1 1, [.int .i64 q29.2.1.cost, .slice aq29_1 nq29_1 cq29_1]⟩, ⟨121, 2, 1, .slice (some ⟨b4, 0, none⟩) 1 1, [.int .i64 q29.2.2.cost, .slice aq29_2 nq29_2 cq29_2]⟩]) := hO
        have H := Option.some.inj H; subst H
        have l1_4 := (leG21.trans leG43).trans leG54
        exact ⟨_, G54, aq29_1, nq29_1, cq29_1, aq29_2, nq29_2, cq29_2, upds_self _ _ ⟨rfl, rfl, rfl, rfl, rfl, rfl, rfl, rfl, trivial⟩, l1_4, hS, hO, (hq29_1.mono RInt_mono leG54), (hq29_2.mono RInt_mono leG54)⟩
    ·rintro F w57 ⟨Fb, G58, aq18_0, nq18_0, cq18_0, aq18_1, nq18_1, cq18_1, rfl, leG58, hS, hO, hq18_0, hq18_1⟩
     refine WC_region ?_; refine WL_val (rn_add rfl rfl) rfl ?_; refine WL_val (rn_move (v := (.int .i64 (IntKind.i64.wrap (s11.2.1 + 1)))) rfl) rfl ?_; refine WL_nil ?_
     have hO : Owns G58 w57 w0.heap.size ([⟨121, 2, 1, .slice (some ⟨b7, 0, none⟩) 1 1, [.int .i64 q18.2.1.cost, .slice aq18_0 nq18_0 cq18_0]⟩, ⟨121, 2, 1, .slice (some ⟨b4, 0, none⟩) 1 1, [.int .i64 q18.2.2.cost, .slice aq18_1 nq18_1 cq18_1]⟩]) := hO
     have H := Option.some.inj H; subst H; refine ⟨_, rfl, ?_⟩
     have l0_2 := leG16.trans leG58
     exact ⟨_, G58, aq18_0, nq18_0, cq18_0, aq18_1, nq18_1, cq18_1, upds_self _ _ ⟨rfl, rfl, rfl, rfl, rfl, rfl, rfl, rfl, trivial⟩, l0_2, hS, hO, hq18_0, hq18_1⟩
   ·have H := ifF hb17 H; refine WC_exit rfl ?_
    have hO : Owns G16 w15 w0.heap.size ([⟨121, 2, 1, .slice (some ⟨b7, 0, none⟩) 1 1, [.int .i64 s11.2.2.1.cost, .slice as11_0 ns11_0 cs11_0]⟩, ⟨121, 2, 1, .slice (some ⟨b4, 0, none⟩) 1 1, [.int .i64 s11.2.2.2.cost, .slice as11_1 ns11_1 cs11_1]⟩]) := hO
    have H := Option.some.inj H; subst H
    have hres := hqq13 _ rfl
    subst hres
    exact ⟨_, G16, as11_0, ns11_0, cs11_0, as11_1, ns11_1, cs11_1, upds_self _ _ ⟨rfl, rfl, rfl, trivial⟩, leG16, hS, hO, hs11_0, hs11_1⟩
 ·rintro F w59 ⟨Fb, G60, aq13_0, nq13_0, cq13_0, aq13_1, nq13_1, cq13_1, rfl, leG60, hS, hO, hq13_0, hq13_1⟩
  refine WC_seq ?_; refine WC_region ?_; refine WL_val (rn_loadA ag121 (cs := [.int .i64 q13.2.1.cost, .slice aq13_0 nq13_0 cq13_0]) rfl rfl (fun j v hj => own_sub hO (k := 0) rfl 0 2 j v hj)) rfl ?_; refine WL_val (rn_move (v := (.bool q13.1)) rfl) rfl ?_; refine WL_op rfl (OpP_store (vs := [.int .i64 q13.2.1.cost, .slice aq13_0 nq13_0 cq13_0]) sz121 hS hO (k := 1) rfl rfl rfl rfl rfl (one_all rfl) (Nat.le_of_ble_eq_true rfl) (fun w61 hS hO => ?_))
  have hO : Owns G60 w61 w0.heap.size ([⟨121, 2, 1, .slice (some ⟨b7, 0, none⟩) 1 1, [.int .i64 q13.2.1.cost, .slice aq13_0 nq13_0 cq13_0]⟩, ⟨121, 2, 1, .slice (some ⟨b4, 0, none⟩) 1 1, [.int .i64 q13.2.1.cost, .slice aq13_0 nq13_0 cq13_0]⟩]) := hO
  obtain ⟨G62, leG62, hS, hO, hqG62, _⟩ := hO.freeze hS (k := 1) rfl
  have hcG62 : Cells G62 b4 0 [.int .i64 q13.2.1.cost, .slice aq13_0 nq13_0 cq13_0] := (hqG62 _ _ _ _ rfl)
  refine WL_val (rn_assign (v := (.bool q13.1)) rfl) rfl ?_; refine WL_nil ?_; refine WC_ret ?_
  have H : some (q13.2.1, q13.1) = some r := H
  have H := Option.some.inj H; subst H
  exact ⟨[.agg #[.int .i64 q13.2.1.cost, .slice aq13_0 nq13_0 cq13_0], .bool q13.1], ⟨⟨_, rfl, ld_agg (cs := [.int .i64 q13.2.1.cost, .slice aq13_0 nq13_0 cq13_0]) ag121 rfl (fun j v hj => hS.sat.cell (hcG62 j v hj))⟩, rfl, trivial⟩, ⟨_, _, rfl, hS.toGrow, _, _, _, rfl, (hq13_0.mono RInt_mono leG62)⟩⟩
set_option maxHeartbeats 1000000 in
theorem f90_ok {G0 : Gm} {w0 : World} (hS0 : Sat G0 w0) {x0 : TBaneFish} {a1 : Option Addr} {n1 c1 : Nat} (h1 : RSl RTBaneBite 3 G0 a1 n1 c1 x0.Bites) {r : Int} (H : f90 x0 = some r) :
  Calls Try.prog 90 #[.agg #[.int .i64 x0.Base.Low, .int .i64 x0.Base.High, .slice a1 n1 c1, .int .i64 x0.Pass, .int .i64 x0.Cost]] w0 (RetV w0 (.int .i64 r)) := by
 have hS := Since.start hS0
 have hO : Owns G0 w0 w0.heap.size [] := Owns.nil (Nat.le_refl _)
 unfold f90 at H
 refine enter1 (N := 5) (shutV _ _) Try.func90 rfl rfl rfl rfl ?_; refine WC_seq ?_; refine WC_region ?_; refine WL_op rfl (OpP_newF (v := fun b => .pointer (some ⟨b, 0, none⟩)) (cs := [.int .i64 x0.Base.Low, .int .i64 x0.Base.High, .slice a1 n1 c1, .int .i64 x0.Pass, .int .i64 x0.Cost]) (e := 72) (rn_boxA rfl) hS.sat rfl (fun b2 G4 w3 hg hcb2 => ?_)); have hS := hS.grow hg; have hO := hO.grow hg
 have leG4 := hg.le
 refine WL_val (rn_assign (v := (.int .i64 0)) rfl) rfl ?_; refine WL_nil ?_; refine WC_seq ?_; refine WC_region ?_; refine WL_val (rn_fld fd72_3 rfl) rfl ?_; refine WL_val (rn_load na3 rfl (hS.sat.cell (hcb2 4 _ rfl))) rfl ?_; refine WL_val (rn_assign (v := (.int .i64 x0.Cost)) rfl) rfl ?_; refine WL_nil ?_; refine WC_ret ?_
 have H : some x0.Cost = some r := H
 have H := Option.some.inj H; subst H
 exact ⟨rfl, hS.below⟩
set_option maxHeartbeats 1000000 in
theorem f109_ok {G0 : Gm} {w0 : World} (hS0 : Sat G0 w0) {x0 : Int} {x1 : (List Int)} {bq1 : Nat} {a1 : Option Addr} {n1 c1 : Nat} {x2 : TWeb} {bq2 : Nat} {a2 : Option Addr} {n2 c2 : Nat} (hcq1 : Cells G0 bq1 0 [.slice a1 n1 c1]) (h1 : RSl RInt 1 G0 a1 n1 c1 x1) (hcq2 : Cells G0 bq2 0 [.slice a2 n2 c2, .int .i64 x2.BaneWeb.Limit, .int .i64 x2.tests]) (h2 : RSl RTBaneFish 5 G0 a2 n2 c2 x2.BaneWeb.Fish) {r : Bool} (H : f109 x0 x1 x2 = some r) :
  Calls Try.prog 109 #[.int .i64 x0, .pointer (some ⟨bq1, 0, none⟩), .pointer (some ⟨bq2, 0, none⟩)] w0 (RetV w0 (.bool r)) := by
 have hS := Since.start hS0
 have hO : Owns G0 w0 w0.heap.size [] := Owns.nil (Nat.le_refl _)
 unfold f109 at H
 refine enter1 (N := 13) (shutV _ _) Try.func109 rfl rfl rfl rfl ?_; refine WC_seq ?_; refine WC_region ?_; refine WL_val (rn_assign (v := (.bool false)) rfl) rfl ?_; refine WL_nil ?_; refine WC_seq ?_; have hS := hS.keep (below_drew _); have hO := hO.below (below_drew _)
 refine WC_regionD mixedO (fun w => Sat G0 w ∧ True) (.fl 0 (.fl 1 (.fl 2 (.fl 3 (.on 4 (.on 5 (.on 6 (.on 7 (.on 8 .nil))))))))) (by kernel_rfl) rfl (by kernel_rfl) ⟨hS.sat, trivial⟩ ?_
 refine WD_val rfl (fun w hw => rn_load na25 rfl (hw.1.cell (hcq1 0 _ rfl))) rfl ?_; refine WD_val rfl (fun w hw => rn_move (v := (.int .i64 x0)) rfl) rfl ?_; obtain ⟨y3, hy3, H⟩ := bnd H; refine WD_idx rfl sl25 h1 hy3 rfl rfl rfl ?_
 rintro b4 o4 _ hcb4 _ ⟨⟩
 refine WD_val rfl (fun w hw => rn_load na3 rfl (hw.1.cell (hcb4 0 _ rfl))) rfl ?_; refine WD_op rfl rfl (OpP_val (rn_fld fd104_0 rfl) rfl ?_); refine ⟨fun _ => ⟨hS.sat, trivial⟩, ?_⟩; refine WD_op rfl rfl (OpP_val (rn_fld fd24_1 rfl) rfl ?_); refine ⟨fun _ => ⟨hS.sat, trivial⟩, ?_⟩; refine WD_op rfl rfl (OpP_val (rn_load na3 rfl (hS.sat.cell (hcq2 1 _ rfl))) rfl ?_); refine ⟨fun _ => ⟨hS.sat, trivial⟩, ?_⟩; refine WD_op rfl rfl (OpP_val (rn_gtr rfl rfl) rfl ?_)
 refine ⟨fun h => nomore (by kernel_rfl) h, ?_⟩
 refine WD_op rfl rfl (OpP_val (rn_assign (v := (.bool (decide (x2.BaneWeb.Limit < y3)))) rfl) rfl ?_)
 refine ⟨fun h => nomore (by kernel_rfl) h, ?_⟩
 refine WD_nil ?_; refine WC_ret ?_
 have H : some (decide (x2.BaneWeb.Limit < y3)) = some r := H
 have H := Option.some.inj H; subst H
 exact ⟨rfl, hS.below⟩
set_option maxHeartbeats 1000000 in
theorem f88_ok {G0 : Gm} {w0 : World} (hS0 : Sat G0 w0) {x0 : TWeb} {a1 : Option Addr} {n1 c1 : Nat} {x1 : (List Int)} {a2 : Option Addr} {n2 c2 : Nat} (h1 : RSl RTBaneFish 5 G0 a1 n1 c1 x0.BaneWeb.Fish) (h2 : RSl RInt 1 G0 a2 n2 c2 x1) {r : Bool} (H : f88 x0 x1 = some r) :
  Calls Try.prog 88 #[.agg #[.slice a1 n1 c1, .int .i64 x0.BaneWeb.Limit, .int .i64 x0.tests], .slice a2 n2 c2] w0 (RetV w0 (.bool r)) := by
 have hS := Since.start hS0
 have hO : Owns G0 w0 w0.heap.size [] := Owns.nil (Nat.le_refl _)
 unfold f88 at H
 refine enter1 (N := 12) (shutV _ _) Try.func88 rfl rfl rfl rfl ?_; refine WC_seq ?_; refine WC_region ?_; refine WL_op rfl (OpP_newF (v := fun b => .pointer (some ⟨b, 0, none⟩)) (cs := [.slice a1 n1 c1, .int .i64 x0.BaneWeb.Limit, .int .i64 x0.tests]) (e := 104) (rn_boxA rfl) hS.sat rfl (fun b3 G5 w4 hg hcb3 => ?_)); have hS := hS.grow hg; have hO := hO.grow hg
 have leG5 := hg.le
 refine WL_val (rn_assign (v := (.bool false)) rfl) rfl ?_; refine WL_nil ?_; refine WC_seq ?_; refine WC_region ?_; refine WL_val (rn_loadA ag104 (cs := [.slice a1 n1 c1, .int .i64 x0.BaneWeb.Limit, .int .i64 x0.tests]) rfl rfl (fun j v hj => hS.sat.cell (hcb3.drop_take 0 3 j v hj))) rfl ?_; obtain ⟨y6, hy6, H⟩ := bnd H; refine WL_op rfl (OpP_callG cb72 (f72_ok (x0 := x0) hS.sat (h1.mono RTBaneFish_mono leG5) hy6) rfl rfl (fun vy6 G8 w7 hg hvy6 => ?_)); obtain ⟨a9, n9, c9, ⟨⟩, h9⟩ := hvy6; have hS := hS.grow hg; have hO := hO.grow hg
 have leG8 := hg.le
 refine WL_op rfl (OpP_newO (v := fun b => .pointer (some ⟨b, 0, none⟩)) (cs := [.slice none 0 0]) (e := 25) (by kernel_rfl) hS.sat hO rfl 1 1 rfl (by decide) (fun b10 w11 hb hO => ?_))
 have hS := hS.keep hb; refine WL_op rfl (OpP_store (vs := [.slice a9 n9 c9]) sz25 hS hO (k := 0) rfl rfl rfl rfl rfl (one_all rfl) (Nat.le_of_ble_eq_true rfl) (fun w13 hS hO => ?_))
 have hO : Owns G8 w13 w0.heap.size ([⟨25, 1, 1, .slice (some ⟨b10, 0, none⟩) 1 1, [.slice a9 n9 c9]⟩]) := hO
 obtain ⟨G14, leG14, hS, hO, hqG14, _⟩ := hO.freeze hS (k := 0) rfl
 have hcG14 : Cells G14 b10 0 [.slice a9 n9 c9] := (hqG14 _ _ _ _ rfl)
 refine WL_nil ?_; refine WC_seq ?_; refine WC_region ?_; refine WL_val (rn_move (v := (.slice a2 n2 c2)) rfl) rfl ?_
 have l1_3 := leG8.trans leG14
 have l0_3 := leG5.trans l1_3
 have hF15 : FnOk125 G14 109 [] [.pointer (some ⟨b10, 0, none⟩), .pointer (some ⟨b3, 0, none⟩)] (fun (z0 : Int) => f109 z0 y6 x0) := ⟨cb109, fun G1 W1 hl hw z0 r1 H1 => f109_ok (x0 := z0) (x1 := y6) (x2 := x0) hw (hcG14.mono hl) ((h9.mono RInt_mono leG14).mono RInt_mono hl) ((hcb3.mono l1_3).mono hl) ((h1.mono RTBaneFish_mono l0_3).mono RTBaneFish_mono hl) H1⟩
 refine WL_val (rn_func (vs := []) (us := [.pointer (some ⟨b10, 0, none⟩), .pointer (some ⟨b3, 0, none⟩)]) rfl rfl) rfl ?_; obtain ⟨y16, hy16, H⟩ := bnd H; refine WL_op rfl (OpP_callV cb107 (f107_ok (x0 := x1) (x1 := (fun (z0 : Int) => f109 z0 y6 x0)) hS.sat (h2.mono RInt_mono l0_3) hF15 hy16) rfl rfl (fun w17 hb => ?_)); have hS := hS.keep hb; have hO := hO.below hb; refine WL_val (rn_not rfl) rfl ?_; refine WL_val (rn_assign (v := (.bool (!y16))) rfl) rfl ?_; refine WL_nil ?_; refine WC_ret ?_
 have H : some (!y16) = some r := H
 have H := Option.some.inj H; subst H
 exact ⟨rfl, hS.below⟩
set_option maxHeartbeats 1000000 in
theorem f91_ok {G0 : Gm} {w0 : World} (hS0 : Sat G0 w0) {x0 : Int} {x1 : TBaneWeb} {bq1 : Nat} {a1 : Option Addr} {n1 c1 : Nat} {x2 : (List Int)} {bq2 : Nat} {a2 : Option Addr} {n2 c2 : Nat} (hcq1 : Cells G0 bq1 0 [.slice a1 n1 c1, .int .i64 x1.Limit]) (h1 : RSl RTBaneFish 5 G0 a1 n1 c1 x1.Fish) (hcq2 : Cells G0 bq2 0 [.slice a2 n2 c2]) (h2 : RSl RInt 1 G0 a2 n2 c2 x2) {r : Bool} (H : f91 x0 x1 x2 = some r) :
  Calls Try.prog 91 #[.int .i64 x0, .pointer (some ⟨bq1, 0, none⟩), .pointer (some ⟨bq2, 0, none⟩)] w0 (RetV w0 (.bool r)) := by
 have hS := Since.start hS0
 have hO : Owns G0 w0 w0.heap.size [] := Owns.nil (Nat.le_refl _)
 unfold f91 at H
 refine enter1 (N := 10) (shutV _ _) Try.func91 rfl rfl rfl rfl ?_; refine WC_seq ?_; refine WC_region ?_; refine WL_val (rn_assign (v := (.bool false)) rfl) rfl ?_; refine WL_nil ?_; refine WC_seq ?_; refine WC_region ?_; refine WL_val (rn_loadA ag24 (cs := [.slice a1 n1 c1, .int .i64 x1.Limit]) rfl rfl (fun j v hj => hS.sat.cell (hcq1.drop_take 0 2 j v hj))) rfl ?_; refine WL_val (rn_move (v := (.int .i64 x0)) rfl) rfl ?_
 refine WL_val (v := (.agg #[.slice a1 n1 c1, .int .i64 x1.Limit, .int .i64 x0])) (by kernel_rfl) rfl ?_
 refine WL_val (rn_load na25 rfl (hS.sat.cell (hcq2 0 _ rfl))) rfl ?_; obtain ⟨y3, hy3, H⟩ := bnd H; refine WL_op rfl (OpP_callV cb88 (f88_ok (x0 := (⟨x1, x0⟩ : TWeb)) (x1 := x2) hS.sat h1 h2 hy3) rfl rfl (fun w4 hb => ?_)); have hS := hS.keep hb; have hO := hO.below hb; refine WL_val (rn_assign (v := (.bool y3)) rfl) rfl ?_; refine WL_nil ?_; refine WC_ret ?_
 have H : some y3 = some r := H
 have H := Option.some.inj H; subst H
 exact ⟨rfl, hS.below⟩
set_option maxHeartbeats 1000000 in
theorem f42_ok {G0 : Gm} {w0 : World} (hS0 : Sat G0 w0) {x0 : TBaneWeb} {a1 : Option Addr} {n1 c1 : Nat} {x1 : (List Int)} {a2 : Option Addr} {n2 c2 : Nat} (h1 : RSl RTBaneFish 5 G0 a1 n1 c1 x0.Fish) (h2 : RSl RInt 1 G0 a2 n2 c2 x1) {r : (List Int) × Int × Int} (H : f42 x0 x1 = some r) :
  Calls Try.prog 42 #[.agg #[.slice a1 n1 c1, .int .i64 x0.Limit], .slice a2 n2 c2] w0 (RetG G0 w0 (fun G v => ∃ (ra0 : Option Addr) (rn0 rc0 : Nat), v = .tuple #[.slice ra0 rn0 rc0, .int .i64 r.2.1, .int .i64 r.2.2] ∧ RSl RInt 1 G ra0 rn0 rc0 r.1)) := by
 have hS := Since.start hS0
 have hO : Owns G0 w0 w0.heap.size [] := Owns.nil (Nat.le_refl _)
 unfold f42 at H
 refine enter3 (N := 33) (shutG _ _ _) Try.func42 rfl rfl rfl rfl ?_; refine WC_seq ?_; refine WC_region ?_; refine WL_op rfl (OpP_newF (v := fun b => .pointer (some ⟨b, 0, none⟩)) (cs := [.slice a1 n1 c1, .int .i64 x0.Limit]) (e := 24) (rn_boxA rfl) hS.sat rfl (fun b3 G5 w4 hg hcb3 => ?_)); have hS := hS.grow hg; have hO := hO.grow hg
 have leG5 := hg.le
 refine WL_op rfl (OpP_newF (v := fun b => .pointer (some ⟨b, 0, none⟩)) (cs := [.slice a2 n2 c2]) (e := 25) (rn_box1 rfl rfl) hS.sat rfl (fun b6 G8 w7 hg hcb6 => ?_)); have hS := hS.grow hg; have hO := hO.grow hg
 have leG8 := hg.le
 refine WL_val (rn_assign (v := (.slice none 0 0)) rfl) rfl ?_; refine WL_val (rn_assign (v := (.int .i64 0)) rfl) rfl ?_; refine WL_val (rn_assign (v := (.int .i64 0)) rfl) rfl ?_; refine WL_nil ?_; refine WC_seq ?_; refine WC_seq ?_; obtain ⟨q9, hq9, H⟩ := bnd H; refine WC_cut (fun F w => ∃ (Fb : Fr) (G : Gm), F = upds Fb [(2, .pointer (some ⟨b3, 0, none⟩)), (3, .pointer (some ⟨b6, 0, none⟩)), (19, .bool q9)] ∧ Gle G8 G ∧ Since w0.heap.size G0 w0 G w ∧ Owns G w w0.heap.size []) ?_ ?_
 ·have Hoq9 := H; have H := hq9; refine WC_region ?_; refine WL_val (rn_loadA ag24 (cs := [.slice a1 n1 c1, .int .i64 x0.Limit]) rfl rfl (fun j v hj => (hS.sat.le leG8).cell (hcb3.drop_take 0 2 j v hj))) rfl ?_; obtain ⟨y10, hy10, H⟩ := bnd H
  have l0_2 := leG5.trans leG8
  refine WL_op rfl (OpP_callV cb65 (f65_ok (x0 := x0) hS.sat (h1.mono RTBaneFish_mono l0_2) hy10) rfl rfl (fun w11 hb => ?_)); have hS := hS.keep hb; have hO := hO.below hb; refine WL_val (rn_not rfl) rfl ?_; refine WL_val (rn_move (v := (.bool (!y10))) rfl) rfl ?_
  rcases bcases (!y10) with hb12 | hb12
  ·have H := ifT hb12 H; refine WL_guardN rfl hb12 rfl rfl rfl ?_; refine WL_guardN rfl hb12 rfl rfl rfl ?_; refine WL_guardN rfl hb12 rfl rfl rfl ?_; refine WL_guardN rfl hb12 rfl rfl rfl ?_; refine WL_guardN rfl hb12 rfl rfl rfl ?_; refine WL_guardN rfl hb12 rfl rfl rfl ?_; refine WL_val (rn_pickT (v := (.bool true)) rfl hb12 rfl) rfl ?_; refine WL_nil ?_
   have hO : Owns G8 w11 w0.heap.size ([]) := hO
   have H := Option.some.inj H; subst H
   exact ⟨_, G8, upds_self _ _ ⟨rfl, rfl, rfl, trivial⟩, Gle.refl _, hS, hO⟩
  ·have H := ifF hb12 H; refine WL_guardY rfl hb12 rfl rfl ?_; refine WL_val (rn_load na25 rfl (hS.sat.cell (hcb6 0 _ rfl))) rfl ?_; refine WL_guardY rfl hb12 rfl rfl ?_; refine WL_val (rn_fld fd24_0 rfl) rfl ?_; refine WL_guardY rfl hb12 rfl rfl ?_; refine WL_val (rn_load na22 rfl ((hS.sat.le leG8).cell (hcb3 0 _ rfl))) rfl ?_; refine WL_guardY rfl hb12 rfl rfl ?_; refine WL_val (rn_len sl22 rfl rfl (h1.mono RTBaneFish_mono l0_2).1) rfl ?_; refine WL_guardY rfl hb12 rfl rfl ?_; obtain ⟨y13, hy13, H⟩ := bnd H; refine WL_op rfl (OpP_callV cb86 (f86_ok (x0 := x1) (x1 := (x0.Fish.length : Int)) hS.sat (h2.mono RInt_mono l0_2) hy13) rfl rfl (fun w14 hb => ?_)); have hS := hS.keep hb; have hO := hO.below hb; refine WL_guardY rfl hb12 rfl rfl ?_; refine WL_val (rn_not rfl) rfl ?_; refine WL_val (rn_pickF (v := (.bool (!y13))) rfl hb12 rfl) rfl ?_; refine WL_nil ?_
   have hO : Owns G8 w14 w0.heap.size ([]) := hO
   have H := Option.some.inj H; subst H
   exact ⟨_, G8, upds_self _ _ ⟨rfl, rfl, rfl, trivial⟩, Gle.refl _, hS, hO⟩
 ·rintro F w15 ⟨Fb, G16, rfl, leG16, hS, hO⟩
  refine WC_cond rfl (fun hb17 => ?_) (fun hb17 => ?_)
  ·have H := ifT hb17 H; refine WC_seq ?_; refine WC_region ?_; refine WL_val (rn_assign (v := (.slice none 0 0)) rfl) rfl ?_; refine WL_val (rn_assign (v := (.int .i64 0)) rfl) rfl ?_; refine WL_val (rn_assign (v := (.int .i64 2)) rfl) rfl ?_; refine WL_nil ?_; refine WC_ret ?_
   have H : some ([], 0, 2) = some r := H
   have H := Option.some.inj H; subst H
   exact ⟨_, _, rfl, hS.toGrow, _, _, _, rfl, (RSl.nil RInt 1 G16 none)⟩
  ·have H := ifF hb17 H; refine WC_skip ?_; refine WC_seq ?_; refine WC_region ?_; refine WL_val (rn_fld fd24_0 rfl) rfl ?_
   have l1_3 := leG8.trans leG16
   refine WL_val (rn_load na22 rfl ((hS.sat.le l1_3).cell (hcb3 0 _ rfl))) rfl ?_
   have l0_3 := leG5.trans l1_3
   have hF18 : FnOk125 G16 91 [] [.pointer (some ⟨b3, 0, none⟩), .pointer (some ⟨b6, 0, none⟩)] (fun (z0 : Int) => f91 z0 x0 x1) := ⟨cb91, fun G1 W1 hl hw z0 r1 H1 => f91_ok (x0 := z0) (x1 := x0) (x2 := x1) hw ((hcb3.mono l1_3).mono hl) ((h1.mono RTBaneFish_mono l0_3).mono RTBaneFish_mono hl) ((hcb6.mono leG16).mono hl) ((h2.mono RInt_mono l0_3).mono RInt_mono hl) H1⟩
   refine WL_val (rn_func (vs := []) (us := [.pointer (some ⟨b3, 0, none⟩), .pointer (some ⟨b6, 0, none⟩)]) rfl rfl) rfl ?_
   have hF19 : FnOk131 G16 90 [] [] (fun (z0 : TBaneFish) => f90 z0) := ⟨cb90, fun G1 W1 hl hw z0 _ _ _ r1 hz0_0 H1 => f90_ok (x0 := z0) hw hz0_0 H1⟩
   obtain ⟨y20, hy20, H⟩ := bnd H; refine WL_op rfl (OpP_callG cb89 (f89_ok (x0 := x0.Fish) (x1 := (fun (z0 : TBaneFish) => f90 z0)) (x2 := (fun (z0 : Int) => f91 z0 x0 x1)) hS.sat (h1.mono RTBaneFish_mono l0_3) hF19 hF18 hy20) rfl rfl (fun vy20 G22 w21 hg hvy20 => ?_)); obtain ⟨a23, n23, c23, ⟨⟩, h23⟩ := hvy20; have hS := hS.grow hg; have hO := hO.grow hg
   have leG22 := hg.le
   refine WL_val (rn_move (v := (.tuple #[.agg #[.int .i64 y20.1.cost, .slice a23 n23 c23], .bool y20.2])) rfl) rfl ?_; refine WL_val (rn_extract (v := (.agg #[.int .i64 y20.1.cost, .slice a23 n23 c23])) rfl rfl) rfl ?_; refine WL_val (rn_extract (v := (.bool y20.2)) rfl rfl) rfl ?_
   refine WL_op rfl (OpP_newO (v := fun b => .pointer (some ⟨b, 0, none⟩)) (cs := [.int .i64 0, .slice none 0 0]) (e := 121) (by kernel_rfl) hS.sat hO rfl 2 1 rfl (by decide) (fun b24 w25 hb hO => ?_))
   have hS := hS.keep hb; refine WL_op rfl (OpP_store (vs := [.int .i64 y20.1.cost, .slice a23 n23 c23]) sz121 hS hO (k := 0) rfl rfl rfl rfl rfl (one_all rfl) (Nat.le_of_ble_eq_true rfl) (fun w27 hS hO => ?_))
   have hO : Owns G22 w27 w0.heap.size ([⟨121, 2, 1, .slice (some ⟨b24, 0, none⟩) 1 1, [.int .i64 y20.1.cost, .slice a23 n23 c23]⟩]) := hO
   obtain ⟨G28, leG28, hS, hO, hqG28, _⟩ := hO.freeze hS (k := 0) rfl
   have hcG28 : Cells G28 b24 0 [.int .i64 y20.1.cost, .slice a23 n23 c23] := (hqG28 _ _ _ _ rfl)
   refine WL_val (rn_assign (v := (.bool y20.2)) rfl) rfl ?_; refine WL_nil ?_; refine WC_seq ?_; refine WC_seq ?_; refine WC_region ?_; refine WL_val (rn_move (v := (.bool y20.2)) rfl) rfl ?_; refine WL_val (rn_not rfl) rfl ?_; refine WL_nil ?_; refine WC_cond rfl (fun hb29 => ?_) (fun hb29 => ?_)
   ·have H := ifT hb29 H; refine WC_seq ?_; refine WC_region ?_; refine WL_val (rn_assign (v := (.slice none 0 0)) rfl) rfl ?_; refine WL_val (rn_assign (v := (.int .i64 0)) rfl) rfl ?_; refine WL_val (rn_assign (v := (.int .i64 5)) rfl) rfl ?_; refine WL_nil ?_; refine WC_ret ?_
    have H : some ([], 0, 5) = some r := H
    have H := Option.some.inj H; subst H
    exact ⟨_, _, rfl, hS.toGrow, _, _, _, rfl, (RSl.nil RInt 1 G28 none)⟩
   ·have H := ifF hb29 H; refine WC_skip ?_; refine WC_seq ?_; have hS := hS.keep (below_drew _); have hO := hO.below (below_drew _)
    refine WC_regionD mixedO (fun w => Sat G28 w ∧ True) (.fl 0 (.fl 1 (.fl 2 (.fl 3 (.on 4 (.on 5 (.on 6 .nil))))))) (by kernel_rfl) rfl (by kernel_rfl) ⟨hS.sat, trivial⟩ ?_
    refine WD_val rfl (fun w hw => rn_fld fd121_1 rfl) rfl ?_; refine WD_val rfl (fun w hw => rn_load na25 rfl (hw.1.cell (hcG28 1 _ rfl))) rfl ?_; refine WD_val rfl (fun w hw => rn_fld fd121_0 rfl) rfl ?_; refine WD_val rfl (fun w hw => rn_load na3 rfl (hw.1.cell (hcG28 0 _ rfl))) rfl ?_; refine WD_op rfl rfl (OpP_val (rn_assign (v := (.slice a23 n23 c23)) rfl) rfl ?_); refine ⟨fun _ => ⟨hS.sat, trivial⟩, ?_⟩; refine WD_op rfl rfl (OpP_val (rn_assign (v := (.int .i64 y20.1.cost)) rfl) rfl ?_)
    refine ⟨fun h => nomore (by kernel_rfl) h, ?_⟩
    refine WD_op rfl rfl (OpP_val (rn_assign (v := (.int .i64 0)) rfl) rfl ?_)
    refine ⟨fun h => nomore (by kernel_rfl) h, ?_⟩
    refine WD_nil ?_; refine WC_ret ?_
    have H : some (y20.1.list, y20.1.cost, 0) = some r := H
    have H := Option.some.inj H; subst H
    exact ⟨_, _, rfl, hS.toGrow, _, _, _, rfl, (h23.mono RInt_mono leG28)⟩
set_option maxHeartbeats 1000000 in
theorem f60_ok {G0 : Gm} {w0 : World} (hS0 : Sat G0 w0) {x0 : (List TSpan)} {a1 : Option Addr} {n1 c1 : Nat} {x1 : (List TSpan)} {a2 : Option Addr} {n2 c2 : Nat} (h1 : RSl RTSpan 2 G0 a1 n1 c1 x0) (h2 : RSl RTSpan 2 G0 a2 n2 c2 x1) {r : Bool} (H : f60 x0 x1 = some r) :
  Calls Try.prog 60 #[.slice a1 n1 c1, .slice a2 n2 c2] w0 (RetV w0 (.bool r)) := by
 have hS := Since.start hS0
 have hO : Owns G0 w0 w0.heap.size [] := Owns.nil (Nat.le_refl _)
 unfold f60 at H
 refine enter1 (N := 26) (shutV _ _) Try.func60 rfl rfl rfl rfl ?_; refine WC_seq ?_; refine WC_region ?_; refine WL_val (rn_assign (v := (.bool false)) rfl) rfl ?_; refine WL_nil ?_; refine WC_seq ?_; refine WC_seq ?_; refine WC_region ?_; refine WL_val (rn_move (v := (.slice a1 n1 c1)) rfl) rfl ?_; refine WL_val (rn_len sl38 rfl rfl h1.1) rfl ?_; refine WL_val (rn_move (v := (.slice a2 n2 c2)) rfl) rfl ?_; refine WL_val (rn_len sl38 rfl rfl h2.1) rfl ?_; refine WL_val (rn_neq rfl rfl) rfl ?_; refine WL_nil ?_; refine WC_cond rfl (fun hb3 => ?_) (fun hb3 => ?_)
 ·have H := ifT hb3 H; refine WC_seq ?_; refine WC_region ?_; refine WL_val (rn_assign (v := (.bool false)) rfl) rfl ?_; refine WL_nil ?_; refine WC_ret ?_
  have H : some false = some r := H
  have H := Option.some.inj H; subst H
  exact ⟨rfl, hS.below⟩
 ·have H := ifF hb3 H; refine WC_skip ?_; refine WC_seq ?_; refine WC_seq ?_; refine WC_region ?_; refine WL_val (rn_assign (v := (.int .i64 0)) rfl) rfl ?_; refine WL_nil ?_; obtain ⟨q6, hq6, H⟩ := bnd H; refine WC_cut (fun F w => ∃ (p5 : Unit) (Fb : Fr) (G : Gm), q6 = .inl p5 ∧ F = upds Fb [] ∧ Gle G0 G ∧ Since w0.heap.size G0 w0 G w ∧ Owns G w w0.heap.size []) ?_ ?_
  ·refine WC_block (WC_loop hq6 (fun s4 F w => ∃ (Fb : Fr) (G : Gm), F = upds Fb [(0, .slice a1 n1 c1), (1, .slice a2 n2 c2), (5, .int .i64 s4)] ∧ Gle G0 G ∧ Since w0.heap.size G0 w0 G w ∧ Owns G w w0.heap.size []) ?_ ?_)
   ·have hO : Owns G0 w0 w0.heap.size ([]) := hO
    exact ⟨_, G0, upds_self _ _ ⟨rfl, rfl, rfl, trivial⟩, Gle.refl _, hS, hO⟩
   ·rintro s4 F w8 t7 ⟨Fb, G9, rfl, leG9, hS, hO⟩
    intro H1 hqq6
    have Hoq6 := H; have H := H1
    unfold f60_b0 at H
    refine WC_seq ?_; refine WC_seq ?_; refine WC_region ?_; refine WL_val (rn_move (v := (.int .i64 s4)) rfl) rfl ?_; refine WL_val (rn_move (v := (.slice a1 n1 c1)) rfl) rfl ?_; refine WL_val (rn_len sl38 rfl rfl (h1.mono RTSpan_mono leG9).1) rfl ?_; refine WL_val (rn_lss rfl rfl) rfl ?_; refine WL_nil ?_; refine WC_cond rfl (fun hb10 => ?_) (fun hb10 => ?_)
    ·have H := ifT hb10 H; refine WC_skip ?_; refine WC_seq ?_; refine WC_block ?_; refine WC_seq ?_; have hS := hS.keep (below_drew _); have hO := hO.below (below_drew _)
     refine WC_regionD mixedO (fun w => Sat G9 w ∧ True) (.fl 0 (.fl 1 (.fl 2 (.fl 3 (.fl 4 (.on 5 (.on 6 (.on 7 (.on 8 .nil))))))))) (by kernel_rfl) rfl (by kernel_rfl) ⟨hS.sat, trivial⟩ ?_
     refine WD_val rfl (fun w hw => rn_move (v := (.slice a1 n1 c1)) rfl) rfl ?_; refine WD_val rfl (fun w hw => rn_move (v := (.int .i64 s4)) rfl) rfl ?_; obtain ⟨y11, hy11, H⟩ := bnd H; refine WD_idx rfl sl38 (h1.mono RTSpan_mono leG9) hy11 rfl rfl rfl ?_
     rintro b12 o12 _ hcb12 _ ⟨⟩
     refine WD_val rfl (fun w hw => rn_loadA ag43 (cs := [.int .i64 y11.Low, .int .i64 y11.High]) rfl rfl (fun j v hj => hw.1.cell (hcb12.drop_take 0 2 j v hj))) rfl ?_; refine WD_val rfl (fun w hw => rn_move (v := (.slice a2 n2 c2)) rfl) rfl ?_; refine WD_op rfl rfl (OpP_val (rn_move (v := (.int .i64 s4)) rfl) rfl ?_); refine ⟨fun _ => ⟨hS.sat, trivial⟩, ?_⟩; obtain ⟨y13, hy13, H⟩ := bnd H; refine WD_op rfl rfl (OpP_idx sl38 (h2.mono RTSpan_mono leG9) hy13 rfl rfl rfl ?_)
     rintro b14 o14 _ hcb14 _ ⟨⟩
     refine ⟨fun _ => ⟨hS.sat, trivial⟩, ?_⟩; refine WD_op rfl rfl (OpP_val (rn_loadA ag43 (cs := [.int .i64 y13.Low, .int .i64 y13.High]) rfl rfl (fun j v hj => hS.sat.cell (hcb14.drop_take 0 2 j v hj))) rfl ?_); refine ⟨fun _ => ⟨hS.sat, trivial⟩, ?_⟩; refine WD_op rfl rfl (OpP_val (rn_neqA (xs := [y11.Low, y11.High]) (ys := [y13.Low, y13.High]) in43 rfl rfl rfl rfl) rfl ?_)
     refine ⟨fun h => nomore (by kernel_rfl) h, ?_⟩
     refine WD_nil ?_; refine WC_cond rfl (fun hb15 => ?_) (fun hb15 => ?_)
     ·have H := ifT hb15 H; refine WC_seq ?_; refine WC_region ?_; refine WL_val (rn_assign (v := (.bool false)) rfl) rfl ?_; refine WL_nil ?_; refine WC_ret ?_; have H := Option.some.inj H; subst H
      have hres := hqq6 _ rfl
      subst hres; have H := Hoq6
      have H : some false = some r := H
      have H := Option.some.inj H; subst H
      exact ⟨rfl, hS.below⟩
     ·have H := ifF hb15 H; refine WC_skip ?_; refine WC_region ?_; refine WL_val (rn_move (v := (.int .i64 s4)) rfl) rfl ?_; refine WL_val (rn_add rfl rfl) rfl ?_; refine WL_val (rn_assign (v := (.int .i64 (IntKind.i64.wrap (s4 + 1)))) rfl) rfl ?_; refine WL_nil ?_
      have hO : Owns G9 w8.drew w0.heap.size ([]) := hO
      have H := Option.some.inj H; subst H; refine ⟨_, rfl, ?_⟩
      exact ⟨_, G9, upds_self _ _ ⟨rfl, rfl, rfl, trivial⟩, leG9, hS, hO⟩
    ·have H := ifF hb10 H; refine WC_exit rfl ?_
     have hO : Owns G9 w8 w0.heap.size ([]) := hO
     have H := Option.some.inj H; subst H
     have hres := hqq6 _ rfl
     subst hres
     exact ⟨_, _, G9, rfl, rfl, leG9, hS, hO⟩
  ·rintro F w16 ⟨p5, Fb, G17, rfl, rfl, leG17, hS, hO⟩
   refine WC_seq ?_; refine WC_region ?_; refine WL_val (rn_assign (v := (.bool true)) rfl) rfl ?_; refine WL_nil ?_; refine WC_ret ?_
   have H : some true = some r := H
   have H := Option.some.inj H; subst H
   exact ⟨rfl, hS.below⟩
set_option maxHeartbeats 1000000 in
theorem f63_ok {G0 : Gm} {w0 : World} (hS0 : Sat G0 w0)   {r : TBaneWeb} (H : f63 = some r) :
  Calls Try.prog 63 #[] w0 (RetG G0 w0 (fun G v => ∃ (ra0 : Option Addr) (rn0 rc0 : Nat), v = .agg #[.slice ra0 rn0 rc0, .int .i64 r.Limit] ∧ RSl RTBaneFish 5 G ra0 rn0 rc0 r.Fish)) := by
 have hS := Since.start hS0
 have hO : Owns G0 w0 w0.heap.size [] := Owns.nil (Nat.le_refl _)
 unfold f63 at H
 refine enterG (N := 17) (shutG _ _ _) [.cell 0 24] Try.func63 rfl rfl rfl rfl ?_; refine WC_seq ?_; refine WC_region ?_
 refine WL_op rfl (OpP_newO (v := fun b => .pointer (some ⟨b, 0, none⟩)) (cs := [.slice none 0 0, .int .i64 0]) (e := 24) (by kernel_rfl) hS.sat hO rfl 2 1 rfl (by decide) (fun b1 w2 hb hO => ?_))
 have hS := hS.keep hb; refine WL_nil ?_; refine WC_seq ?_; refine WC_region ?_
 refine WL_val (v := (.agg #[.int .i64 100, .int .i64 200])) (by kernel_rfl) rfl ?_
 refine WL_val (v := (.agg #[.int .i64 100, .int .i64 200, .slice none 0 0, .int .i64 150, .int .i64 10])) (by kernel_rfl) rfl ?_
 refine WL_val (v := (.agg #[.int .i64 0, .int .i64 50])) (by kernel_rfl) rfl ?_
 refine WL_val (v := (.agg #[.int .i64 500, .int .i64 800])) (by kernel_rfl) rfl ?_
 refine WL_val (v := (.agg #[.int .i64 0, .int .i64 500, .int .i64 800])) (by kernel_rfl) rfl ?_
 refine WL_op rfl (OpP_newF (v := fun b => .slice (some ⟨b, 0, none⟩) 1 1) (cs := [.int .i64 0, .int .i64 500, .int .i64 800]) (e := 77) (by kernel_rfl) hS.sat rfl (fun b4 G6 w5 hg hcb4 => ?_))
 have hS := hS.grow hg; have hO := hO.grow hg
 have leG6 := hg.le
 have hfb4 : RSl RTBaneBite 3 G6 (some ⟨b4, 0, none⟩) 1 1 [(⟨0, (⟨500, 800⟩ : TSpan)⟩ : TBaneBite)] := RSl.of_rd hcb4 (Rd.cons (c := [.int .i64 0, .int .i64 500, .int .i64 800]) rfl rfl (Rd.nil RTBaneBite 3 _)) rfl (by decide)
 refine WL_val (v := (.agg #[.int .i64 0, .int .i64 50, .slice (some ⟨b4, 0, none⟩) 1 1, .int .i64 200, .int .i64 20])) (by kernel_rfl) rfl ?_
 refine WL_val (v := (.agg #[.int .i64 10, .int .i64 20])) (by kernel_rfl) rfl ?_
 refine WL_val (v := (.agg #[.int .i64 900, .int .i64 1000])) (by kernel_rfl) rfl ?_
 refine WL_val (v := (.agg #[.int .i64 1, .int .i64 900, .int .i64 1000])) (by kernel_rfl) rfl ?_
 refine WL_val (v := (.agg #[.int .i64 100, .int .i64 200])) (by kernel_rfl) rfl ?_
 refine WL_val (v := (.agg #[.int .i64 0, .int .i64 100, .int .i64 200])) (by kernel_rfl) rfl ?_
 refine WL_op rfl (OpP_newF (v := fun b => .slice (some ⟨b, 0, none⟩) 2 2) (cs := [.int .i64 1, .int .i64 900, .int .i64 1000, .int .i64 0, .int .i64 100, .int .i64 200]) (e := 77) (by kernel_rfl) hS.sat rfl (fun b7 G9 w8 hg hcb7 => ?_))
 have hS := hS.grow hg; have hO := hO.grow hg
 have leG9 := hg.le
 have hfb7 : RSl RTBaneBite 3 G9 (some ⟨b7, 0, none⟩) 2 2 [(⟨1, (⟨900, 1000⟩ : TSpan)⟩ : TBaneBite), (⟨0, (⟨100, 200⟩ : TSpan)⟩ : TBaneBite)] := RSl.of_rd hcb7 (Rd.cons (c := [.int .i64 1, .int .i64 900, .int .i64 1000]) rfl rfl (Rd.cons (c := [.int .i64 0, .int .i64 100, .int .i64 200]) rfl rfl (Rd.nil RTBaneBite 3 _))) rfl (by decide)
 refine WL_val (v := (.agg #[.int .i64 10, .int .i64 20, .slice (some ⟨b7, 0, none⟩) 2 2, .int .i64 150, .int .i64 30])) (by kernel_rfl) rfl ?_
 refine WL_op rfl (OpP_newF (v := fun b => .slice (some ⟨b, 0, none⟩) 3 3) (cs := [.int .i64 100, .int .i64 200, .slice none 0 0, .int .i64 150, .int .i64 10, .int .i64 0, .int .i64 50, .slice (some ⟨b4, 0, none⟩) 1 1, .int .i64 200, .int .i64 20, .int .i64 10, .int .i64 20, .slice (some ⟨b7, 0, none⟩) 2 2, .int .i64 150, .int .i64 30]) (e := 72) (by kernel_rfl) hS.sat rfl (fun b10 G12 w11 hg hcb10 => ?_))
 have hS := hS.grow hg; have hO := hO.grow hg
 have leG12 := hg.le
 have l1_3 := leG9.trans leG12
 have hfb10 : RSl RTBaneFish 5 G12 (some ⟨b10, 0, none⟩) 3 3 [(⟨(⟨100, 200⟩ : TSpan), [], 150, 10⟩ : TBaneFish), (⟨(⟨0, 50⟩ : TSpan), [(⟨0, (⟨500, 800⟩ : TSpan)⟩ : TBaneBite)], 200, 20⟩ : TBaneFish), (⟨(⟨10, 20⟩ : TSpan), [(⟨1, (⟨900, 1000⟩ : TSpan)⟩ : TBaneBite), (⟨0, (⟨100, 200⟩ : TSpan)⟩ : TBaneBite)], 150, 30⟩ : TBaneFish)] := RSl.of_rd hcb10 (Rd.cons (c := [.int .i64 100, .int .i64 200, .slice none 0 0, .int .i64 150, .int .i64 10]) rfl ⟨_, _, _, rfl, (RSl.nil RTBaneBite 3 G12 none)⟩ (Rd.cons (c := [.int .i64 0, .int .i64 50, .slice (some ⟨b4, 0, none⟩) 1 1, .int .i64 200, .int .i64 20]) rfl ⟨_, _, _, rfl, (hfb4.mono RTBaneBite_mono l1_3)⟩ (Rd.cons (c := [.int .i64 10, .int .i64 20, .slice (some ⟨b7, 0, none⟩) 2 2, .int .i64 150, .int .i64 30]) rfl ⟨_, _, _, rfl, (hfb7.mono RTBaneBite_mono leG12)⟩ (Rd.nil RTBaneFish 5 _)))) rfl (by decide)
 refine WL_val (v := (.agg #[.slice (some ⟨b10, 0, none⟩) 3 3, .int .i64 200])) (by kernel_rfl) rfl ?_
 refine WL_op rfl (OpP_store (vs := [.slice (some ⟨b10, 0, none⟩) 3 3, .int .i64 200]) sz24 hS hO (k := 0) rfl rfl rfl rfl rfl (one_all rfl) (Nat.le_of_ble_eq_true rfl) (fun w13 hS hO => ?_))
 have hO : Owns G12 w13 w0.heap.size ([⟨24, 2, 1, .slice (some ⟨b1, 0, none⟩) 1 1, [.slice (some ⟨b10, 0, none⟩) 3 3, .int .i64 200]⟩]) := hO
 obtain ⟨G14, leG14, hS, hO, hqG14, _⟩ := hO.freeze hS (k := 0) rfl
 have hcG14 : Cells G14 b1 0 [.slice (some ⟨b10, 0, none⟩) 3 3, .int .i64 200] := (hqG14 _ _ _ _ rfl)
 refine WL_nil ?_; refine WC_ret ?_
 have H : some (⟨[(⟨(⟨100, 200⟩ : TSpan), [], 150, 10⟩ : TBaneFish), (⟨(⟨0, 50⟩ : TSpan), [(⟨0, (⟨500, 800⟩ : TSpan)⟩ : TBaneBite)], 200, 20⟩ : TBaneFish), (⟨(⟨10, 20⟩ : TSpan), [(⟨1, (⟨900, 1000⟩ : TSpan)⟩ : TBaneBite), (⟨0, (⟨100, 200⟩ : TSpan)⟩ : TBaneBite)], 150, 30⟩ : TBaneFish)], 200⟩ : TBaneWeb) = some r := H
 have H := Option.some.inj H; subst H
 exact ⟨[.agg #[.slice (some ⟨b10, 0, none⟩) 3 3, .int .i64 200]], ⟨⟨_, rfl, ld_agg (cs := [.slice (some ⟨b10, 0, none⟩) 3 3, .int .i64 200]) ag24 rfl (fun j v hj => hS.sat.cell (hcG14 j v hj))⟩, trivial⟩, ⟨_, _, rfl, hS.toGrow, _, _, _, rfl, (hfb10.mono RTBaneFish_mono leG14)⟩⟩
set_option maxHeartbeats 1000000 in
theorem f64_ok {G0 : Gm} {w0 : World} (hS0 : Sat G0 w0)   {r : TBaneSea} (H : f64 = some r) :
  Calls Try.prog 64 #[] w0 (RetG G0 w0 (fun G v => ∃ (ra0 : Option Addr) (rn0 rc0 : Nat) (ra1 : Option Addr) (rn1 rc1 : Nat) (ra2 : Option Addr) (rn2 rc2 : Nat), v = .agg #[.int .i64 r.Islets, .slice ra0 rn0 rc0, .slice ra1 rn1 rc1, .slice ra2 rn2 rc2, .int .i64 r.Wait] ∧ RSl RInt 1 G ra0 rn0 rc0 r.Infested ∧ RSl RInt 1 G ra1 rn1 rc1 r.Clean ∧ RSl RTBaneTrip 4 G ra2 rn2 rc2 r.Trips)) := by
 have hS := Since.start hS0
 have hO : Owns G0 w0 w0.heap.size [] := Owns.nil (Nat.le_refl _)
 unfold f64 at H
 refine enterG (N := 10) (shutG _ _ _) [.cell 0 46] Try.func64 rfl rfl rfl rfl ?_; refine WC_seq ?_; refine WC_region ?_
 refine WL_op rfl (OpP_newO (v := fun b => .pointer (some ⟨b, 0, none⟩)) (cs := [.int .i64 0, .slice none 0 0, .slice none 0 0, .slice none 0 0, .int .i64 0]) (e := 46) (by kernel_rfl) hS.sat hO rfl 5 1 rfl (by decide) (fun b1 w2 hb hO => ?_))
 have hS := hS.keep hb; refine WL_nil ?_; refine WC_seq ?_; refine WC_region ?_
 refine WL_op rfl (OpP_newF (v := fun b => .slice (some ⟨b, 0, none⟩) 1 1) (cs := [.int .i64 0]) (e := 3) (by kernel_rfl) hS.sat rfl (fun b4 G6 w5 hg hcb4 => ?_))
 have hS := hS.grow hg; have hO := hO.grow hg
 have leG6 := hg.le
 have hfb4 : RSl RInt 1 G6 (some ⟨b4, 0, none⟩) 1 1 [0] := RSl.of_rd hcb4 (Rd.cons (c := [.int .i64 0]) rfl rfl (Rd.nil RInt 1 _)) rfl (by decide)
 refine WL_op rfl (OpP_newF (v := fun b => .slice (some ⟨b, 0, none⟩) 1 1) (cs := [.int .i64 3]) (e := 3) (by kernel_rfl) hS.sat rfl (fun b7 G9 w8 hg hcb7 => ?_))
 have hS := hS.grow hg; have hO := hO.grow hg
 have leG9 := hg.le
 have hfb7 : RSl RInt 1 G9 (some ⟨b7, 0, none⟩) 1 1 [3] := RSl.of_rd hcb7 (Rd.cons (c := [.int .i64 3]) rfl rfl (Rd.nil RInt 1 _)) rfl (by decide)
 refine WL_val (v := (.agg #[.int .i64 1, .int .i64 0, .int .i64 1, .int .i64 5])) (by kernel_rfl) rfl ?_
 refine WL_val (v := (.agg #[.int .i64 2, .int .i64 1, .int .i64 3, .int .i64 9])) (by kernel_rfl) rfl ?_
 refine WL_val (v := (.agg #[.int .i64 3, .int .i64 1, .int .i64 2, .int .i64 4])) (by kernel_rfl) rfl ?_
 refine WL_val (v := (.agg #[.int .i64 5, .int .i64 2, .int .i64 3, .int .i64 6])) (by kernel_rfl) rfl ?_
 refine WL_val (v := (.agg #[.int .i64 4, .int .i64 0, .int .i64 2, .int .i64 7])) (by kernel_rfl) rfl ?_
 refine WL_op rfl (OpP_newF (v := fun b => .slice (some ⟨b, 0, none⟩) 5 5) (cs := [.int .i64 1, .int .i64 0, .int .i64 1, .int .i64 5, .int .i64 2, .int .i64 1, .int .i64 3, .int .i64 9, .int .i64 3, .int .i64 1, .int .i64 2, .int .i64 4, .int .i64 5, .int .i64 2, .int .i64 3, .int .i64 6, .int .i64 4, .int .i64 0, .int .i64 2, .int .i64 7]) (e := 109) (by kernel_rfl) hS.sat rfl (fun b10 G12 w11 hg hcb10 => ?_))
 have hS := hS.grow hg; have hO := hO.grow hg
 have leG12 := hg.le
 have hfb10 : RSl RTBaneTrip 4 G12 (some ⟨b10, 0, none⟩) 5 5 [(⟨1, 0, 1, 5⟩ : TBaneTrip), (⟨2, 1, 3, 9⟩ : TBaneTrip), (⟨3, 1, 2, 4⟩ : TBaneTrip), (⟨5, 2, 3, 6⟩ : TBaneTrip), (⟨4, 0, 2, 7⟩ : TBaneTrip)] := RSl.of_rd hcb10 (Rd.cons (c := [.int .i64 1, .int .i64 0, .int .i64 1, .int .i64 5]) rfl rfl (Rd.cons (c := [.int .i64 2, .int .i64 1, .int .i64 3, .int .i64 9]) rfl rfl (Rd.cons (c := [.int .i64 3, .int .i64 1, .int .i64 2, .int .i64 4]) rfl rfl (Rd.cons (c := [.int .i64 5, .int .i64 2, .int .i64 3, .int .i64 6]) rfl rfl (Rd.cons (c := [.int .i64 4, .int .i64 0, .int .i64 2, .int .i64 7]) rfl rfl (Rd.nil RTBaneTrip 4 _)))))) rfl (by decide)
 refine WL_val (v := (.agg #[.int .i64 4, .slice (some ⟨b4, 0, none⟩) 1 1, .slice (some ⟨b7, 0, none⟩) 1 1, .slice (some ⟨b10, 0, none⟩) 5 5, .int .i64 2])) (by kernel_rfl) rfl ?_
 refine WL_op rfl (OpP_store (vs := [.int .i64 4, .slice (some ⟨b4, 0, none⟩) 1 1, .slice (some ⟨b7, 0, none⟩) 1 1, .slice (some ⟨b10, 0, none⟩) 5 5, .int .i64 2]) sz46 hS hO (k := 0) rfl rfl rfl rfl rfl (one_all rfl) (Nat.le_of_ble_eq_true rfl) (fun w13 hS hO => ?_))
 have hO : Owns G12 w13 w0.heap.size ([⟨46, 5, 1, .slice (some ⟨b1, 0, none⟩) 1 1, [.int .i64 4, .slice (some ⟨b4, 0, none⟩) 1 1, .slice (some ⟨b7, 0, none⟩) 1 1, .slice (some ⟨b10, 0, none⟩) 5 5, .int .i64 2]⟩]) := hO
 obtain ⟨G14, leG14, hS, hO, hqG14, _⟩ := hO.freeze hS (k := 0) rfl
 have hcG14 : Cells G14 b1 0 [.int .i64 4, .slice (some ⟨b4, 0, none⟩) 1 1, .slice (some ⟨b7, 0, none⟩) 1 1, .slice (some ⟨b10, 0, none⟩) 5 5, .int .i64 2] := (hqG14 _ _ _ _ rfl)
 refine WL_nil ?_; refine WC_ret ?_
 have H : some (⟨4, [0], [3], [(⟨1, 0, 1, 5⟩ : TBaneTrip), (⟨2, 1, 3, 9⟩ : TBaneTrip), (⟨3, 1, 2, 4⟩ : TBaneTrip), (⟨5, 2, 3, 6⟩ : TBaneTrip), (⟨4, 0, 2, 7⟩ : TBaneTrip)], 2⟩ : TBaneSea) = some r := H
 have H := Option.some.inj H; subst H
 have l1_4 := (leG9.trans leG12).trans leG14
 have l2_4 := leG12.trans leG14
 exact ⟨[.agg #[.int .i64 4, .slice (some ⟨b4, 0, none⟩) 1 1, .slice (some ⟨b7, 0, none⟩) 1 1, .slice (some ⟨b10, 0, none⟩) 5 5, .int .i64 2]], ⟨⟨_, rfl, ld_agg (cs := [.int .i64 4, .slice (some ⟨b4, 0, none⟩) 1 1, .slice (some ⟨b7, 0, none⟩) 1 1, .slice (some ⟨b10, 0, none⟩) 5 5, .int .i64 2]) ag46 rfl (fun j v hj => hS.sat.cell (hcG14 j v hj))⟩, trivial⟩, ⟨_, _, rfl, hS.toGrow, _, _, _, _, _, _, _, _, _, rfl, (hfb4.mono RInt_mono l1_4), (hfb7.mono RInt_mono l2_4), (hfb10.mono RTBaneTrip_mono leG14)⟩⟩
set_option maxHeartbeats 1000000 in
theorem f19_ok {G0 : Gm} {w0 : World} (hS0 : Sat G0 w0)   {r : Bool} (H : f19 = some r) :
  Calls Try.prog 19 #[] w0 (RetV w0 (.bool r)) := by
 have hS := Since.start hS0
 have hO : Owns G0 w0 w0.heap.size [] := Owns.nil (Nat.le_refl _)
 unfold f19 at H
 refine enter1 (N := 130) (shutV _ _) Try.func19 rfl rfl rfl rfl ?_; refine WC_seq ?_; refine WC_region ?_; refine WL_val (rn_assign (v := (.bool false)) rfl) rfl ?_; refine WL_nil ?_; refine WC_seq ?_; refine WC_region ?_; obtain ⟨y1, hy1, H⟩ := bnd H; refine WL_op rfl (OpP_callG cb63 (f63_ok  hS.sat  hy1) rfl rfl (fun vy1 G3 w2 hg hvy1 => ?_)); obtain ⟨a4, n4, c4, ⟨⟩, h4⟩ := hvy1; have hS := hS.grow hg; have hO := hO.grow hg
 have leG3 := hg.le
 obtain ⟨y5, hy5, H⟩ := bnd H; refine WL_op rfl (OpP_callG cb25 (f25_ok (x0 := y1) hS.sat h4 hy5) rfl rfl (fun vy5 G7 w6 hg hvy5 => ?_)); obtain ⟨a8, n8, c8, ⟨⟩, h8⟩ := hvy5; have hS := hS.grow hg; have hO := hO.grow hg
 have leG7 := hg.le
 refine WL_val (rn_move (v := (.tuple #[.slice a8 n8 c8, .int .i64 y5.2])) rfl) rfl ?_; refine WL_val (rn_extract (v := (.slice a8 n8 c8)) rfl rfl) rfl ?_; refine WL_val (rn_extract (v := (.int .i64 y5.2)) rfl rfl) rfl ?_; refine WL_val (rn_assign (v := (.slice a8 n8 c8)) rfl) rfl ?_; refine WL_val (rn_assign (v := (.int .i64 y5.2)) rfl) rfl ?_; refine WL_nil ?_; refine WC_seq ?_; refine WC_region ?_; obtain ⟨y9, hy9, H⟩ := bnd H; refine WL_op rfl (OpP_callG cb63 (f63_ok  hS.sat  hy9) rfl rfl (fun vy9 G11 w10 hg hvy9 => ?_)); obtain ⟨a12, n12, c12, ⟨⟩, h12⟩ := hvy9; have hS := hS.grow hg; have hO := hO.grow hg
 have leG11 := hg.le
 refine WL_op rfl (OpP_newF (v := fun b => .slice (some ⟨b, 0, none⟩) 3 3) (cs := [.int .i64 150, .int .i64 20, .int .i64 15]) (e := 3) (by kernel_rfl) hS.sat rfl (fun b13 G15 w14 hg hcb13 => ?_))
 have hS := hS.grow hg; have hO := hO.grow hg
 have leG15 := hg.le
 have hfb13 : RSl RInt 1 G15 (some ⟨b13, 0, none⟩) 3 3 [150, 20, 15] := RSl.of_rd hcb13 (Rd.cons (c := [.int .i64 150]) rfl rfl (Rd.cons (c := [.int .i64 20]) rfl rfl (Rd.cons (c := [.int .i64 15]) rfl rfl (Rd.nil RInt 1 _)))) rfl (by decide)
 refine WL_op rfl (OpP_newF (v := fun b => .slice (some ⟨b, 0, none⟩) 1 1) (cs := [.int .i64 600]) (e := 3) (by kernel_rfl) hS.sat rfl (fun b16 G18 w17 hg hcb16 => ?_))
 have hS := hS.grow hg; have hO := hO.grow hg
 have leG18 := hg.le
 have hfb16 : RSl RInt 1 G18 (some ⟨b16, 0, none⟩) 1 1 [600] := RSl.of_rd hcb16 (Rd.cons (c := [.int .i64 600]) rfl rfl (Rd.nil RInt 1 _)) rfl (by decide)
 refine WL_op rfl (OpP_newF (v := fun b => .slice (some ⟨b, 0, none⟩) 2 2) (cs := [.int .i64 950, .int .i64 150]) (e := 3) (by kernel_rfl) hS.sat rfl (fun b19 G21 w20 hg hcb19 => ?_))
 have hS := hS.grow hg; have hO := hO.grow hg
 have leG21 := hg.le
 have hfb19 : RSl RInt 1 G21 (some ⟨b19, 0, none⟩) 2 2 [950, 150] := RSl.of_rd hcb19 (Rd.cons (c := [.int .i64 950]) rfl rfl (Rd.cons (c := [.int .i64 150]) rfl rfl (Rd.nil RInt 1 _))) rfl (by decide)
 refine WL_op rfl (OpP_newF (v := fun b => .slice (some ⟨b, 0, none⟩) 3 3) (cs := [.slice none 0 0, .slice (some ⟨b16, 0, none⟩) 1 1, .slice (some ⟨b19, 0, none⟩) 2 2]) (e := 25) (by kernel_rfl) hS.sat rfl (fun b22 G24 w23 hg hcb22 => ?_))
 have hS := hS.grow hg; have hO := hO.grow hg
 have leG24 := hg.le
 have l5_7 := leG21.trans leG24
 have hfb22 : RSl (RSlice RInt 1) 1 G24 (some ⟨b22, 0, none⟩) 3 3 [[], [600], [950, 150]] := RSl.of_rd hcb22 (Rd.cons (c := [.slice none 0 0]) rfl ⟨_, _, _, rfl, (RSl.nil RInt 1 G24 none)⟩ (Rd.cons (c := [.slice (some ⟨b16, 0, none⟩) 1 1]) rfl ⟨_, _, _, rfl, (hfb16.mono RInt_mono l5_7)⟩ (Rd.cons (c := [.slice (some ⟨b19, 0, none⟩) 2 2]) rfl ⟨_, _, _, rfl, (hfb19.mono RInt_mono leG24)⟩ (Rd.nil (RSlice RInt 1) 1 _)))) rfl (by decide)
 refine WL_val (v := (.agg #[.slice (some ⟨b13, 0, none⟩) 3 3, .slice (some ⟨b22, 0, none⟩) 3 3])) (by kernel_rfl) rfl ?_
 obtain ⟨y25, hy25, H⟩ := bnd H
 have l3_7 := (leG15.trans leG18).trans l5_7
 have l4_7 := leG18.trans l5_7
 refine WL_op rfl (OpP_callG cb20 (f20_ok (x0 := y9) (x1 := (⟨[150, 20, 15], [[], [600], [950, 150]]⟩ : TBaneTruth)) hS.sat (h12.mono RTBaneFish_mono l3_7) (hfb13.mono RInt_mono l4_7) hfb22 hy25) rfl rfl (fun vy25 G27 w26 hg hvy25 => ?_)); obtain ⟨a28, n28, c28, ⟨⟩, h28⟩ := hvy25; have hS := hS.grow hg; have hO := hO.grow hg
 have leG27 := hg.le
 refine WL_val (rn_move (v := (.tuple #[.slice a28 n28 c28, .int .i64 y25.2])) rfl) rfl ?_; refine WL_val (rn_extract (v := (.slice a28 n28 c28)) rfl rfl) rfl ?_; refine WL_val (rn_extract (v := (.int .i64 y25.2)) rfl rfl) rfl ?_; refine WL_val (rn_assign (v := (.slice a28 n28 c28)) rfl) rfl ?_; refine WL_val (rn_assign (v := (.int .i64 y25.2)) rfl) rfl ?_; refine WL_nil ?_; refine WC_seq ?_; refine WC_region ?_; obtain ⟨y29, hy29, H⟩ := bnd H; refine WL_op rfl (OpP_callG cb63 (f63_ok  hS.sat  hy29) rfl rfl (fun vy29 G31 w30 hg hvy29 => ?_)); obtain ⟨a32, n32, c32, ⟨⟩, h32⟩ := hvy29; have hS := hS.grow hg; have hO := hO.grow hg
 have leG31 := hg.le
 refine WL_op rfl (OpP_newF (v := fun b => .slice (some ⟨b, 0, none⟩) 2 2) (cs := [.int .i64 1, .int .i64 2]) (e := 3) (by kernel_rfl) hS.sat rfl (fun b33 G35 w34 hg hcb33 => ?_))
 have hS := hS.grow hg; have hO := hO.grow hg
 have leG35 := hg.le
 have hfb33 : RSl RInt 1 G35 (some ⟨b33, 0, none⟩) 2 2 [1, 2] := RSl.of_rd hcb33 (Rd.cons (c := [.int .i64 1]) rfl rfl (Rd.cons (c := [.int .i64 2]) rfl rfl (Rd.nil RInt 1 _))) rfl (by decide)
 obtain ⟨y36, hy36, H⟩ := bnd H; refine WL_op rfl (OpP_callG cb42 (f42_ok (x0 := y29) (x1 := [1, 2]) hS.sat (h32.mono RTBaneFish_mono leG35) hfb33 hy36) rfl rfl (fun vy36 G38 w37 hg hvy36 => ?_)); obtain ⟨a39, n39, c39, ⟨⟩, h39⟩ := hvy36; have hS := hS.grow hg; have hO := hO.grow hg
 have leG38 := hg.le
 refine WL_val (rn_move (v := (.tuple #[.slice a39 n39 c39, .int .i64 y36.2.1, .int .i64 y36.2.2])) rfl) rfl ?_; refine WL_val (rn_extract (v := (.slice a39 n39 c39)) rfl rfl) rfl ?_; refine WL_val (rn_extract (v := (.int .i64 y36.2.1)) rfl rfl) rfl ?_; refine WL_val (rn_extract (v := (.int .i64 y36.2.2)) rfl rfl) rfl ?_; refine WL_val (rn_assign (v := (.slice a39 n39 c39)) rfl) rfl ?_; refine WL_val (rn_assign (v := (.int .i64 y36.2.1)) rfl) rfl ?_; refine WL_val (rn_assign (v := (.int .i64 y36.2.2)) rfl) rfl ?_; refine WL_nil ?_; refine WC_seq ?_; refine WC_region ?_; obtain ⟨y40, hy40, H⟩ := bnd H; refine WL_op rfl (OpP_callG cb64 (f64_ok  hS.sat  hy40) rfl rfl (fun vy40 G42 w41 hg hvy40 => ?_)); obtain ⟨a43, n43, c43, a44, n44, c44, a45, n45, c45, ⟨⟩, h43, h44, h45⟩ := hvy40; have hS := hS.grow hg; have hO := hO.grow hg
 have leG42 := hg.le
 obtain ⟨y46, hy46, H⟩ := bnd H; refine WL_op rfl (OpP_callG cb39 (f39_ok (x0 := y40) (x1 := []) hS.sat h43 h44 h45 (RSl.nil RInt 1 G42 none) hy46) rfl rfl (fun vy46 G48 w47 hg hvy46 => ?_)); obtain ⟨a49, n49, c49, ⟨⟩, h49⟩ := hvy46; have hS := hS.grow hg; have hO := hO.grow hg
 have leG48 := hg.le
 refine WL_val (rn_move (v := (.tuple #[.slice a49 n49 c49, .int .i64 y46.2])) rfl) rfl ?_; refine WL_val (rn_extract (v := (.slice a49 n49 c49)) rfl rfl) rfl ?_; refine WL_val (rn_extract (v := (.int .i64 y46.2)) rfl rfl) rfl ?_; refine WL_val (rn_assign (v := (.slice a49 n49 c49)) rfl) rfl ?_; refine WL_val (rn_assign (v := (.int .i64 y46.2)) rfl) rfl ?_; refine WL_nil ?_; refine WC_seq ?_; refine WC_region ?_; obtain ⟨y50, hy50, H⟩ := bnd H; refine WL_op rfl (OpP_callG cb64 (f64_ok  hS.sat  hy50) rfl rfl (fun vy50 G52 w51 hg hvy50 => ?_)); obtain ⟨a53, n53, c53, a54, n54, c54, a55, n55, c55, ⟨⟩, h53, h54, h55⟩ := hvy50; have hS := hS.grow hg; have hO := hO.grow hg
 have leG52 := hg.le
 obtain ⟨y56, hy56, H⟩ := bnd H; refine WL_op rfl (OpP_callG cb29 (f29_ok (x0 := y50) (x1 := []) (x2 := 3) hS.sat h53 h54 h55 (RSl.nil RInt 1 G52 none) hy56) rfl rfl (fun vy56 G58 w57 hg hvy56 => ?_)); obtain ⟨a59, n59, c59, ⟨⟩, h59⟩ := hvy56; have hS := hS.grow hg; have hO := hO.grow hg
 have leG58 := hg.le
 refine WL_val (rn_move (v := (.tuple #[.slice a59 n59 c59, .int .i64 y56.2])) rfl) rfl ?_; refine WL_val (rn_extract (v := (.slice a59 n59 c59)) rfl rfl) rfl ?_; refine WL_val (rn_extract (v := (.int .i64 y56.2)) rfl rfl) rfl ?_; refine WL_val (rn_assign (v := (.slice a59 n59 c59)) rfl) rfl ?_; refine WL_val (rn_assign (v := (.int .i64 y56.2)) rfl) rfl ?_; refine WL_nil ?_; refine WC_seq ?_; refine WC_region ?_; obtain ⟨y60, hy60, H⟩ := bnd H; refine WL_op rfl (OpP_callG cb64 (f64_ok  hS.sat  hy60) rfl rfl (fun vy60 G62 w61 hg hvy60 => ?_)); obtain ⟨a63, n63, c63, a64, n64, c64, a65, n65, c65, ⟨⟩, h63, h64, h65⟩ := hvy60; have hS := hS.grow hg; have hO := hO.grow hg
 have leG62 := hg.le
 obtain ⟨y66, hy66, H⟩ := bnd H; refine WL_op rfl (OpP_callG cb33 (f33_ok (x0 := y60) hS.sat h63 h64 h65 hy66) rfl rfl (fun vy66 G68 w67 hg hvy66 => ?_)); obtain ⟨a69, n69, c69, ⟨⟩, h69⟩ := hvy66; have hS := hS.grow hg; have hO := hO.grow hg
 have leG68 := hg.le
 refine WL_val (rn_move (v := (.tuple #[.slice a69 n69 c69, .int .i64 y66.2.1, .int .i64 y66.2.2])) rfl) rfl ?_; refine WL_val (rn_extract (v := (.slice a69 n69 c69)) rfl rfl) rfl ?_; refine WL_val (rn_extract (v := (.int .i64 y66.2.1)) rfl rfl) rfl ?_; refine WL_val (rn_extract (v := (.int .i64 y66.2.2)) rfl rfl) rfl ?_; refine WL_val (rn_assign (v := (.slice a69 n69 c69)) rfl) rfl ?_; refine WL_val (rn_assign (v := (.int .i64 y66.2.1)) rfl) rfl ?_; refine WL_val (rn_assign (v := (.int .i64 y66.2.2)) rfl) rfl ?_; refine WL_nil ?_; refine WC_seq ?_; refine WC_region ?_; obtain ⟨y70, hy70, H⟩ := bnd H; refine WL_op rfl (OpP_callG cb64 (f64_ok  hS.sat  hy70) rfl rfl (fun vy70 G72 w71 hg hvy70 => ?_)); obtain ⟨a73, n73, c73, a74, n74, c74, a75, n75, c75, ⟨⟩, h73, h74, h75⟩ := hvy70; have hS := hS.grow hg; have hO := hO.grow hg
 have leG72 := hg.le
 obtain ⟨y76, hy76, H⟩ := bnd H; refine WL_op rfl (OpP_callV cb34 (f34_ok (x0 := y70) hS.sat h73 h74 h75 hy76) rfl rfl (fun w77 hb => ?_)); have hS := hS.keep hb; have hO := hO.below hb; refine WL_val (rn_move (v := (.tuple #[.int .i64 y76.1, .int .i64 y76.2])) rfl) rfl ?_; refine WL_val (rn_extract (v := (.int .i64 y76.1)) rfl rfl) rfl ?_; refine WL_val (rn_extract (v := (.int .i64 y76.2)) rfl rfl) rfl ?_; refine WL_val (rn_assign (v := (.int .i64 y76.1)) rfl) rfl ?_; refine WL_val (rn_assign (v := (.int .i64 y76.2)) rfl) rfl ?_; refine WL_nil ?_; refine WC_seq ?_; refine WC_seq ?_; obtain ⟨q78, hq78, H⟩ := bnd H; refine WC_cut (fun F w => ∃ (Fb : Fr), F = upds Fb [(1, .slice a8 n8 c8), (3, .slice a28 n28 c28), (5, .slice a39 n39 c39), (6, .int .i64 y36.2.1), (8, .slice a49 n49 c49), (10, .slice a59 n59 c59), (12, .slice a69 n69 c69), (13, .int .i64 y66.2.1), (15, .int .i64 y76.1), (85, .bool q78)] ∧ w77 = w) ?_ ?_
 ·have Hoq78 := H; have H := hq78; refine WC_region ?_; refine WL_val (rn_move (v := (.int .i64 y5.2)) rfl) rfl ?_; refine WL_val (rn_neq rfl rfl) rfl ?_; refine WL_val (rn_move (v := (.bool (y5.2 != 0))) rfl) rfl ?_
  rcases bcases (y5.2 != 0) with hb79 | hb79
  ·have H := ifT hb79 H; refine WL_guardN rfl hb79 rfl rfl rfl ?_; refine WL_guardN rfl hb79 rfl rfl rfl ?_; refine WL_val (rn_pickT (v := (.bool true)) rfl hb79 rfl) rfl ?_; refine WL_val (rn_move (v := (.bool true)) rfl) rfl ?_; refine WL_guardN rfl rfl rfl rfl rfl ?_; refine WL_guardN rfl rfl rfl rfl rfl ?_; refine WL_val (rn_pickT (v := (.bool true)) rfl rfl rfl) rfl ?_; refine WL_val (rn_move (v := (.bool true)) rfl) rfl ?_; refine WL_guardN rfl rfl rfl rfl rfl ?_; refine WL_guardN rfl rfl rfl rfl rfl ?_; refine WL_val (rn_pickT (v := (.bool true)) rfl rfl rfl) rfl ?_; refine WL_val (rn_move (v := (.bool true)) rfl) rfl ?_; refine WL_guardN rfl rfl rfl rfl rfl ?_; refine WL_guardN rfl rfl rfl rfl rfl ?_; refine WL_val (rn_pickT (v := (.bool true)) rfl rfl rfl) rfl ?_; refine WL_val (rn_move (v := (.bool true)) rfl) rfl ?_; refine WL_guardN rfl rfl rfl rfl rfl ?_; refine WL_guardN rfl rfl rfl rfl rfl ?_; refine WL_val (rn_pickT (v := (.bool true)) rfl rfl rfl) rfl ?_; refine WL_val (rn_move (v := (.bool true)) rfl) rfl ?_; refine WL_guardN rfl rfl rfl rfl rfl ?_; refine WL_guardN rfl rfl rfl rfl rfl ?_; refine WL_val (rn_pickT (v := (.bool true)) rfl rfl rfl) rfl ?_; refine WL_nil ?_; have H := Option.some.inj H; subst H
   exact ⟨_, upds_self _ _ ⟨rfl, rfl, rfl, rfl, rfl, rfl, rfl, rfl, rfl, rfl, trivial⟩, rfl⟩
  ·have H := ifF hb79 H; refine WL_guardY rfl hb79 rfl rfl ?_; refine WL_val (rn_move (v := (.int .i64 y25.2)) rfl) rfl ?_; refine WL_guardY rfl hb79 rfl rfl ?_; refine WL_val (rn_neq rfl rfl) rfl ?_; refine WL_val (rn_pickF (v := (.bool (y25.2 != 0))) rfl hb79 rfl) rfl ?_; refine WL_val (rn_move (v := (.bool (y25.2 != 0))) rfl) rfl ?_
   rcases bcases (y25.2 != 0) with hb80 | hb80
   ·have H := ifT hb80 H; refine WL_guardN rfl hb80 rfl rfl rfl ?_; refine WL_guardN rfl hb80 rfl rfl rfl ?_; refine WL_val (rn_pickT (v := (.bool true)) rfl hb80 rfl) rfl ?_; refine WL_val (rn_move (v := (.bool true)) rfl) rfl ?_; refine WL_guardN rfl rfl rfl rfl rfl ?_; refine WL_guardN rfl rfl rfl rfl rfl ?_; refine WL_val (rn_pickT (v := (.bool true)) rfl rfl rfl) rfl ?_; refine WL_val (rn_move (v := (.bool true)) rfl) rfl ?_; refine WL_guardN rfl rfl rfl rfl rfl ?_; refine WL_guardN rfl rfl rfl rfl rfl ?_; refine WL_val (rn_pickT (v := (.bool true)) rfl rfl rfl) rfl ?_; refine WL_val (rn_move (v := (.bool true)) rfl) rfl ?_; refine WL_guardN rfl rfl rfl rfl rfl ?_; refine WL_guardN rfl rfl rfl rfl rfl ?_; refine WL_val (rn_pickT (v := (.bool true)) rfl rfl rfl) rfl ?_; refine WL_val (rn_move (v := (.bool true)) rfl) rfl ?_; refine WL_guardN rfl rfl rfl rfl rfl ?_; refine WL_guardN rfl rfl rfl rfl rfl ?_; refine WL_val (rn_pickT (v := (.bool true)) rfl rfl rfl) rfl ?_; refine WL_nil ?_; have H := Option.some.inj H; subst H
    exact ⟨_, upds_self _ _ ⟨rfl, rfl, rfl, rfl, rfl, rfl, rfl, rfl, rfl, rfl, trivial⟩, rfl⟩
   ·have H := ifF hb80 H; refine WL_guardY rfl hb80 rfl rfl ?_; refine WL_val (rn_move (v := (.int .i64 y36.2.2)) rfl) rfl ?_; refine WL_guardY rfl hb80 rfl rfl ?_; refine WL_val (rn_neq rfl rfl) rfl ?_; refine WL_val (rn_pickF (v := (.bool (y36.2.2 != 0))) rfl hb80 rfl) rfl ?_; refine WL_val (rn_move (v := (.bool (y36.2.2 != 0))) rfl) rfl ?_
    rcases bcases (y36.2.2 != 0) with hb81 | hb81
    ·have H := ifT hb81 H; refine WL_guardN rfl hb81 rfl rfl rfl ?_; refine WL_guardN rfl hb81 rfl rfl rfl ?_; refine WL_val (rn_pickT (v := (.bool true)) rfl hb81 rfl) rfl ?_; refine WL_val (rn_move (v := (.bool true)) rfl) rfl ?_; refine WL_guardN rfl rfl rfl rfl rfl ?_; refine WL_guardN rfl rfl rfl rfl rfl ?_; refine WL_val (rn_pickT (v := (.bool true)) rfl rfl rfl) rfl ?_; refine WL_val (rn_move (v := (.bool true)) rfl) rfl ?_; refine WL_guardN rfl rfl rfl rfl rfl ?_; refine WL_guardN rfl rfl rfl rfl rfl ?_; refine WL_val (rn_pickT (v := (.bool true)) rfl rfl rfl) rfl ?_; refine WL_val (rn_move (v := (.bool true)) rfl) rfl ?_; refine WL_guardN rfl rfl rfl rfl rfl ?_; refine WL_guardN rfl rfl rfl rfl rfl ?_; refine WL_val (rn_pickT (v := (.bool true)) rfl rfl rfl) rfl ?_; refine WL_nil ?_; have H := Option.some.inj H; subst H
     exact ⟨_, upds_self _ _ ⟨rfl, rfl, rfl, rfl, rfl, rfl, rfl, rfl, rfl, rfl, trivial⟩, rfl⟩
    ·have H := ifF hb81 H; refine WL_guardY rfl hb81 rfl rfl ?_; refine WL_val (rn_move (v := (.int .i64 y46.2)) rfl) rfl ?_; refine WL_guardY rfl hb81 rfl rfl ?_; refine WL_val (rn_neq rfl rfl) rfl ?_; refine WL_val (rn_pickF (v := (.bool (y46.2 != 0))) rfl hb81 rfl) rfl ?_; refine WL_val (rn_move (v := (.bool (y46.2 != 0))) rfl) rfl ?_
     rcases bcases (y46.2 != 0) with hb82 | hb82
     ·have H := ifT hb82 H; refine WL_guardN rfl hb82 rfl rfl rfl ?_; refine WL_guardN rfl hb82 rfl rfl rfl ?_; refine WL_val (rn_pickT (v := (.bool true)) rfl hb82 rfl) rfl ?_; refine WL_val (rn_move (v := (.bool true)) rfl) rfl ?_; refine WL_guardN rfl rfl rfl rfl rfl ?_; refine WL_guardN rfl rfl rfl rfl rfl ?_; refine WL_val (rn_pickT (v := (.bool true)) rfl rfl rfl) rfl ?_; refine WL_val (rn_move (v := (.bool true)) rfl) rfl ?_; refine WL_guardN rfl rfl rfl rfl rfl ?_; refine WL_guardN rfl rfl rfl rfl rfl ?_; refine WL_val (rn_pickT (v := (.bool true)) rfl rfl rfl) rfl ?_; refine WL_nil ?_; have H := Option.some.inj H; subst H
      exact ⟨_, upds_self _ _ ⟨rfl, rfl, rfl, rfl, rfl, rfl, rfl, rfl, rfl, rfl, trivial⟩, rfl⟩
     ·have H := ifF hb82 H; refine WL_guardY rfl hb82 rfl rfl ?_; refine WL_val (rn_move (v := (.int .i64 y56.2)) rfl) rfl ?_; refine WL_guardY rfl hb82 rfl rfl ?_; refine WL_val (rn_neq rfl rfl) rfl ?_; refine WL_val (rn_pickF (v := (.bool (y56.2 != 0))) rfl hb82 rfl) rfl ?_; refine WL_val (rn_move (v := (.bool (y56.2 != 0))) rfl) rfl ?_
      rcases bcases (y56.2 != 0) with hb83 | hb83
      ·have H := ifT hb83 H; refine WL_guardN rfl hb83 rfl rfl rfl ?_; refine WL_guardN rfl hb83 rfl rfl rfl ?_; refine WL_val (rn_pickT (v := (.bool true)) rfl hb83 rfl) rfl ?_; refine WL_val (rn_move (v := (.bool true)) rfl) rfl ?_; refine WL_guardN rfl rfl rfl rfl rfl ?_; refine WL_guardN rfl rfl rfl rfl rfl ?_; refine WL_val (rn_pickT (v := (.bool true)) rfl rfl rfl) rfl ?_; refine WL_nil ?_; have H := Option.some.inj H; subst H
       exact ⟨_, upds_self _ _ ⟨rfl, rfl, rfl, rfl, rfl, rfl, rfl, rfl, rfl, rfl, trivial⟩, rfl⟩
      ·have H := ifF hb83 H; refine WL_guardY rfl hb83 rfl rfl ?_; refine WL_val (rn_move (v := (.int .i64 y66.2.2)) rfl) rfl ?_; refine WL_guardY rfl hb83 rfl rfl ?_; refine WL_val (rn_neq rfl rfl) rfl ?_; refine WL_val (rn_pickF (v := (.bool (y66.2.2 != 0))) rfl hb83 rfl) rfl ?_; refine WL_val (rn_move (v := (.bool (y66.2.2 != 0))) rfl) rfl ?_
       rcases bcases (y66.2.2 != 0) with hb84 | hb84
       ·have H := ifT hb84 H; refine WL_guardN rfl hb84 rfl rfl rfl ?_; refine WL_guardN rfl hb84 rfl rfl rfl ?_; refine WL_val (rn_pickT (v := (.bool true)) rfl hb84 rfl) rfl ?_; refine WL_nil ?_; have H := Option.some.inj H; subst H
        exact ⟨_, upds_self _ _ ⟨rfl, rfl, rfl, rfl, rfl, rfl, rfl, rfl, rfl, rfl, trivial⟩, rfl⟩
       ·have H := ifF hb84 H; refine WL_guardY rfl hb84 rfl rfl ?_; refine WL_val (rn_move (v := (.int .i64 y76.2)) rfl) rfl ?_; refine WL_guardY rfl hb84 rfl rfl ?_; refine WL_val (rn_neq rfl rfl) rfl ?_; refine WL_val (rn_pickF (v := (.bool (y76.2 != 0))) rfl hb84 rfl) rfl ?_; refine WL_nil ?_; have H := Option.some.inj H; subst H
        exact ⟨_, upds_self _ _ ⟨rfl, rfl, rfl, rfl, rfl, rfl, rfl, rfl, rfl, rfl, trivial⟩, rfl⟩
 ·rintro F wl ⟨Fb, rfl, rfl⟩
  refine WC_cond rfl (fun hb87 => ?_) (fun hb87 => ?_)
  ·have H := ifT hb87 H; refine WC_seq ?_; refine WC_region ?_; refine WL_val (rn_assign (v := (.bool false)) rfl) rfl ?_; refine WL_nil ?_; refine WC_ret ?_
   have H : some false = some r := H
   have H := Option.some.inj H; subst H
   exact ⟨rfl, hS.below⟩
  ·have H := ifF hb87 H; refine WC_skip ?_; refine WC_seq ?_; refine WC_seq ?_; obtain ⟨q88, hq88, H⟩ := bnd H; refine WC_cut (fun F w => ∃ (Fb : Fr) (G : Gm), F = upds Fb [(8, .slice a49 n49 c49), (10, .slice a59 n59 c59), (12, .slice a69 n69 c69), (13, .int .i64 y66.2.1), (15, .int .i64 y76.1), (108, .bool q88)] ∧ Gle G72 G ∧ Since w0.heap.size G0 w0 G w ∧ Owns G w w0.heap.size []) ?_ ?_
   ·have Hoq88 := H; have H := hq88; refine WC_region ?_; refine WL_val (rn_move (v := (.slice a8 n8 c8)) rfl) rfl ?_
    refine WL_val (v := (.agg #[.int .i64 100, .int .i64 200])) (by kernel_rfl) rfl ?_
    refine WL_val (v := (.agg #[.int .i64 50, .int .i64 210])) (by kernel_rfl) rfl ?_
    refine WL_val (v := (.agg #[.int .i64 65, .int .i64 270])) (by kernel_rfl) rfl ?_
    refine WL_op rfl (OpP_newF (v := fun b => .slice (some ⟨b, 0, none⟩) 3 3) (cs := [.int .i64 100, .int .i64 200, .int .i64 50, .int .i64 210, .int .i64 65, .int .i64 270]) (e := 43) (by kernel_rfl) hS.sat rfl (fun b89 G91 w90 hg hcb89 => ?_))
    have hS := hS.grow hg; have hO := hO.grow hg
    have leG91 := hg.le
    have hfb89 : RSl RTSpan 2 G91 (some ⟨b89, 0, none⟩) 3 3 [(⟨100, 200⟩ : TSpan), (⟨50, 210⟩ : TSpan), (⟨65, 270⟩ : TSpan)] := RSl.of_rd hcb89 (Rd.cons (c := [.int .i64 100, .int .i64 200]) rfl rfl (Rd.cons (c := [.int .i64 50, .int .i64 210]) rfl rfl (Rd.cons (c := [.int .i64 65, .int .i64 270]) rfl rfl (Rd.nil RTSpan 2 _)))) rfl (by decide)
    obtain ⟨y92, hy92, H⟩ := bnd H
    have l2_19 := ((((((((((((leG11.trans l3_7).trans leG27).trans leG31).trans leG35).trans leG38).trans leG42).trans leG48).trans leG52).trans leG58).trans leG62).trans leG68).trans leG72).trans leG91
    refine WL_op rfl (OpP_callV cb60 (f60_ok (x0 := y5.1) (x1 := [(⟨100, 200⟩ : TSpan), (⟨50, 210⟩ : TSpan), (⟨65, 270⟩ : TSpan)]) hS.sat (h8.mono RTSpan_mono l2_19) hfb89 hy92) rfl rfl (fun w93 hb => ?_)); have hS := hS.keep hb; have hO := hO.below hb; refine WL_val (rn_not rfl) rfl ?_; refine WL_val (rn_move (v := (.bool (!y92))) rfl) rfl ?_
    rcases bcases (!y92) with hb94 | hb94
    ·have H := ifT hb94 H; refine WL_guardN rfl hb94 rfl rfl rfl ?_; refine WL_guardN rfl hb94 rfl rfl rfl ?_; refine WL_guardN rfl hb94 rfl rfl rfl ?_; refine WL_guardN rfl hb94 rfl rfl rfl ?_; refine WL_val (rn_pickT (v := (.bool true)) rfl hb94 rfl) rfl ?_; refine WL_val (rn_move (v := (.bool true)) rfl) rfl ?_; refine WL_guardN rfl rfl rfl rfl rfl ?_; refine WL_guardN rfl rfl rfl rfl rfl ?_; refine WL_guardN rfl rfl rfl rfl rfl ?_; refine WL_guardN rfl rfl rfl rfl rfl ?_; refine WL_val (rn_pickT (v := (.bool true)) rfl rfl rfl) rfl ?_; refine WL_val (rn_move (v := (.bool true)) rfl) rfl ?_; refine WL_guardN rfl rfl rfl rfl rfl ?_; refine WL_guardN rfl rfl rfl rfl rfl ?_; refine WL_val (rn_pickT (v := (.bool true)) rfl rfl rfl) rfl ?_; refine WL_nil ?_
     have hO : Owns G91 w93 w0.heap.size ([]) := hO
     have H := Option.some.inj H; subst H
     exact ⟨_, G91, upds_self _ _ ⟨rfl, rfl, rfl, rfl, rfl, rfl, trivial⟩, leG91, hS, hO⟩
    ·have H := ifF hb94 H; refine WL_guardY rfl hb94 rfl rfl ?_; refine WL_val (rn_move (v := (.slice a28 n28 c28)) rfl) rfl ?_; refine WL_guardY rfl hb94 rfl rfl ?_
     refine WL_op rfl (OpP_newF (v := fun b => .slice (some ⟨b, 0, none⟩) 3 3) (cs := [.int .i64 150, .int .i64 110, .int .i64 141]) (e := 3) (by kernel_rfl) hS.sat rfl (fun b95 G97 w96 hg hcb95 => ?_))
     have hS := hS.grow hg; have hO := hO.grow hg
     have leG97 := hg.le
     have hfb95 : RSl RInt 1 G97 (some ⟨b95, 0, none⟩) 3 3 [150, 110, 141] := RSl.of_rd hcb95 (Rd.cons (c := [.int .i64 150]) rfl rfl (Rd.cons (c := [.int .i64 110]) rfl rfl (Rd.cons (c := [.int .i64 141]) rfl rfl (Rd.nil RInt 1 _)))) rfl (by decide)
     refine WL_guardY rfl hb94 rfl rfl ?_; obtain ⟨y98, hy98, H⟩ := bnd H
     have l8_20 := ((((((((((leG31.trans leG35).trans leG38).trans leG42).trans leG48).trans leG52).trans leG58).trans leG62).trans leG68).trans leG72).trans leG91).trans leG97
     refine WL_op rfl (OpP_callV cb23 (f23_ok (x0 := y25.1) (x1 := [150, 110, 141]) hS.sat (h28.mono RInt_mono l8_20) hfb95 hy98) rfl rfl (fun w99 hb => ?_)); have hS := hS.keep hb; have hO := hO.below hb; refine WL_guardY rfl hb94 rfl rfl ?_; refine WL_val (rn_not rfl) rfl ?_; refine WL_val (rn_pickF (v := (.bool (!y98))) rfl hb94 rfl) rfl ?_; refine WL_val (rn_move (v := (.bool (!y98))) rfl) rfl ?_
     rcases bcases (!y98) with hb100 | hb100
     ·have H := ifT hb100 H; refine WL_guardN rfl hb100 rfl rfl rfl ?_; refine WL_guardN rfl hb100 rfl rfl rfl ?_; refine WL_guardN rfl hb100 rfl rfl rfl ?_; refine WL_guardN rfl hb100 rfl rfl rfl ?_; refine WL_val (rn_pickT (v := (.bool true)) rfl hb100 rfl) rfl ?_; refine WL_val (rn_move (v := (.bool true)) rfl) rfl ?_; refine WL_guardN rfl rfl rfl rfl rfl ?_; refine WL_guardN rfl rfl rfl rfl rfl ?_; refine WL_val (rn_pickT (v := (.bool true)) rfl rfl rfl) rfl ?_; refine WL_nil ?_
      have hO : Owns G97 w99 w0.heap.size ([]) := hO
      have H := Option.some.inj H; subst H
      have l18_20 := leG91.trans leG97
      exact ⟨_, G97, upds_self _ _ ⟨rfl, rfl, rfl, rfl, rfl, rfl, trivial⟩, l18_20, hS, hO⟩
     ·have H := ifF hb100 H; refine WL_guardY rfl hb100 rfl rfl ?_; refine WL_val (rn_move (v := (.slice a39 n39 c39)) rfl) rfl ?_; refine WL_guardY rfl hb100 rfl rfl ?_
      refine WL_op rfl (OpP_newF (v := fun b => .slice (some ⟨b, 0, none⟩) 2 2) (cs := [.int .i64 0, .int .i64 2]) (e := 3) (by kernel_rfl) hS.sat rfl (fun b101 G103 w102 hg hcb101 => ?_))
      have hS := hS.grow hg; have hO := hO.grow hg
      have leG103 := hg.le
      have hfb101 : RSl RInt 1 G103 (some ⟨b101, 0, none⟩) 2 2 [0, 2] := RSl.of_rd hcb101 (Rd.cons (c := [.int .i64 0]) rfl rfl (Rd.cons (c := [.int .i64 2]) rfl rfl (Rd.nil RInt 1 _))) rfl (by decide)
      refine WL_guardY rfl hb100 rfl rfl ?_; obtain ⟨y104, hy104, H⟩ := bnd H
      have l11_21 := ((((((((leG42.trans leG48).trans leG52).trans leG58).trans leG62).trans leG68).trans leG72).trans leG91).trans leG97).trans leG103
      refine WL_op rfl (OpP_callV cb23 (f23_ok (x0 := y36.1) (x1 := [0, 2]) hS.sat (h39.mono RInt_mono l11_21) hfb101 hy104) rfl rfl (fun w105 hb => ?_)); have hS := hS.keep hb; have hO := hO.below hb; refine WL_guardY rfl hb100 rfl rfl ?_; refine WL_val (rn_not rfl) rfl ?_; refine WL_val (rn_pickF (v := (.bool (!y104))) rfl hb100 rfl) rfl ?_; refine WL_val (rn_move (v := (.bool (!y104))) rfl) rfl ?_
      rcases bcases (!y104) with hb106 | hb106
      ·have H := ifT hb106 H; refine WL_guardN rfl hb106 rfl rfl rfl ?_; refine WL_guardN rfl hb106 rfl rfl rfl ?_; refine WL_val (rn_pickT (v := (.bool true)) rfl hb106 rfl) rfl ?_; refine WL_nil ?_
       have hO : Owns G103 w105 w0.heap.size ([]) := hO
       have H := Option.some.inj H; subst H
       have l18_21 := (leG91.trans leG97).trans leG103
       exact ⟨_, G103, upds_self _ _ ⟨rfl, rfl, rfl, rfl, rfl, rfl, trivial⟩, l18_21, hS, hO⟩
      ·have H := ifF hb106 H; refine WL_guardY rfl hb106 rfl rfl ?_; refine WL_val (rn_move (v := (.int .i64 y36.2.1)) rfl) rfl ?_; refine WL_guardY rfl hb106 rfl rfl ?_; refine WL_val (rn_neq rfl rfl) rfl ?_; refine WL_val (rn_pickF (v := (.bool (y36.2.1 != 40))) rfl hb106 rfl) rfl ?_; refine WL_nil ?_
       have hO : Owns G103 w105 w0.heap.size ([]) := hO
       have H := Option.some.inj H; subst H
       have l18_21 := (leG91.trans leG97).trans leG103
       exact ⟨_, G103, upds_self _ _ ⟨rfl, rfl, rfl, rfl, rfl, rfl, trivial⟩, l18_21, hS, hO⟩
   ·rintro F w107 ⟨Fb, G108, rfl, leG108, hS, hO⟩
    refine WC_cond rfl (fun hb109 => ?_) (fun hb109 => ?_)
    ·have H := ifT hb109 H; refine WC_seq ?_; refine WC_region ?_; refine WL_val (rn_assign (v := (.bool false)) rfl) rfl ?_; refine WL_nil ?_; refine WC_ret ?_
     have H : some false = some r := H
     have H := Option.some.inj H; subst H
     exact ⟨rfl, hS.below⟩
    ·have H := ifF hb109 H; refine WC_skip ?_; refine WC_seq ?_; obtain ⟨q110, hq110, H⟩ := bnd H; refine WC_cut (fun F w => ∃ (Fb : Fr) (G : Gm), F = upds Fb [(0, .bool q110)] ∧ Gle G108 G ∧ Since w0.heap.size G0 w0 G w ∧ Owns G w w0.heap.size []) ?_ ?_
     ·have Hoq110 := H; have H := hq110; refine WC_region ?_; refine WL_val (rn_move (v := (.slice a49 n49 c49)) rfl) rfl ?_
      refine WL_op rfl (OpP_newF (v := fun b => .slice (some ⟨b, 0, none⟩) 4 4) (cs := [.int .i64 0, .int .i64 1, .int .i64 3, .int .i64 5]) (e := 3) (by kernel_rfl) hS.sat rfl (fun b111 G113 w112 hg hcb111 => ?_))
      have hS := hS.grow hg; have hO := hO.grow hg
      have leG113 := hg.le
      have hfb111 : RSl RInt 1 G113 (some ⟨b111, 0, none⟩) 4 4 [0, 1, 3, 5] := RSl.of_rd hcb111 (Rd.cons (c := [.int .i64 0]) rfl rfl (Rd.cons (c := [.int .i64 1]) rfl rfl (Rd.cons (c := [.int .i64 3]) rfl rfl (Rd.cons (c := [.int .i64 5]) rfl rfl (Rd.nil RInt 1 _))))) rfl (by decide)
      obtain ⟨y114, hy114, H⟩ := bnd H
      have l13_20 := (((((leG52.trans leG58).trans leG62).trans leG68).trans leG72).trans leG108).trans leG113
      refine WL_op rfl (OpP_callV cb23 (f23_ok (x0 := y46.1) (x1 := [0, 1, 3, 5]) hS.sat (h49.mono RInt_mono l13_20) hfb111 hy114) rfl rfl (fun w115 hb => ?_)); have hS := hS.keep hb; have hO := hO.below hb; refine WL_val (rn_move (v := (.bool y114)) rfl) rfl ?_
      rcases bcases y114 with hb116 | hb116
      ·have H := ifT hb116 H; refine WL_guardY rfl hb116 rfl rfl ?_; refine WL_val (rn_move (v := (.slice a59 n59 c59)) rfl) rfl ?_; refine WL_guardY rfl hb116 rfl rfl ?_
       refine WL_op rfl (OpP_newF (v := fun b => .slice (some ⟨b, 0, none⟩) 3 3) (cs := [.int .i64 0, .int .i64 2, .int .i64 3]) (e := 3) (by kernel_rfl) hS.sat rfl (fun b117 G119 w118 hg hcb117 => ?_))
       have hS := hS.grow hg; have hO := hO.grow hg
       have leG119 := hg.le
       have hfb117 : RSl RInt 1 G119 (some ⟨b117, 0, none⟩) 3 3 [0, 2, 3] := RSl.of_rd hcb117 (Rd.cons (c := [.int .i64 0]) rfl rfl (Rd.cons (c := [.int .i64 2]) rfl rfl (Rd.cons (c := [.int .i64 3]) rfl rfl (Rd.nil RInt 1 _)))) rfl (by decide)
       refine WL_guardY rfl hb116 rfl rfl ?_; obtain ⟨y120, hy120, H⟩ := bnd H
       have l15_21 := ((((leG62.trans leG68).trans leG72).trans leG108).trans leG113).trans leG119
       refine WL_op rfl (OpP_callV cb23 (f23_ok (x0 := y56.1) (x1 := [0, 2, 3]) hS.sat (h59.mono RInt_mono l15_21) hfb117 hy120) rfl rfl (fun w121 hb => ?_)); have hS := hS.keep hb; have hO := hO.below hb; refine WL_val (rn_pickT (v := (.bool y120)) rfl hb116 rfl) rfl ?_; refine WL_val (rn_move (v := (.bool y120)) rfl) rfl ?_
       rcases bcases y120 with hb122 | hb122
       ·have H := ifT hb122 H; refine WL_guardY rfl hb122 rfl rfl ?_; refine WL_val (rn_move (v := (.slice a69 n69 c69)) rfl) rfl ?_; refine WL_guardY rfl hb122 rfl rfl ?_
        refine WL_op rfl (OpP_newF (v := fun b => .slice (some ⟨b, 0, none⟩) 1 1) (cs := [.int .i64 2]) (e := 3) (by kernel_rfl) hS.sat rfl (fun b123 G125 w124 hg hcb123 => ?_))
        have hS := hS.grow hg; have hO := hO.grow hg
        have leG125 := hg.le
        have hfb123 : RSl RInt 1 G125 (some ⟨b123, 0, none⟩) 1 1 [2] := RSl.of_rd hcb123 (Rd.cons (c := [.int .i64 2]) rfl rfl (Rd.nil RInt 1 _)) rfl (by decide)
        refine WL_guardY rfl hb122 rfl rfl ?_; obtain ⟨y126, hy126, H⟩ := bnd H
        have l17_22 := (((leG72.trans leG108).trans leG113).trans leG119).trans leG125
        refine WL_op rfl (OpP_callV cb23 (f23_ok (x0 := y66.1) (x1 := [2]) hS.sat (h69.mono RInt_mono l17_22) hfb123 hy126) rfl rfl (fun w127 hb => ?_)); have hS := hS.keep hb; have hO := hO.below hb; refine WL_val (rn_pickT (v := (.bool y126)) rfl hb122 rfl) rfl ?_; refine WL_val (rn_move (v := (.bool y126)) rfl) rfl ?_
        rcases bcases y126 with hb128 | hb128
        ·have H := ifT hb128 H; refine WL_guardY rfl hb128 rfl rfl ?_; refine WL_val (rn_move (v := (.int .i64 y66.2.1)) rfl) rfl ?_; refine WL_guardY rfl hb128 rfl rfl ?_; refine WL_val (rn_eql rfl rfl) rfl ?_; refine WL_val (rn_pickT (v := (.bool (y66.2.1 == 4))) rfl hb128 rfl) rfl ?_; refine WL_val (rn_move (v := (.bool (y66.2.1 == 4))) rfl) rfl ?_
         rcases bcases (y66.2.1 == 4) with hb129 | hb129
         ·have H := ifT hb129 H; refine WL_guardY rfl hb129 rfl rfl ?_; refine WL_val (rn_move (v := (.int .i64 y76.1)) rfl) rfl ?_; refine WL_guardY rfl hb129 rfl rfl ?_; refine WL_val (rn_eql rfl rfl) rfl ?_; refine WL_val (rn_pickT (v := (.bool (y76.1 == 3))) rfl hb129 rfl) rfl ?_; refine WL_val (rn_assign (v := (.bool (y76.1 == 3))) rfl) rfl ?_; refine WL_nil ?_
          have hO : Owns G125 w127 w0.heap.size ([]) := hO
          have H := Option.some.inj H; subst H
          have l19_22 := (leG113.trans leG119).trans leG125
          exact ⟨_, G125, upds_self _ _ ⟨rfl, trivial⟩, l19_22, hS, hO⟩
         ·have H := ifF hb129 H; refine WL_guardN rfl hb129 rfl rfl rfl ?_; refine WL_guardN rfl hb129 rfl rfl rfl ?_; refine WL_val (rn_pickF (v := (.bool false)) rfl hb129 rfl) rfl ?_; refine WL_val (rn_assign (v := (.bool false)) rfl) rfl ?_; refine WL_nil ?_
          have hO : Owns G125 w127 w0.heap.size ([]) := hO
          have H := Option.some.inj H; subst H
          have l19_22 := (leG113.trans leG119).trans leG125
          exact ⟨_, G125, upds_self _ _ ⟨rfl, trivial⟩, l19_22, hS, hO⟩
        ·have H := ifF hb128 H; refine WL_guardN rfl hb128 rfl rfl rfl ?_; refine WL_guardN rfl hb128 rfl rfl rfl ?_; refine WL_val (rn_pickF (v := (.bool false)) rfl hb128 rfl) rfl ?_; refine WL_val (rn_move (v := (.bool false)) rfl) rfl ?_; refine WL_guardN rfl rfl rfl rfl rfl ?_; refine WL_guardN rfl rfl rfl rfl rfl ?_; refine WL_val (rn_pickF (v := (.bool false)) rfl rfl rfl) rfl ?_; refine WL_val (rn_assign (v := (.bool false)) rfl) rfl ?_; refine WL_nil ?_
         have hO : Owns G125 w127 w0.heap.size ([]) := hO
         have H := Option.some.inj H; subst H
         have l19_22 := (leG113.trans leG119).trans leG125
         exact ⟨_, G125, upds_self _ _ ⟨rfl, trivial⟩, l19_22, hS, hO⟩
       ·have H := ifF hb122 H; refine WL_guardN rfl hb122 rfl rfl rfl ?_; refine WL_guardN rfl hb122 rfl rfl rfl ?_; refine WL_guardN rfl hb122 rfl rfl rfl ?_; refine WL_val (rn_pickF (v := (.bool false)) rfl hb122 rfl) rfl ?_; refine WL_val (rn_move (v := (.bool false)) rfl) rfl ?_; refine WL_guardN rfl rfl rfl rfl rfl ?_; refine WL_guardN rfl rfl rfl rfl rfl ?_; refine WL_val (rn_pickF (v := (.bool false)) rfl rfl rfl) rfl ?_; refine WL_val (rn_move (v := (.bool false)) rfl) rfl ?_; refine WL_guardN rfl rfl rfl rfl rfl ?_; refine WL_guardN rfl rfl rfl rfl rfl ?_; refine WL_val (rn_pickF (v := (.bool false)) rfl rfl rfl) rfl ?_; refine WL_val (rn_assign (v := (.bool false)) rfl) rfl ?_; refine WL_nil ?_
        have hO : Owns G119 w121 w0.heap.size ([]) := hO
        have H := Option.some.inj H; subst H
        have l19_21 := leG113.trans leG119
        exact ⟨_, G119, upds_self _ _ ⟨rfl, trivial⟩, l19_21, hS, hO⟩
      ·have H := ifF hb116 H; refine WL_guardN rfl hb116 rfl rfl rfl ?_; refine WL_guardN rfl hb116 rfl rfl rfl ?_; refine WL_guardN rfl hb116 rfl rfl rfl ?_; refine WL_val (rn_pickF (v := (.bool false)) rfl hb116 rfl) rfl ?_; refine WL_val (rn_move (v := (.bool false)) rfl) rfl ?_; refine WL_guardN rfl rfl rfl rfl rfl ?_; refine WL_guardN rfl rfl rfl rfl rfl ?_; refine WL_guardN rfl rfl rfl rfl rfl ?_; refine WL_val (rn_pickF (v := (.bool false)) rfl rfl rfl) rfl ?_; refine WL_val (rn_move (v := (.bool false)) rfl) rfl ?_; refine WL_guardN rfl rfl rfl rfl rfl ?_; refine WL_guardN rfl rfl rfl rfl rfl ?_; refine WL_val (rn_pickF (v := (.bool false)) rfl rfl rfl) rfl ?_; refine WL_val (rn_move (v := (.bool false)) rfl) rfl ?_; refine WL_guardN rfl rfl rfl rfl rfl ?_; refine WL_guardN rfl rfl rfl rfl rfl ?_; refine WL_val (rn_pickF (v := (.bool false)) rfl rfl rfl) rfl ?_; refine WL_val (rn_assign (v := (.bool false)) rfl) rfl ?_; refine WL_nil ?_
       have hO : Owns G113 w115 w0.heap.size ([]) := hO
       have H := Option.some.inj H; subst H
       exact ⟨_, G113, upds_self _ _ ⟨rfl, trivial⟩, leG113, hS, hO⟩
     ·rintro F w130 ⟨Fb, G131, rfl, leG131, hS, hO⟩
      refine WC_ret ?_
      have H : some q110 = some r := H
      have H := Option.some.inj H; subst H
      exact ⟨rfl, hS.below⟩
set_option maxHeartbeats 1000000 in
theorem f69_ok {G0 : Gm} {w0 : World} (hS0 : Sat G0 w0) {x0 : Int} {x1 : Int} {x2 : Int}  {r : Bool} (H : f69 x0 x1 x2 = some r) :
  Calls Try.prog 69 #[.int .i64 x0, .int .i64 x1, .int .i64 x2] w0 (RetV w0 (.bool r)) := by
 have hS := Since.start hS0
 have hO : Owns G0 w0 w0.heap.size [] := Owns.nil (Nat.le_refl _)
 unfold f69 at H
 refine enter1 (N := 15) (shutV _ _) Try.func69 rfl rfl rfl rfl ?_; refine WC_seq ?_; refine WC_region ?_; refine WL_val (rn_assign (v := (.bool false)) rfl) rfl ?_; refine WL_nil ?_; refine WC_seq ?_; obtain ⟨q1, hq1, H⟩ := bnd H; refine WC_cut (fun F w => ∃ (Fb : Fr), F = upds Fb [(6, .bool q1)] ∧ w0 = w) ?_ ?_
 ·have Hoq1 := H; have H := hq1; refine WC_region ?_; refine WL_val (rn_move (v := (.int .i64 x0)) rfl) rfl ?_; refine WL_val (rn_move (v := (.int .i64 x1)) rfl) rfl ?_; refine WL_val (rn_geq rfl rfl) rfl ?_; refine WL_val (rn_move (v := (.bool (decide (x1 ≤ x0)))) rfl) rfl ?_
  rcases bcases (decide (x1 ≤ x0)) with hb2 | hb2
  ·have H := ifT hb2 H; refine WL_guardY rfl hb2 rfl rfl ?_; refine WL_val (rn_move (v := (.int .i64 x0)) rfl) rfl ?_; refine WL_guardY rfl hb2 rfl rfl ?_; refine WL_val (rn_move (v := (.int .i64 x2)) rfl) rfl ?_; refine WL_guardY rfl hb2 rfl rfl ?_; refine WL_val (rn_leq rfl rfl) rfl ?_; refine WL_val (rn_pickT (v := (.bool (decide (x0 ≤ x2)))) rfl hb2 rfl) rfl ?_; refine WL_val (rn_assign (v := (.bool (decide (x0 ≤ x2)))) rfl) rfl ?_; refine WL_nil ?_; have H := Option.some.inj H; subst H
   exact ⟨_, upds_self _ _ ⟨rfl, trivial⟩, rfl⟩
  ·have H := ifF hb2 H; refine WL_guardN rfl hb2 rfl rfl rfl ?_; refine WL_guardN rfl hb2 rfl rfl rfl ?_; refine WL_guardN rfl hb2 rfl rfl rfl ?_; refine WL_val (rn_pickF (v := (.bool false)) rfl hb2 rfl) rfl ?_; refine WL_val (rn_assign (v := (.bool false)) rfl) rfl ?_; refine WL_nil ?_; have H := Option.some.inj H; subst H
   exact ⟨_, upds_self _ _ ⟨rfl, trivial⟩, rfl⟩
 ·rintro F wl ⟨Fb, rfl, rfl⟩
  refine WC_ret ?_
  have H : some q1 = some r := H
  have H := Option.some.inj H; subst H
  exact ⟨rfl, hS.below⟩
set_option maxHeartbeats 1000000 in
theorem f27_ok {G0 : Gm} {w0 : World} (hS0 : Sat G0 w0) {x0 : TBaneSea} {a1 : Option Addr} {n1 c1 : Nat} {a2 : Option Addr} {n2 c2 : Nat} {a3 : Option Addr} {n3 c3 : Nat} (h1 : RSl RInt 1 G0 a1 n1 c1 x0.Infested) (h2 : RSl RInt 1 G0 a2 n2 c2 x0.Clean) (h3 : RSl RTBaneTrip 4 G0 a3 n3 c3 x0.Trips) {r : Bool} (H : f27 x0 = some r) :
  Calls Try.prog 27 #[.agg #[.int .i64 x0.Islets, .slice a1 n1 c1, .slice a2 n2 c2, .slice a3 n3 c3, .int .i64 x0.Wait]] w0 (RetV w0 (.bool r)) := by
 have hS := Since.start hS0
 have hO : Owns G0 w0 w0.heap.size [] := Owns.nil (Nat.le_refl _)
 unfold f27 at H
 refine enter1 (N := 19) (shutV _ _) Try.func27 rfl rfl rfl rfl ?_; refine WC_seq ?_; refine WC_region ?_; refine WL_op rfl (OpP_newF (v := fun b => .pointer (some ⟨b, 0, none⟩)) (cs := [.int .i64 x0.Islets, .slice a1 n1 c1, .slice a2 n2 c2, .slice a3 n3 c3, .int .i64 x0.Wait]) (e := 46) (rn_boxA rfl) hS.sat rfl (fun b4 G6 w5 hg hcb4 => ?_)); have hS := hS.grow hg; have hO := hO.grow hg
 have leG6 := hg.le
 refine WL_val (rn_assign (v := (.bool false)) rfl) rfl ?_; refine WL_nil ?_; refine WC_seq ?_; obtain ⟨q7, hq7, H⟩ := bnd H; refine WC_cut (fun F w => ∃ (Fb : Fr), F = upds Fb [(2, .bool q7)] ∧ w5 = w) ?_ ?_
 ·have Hoq7 := H; have H := hq7; refine WC_region ?_; refine WL_val (rn_fld fd46_1 rfl) rfl ?_; refine WL_val (rn_load na25 rfl (hS.sat.cell (hcb4 1 _ rfl))) rfl ?_; refine WL_val (rn_len sl25 rfl rfl (h1.mono RInt_mono leG6).1) rfl ?_; refine WL_val (rn_leq rfl rfl) rfl ?_; refine WL_val (rn_move (v := (.bool (decide ((x0.Infested.length : Int) ≤ 12)))) rfl) rfl ?_
  rcases bcases (decide ((x0.Infested.length : Int) ≤ 12)) with hb8 | hb8
  ·have H := ifT hb8 H; refine WL_guardY rfl hb8 rfl rfl ?_; refine WL_val (rn_fld fd46_2 rfl) rfl ?_; refine WL_guardY rfl hb8 rfl rfl ?_; refine WL_val (rn_load na25 rfl (hS.sat.cell (hcb4 2 _ rfl))) rfl ?_; refine WL_guardY rfl hb8 rfl rfl ?_; refine WL_val (rn_len sl25 rfl rfl (h2.mono RInt_mono leG6).1) rfl ?_; refine WL_guardY rfl hb8 rfl rfl ?_; refine WL_val (rn_leq rfl rfl) rfl ?_; refine WL_val (rn_pickT (v := (.bool (decide ((x0.Clean.length : Int) ≤ 12)))) rfl hb8 rfl) rfl ?_; refine WL_val (rn_move (v := (.bool (decide ((x0.Clean.length : Int) ≤ 12)))) rfl) rfl ?_
   rcases bcases (decide ((x0.Clean.length : Int) ≤ 12)) with hb9 | hb9
   ·have H := ifT hb9 H; refine WL_guardY rfl hb9 rfl rfl ?_; refine WL_val (rn_fld fd46_3 rfl) rfl ?_; refine WL_guardY rfl hb9 rfl rfl ?_; refine WL_val (rn_load na44 rfl (hS.sat.cell (hcb4 3 _ rfl))) rfl ?_; refine WL_guardY rfl hb9 rfl rfl ?_; refine WL_val (rn_len sl44 rfl rfl (h3.mono RTBaneTrip_mono leG6).1) rfl ?_; refine WL_guardY rfl hb9 rfl rfl ?_; refine WL_val (rn_leq rfl rfl) rfl ?_; refine WL_val (rn_pickT (v := (.bool (decide ((x0.Trips.length : Int) ≤ 12)))) rfl hb9 rfl) rfl ?_; refine WL_val (rn_assign (v := (.bool (decide ((x0.Trips.length : Int) ≤ 12)))) rfl) rfl ?_; refine WL_nil ?_; have H := Option.some.inj H; subst H
    exact ⟨_, upds_self _ _ ⟨rfl, trivial⟩, rfl⟩
   ·have H := ifF hb9 H; refine WL_guardN rfl hb9 rfl rfl rfl ?_; refine WL_guardN rfl hb9 rfl rfl rfl ?_; refine WL_guardN rfl hb9 rfl rfl rfl ?_; refine WL_guardN rfl hb9 rfl rfl rfl ?_; refine WL_val (rn_pickF (v := (.bool false)) rfl hb9 rfl) rfl ?_; refine WL_val (rn_assign (v := (.bool false)) rfl) rfl ?_; refine WL_nil ?_; have H := Option.some.inj H; subst H
    exact ⟨_, upds_self _ _ ⟨rfl, trivial⟩, rfl⟩
  ·have H := ifF hb8 H; refine WL_guardN rfl hb8 rfl rfl rfl ?_; refine WL_guardN rfl hb8 rfl rfl rfl ?_; refine WL_guardN rfl hb8 rfl rfl rfl ?_; refine WL_guardN rfl hb8 rfl rfl rfl ?_; refine WL_val (rn_pickF (v := (.bool false)) rfl hb8 rfl) rfl ?_; refine WL_val (rn_move (v := (.bool false)) rfl) rfl ?_; refine WL_guardN rfl rfl rfl rfl rfl ?_; refine WL_guardN rfl rfl rfl rfl rfl ?_; refine WL_guardN rfl rfl rfl rfl rfl ?_; refine WL_guardN rfl rfl rfl rfl rfl ?_; refine WL_val (rn_pickF (v := (.bool false)) rfl rfl rfl) rfl ?_; refine WL_val (rn_assign (v := (.bool false)) rfl) rfl ?_; refine WL_nil ?_; have H := Option.some.inj H; subst H
   exact ⟨_, upds_self _ _ ⟨rfl, trivial⟩, rfl⟩
 ·rintro F wl ⟨Fb, rfl, rfl⟩
  refine WC_ret ?_
  have H : some q7 = some r := H
  have H := Option.some.inj H; subst H
  exact ⟨rfl, hS.below⟩
set_option maxHeartbeats 1000000 in
theorem f31_ok {G0 : Gm} {w0 : World} (hS0 : Sat G0 w0) {x0 : TBaneSea} {a1 : Option Addr} {n1 c1 : Nat} {a2 : Option Addr} {n2 c2 : Nat} {a3 : Option Addr} {n3 c3 : Nat} {x1 : Int} (h1 : RSl RInt 1 G0 a1 n1 c1 x0.Infested) (h2 : RSl RInt 1 G0 a2 n2 c2 x0.Clean) (h3 : RSl RTBaneTrip 4 G0 a3 n3 c3 x0.Trips) {r : Bool} (H : f31 x0 x1 = some r) :
  Calls Try.prog 31 #[.agg #[.int .i64 x0.Islets, .slice a1 n1 c1, .slice a2 n2 c2, .slice a3 n3 c3, .int .i64 x0.Wait], .int .i64 x1] w0 (RetV w0 (.bool r)) := by
 have hS := Since.start hS0
 have hO : Owns G0 w0 w0.heap.size [] := Owns.nil (Nat.le_refl _)
 unfold f31 at H
 refine enter1 (N := 10) (shutV _ _) Try.func31 rfl rfl rfl rfl ?_; refine WC_seq ?_; refine WC_region ?_; refine WL_op rfl (OpP_newF (v := fun b => .pointer (some ⟨b, 0, none⟩)) (cs := [.int .i64 x0.Islets, .slice a1 n1 c1, .slice a2 n2 c2, .slice a3 n3 c3, .int .i64 x0.Wait]) (e := 46) (rn_boxA rfl) hS.sat rfl (fun b4 G6 w5 hg hcb4 => ?_)); have hS := hS.grow hg; have hO := hO.grow hg
 have leG6 := hg.le
 refine WL_val (rn_assign (v := (.bool false)) rfl) rfl ?_; refine WL_nil ?_; refine WC_seq ?_; refine WC_region ?_; refine WL_val (rn_move (v := (.int .i64 x1)) rfl) rfl ?_; refine WL_val (rn_fld fd46_0 rfl) rfl ?_; refine WL_val (rn_load na3 rfl (hS.sat.cell (hcb4 0 _ rfl))) rfl ?_; refine WL_val (rn_sub rfl rfl) rfl ?_; obtain ⟨y7, hy7, H⟩ := bnd H; refine WL_op rfl (OpP_callV cb69 (f69_ok (x0 := x1) (x1 := 0) (x2 := IntKind.i64.wrap (x0.Islets - 1)) hS.sat  hy7) rfl rfl (fun w8 hb => ?_)); have hS := hS.keep hb; have hO := hO.below hb; refine WL_val (rn_assign (v := (.bool y7)) rfl) rfl ?_; refine WL_nil ?_; refine WC_ret ?_
 have H : some y7 = some r := H
 have H := Option.some.inj H; subst H
 exact ⟨rfl, hS.below⟩
set_option maxHeartbeats 1000000 in
theorem f43_ok {G0 : Gm} {w0 : World} (hS0 : Sat G0 w0) {x0 : (List Int)} {a1 : Option Addr} {n1 c1 : Nat} {x1 : Int} (h1 : RSl RInt 1 G0 a1 n1 c1 x0) {r : Bool} (H : f43 x0 x1 = some r) :
  Calls Try.prog 43 #[.slice a1 n1 c1, .int .i64 x1] w0 (RetV w0 (.bool r)) := by
 have hS := Since.start hS0
 have hO : Owns G0 w0 w0.heap.size [] := Owns.nil (Nat.le_refl _)
 unfold f43 at H
 refine enter1 (N := 36) (shutV _ _) Try.func43 rfl rfl rfl rfl ?_; refine WC_seq ?_; refine WC_region ?_; refine WL_val (rn_assign (v := (.bool false)) rfl) rfl ?_; refine WL_nil ?_; refine WC_seq ?_; refine WC_seq ?_; refine WC_region ?_; refine WL_val (rn_assign (v := (.int .i64 0)) rfl) rfl ?_; refine WL_nil ?_; obtain ⟨q4, hq4, H⟩ := bnd H; refine WC_cut (fun F w => ∃ (p3 : Unit) (Fb : Fr) (G : Gm), q4 = .inl p3 ∧ F = upds Fb [] ∧ Gle G0 G ∧ Since w0.heap.size G0 w0 G w ∧ Owns G w w0.heap.size []) ?_ ?_
 ·refine WC_block (WC_loop hq4 (fun s2 F w => ∃ (Fb : Fr) (G : Gm), F = upds Fb [(0, .slice a1 n1 c1), (1, .int .i64 x1), (5, .int .i64 s2)] ∧ Gle G0 G ∧ Since w0.heap.size G0 w0 G w ∧ Owns G w w0.heap.size []) ?_ ?_)
  ·have hO : Owns G0 w0 w0.heap.size ([]) := hO
   exact ⟨_, G0, upds_self _ _ ⟨rfl, rfl, rfl, trivial⟩, Gle.refl _, hS, hO⟩
  ·rintro s2 F w6 t5 ⟨Fb, G7, rfl, leG7, hS, hO⟩
   intro H1 hqq4
   have Hoq4 := H; have H := H1
   unfold f43_b0 at H
   refine WC_seq ?_; refine WC_seq ?_; refine WC_region ?_; refine WL_val (rn_move (v := (.int .i64 s2)) rfl) rfl ?_; refine WL_val (rn_move (v := (.slice a1 n1 c1)) rfl) rfl ?_; refine WL_val (rn_len sl25 rfl rfl (h1.mono RInt_mono leG7).1) rfl ?_; refine WL_val (rn_lss rfl rfl) rfl ?_; refine WL_nil ?_; refine WC_cond rfl (fun hb8 => ?_) (fun hb8 => ?_)
   ·have H := ifT hb8 H; refine WC_skip ?_; refine WC_seq ?_; refine WC_block ?_; refine WC_seq ?_; obtain ⟨q9, hq9, H⟩ := bnd H; refine WC_cut (fun F w => ∃ (Fb : Fr) (G : Gm), F = upds Fb [(0, .slice a1 n1 c1), (1, .int .i64 x1), (5, .int .i64 s2), (35, .bool q9)] ∧ Gle G7 G ∧ Since w0.heap.size G0 w0 G w ∧ Owns G w w0.heap.size []) ?_ ?_
    ·have Hoq9 := H; have H := hq9; have hS := hS.keep (below_drew _); have hO := hO.below (below_drew _)
     refine WC_regionD mixedO (fun w => Sat G7 w ∧ True) (.fl 0 (.fl 1 (.fl 2 (.fl 3 (.on 4 (.on 5 (.on 6 (.on 7 (.on 8 (.on 9 (.on 10 (.on 11 (.fl 12 (.fl 13 (.fl 14 (.fl 15 (.fl 16 (.on 17 (.on 18 (.on 19 (.on 20 (.on 21 (.on 22 (.on 23 .nil)))))))))))))))))))))))) (by kernel_rfl) rfl (by kernel_rfl) ⟨hS.sat, trivial⟩ ?_
     refine WD_val rfl (fun w hw => rn_move (v := (.slice a1 n1 c1)) rfl) rfl ?_; refine WD_val rfl (fun w hw => rn_move (v := (.int .i64 s2)) rfl) rfl ?_; obtain ⟨y10, hy10, H⟩ := bnd H; refine WD_idx rfl sl25 (h1.mono RInt_mono leG7) hy10 rfl rfl rfl ?_
     rintro b11 o11 _ hcb11 _ ⟨⟩
     refine WD_val rfl (fun w hw => rn_load na3 rfl (hw.1.cell (hcb11 0 _ rfl))) rfl ?_; refine WD_op rfl rfl (OpP_val (rn_move (v := (.int .i64 x1)) rfl) rfl ?_); refine ⟨fun _ => ⟨hS.sat, trivial⟩, ?_⟩; refine WD_op rfl rfl (OpP_val (rn_sub rfl rfl) rfl ?_); refine ⟨fun _ => ⟨hS.sat, trivial⟩, ?_⟩; obtain ⟨y12, hy12, H⟩ := bnd H; refine WD_op rfl rfl (OpP_callV cb69 (f69_ok (x0 := y10) (x1 := 0) (x2 := IntKind.i64.wrap (x1 - 1)) hS.sat  hy12) rfl rfl (fun w13 hb => ?_)); have hS := hS.keep hb; have hO := hO.below hb; refine ⟨fun _ => ⟨hS.sat, trivial⟩, ?_⟩; refine WD_op rfl rfl (OpP_val (rn_not rfl) rfl ?_); refine ⟨fun _ => ⟨hS.sat, trivial⟩, ?_⟩; refine WD_op rfl rfl (OpP_val (rn_move (v := (.bool (!y12))) rfl) rfl ?_); refine ⟨fun _ => ⟨hS.sat, trivial⟩, ?_⟩
     rcases bcases (!y12) with hb14 | hb14
     ·have H := ifT hb14 H; refine WD_skipS rfl rfl hb14 rfl rfl rfl (fun _ => ⟨hS.sat, trivial⟩) ?_; refine WD_skipS rfl rfl hb14 rfl rfl rfl (fun _ => ⟨hS.sat, trivial⟩) ?_; refine WD_skipS rfl rfl hb14 rfl rfl rfl (fun _ => ⟨hS.sat, trivial⟩) ?_; refine WD_undefN rfl rfl rfl rfl rfl ?_; refine WD_undefN rfl rfl rfl rfl rfl ?_; refine WD_undefN rfl rfl rfl rfl rfl ?_; refine WD_undefN rfl rfl rfl rfl rfl ?_; refine WD_undefN rfl rfl rfl rfl rfl ?_; refine WD_undefS rfl rfl rfl rfl rfl (fun _ => ⟨hS.sat, trivial⟩) ?_; refine WD_undefS rfl rfl rfl rfl rfl (fun _ => ⟨hS.sat, trivial⟩) ?_; refine WD_undefS rfl rfl rfl rfl rfl (fun _ => ⟨hS.sat, trivial⟩) ?_; refine WD_undefS rfl rfl rfl rfl rfl (fun _ => ⟨hS.sat, trivial⟩) ?_
      refine WD_undefS rfl rfl rfl rfl rfl (fun h => nomore (by kernel_rfl) h) ?_
      refine WD_skipS rfl rfl hb14 rfl rfl rfl (fun h => nomore (by kernel_rfl) h) ?_
      refine WD_op rfl rfl (OpP_val (rn_pickT (v := (.bool true)) rfl hb14 rfl) rfl ?_)
      refine ⟨fun h => nomore (by kernel_rfl) h, ?_⟩
      refine WD_nil ?_
      have hO : Owns G7 w13 w0.heap.size ([]) := hO
      have H := Option.some.inj H; subst H
      exact ⟨_, G7, upds_self _ _ ⟨rfl, rfl, rfl, rfl, trivial⟩, Gle.refl _, hS, hO⟩
     ·have H := ifF hb14 H; refine WD_opY rfl rfl rfl hb14 rfl rfl (OpP_val (rn_move (v := (.int .i64 s2)) rfl) rfl ?_); refine ⟨fun _ => ⟨hS.sat, trivial⟩, ?_⟩; refine WD_opY rfl rfl rfl hb14 rfl rfl (OpP_val (rn_gtr rfl rfl) rfl ?_); refine ⟨fun _ => ⟨hS.sat, trivial⟩, ?_⟩; refine WD_opY rfl rfl rfl hb14 rfl rfl (OpP_val (rn_move (v := (.bool (decide (0 < s2)))) rfl) rfl ?_); refine ⟨fun _ => ⟨hS.sat, trivial⟩, ?_⟩
      rcases bcases (decide (0 < s2)) with hb15 | hb15
      ·have H := ifT hb15 H; refine WD_valY rfl rfl hb15 rfl rfl (fun w hw => rn_move (v := (.slice a1 n1 c1)) rfl) rfl ?_; refine WD_valY rfl rfl hb15 rfl rfl (fun w hw => rn_move (v := (.int .i64 s2)) rfl) rfl ?_; refine WD_idxY rfl rfl hb15 rfl rfl sl25 (h1.mono RInt_mono leG7) hy10 rfl rfl rfl ?_
       rintro b16 o16 _ hcb16 _ ⟨⟩
       refine WD_valY rfl rfl hb15 rfl rfl (fun w hw => rn_load na3 rfl (hw.1.cell (hcb16 0 _ rfl))) rfl ?_; refine WD_valY rfl rfl hb15 rfl rfl (fun w hw => rn_move (v := (.slice a1 n1 c1)) rfl) rfl ?_; refine WD_opY rfl rfl rfl hb15 rfl rfl (OpP_val (rn_move (v := (.int .i64 s2)) rfl) rfl ?_); refine ⟨fun _ => ⟨hS.sat, trivial⟩, ?_⟩; refine WD_opY rfl rfl rfl hb15 rfl rfl (OpP_val (rn_sub rfl rfl) rfl ?_); refine ⟨fun _ => ⟨hS.sat, trivial⟩, ?_⟩; obtain ⟨y17, hy17, H⟩ := bnd H; refine WD_opY rfl rfl rfl hb15 rfl rfl (OpP_idx sl25 (h1.mono RInt_mono leG7) hy17 rfl rfl rfl ?_)
       rintro b18 o18 _ hcb18 _ ⟨⟩
       refine ⟨fun _ => ⟨hS.sat, trivial⟩, ?_⟩; refine WD_opY rfl rfl rfl hb15 rfl rfl (OpP_val (rn_load na3 rfl (hS.sat.cell (hcb18 0 _ rfl))) rfl ?_); refine ⟨fun _ => ⟨hS.sat, trivial⟩, ?_⟩; refine WD_opY rfl rfl rfl hb15 rfl rfl (OpP_val (rn_leq rfl rfl) rfl ?_)
       refine ⟨fun h => nomore (by kernel_rfl) h, ?_⟩
       refine WD_opY rfl rfl rfl hb14 rfl rfl (OpP_val (rn_pickT (v := (.bool (decide (y10 ≤ y17)))) rfl hb15 rfl) rfl ?_)
       refine ⟨fun h => nomore (by kernel_rfl) h, ?_⟩
       refine WD_op rfl rfl (OpP_val (rn_pickF (v := (.bool (decide (y10 ≤ y17)))) rfl hb14 rfl) rfl ?_)
       refine ⟨fun h => nomore (by kernel_rfl) h, ?_⟩
       refine WD_nil ?_
       have hO : Owns G7 w13 w0.heap.size ([]) := hO
       have H := Option.some.inj H; subst H
       exact ⟨_, G7, upds_self _ _ ⟨rfl, rfl, rfl, rfl, trivial⟩, Gle.refl _, hS, hO⟩
      ·have H := ifF hb15 H; refine WD_skip rfl rfl hb15 rfl rfl rfl ?_; refine WD_skip rfl rfl hb15 rfl rfl rfl ?_; refine WD_skip rfl rfl hb15 rfl rfl rfl ?_; refine WD_skip rfl rfl hb15 rfl rfl rfl ?_; refine WD_skip rfl rfl hb15 rfl rfl rfl ?_; refine WD_skipS rfl rfl hb15 rfl rfl rfl (fun _ => ⟨hS.sat, trivial⟩) ?_; refine WD_skipS rfl rfl hb15 rfl rfl rfl (fun _ => ⟨hS.sat, trivial⟩) ?_; refine WD_skipS rfl rfl hb15 rfl rfl rfl (fun _ => ⟨hS.sat, trivial⟩) ?_; refine WD_skipS rfl rfl hb15 rfl rfl rfl (fun _ => ⟨hS.sat, trivial⟩) ?_
       refine WD_skipS rfl rfl hb15 rfl rfl rfl (fun h => nomore (by kernel_rfl) h) ?_
       refine WD_opY rfl rfl rfl hb14 rfl rfl (OpP_val (rn_pickF (v := (.bool false)) rfl hb15 rfl) rfl ?_)
       refine ⟨fun h => nomore (by kernel_rfl) h, ?_⟩
       refine WD_op rfl rfl (OpP_val (rn_pickF (v := (.bool false)) rfl hb14 rfl) rfl ?_)
       refine ⟨fun h => nomore (by kernel_rfl) h, ?_⟩
       refine WD_nil ?_
       have hO : Owns G7 w13 w0.heap.size ([]) := hO
       have H := Option.some.inj H; subst H
       exact ⟨_, G7, upds_self _ _ ⟨rfl, rfl, rfl, rfl, trivial⟩, Gle.refl _, hS, hO⟩
    ·rintro F w19 ⟨Fb, G20, rfl, leG20, hS, hO⟩
     refine WC_cond rfl (fun hb21 => ?_) (fun hb21 => ?_)
     ·have H := ifT hb21 H; refine WC_seq ?_; refine WC_region ?_; refine WL_val (rn_assign (v := (.bool false)) rfl) rfl ?_; refine WL_nil ?_; refine WC_ret ?_; have H := Option.some.inj H; subst H
      have hres := hqq4 _ rfl
      subst hres; have H := Hoq4
      have H : some false = some r := H
      have H := Option.some.inj H; subst H
      exact ⟨rfl, hS.below⟩
     ·have H := ifF hb21 H; refine WC_skip ?_; refine WC_region ?_; refine WL_val (rn_move (v := (.int .i64 s2)) rfl) rfl ?_; refine WL_val (rn_add rfl rfl) rfl ?_; refine WL_val (rn_assign (v := (.int .i64 (IntKind.i64.wrap (s2 + 1)))) rfl) rfl ?_; refine WL_nil ?_
      have hO : Owns G20 w19 w0.heap.size ([]) := hO
      have H := Option.some.inj H; subst H; refine ⟨_, rfl, ?_⟩
      have l0_2 := leG7.trans leG20
      exact ⟨_, G20, upds_self _ _ ⟨rfl, rfl, rfl, trivial⟩, l0_2, hS, hO⟩
   ·have H := ifF hb8 H; refine WC_exit rfl ?_
    have hO : Owns G7 w6 w0.heap.size ([]) := hO
    have H := Option.some.inj H; subst H
    have hres := hqq4 _ rfl
    subst hres
    exact ⟨_, _, G7, rfl, rfl, leG7, hS, hO⟩
 ·rintro F w22 ⟨p3, Fb, G23, rfl, rfl, leG23, hS, hO⟩
  refine WC_seq ?_; refine WC_region ?_; refine WL_val (rn_assign (v := (.bool true)) rfl) rfl ?_; refine WL_nil ?_; refine WC_ret ?_
  have H : some true = some r := H
  have H := Option.some.inj H; subst H
  exact ⟨rfl, hS.below⟩
set_option maxHeartbeats 1000000 in
theorem f28_ok {G0 : Gm} {w0 : World} (hS0 : Sat G0 w0) {x0 : TBaneSea} {a1 : Option Addr} {n1 c1 : Nat} {a2 : Option Addr} {n2 c2 : Nat} {a3 : Option Addr} {n3 c3 : Nat} (h1 : RSl RInt 1 G0 a1 n1 c1 x0.Infested) (h2 : RSl RInt 1 G0 a2 n2 c2 x0.Clean) (h3 : RSl RTBaneTrip 4 G0 a3 n3 c3 x0.Trips) {r : Bool} (H : f28 x0 = some r) :
  Calls Try.prog 28 #[.agg #[.int .i64 x0.Islets, .slice a1 n1 c1, .slice a2 n2 c2, .slice a3 n3 c3, .int .i64 x0.Wait]] w0 (RetV w0 (.bool r)) := by
 have hS := Since.start hS0
 have hO : Owns G0 w0 w0.heap.size [] := Owns.nil (Nat.le_refl _)
 unfold f28 at H
 refine enter1 (N := 76) (shutV _ _) Try.func28 rfl rfl rfl rfl ?_; refine WC_seq ?_; refine WC_region ?_; refine WL_op rfl (OpP_newF (v := fun b => .pointer (some ⟨b, 0, none⟩)) (cs := [.int .i64 x0.Islets, .slice a1 n1 c1, .slice a2 n2 c2, .slice a3 n3 c3, .int .i64 x0.Wait]) (e := 46) (rn_boxA rfl) hS.sat rfl (fun b4 G6 w5 hg hcb4 => ?_)); have hS := hS.grow hg; have hO := hO.grow hg
 have leG6 := hg.le
 refine WL_val (rn_assign (v := (.bool false)) rfl) rfl ?_; refine WL_nil ?_; refine WC_seq ?_; refine WC_seq ?_; refine WC_region ?_; refine WL_val (rn_assign (v := (.int .i64 0)) rfl) rfl ?_; refine WL_nil ?_; obtain ⟨q9, hq9, H⟩ := bnd H; refine WC_cut (fun F w => ∃ (p8 : Unit) (Fb : Fr) (G : Gm), q9 = .inl p8 ∧ F = upds Fb [(1, .pointer (some ⟨b4, 0, none⟩))] ∧ Gle G6 G ∧ Since w0.heap.size G0 w0 G w ∧ Owns G w w0.heap.size []) ?_ ?_
 ·refine WC_block (WC_loop hq9 (fun s7 F w => ∃ (Fb : Fr) (G : Gm), F = upds Fb [(1, .pointer (some ⟨b4, 0, none⟩)), (3, .int .i64 s7)] ∧ Gle G6 G ∧ Since w0.heap.size G0 w0 G w ∧ Owns G w w0.heap.size []) ?_ ?_)
  ·have hO : Owns G6 w5 w0.heap.size ([]) := hO
   exact ⟨_, G6, upds_self _ _ ⟨rfl, rfl, trivial⟩, Gle.refl _, hS, hO⟩
  ·rintro s7 F w11 t10 ⟨Fb, G12, rfl, leG12, hS, hO⟩
   intro H1 hqq9
   have Hoq9 := H; have H := H1
   unfold f28_b0 at H
   refine WC_seq ?_; refine WC_seq ?_; refine WC_region ?_; refine WL_val (rn_move (v := (.int .i64 s7)) rfl) rfl ?_; refine WL_val (rn_fld fd46_3 rfl) rfl ?_; refine WL_val (rn_load na44 rfl ((hS.sat.le leG12).cell (hcb4 3 _ rfl))) rfl ?_
   have l0_2 := leG6.trans leG12
   refine WL_val (rn_len sl44 rfl rfl (h3.mono RTBaneTrip_mono l0_2).1) rfl ?_; refine WL_val (rn_lss rfl rfl) rfl ?_; refine WL_nil ?_; refine WC_cond rfl (fun hb13 => ?_) (fun hb13 => ?_)
   ·have H := ifT hb13 H; refine WC_skip ?_; refine WC_seq ?_; refine WC_block ?_; refine WC_seq ?_; refine WC_region ?_; refine WL_val (rn_fld fd46_3 rfl) rfl ?_; refine WL_val (rn_load na44 rfl ((hS.sat.le leG12).cell (hcb4 3 _ rfl))) rfl ?_; refine WL_val (rn_move (v := (.int .i64 s7)) rfl) rfl ?_; obtain ⟨y14, hy14, H⟩ := bnd H; refine WL_idx sl44 (h3.mono RTBaneTrip_mono l0_2) hy14 rfl rfl rfl ?_
    rintro b15 o15 _ hcb15 _ ⟨⟩
    refine WL_val (rn_loadA ag109 (cs := [.int .i64 y14.Day, .int .i64 y14.From, .int .i64 y14.To, .int .i64 y14.Cost]) rfl rfl (fun j v hj => hS.sat.cell (hcb15.drop_take 0 4 j v hj))) rfl ?_
    refine WL_op rfl (OpP_newO (v := fun b => .pointer (some ⟨b, 0, none⟩)) (cs := [.int .i64 0, .int .i64 0, .int .i64 0, .int .i64 0]) (e := 109) (by kernel_rfl) hS.sat hO rfl 4 1 rfl (by decide) (fun b16 w17 hb hO => ?_))
    have hS := hS.keep hb; refine WL_op rfl (OpP_store (vs := [.int .i64 y14.Day, .int .i64 y14.From, .int .i64 y14.To, .int .i64 y14.Cost]) sz109 hS hO (k := 0) rfl rfl rfl rfl rfl (one_all rfl) (Nat.le_of_ble_eq_true rfl) (fun w19 hS hO => ?_))
    have hO : Owns G12 w19 w0.heap.size ([⟨109, 4, 1, .slice (some ⟨b16, 0, none⟩) 1 1, [.int .i64 y14.Day, .int .i64 y14.From, .int .i64 y14.To, .int .i64 y14.Cost]⟩]) := hO
    obtain ⟨G20, leG20, hS, hO, hqG20, _⟩ := hO.freeze hS (k := 0) rfl
    have hcG20 : Cells G20 b16 0 [.int .i64 y14.Day, .int .i64 y14.From, .int .i64 y14.To, .int .i64 y14.Cost] := (hqG20 _ _ _ _ rfl)
    refine WL_nil ?_; refine WC_seq ?_; obtain ⟨q21, hq21, H⟩ := bnd H; refine WC_cut (fun F w => ∃ (Fb : Fr) (G : Gm), F = upds Fb [(1, .pointer (some ⟨b4, 0, none⟩)), (3, .int .i64 s7), (47, .bool q21)] ∧ Gle G20 G ∧ Since w0.heap.size G0 w0 G w ∧ Owns G w w0.heap.size []) ?_ ?_
    ·have Hoq21 := H; have H := hq21; refine WC_region ?_; refine WL_val (rn_fld fd109_0 rfl) rfl ?_; refine WL_val (rn_load na3 rfl (hS.sat.cell (hcG20 0 _ rfl))) rfl ?_; obtain ⟨y22, hy22, H⟩ := bnd H; refine WL_op rfl (OpP_callV cb69 (f69_ok (x0 := y14.Day) (x1 := 0) (x2 := 400) hS.sat  hy22) rfl rfl (fun w23 hb => ?_)); have hS := hS.keep hb; have hO := hO.below hb; refine WL_val (rn_not rfl) rfl ?_; refine WL_val (rn_move (v := (.bool (!y22))) rfl) rfl ?_
     rcases bcases (!y22) with hb24 | hb24
     ·have H := ifT hb24 H; refine WL_guardN rfl hb24 rfl rfl rfl ?_; refine WL_guardN rfl hb24 rfl rfl rfl ?_; refine WL_guardN rfl hb24 rfl rfl rfl ?_; refine WL_guardN rfl hb24 rfl rfl rfl ?_; refine WL_guardN rfl hb24 rfl rfl rfl ?_; refine WL_val (rn_pickT (v := (.bool true)) rfl hb24 rfl) rfl ?_; refine WL_val (rn_move (v := (.bool true)) rfl) rfl ?_; refine WL_guardN rfl rfl rfl rfl rfl ?_; refine WL_guardN rfl rfl rfl rfl rfl ?_; refine WL_guardN rfl rfl rfl rfl rfl ?_; refine WL_guardN rfl rfl rfl rfl rfl ?_; refine WL_guardN rfl rfl rfl rfl rfl ?_; refine WL_val (rn_pickT (v := (.bool true)) rfl rfl rfl) rfl ?_; refine WL_val (rn_move (v := (.bool true)) rfl) rfl ?_; refine WL_guardN rfl rfl rfl rfl rfl ?_; refine WL_guardN rfl rfl rfl rfl rfl ?_; refine WL_guardN rfl rfl rfl rfl rfl ?_; refine WL_guardN rfl rfl rfl rfl rfl ?_; refine WL_guardN rfl rfl rfl rfl rfl ?_; refine WL_val (rn_pickT (v := (.bool true)) rfl rfl rfl) rfl ?_; refine WL_val (rn_move (v := (.bool true)) rfl) rfl ?_; refine WL_guardN rfl rfl rfl rfl rfl ?_; refine WL_guardN rfl rfl rfl rfl rfl ?_; refine WL_guardN rfl rfl rfl rfl rfl ?_; refine WL_guardN rfl rfl rfl rfl rfl ?_; refine WL_val (rn_pickT (v := (.bool true)) rfl rfl rfl) rfl ?_; refine WL_nil ?_
      have hO : Owns G20 w23 w0.heap.size ([]) := hO
      have H := Option.some.inj H; subst H
      exact ⟨_, G20, upds_self _ _ ⟨rfl, rfl, rfl, trivial⟩, Gle.refl _, hS, hO⟩
     ·have H := ifF hb24 H; refine WL_guardY rfl hb24 rfl rfl ?_
      have l1_3 := leG12.trans leG20
      refine WL_val (rn_loadA ag46 (cs := [.int .i64 x0.Islets, .slice a1 n1 c1, .slice a2 n2 c2, .slice a3 n3 c3, .int .i64 x0.Wait]) rfl rfl (fun j v hj => (hS.sat.le l1_3).cell (hcb4.drop_take 0 5 j v hj))) rfl ?_; refine WL_guardY rfl hb24 rfl rfl ?_; refine WL_val (rn_fld fd109_1 rfl) rfl ?_; refine WL_guardY rfl hb24 rfl rfl ?_; refine WL_val (rn_load na3 rfl (hS.sat.cell (hcG20 1 _ rfl))) rfl ?_; refine WL_guardY rfl hb24 rfl rfl ?_; obtain ⟨y25, hy25, H⟩ := bnd H
      have l0_3 := l0_2.trans leG20
      refine WL_op rfl (OpP_callV cb31 (f31_ok (x0 := x0) (x1 := y14.From) hS.sat (h1.mono RInt_mono l0_3) (h2.mono RInt_mono l0_3) (h3.mono RTBaneTrip_mono l0_3) hy25) rfl rfl (fun w26 hb => ?_)); have hS := hS.keep hb; have hO := hO.below hb; refine WL_guardY rfl hb24 rfl rfl ?_; refine WL_val (rn_not rfl) rfl ?_; refine WL_val (rn_pickF (v := (.bool (!y25))) rfl hb24 rfl) rfl ?_; refine WL_val (rn_move (v := (.bool (!y25))) rfl) rfl ?_
      rcases bcases (!y25) with hb27 | hb27
      ·have H := ifT hb27 H; refine WL_guardN rfl hb27 rfl rfl rfl ?_; refine WL_guardN rfl hb27 rfl rfl rfl ?_; refine WL_guardN rfl hb27 rfl rfl rfl ?_; refine WL_guardN rfl hb27 rfl rfl rfl ?_; refine WL_guardN rfl hb27 rfl rfl rfl ?_; refine WL_val (rn_pickT (v := (.bool true)) rfl hb27 rfl) rfl ?_; refine WL_val (rn_move (v := (.bool true)) rfl) rfl ?_; refine WL_guardN rfl rfl rfl rfl rfl ?_; refine WL_guardN rfl rfl rfl rfl rfl ?_; refine WL_guardN rfl rfl rfl rfl rfl ?_; refine WL_guardN rfl rfl rfl rfl rfl ?_; refine WL_guardN rfl rfl rfl rfl rfl ?_; refine WL_val (rn_pickT (v := (.bool true)) rfl rfl rfl) rfl ?_; refine WL_val (rn_move (v := (.bool true)) rfl) rfl ?_; refine WL_guardN rfl rfl rfl rfl rfl ?_; refine WL_guardN rfl rfl rfl rfl rfl ?_; refine WL_guardN rfl rfl rfl rfl rfl ?_; refine WL_guardN rfl rfl rfl rfl rfl ?_; refine WL_val (rn_pickT (v := (.bool true)) rfl rfl rfl) rfl ?_; refine WL_nil ?_
       have hO : Owns G20 w26 w0.heap.size ([]) := hO
       have H := Option.some.inj H; subst H
       exact ⟨_, G20, upds_self _ _ ⟨rfl, rfl, rfl, trivial⟩, Gle.refl _, hS, hO⟩
      ·have H := ifF hb27 H; refine WL_guardY rfl hb27 rfl rfl ?_; refine WL_val (rn_loadA ag46 (cs := [.int .i64 x0.Islets, .slice a1 n1 c1, .slice a2 n2 c2, .slice a3 n3 c3, .int .i64 x0.Wait]) rfl rfl (fun j v hj => (hS.sat.le l1_3).cell (hcb4.drop_take 0 5 j v hj))) rfl ?_; refine WL_guardY rfl hb27 rfl rfl ?_; refine WL_val (rn_fld fd109_2 rfl) rfl ?_; refine WL_guardY rfl hb27 rfl rfl ?_; refine WL_val (rn_load na3 rfl (hS.sat.cell (hcG20 2 _ rfl))) rfl ?_; refine WL_guardY rfl hb27 rfl rfl ?_; obtain ⟨y28, hy28, H⟩ := bnd H; refine WL_op rfl (OpP_callV cb31 (f31_ok (x0 := x0) (x1 := y14.To) hS.sat (h1.mono RInt_mono l0_3) (h2.mono RInt_mono l0_3) (h3.mono RTBaneTrip_mono l0_3) hy28) rfl rfl (fun w29 hb => ?_)); have hS := hS.keep hb; have hO := hO.below hb; refine WL_guardY rfl hb27 rfl rfl ?_; refine WL_val (rn_not rfl) rfl ?_; refine WL_val (rn_pickF (v := (.bool (!y28))) rfl hb27 rfl) rfl ?_; refine WL_val (rn_move (v := (.bool (!y28))) rfl) rfl ?_
       rcases bcases (!y28) with hb30 | hb30
       ·have H := ifT hb30 H; refine WL_guardN rfl hb30 rfl rfl rfl ?_; refine WL_guardN rfl hb30 rfl rfl rfl ?_; refine WL_guardN rfl hb30 rfl rfl rfl ?_; refine WL_guardN rfl hb30 rfl rfl rfl ?_; refine WL_guardN rfl hb30 rfl rfl rfl ?_; refine WL_val (rn_pickT (v := (.bool true)) rfl hb30 rfl) rfl ?_; refine WL_val (rn_move (v := (.bool true)) rfl) rfl ?_; refine WL_guardN rfl rfl rfl rfl rfl ?_; refine WL_guardN rfl rfl rfl rfl rfl ?_; refine WL_guardN rfl rfl rfl rfl rfl ?_; refine WL_guardN rfl rfl rfl rfl rfl ?_; refine WL_val (rn_pickT (v := (.bool true)) rfl rfl rfl) rfl ?_; refine WL_nil ?_
        have hO : Owns G20 w29 w0.heap.size ([]) := hO
        have H := Option.some.inj H; subst H
        exact ⟨_, G20, upds_self _ _ ⟨rfl, rfl, rfl, trivial⟩, Gle.refl _, hS, hO⟩
       ·have H := ifF hb30 H; refine WL_guardY rfl hb30 rfl rfl ?_; refine WL_val (rn_fld fd109_1 rfl) rfl ?_; refine WL_guardY rfl hb30 rfl rfl ?_; refine WL_val (rn_load na3 rfl (hS.sat.cell (hcG20 1 _ rfl))) rfl ?_; refine WL_guardY rfl hb30 rfl rfl ?_; refine WL_val (rn_fld fd109_2 rfl) rfl ?_; refine WL_guardY rfl hb30 rfl rfl ?_; refine WL_val (rn_load na3 rfl (hS.sat.cell (hcG20 2 _ rfl))) rfl ?_; refine WL_guardY rfl hb30 rfl rfl ?_; refine WL_val (rn_eql rfl rfl) rfl ?_; refine WL_val (rn_pickF (v := (.bool (y14.From == y14.To))) rfl hb30 rfl) rfl ?_; refine WL_val (rn_move (v := (.bool (y14.From == y14.To))) rfl) rfl ?_
        rcases bcases (y14.From == y14.To) with hb31 | hb31
        ·have H := ifT hb31 H; refine WL_guardN rfl hb31 rfl rfl rfl ?_; refine WL_guardN rfl hb31 rfl rfl rfl ?_; refine WL_guardN rfl hb31 rfl rfl rfl ?_; refine WL_guardN rfl hb31 rfl rfl rfl ?_; refine WL_val (rn_pickT (v := (.bool true)) rfl hb31 rfl) rfl ?_; refine WL_nil ?_
         have hO : Owns G20 w29 w0.heap.size ([]) := hO
         have H := Option.some.inj H; subst H
         exact ⟨_, G20, upds_self _ _ ⟨rfl, rfl, rfl, trivial⟩, Gle.refl _, hS, hO⟩
        ·have H := ifF hb31 H; refine WL_guardY rfl hb31 rfl rfl ?_; refine WL_val (rn_fld fd109_3 rfl) rfl ?_; refine WL_guardY rfl hb31 rfl rfl ?_; refine WL_val (rn_load na3 rfl (hS.sat.cell (hcG20 3 _ rfl))) rfl ?_; refine WL_guardY rfl hb31 rfl rfl ?_; obtain ⟨y32, hy32, H⟩ := bnd H; refine WL_op rfl (OpP_callV cb69 (f69_ok (x0 := y14.Cost) (x1 := 0) (x2 := 1000000) hS.sat  hy32) rfl rfl (fun w33 hb => ?_)); have hS := hS.keep hb; have hO := hO.below hb; refine WL_guardY rfl hb31 rfl rfl ?_; refine WL_val (rn_not rfl) rfl ?_; refine WL_val (rn_pickF (v := (.bool (!y32))) rfl hb31 rfl) rfl ?_; refine WL_nil ?_
         have hO : Owns G20 w33 w0.heap.size ([]) := hO
         have H := Option.some.inj H; subst H
         exact ⟨_, G20, upds_self _ _ ⟨rfl, rfl, rfl, trivial⟩, Gle.refl _, hS, hO⟩
    ·rintro F w34 ⟨Fb, G35, rfl, leG35, hS, hO⟩
     refine WC_cond rfl (fun hb36 => ?_) (fun hb36 => ?_)
     ·have H := ifT hb36 H; refine WC_seq ?_; refine WC_region ?_; refine WL_val (rn_assign (v := (.bool false)) rfl) rfl ?_; refine WL_nil ?_; refine WC_ret ?_; have H := Option.some.inj H; subst H
      have hres := hqq9 _ rfl
      subst hres; have H := Hoq9
      have H : some false = some r := H
      have H := Option.some.inj H; subst H
      exact ⟨rfl, hS.below⟩
     ·have H := ifF hb36 H; refine WC_skip ?_; refine WC_region ?_; refine WL_val (rn_move (v := (.int .i64 s7)) rfl) rfl ?_; refine WL_val (rn_add rfl rfl) rfl ?_; refine WL_val (rn_assign (v := (.int .i64 (IntKind.i64.wrap (s7 + 1)))) rfl) rfl ?_; refine WL_nil ?_
      have hO : Owns G35 w34 w0.heap.size ([]) := hO
      have H := Option.some.inj H; subst H; refine ⟨_, rfl, ?_⟩
      have l1_4 := (leG12.trans leG20).trans leG35
      exact ⟨_, G35, upds_self _ _ ⟨rfl, rfl, trivial⟩, l1_4, hS, hO⟩
   ·have H := ifF hb13 H; refine WC_exit rfl ?_
    have hO : Owns G12 w11 w0.heap.size ([]) := hO
    have H := Option.some.inj H; subst H
    have hres := hqq9 _ rfl
    subst hres
    exact ⟨_, _, G12, rfl, upds_self _ _ ⟨rfl, trivial⟩, leG12, hS, hO⟩
 ·rintro F w37 ⟨p8, Fb, G38, rfl, rfl, leG38, hS, hO⟩
  refine WC_seq ?_; obtain ⟨q39, hq39, H⟩ := bnd H; refine WC_cut (fun F w => ∃ (Fb : Fr) (G : Gm), F = upds Fb [(2, .bool q39)] ∧ Gle G38 G ∧ Since w0.heap.size G0 w0 G w ∧ Owns G w w0.heap.size []) ?_ ?_
  ·have Hoq39 := H; have H := hq39; refine WC_region ?_; refine WL_val (rn_fld fd46_0 rfl) rfl ?_; refine WL_val (rn_load na3 rfl ((hS.sat.le leG38).cell (hcb4 0 _ rfl))) rfl ?_; obtain ⟨y40, hy40, H⟩ := bnd H; refine WL_op rfl (OpP_callV cb69 (f69_ok (x0 := x0.Islets) (x1 := 1) (x2 := 8) hS.sat  hy40) rfl rfl (fun w41 hb => ?_)); have hS := hS.keep hb; have hO := hO.below hb; refine WL_val (rn_move (v := (.bool y40)) rfl) rfl ?_
   rcases bcases y40 with hb42 | hb42
   ·have H := ifT hb42 H; refine WL_guardY rfl hb42 rfl rfl ?_; refine WL_val (rn_fld fd46_1 rfl) rfl ?_; refine WL_guardY rfl hb42 rfl rfl ?_; refine WL_val (rn_load na25 rfl ((hS.sat.le leG38).cell (hcb4 1 _ rfl))) rfl ?_; refine WL_guardY rfl hb42 rfl rfl ?_; refine WL_val (rn_fld fd46_0 rfl) rfl ?_; refine WL_guardY rfl hb42 rfl rfl ?_; refine WL_val (rn_load na3 rfl ((hS.sat.le leG38).cell (hcb4 0 _ rfl))) rfl ?_; refine WL_guardY rfl hb42 rfl rfl ?_; obtain ⟨y43, hy43, H⟩ := bnd H
    have l0_2 := leG6.trans leG38
    refine WL_op rfl (OpP_callV cb43 (f43_ok (x0 := x0.Infested) (x1 := x0.Islets) hS.sat (h1.mono RInt_mono l0_2) hy43) rfl rfl (fun w44 hb => ?_)); have hS := hS.keep hb; have hO := hO.below hb; refine WL_val (rn_pickT (v := (.bool y43)) rfl hb42 rfl) rfl ?_; refine WL_val (rn_move (v := (.bool y43)) rfl) rfl ?_
    rcases bcases y43 with hb45 | hb45
    ·have H := ifT hb45 H; refine WL_guardY rfl hb45 rfl rfl ?_; refine WL_val (rn_fld fd46_2 rfl) rfl ?_; refine WL_guardY rfl hb45 rfl rfl ?_; refine WL_val (rn_load na25 rfl ((hS.sat.le leG38).cell (hcb4 2 _ rfl))) rfl ?_; refine WL_guardY rfl hb45 rfl rfl ?_; refine WL_val (rn_fld fd46_0 rfl) rfl ?_; refine WL_guardY rfl hb45 rfl rfl ?_; refine WL_val (rn_load na3 rfl ((hS.sat.le leG38).cell (hcb4 0 _ rfl))) rfl ?_; refine WL_guardY rfl hb45 rfl rfl ?_; obtain ⟨y46, hy46, H⟩ := bnd H; refine WL_op rfl (OpP_callV cb43 (f43_ok (x0 := x0.Clean) (x1 := x0.Islets) hS.sat (h2.mono RInt_mono l0_2) hy46) rfl rfl (fun w47 hb => ?_)); have hS := hS.keep hb; have hO := hO.below hb; refine WL_val (rn_pickT (v := (.bool y46)) rfl hb45 rfl) rfl ?_; refine WL_val (rn_move (v := (.bool y46)) rfl) rfl ?_
     rcases bcases y46 with hb48 | hb48
     ·have H := ifT hb48 H; refine WL_guardY rfl hb48 rfl rfl ?_; refine WL_val (rn_fld fd46_3 rfl) rfl ?_; refine WL_guardY rfl hb48 rfl rfl ?_; refine WL_val (rn_load na44 rfl ((hS.sat.le leG38).cell (hcb4 3 _ rfl))) rfl ?_; refine WL_guardY rfl hb48 rfl rfl ?_; refine WL_val (rn_len sl44 rfl rfl (h3.mono RTBaneTrip_mono l0_2).1) rfl ?_; refine WL_guardY rfl hb48 rfl rfl ?_; refine WL_val (rn_leq rfl rfl) rfl ?_; refine WL_val (rn_pickT (v := (.bool (decide ((x0.Trips.length : Int) ≤ 9)))) rfl hb48 rfl) rfl ?_; refine WL_val (rn_move (v := (.bool (decide ((x0.Trips.length : Int) ≤ 9)))) rfl) rfl ?_
      rcases bcases (decide ((x0.Trips.length : Int) ≤ 9)) with hb49 | hb49
      ·have H := ifT hb49 H; refine WL_guardY rfl hb49 rfl rfl ?_; refine WL_val (rn_fld fd46_4 rfl) rfl ?_; refine WL_guardY rfl hb49 rfl rfl ?_; refine WL_val (rn_load na3 rfl ((hS.sat.le leG38).cell (hcb4 4 _ rfl))) rfl ?_; refine WL_guardY rfl hb49 rfl rfl ?_; obtain ⟨y50, hy50, H⟩ := bnd H; refine WL_op rfl (OpP_callV cb69 (f69_ok (x0 := x0.Wait) (x1 := 0) (x2 := 40) hS.sat  hy50) rfl rfl (fun w51 hb => ?_)); have hS := hS.keep hb; have hO := hO.below hb; refine WL_val (rn_pickT (v := (.bool y50)) rfl hb49 rfl) rfl ?_; refine WL_val (rn_assign (v := (.bool y50)) rfl) rfl ?_; refine WL_nil ?_
       have hO : Owns G38 w51 w0.heap.size ([]) := hO
       have H := Option.some.inj H; subst H
       exact ⟨_, G38, upds_self _ _ ⟨rfl, trivial⟩, Gle.refl _, hS, hO⟩
      ·have H := ifF hb49 H; refine WL_guardN rfl hb49 rfl rfl rfl ?_; refine WL_guardN rfl hb49 rfl rfl rfl ?_; refine WL_guardN rfl hb49 rfl rfl rfl ?_; refine WL_val (rn_pickF (v := (.bool false)) rfl hb49 rfl) rfl ?_; refine WL_val (rn_assign (v := (.bool false)) rfl) rfl ?_; refine WL_nil ?_
       have hO : Owns G38 w47 w0.heap.size ([]) := hO
       have H := Option.some.inj H; subst H
       exact ⟨_, G38, upds_self _ _ ⟨rfl, trivial⟩, Gle.refl _, hS, hO⟩
     ·have H := ifF hb48 H; refine WL_guardN rfl hb48 rfl rfl rfl ?_; refine WL_guardN rfl hb48 rfl rfl rfl ?_; refine WL_guardN rfl hb48 rfl rfl rfl ?_; refine WL_guardN rfl hb48 rfl rfl rfl ?_; refine WL_val (rn_pickF (v := (.bool false)) rfl hb48 rfl) rfl ?_; refine WL_val (rn_move (v := (.bool false)) rfl) rfl ?_; refine WL_guardN rfl rfl rfl rfl rfl ?_; refine WL_guardN rfl rfl rfl rfl rfl ?_; refine WL_guardN rfl rfl rfl rfl rfl ?_; refine WL_val (rn_pickF (v := (.bool false)) rfl rfl rfl) rfl ?_; refine WL_val (rn_assign (v := (.bool false)) rfl) rfl ?_; refine WL_nil ?_
      have hO : Owns G38 w47 w0.heap.size ([]) := hO
      have H := Option.some.inj H; subst H
      exact ⟨_, G38, upds_self _ _ ⟨rfl, trivial⟩, Gle.refl _, hS, hO⟩
    ·have H := ifF hb45 H; refine WL_guardN rfl hb45 rfl rfl rfl ?_; refine WL_guardN rfl hb45 rfl rfl rfl ?_; refine WL_guardN rfl hb45 rfl rfl rfl ?_; refine WL_guardN rfl hb45 rfl rfl rfl ?_; refine WL_guardN rfl hb45 rfl rfl rfl ?_; refine WL_val (rn_pickF (v := (.bool false)) rfl hb45 rfl) rfl ?_; refine WL_val (rn_move (v := (.bool false)) rfl) rfl ?_; refine WL_guardN rfl rfl rfl rfl rfl ?_; refine WL_guardN rfl rfl rfl rfl rfl ?_; refine WL_guardN rfl rfl rfl rfl rfl ?_; refine WL_guardN rfl rfl rfl rfl rfl ?_; refine WL_val (rn_pickF (v := (.bool false)) rfl rfl rfl) rfl ?_; refine WL_val (rn_move (v := (.bool false)) rfl) rfl ?_; refine WL_guardN rfl rfl rfl rfl rfl ?_; refine WL_guardN rfl rfl rfl rfl rfl ?_; refine WL_guardN rfl rfl rfl rfl rfl ?_; refine WL_val (rn_pickF (v := (.bool false)) rfl rfl rfl) rfl ?_; refine WL_val (rn_assign (v := (.bool false)) rfl) rfl ?_; refine WL_nil ?_
     have hO : Owns G38 w44 w0.heap.size ([]) := hO
     have H := Option.some.inj H; subst H
     exact ⟨_, G38, upds_self _ _ ⟨rfl, trivial⟩, Gle.refl _, hS, hO⟩
   ·have H := ifF hb42 H; refine WL_guardN rfl hb42 rfl rfl rfl ?_; refine WL_guardN rfl hb42 rfl rfl rfl ?_; refine WL_guardN rfl hb42 rfl rfl rfl ?_; refine WL_guardN rfl hb42 rfl rfl rfl ?_; refine WL_guardN rfl hb42 rfl rfl rfl ?_; refine WL_val (rn_pickF (v := (.bool false)) rfl hb42 rfl) rfl ?_; refine WL_val (rn_move (v := (.bool false)) rfl) rfl ?_; refine WL_guardN rfl rfl rfl rfl rfl ?_; refine WL_guardN rfl rfl rfl rfl rfl ?_; refine WL_guardN rfl rfl rfl rfl rfl ?_; refine WL_guardN rfl rfl rfl rfl rfl ?_; refine WL_guardN rfl rfl rfl rfl rfl ?_; refine WL_val (rn_pickF (v := (.bool false)) rfl rfl rfl) rfl ?_; refine WL_val (rn_move (v := (.bool false)) rfl) rfl ?_; refine WL_guardN rfl rfl rfl rfl rfl ?_; refine WL_guardN rfl rfl rfl rfl rfl ?_; refine WL_guardN rfl rfl rfl rfl rfl ?_; refine WL_guardN rfl rfl rfl rfl rfl ?_; refine WL_val (rn_pickF (v := (.bool false)) rfl rfl rfl) rfl ?_; refine WL_val (rn_move (v := (.bool false)) rfl) rfl ?_; refine WL_guardN rfl rfl rfl rfl rfl ?_; refine WL_guardN rfl rfl rfl rfl rfl ?_; refine WL_guardN rfl rfl rfl rfl rfl ?_; refine WL_val (rn_pickF (v := (.bool false)) rfl rfl rfl) rfl ?_; refine WL_val (rn_assign (v := (.bool false)) rfl) rfl ?_; refine WL_nil ?_
    have hO : Owns G38 w41 w0.heap.size ([]) := hO
    have H := Option.some.inj H; subst H
    exact ⟨_, G38, upds_self _ _ ⟨rfl, trivial⟩, Gle.refl _, hS, hO⟩
  ·rintro F w52 ⟨Fb, G53, rfl, leG53, hS, hO⟩
   refine WC_ret ?_
   have H : some q39 = some r := H
   have H := Option.some.inj H; subst H
   exact ⟨rfl, hS.below⟩
set_option maxHeartbeats 1000000 in
theorem f30_ok {G0 : Gm} {w0 : World} (hS0 : Sat G0 w0) {x0 : TBaneSea} {a1 : Option Addr} {n1 c1 : Nat} {a2 : Option Addr} {n2 c2 : Nat} {a3 : Option Addr} {n3 c3 : Nat} {x1 : (List Int)} {a4 : Option Addr} {n4 c4 : Nat} (h1 : RSl RInt 1 G0 a1 n1 c1 x0.Infested) (h2 : RSl RInt 1 G0 a2 n2 c2 x0.Clean) (h3 : RSl RTBaneTrip 4 G0 a3 n3 c3 x0.Trips) (h4 : RSl RInt 1 G0 a4 n4 c4 x1) {r : Int} (H : f30 x0 x1 = some r) :
  Calls Try.prog 30 #[.agg #[.int .i64 x0.Islets, .slice a1 n1 c1, .slice a2 n2 c2, .slice a3 n3 c3, .int .i64 x0.Wait], .slice a4 n4 c4] w0 (RetV w0 (.int .i64 r)) := by
 have hS := Since.start hS0
 have hO : Owns G0 w0 w0.heap.size [] := Owns.nil (Nat.le_refl _)
 unfold f30 at H
 refine enter1 (N := 16) (shutV _ _) Try.func30 rfl rfl rfl rfl ?_; refine WC_seq ?_; refine WC_region ?_; refine WL_op rfl (OpP_newF (v := fun b => .pointer (some ⟨b, 0, none⟩)) (cs := [.int .i64 x0.Islets, .slice a1 n1 c1, .slice a2 n2 c2, .slice a3 n3 c3, .int .i64 x0.Wait]) (e := 46) (rn_boxA rfl) hS.sat rfl (fun b5 G7 w6 hg hcb5 => ?_)); have hS := hS.grow hg; have hO := hO.grow hg
 have leG7 := hg.le
 refine WL_val (rn_assign (v := (.int .i64 0)) rfl) rfl ?_; refine WL_nil ?_; refine WC_seq ?_; refine WC_seq ?_; obtain ⟨q8, hq8, H⟩ := bnd H; refine WC_cut (fun F w => ∃ (Fb : Fr) (G : Gm), F = upds Fb [(15, .bool q8)] ∧ Gle G7 G ∧ Since w0.heap.size G0 w0 G w ∧ Owns G w w0.heap.size []) ?_ ?_
 ·have Hoq8 := H; have H := hq8; refine WC_region ?_; refine WL_val (rn_loadA ag46 (cs := [.int .i64 x0.Islets, .slice a1 n1 c1, .slice a2 n2 c2, .slice a3 n3 c3, .int .i64 x0.Wait]) rfl rfl (fun j v hj => hS.sat.cell (hcb5.drop_take 0 5 j v hj))) rfl ?_; obtain ⟨y9, hy9, H⟩ := bnd H; refine WL_op rfl (OpP_callV cb28 (f28_ok (x0 := x0) hS.sat (h1.mono RInt_mono leG7) (h2.mono RInt_mono leG7) (h3.mono RTBaneTrip_mono leG7) hy9) rfl rfl (fun w10 hb => ?_)); have hS := hS.keep hb; have hO := hO.below hb; refine WL_val (rn_not rfl) rfl ?_; refine WL_val (rn_move (v := (.bool (!y9))) rfl) rfl ?_
  rcases bcases (!y9) with hb11 | hb11
  ·have H := ifT hb11 H; refine WL_guardN rfl hb11 rfl rfl rfl ?_; refine WL_guardN rfl hb11 rfl rfl rfl ?_; refine WL_guardN rfl hb11 rfl rfl rfl ?_; refine WL_guardN rfl hb11 rfl rfl rfl ?_; refine WL_guardN rfl hb11 rfl rfl rfl ?_; refine WL_guardN rfl hb11 rfl rfl rfl ?_; refine WL_val (rn_pickT (v := (.bool true)) rfl hb11 rfl) rfl ?_; refine WL_nil ?_
   have hO : Owns G7 w10 w0.heap.size ([]) := hO
   have H := Option.some.inj H; subst H
   exact ⟨_, G7, upds_self _ _ ⟨rfl, trivial⟩, Gle.refl _, hS, hO⟩
  ·have H := ifF hb11 H; refine WL_guardY rfl hb11 rfl rfl ?_; refine WL_val (rn_move (v := (.slice a4 n4 c4)) rfl) rfl ?_; refine WL_guardY rfl hb11 rfl rfl ?_; refine WL_val (rn_fld fd46_3 rfl) rfl ?_; refine WL_guardY rfl hb11 rfl rfl ?_; refine WL_val (rn_load na44 rfl (hS.sat.cell (hcb5 3 _ rfl))) rfl ?_; refine WL_guardY rfl hb11 rfl rfl ?_; refine WL_val (rn_len sl44 rfl rfl (h3.mono RTBaneTrip_mono leG7).1) rfl ?_; refine WL_guardY rfl hb11 rfl rfl ?_; obtain ⟨y12, hy12, H⟩ := bnd H; refine WL_op rfl (OpP_callV cb43 (f43_ok (x0 := x1) (x1 := (x0.Trips.length : Int)) hS.sat (h4.mono RInt_mono leG7) hy12) rfl rfl (fun w13 hb => ?_)); have hS := hS.keep hb; have hO := hO.below hb; refine WL_guardY rfl hb11 rfl rfl ?_; refine WL_val (rn_not rfl) rfl ?_; refine WL_val (rn_pickF (v := (.bool (!y12))) rfl hb11 rfl) rfl ?_; refine WL_nil ?_
   have hO : Owns G7 w13 w0.heap.size ([]) := hO
   have H := Option.some.inj H; subst H
   exact ⟨_, G7, upds_self _ _ ⟨rfl, trivial⟩, Gle.refl _, hS, hO⟩
 ·rintro F w14 ⟨Fb, G15, rfl, leG15, hS, hO⟩
  refine WC_cond rfl (fun hb16 => ?_) (fun hb16 => ?_)
  ·have H := ifT hb16 H; refine WC_seq ?_; refine WC_region ?_; refine WL_val (rn_assign (v := (.int .i64 2)) rfl) rfl ?_; refine WL_nil ?_; refine WC_ret ?_
   have H : some 2 = some r := H
   have H := Option.some.inj H; subst H
   exact ⟨rfl, hS.below⟩
  ·have H := ifF hb16 H; refine WC_skip ?_; refine WC_seq ?_; refine WC_region ?_; refine WL_val (rn_assign (v := (.int .i64 0)) rfl) rfl ?_; refine WL_nil ?_; refine WC_ret ?_
   have H : some 0 = some r := H
   have H := Option.some.inj H; subst H
   exact ⟨rfl, hS.below⟩
set_option maxHeartbeats 1000000 in
theorem f38_ok {G0 : Gm} {w0 : World} (hS0 : Sat G0 w0) {x0 : (List Int)} {a1 : Option Addr} {n1 c1 : Nat} {x1 : Int} (h1 : RSl RInt 1 G0 a1 n1 c1 x0) {r : Bool} (H : f38 x0 x1 = some r) :
  Calls Try.prog 38 #[.slice a1 n1 c1, .int .i64 x1] w0 (RetV w0 (.bool r)) := by
 have hS := Since.start hS0
 have hO : Owns G0 w0 w0.heap.size [] := Owns.nil (Nat.le_refl _)
 unfold f38 at H
 refine enter1 (N := 18) (shutV _ _) Try.func38 rfl rfl rfl rfl ?_; refine WC_seq ?_; refine WC_region ?_; refine WL_val (rn_assign (v := (.bool false)) rfl) rfl ?_; refine WL_nil ?_; refine WC_seq ?_; refine WC_seq ?_; refine WC_region ?_; refine WL_val (rn_assign (v := (.int .i64 0)) rfl) rfl ?_; refine WL_nil ?_; obtain ⟨q4, hq4, H⟩ := bnd H; refine WC_cut (fun F w => ∃ (p3 : Unit) (Fb : Fr), q4 = .inl p3 ∧ F = upds Fb [] ∧ w0 = w) ?_ ?_
 ·refine WC_block (WC_loop hq4 (fun s2 F w => ∃ (Fb : Fr), F = upds Fb [(0, .slice a1 n1 c1), (1, .int .i64 x1), (5, .int .i64 s2)] ∧ w0 = w) ?_ ?_)
  ·exact ⟨_, upds_self _ _ ⟨rfl, rfl, rfl, trivial⟩, rfl⟩
  ·rintro s2 F wl t5 ⟨Fb, rfl, rfl⟩
   intro H1 hqq4
   have Hoq4 := H; have H := H1
   unfold f38_b0 at H
   refine WC_seq ?_; refine WC_seq ?_; refine WC_region ?_; refine WL_val (rn_move (v := (.int .i64 s2)) rfl) rfl ?_; refine WL_val (rn_move (v := (.slice a1 n1 c1)) rfl) rfl ?_; refine WL_val (rn_len sl25 rfl rfl h1.1) rfl ?_; refine WL_val (rn_lss rfl rfl) rfl ?_; refine WL_nil ?_; refine WC_cond rfl (fun hb8 => ?_) (fun hb8 => ?_)
   ·have H := ifT hb8 H; refine WC_skip ?_; refine WC_seq ?_; refine WC_block ?_; refine WC_seq ?_; refine WC_region ?_; refine WL_val (rn_move (v := (.slice a1 n1 c1)) rfl) rfl ?_; refine WL_val (rn_move (v := (.int .i64 s2)) rfl) rfl ?_; obtain ⟨y9, hy9, H⟩ := bnd H; refine WL_idx sl25 h1 hy9 rfl rfl rfl ?_
    rintro b10 o10 _ hcb10 _ ⟨⟩
    refine WL_val (rn_load na3 rfl (hS.sat.cell (hcb10 0 _ rfl))) rfl ?_; refine WL_val (rn_move (v := (.int .i64 x1)) rfl) rfl ?_; refine WL_val (rn_eql rfl rfl) rfl ?_; refine WL_nil ?_; refine WC_cond rfl (fun hb11 => ?_) (fun hb11 => ?_)
    ·have H := ifT hb11 H; refine WC_seq ?_; refine WC_region ?_; refine WL_val (rn_assign (v := (.bool true)) rfl) rfl ?_; refine WL_nil ?_; refine WC_ret ?_; have H := Option.some.inj H; subst H
     have hres := hqq4 _ rfl
     subst hres; have H := Hoq4
     have H : some true = some r := H
     have H := Option.some.inj H; subst H
     exact ⟨rfl, hS.below⟩
    ·have H := ifF hb11 H; refine WC_skip ?_; refine WC_region ?_; refine WL_val (rn_move (v := (.int .i64 s2)) rfl) rfl ?_; refine WL_val (rn_add rfl rfl) rfl ?_; refine WL_val (rn_assign (v := (.int .i64 (IntKind.i64.wrap (s2 + 1)))) rfl) rfl ?_; refine WL_nil ?_; have H := Option.some.inj H; subst H; refine ⟨_, rfl, ?_⟩
     exact ⟨_, upds_self _ _ ⟨rfl, rfl, rfl, trivial⟩, rfl⟩
   ·have H := ifF hb8 H; refine WC_exit rfl ?_; have H := Option.some.inj H; subst H
    have hres := hqq4 _ rfl
    subst hres
    exact ⟨_, _, rfl, rfl, rfl⟩
 ·rintro F wl ⟨p3, Fb, rfl, rfl, rfl⟩
  refine WC_seq ?_; refine WC_region ?_; refine WL_val (rn_assign (v := (.bool false)) rfl) rfl ?_; refine WL_nil ?_; refine WC_ret ?_
  have H : some false = some r := H
  have H := Option.some.inj H; subst H
  exact ⟨rfl, hS.below⟩
set_option maxHeartbeats 1000000 in
theorem f51_ok {G0 : Gm} {w0 : World} (hS0 : Sat G0 w0) {x0 : TBaneSea} {a1 : Option Addr} {n1 c1 : Nat} {a2 : Option Addr} {n2 c2 : Nat} {a3 : Option Addr} {n3 c3 : Nat} {x1 : (List Int)} {a4 : Option Addr} {n4 c4 : Nat} {x2 : (List Int)} {a5 : Option Addr} {n5 c5 : Nat} {x3 : Int} (h1 : RSl RInt 1 G0 a1 n1 c1 x0.Infested) (h2 : RSl RInt 1 G0 a2 n2 c2 x0.Clean) (h3 : RSl RTBaneTrip 4 G0 a3 n3 c3 x0.Trips) (h4 : RSl RInt 1 G0 a4 n4 c4 x1) (h5 : RSl RInt 1 G0 a5 n5 c5 x2) {r : Bool} (H : f51 x0 x1 x2 x3 = some r) :
  Calls Try.prog 51 #[.agg #[.int .i64 x0.Islets, .slice a1 n1 c1, .slice a2 n2 c2, .slice a3 n3 c3, .int .i64 x0.Wait], .slice a4 n4 c4, .slice a5 n5 c5, .int .i64 x3] w0 (RetV w0 (.bool r)) := by
 have hS := Since.start hS0
 have hO : Owns G0 w0 w0.heap.size [] := Owns.nil (Nat.le_refl _)
 unfold f51 at H
 refine enter1 (N := 108) (shutV _ _) Try.func51 rfl rfl rfl rfl ?_; refine WC_seq ?_; refine WC_region ?_; refine WL_op rfl (OpP_newF (v := fun b => .pointer (some ⟨b, 0, none⟩)) (cs := [.int .i64 x0.Islets, .slice a1 n1 c1, .slice a2 n2 c2, .slice a3 n3 c3, .int .i64 x0.Wait]) (e := 46) (rn_boxA rfl) hS.sat rfl (fun b6 G8 w7 hg hcb6 => ?_)); have hS := hS.grow hg; have hO := hO.grow hg
 have leG8 := hg.le
 refine WL_val (rn_assign (v := (.bool false)) rfl) rfl ?_; refine WL_nil ?_; refine WC_seq ?_; refine WC_seq ?_; refine WC_region ?_; refine WL_val (rn_move (v := (.slice a5 n5 c5)) rfl) rfl ?_; refine WL_val (rn_len sl25 rfl rfl (h5.mono RInt_mono leG8).1) rfl ?_; refine WL_val (rn_eql rfl rfl) rfl ?_; refine WL_nil ?_; refine WC_cond rfl (fun hb9 => ?_) (fun hb9 => ?_)
 ·have H := ifT hb9 H; refine WC_seq ?_; refine WC_region ?_; refine WL_val (rn_fld fd46_1 rfl) rfl ?_; refine WL_val (rn_load na25 rfl (hS.sat.cell (hcb6 1 _ rfl))) rfl ?_; refine WL_val (rn_move (v := (.int .i64 x3)) rfl) rfl ?_; obtain ⟨y10, hy10, H⟩ := bnd H; refine WL_op rfl (OpP_callV cb38 (f38_ok (x0 := x0.Infested) (x1 := x3) hS.sat (h1.mono RInt_mono leG8) hy10) rfl rfl (fun w11 hb => ?_)); have hS := hS.keep hb; have hO := hO.below hb; refine WL_val (rn_assign (v := (.bool y10)) rfl) rfl ?_; refine WL_nil ?_; refine WC_ret ?_
  have H : some y10 = some r := H
  have H := Option.some.inj H; subst H
  exact ⟨rfl, hS.below⟩
 ·have H := ifF hb9 H; refine WC_skip ?_; refine WC_seq ?_; refine WC_seq ?_; refine WC_region ?_; refine WL_val (rn_assign (v := (.int .i64 0)) rfl) rfl ?_; refine WL_nil ?_; obtain ⟨q14, hq14, H⟩ := bnd H; refine WC_cut (fun F w => ∃ (p13 : Unit) (Fb : Fr) (G : Gm), q14 = .inl p13 ∧ F = upds Fb [(2, .slice a5 n5 c5), (3, .int .i64 x3), (4, .pointer (some ⟨b6, 0, none⟩))] ∧ Gle G8 G ∧ Since w0.heap.size G0 w0 G w ∧ Owns G w w0.heap.size []) ?_ ?_
  ·refine WC_block (WC_loop hq14 (fun s12 F w => ∃ (Fb : Fr) (G : Gm), F = upds Fb [(1, .slice a4 n4 c4), (2, .slice a5 n5 c5), (3, .int .i64 x3), (4, .pointer (some ⟨b6, 0, none⟩)), (9, .int .i64 s12)] ∧ Gle G8 G ∧ Since w0.heap.size G0 w0 G w ∧ Owns G w w0.heap.size []) ?_ ?_)
   ·have hO : Owns G8 w7 w0.heap.size ([]) := hO
    exact ⟨_, G8, upds_self _ _ ⟨rfl, rfl, rfl, rfl, rfl, trivial⟩, Gle.refl _, hS, hO⟩
   ·rintro s12 F w16 t15 ⟨Fb, G17, rfl, leG17, hS, hO⟩
    intro H1 hqq14
    have Hoq14 := H; have H := H1
    unfold f51_b0 at H
    refine WC_seq ?_; refine WC_seq ?_; refine WC_region ?_; refine WL_val (rn_move (v := (.int .i64 s12)) rfl) rfl ?_; refine WL_val (rn_move (v := (.slice a5 n5 c5)) rfl) rfl ?_
    have l0_2 := leG8.trans leG17
    refine WL_val (rn_len sl25 rfl rfl (h5.mono RInt_mono l0_2).1) rfl ?_; refine WL_val (rn_lss rfl rfl) rfl ?_; refine WL_nil ?_; refine WC_cond rfl (fun hb18 => ?_) (fun hb18 => ?_)
    ·have H := ifT hb18 H; refine WC_skip ?_; refine WC_seq ?_; refine WC_block ?_; refine WC_seq ?_; refine WC_seq ?_; obtain ⟨q19, hq19, H⟩ := bnd H; refine WC_cut (fun F w => ∃ (Fb : Fr) (G : Gm), F = upds Fb [(1, .slice a4 n4 c4), (2, .slice a5 n5 c5), (3, .int .i64 x3), (4, .pointer (some ⟨b6, 0, none⟩)), (9, .int .i64 s12), (41, .bool q19)] ∧ Gle G17 G ∧ Since w0.heap.size G0 w0 G w ∧ Owns G w w0.heap.size []) ?_ ?_
     ·have Hoq19 := H; have H := hq19; have hS := hS.keep (below_drew _); have hO := hO.below (below_drew _)
      refine WC_regionD mixedO (fun w => Sat G17 w ∧ True) (.fl 0 (.fl 1 (.fl 2 (.fl 3 (.on 4 (.on 5 (.on 6 (.on 7 (.on 8 (.on 9 (.on 10 (.fl 11 (.fl 12 (.on 13 (.on 14 (.on 15 (.on 16 (.on 17 .nil)))))))))))))))))) (by kernel_rfl) rfl (by kernel_rfl) ⟨hS.sat, trivial⟩ ?_
      refine WD_val rfl (fun w hw => rn_move (v := (.slice a5 n5 c5)) rfl) rfl ?_; refine WD_val rfl (fun w hw => rn_move (v := (.int .i64 s12)) rfl) rfl ?_; obtain ⟨y20, hy20, H⟩ := bnd H; refine WD_idx rfl sl25 (h5.mono RInt_mono l0_2) hy20 rfl rfl rfl ?_
      rintro b21 o21 _ hcb21 _ ⟨⟩
      refine WD_val rfl (fun w hw => rn_load na3 rfl (hw.1.cell (hcb21 0 _ rfl))) rfl ?_; refine WD_op rfl rfl (OpP_val (rn_fld fd46_3 rfl) rfl ?_); refine ⟨fun _ => ⟨hS.sat, trivial⟩, ?_⟩; refine WD_op rfl rfl (OpP_val (rn_load na44 rfl ((hS.sat.le leG17).cell (hcb6 3 _ rfl))) rfl ?_); refine ⟨fun _ => ⟨hS.sat, trivial⟩, ?_⟩; refine WD_op rfl rfl (OpP_val (rn_len sl44 rfl rfl (h3.mono RTBaneTrip_mono l0_2).1) rfl ?_); refine ⟨fun _ => ⟨hS.sat, trivial⟩, ?_⟩; refine WD_op rfl rfl (OpP_val (rn_sub rfl rfl) rfl ?_); refine ⟨fun _ => ⟨hS.sat, trivial⟩, ?_⟩; obtain ⟨y22, hy22, H⟩ := bnd H; refine WD_op rfl rfl (OpP_callV cb69 (f69_ok (x0 := y20) (x1 := 0) (x2 := IntKind.i64.wrap ((x0.Trips.length : Int) - 1)) hS.sat  hy22) rfl rfl (fun w23 hb => ?_)); have hS := hS.keep hb; have hO := hO.below hb; refine ⟨fun _ => ⟨hS.sat, trivial⟩, ?_⟩; refine WD_op rfl rfl (OpP_val (rn_not rfl) rfl ?_); refine ⟨fun _ => ⟨hS.sat, trivial⟩, ?_⟩; refine WD_op rfl rfl (OpP_val (rn_move (v := (.bool (!y22))) rfl) rfl ?_); refine ⟨fun _ => ⟨hS.sat, trivial⟩, ?_⟩
      rcases bcases (!y22) with hb24 | hb24
      ·have H := ifT hb24 H; refine WD_skip rfl rfl hb24 rfl rfl rfl ?_; refine WD_skip rfl rfl hb24 rfl rfl rfl ?_; refine WD_skipS rfl rfl hb24 rfl rfl rfl (fun _ => ⟨hS.sat, trivial⟩) ?_; refine WD_skipS rfl rfl hb24 rfl rfl rfl (fun _ => ⟨hS.sat, trivial⟩) ?_; refine WD_skipS rfl rfl hb24 rfl rfl rfl (fun _ => ⟨hS.sat, trivial⟩) ?_
       refine WD_skipS rfl rfl hb24 rfl rfl rfl (fun h => nomore (by kernel_rfl) h) ?_
       refine WD_op rfl rfl (OpP_val (rn_pickT (v := (.bool true)) rfl hb24 rfl) rfl ?_)
       refine ⟨fun h => nomore (by kernel_rfl) h, ?_⟩
       refine WD_nil ?_
       have hO : Owns G17 w23 w0.heap.size ([]) := hO
       have H := Option.some.inj H; subst H
       exact ⟨_, G17, upds_self _ _ ⟨rfl, rfl, rfl, rfl, rfl, rfl, trivial⟩, Gle.refl _, hS, hO⟩
      ·have H := ifF hb24 H; refine WD_valY rfl rfl hb24 rfl rfl (fun w hw => rn_move (v := (.slice a4 n4 c4)) rfl) rfl ?_; refine WD_valY rfl rfl hb24 rfl rfl (fun w hw => rn_move (v := (.slice a5 n5 c5)) rfl) rfl ?_; refine WD_opY rfl rfl rfl hb24 rfl rfl (OpP_val (rn_move (v := (.int .i64 s12)) rfl) rfl ?_); refine ⟨fun _ => ⟨hS.sat, trivial⟩, ?_⟩; refine WD_opY rfl rfl rfl hb24 rfl rfl (OpP_idx sl25 (h5.mono RInt_mono l0_2) hy20 rfl rfl rfl ?_)
       rintro b25 o25 _ hcb25 _ ⟨⟩
       refine ⟨fun _ => ⟨hS.sat, trivial⟩, ?_⟩; refine WD_opY rfl rfl rfl hb24 rfl rfl (OpP_val (rn_load na3 rfl (hS.sat.cell (hcb25 0 _ rfl))) rfl ?_); refine ⟨fun _ => ⟨hS.sat, trivial⟩, ?_⟩; obtain ⟨y26, hy26, H⟩ := bnd H; refine WD_opY rfl rfl rfl hb24 rfl rfl (OpP_callV cb38 (f38_ok (x0 := x1) (x1 := y20) hS.sat (h4.mono RInt_mono l0_2) hy26) rfl rfl (fun w27 hb => ?_)); have hS := hS.keep hb; have hO := hO.below hb
       refine ⟨fun h => nomore (by kernel_rfl) h, ?_⟩
       refine WD_op rfl rfl (OpP_val (rn_pickF (v := (.bool y26)) rfl hb24 rfl) rfl ?_)
       refine ⟨fun h => nomore (by kernel_rfl) h, ?_⟩
       refine WD_nil ?_
       have hO : Owns G17 w27 w0.heap.size ([]) := hO
       have H := Option.some.inj H; subst H
       exact ⟨_, G17, upds_self _ _ ⟨rfl, rfl, rfl, rfl, rfl, rfl, trivial⟩, Gle.refl _, hS, hO⟩
     ·rintro F w28 ⟨Fb, G29, rfl, leG29, hS, hO⟩
      refine WC_cond rfl (fun hb30 => ?_) (fun hb30 => ?_)
      ·have H := ifT hb30 H; refine WC_seq ?_; refine WC_region ?_; refine WL_val (rn_assign (v := (.bool false)) rfl) rfl ?_; refine WL_nil ?_; refine WC_ret ?_; have H := Option.some.inj H; subst H
       have hres := hqq14 _ rfl
       subst hres; have H := Hoq14
       have H : some false = some r := H
       have H := Option.some.inj H; subst H
       exact ⟨rfl, hS.below⟩
      ·have H := ifF hb30 H; refine WC_skip ?_; refine WC_seq ?_; have hS := hS.keep (below_drew _); have hO := hO.below (below_drew _)
       refine WC_regionD mixedO (fun w => Sat G29 w ∧ True) (.fl 0 (.fl 1 (.fl 2 (.fl 3 (.fl 4 (.fl 5 (.fl 6 (.fl 7 (.on 8 (.on 9 .nil)))))))))) (by kernel_rfl) rfl (by kernel_rfl) ⟨hS.sat, trivial⟩ ?_
       refine WD_val rfl (fun w hw => rn_fld fd46_3 rfl) rfl ?_; refine WD_val rfl (fun w hw => rn_load na44 rfl ((hw.1.le (leG17.trans leG29)).cell (hcb6 3 _ rfl))) rfl ?_; refine WD_val rfl (fun w hw => rn_move (v := (.slice a5 n5 c5)) rfl) rfl ?_; refine WD_val rfl (fun w hw => rn_move (v := (.int .i64 s12)) rfl) rfl ?_; obtain ⟨y31, hy31, H⟩ := bnd H
       have l0_3 := l0_2.trans leG29
       refine WD_idx rfl sl25 (h5.mono RInt_mono l0_3) hy31 rfl rfl rfl ?_
       rintro b32 o32 _ hcb32 _ ⟨⟩
       refine WD_val rfl (fun w hw => rn_load na3 rfl (hw.1.cell (hcb32 0 _ rfl))) rfl ?_; obtain ⟨y33, hy33, H⟩ := bnd H; refine WD_idx rfl sl44 (h3.mono RTBaneTrip_mono l0_3) hy33 rfl rfl rfl ?_
       rintro b34 o34 _ hcb34 _ ⟨⟩
       refine WD_val rfl (fun w hw => rn_loadA ag109 (cs := [.int .i64 y33.Day, .int .i64 y33.From, .int .i64 y33.To, .int .i64 y33.Cost]) rfl rfl (fun j v hj => hw.1.cell (hcb34.drop_take 0 4 j v hj))) rfl ?_
       refine WD_op rfl rfl (OpP_newO (v := fun b => .pointer (some ⟨b, 0, none⟩)) (cs := [.int .i64 0, .int .i64 0, .int .i64 0, .int .i64 0]) (e := 109) (by kernel_rfl) hS.sat hO rfl 4 1 rfl (by decide) (fun b35 w36 hb hO => ?_))
       have hS := hS.keep hb; refine ⟨fun _ => ⟨hS.sat, trivial⟩, ?_⟩; refine WD_op rfl rfl (OpP_store (vs := [.int .i64 y33.Day, .int .i64 y33.From, .int .i64 y33.To, .int .i64 y33.Cost]) sz109 hS hO (k := 0) rfl rfl rfl rfl rfl (one_all rfl) (Nat.le_of_ble_eq_true rfl) (fun w38 hS hO => ?_))
       have hO : Owns G29 w38 w0.heap.size ([⟨109, 4, 1, .slice (some ⟨b35, 0, none⟩) 1 1, [.int .i64 y33.Day, .int .i64 y33.From, .int .i64 y33.To, .int .i64 y33.Cost]⟩]) := hO
       obtain ⟨G39, leG39, hS, hO, hqG39, _⟩ := hO.freeze hS (k := 0) rfl
       have hcG39 : Cells G39 b35 0 [.int .i64 y33.Day, .int .i64 y33.From, .int .i64 y33.To, .int .i64 y33.Cost] := (hqG39 _ _ _ _ rfl)
       refine ⟨fun h => nomore (by kernel_rfl) h, ?_⟩
       refine WD_nil ?_; refine WC_seq ?_; refine WC_seq ?_; obtain ⟨q40, hq40, H⟩ := bnd H; refine WC_cut (fun F w => ∃ (Fb : Fr) (G : Gm), F = upds Fb [(1, .slice a4 n4 c4), (2, .slice a5 n5 c5), (3, .int .i64 x3), (4, .pointer (some ⟨b6, 0, none⟩)), (9, .int .i64 s12), (10, .pointer (some ⟨b35, 0, none⟩)), (59, .bool q40)] ∧ Gle G39 G ∧ Since w0.heap.size G0 w0 G w ∧ Owns G w w0.heap.size []) ?_ ?_
       ·have Hoq40 := H; have H := hq40; refine WC_region ?_; refine WL_val (rn_move (v := (.int .i64 s12)) rfl) rfl ?_; refine WL_val (rn_eql rfl rfl) rfl ?_; refine WL_val (rn_move (v := (.bool (s12 == 0))) rfl) rfl ?_
        rcases bcases (s12 == 0) with hb41 | hb41
        ·have H := ifT hb41 H; refine WL_guardY rfl hb41 rfl rfl ?_; refine WL_val (rn_fld fd46_1 rfl) rfl ?_; refine WL_guardY rfl hb41 rfl rfl ?_
         have l1_4 := (leG17.trans leG29).trans leG39
         refine WL_val (rn_load na25 rfl ((hS.sat.le l1_4).cell (hcb6 1 _ rfl))) rfl ?_; refine WL_guardY rfl hb41 rfl rfl ?_; refine WL_val (rn_fld fd109_1 rfl) rfl ?_; refine WL_guardY rfl hb41 rfl rfl ?_; refine WL_val (rn_load na3 rfl (hS.sat.cell (hcG39 1 _ rfl))) rfl ?_; refine WL_guardY rfl hb41 rfl rfl ?_; obtain ⟨y42, hy42, H⟩ := bnd H
         have l0_4 := l0_3.trans leG39
         refine WL_op rfl (OpP_callV cb38 (f38_ok (x0 := x0.Infested) (x1 := y33.From) hS.sat (h1.mono RInt_mono l0_4) hy42) rfl rfl (fun w43 hb => ?_)); have hS := hS.keep hb; have hO := hO.below hb; refine WL_guardY rfl hb41 rfl rfl ?_; refine WL_val (rn_not rfl) rfl ?_; refine WL_val (rn_pickT (v := (.bool (!y42))) rfl hb41 rfl) rfl ?_; refine WL_nil ?_
         have hO : Owns G39 w43 w0.heap.size ([]) := hO
         have H := Option.some.inj H; subst H
         exact ⟨_, G39, upds_self _ _ ⟨rfl, rfl, rfl, rfl, rfl, rfl, rfl, trivial⟩, Gle.refl _, hS, hO⟩
        ·have H := ifF hb41 H; refine WL_guardN rfl hb41 rfl rfl rfl ?_; refine WL_guardN rfl hb41 rfl rfl rfl ?_; refine WL_guardN rfl hb41 rfl rfl rfl ?_; refine WL_guardN rfl hb41 rfl rfl rfl ?_; refine WL_guardN rfl hb41 rfl rfl rfl ?_; refine WL_guardN rfl hb41 rfl rfl rfl ?_; refine WL_val (rn_pickF (v := (.bool false)) rfl hb41 rfl) rfl ?_; refine WL_nil ?_
         have hO : Owns G39 w38 w0.heap.size ([]) := hO
         have H := Option.some.inj H; subst H
         exact ⟨_, G39, upds_self _ _ ⟨rfl, rfl, rfl, rfl, rfl, rfl, rfl, trivial⟩, Gle.refl _, hS, hO⟩
       ·rintro F w44 ⟨Fb, G45, rfl, leG45, hS, hO⟩
        refine WC_cond rfl (fun hb46 => ?_) (fun hb46 => ?_)
        ·have H := ifT hb46 H; refine WC_seq ?_; refine WC_region ?_; refine WL_val (rn_assign (v := (.bool false)) rfl) rfl ?_; refine WL_nil ?_; refine WC_ret ?_; have H := Option.some.inj H; subst H
         have hres := hqq14 _ rfl
         subst hres; have H := Hoq14
         have H : some false = some r := H
         have H := Option.some.inj H; subst H
         exact ⟨rfl, hS.below⟩
        ·have H := ifF hb46 H; refine WC_skip ?_; refine WC_seq ?_; obtain ⟨q47, hq47, H⟩ := bnd H; refine WC_cut (fun F w => ∃ (Fb : Fr) (G : Gm), F = upds Fb [(1, .slice a4 n4 c4), (2, .slice a5 n5 c5), (3, .int .i64 x3), (4, .pointer (some ⟨b6, 0, none⟩)), (9, .int .i64 s12), (94, .bool q47)] ∧ Gle G45 G ∧ Since w0.heap.size G0 w0 G w ∧ Owns G w w0.heap.size []) ?_ ?_
         ·have Hoq47 := H; have H := hq47; have hS := hS.keep (below_drew _); have hO := hO.below (below_drew _)
          refine WC_regionD mixedO (fun w => Sat G45 w ∧ True) (.on 0 (.on 1 (.on 2 (.fl 3 (.fl 4 (.fl 5 (.fl 6 (.fl 7 (.on 8 (.on 9 (.on 10 (.on 11 (.on 12 (.on 13 (.on 14 (.on 15 (.on 16 (.fl 17 (.fl 18 (.fl 19 (.fl 20 (.fl 21 (.fl 22 (.fl 23 (.fl 24 (.fl 25 (.fl 26 (.fl 27 (.fl 28 (.on 29 (.on 30 (.on 31 (.on 32 (.on 33 (.on 34 .nil))))))))))))))))))))))))))))))))))) (by kernel_rfl) rfl (by kernel_rfl) ⟨hS.sat, trivial⟩ ?_
          refine WD_op rfl rfl (OpP_val (rn_move (v := (.int .i64 s12)) rfl) rfl ?_); refine ⟨fun _ => ⟨hS.sat, trivial⟩, ?_⟩; refine WD_op rfl rfl (OpP_val (rn_gtr rfl rfl) rfl ?_); refine ⟨fun _ => ⟨hS.sat, trivial⟩, ?_⟩; refine WD_op rfl rfl (OpP_val (rn_move (v := (.bool (decide (0 < s12)))) rfl) rfl ?_); refine ⟨fun _ => ⟨hS.sat, trivial⟩, ?_⟩
          rcases bcases (decide (0 < s12)) with hb48 | hb48
          ·have H := ifT hb48 H; refine WD_valY rfl rfl hb48 rfl rfl (fun w hw => rn_fld fd109_1 rfl) rfl ?_; refine WD_valY rfl rfl hb48 rfl rfl (fun w hw => rn_load na3 rfl ((hw.1.le leG45).cell (hcG39 1 _ rfl))) rfl ?_; refine WD_valY rfl rfl hb48 rfl rfl (fun w hw => rn_fld fd46_3 rfl) rfl ?_; refine WD_valY rfl rfl hb48 rfl rfl (fun w hw => rn_load na44 rfl ((hw.1.le (((leG17.trans leG29).trans leG39).trans leG45)).cell (hcb6 3 _ rfl))) rfl ?_; refine WD_valY rfl rfl hb48 rfl rfl (fun w hw => rn_move (v := (.slice a5 n5 c5)) rfl) rfl ?_; refine WD_opY rfl rfl rfl hb48 rfl rfl (OpP_val (rn_move (v := (.int .i64 s12)) rfl) rfl ?_); refine ⟨fun _ => ⟨hS.sat, trivial⟩, ?_⟩; refine WD_opY rfl rfl rfl hb48 rfl rfl (OpP_val (rn_sub rfl rfl) rfl ?_); refine ⟨fun _ => ⟨hS.sat, trivial⟩, ?_⟩; obtain ⟨y49, hy49, H⟩ := bnd H
           have l0_5 := (l0_3.trans leG39).trans leG45
           refine WD_opY rfl rfl rfl hb48 rfl rfl (OpP_idx sl25 (h5.mono RInt_mono l0_5) hy49 rfl rfl rfl ?_)
           rintro b50 o50 _ hcb50 _ ⟨⟩
           refine ⟨fun _ => ⟨hS.sat, trivial⟩, ?_⟩; refine WD_opY rfl rfl rfl hb48 rfl rfl (OpP_val (rn_load na3 rfl (hS.sat.cell (hcb50 0 _ rfl))) rfl ?_); refine ⟨fun _ => ⟨hS.sat, trivial⟩, ?_⟩; obtain ⟨y51, hy51, H⟩ := bnd H; refine WD_opY rfl rfl rfl hb48 rfl rfl (OpP_idx sl44 (h3.mono RTBaneTrip_mono l0_5) hy51 rfl rfl rfl ?_)
           rintro b52 o52 _ hcb52 _ ⟨⟩
           refine ⟨fun _ => ⟨hS.sat, trivial⟩, ?_⟩; refine WD_opY rfl rfl rfl hb48 rfl rfl (OpP_val (rn_fld fd109_2 rfl) rfl ?_); refine ⟨fun _ => ⟨hS.sat, trivial⟩, ?_⟩; refine WD_opY rfl rfl rfl hb48 rfl rfl (OpP_val (rn_load na3 rfl (hS.sat.cell (hcb52 2 _ rfl))) rfl ?_); refine ⟨fun _ => ⟨hS.sat, trivial⟩, ?_⟩; refine WD_opY rfl rfl rfl hb48 rfl rfl (OpP_val (rn_neq rfl rfl) rfl ?_); refine ⟨fun _ => ⟨hS.sat, trivial⟩, ?_⟩; refine WD_opY rfl rfl rfl hb48 rfl rfl (OpP_val (rn_move (v := (.bool (y33.From != y51.To))) rfl) rfl ?_); refine ⟨fun _ => ⟨hS.sat, trivial⟩, ?_⟩
           rcases bcases (y33.From != y51.To) with hb53 | hb53
           ·have H := ifT hb53 H; refine WD_skip rfl rfl hb53 rfl rfl rfl ?_; refine WD_skip rfl rfl hb53 rfl rfl rfl ?_; refine WD_skip rfl rfl hb53 rfl rfl rfl ?_; refine WD_skip rfl rfl hb53 rfl rfl rfl ?_; refine WD_skip rfl rfl hb53 rfl rfl rfl ?_; refine WD_skip rfl rfl hb53 rfl rfl rfl ?_; refine WD_skip rfl rfl hb53 rfl rfl rfl ?_; refine WD_skip rfl rfl hb53 rfl rfl rfl ?_; refine WD_skip rfl rfl hb53 rfl rfl rfl ?_; refine WD_skip rfl rfl hb53 rfl rfl rfl ?_; refine WD_skip rfl rfl hb53 rfl rfl rfl ?_; refine WD_skip rfl rfl hb53 rfl rfl rfl ?_; refine WD_skipS rfl rfl hb53 rfl rfl rfl (fun _ => ⟨hS.sat, trivial⟩) ?_; refine WD_skipS rfl rfl hb53 rfl rfl rfl (fun _ => ⟨hS.sat, trivial⟩) ?_; refine WD_skipS rfl rfl hb53 rfl rfl rfl (fun _ => ⟨hS.sat, trivial⟩) ?_
            refine WD_skipS rfl rfl hb53 rfl rfl rfl (fun h => nomore (by kernel_rfl) h) ?_
            refine WD_opY rfl rfl rfl hb48 rfl rfl (OpP_val (rn_pickT (v := (.bool true)) rfl hb53 rfl) rfl ?_)
            refine ⟨fun h => nomore (by kernel_rfl) h, ?_⟩
            refine WD_op rfl rfl (OpP_val (rn_pickT (v := (.bool true)) rfl hb48 rfl) rfl ?_)
            refine ⟨fun h => nomore (by kernel_rfl) h, ?_⟩
            refine WD_nil ?_
            have hO : Owns G45 w44.drew w0.heap.size ([]) := hO
            have H := Option.some.inj H; subst H
            exact ⟨_, G45, upds_self _ _ ⟨rfl, rfl, rfl, rfl, rfl, rfl, trivial⟩, Gle.refl _, hS, hO⟩
           ·have H := ifF hb53 H; refine WD_valY rfl rfl hb53 rfl rfl (fun w hw => rn_fld fd109_0 rfl) rfl ?_; refine WD_valY rfl rfl hb53 rfl rfl (fun w hw => rn_load na3 rfl ((hw.1.le leG45).cell (hcG39 0 _ rfl))) rfl ?_; refine WD_valY rfl rfl hb53 rfl rfl (fun w hw => rn_fld fd46_3 rfl) rfl ?_; refine WD_valY rfl rfl hb53 rfl rfl (fun w hw => rn_load na44 rfl ((hw.1.le (((leG17.trans leG29).trans leG39).trans leG45)).cell (hcb6 3 _ rfl))) rfl ?_; refine WD_valY rfl rfl hb53 rfl rfl (fun w hw => rn_move (v := (.slice a5 n5 c5)) rfl) rfl ?_; refine WD_valY rfl rfl hb53 rfl rfl (fun w hw => rn_move (v := (.int .i64 s12)) rfl) rfl ?_; refine WD_valY rfl rfl hb53 rfl rfl (fun w hw => rn_sub rfl rfl) rfl ?_; refine WD_idxY rfl rfl hb53 rfl rfl sl25 (h5.mono RInt_mono l0_5) hy49 rfl rfl rfl ?_
            rintro b54 o54 _ hcb54 _ ⟨⟩
            refine WD_valY rfl rfl hb53 rfl rfl (fun w hw => rn_load na3 rfl (hw.1.cell (hcb54 0 _ rfl))) rfl ?_; refine WD_idxY rfl rfl hb53 rfl rfl sl44 (h3.mono RTBaneTrip_mono l0_5) hy51 rfl rfl rfl ?_
            rintro b55 o55 _ hcb55 _ ⟨⟩
            refine WD_valY rfl rfl hb53 rfl rfl (fun w hw => rn_fld fd109_0 rfl) rfl ?_; refine WD_valY rfl rfl hb53 rfl rfl (fun w hw => rn_load na3 rfl (hw.1.cell (hcb55 0 _ rfl))) rfl ?_; refine WD_opY rfl rfl rfl hb53 rfl rfl (OpP_val (rn_fld fd46_4 rfl) rfl ?_); refine ⟨fun _ => ⟨hS.sat, trivial⟩, ?_⟩
            have l1_5 := ((leG17.trans leG29).trans leG39).trans leG45
            refine WD_opY rfl rfl rfl hb53 rfl rfl (OpP_val (rn_load na3 rfl ((hS.sat.le l1_5).cell (hcb6 4 _ rfl))) rfl ?_); refine ⟨fun _ => ⟨hS.sat, trivial⟩, ?_⟩; refine WD_opY rfl rfl rfl hb53 rfl rfl (OpP_val (rn_add rfl rfl) rfl ?_); refine ⟨fun _ => ⟨hS.sat, trivial⟩, ?_⟩; refine WD_opY rfl rfl rfl hb53 rfl rfl (OpP_val (rn_lss rfl rfl) rfl ?_)
            refine ⟨fun h => nomore (by kernel_rfl) h, ?_⟩
            refine WD_opY rfl rfl rfl hb48 rfl rfl (OpP_val (rn_pickF (v := (.bool (decide (y33.Day < (IntKind.i64.wrap (y51.Day + x0.Wait)))))) rfl hb53 rfl) rfl ?_)
            refine ⟨fun h => nomore (by kernel_rfl) h, ?_⟩
            refine WD_op rfl rfl (OpP_val (rn_pickT (v := (.bool (decide (y33.Day < (IntKind.i64.wrap (y51.Day + x0.Wait)))))) rfl hb48 rfl) rfl ?_)
            refine ⟨fun h => nomore (by kernel_rfl) h, ?_⟩
            refine WD_nil ?_
            have hO : Owns G45 w44.drew w0.heap.size ([]) := hO
            have H := Option.some.inj H; subst H
            exact ⟨_, G45, upds_self _ _ ⟨rfl, rfl, rfl, rfl, rfl, rfl, trivial⟩, Gle.refl _, hS, hO⟩
          ·have H := ifF hb48 H; refine WD_skip rfl rfl hb48 rfl rfl rfl ?_; refine WD_skip rfl rfl hb48 rfl rfl rfl ?_; refine WD_skip rfl rfl hb48 rfl rfl rfl ?_; refine WD_skip rfl rfl hb48 rfl rfl rfl ?_; refine WD_skip rfl rfl hb48 rfl rfl rfl ?_; refine WD_skipS rfl rfl hb48 rfl rfl rfl (fun _ => ⟨hS.sat, trivial⟩) ?_; refine WD_skipS rfl rfl hb48 rfl rfl rfl (fun _ => ⟨hS.sat, trivial⟩) ?_; refine WD_skipS rfl rfl hb48 rfl rfl rfl (fun _ => ⟨hS.sat, trivial⟩) ?_; refine WD_skipS rfl rfl hb48 rfl rfl rfl (fun _ => ⟨hS.sat, trivial⟩) ?_; refine WD_skipS rfl rfl hb48 rfl rfl rfl (fun _ => ⟨hS.sat, trivial⟩) ?_; refine WD_skipS rfl rfl hb48 rfl rfl rfl (fun _ => ⟨hS.sat, trivial⟩) ?_; refine WD_skipS rfl rfl hb48 rfl rfl rfl (fun _ => ⟨hS.sat, trivial⟩) ?_; refine WD_skipS rfl rfl hb48 rfl rfl rfl (fun _ => ⟨hS.sat, trivial⟩) ?_; refine WD_skipS rfl rfl hb48 rfl rfl rfl (fun _ => ⟨hS.sat, trivial⟩) ?_; refine WD_undefN rfl rfl rfl rfl rfl ?_; refine WD_undefN rfl rfl rfl rfl rfl ?_; refine WD_undefN rfl rfl rfl rfl rfl ?_; refine WD_undefN rfl rfl rfl rfl rfl ?_; refine WD_undefN rfl rfl rfl rfl rfl ?_; refine WD_undefN rfl rfl rfl rfl rfl ?_; refine WD_undefN rfl rfl rfl rfl rfl ?_; refine WD_undefN rfl rfl rfl rfl rfl ?_; refine WD_undefN rfl rfl rfl rfl rfl ?_; refine WD_undefN rfl rfl rfl rfl rfl ?_; refine WD_undefN rfl rfl rfl rfl rfl ?_; refine WD_undefN rfl rfl rfl rfl rfl ?_; refine WD_undefS rfl rfl rfl rfl rfl (fun _ => ⟨hS.sat, trivial⟩) ?_; refine WD_undefS rfl rfl rfl rfl rfl (fun _ => ⟨hS.sat, trivial⟩) ?_; refine WD_undefS rfl rfl rfl rfl rfl (fun _ => ⟨hS.sat, trivial⟩) ?_
           refine WD_undefS rfl rfl rfl rfl rfl (fun h => nomore (by kernel_rfl) h) ?_
           refine WD_skipS rfl rfl hb48 rfl rfl rfl (fun h => nomore (by kernel_rfl) h) ?_
           refine WD_op rfl rfl (OpP_val (rn_pickF (v := (.bool false)) rfl hb48 rfl) rfl ?_)
           refine ⟨fun h => nomore (by kernel_rfl) h, ?_⟩
           refine WD_nil ?_
           have hO : Owns G45 w44.drew w0.heap.size ([]) := hO
           have H := Option.some.inj H; subst H
           exact ⟨_, G45, upds_self _ _ ⟨rfl, rfl, rfl, rfl, rfl, rfl, trivial⟩, Gle.refl _, hS, hO⟩
         ·rintro F w56 ⟨Fb, G57, rfl, leG57, hS, hO⟩
          refine WC_cond rfl (fun hb58 => ?_) (fun hb58 => ?_)
          ·have H := ifT hb58 H; refine WC_seq ?_; refine WC_region ?_; refine WL_val (rn_assign (v := (.bool false)) rfl) rfl ?_; refine WL_nil ?_; refine WC_ret ?_; have H := Option.some.inj H; subst H
           have hres := hqq14 _ rfl
           subst hres; have H := Hoq14
           have H : some false = some r := H
           have H := Option.some.inj H; subst H
           exact ⟨rfl, hS.below⟩
          ·have H := ifF hb58 H; refine WC_skip ?_; refine WC_region ?_; refine WL_val (rn_move (v := (.int .i64 s12)) rfl) rfl ?_; refine WL_val (rn_add rfl rfl) rfl ?_; refine WL_val (rn_assign (v := (.int .i64 (IntKind.i64.wrap (s12 + 1)))) rfl) rfl ?_; refine WL_nil ?_
           have hO : Owns G57 w56 w0.heap.size ([]) := hO
           have H := Option.some.inj H; subst H; refine ⟨_, rfl, ?_⟩
           have l1_6 := (((leG17.trans leG29).trans leG39).trans leG45).trans leG57
           exact ⟨_, G57, upds_self _ _ ⟨rfl, rfl, rfl, rfl, rfl, trivial⟩, l1_6, hS, hO⟩
    ·have H := ifF hb18 H; refine WC_exit rfl ?_
     have hO : Owns G17 w16 w0.heap.size ([]) := hO
     have H := Option.some.inj H; subst H
     have hres := hqq14 _ rfl
     subst hres
     exact ⟨_, _, G17, rfl, upds_self _ _ ⟨rfl, rfl, rfl, trivial⟩, leG17, hS, hO⟩
  ·rintro F w59 ⟨p13, Fb, G60, rfl, rfl, leG60, hS, hO⟩
   refine WC_seq ?_; have hS := hS.keep (below_drew _); have hO := hO.below (below_drew _)
   refine WC_regionD mixedO (fun w => Sat G60 w ∧ True) (.fl 0 (.fl 1 (.fl 2 (.fl 3 (.fl 4 (.fl 5 (.fl 6 (.fl 7 (.fl 8 (.fl 9 (.fl 10 (.on 11 (.on 12 (.on 13 .nil)))))))))))))) (by kernel_rfl) rfl (by kernel_rfl) ⟨hS.sat, trivial⟩ ?_
   refine WD_val rfl (fun w hw => rn_fld fd46_3 rfl) rfl ?_; refine WD_val rfl (fun w hw => rn_load na44 rfl ((hw.1.le leG60).cell (hcb6 3 _ rfl))) rfl ?_; refine WD_val rfl (fun w hw => rn_move (v := (.slice a5 n5 c5)) rfl) rfl ?_; refine WD_val rfl (fun w hw => rn_move (v := (.slice a5 n5 c5)) rfl) rfl ?_
   have l0_2 := leG8.trans leG60
   refine WD_val rfl (fun w hw => rn_len sl25 rfl rfl (h5.mono RInt_mono l0_2).1) rfl ?_; refine WD_val rfl (fun w hw => rn_sub rfl rfl) rfl ?_; obtain ⟨y61, hy61, H⟩ := bnd H; refine WD_idx rfl sl25 (h5.mono RInt_mono l0_2) hy61 rfl rfl rfl ?_
   rintro b62 o62 _ hcb62 _ ⟨⟩
   refine WD_val rfl (fun w hw => rn_load na3 rfl (hw.1.cell (hcb62 0 _ rfl))) rfl ?_; obtain ⟨y63, hy63, H⟩ := bnd H; refine WD_idx rfl sl44 (h3.mono RTBaneTrip_mono l0_2) hy63 rfl rfl rfl ?_
   rintro b64 o64 _ hcb64 _ ⟨⟩
   refine WD_val rfl (fun w hw => rn_fld fd109_2 rfl) rfl ?_; refine WD_val rfl (fun w hw => rn_load na3 rfl (hw.1.cell (hcb64 2 _ rfl))) rfl ?_; refine WD_op rfl rfl (OpP_val (rn_move (v := (.int .i64 x3)) rfl) rfl ?_); refine ⟨fun _ => ⟨hS.sat, trivial⟩, ?_⟩; refine WD_op rfl rfl (OpP_val (rn_eql rfl rfl) rfl ?_)
   refine ⟨fun h => nomore (by kernel_rfl) h, ?_⟩
   refine WD_op rfl rfl (OpP_val (rn_assign (v := (.bool (y63.To == x3))) rfl) rfl ?_)
   refine ⟨fun h => nomore (by kernel_rfl) h, ?_⟩
   refine WD_nil ?_; refine WC_ret ?_
   have H : some (y63.To == x3) = some r := H
   have H := Option.some.inj H; subst H
   exact ⟨rfl, hS.below⟩
set_option maxHeartbeats 1000000 in
theorem f52_ok {G0 : Gm} {w0 : World} (hS0 : Sat G0 w0) {x0 : TBaneSea} {a1 : Option Addr} {n1 c1 : Nat} {a2 : Option Addr} {n2 c2 : Nat} {a3 : Option Addr} {n3 c3 : Nat} {x1 : (List Int)} {a4 : Option Addr} {n4 c4 : Nat} (h1 : RSl RInt 1 G0 a1 n1 c1 x0.Infested) (h2 : RSl RInt 1 G0 a2 n2 c2 x0.Clean) (h3 : RSl RTBaneTrip 4 G0 a3 n3 c3 x0.Trips) (h4 : RSl RInt 1 G0 a4 n4 c4 x1) {r : Int} (H : f52 x0 x1 = some r) :
  Calls Try.prog 52 #[.agg #[.int .i64 x0.Islets, .slice a1 n1 c1, .slice a2 n2 c2, .slice a3 n3 c3, .int .i64 x0.Wait], .slice a4 n4 c4] w0 (RetV w0 (.int .i64 r)) := by
 have hS := Since.start hS0
 have hO : Owns G0 w0 w0.heap.size [] := Owns.nil (Nat.le_refl _)
 unfold f52 at H
 refine enter1 (N := 19) (shutV _ _) Try.func52 rfl rfl rfl rfl ?_; refine WC_seq ?_; refine WC_region ?_; refine WL_op rfl (OpP_newF (v := fun b => .pointer (some ⟨b, 0, none⟩)) (cs := [.int .i64 x0.Islets, .slice a1 n1 c1, .slice a2 n2 c2, .slice a3 n3 c3, .int .i64 x0.Wait]) (e := 46) (rn_boxA rfl) hS.sat rfl (fun b5 G7 w6 hg hcb5 => ?_)); have hS := hS.grow hg; have hO := hO.grow hg
 have leG7 := hg.le
 refine WL_val (rn_assign (v := (.int .i64 0)) rfl) rfl ?_; refine WL_nil ?_; refine WC_seq ?_; refine WC_seq ?_; refine WC_region ?_; refine WL_val (rn_move (v := (.slice a4 n4 c4)) rfl) rfl ?_; refine WL_val (rn_len sl25 rfl rfl (h4.mono RInt_mono leG7).1) rfl ?_; refine WL_val (rn_eql rfl rfl) rfl ?_; refine WL_nil ?_; refine WC_cond rfl (fun hb8 => ?_) (fun hb8 => ?_)
 ·have H := ifT hb8 H; refine WC_seq ?_; refine WC_region ?_; refine WL_val (rn_assign (v := (.int .i64 0)) rfl) rfl ?_; refine WL_nil ?_; refine WC_ret ?_
  have H : some 0 = some r := H
  have H := Option.some.inj H; subst H
  exact ⟨rfl, hS.below⟩
 ·have H := ifF hb8 H; refine WC_skip ?_; refine WC_seq ?_; have hS := hS.keep (below_drew _); have hO := hO.below (below_drew _)
  refine WC_regionD mixedO (fun w => Sat G7 w ∧ True) (.fl 0 (.fl 1 (.fl 2 (.on 3 (.on 4 (.on 5 (.on 6 (.on 7 (.on 8 (.on 9 (.on 10 (.on 11 .nil)))))))))))) (by kernel_rfl) rfl (by kernel_rfl) ⟨hS.sat, trivial⟩ ?_
  refine WD_val rfl (fun w hw => rn_fld fd46_3 rfl) rfl ?_; refine WD_val rfl (fun w hw => rn_load na44 rfl (hw.1.cell (hcb5 3 _ rfl))) rfl ?_; refine WD_val rfl (fun w hw => rn_move (v := (.slice a4 n4 c4)) rfl) rfl ?_; refine WD_op rfl rfl (OpP_val (rn_move (v := (.slice a4 n4 c4)) rfl) rfl ?_); refine ⟨fun _ => ⟨hS.sat, trivial⟩, ?_⟩; refine WD_op rfl rfl (OpP_val (rn_len sl25 rfl rfl (h4.mono RInt_mono leG7).1) rfl ?_); refine ⟨fun _ => ⟨hS.sat, trivial⟩, ?_⟩; refine WD_op rfl rfl (OpP_val (rn_sub rfl rfl) rfl ?_); refine ⟨fun _ => ⟨hS.sat, trivial⟩, ?_⟩; obtain ⟨y9, hy9, H⟩ := bnd H; refine WD_op rfl rfl (OpP_idx sl25 (h4.mono RInt_mono leG7) hy9 rfl rfl rfl ?_)
  rintro b10 o10 _ hcb10 _ ⟨⟩
  refine ⟨fun _ => ⟨hS.sat, trivial⟩, ?_⟩; refine WD_op rfl rfl (OpP_val (rn_load na3 rfl (hS.sat.cell (hcb10 0 _ rfl))) rfl ?_); refine ⟨fun _ => ⟨hS.sat, trivial⟩, ?_⟩; obtain ⟨y11, hy11, H⟩ := bnd H; refine WD_op rfl rfl (OpP_idx sl44 (h3.mono RTBaneTrip_mono leG7) hy11 rfl rfl rfl ?_)
  rintro b12 o12 _ hcb12 _ ⟨⟩
  refine ⟨fun h => nomore (by kernel_rfl) h, ?_⟩
  refine WD_op rfl rfl (OpP_val (rn_fld fd109_0 rfl) rfl ?_)
  refine ⟨fun h => nomore (by kernel_rfl) h, ?_⟩
  refine WD_op rfl rfl (OpP_val (rn_load na3 rfl (hS.sat.cell (hcb12 0 _ rfl))) rfl ?_)
  refine ⟨fun h => nomore (by kernel_rfl) h, ?_⟩
  refine WD_op rfl rfl (OpP_val (rn_assign (v := (.int .i64 y11.Day)) rfl) rfl ?_)
  refine ⟨fun h => nomore (by kernel_rfl) h, ?_⟩
  refine WD_nil ?_; refine WC_ret ?_
  have H : some y11.Day = some r := H
  have H := Option.some.inj H; subst H
  exact ⟨rfl, hS.below⟩
set_option maxHeartbeats 1000000 in
theorem f57_ok {G0 : Gm} {w0 : World} (hS0 : Sat G0 w0) {x0 : TBaneSea} {a1 : Option Addr} {n1 c1 : Nat} {a2 : Option Addr} {n2 c2 : Nat} {a3 : Option Addr} {n3 c3 : Nat} {x1 : (List Int)} {a4 : Option Addr} {n4 c4 : Nat} {x2 : (List Bool)} {a5 : Option Addr} {n5 c5 : Nat} (h1 : RSl RInt 1 G0 a1 n1 c1 x0.Infested) (h2 : RSl RInt 1 G0 a2 n2 c2 x0.Clean) (h3 : RSl RTBaneTrip 4 G0 a3 n3 c3 x0.Trips) (h4 : RSl RInt 1 G0 a4 n4 c4 x1) (h5 : RSl RBool 1 G0 a5 n5 c5 x2) {r : (List Int)} (H : f57 x0 x1 x2 = some r) :
  Calls Try.prog 57 #[.agg #[.int .i64 x0.Islets, .slice a1 n1 c1, .slice a2 n2 c2, .slice a3 n3 c3, .int .i64 x0.Wait], .slice a4 n4 c4, .slice a5 n5 c5] w0 (RetG G0 w0 (fun G v => ∃ (ra0 : Option Addr) (rn0 rc0 : Nat), v = .slice ra0 rn0 rc0 ∧ RSl RInt 1 G ra0 rn0 rc0 r)) := by
 have hS := Since.start hS0
 have hO : Owns G0 w0 w0.heap.size [] := Owns.nil (Nat.le_refl _)
 unfold f57 at H
 refine enter1 (N := 86) (shutG _ _ _) Try.func57 rfl rfl rfl rfl ?_; refine WC_seq ?_; refine WC_region ?_; refine WL_op rfl (OpP_newF (v := fun b => .pointer (some ⟨b, 0, none⟩)) (cs := [.int .i64 x0.Islets, .slice a1 n1 c1, .slice a2 n2 c2, .slice a3 n3 c3, .int .i64 x0.Wait]) (e := 46) (rn_boxA rfl) hS.sat rfl (fun b6 G8 w7 hg hcb6 => ?_)); have hS := hS.grow hg; have hO := hO.grow hg
 have leG8 := hg.le
 refine WL_val (rn_assign (v := (.slice none 0 0)) rfl) rfl ?_; refine WL_nil ?_; refine WC_seq ?_; refine WC_region ?_; refine WL_val (rn_assign (v := (.slice none 0 0)) rfl) rfl ?_; refine WL_nil ?_; refine WC_seq ?_; refine WC_seq ?_; refine WC_region ?_; refine WL_val (rn_assign (v := (.int .i64 0)) rfl) rfl ?_; refine WL_nil ?_; have hO := hO.cons_nil 3 1; obtain ⟨q12, hq12, H⟩ := bnd H; refine WC_cut (fun F w => ∃ (Fb : Fr) (G : Gm) (aq12_0 : Option Addr) (nq12_0 cq12_0 : Nat) (claq12_0 : List Value), F = upds Fb [(1, .slice a4 n4 c4), (2, .slice a5 n5 c5), (3, .pointer (some ⟨b6, 0, none⟩)), (7, .slice aq12_0 nq12_0 cq12_0)] ∧ Gle G8 G ∧ Since w0.heap.size G0 w0 G w ∧ Owns G w w0.heap.size [⟨3, 1, nq12_0, .slice aq12_0 nq12_0 cq12_0, claq12_0⟩] ∧ nq12_0 = q12.length ∧ Rd RInt 1 G claq12_0 q12) ?_ ?_
 ·refine WC_block (WC_loop hq12 (fun s10 F w => ∃ (Fb : Fr) (G : Gm) (as10_0 : Option Addr) (ns10_0 cs10_0 : Nat) (clas10_0 : List Value), F = upds Fb [(1, .slice a4 n4 c4), (2, .slice a5 n5 c5), (3, .pointer (some ⟨b6, 0, none⟩)), (7, .slice as10_0 ns10_0 cs10_0), (8, .int .i64 s10.2)] ∧ Gle G8 G ∧ Since w0.heap.size G0 w0 G w ∧ Owns G w w0.heap.size [⟨3, 1, ns10_0, .slice as10_0 ns10_0 cs10_0, clas10_0⟩] ∧ ns10_0 = s10.1.length ∧ Rd RInt 1 G clas10_0 s10.1) ?_ ?_)
  ·have hO : Owns G8 w7 w0.heap.size ([⟨3, 1, 0, .slice none 0 0, []⟩]) := hO
   exact ⟨_, G8, none, 0, 0, [], upds_self _ _ ⟨rfl, rfl, rfl, rfl, rfl, trivial⟩, Gle.refl _, hS, hO, rfl, (Rd.nil RInt 1 G8)⟩
  ·rintro s10 F w14 t13 ⟨Fb, G15, as10_0, ns10_0, cs10_0, clas10_0, rfl, leG15, hS, hO, hnhs10_0, hs10_0⟩
   intro H1 hqq12
   have Hoq12 := H; have H := H1
   unfold f57_b0 at H
   refine WC_seq ?_; refine WC_seq ?_; refine WC_region ?_; refine WL_val (rn_move (v := (.int .i64 s10.2)) rfl) rfl ?_; refine WL_val (rn_fld fd46_0 rfl) rfl ?_; refine WL_val (rn_load na3 rfl ((hS.sat.le leG15).cell (hcb6 0 _ rfl))) rfl ?_; refine WL_val (rn_lss rfl rfl) rfl ?_; refine WL_nil ?_; refine WC_cond rfl (fun hb16 => ?_) (fun hb16 => ?_)
   ·have H := ifT hb16 H; refine WC_skip ?_; refine WC_seq ?_; refine WC_block ?_; refine WC_seq ?_; refine WC_region ?_; refine WL_val (rn_assign (v := (.int .i64 1000000)) rfl) rfl ?_; refine WL_nil ?_; refine WC_seq ?_; obtain ⟨q17, hq17, H⟩ := bnd H; refine WC_cut (fun F w => ∃ (Fb : Fr) (G : Gm), F = upds Fb [(1, .slice a4 n4 c4), (2, .slice a5 n5 c5), (3, .pointer (some ⟨b6, 0, none⟩)), (7, .slice as10_0 ns10_0 cs10_0), (8, .int .i64 s10.2), (9, .int .i64 q17)] ∧ Gle G15 G ∧ Since w0.heap.size G0 w0 G w ∧ Owns G w w0.heap.size [⟨3, 1, ns10_0, .slice as10_0 ns10_0 cs10_0, clas10_0⟩]) ?_ ?_
    ·have Hoq17 := H; have H := hq17; refine WC_seq ?_; refine WC_region ?_; refine WL_val (rn_fld fd46_1 rfl) rfl ?_; refine WL_val (rn_load na25 rfl ((hS.sat.le leG15).cell (hcb6 1 _ rfl))) rfl ?_; refine WL_val (rn_move (v := (.int .i64 s10.2)) rfl) rfl ?_; obtain ⟨y18, hy18, H⟩ := bnd H
     have l0_2 := leG8.trans leG15
     refine WL_op rfl (OpP_callV cb38 (f38_ok (x0 := x0.Infested) (x1 := s10.2) hS.sat (h1.mono RInt_mono l0_2) hy18) rfl rfl (fun w19 hb => ?_)); have hS := hS.keep hb; have hO := hO.below hb; refine WL_nil ?_; refine WC_cond rfl (fun hb20 => ?_) (fun hb20 => ?_)
     ·have H := ifT hb20 H; refine WC_region ?_; refine WL_val (rn_assign (v := (.int .i64 0)) rfl) rfl ?_; refine WL_nil ?_
      have hO : Owns G15 w19 w0.heap.size ([⟨3, 1, ns10_0, .slice as10_0 ns10_0 cs10_0, clas10_0⟩]) := hO
      have H := Option.some.inj H; subst H
      exact ⟨_, G15, upds_self _ _ ⟨rfl, rfl, rfl, rfl, rfl, rfl, trivial⟩, Gle.refl _, hS, hO⟩
     ·have H := ifF hb20 H; refine WC_skip ?_
      have hO : Owns G15 w19 w0.heap.size ([⟨3, 1, ns10_0, .slice as10_0 ns10_0 cs10_0, clas10_0⟩]) := hO
      have H := Option.some.inj H; subst H
      exact ⟨_, G15, upds_self _ _ ⟨rfl, rfl, rfl, rfl, rfl, rfl, trivial⟩, Gle.refl _, hS, hO⟩
    ·rintro F w21 ⟨Fb, G22, rfl, leG22, hS, hO⟩
     refine WC_region ?_; refine WL_val (rn_move (v := (.slice as10_0 ns10_0 cs10_0)) rfl) rfl ?_; refine WL_val (rn_move (v := (.int .i64 q17)) rfl) rfl ?_
     refine WL_op rfl (OpP_newF (v := fun b => .slice (some ⟨b, 0, none⟩) 1 1) (cs := [.int .i64 q17]) (e := 3) (by kernel_rfl) hS.sat rfl (fun b23 G25 w24 hg hcb23 => ?_))
     have hS := hS.grow hg; have hO := hO.grow hg
     have leG25 := hg.le
     have hfb23 : RSl RInt 1 G25 (some ⟨b23, 0, none⟩) 1 1 [q17] := RSl.of_rd hcb23 (Rd.cons (c := [.int .i64 q17]) rfl rfl (Rd.nil RInt 1 _)) rfl (by decide)
     obtain ⟨y26, hy26, H⟩ := bnd H
     have l2_4 := leG22.trans leG25
     refine WL_op rfl (OpP_append (k := 0) sl25 RInt_one hS hO rfl hnhs10_0 (hs10_0.mono RInt_mono l2_4) hfb23 hy26 rfl rfl rfl rfl rfl (fun aw27 cw27 w27 clw27 hS hO hrw27 => ?_))
     have hO : Owns G25 w27 w0.heap.size ([⟨3, 1, y26.length, .slice aw27 y26.length cw27, clw27⟩]) := hO
     refine WL_val (rn_assign (v := (.slice aw27 y26.length cw27)) rfl) rfl ?_; refine WL_nil ?_; refine WC_region ?_; refine WL_val (rn_move (v := (.int .i64 s10.2)) rfl) rfl ?_; refine WL_val (rn_add rfl rfl) rfl ?_; refine WL_val (rn_assign (v := (.int .i64 (IntKind.i64.wrap (s10.2 + 1)))) rfl) rfl ?_; refine WL_nil ?_
     have hO : Owns G25 w27 w0.heap.size ([⟨3, 1, y26.length, .slice aw27 y26.length cw27, clw27⟩]) := hO
     have H := Option.some.inj H; subst H; refine ⟨_, rfl, ?_⟩
     have l1_4 := leG15.trans l2_4
     exact ⟨_, G25, aw27, y26.length, cw27, clw27, upds_self _ _ ⟨rfl, rfl, rfl, rfl, rfl, trivial⟩, l1_4, hS, hO, rfl, hrw27⟩
   ·have H := ifF hb16 H; refine WC_exit rfl ?_
    have hO : Owns G15 w14 w0.heap.size ([⟨3, 1, ns10_0, .slice as10_0 ns10_0 cs10_0, clas10_0⟩]) := hO
    have H := Option.some.inj H; subst H
    have hres := hqq12 _ rfl
    subst hres
    exact ⟨_, G15, as10_0, ns10_0, cs10_0, clas10_0, upds_self _ _ ⟨rfl, rfl, rfl, rfl, trivial⟩, leG15, hS, hO, hnhs10_0, hs10_0⟩
 ·rintro F w28 ⟨Fb, G29, aq12_0, nq12_0, cq12_0, claq12_0, rfl, leG29, hS, hO, hnhq12_0, hq12_0⟩
  refine WC_seq ?_; refine WC_seq ?_; refine WC_region ?_; refine WL_val (rn_assign (v := (.int .i64 0)) rfl) rfl ?_; refine WL_nil ?_; obtain ⟨q32, hq32, H⟩ := bnd H; refine WC_cut (fun F w => ∃ (Fb : Fr) (G : Gm) (aq32_0 : Option Addr) (nq32_0 cq32_0 : Nat) (claq32_0 : List Value), F = upds Fb [(7, .slice aq32_0 nq32_0 cq32_0)] ∧ Gle G29 G ∧ Since w0.heap.size G0 w0 G w ∧ Owns G w w0.heap.size [⟨3, 1, nq32_0, .slice aq32_0 nq32_0 cq32_0, claq32_0⟩] ∧ nq32_0 = q32.length ∧ Rd RInt 1 G claq32_0 q32) ?_ ?_
  ·refine WC_block (WC_loop hq32 (fun s30 F w => ∃ (Fb : Fr) (G : Gm) (as30_0 : Option Addr) (ns30_0 cs30_0 : Nat) (clas30_0 : List Value), F = upds Fb [(1, .slice a4 n4 c4), (2, .slice a5 n5 c5), (3, .pointer (some ⟨b6, 0, none⟩)), (7, .slice as30_0 ns30_0 cs30_0), (10, .int .i64 s30.2)] ∧ Gle G29 G ∧ Since w0.heap.size G0 w0 G w ∧ Owns G w w0.heap.size [⟨3, 1, ns30_0, .slice as30_0 ns30_0 cs30_0, clas30_0⟩] ∧ ns30_0 = s30.1.length ∧ Rd RInt 1 G clas30_0 s30.1) ?_ ?_)
   ·have hO : Owns G29 w28 w0.heap.size ([⟨3, 1, nq12_0, .slice aq12_0 nq12_0 cq12_0, claq12_0⟩]) := hO
    exact ⟨_, G29, aq12_0, nq12_0, cq12_0, claq12_0, upds_self _ _ ⟨rfl, rfl, rfl, rfl, rfl, trivial⟩, Gle.refl _, hS, hO, hnhq12_0, hq12_0⟩
   ·rintro s30 F w34 t33 ⟨Fb, G35, as30_0, ns30_0, cs30_0, clas30_0, rfl, leG35, hS, hO, hnhs30_0, hs30_0⟩
    intro H1 hqq32
    have Hoq32 := H; have H := H1
    unfold f57_b1 at H
    refine WC_seq ?_; refine WC_seq ?_; refine WC_region ?_; refine WL_val (rn_move (v := (.int .i64 s30.2)) rfl) rfl ?_; refine WL_val (rn_fld fd46_0 rfl) rfl ?_
    have l1_3 := leG29.trans leG35
    refine WL_val (rn_load na3 rfl ((hS.sat.le l1_3).cell (hcb6 0 _ rfl))) rfl ?_; refine WL_val (rn_leq rfl rfl) rfl ?_; refine WL_nil ?_; refine WC_cond rfl (fun hb36 => ?_) (fun hb36 => ?_)
    ·have H := ifT hb36 H; refine WC_skip ?_; refine WC_seq ?_; refine WC_block ?_; refine WC_seq ?_; refine WC_region ?_; refine WL_val (rn_assign (v := (.int .i64 0)) rfl) rfl ?_; refine WL_nil ?_; obtain ⟨q39, hq39, H⟩ := bnd H; refine WC_cut (fun F w => ∃ (Fb : Fr) (G : Gm) (aq39_0 : Option Addr) (nq39_0 cq39_0 : Nat) (claq39_0 : List Value), F = upds Fb [(1, .slice a4 n4 c4), (2, .slice a5 n5 c5), (3, .pointer (some ⟨b6, 0, none⟩)), (7, .slice aq39_0 nq39_0 cq39_0), (10, .int .i64 s30.2)] ∧ Gle G35 G ∧ Since w0.heap.size G0 w0 G w ∧ Owns G w w0.heap.size [⟨3, 1, nq39_0, .slice aq39_0 nq39_0 cq39_0, claq39_0⟩] ∧ nq39_0 = q39.length ∧ Rd RInt 1 G claq39_0 q39) ?_ ?_
     ·refine WC_block (WC_loop hq39 (fun s37 F w => ∃ (Fb : Fr) (G : Gm) (as37_0 : Option Addr) (ns37_0 cs37_0 : Nat) (clas37_0 : List Value), F = upds Fb [(1, .slice a4 n4 c4), (2, .slice a5 n5 c5), (3, .pointer (some ⟨b6, 0, none⟩)), (7, .slice as37_0 ns37_0 cs37_0), (10, .int .i64 s30.2), (11, .int .i64 s37.2)] ∧ Gle G35 G ∧ Since w0.heap.size G0 w0 G w ∧ Owns G w w0.heap.size [⟨3, 1, ns37_0, .slice as37_0 ns37_0 cs37_0, clas37_0⟩] ∧ ns37_0 = s37.1.length ∧ Rd RInt 1 G clas37_0 s37.1) ?_ ?_)
      ·have hO : Owns G35 w34 w0.heap.size ([⟨3, 1, ns30_0, .slice as30_0 ns30_0 cs30_0, clas30_0⟩]) := hO
       exact ⟨_, G35, as30_0, ns30_0, cs30_0, clas30_0, upds_self _ _ ⟨rfl, rfl, rfl, rfl, rfl, rfl, trivial⟩, Gle.refl _, hS, hO, hnhs30_0, hs30_0⟩
      ·rintro s37 F w41 t40 ⟨Fb, G42, as37_0, ns37_0, cs37_0, clas37_0, rfl, leG42, hS, hO, hnhs37_0, hs37_0⟩
       intro H1 hqq39
       have Hoq39 := H; have H := H1
       unfold f57_b2 at H
       refine WC_seq ?_; refine WC_seq ?_; refine WC_region ?_; refine WL_val (rn_move (v := (.int .i64 s37.2)) rfl) rfl ?_; refine WL_val (rn_fld fd46_3 rfl) rfl ?_
       have l1_4 := l1_3.trans leG42
       refine WL_val (rn_load na44 rfl ((hS.sat.le l1_4).cell (hcb6 3 _ rfl))) rfl ?_
       have l0_4 := leG8.trans l1_4
       refine WL_val (rn_len sl44 rfl rfl (h3.mono RTBaneTrip_mono l0_4).1) rfl ?_; refine WL_val (rn_lss rfl rfl) rfl ?_; refine WL_nil ?_; refine WC_cond rfl (fun hb43 => ?_) (fun hb43 => ?_)
       ·have H := ifT hb43 H; refine WC_skip ?_; refine WC_seq ?_; obtain ⟨q44, hq44, H⟩ := bnd H; refine WC_cut (fun F w => ∃ (Fb : Fr) (G : Gm) (aq44_0 : Option Addr) (nq44_0 cq44_0 : Nat) (claq44_0 : List Value), F = upds Fb [(1, .slice a4 n4 c4), (2, .slice a5 n5 c5), (3, .pointer (some ⟨b6, 0, none⟩)), (7, .slice aq44_0 nq44_0 cq44_0), (10, .int .i64 s30.2), (11, .int .i64 s37.2)] ∧ Gle G42 G ∧ Since w0.heap.size G0 w0 G w ∧ Owns G w w0.heap.size [⟨3, 1, nq44_0, .slice aq44_0 nq44_0 cq44_0, claq44_0⟩] ∧ nq44_0 = q44.length ∧ Rd RInt 1 G claq44_0 q44) ?_ ?_
        ·have Hoq44 := H; have H := hq44; refine WC_block ?_; refine WC_seq ?_; refine WC_region ?_; refine WL_val (rn_fld fd46_3 rfl) rfl ?_; refine WL_val (rn_load na44 rfl ((hS.sat.le l1_4).cell (hcb6 3 _ rfl))) rfl ?_; refine WL_val (rn_move (v := (.int .i64 s37.2)) rfl) rfl ?_; obtain ⟨y45, hy45, H⟩ := bnd H; refine WL_idx sl44 (h3.mono RTBaneTrip_mono l0_4) hy45 rfl rfl rfl ?_
         rintro b46 o46 _ hcb46 _ ⟨⟩
         refine WL_val (rn_loadA ag109 (cs := [.int .i64 y45.Day, .int .i64 y45.From, .int .i64 y45.To, .int .i64 y45.Cost]) rfl rfl (fun j v hj => hS.sat.cell (hcb46.drop_take 0 4 j v hj))) rfl ?_
         refine WL_op rfl (OpP_newO (v := fun b => .pointer (some ⟨b, 0, none⟩)) (cs := [.int .i64 0, .int .i64 0, .int .i64 0, .int .i64 0]) (e := 109) (by kernel_rfl) hS.sat hO rfl 4 1 rfl (by decide) (fun b47 w48 hb hO => ?_))
         have hS := hS.keep hb; refine WL_op rfl (OpP_store (vs := [.int .i64 y45.Day, .int .i64 y45.From, .int .i64 y45.To, .int .i64 y45.Cost]) sz109 hS hO (k := 0) rfl rfl rfl rfl rfl (one_all rfl) (Nat.le_of_ble_eq_true rfl) (fun w50 hS hO => ?_))
         have hO : Owns G42 w50 w0.heap.size ([⟨109, 4, 1, .slice (some ⟨b47, 0, none⟩) 1 1, [.int .i64 y45.Day, .int .i64 y45.From, .int .i64 y45.To, .int .i64 y45.Cost]⟩, ⟨3, 1, ns37_0, .slice as37_0 ns37_0 cs37_0, clas37_0⟩]) := hO
         obtain ⟨G51, leG51, hS, hO, hqG51, _⟩ := hO.freeze hS (k := 0) rfl
         have hcG51 : Cells G51 b47 0 [.int .i64 y45.Day, .int .i64 y45.From, .int .i64 y45.To, .int .i64 y45.Cost] := (hqG51 _ _ _ _ rfl)
         refine WL_nil ?_; refine WC_seq ?_; refine WC_seq ?_; obtain ⟨q52, hq52, H⟩ := bnd H; refine WC_cut (fun F w => ∃ (Fb : Fr) (G : Gm), F = upds Fb [(1, .slice a4 n4 c4), (2, .slice a5 n5 c5), (3, .pointer (some ⟨b6, 0, none⟩)), (7, .slice as37_0 ns37_0 cs37_0), (10, .int .i64 s30.2), (11, .int .i64 s37.2), (12, .pointer (some ⟨b47, 0, none⟩)), (55, .bool q52)] ∧ Gle G51 G ∧ Since w0.heap.size G0 w0 G w ∧ Owns G w w0.heap.size [⟨3, 1, ns37_0, .slice as37_0 ns37_0 cs37_0, clas37_0⟩]) ?_ ?_
         ·have Hoq52 := H; have H := hq52; refine WC_region ?_; refine WL_val (rn_move (v := (.slice a4 n4 c4)) rfl) rfl ?_; refine WL_val (rn_move (v := (.int .i64 s37.2)) rfl) rfl ?_; obtain ⟨y53, hy53, H⟩ := bnd H
          have l0_5 := l0_4.trans leG51
          refine WL_op rfl (OpP_callV cb38 (f38_ok (x0 := x1) (x1 := s37.2) hS.sat (h4.mono RInt_mono l0_5) hy53) rfl rfl (fun w54 hb => ?_)); have hS := hS.keep hb; have hO := hO.below hb; refine WL_val (rn_move (v := (.bool y53)) rfl) rfl ?_
          rcases bcases y53 with hb55 | hb55
          ·have H := ifT hb55 H; refine WL_guardN rfl hb55 rfl rfl rfl ?_; refine WL_guardN rfl hb55 rfl rfl rfl ?_; refine WL_guardN rfl hb55 rfl rfl rfl ?_; refine WL_guardN rfl hb55 rfl rfl rfl ?_; refine WL_guardN rfl hb55 rfl rfl rfl ?_; refine WL_val (rn_pickT (v := (.bool true)) rfl hb55 rfl) rfl ?_; refine WL_nil ?_
           have hO : Owns G51 w54 w0.heap.size ([⟨3, 1, ns37_0, .slice as37_0 ns37_0 cs37_0, clas37_0⟩]) := hO
           have H := Option.some.inj H; subst H
           exact ⟨_, G51, upds_self _ _ ⟨rfl, rfl, rfl, rfl, rfl, rfl, rfl, rfl, trivial⟩, Gle.refl _, hS, hO⟩
          ·have H := ifF hb55 H; refine WL_guardY rfl hb55 rfl rfl ?_; refine WL_val (rn_move (v := (.slice a5 n5 c5)) rfl) rfl ?_; refine WL_guardY rfl hb55 rfl rfl ?_; refine WL_val (rn_move (v := (.int .i64 s37.2)) rfl) rfl ?_; refine WL_guardY rfl hb55 rfl rfl ?_; obtain ⟨y56, hy56, H⟩ := bnd H; refine WL_idx sl79 (h5.mono RBool_mono l0_5) hy56 rfl rfl rfl ?_
           rintro b57 o57 _ hcb57 _ ⟨⟩
           refine WL_guardY rfl hb55 rfl rfl ?_; refine WL_val (rn_load na4 rfl (hS.sat.cell (hcb57 0 _ rfl))) rfl ?_; refine WL_guardY rfl hb55 rfl rfl ?_; refine WL_val (rn_not rfl) rfl ?_; refine WL_val (rn_pickF (v := (.bool (!y56))) rfl hb55 rfl) rfl ?_; refine WL_nil ?_
           have hO : Owns G51 w54 w0.heap.size ([⟨3, 1, ns37_0, .slice as37_0 ns37_0 cs37_0, clas37_0⟩]) := hO
           have H := Option.some.inj H; subst H
           exact ⟨_, G51, upds_self _ _ ⟨rfl, rfl, rfl, rfl, rfl, rfl, rfl, rfl, trivial⟩, Gle.refl _, hS, hO⟩
         ·rintro F w58 ⟨Fb, G59, rfl, leG59, hS, hO⟩
          refine WC_cond rfl (fun hb60 => ?_) (fun hb60 => ?_)
          ·have H := ifT hb60 H; refine WC_exit rfl ?_
           have hO : Owns G59 w58 w0.heap.size ([⟨3, 1, ns37_0, .slice as37_0 ns37_0 cs37_0, clas37_0⟩]) := hO
           have H := Option.some.inj H; subst H
           have l4_6 := leG51.trans leG59
           exact ⟨_, G59, as37_0, ns37_0, cs37_0, clas37_0, upds_self _ _ ⟨rfl, rfl, rfl, rfl, rfl, rfl, trivial⟩, l4_6, hS, hO, hnhs37_0, (hs37_0.mono RInt_mono l4_6)⟩
          ·have H := ifF hb60 H; refine WC_skip ?_; refine WC_seq ?_; have hS := hS.keep (below_drew _); have hO := hO.below (below_drew _)
           refine WC_regionD mixedO (fun w => Sat G59 w ∧ Owns G59 w w0.heap.size [⟨3, 1, ns37_0, .slice as37_0 ns37_0 cs37_0, clas37_0⟩]) (.fl 0 (.fl 1 (.fl 2 (.fl 3 (.fl 4 (.fl 5 (.fl 6 (.fl 7 (.on 8 (.on 9 (.on 10 (.on 11 .nil)))))))))))) (by kernel_rfl) rfl (by kernel_rfl) ⟨hS.sat, hO⟩ ?_
           refine WD_val rfl (fun w hw => rn_move (v := (.slice as37_0 ns37_0 cs37_0)) rfl) rfl ?_; refine WD_val rfl (fun w hw => rn_fld fd109_1 rfl) rfl ?_; refine WD_val rfl (fun w hw => rn_load na3 rfl ((hw.1.le leG59).cell (hcG51 1 _ rfl))) rfl ?_; obtain ⟨y61, hy61, H⟩ := bnd H
           have l4_6 := leG51.trans leG59
           refine WD_idxO rfl sl25 hO (k := 0) rfl hnhs37_0 (hs37_0.mono RInt_mono l4_6) hy61 rfl rfl rfl ?_
           rintro b62 ob62 _ hb62 _ hcb62 ⟨⟩
           refine WD_val rfl (fun w hw => rn_load na3 rfl (own_cellB hw.2 (k := 0) rfl hb62 _ 0 (hcb62 0 _ rfl))) rfl ?_; refine WD_val rfl (fun w hw => rn_fld fd46_4 rfl) rfl ?_; refine WD_val rfl (fun w hw => rn_load na3 rfl ((hw.1.le (l1_4.trans l4_6)).cell (hcb6 4 _ rfl))) rfl ?_; refine WD_val rfl (fun w hw => rn_add rfl rfl) rfl ?_; refine WD_op rfl rfl (OpP_val (rn_fld fd109_0 rfl) rfl ?_); refine ⟨fun _ => ⟨hS.sat, hO⟩, ?_⟩; refine WD_op rfl rfl (OpP_val (rn_load na3 rfl ((hS.sat.le leG59).cell (hcG51 0 _ rfl))) rfl ?_); refine ⟨fun _ => ⟨hS.sat, hO⟩, ?_⟩; refine WD_op rfl rfl (OpP_val (rn_leq rfl rfl) rfl ?_)
           refine ⟨fun h => nomore (by kernel_rfl) h, ?_⟩
           refine WD_op rfl rfl (OpP_val (rn_assign (v := (.bool (decide ((IntKind.i64.wrap (y61 + x0.Wait)) ≤ y45.Day)))) rfl) rfl ?_)
           refine ⟨fun h => nomore (by kernel_rfl) h, ?_⟩
           refine WD_nil ?_; refine WC_seq ?_; obtain ⟨q63, hq63, H⟩ := bnd H; refine WC_cut (fun F w => ∃ (Fb : Fr) (G : Gm), F = upds Fb [(1, .slice a4 n4 c4), (2, .slice a5 n5 c5), (3, .pointer (some ⟨b6, 0, none⟩)), (7, .slice as37_0 ns37_0 cs37_0), (10, .int .i64 s30.2), (11, .int .i64 s37.2), (12, .pointer (some ⟨b47, 0, none⟩)), (13, .bool q63)] ∧ Gle G59 G ∧ Since w0.heap.size G0 w0 G w ∧ Owns G w w0.heap.size [⟨3, 1, ns37_0, .slice as37_0 ns37_0 cs37_0, clas37_0⟩]) ?_ ?_
           ·have Hoq63 := H; have H := hq63; refine WC_seq ?_; refine WC_region ?_; refine WL_val (rn_fld fd46_1 rfl) rfl ?_
            have l1_6 := l1_4.trans l4_6
            refine WL_val (rn_load na25 rfl ((hS.sat.le l1_6).cell (hcb6 1 _ rfl))) rfl ?_; refine WL_val (rn_fld fd109_1 rfl) rfl ?_; refine WL_val (rn_load na3 rfl ((hS.sat.le leG59).cell (hcG51 1 _ rfl))) rfl ?_; obtain ⟨y64, hy64, H⟩ := bnd H
            have l0_6 := l0_4.trans l4_6
            refine WL_op rfl (OpP_callV cb38 (f38_ok (x0 := x0.Infested) (x1 := y45.From) hS.sat (h1.mono RInt_mono l0_6) hy64) rfl rfl (fun w65 hb => ?_)); have hS := hS.keep hb; have hO := hO.below hb; refine WL_nil ?_; refine WC_cond rfl (fun hb66 => ?_) (fun hb66 => ?_)
            ·have H := ifT hb66 H; refine WC_region ?_; refine WL_val (rn_assign (v := (.bool true)) rfl) rfl ?_; refine WL_nil ?_
             have hO : Owns G59 w65 w0.heap.size ([⟨3, 1, ns37_0, .slice as37_0 ns37_0 cs37_0, clas37_0⟩]) := hO
             have H := Option.some.inj H; subst H
             exact ⟨_, G59, upds_self _ _ ⟨rfl, rfl, rfl, rfl, rfl, rfl, rfl, rfl, trivial⟩, Gle.refl _, hS, hO⟩
            ·have H := ifF hb66 H; refine WC_skip ?_
             have hO : Owns G59 w65 w0.heap.size ([⟨3, 1, ns37_0, .slice as37_0 ns37_0 cs37_0, clas37_0⟩]) := hO
             have H := Option.some.inj H; subst H
             exact ⟨_, G59, upds_self _ _ ⟨rfl, rfl, rfl, rfl, rfl, rfl, rfl, rfl, trivial⟩, Gle.refl _, hS, hO⟩
           ·rintro F w67 ⟨Fb, G68, rfl, leG68, hS, hO⟩
            refine WC_seq ?_; refine WC_region ?_; refine WL_val (rn_move (v := (.bool q63)) rfl) rfl ?_; refine WL_nil ?_; refine WC_cond rfl (fun hb69 => ?_) (fun hb69 => ?_)
            ·have H := ifT hb69 H; have hS := hS.keep (below_drew _); have hO := hO.below (below_drew _)
             refine WC_regionD mixedO (fun w => Sat G68 w ∧ Owns G68 w w0.heap.size [⟨3, 1, ns37_0, .slice as37_0 ns37_0 cs37_0, clas37_0⟩]) (.fl 0 (.fl 1 (.fl 2 (.fl 3 (.fl 4 (.fl 5 (.fl 6 (.fl 7 (.on 8 (.on 9 (.on 10 (.on 11 (.on 12 .nil))))))))))))) (by kernel_rfl) rfl (by kernel_rfl) ⟨hS.sat, hO⟩ ?_
             refine WD_val rfl (fun w hw => rn_move (v := (.slice as37_0 ns37_0 cs37_0)) rfl) rfl ?_; refine WD_val rfl (fun w hw => rn_fld fd109_2 rfl) rfl ?_; refine WD_val rfl (fun w hw => rn_load na3 rfl ((hw.1.le (leG59.trans leG68)).cell (hcG51 2 _ rfl))) rfl ?_; refine WD_val rfl (fun w hw => rn_move (v := (.slice as37_0 ns37_0 cs37_0)) rfl) rfl ?_; refine WD_val rfl (fun w hw => rn_fld fd109_2 rfl) rfl ?_; refine WD_val rfl (fun w hw => rn_load na3 rfl ((hw.1.le (leG59.trans leG68)).cell (hcG51 2 _ rfl))) rfl ?_; obtain ⟨y70, hy70, H⟩ := bnd H
             have l4_7 := l4_6.trans leG68
             refine WD_idxO rfl sl25 hO (k := 0) rfl hnhs37_0 (hs37_0.mono RInt_mono l4_7) hy70 rfl rfl rfl ?_
             rintro b71 ob71 _ hb71 _ hcb71 ⟨⟩
             refine WD_val rfl (fun w hw => rn_load na3 rfl (own_cellB hw.2 (k := 0) rfl hb71 _ 0 (hcb71 0 _ rfl))) rfl ?_; refine WD_op rfl rfl (OpP_val (rn_fld fd109_0 rfl) rfl ?_); refine ⟨fun _ => ⟨hS.sat, hO⟩, ?_⟩
             have l5_7 := leG59.trans leG68
             refine WD_op rfl rfl (OpP_val (rn_load na3 rfl ((hS.sat.le l5_7).cell (hcG51 0 _ rfl))) rfl ?_); refine ⟨fun _ => ⟨hS.sat, hO⟩, ?_⟩; refine WD_op rfl rfl (OpP_val (rn_min rfl rfl) rfl ?_); refine ⟨fun _ => ⟨hS.sat, hO⟩, ?_⟩; refine WD_op rfl rfl (OpP_idxO sl25 hO (k := 0) rfl hnhs37_0 (hs37_0.mono RInt_mono l4_7) hy70 rfl rfl rfl ?_)
             rintro b72 ob72 _ hb72 _ hcb72 ⟨⟩
             refine ⟨fun h => nomore (by kernel_rfl) h, ?_⟩
             obtain ⟨y73, hy73, H⟩ := bnd H; refine WD_op rfl rfl (OpP_storeE (vs := [.int .i64 (if y45.Day < y70 then y45.Day else y70)]) (cs := [.int .i64 y70]) (j := 0) (y := if y45.Day < y70 then y45.Day else y70) sz3 hS hO (k := 0) rfl hnhs37_0 rfl (hs37_0.mono RInt_mono l4_7) hb72 rfl hcb72 hy73 rfl rfl rfl rfl rfl (one_all rfl) (Nat.le_of_ble_eq_true rfl) (fun w74 clw74 hS hO hrw74 => ?_))
             have hO : Owns G68 w74 w0.heap.size ([⟨3, 1, ns37_0, .slice as37_0 ns37_0 cs37_0, clw74⟩]) := hO
             refine ⟨fun h => nomore (by kernel_rfl) h, ?_⟩
             refine WD_nil ?_
             have hO : Owns G68 w74 w0.heap.size ([⟨3, 1, ns37_0, .slice as37_0 ns37_0 cs37_0, clw74⟩]) := hO
             have H := Option.some.inj H; subst H
             exact ⟨_, G68, as37_0, ns37_0, cs37_0, clw74, upds_self _ _ ⟨rfl, rfl, rfl, rfl, rfl, rfl, trivial⟩, l4_7, hS, hO, (Eq.trans hnhs37_0 (setIx_len hy73)), hrw74⟩
            ·have H := ifF hb69 H; refine WC_skip ?_
             have hO : Owns G68 w67 w0.heap.size ([⟨3, 1, ns37_0, .slice as37_0 ns37_0 cs37_0, clas37_0⟩]) := hO
             have H := Option.some.inj H; subst H
             have l4_7 := l4_6.trans leG68
             exact ⟨_, G68, as37_0, ns37_0, cs37_0, clas37_0, upds_self _ _ ⟨rfl, rfl, rfl, rfl, rfl, rfl, trivial⟩, l4_7, hS, hO, hnhs37_0, (hs37_0.mono RInt_mono l4_7)⟩
        ·rintro F w75 ⟨Fb, G76, aq44_0, nq44_0, cq44_0, claq44_0, rfl, leG76, hS, hO, hnhq44_0, hq44_0⟩
         refine WC_region ?_; refine WL_val (rn_move (v := (.int .i64 s37.2)) rfl) rfl ?_; refine WL_val (rn_add rfl rfl) rfl ?_; refine WL_val (rn_assign (v := (.int .i64 (IntKind.i64.wrap (s37.2 + 1)))) rfl) rfl ?_; refine WL_nil ?_
         have hO : Owns G76 w75 w0.heap.size ([⟨3, 1, nq44_0, .slice aq44_0 nq44_0 cq44_0, claq44_0⟩]) := hO
         have H := Option.some.inj H; subst H; refine ⟨_, rfl, ?_⟩
         have l3_5 := leG42.trans leG76
         exact ⟨_, G76, aq44_0, nq44_0, cq44_0, claq44_0, upds_self _ _ ⟨rfl, rfl, rfl, rfl, rfl, rfl, trivial⟩, l3_5, hS, hO, hnhq44_0, hq44_0⟩
       ·have H := ifF hb43 H; refine WC_exit rfl ?_
        have hO : Owns G42 w41 w0.heap.size ([⟨3, 1, ns37_0, .slice as37_0 ns37_0 cs37_0, clas37_0⟩]) := hO
        have H := Option.some.inj H; subst H
        have hres := hqq39 _ rfl
        subst hres
        exact ⟨_, G42, as37_0, ns37_0, cs37_0, clas37_0, upds_self _ _ ⟨rfl, rfl, rfl, rfl, rfl, trivial⟩, leG42, hS, hO, hnhs37_0, hs37_0⟩
     ·rintro F w77 ⟨Fb, G78, aq39_0, nq39_0, cq39_0, claq39_0, rfl, leG78, hS, hO, hnhq39_0, hq39_0⟩
      refine WC_region ?_; refine WL_val (rn_move (v := (.int .i64 s30.2)) rfl) rfl ?_; refine WL_val (rn_add rfl rfl) rfl ?_; refine WL_val (rn_assign (v := (.int .i64 (IntKind.i64.wrap (s30.2 + 1)))) rfl) rfl ?_; refine WL_nil ?_
      have hO : Owns G78 w77 w0.heap.size ([⟨3, 1, nq39_0, .slice aq39_0 nq39_0 cq39_0, claq39_0⟩]) := hO
      have H := Option.some.inj H; subst H; refine ⟨_, rfl, ?_⟩
      have l2_4 := leG35.trans leG78
      exact ⟨_, G78, aq39_0, nq39_0, cq39_0, claq39_0, upds_self _ _ ⟨rfl, rfl, rfl, rfl, rfl, trivial⟩, l2_4, hS, hO, hnhq39_0, hq39_0⟩
    ·have H := ifF hb36 H; refine WC_exit rfl ?_
     have hO : Owns G35 w34 w0.heap.size ([⟨3, 1, ns30_0, .slice as30_0 ns30_0 cs30_0, clas30_0⟩]) := hO
     have H := Option.some.inj H; subst H
     have hres := hqq32 _ rfl
     subst hres
     exact ⟨_, G35, as30_0, ns30_0, cs30_0, clas30_0, upds_self _ _ ⟨rfl, trivial⟩, leG35, hS, hO, hnhs30_0, hs30_0⟩
  ·rintro F w79 ⟨Fb, G80, aq32_0, nq32_0, cq32_0, claq32_0, rfl, leG80, hS, hO, hnhq32_0, hq32_0⟩
   refine WC_seq ?_; refine WC_region ?_; refine WL_val (rn_move (v := (.slice aq32_0 nq32_0 cq32_0)) rfl) rfl ?_; refine WL_val (rn_assign (v := (.slice aq32_0 nq32_0 cq32_0)) rfl) rfl ?_; refine WL_nil ?_; refine WC_ret ?_; obtain ⟨G81, leG81, hS, hO, hfG81⟩ := hO.freezeS hS RInt_mono (k := 0) rfl hq32_0 hnhq32_0
   have H : some q32 = some r := H
   have H := Option.some.inj H; subst H
   exact ⟨_, _, rfl, hS.toGrow, _, _, _, rfl, hfG81⟩
set_option maxHeartbeats 1000000 in
theorem f93_ok {G0 : Gm} {w0 : World} (hS0 : Sat G0 w0) {x0 : TBaneSea} {a1 : Option Addr} {n1 c1 : Nat} {a2 : Option Addr} {n2 c2 : Nat} {a3 : Option Addr} {n3 c3 : Nat} (h1 : RSl RInt 1 G0 a1 n1 c1 x0.Infested) (h2 : RSl RInt 1 G0 a2 n2 c2 x0.Clean) (h3 : RSl RTBaneTrip 4 G0 a3 n3 c3 x0.Trips) {r : (List Bool)} (H : f93 x0 = some r) :
  Calls Try.prog 93 #[.agg #[.int .i64 x0.Islets, .slice a1 n1 c1, .slice a2 n2 c2, .slice a3 n3 c3, .int .i64 x0.Wait]] w0 (RetG G0 w0 (fun G v => ∃ (ra0 : Option Addr) (rn0 rc0 : Nat), v = .slice ra0 rn0 rc0 ∧ RSl RBool 1 G ra0 rn0 rc0 r)) := by
 have hS := Since.start hS0
 have hO : Owns G0 w0 w0.heap.size [] := Owns.nil (Nat.le_refl _)
 unfold f93 at H
 refine enter1 (N := 16) (shutG _ _ _) Try.func93 rfl rfl rfl rfl ?_; refine WC_seq ?_; refine WC_region ?_; refine WL_op rfl (OpP_newF (v := fun b => .pointer (some ⟨b, 0, none⟩)) (cs := [.int .i64 x0.Islets, .slice a1 n1 c1, .slice a2 n2 c2, .slice a3 n3 c3, .int .i64 x0.Wait]) (e := 46) (rn_boxA rfl) hS.sat rfl (fun b4 G6 w5 hg hcb4 => ?_)); have hS := hS.grow hg; have hO := hO.grow hg
 have leG6 := hg.le
 refine WL_val (rn_assign (v := (.slice none 0 0)) rfl) rfl ?_; refine WL_nil ?_; refine WC_seq ?_; refine WC_region ?_; refine WL_val (rn_assign (v := (.slice none 0 0)) rfl) rfl ?_; refine WL_nil ?_; refine WC_seq ?_; refine WC_seq ?_; refine WC_region ?_; refine WL_val (rn_assign (v := (.int .i64 0)) rfl) rfl ?_; refine WL_nil ?_; have hO := hO.cons_nil 4 1; obtain ⟨q10, hq10, H⟩ := bnd H; refine WC_cut (fun F w => ∃ (Fb : Fr) (G : Gm) (aq10_0 : Option Addr) (nq10_0 cq10_0 : Nat) (claq10_0 : List Value), F = upds Fb [(3, .slice aq10_0 nq10_0 cq10_0)] ∧ Gle G6 G ∧ Since w0.heap.size G0 w0 G w ∧ Owns G w w0.heap.size [⟨4, 1, nq10_0, .slice aq10_0 nq10_0 cq10_0, claq10_0⟩] ∧ nq10_0 = q10.length ∧ Rd RBool 1 G claq10_0 q10) ?_ ?_
 ·refine WC_block (WC_loop hq10 (fun s8 F w => ∃ (Fb : Fr) (G : Gm) (as8_0 : Option Addr) (ns8_0 cs8_0 : Nat) (clas8_0 : List Value), F = upds Fb [(1, .pointer (some ⟨b4, 0, none⟩)), (3, .slice as8_0 ns8_0 cs8_0), (4, .int .i64 s8.2)] ∧ Gle G6 G ∧ Since w0.heap.size G0 w0 G w ∧ Owns G w w0.heap.size [⟨4, 1, ns8_0, .slice as8_0 ns8_0 cs8_0, clas8_0⟩] ∧ ns8_0 = s8.1.length ∧ Rd RBool 1 G clas8_0 s8.1) ?_ ?_)
  ·have hO : Owns G6 w5 w0.heap.size ([⟨4, 1, 0, .slice none 0 0, []⟩]) := hO
   exact ⟨_, G6, none, 0, 0, [], upds_self _ _ ⟨rfl, rfl, rfl, trivial⟩, Gle.refl _, hS, hO, rfl, (Rd.nil RBool 1 G6)⟩
  ·rintro s8 F w12 t11 ⟨Fb, G13, as8_0, ns8_0, cs8_0, clas8_0, rfl, leG13, hS, hO, hnhs8_0, hs8_0⟩
   intro H1 hqq10
   have Hoq10 := H; have H := H1
   unfold f93_b0 at H
   refine WC_seq ?_; refine WC_seq ?_; refine WC_region ?_; refine WL_val (rn_move (v := (.int .i64 s8.2)) rfl) rfl ?_; refine WL_val (rn_fld fd46_3 rfl) rfl ?_; refine WL_val (rn_load na44 rfl ((hS.sat.le leG13).cell (hcb4 3 _ rfl))) rfl ?_
   have l0_2 := leG6.trans leG13
   refine WL_val (rn_len sl44 rfl rfl (h3.mono RTBaneTrip_mono l0_2).1) rfl ?_; refine WL_val (rn_lss rfl rfl) rfl ?_; refine WL_nil ?_; refine WC_cond rfl (fun hb14 => ?_) (fun hb14 => ?_)
   ·have H := ifT hb14 H; refine WC_skip ?_; refine WC_seq ?_; refine WC_block ?_; refine WC_region ?_; refine WL_val (rn_move (v := (.slice as8_0 ns8_0 cs8_0)) rfl) rfl ?_
    refine WL_op rfl (OpP_newF (v := fun b => .slice (some ⟨b, 0, none⟩) 1 1) (cs := [.bool true]) (e := 4) (by kernel_rfl) hS.sat rfl (fun b15 G17 w16 hg hcb15 => ?_))
    have hS := hS.grow hg; have hO := hO.grow hg
    have leG17 := hg.le
    have hfb15 : RSl RBool 1 G17 (some ⟨b15, 0, none⟩) 1 1 [true] := RSl.of_rd hcb15 (Rd.cons (c := [.bool true]) rfl rfl (Rd.nil RBool 1 _)) rfl (by decide)
    obtain ⟨y18, hy18, H⟩ := bnd H; refine WL_op rfl (OpP_append (k := 0) sl79 RBool_one hS hO rfl hnhs8_0 (hs8_0.mono RBool_mono leG17) hfb15 hy18 rfl rfl rfl rfl rfl (fun aw19 cw19 w19 clw19 hS hO hrw19 => ?_))
    have hO : Owns G17 w19 w0.heap.size ([⟨4, 1, y18.length, .slice aw19 y18.length cw19, clw19⟩]) := hO
    refine WL_val (rn_assign (v := (.slice aw19 y18.length cw19)) rfl) rfl ?_; refine WL_nil ?_; refine WC_region ?_; refine WL_val (rn_move (v := (.int .i64 s8.2)) rfl) rfl ?_; refine WL_val (rn_add rfl rfl) rfl ?_; refine WL_val (rn_assign (v := (.int .i64 (IntKind.i64.wrap (s8.2 + 1)))) rfl) rfl ?_; refine WL_nil ?_
    have hO : Owns G17 w19 w0.heap.size ([⟨4, 1, y18.length, .slice aw19 y18.length cw19, clw19⟩]) := hO
    have H := Option.some.inj H; subst H; refine ⟨_, rfl, ?_⟩
    have l1_3 := leG13.trans leG17
    exact ⟨_, G17, aw19, y18.length, cw19, clw19, upds_self _ _ ⟨rfl, rfl, rfl, trivial⟩, l1_3, hS, hO, rfl, hrw19⟩
   ·have H := ifF hb14 H; refine WC_exit rfl ?_
    have hO : Owns G13 w12 w0.heap.size ([⟨4, 1, ns8_0, .slice as8_0 ns8_0 cs8_0, clas8_0⟩]) := hO
    have H := Option.some.inj H; subst H
    have hres := hqq10 _ rfl
    subst hres
    exact ⟨_, G13, as8_0, ns8_0, cs8_0, clas8_0, upds_self _ _ ⟨rfl, trivial⟩, leG13, hS, hO, hnhs8_0, hs8_0⟩
 ·rintro F w20 ⟨Fb, G21, aq10_0, nq10_0, cq10_0, claq10_0, rfl, leG21, hS, hO, hnhq10_0, hq10_0⟩
  refine WC_seq ?_; refine WC_region ?_; refine WL_val (rn_move (v := (.slice aq10_0 nq10_0 cq10_0)) rfl) rfl ?_; refine WL_val (rn_assign (v := (.slice aq10_0 nq10_0 cq10_0)) rfl) rfl ?_; refine WL_nil ?_; refine WC_ret ?_; obtain ⟨G22, leG22, hS, hO, hfG22⟩ := hO.freezeS hS RBool_mono (k := 0) rfl hq10_0 hnhq10_0
  have H : some q10 = some r := H
  have H := Option.some.inj H; subst H
  exact ⟨_, _, rfl, hS.toGrow, _, _, _, rfl, hfG22⟩
set_option maxHeartbeats 1000000 in
theorem f56_ok {G0 : Gm} {w0 : World} (hS0 : Sat G0 w0) {x0 : TBaneSea} {a1 : Option Addr} {n1 c1 : Nat} {a2 : Option Addr} {n2 c2 : Nat} {a3 : Option Addr} {n3 c3 : Nat} {x1 : (List Int)} {a4 : Option Addr} {n4 c4 : Nat} (h1 : RSl RInt 1 G0 a1 n1 c1 x0.Infested) (h2 : RSl RInt 1 G0 a2 n2 c2 x0.Clean) (h3 : RSl RTBaneTrip 4 G0 a3 n3 c3 x0.Trips) (h4 : RSl RInt 1 G0 a4 n4 c4 x1) {r : (List Int)} (H : f56 x0 x1 = some r) :
  Calls Try.prog 56 #[.agg #[.int .i64 x0.Islets, .slice a1 n1 c1, .slice a2 n2 c2, .slice a3 n3 c3, .int .i64 x0.Wait], .slice a4 n4 c4] w0 (RetG G0 w0 (fun G v => ∃ (ra0 : Option Addr) (rn0 rc0 : Nat), v = .slice ra0 rn0 rc0 ∧ RSl RInt 1 G ra0 rn0 rc0 r)) := by
 have hS := Since.start hS0
 have hO : Owns G0 w0 w0.heap.size [] := Owns.nil (Nat.le_refl _)
 unfold f56 at H
 refine enter1 (N := 10) (shutG _ _ _) Try.func56 rfl rfl rfl rfl ?_; refine WC_seq ?_; refine WC_region ?_; refine WL_op rfl (OpP_newF (v := fun b => .pointer (some ⟨b, 0, none⟩)) (cs := [.int .i64 x0.Islets, .slice a1 n1 c1, .slice a2 n2 c2, .slice a3 n3 c3, .int .i64 x0.Wait]) (e := 46) (rn_boxA rfl) hS.sat rfl (fun b5 G7 w6 hg hcb5 => ?_)); have hS := hS.grow hg; have hO := hO.grow hg
 have leG7 := hg.le
 refine WL_val (rn_assign (v := (.slice none 0 0)) rfl) rfl ?_; refine WL_nil ?_; refine WC_seq ?_; have hS := hS.keep (below_drew _); have hO := hO.below (below_drew _)
 refine WC_regionD mixedO (fun w => Sat G7 w ∧ True) (.fl 0 (.fl 1 (.on 2 (.on 3 (.on 4 (.on 5 .nil)))))) (by kernel_rfl) rfl (by kernel_rfl) ⟨hS.sat, trivial⟩ ?_
 refine WD_val rfl (fun w hw => rn_loadA ag46 (cs := [.int .i64 x0.Islets, .slice a1 n1 c1, .slice a2 n2 c2, .slice a3 n3 c3, .int .i64 x0.Wait]) rfl rfl (fun j v hj => hw.1.cell (hcb5.drop_take 0 5 j v hj))) rfl ?_; refine WD_val rfl (fun w hw => rn_move (v := (.slice a4 n4 c4)) rfl) rfl ?_; refine WD_op rfl rfl (OpP_val (rn_loadA ag46 (cs := [.int .i64 x0.Islets, .slice a1 n1 c1, .slice a2 n2 c2, .slice a3 n3 c3, .int .i64 x0.Wait]) rfl rfl (fun j v hj => hS.sat.cell (hcb5.drop_take 0 5 j v hj))) rfl ?_); refine ⟨fun _ => ⟨hS.sat, trivial⟩, ?_⟩; obtain ⟨y8, hy8, H⟩ := bnd H; refine WD_op rfl rfl (OpP_callG cb93 (f93_ok (x0 := x0) hS.sat (h1.mono RInt_mono leG7) (h2.mono RInt_mono leG7) (h3.mono RTBaneTrip_mono leG7) hy8) rfl rfl (fun vy8 G10 w9 hg hvy8 => ?_)); obtain ⟨a11, n11, c11, ⟨⟩, h11⟩ := hvy8; have hS := hS.grow hg; have hO := hO.grow hg
 have leG10 := hg.le
 refine ⟨fun _ => ⟨hS.sat.le leG10, trivial⟩, ?_⟩; obtain ⟨y12, hy12, H⟩ := bnd H
 have l0_2 := leG7.trans leG10
 refine WD_op rfl rfl (OpP_callG cb57 (f57_ok (x0 := x0) (x1 := x1) (x2 := y8) hS.sat (h1.mono RInt_mono l0_2) (h2.mono RInt_mono l0_2) (h3.mono RTBaneTrip_mono l0_2) (h4.mono RInt_mono l0_2) h11 hy12) rfl rfl (fun vy12 G14 w13 hg hvy12 => ?_)); obtain ⟨a15, n15, c15, ⟨⟩, h15⟩ := hvy12; have hS := hS.grow hg; have hO := hO.grow hg
 have leG14 := hg.le
 refine ⟨fun h => nomore (by kernel_rfl) h, ?_⟩
 refine WD_op rfl rfl (OpP_val (rn_assign (v := (.slice a15 n15 c15)) rfl) rfl ?_)
 refine ⟨fun h => nomore (by kernel_rfl) h, ?_⟩
 refine WD_nil ?_; refine WC_ret ?_
 have H : some y12 = some r := H
 have H := Option.some.inj H; subst H
 exact ⟨_, _, rfl, hS.toGrow, _, _, _, rfl, h15⟩
end Go.Proofs.Ytgplafckddpnkaa
