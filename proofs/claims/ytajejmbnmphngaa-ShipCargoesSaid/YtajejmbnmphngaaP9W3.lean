/-
  The walks: each Go function computes its plain function (printed by a program of ours).
-/
import Derived.Test.YtajejmbnmphngaaRd
import Derived.Test.YtajejmbnmphngaaBaseL
import Derived.Test.YtajejmbnmphngaaP9W2
namespace Go.Proofs.Ytajejmbnmphngaa
open Go.RowKit
set_option linter.unusedVariables false

set_option maxRecDepth 20000
set_option linter.unusedVariables false
set_option maxHeartbeats 1000000 in
theorem f35_ok {G0 : Gm} {w0 : World} (hS0 : Sat G0 w0) {x0 : TShipStore} {a1 : Option Addr} {n1 c1 : Nat} {a2 : Option Addr} {n2 c2 : Nat} {a3 : Option Addr} {n3 c3 : Nat} {x1 : Int} (h1 : RSl RInt 1 G0 a1 n1 c1 x0.Stock) (h2 : RSl RTSpan 2 G0 a2 n2 c2 x0.Use) (h3 : RSl RTShipLot 3 G0 a3 n3 c3 x0.Lots) {r : (List Int) × Int × Int} (H : f35 x0 x1 = some r) :
  Calls Try.prog 35 #[.agg #[.slice a1 n1 c1, .slice a2 n2 c2, .int .i64 x0.Gap.Low, .int .i64 x0.Gap.High, .slice a3 n3 c3, .int .i64 x0.Hold], .int .i64 x1] w0 (RetG G0 w0 (fun G v => ∃ (ra0 : Option Addr) (rn0 rc0 : Nat), v = .tuple #[.slice ra0 rn0 rc0, .int .i64 r.2.1, .int .i64 r.2.2] ∧ RSl RInt 1 G ra0 rn0 rc0 r.1)) := by
 have hS := Since.start hS0
 have hO : Owns G0 w0 w0.heap.size [] := Owns.nil (Nat.le_refl _)
 unfold f35 at H
 refine enter3 (N := 97) (shutG _ _ _) Try.func35 rfl rfl rfl rfl ?_; refine WC_seq ?_; refine WC_region ?_; refine WL_op rfl (OpP_newF (v := fun b => .pointer (some ⟨b, 0, none⟩)) (cs := [.slice a1 n1 c1, .slice a2 n2 c2, .int .i64 x0.Gap.Low, .int .i64 x0.Gap.High, .slice a3 n3 c3, .int .i64 x0.Hold]) (e := 42) (rn_boxA rfl) hS.sat rfl (fun b4 G6 w5 hg hcb4 => ?_)); have hS := hS.grow hg; have hO := hO.grow hg
 have leG6 := hg.le
 refine WL_val (rn_assign (v := (.slice none 0 0)) rfl) rfl ?_; refine WL_val (rn_assign (v := (.int .i64 0)) rfl) rfl ?_; refine WL_val (rn_assign (v := (.int .i64 0)) rfl) rfl ?_; refine WL_nil ?_; refine WC_seq ?_; refine WC_seq ?_; obtain ⟨q7, hq7, H⟩ := bnd H; refine WC_cut (fun F w => ∃ (Fb : Fr) (G : Gm), F = upds Fb [(1, .int .i64 x1), (2, .pointer (some ⟨b4, 0, none⟩)), (22, .bool q7)] ∧ Gle G6 G ∧ Since w0.heap.size G0 w0 G w ∧ Owns G w w0.heap.size []) ?_ ?_
 ·have Hoq7 := H; have H := hq7; refine WC_region ?_; refine WL_val (rn_loadA ag42 (cs := [.slice a1 n1 c1, .slice a2 n2 c2, .int .i64 x0.Gap.Low, .int .i64 x0.Gap.High, .slice a3 n3 c3, .int .i64 x0.Hold]) rfl rfl (fun j v hj => hS.sat.cell (hcb4.drop_take 0 6 j v hj))) rfl ?_; obtain ⟨y8, hy8, H⟩ := bnd H; refine WL_op rfl (OpP_callV cb68 (f68_ok (x0 := x0) hS.sat (h1.mono RInt_mono leG6) (h2.mono RTSpan_mono leG6) (h3.mono RTShipLot_mono leG6) hy8) rfl rfl (fun w9 hb => ?_)); have hS := hS.keep hb; have hO := hO.below hb; refine WL_val (rn_not rfl) rfl ?_; refine WL_val (rn_move (v := (.bool (!y8))) rfl) rfl ?_
  rcases bcases (!y8) with hb10 | hb10
  ·have H := ifT hb10 H; refine WL_guardN rfl hb10 rfl rfl rfl ?_; refine WL_guardN rfl hb10 rfl rfl rfl ?_; refine WL_guardN rfl hb10 rfl rfl rfl ?_; refine WL_val (rn_pickT (v := (.bool true)) rfl hb10 rfl) rfl ?_; refine WL_nil ?_
   have hO : Owns G6 w9 w0.heap.size ([]) := hO
   have H := Option.some.inj H; subst H
   exact ⟨_, G6, upds_self _ _ ⟨rfl, rfl, rfl, trivial⟩, Gle.refl _, hS, hO⟩
  ·have H := ifF hb10 H; refine WL_guardY rfl hb10 rfl rfl ?_; refine WL_val (rn_move (v := (.int .i64 x1)) rfl) rfl ?_; refine WL_guardY rfl hb10 rfl rfl ?_; obtain ⟨y11, hy11, H⟩ := bnd H; refine WL_op rfl (OpP_callV cb70 (f70_ok (x0 := x1) hS.sat  hy11) rfl rfl (fun w12 hb => ?_)); have hS := hS.keep hb; have hO := hO.below hb; refine WL_guardY rfl hb10 rfl rfl ?_; refine WL_val (rn_not rfl) rfl ?_; refine WL_val (rn_pickF (v := (.bool (!y11))) rfl hb10 rfl) rfl ?_; refine WL_nil ?_
   have hO : Owns G6 w12 w0.heap.size ([]) := hO
   have H := Option.some.inj H; subst H
   exact ⟨_, G6, upds_self _ _ ⟨rfl, rfl, rfl, trivial⟩, Gle.refl _, hS, hO⟩
 ·rintro F w13 ⟨Fb, G14, rfl, leG14, hS, hO⟩
  refine WC_cond rfl (fun hb15 => ?_) (fun hb15 => ?_)
  ·have H := ifT hb15 H; refine WC_seq ?_; refine WC_region ?_; refine WL_val (rn_assign (v := (.slice none 0 0)) rfl) rfl ?_; refine WL_val (rn_assign (v := (.int .i64 0)) rfl) rfl ?_; refine WL_val (rn_assign (v := (.int .i64 2)) rfl) rfl ?_; refine WL_nil ?_; refine WC_ret ?_
   have H : some ([], 0, 2) = some r := H
   have H := Option.some.inj H; subst H
   exact ⟨_, _, rfl, hS.toGrow, _, _, _, rfl, (RSl.nil RInt 1 G14 none)⟩
  ·have H := ifF hb15 H; refine WC_skip ?_; refine WC_seq ?_; refine WC_region ?_; refine WL_val (rn_assign (v := (.slice none 0 0)) rfl) rfl ?_; refine WL_nil ?_; refine WC_seq ?_; refine WC_seq ?_; refine WC_region ?_; refine WL_val (rn_fld fd42_0 rfl) rfl ?_; refine WL_val (rn_load na22 rfl ((hS.sat.le leG14).cell (hcb4 0 _ rfl))) rfl ?_
   have l0_2 := leG6.trans leG14
   refine WL_val (rn_len sl22 rfl rfl (h1.mono RInt_mono l0_2).1) rfl ?_; refine WL_val (rn_move (v := (.int .i64 0)) rfl) rfl ?_; refine WL_nil ?_; have hO := hO.cons_nil 3 1; obtain ⟨q19, hq19, H⟩ := bnd H; refine WC_cut (fun F w => ∃ (Fb : Fr) (G : Gm) (aq19_0 : Option Addr) (nq19_0 cq19_0 : Nat) (claq19_0 : List Value), F = upds Fb [(1, .int .i64 x1), (2, .pointer (some ⟨b4, 0, none⟩)), (7, .slice aq19_0 nq19_0 cq19_0)] ∧ Gle G14 G ∧ Since w0.heap.size G0 w0 G w ∧ Owns G w w0.heap.size [⟨3, 1, nq19_0, .slice aq19_0 nq19_0 cq19_0, claq19_0⟩] ∧ nq19_0 = q19.length ∧ Rd RInt 1 G claq19_0 q19) ?_ ?_
   ·refine WC_block (WC_loop hq19 (fun s17 F w => ∃ (Fb : Fr) (G : Gm) (as17_0 : Option Addr) (ns17_0 cs17_0 : Nat) (clas17_0 : List Value), F = upds Fb [(1, .int .i64 x1), (2, .pointer (some ⟨b4, 0, none⟩)), (7, .slice as17_0 ns17_0 cs17_0), (25, .int .i64 (x0.Stock.length : Int)), (26, .int .i64 s17.2)] ∧ Gle G14 G ∧ Since w0.heap.size G0 w0 G w ∧ Owns G w w0.heap.size [⟨3, 1, ns17_0, .slice as17_0 ns17_0 cs17_0, clas17_0⟩] ∧ ns17_0 = s17.1.length ∧ Rd RInt 1 G clas17_0 s17.1) ?_ ?_)
    ·have hO : Owns G14 w13 w0.heap.size ([⟨3, 1, 0, .slice none 0 0, []⟩]) := hO
     exact ⟨_, G14, none, 0, 0, [], upds_self _ _ ⟨rfl, rfl, rfl, rfl, rfl, trivial⟩, Gle.refl _, hS, hO, rfl, (Rd.nil RInt 1 G14)⟩
    ·rintro s17 F w21 t20 ⟨Fb, G22, as17_0, ns17_0, cs17_0, clas17_0, rfl, leG22, hS, hO, hnhs17_0, hs17_0⟩
     intro H1 hqq19
     have Hoq19 := H; have H := H1
     unfold f35_b0 at H
     refine WC_seq ?_; refine WC_region ?_; refine WL_val (rn_lss rfl rfl) rfl ?_; refine WL_nil ?_; refine WC_seq ?_; refine WC_cond rfl (fun hb23 => ?_) (fun hb23 => ?_)
     ·have H := ifT hb23 H; refine WC_skip ?_; refine WC_seq ?_; refine WC_block ?_; refine WC_seq ?_; refine WC_region ?_; refine WL_val (rn_move (v := (.int .i64 s17.2)) rfl) rfl ?_; refine WL_val (rn_assign (v := (.int .i64 s17.2)) rfl) rfl ?_; refine WL_nil ?_; refine WC_region ?_; refine WL_val (rn_move (v := (.slice as17_0 ns17_0 cs17_0)) rfl) rfl ?_; refine WL_val (rn_move (v := (.int .i64 s17.2)) rfl) rfl ?_
      refine WL_op rfl (OpP_newF (v := fun b => .slice (some ⟨b, 0, none⟩) 1 1) (cs := [.int .i64 s17.2]) (e := 3) (by kernel_rfl) hS.sat rfl (fun b24 G26 w25 hg hcb24 => ?_))
      have hS := hS.grow hg; have hO := hO.grow hg
      have leG26 := hg.le
      have hfb24 : RSl RInt 1 G26 (some ⟨b24, 0, none⟩) 1 1 [s17.2] := RSl.of_rd hcb24 (Rd.cons (c := [.int .i64 s17.2]) rfl rfl (Rd.nil RInt 1 _)) rfl (by decide)
      obtain ⟨y27, hy27, H⟩ := bnd H; refine WL_op rfl (OpP_append (k := 0) sl22 RInt_one hS hO rfl hnhs17_0 (hs17_0.mono RInt_mono leG26) hfb24 hy27 rfl rfl rfl rfl rfl (fun aw28 cw28 w28 clw28 hS hO hrw28 => ?_))
      have hO : Owns G26 w28 w0.heap.size ([⟨3, 1, y27.length, .slice aw28 y27.length cw28, clw28⟩]) := hO
      refine WL_val (rn_assign (v := (.slice aw28 y27.length cw28)) rfl) rfl ?_; refine WL_nil ?_; refine WC_region ?_; refine WL_val (rn_add rfl rfl) rfl ?_; refine WL_val (rn_move (v := (.int .i64 (IntKind.i64.wrap (s17.2 + 1)))) rfl) rfl ?_; refine WL_nil ?_
      have hO : Owns G26 w28 w0.heap.size ([⟨3, 1, y27.length, .slice aw28 y27.length cw28, clw28⟩]) := hO
      have H := Option.some.inj H; subst H; refine ⟨_, rfl, ?_⟩
      have l2_4 := leG22.trans leG26
      exact ⟨_, G26, aw28, y27.length, cw28, clw28, upds_self _ _ ⟨rfl, rfl, rfl, rfl, rfl, trivial⟩, l2_4, hS, hO, rfl, hrw28⟩
     ·have H := ifF hb23 H; refine WC_exit rfl ?_
      have hO : Owns G22 w21 w0.heap.size ([⟨3, 1, ns17_0, .slice as17_0 ns17_0 cs17_0, clas17_0⟩]) := hO
      have H := Option.some.inj H; subst H
      have hres := hqq19 _ rfl
      subst hres
      exact ⟨_, G22, as17_0, ns17_0, cs17_0, clas17_0, upds_self _ _ ⟨rfl, rfl, rfl, trivial⟩, leG22, hS, hO, hnhs17_0, hs17_0⟩
   ·rintro F w29 ⟨Fb, G30, aq19_0, nq19_0, cq19_0, claq19_0, rfl, leG30, hS, hO, hnhq19_0, hq19_0⟩
    refine WC_seq ?_; refine WC_region ?_
    refine WL_op rfl (OpP_newO (v := fun b => .pointer (some ⟨b, 0, none⟩)) (cs := [.int .i64 0, .slice none 0 0]) (e := 120) (by kernel_rfl) hS.sat hO rfl 2 1 rfl (by decide) (fun b31 w32 hb hO => ?_))
    have hS := hS.keep hb; refine WL_nil ?_; refine WC_seq ?_; refine WC_region ?_; refine WL_val (rn_assign (v := (.bool false)) rfl) rfl ?_; refine WL_nil ?_; refine WC_seq ?_; refine WC_seq ?_; refine WC_region ?_; refine WL_val (rn_fld fd42_3 rfl) rfl ?_
    have l1_3 := leG14.trans leG30
    refine WL_val (rn_load na40 rfl ((hS.sat.le l1_3).cell (hcb4 4 _ rfl))) rfl ?_
    have l0_3 := l0_2.trans leG30
    refine WL_val (rn_len sl40 rfl rfl (h3.mono RTShipLot_mono l0_3).1) rfl ?_; obtain ⟨y34, hy34, H⟩ := bnd H; refine WL_val (rn_shl rfl rfl hy34) rfl ?_; refine WL_val (rn_move (v := (.int .i64 0)) rfl) rfl ?_; refine WL_nil ?_; obtain ⟨q37, hq37, H⟩ := bnd H; refine WC_cut (fun F w => ∃ (Fb : Fr) (G : Gm) (aq37_0 : Option Addr) (nq37_0 cq37_0 : Nat), F = upds Fb [(9, .pointer (some ⟨b31, 0, none⟩)), (10, .bool q37.1)] ∧ Gle G30 G ∧ Since w0.heap.size G0 w0 G w ∧ Owns G w w0.heap.size [⟨120, 2, 1, .slice (some ⟨b31, 0, none⟩) 1 1, [.int .i64 q37.2.cost, .slice aq37_0 nq37_0 cq37_0]⟩, ⟨3, 1, nq19_0, .slice aq19_0 nq19_0 cq19_0, claq19_0⟩] ∧ RSl RInt 1 G aq37_0 nq37_0 cq37_0 q37.2.list) ?_ ?_
    ·refine WC_block (WC_loop hq37 (fun s35 F w => ∃ (Fb : Fr) (G : Gm) (as35_0 : Option Addr) (ns35_0 cs35_0 : Nat), F = upds Fb [(1, .int .i64 x1), (2, .pointer (some ⟨b4, 0, none⟩)), (7, .slice aq19_0 nq19_0 cq19_0), (9, .pointer (some ⟨b31, 0, none⟩)), (10, .bool s35.1), (37, .int .i64 y34), (38, .int .i64 s35.2.1)] ∧ Gle G30 G ∧ Since w0.heap.size G0 w0 G w ∧ Owns G w w0.heap.size [⟨120, 2, 1, .slice (some ⟨b31, 0, none⟩) 1 1, [.int .i64 s35.2.2.cost, .slice as35_0 ns35_0 cs35_0]⟩, ⟨3, 1, nq19_0, .slice aq19_0 nq19_0 cq19_0, claq19_0⟩] ∧ RSl RInt 1 G as35_0 ns35_0 cs35_0 s35.2.2.list) ?_ ?_)
     ·have hO : Owns G30 w32 w0.heap.size ([⟨120, 2, 1, .slice (some ⟨b31, 0, none⟩) 1 1, [.int .i64 0, .slice none 0 0]⟩, ⟨3, 1, nq19_0, .slice aq19_0 nq19_0 cq19_0, claq19_0⟩]) := hO
      exact ⟨_, G30, none, 0, 0, upds_self _ _ ⟨rfl, rfl, rfl, rfl, rfl, rfl, rfl, trivial⟩, Gle.refl _, hS, hO, (RSl.nil _ _ _ _)⟩
     ·rintro s35 F w39 t38 ⟨Fb, G40, as35_0, ns35_0, cs35_0, rfl, leG40, hS, hO, hs35_0⟩
      intro H1 hqq37
      have Hoq37 := H; have H := H1
      unfold f35_b1 at H
      refine WC_seq ?_; refine WC_region ?_; refine WL_val (rn_lss rfl rfl) rfl ?_; refine WL_nil ?_; refine WC_seq ?_; refine WC_cond rfl (fun hb41 => ?_) (fun hb41 => ?_)
      ·have H := ifT hb41 H; refine WC_skip ?_; refine WC_seq ?_; obtain ⟨q42, hq42, H⟩ := bnd H; refine WC_cut (fun F w => ∃ (Fb : Fr) (G : Gm) (aq42_0 : Option Addr) (nq42_0 cq42_0 : Nat), F = upds Fb [(1, .int .i64 x1), (2, .pointer (some ⟨b4, 0, none⟩)), (7, .slice aq19_0 nq19_0 cq19_0), (9, .pointer (some ⟨b31, 0, none⟩)), (10, .bool q42.1), (37, .int .i64 y34), (38, .int .i64 s35.2.1)] ∧ Gle G40 G ∧ Since w0.heap.size G0 w0 G w ∧ Owns G w w0.heap.size [⟨120, 2, 1, .slice (some ⟨b31, 0, none⟩) 1 1, [.int .i64 q42.2.cost, .slice aq42_0 nq42_0 cq42_0]⟩, ⟨3, 1, nq19_0, .slice aq19_0 nq19_0 cq19_0, claq19_0⟩] ∧ RSl RInt 1 G aq42_0 nq42_0 cq42_0 q42.2.list) ?_ ?_
       ·have Hoq42 := H; have H := hq42; refine WC_block ?_; refine WC_seq ?_; refine WC_region ?_; refine WL_val (rn_move (v := (.int .i64 s35.2.1)) rfl) rfl ?_; refine WL_val (rn_assign (v := (.int .i64 s35.2.1)) rfl) rfl ?_; refine WL_nil ?_; refine WC_seq ?_; refine WC_region ?_
        refine WL_op rfl (OpP_newO (v := fun b => .pointer (some ⟨b, 0, none⟩)) (cs := [.int .i64 0, .slice none 0 0]) (e := 120) (by kernel_rfl) hS.sat hO rfl 2 1 rfl (by decide) (fun b43 w44 hb hO => ?_))
        have hS := hS.keep hb; refine WL_nil ?_; refine WC_seq ?_; refine WC_seq ?_; refine WC_region ?_; refine WL_val (rn_fld fd42_3 rfl) rfl ?_
        have l1_4 := l1_3.trans leG40
        refine WL_val (rn_load na40 rfl ((hS.sat.le l1_4).cell (hcb4 4 _ rfl))) rfl ?_
        have l0_4 := l0_3.trans leG40
        refine WL_val (rn_len sl40 rfl rfl (h3.mono RTShipLot_mono l0_4).1) rfl ?_; refine WL_val (rn_move (v := (.int .i64 0)) rfl) rfl ?_; refine WL_nil ?_; have hO := hO.cons_nil 3 1; obtain ⟨q49, hq49, H⟩ := bnd H; refine WC_cut (fun F w => ∃ (Fb : Fr) (G : Gm) (aq49_0 : Option Addr) (nq49_0 cq49_0 : Nat) (claq49_0 : List Value) (aq49_1 : Option Addr) (nq49_1 cq49_1 : Nat), F = upds Fb [(1, .int .i64 x1), (2, .pointer (some ⟨b4, 0, none⟩)), (7, .slice aq19_0 nq19_0 cq19_0), (9, .pointer (some ⟨b31, 0, none⟩)), (10, .bool s35.1), (12, .pointer (some ⟨b43, 0, none⟩)), (37, .int .i64 y34), (38, .int .i64 s35.2.1)] ∧ Gle G40 G ∧ Since w0.heap.size G0 w0 G w ∧ Owns G w w0.heap.size [⟨3, 1, nq49_0, .slice aq49_0 nq49_0 cq49_0, claq49_0⟩, ⟨120, 2, 1, .slice (some ⟨b43, 0, none⟩) 1 1, [.int .i64 q49.1.cost, .slice aq49_0 nq49_0 cq49_0]⟩, ⟨120, 2, 1, .slice (some ⟨b31, 0, none⟩) 1 1, [.int .i64 q49.2.cost, .slice aq49_1 nq49_1 cq49_1]⟩, ⟨3, 1, nq19_0, .slice aq19_0 nq19_0 cq19_0, claq19_0⟩] ∧ nq49_0 = q49.1.list.length ∧ Rd RInt 1 G claq49_0 q49.1.list ∧ RSl RInt 1 G aq49_1 nq49_1 cq49_1 q49.2.list) ?_ ?_
        ·refine WC_block (WC_loop hq49 (fun s47 F w => ∃ (Fb : Fr) (G : Gm) (as47_0 : Option Addr) (ns47_0 cs47_0 : Nat) (clas47_0 : List Value) (as47_1 : Option Addr) (ns47_1 cs47_1 : Nat), F = upds Fb [(1, .int .i64 x1), (2, .pointer (some ⟨b4, 0, none⟩)), (7, .slice aq19_0 nq19_0 cq19_0), (9, .pointer (some ⟨b31, 0, none⟩)), (10, .bool s35.1), (11, .int .i64 s35.2.1), (12, .pointer (some ⟨b43, 0, none⟩)), (37, .int .i64 y34), (38, .int .i64 s35.2.1), (42, .slice a3 n3 c3), (43, .int .i64 (x0.Lots.length : Int)), (44, .int .i64 s47.1)] ∧ Gle G40 G ∧ Since w0.heap.size G0 w0 G w ∧ Owns G w w0.heap.size [⟨3, 1, ns47_0, .slice as47_0 ns47_0 cs47_0, clas47_0⟩, ⟨120, 2, 1, .slice (some ⟨b43, 0, none⟩) 1 1, [.int .i64 s47.2.1.cost, .slice as47_0 ns47_0 cs47_0]⟩, ⟨120, 2, 1, .slice (some ⟨b31, 0, none⟩) 1 1, [.int .i64 s47.2.2.cost, .slice as47_1 ns47_1 cs47_1]⟩, ⟨3, 1, nq19_0, .slice aq19_0 nq19_0 cq19_0, claq19_0⟩] ∧ ns47_0 = s47.2.1.list.length ∧ Rd RInt 1 G clas47_0 s47.2.1.list ∧ RSl RInt 1 G as47_1 ns47_1 cs47_1 s47.2.2.list) ?_ ?_)
         ·have hO : Owns G40 w44 w0.heap.size ([⟨3, 1, 0, .slice none 0 0, []⟩, ⟨120, 2, 1, .slice (some ⟨b43, 0, none⟩) 1 1, [.int .i64 0, .slice none 0 0]⟩, ⟨120, 2, 1, .slice (some ⟨b31, 0, none⟩) 1 1, [.int .i64 s35.2.2.cost, .slice as35_0 ns35_0 cs35_0]⟩, ⟨3, 1, nq19_0, .slice aq19_0 nq19_0 cq19_0, claq19_0⟩]) := hO
          exact ⟨_, G40, none, 0, 0, [], as35_0, ns35_0, cs35_0, upds_self _ _ ⟨rfl, rfl, rfl, rfl, rfl, rfl, rfl, rfl, rfl, rfl, rfl, rfl, trivial⟩, Gle.refl _, hS, hO, rfl, (Rd.nil RInt 1 G40), hs35_0⟩
         ·rintro s47 F w51 t50 ⟨Fb, G52, as47_0, ns47_0, cs47_0, clas47_0, as47_1, ns47_1, cs47_1, rfl, leG52, hS, hO, hnhs47_0, hs47_0, hs47_1⟩
          intro H1 hqq49
          have Hoq49 := H; have H := H1
          unfold f35_b2 at H
          refine WC_seq ?_; refine WC_region ?_; refine WL_val (rn_lss rfl rfl) rfl ?_; refine WL_nil ?_; refine WC_seq ?_; refine WC_cond rfl (fun hb53 => ?_) (fun hb53 => ?_)
          ·have H := ifT hb53 H; refine WC_skip ?_; refine WC_seq ?_; obtain ⟨q54, hq54, H⟩ := bnd H; refine WC_cut (fun F w => ∃ (Fb : Fr) (G : Gm) (aq54_0 : Option Addr) (nq54_0 cq54_0 : Nat) (claq54_0 : List Value), F = upds Fb [(1, .int .i64 x1), (2, .pointer (some ⟨b4, 0, none⟩)), (7, .slice aq19_0 nq19_0 cq19_0), (9, .pointer (some ⟨b31, 0, none⟩)), (10, .bool s35.1), (11, .int .i64 s35.2.1), (12, .pointer (some ⟨b43, 0, none⟩)), (37, .int .i64 y34), (38, .int .i64 s35.2.1), (42, .slice a3 n3 c3), (43, .int .i64 (x0.Lots.length : Int)), (44, .int .i64 s47.1)] ∧ Gle G52 G ∧ Since w0.heap.size G0 w0 G w ∧ Owns G w w0.heap.size [⟨3, 1, nq54_0, .slice aq54_0 nq54_0 cq54_0, claq54_0⟩, ⟨120, 2, 1, .slice (some ⟨b43, 0, none⟩) 1 1, [.int .i64 q54.cost, .slice aq54_0 nq54_0 cq54_0]⟩, ⟨120, 2, 1, .slice (some ⟨b31, 0, none⟩) 1 1, [.int .i64 s47.2.2.cost, .slice as47_1 ns47_1 cs47_1]⟩, ⟨3, 1, nq19_0, .slice aq19_0 nq19_0 cq19_0, claq19_0⟩] ∧ nq54_0 = q54.list.length ∧ Rd RInt 1 G claq54_0 q54.list) ?_ ?_
           ·have Hoq54 := H; have H := hq54; refine WC_block ?_; refine WC_seq ?_; refine WC_region ?_; refine WL_val (rn_move (v := (.int .i64 s47.1)) rfl) rfl ?_; obtain ⟨y55, hy55, H⟩ := bnd H
            have l0_5 := l0_4.trans leG52
            refine WL_idx sl40 (h3.mono RTShipLot_mono l0_5) hy55 rfl rfl rfl ?_
            rintro b56 o56 _ hcb56 _ ⟨a57, n57, c57, ⟨⟩, h57⟩
            refine WL_val (rn_loadA ag111 (cs := [.slice a57 n57 c57, .int .i64 y55.Weight, .int .i64 y55.Cost]) rfl rfl (fun j v hj => hS.sat.cell (hcb56.drop_take 0 3 j v hj))) rfl ?_
            refine WL_op rfl (OpP_newO (v := fun b => .pointer (some ⟨b, 0, none⟩)) (cs := [.slice none 0 0, .int .i64 0, .int .i64 0]) (e := 111) (by kernel_rfl) hS.sat hO rfl 3 1 rfl (by decide) (fun b58 w59 hb hO => ?_))
            have hS := hS.keep hb; refine WL_val (rn_assign (v := (.int .i64 s47.1)) rfl) rfl ?_; refine WL_op rfl (OpP_store (vs := [.slice a57 n57 c57, .int .i64 y55.Weight, .int .i64 y55.Cost]) sz111 hS hO (k := 0) rfl rfl rfl rfl rfl (one_all rfl) (Nat.le_of_ble_eq_true rfl) (fun w61 hS hO => ?_))
            have hO : Owns G52 w61 w0.heap.size ([⟨111, 3, 1, .slice (some ⟨b58, 0, none⟩) 1 1, [.slice a57 n57 c57, .int .i64 y55.Weight, .int .i64 y55.Cost]⟩, ⟨3, 1, ns47_0, .slice as47_0 ns47_0 cs47_0, clas47_0⟩, ⟨120, 2, 1, .slice (some ⟨b43, 0, none⟩) 1 1, [.int .i64 s47.2.1.cost, .slice as47_0 ns47_0 cs47_0]⟩, ⟨120, 2, 1, .slice (some ⟨b31, 0, none⟩) 1 1, [.int .i64 s47.2.2.cost, .slice as47_1 ns47_1 cs47_1]⟩, ⟨3, 1, nq19_0, .slice aq19_0 nq19_0 cq19_0, claq19_0⟩]) := hO
            obtain ⟨G62, leG62, hS, hO, hqG62, _⟩ := hO.freeze hS (k := 0) rfl
            have hcG62 : Cells G62 b58 0 [.slice a57 n57 c57, .int .i64 y55.Weight, .int .i64 y55.Cost] := (hqG62 _ _ _ _ rfl)
            refine WL_nil ?_; refine WC_seq ?_; refine WC_region ?_; refine WL_val (rn_move (v := (.int .i64 s35.2.1)) rfl) rfl ?_; refine WL_val (rn_move (v := (.int .i64 s47.1)) rfl) rfl ?_; obtain ⟨y63, hy63, H⟩ := bnd H; refine WL_val (rn_shr rfl rfl hy63) rfl ?_; refine WL_val (rn_and rfl rfl) rfl ?_; refine WL_val (rn_eql rfl rfl) rfl ?_; refine WL_nil ?_; refine WC_cond rfl (fun hb64 => ?_) (fun hb64 => ?_)
            ·have H := ifT hb64 H; have hS := hS.keep (below_drew _); have hO := hO.below (below_drew _)
             refine WC_regionD mixedO (C2 [1, 6] (fun w => Sat G62 w ∧ Owns G62 w w0.heap.size [⟨120, 2, 1, .slice (some ⟨b31, 0, none⟩) 1 1, [.int .i64 s47.2.2.cost, .slice as47_1 ns47_1 cs47_1]⟩, ⟨3, 1, nq19_0, .slice aq19_0 nq19_0 cq19_0, claq19_0⟩]) (fun w => Owns G62 w w0.heap.size [⟨120, 2, 1, .slice (some ⟨b43, 0, none⟩) 1 1, [.int .i64 s47.2.1.cost, .slice as47_0 ns47_0 cs47_0]⟩])) (.fl 0 (.fl 1 (.fl 2 (.fl 5 (.fl 6 (.fl 7 (.fl 8 (.fl 9 (.on 3 (.on 4 (.on 10 (.on 11 (.on 12 (.on 13 .nil)))))))))))))) (by kernel_rfl) rfl (by kernel_rfl) (fun _ => ⟨⟨hS.sat, ((hO.drop 1).drop 0)⟩, fun _ => (((hO.drop 3).drop 2).drop 0)⟩) ?_
             refine WD_val rfl (fun w hw => rn_fld fd120_1 rfl) rfl ?_; refine WD_val rfl (fun w hw => rn_load na22 rfl (own_cell (hw.2 rfl) (k := 0) rfl (j := 1) rfl)) rfl ?_; refine WD_val rfl (fun w hw => rn_move (v := (.int .i64 s47.1)) rfl) rfl ?_; refine WD_val rfl (fun w hw => rn_fld fd120_0 rfl) rfl ?_; refine WD_val rfl (fun w hw => rn_load na3 rfl (own_cell (hw.2 rfl) (k := 0) rfl (j := 0) rfl)) rfl ?_; refine WD_val rfl (fun w hw => rn_fld fd111_2 rfl) rfl ?_; refine WD_val rfl (fun w hw => rn_load na3 rfl (hw.1.1.cell (hcG62 2 _ rfl))) rfl ?_; refine WD_val rfl (fun w hw => rn_add rfl rfl) rfl ?_
             refine WD_op rfl rfl (OpP_newF (v := fun b => .slice (some ⟨b, 0, none⟩) 1 1) (cs := [.int .i64 s47.1]) (e := 3) (by kernel_rfl) hS.sat rfl (fun b65 G67 w66 hg hcb65 => ?_))
             have hS := hS.grow hg; have hO := hO.grow hg
             have leG67 := hg.le
             have hfb65 : RSl RInt 1 G67 (some ⟨b65, 0, none⟩) 1 1 [s47.1] := RSl.of_rd hcb65 (Rd.cons (c := [.int .i64 s47.1]) rfl rfl (Rd.nil RInt 1 _)) rfl (by decide)
             refine ⟨need2 ⟨hS.sat.le leG67, ((hO.drop 1).drop 0).le leG67⟩ (fun _ => (((hO.drop 3).drop 2).drop 0).le leG67), ?_⟩; obtain ⟨y68, hy68, H⟩ := bnd H
             have l5_7 := leG62.trans leG67
             refine WD_op rfl rfl (OpP_append (k := 0) sl22 RInt_one hS hO rfl hnhs47_0 (hs47_0.mono RInt_mono l5_7) hfb65 hy68 rfl rfl rfl rfl rfl (fun aw69 cw69 w69 clw69 hS hO hrw69 => ?_))
             have hO : Owns G67 w69 w0.heap.size ([⟨3, 1, y68.length, .slice aw69 y68.length cw69, clw69⟩, ⟨120, 2, 1, .slice (some ⟨b43, 0, none⟩) 1 1, [.int .i64 s47.2.1.cost, .slice as47_0 ns47_0 cs47_0]⟩, ⟨120, 2, 1, .slice (some ⟨b31, 0, none⟩) 1 1, [.int .i64 s47.2.2.cost, .slice as47_1 ns47_1 cs47_1]⟩, ⟨3, 1, nq19_0, .slice aq19_0 nq19_0 cq19_0, claq19_0⟩]) := hO
             refine ⟨need2 ⟨hS.sat.le leG67, ((hO.drop 1).drop 0).le leG67⟩ (fun _ => (((hO.drop 3).drop 2).drop 0).le leG67), ?_⟩; refine WD_op rfl rfl (OpP_val (rn_fld fd120_1 rfl) rfl ?_)
             refine ⟨need2 ⟨hS.sat.le leG67, ((hO.drop 1).drop 0).le leG67⟩ (fun h => nomore (by kernel_rfl) h), ?_⟩
             refine WD_op rfl rfl (OpP_store (vs := [.slice aw69 y68.length cw69]) sz22 hS hO (k := 1) rfl rfl rfl rfl rfl (one_all rfl) (Nat.le_of_ble_eq_true rfl) (fun w70 hS hO => ?_))
             have hO : Owns G67 w70 w0.heap.size ([⟨3, 1, y68.length, .slice aw69 y68.length cw69, clw69⟩, ⟨120, 2, 1, .slice (some ⟨b43, 0, none⟩) 1 1, [.int .i64 s47.2.1.cost, .slice aw69 y68.length cw69]⟩, ⟨120, 2, 1, .slice (some ⟨b31, 0, none⟩) 1 1, [.int .i64 s47.2.2.cost, .slice as47_1 ns47_1 cs47_1]⟩, ⟨3, 1, nq19_0, .slice aq19_0 nq19_0 cq19_0, claq19_0⟩]) := hO
             refine ⟨need2 ⟨hS.sat.le leG67, ((hO.drop 1).drop 0).le leG67⟩ (fun h => nomore (by kernel_rfl) h), ?_⟩
             refine WD_op rfl rfl (OpP_val (rn_fld fd120_0 rfl) rfl ?_)
             refine ⟨fun _ h => noneed (by kernel_rfl) h, ?_⟩
             refine WD_op rfl rfl (OpP_store (vs := [.int .i64 (IntKind.i64.wrap (s47.2.1.cost + y55.Cost))]) sz3 hS hO (k := 1) rfl rfl rfl rfl rfl (one_all rfl) (Nat.le_of_ble_eq_true rfl) (fun w71 hS hO => ?_))
             have hO : Owns G67 w71 w0.heap.size ([⟨3, 1, y68.length, .slice aw69 y68.length cw69, clw69⟩, ⟨120, 2, 1, .slice (some ⟨b43, 0, none⟩) 1 1, [.int .i64 (IntKind.i64.wrap (s47.2.1.cost + y55.Cost)), .slice aw69 y68.length cw69]⟩, ⟨120, 2, 1, .slice (some ⟨b31, 0, none⟩) 1 1, [.int .i64 s47.2.2.cost, .slice as47_1 ns47_1 cs47_1]⟩, ⟨3, 1, nq19_0, .slice aq19_0 nq19_0 cq19_0, claq19_0⟩]) := hO
             refine ⟨fun _ h => noneed (by kernel_rfl) h, ?_⟩
             refine WD_nil ?_
             have hO : Owns G67 w71 w0.heap.size ([⟨3, 1, y68.length, .slice aw69 y68.length cw69, clw69⟩, ⟨120, 2, 1, .slice (some ⟨b43, 0, none⟩) 1 1, [.int .i64 (IntKind.i64.wrap (s47.2.1.cost + y55.Cost)), .slice aw69 y68.length cw69]⟩, ⟨120, 2, 1, .slice (some ⟨b31, 0, none⟩) 1 1, [.int .i64 s47.2.2.cost, .slice as47_1 ns47_1 cs47_1]⟩, ⟨3, 1, nq19_0, .slice aq19_0 nq19_0 cq19_0, claq19_0⟩]) := hO
             have H := Option.some.inj H; subst H
             exact ⟨_, G67, aw69, y68.length, cw69, clw69, upds_self _ _ ⟨rfl, rfl, rfl, rfl, rfl, rfl, rfl, rfl, rfl, rfl, rfl, rfl, trivial⟩, l5_7, hS, hO, rfl, hrw69⟩
            ·have H := ifF hb64 H; refine WC_skip ?_
             have hO : Owns G62 w61 w0.heap.size ([⟨3, 1, ns47_0, .slice as47_0 ns47_0 cs47_0, clas47_0⟩, ⟨120, 2, 1, .slice (some ⟨b43, 0, none⟩) 1 1, [.int .i64 s47.2.1.cost, .slice as47_0 ns47_0 cs47_0]⟩, ⟨120, 2, 1, .slice (some ⟨b31, 0, none⟩) 1 1, [.int .i64 s47.2.2.cost, .slice as47_1 ns47_1 cs47_1]⟩, ⟨3, 1, nq19_0, .slice aq19_0 nq19_0 cq19_0, claq19_0⟩]) := hO
             have H := Option.some.inj H; subst H
             exact ⟨_, G62, as47_0, ns47_0, cs47_0, clas47_0, upds_self _ _ ⟨rfl, rfl, rfl, rfl, rfl, rfl, rfl, rfl, rfl, rfl, rfl, rfl, trivial⟩, leG62, hS, hO, hnhs47_0, (hs47_0.mono RInt_mono leG62)⟩
           ·rintro F w72 ⟨Fb, G73, aq54_0, nq54_0, cq54_0, claq54_0, rfl, leG73, hS, hO, hnhq54_0, hq54_0⟩
            refine WC_region ?_; refine WL_val (rn_add rfl rfl) rfl ?_; refine WL_val (rn_move (v := (.int .i64 (IntKind.i64.wrap (s47.1 + 1)))) rfl) rfl ?_; refine WL_nil ?_
            have hO : Owns G73 w72 w0.heap.size ([⟨3, 1, nq54_0, .slice aq54_0 nq54_0 cq54_0, claq54_0⟩, ⟨120, 2, 1, .slice (some ⟨b43, 0, none⟩) 1 1, [.int .i64 q54.cost, .slice aq54_0 nq54_0 cq54_0]⟩, ⟨120, 2, 1, .slice (some ⟨b31, 0, none⟩) 1 1, [.int .i64 s47.2.2.cost, .slice as47_1 ns47_1 cs47_1]⟩, ⟨3, 1, nq19_0, .slice aq19_0 nq19_0 cq19_0, claq19_0⟩]) := hO
            have H := Option.some.inj H; subst H; refine ⟨_, rfl, ?_⟩
            have l4_6 := leG52.trans leG73
            exact ⟨_, G73, aq54_0, nq54_0, cq54_0, claq54_0, as47_1, ns47_1, cs47_1, upds_self _ _ ⟨rfl, rfl, rfl, rfl, rfl, rfl, rfl, rfl, rfl, rfl, rfl, rfl, trivial⟩, l4_6, hS, hO, hnhq54_0, hq54_0, (hs47_1.mono RInt_mono leG73)⟩
          ·have H := ifF hb53 H; refine WC_exit rfl ?_
           have hO : Owns G52 w51 w0.heap.size ([⟨3, 1, ns47_0, .slice as47_0 ns47_0 cs47_0, clas47_0⟩, ⟨120, 2, 1, .slice (some ⟨b43, 0, none⟩) 1 1, [.int .i64 s47.2.1.cost, .slice as47_0 ns47_0 cs47_0]⟩, ⟨120, 2, 1, .slice (some ⟨b31, 0, none⟩) 1 1, [.int .i64 s47.2.2.cost, .slice as47_1 ns47_1 cs47_1]⟩, ⟨3, 1, nq19_0, .slice aq19_0 nq19_0 cq19_0, claq19_0⟩]) := hO
           have H := Option.some.inj H; subst H
           have hres := hqq49 _ rfl
           subst hres
           exact ⟨_, G52, as47_0, ns47_0, cs47_0, clas47_0, as47_1, ns47_1, cs47_1, upds_self _ _ ⟨rfl, rfl, rfl, rfl, rfl, rfl, rfl, rfl, trivial⟩, leG52, hS, hO, hnhs47_0, hs47_0, hs47_1⟩
        ·rintro F w74 ⟨Fb, G75, aq49_0, nq49_0, cq49_0, claq49_0, aq49_1, nq49_1, cq49_1, rfl, leG75, hS, hO, hnhq49_0, hq49_0, hq49_1⟩
         refine WC_seq ?_; refine WC_seq ?_; obtain ⟨q76, hq76, H⟩ := bnd H; refine WC_cut (fun F w => ∃ (Fb : Fr) (G : Gm), F = upds Fb [(1, .int .i64 x1), (2, .pointer (some ⟨b4, 0, none⟩)), (7, .slice aq19_0 nq19_0 cq19_0), (9, .pointer (some ⟨b31, 0, none⟩)), (10, .bool s35.1), (12, .pointer (some ⟨b43, 0, none⟩)), (37, .int .i64 y34), (38, .int .i64 s35.2.1), (80, .bool q76)] ∧ Gle G75 G ∧ Since w0.heap.size G0 w0 G w ∧ Owns G w w0.heap.size [⟨3, 1, nq49_0, .slice aq49_0 nq49_0 cq49_0, claq49_0⟩, ⟨120, 2, 1, .slice (some ⟨b43, 0, none⟩) 1 1, [.int .i64 q49.1.cost, .slice aq49_0 nq49_0 cq49_0]⟩, ⟨120, 2, 1, .slice (some ⟨b31, 0, none⟩) 1 1, [.int .i64 q49.2.cost, .slice aq49_1 nq49_1 cq49_1]⟩, ⟨3, 1, nq19_0, .slice aq19_0 nq19_0 cq19_0, claq19_0⟩]) ?_ ?_
         ·have Hoq76 := H; have H := hq76; refine WC_region ?_
          have l1_5 := l1_4.trans leG75
          refine WL_val (rn_loadA ag42 (cs := [.slice a1 n1 c1, .slice a2 n2 c2, .int .i64 x0.Gap.Low, .int .i64 x0.Gap.High, .slice a3 n3 c3, .int .i64 x0.Hold]) rfl rfl (fun j v hj => (hS.sat.le l1_5).cell (hcb4.drop_take 0 6 j v hj))) rfl ?_; refine WL_val (rn_fld fd120_1 rfl) rfl ?_; refine WL_val (rn_load na22 rfl (own_cell hO (k := 1) rfl (j := 1) rfl)) rfl ?_; obtain ⟨y77, hy77, H⟩ := bnd H; obtain ⟨Gv78, leGv78, hSGv78, hOGv78, hvGv78⟩ := hO.freezeS hS RInt_mono (k := 0) rfl hq49_0 hnhq49_0
          have l0_5 := l0_4.trans leG75
          refine WL_op rfl (OpP_callV cb69 (f69_ok (x0 := x0) (x1 := q49.1.list) hSGv78.sat ((h1.mono RInt_mono l0_5).mono RInt_mono leGv78) ((h2.mono RTSpan_mono l0_5).mono RTSpan_mono leGv78) ((h3.mono RTShipLot_mono l0_5).mono RTShipLot_mono leGv78) hvGv78 hy77) rfl rfl (fun w79 hb => ?_)); have hS := hS.keep hb; have hO := hO.below hb; refine WL_val (rn_not rfl) rfl ?_; refine WL_val (rn_move (v := (.bool (!y77))) rfl) rfl ?_
          rcases bcases (!y77) with hb80 | hb80
          ·have H := ifT hb80 H; refine WL_guardN rfl hb80 rfl rfl rfl ?_; refine WL_guardN rfl hb80 rfl rfl rfl ?_; refine WL_guardU rfl rfl rfl rfl ?_; refine WL_guardU rfl rfl rfl rfl ?_; refine WL_guardU rfl rfl rfl rfl ?_; refine WL_guardU rfl rfl rfl rfl ?_; refine WL_guardN rfl hb80 rfl rfl rfl ?_; refine WL_val (rn_pickT (v := (.bool true)) rfl hb80 rfl) rfl ?_; refine WL_nil ?_
           have hO : Owns G75 w79 w0.heap.size ([⟨3, 1, nq49_0, .slice aq49_0 nq49_0 cq49_0, claq49_0⟩, ⟨120, 2, 1, .slice (some ⟨b43, 0, none⟩) 1 1, [.int .i64 q49.1.cost, .slice aq49_0 nq49_0 cq49_0]⟩, ⟨120, 2, 1, .slice (some ⟨b31, 0, none⟩) 1 1, [.int .i64 q49.2.cost, .slice aq49_1 nq49_1 cq49_1]⟩, ⟨3, 1, nq19_0, .slice aq19_0 nq19_0 cq19_0, claq19_0⟩]) := hO
           have H := Option.some.inj H; subst H
           exact ⟨_, G75, upds_self _ _ ⟨rfl, rfl, rfl, rfl, rfl, rfl, rfl, rfl, rfl, trivial⟩, Gle.refl _, hS, hO⟩
          ·have H := ifF hb80 H; refine WL_guardY rfl hb80 rfl rfl ?_; refine WL_val (rn_move (v := (.bool s35.1)) rfl) rfl ?_; refine WL_guardY rfl hb80 rfl rfl ?_; refine WL_val (rn_move (v := (.bool s35.1)) rfl) rfl ?_
           rcases bcases s35.1 with hb81 | hb81
           ·have H := ifT hb81 H; refine WL_guardY rfl hb81 rfl rfl ?_; refine WL_val (rn_loadA ag120 (cs := [.int .i64 q49.1.cost, .slice aq49_0 nq49_0 cq49_0]) rfl rfl (fun j v hj => own_sub hO (k := 1) rfl 0 2 j v hj)) rfl ?_; refine WL_guardY rfl hb81 rfl rfl ?_; refine WL_val (rn_loadA ag120 (cs := [.int .i64 q49.2.cost, .slice aq49_1 nq49_1 cq49_1]) rfl rfl (fun j v hj => own_sub hO (k := 2) rfl 0 2 j v hj)) rfl ?_; refine WL_guardY rfl hb81 rfl rfl ?_; obtain ⟨y82, hy82, H⟩ := bnd H; obtain ⟨Gv83, leGv83, hSGv83, hOGv83, hvGv83⟩ := hO.freezeS hS RInt_mono (k := 0) rfl hq49_0 hnhq49_0; refine WL_op rfl (OpP_callV cb77 (f77_ok (x0 := q49.1) (x1 := q49.2) hSGv83.sat hvGv83 (hq49_1.mono RInt_mono leGv83) hy82) rfl rfl (fun w84 hb => ?_)); have hS := hS.keep hb; have hO := hO.below hb; refine WL_guardY rfl hb81 rfl rfl ?_; refine WL_val (rn_not rfl) rfl ?_; refine WL_guardY rfl hb80 rfl rfl ?_; refine WL_val (rn_pickT (v := (.bool (!y82))) rfl hb81 rfl) rfl ?_; refine WL_val (rn_pickF (v := (.bool (!y82))) rfl hb80 rfl) rfl ?_; refine WL_nil ?_
            have hO : Owns G75 w84 w0.heap.size ([⟨3, 1, nq49_0, .slice aq49_0 nq49_0 cq49_0, claq49_0⟩, ⟨120, 2, 1, .slice (some ⟨b43, 0, none⟩) 1 1, [.int .i64 q49.1.cost, .slice aq49_0 nq49_0 cq49_0]⟩, ⟨120, 2, 1, .slice (some ⟨b31, 0, none⟩) 1 1, [.int .i64 q49.2.cost, .slice aq49_1 nq49_1 cq49_1]⟩, ⟨3, 1, nq19_0, .slice aq19_0 nq19_0 cq19_0, claq19_0⟩]) := hO
            have H := Option.some.inj H; subst H
            exact ⟨_, G75, upds_self _ _ ⟨rfl, rfl, rfl, rfl, rfl, rfl, rfl, rfl, rfl, trivial⟩, Gle.refl _, hS, hO⟩
           ·have H := ifF hb81 H; refine WL_guardN rfl hb81 rfl rfl rfl ?_; refine WL_guardN rfl hb81 rfl rfl rfl ?_; refine WL_guardN rfl hb81 rfl rfl rfl ?_; refine WL_guardN rfl hb81 rfl rfl rfl ?_; refine WL_guardY rfl hb80 rfl rfl ?_; refine WL_val (rn_pickF (v := (.bool false)) rfl hb81 rfl) rfl ?_; refine WL_val (rn_pickF (v := (.bool false)) rfl hb80 rfl) rfl ?_; refine WL_nil ?_
            have hO : Owns G75 w79 w0.heap.size ([⟨3, 1, nq49_0, .slice aq49_0 nq49_0 cq49_0, claq49_0⟩, ⟨120, 2, 1, .slice (some ⟨b43, 0, none⟩) 1 1, [.int .i64 q49.1.cost, .slice aq49_0 nq49_0 cq49_0]⟩, ⟨120, 2, 1, .slice (some ⟨b31, 0, none⟩) 1 1, [.int .i64 q49.2.cost, .slice aq49_1 nq49_1 cq49_1]⟩, ⟨3, 1, nq19_0, .slice aq19_0 nq19_0 cq19_0, claq19_0⟩]) := hO
            have H := Option.some.inj H; subst H
            exact ⟨_, G75, upds_self _ _ ⟨rfl, rfl, rfl, rfl, rfl, rfl, rfl, rfl, rfl, trivial⟩, Gle.refl _, hS, hO⟩
         ·rintro F w85 ⟨Fb, G86, rfl, leG86, hS, hO⟩
          refine WC_cond rfl (fun hb87 => ?_) (fun hb87 => ?_)
          ·have H := ifT hb87 H; refine WC_exit rfl ?_; have hO := hO.drop 0; have hO := hO.drop 0
           have hO : Owns G86 w85 w0.heap.size ([⟨120, 2, 1, .slice (some ⟨b31, 0, none⟩) 1 1, [.int .i64 q49.2.cost, .slice aq49_1 nq49_1 cq49_1]⟩, ⟨3, 1, nq19_0, .slice aq19_0 nq19_0 cq19_0, claq19_0⟩]) := hO
           have H := Option.some.inj H; subst H
           have l4_6 := leG75.trans leG86
           exact ⟨_, G86, aq49_1, nq49_1, cq49_1, upds_self _ _ ⟨rfl, rfl, rfl, rfl, rfl, rfl, rfl, trivial⟩, l4_6, hS, hO, (hq49_1.mono RInt_mono leG86)⟩
          ·have H := ifF hb87 H; refine WC_skip ?_; refine WC_seq ?_; refine WC_region ?_
           have l1_6 := (l1_4.trans leG75).trans leG86
           refine WL_val (rn_loadA ag42 (cs := [.slice a1 n1 c1, .slice a2 n2 c2, .int .i64 x0.Gap.Low, .int .i64 x0.Gap.High, .slice a3 n3 c3, .int .i64 x0.Hold]) rfl rfl (fun j v hj => (hS.sat.le l1_6).cell (hcb4.drop_take 0 6 j v hj))) rfl ?_; refine WL_val (rn_fld fd120_1 rfl) rfl ?_; refine WL_val (rn_load na22 rfl (own_cell hO (k := 1) rfl (j := 1) rfl)) rfl ?_; refine WL_val (rn_move (v := (.int .i64 x1)) rfl) rfl ?_; obtain ⟨G88, leG88, hS, hO, hfG88⟩ := hO.freezeS hS RInt_mono (k := 0) rfl (hq49_0.mono RInt_mono leG86) hnhq49_0; obtain ⟨y89, hy89, H⟩ := bnd H
           have l0_7 := ((l0_4.trans leG75).trans leG86).trans leG88
           refine WL_op rfl (OpP_callG cb74 (f74_ok (x0 := (⟨x0.Stock, x0.Use, (⟨x0.Gap.Low, x0.Gap.High⟩ : TSpan), x0.Lots, x0.Hold⟩ : TShipStore)) (x1 := q49.1.list) (x2 := x1) hS.sat (h1.mono RInt_mono l0_7) (h2.mono RTSpan_mono l0_7) (h3.mono RTShipLot_mono l0_7) hfG88 hy89) rfl rfl (fun vy89 G91 w90 hg hvy89 => ?_)); obtain ⟨b92, a93, n93, c93, a94, n94, c94, a95, n95, c95, a96, n96, c96, a97, n97, c97, a98, n98, c98, a99, n99, c99, ⟨⟩, hcb92, h93, h94, h95, h96, h97, h98, h99⟩ := hvy89; have hS := hS.grow hg; have hO := hO.grow hg
           have leG91 := hg.le
           refine WL_val (rn_move (v := (.int .i64 x1)) rfl) rfl ?_; refine WL_val (rn_move (v := (.slice aq19_0 nq19_0 cq19_0)) rfl) rfl ?_
           have hS0 := hS
           have hO0 := hO
           have l3_8 := (((leG40.trans leG75).trans leG86).trans leG88).trans leG91
           obtain ⟨G100, leG100, hS, hO, hfG100⟩ := hO.freezeS hS RInt_mono (k := 2) rfl (hq19_0.mono RInt_mono l3_8) hnhq19_0; obtain ⟨y101, hy101, H⟩ := bnd H
           have hx103 := f76_ok (x0 := y89) (x1 := x1) (x2 := q19) hS.sat (hcb92.mono leG100) (h93.mono RInt_mono leG100) (h94.mono RTSpan_mono leG100) (h95.mono RTShipLot_mono leG100) (h96.mono RInt_mono leG100) (h97.mono RInt_mono leG100) (h98.mono RInt_mono leG100) (h99.mono (RSlice_mono RInt_mono) leG100) hfG100 hy101
           have hS := hS0; have hO := hO0; refine WL_op rfl (OpP_callV cb76 hx103 rfl rfl (fun w102 hb => ?_)); have hS := hS.keep hb; have hO := hO.below hb; refine WL_nil ?_; refine WC_cond rfl (fun hb104 => ?_) (fun hb104 => ?_)
           ·have H := ifT hb104 H; refine WC_region ?_; refine WL_val (rn_loadA ag120 (cs := [.int .i64 q49.1.cost, .slice aq49_0 nq49_0 cq49_0]) rfl rfl (fun j v hj => own_sub hO (k := 0) rfl 0 2 j v hj)) rfl ?_; refine WL_op rfl (OpP_store (vs := [.int .i64 q49.1.cost, .slice aq49_0 nq49_0 cq49_0]) sz120 hS hO (k := 1) rfl rfl rfl rfl rfl (one_all rfl) (Nat.le_of_ble_eq_true rfl) (fun w105 hS hO => ?_))
            have hO : Owns G91 w105 w0.heap.size ([⟨120, 2, 1, .slice (some ⟨b43, 0, none⟩) 1 1, [.int .i64 q49.1.cost, .slice aq49_0 nq49_0 cq49_0]⟩, ⟨120, 2, 1, .slice (some ⟨b31, 0, none⟩) 1 1, [.int .i64 q49.1.cost, .slice aq49_0 nq49_0 cq49_0]⟩, ⟨3, 1, nq19_0, .slice aq19_0 nq19_0 cq19_0, claq19_0⟩]) := hO
            refine WL_val (rn_assign (v := (.bool true)) rfl) rfl ?_; refine WL_nil ?_; have hO := hO.drop 0
            have hO : Owns G91 w105 w0.heap.size ([⟨120, 2, 1, .slice (some ⟨b31, 0, none⟩) 1 1, [.int .i64 q49.1.cost, .slice aq49_0 nq49_0 cq49_0]⟩, ⟨3, 1, nq19_0, .slice aq19_0 nq19_0 cq19_0, claq19_0⟩]) := hO
            have H := Option.some.inj H; subst H
            have l4_8 := ((leG75.trans leG86).trans leG88).trans leG91
            exact ⟨_, G91, aq49_0, nq49_0, cq49_0, upds_self _ _ ⟨rfl, rfl, rfl, rfl, rfl, rfl, rfl, trivial⟩, l4_8, hS, hO, (hfG88.mono RInt_mono leG91)⟩
           ·have H := ifF hb104 H; refine WC_skip ?_; have hO := hO.drop 0
            have hO : Owns G91 w102 w0.heap.size ([⟨120, 2, 1, .slice (some ⟨b31, 0, none⟩) 1 1, [.int .i64 q49.2.cost, .slice aq49_1 nq49_1 cq49_1]⟩, ⟨3, 1, nq19_0, .slice aq19_0 nq19_0 cq19_0, claq19_0⟩]) := hO
            have H := Option.some.inj H; subst H
            have l4_8 := ((leG75.trans leG86).trans leG88).trans leG91
            have l5_8 := (leG86.trans leG88).trans leG91
            exact ⟨_, G91, aq49_1, nq49_1, cq49_1, upds_self _ _ ⟨rfl, rfl, rfl, rfl, rfl, rfl, rfl, trivial⟩, l4_8, hS, hO, (hq49_1.mono RInt_mono l5_8)⟩
       ·rintro F w106 ⟨Fb, G107, aq42_0, nq42_0, cq42_0, rfl, leG107, hS, hO, hq42_0⟩
        refine WC_region ?_; refine WL_val (rn_add rfl rfl) rfl ?_; refine WL_val (rn_move (v := (.int .i64 (IntKind.i64.wrap (s35.2.1 + 1)))) rfl) rfl ?_; refine WL_nil ?_
        have hO : Owns G107 w106 w0.heap.size ([⟨120, 2, 1, .slice (some ⟨b31, 0, none⟩) 1 1, [.int .i64 q42.2.cost, .slice aq42_0 nq42_0 cq42_0]⟩, ⟨3, 1, nq19_0, .slice aq19_0 nq19_0 cq19_0, claq19_0⟩]) := hO
        have H := Option.some.inj H; subst H; refine ⟨_, rfl, ?_⟩
        have l3_5 := leG40.trans leG107
        exact ⟨_, G107, aq42_0, nq42_0, cq42_0, upds_self _ _ ⟨rfl, rfl, rfl, rfl, rfl, rfl, rfl, trivial⟩, l3_5, hS, hO, hq42_0⟩
      ·have H := ifF hb41 H; refine WC_exit rfl ?_
       have hO : Owns G40 w39 w0.heap.size ([⟨120, 2, 1, .slice (some ⟨b31, 0, none⟩) 1 1, [.int .i64 s35.2.2.cost, .slice as35_0 ns35_0 cs35_0]⟩, ⟨3, 1, nq19_0, .slice aq19_0 nq19_0 cq19_0, claq19_0⟩]) := hO
       have H := Option.some.inj H; subst H
       have hres := hqq37 _ rfl
       subst hres
       exact ⟨_, G40, as35_0, ns35_0, cs35_0, upds_self _ _ ⟨rfl, rfl, trivial⟩, leG40, hS, hO, hs35_0⟩
    ·rintro F w108 ⟨Fb, G109, aq37_0, nq37_0, cq37_0, rfl, leG109, hS, hO, hq37_0⟩
     refine WC_seq ?_; refine WC_seq ?_; refine WC_region ?_; refine WL_val (rn_move (v := (.bool q37.1)) rfl) rfl ?_; refine WL_val (rn_not rfl) rfl ?_; refine WL_nil ?_; refine WC_cond rfl (fun hb110 => ?_) (fun hb110 => ?_)
     ·have H := ifT hb110 H; refine WC_seq ?_; refine WC_region ?_; refine WL_val (rn_assign (v := (.slice none 0 0)) rfl) rfl ?_; refine WL_val (rn_assign (v := (.int .i64 0)) rfl) rfl ?_; refine WL_val (rn_assign (v := (.int .i64 5)) rfl) rfl ?_; refine WL_nil ?_; refine WC_ret ?_
      have H : some ([], 0, 5) = some r := H
      have H := Option.some.inj H; subst H
      exact ⟨_, _, rfl, hS.toGrow, _, _, _, rfl, (RSl.nil RInt 1 G109 none)⟩
     ·have H := ifF hb110 H; refine WC_skip ?_; refine WC_seq ?_; have hS := hS.keep (below_drew _); have hO := hO.below (below_drew _)
      refine WC_regionD mixedO (fun _ w => Sat G109 w ∧ Owns G109 w w0.heap.size [⟨120, 2, 1, .slice (some ⟨b31, 0, none⟩) 1 1, [.int .i64 q37.2.cost, .slice aq37_0 nq37_0 cq37_0]⟩, ⟨3, 1, nq19_0, .slice aq19_0 nq19_0 cq19_0, claq19_0⟩]) (.fl 0 (.fl 1 (.fl 2 (.fl 3 (.on 4 (.on 5 (.on 6 .nil))))))) (by kernel_rfl) rfl (by kernel_rfl) (fun _ => ⟨hS.sat, hO⟩) ?_
      refine WD_val rfl (fun w hw => rn_fld fd120_1 rfl) rfl ?_; refine WD_val rfl (fun w hw => rn_load na22 rfl (own_cell hw.2 (k := 0) rfl (j := 1) rfl)) rfl ?_; refine WD_val rfl (fun w hw => rn_fld fd120_0 rfl) rfl ?_; refine WD_val rfl (fun w hw => rn_load na3 rfl (own_cell hw.2 (k := 0) rfl (j := 0) rfl)) rfl ?_; refine WD_op rfl rfl (OpP_val (rn_assign (v := (.slice aq37_0 nq37_0 cq37_0)) rfl) rfl ?_); refine ⟨fun _ _ => ⟨hS.sat, hO⟩, ?_⟩; refine WD_op rfl rfl (OpP_val (rn_assign (v := (.int .i64 q37.2.cost)) rfl) rfl ?_)
      refine ⟨fun _ h => noneed (by kernel_rfl) h, ?_⟩
      refine WD_op rfl rfl (OpP_val (rn_assign (v := (.int .i64 0)) rfl) rfl ?_)
      refine ⟨fun _ h => noneed (by kernel_rfl) h, ?_⟩
      refine WD_nil ?_; refine WC_ret ?_
      have H : some (q37.2.list, q37.2.cost, 0) = some r := H
      have H := Option.some.inj H; subst H
      exact ⟨_, _, rfl, hS.toGrow, _, _, _, rfl, hq37_0⟩
set_option maxHeartbeats 1000000 in
theorem f39_ok {G0 : Gm} {w0 : World} (hS0 : Sat G0 w0) {x0 : (List Int)} {a1 : Option Addr} {n1 c1 : Nat} {x1 : (List Int)} {a2 : Option Addr} {n2 c2 : Nat} (h1 : RSl RInt 1 G0 a1 n1 c1 x0) (h2 : RSl RInt 1 G0 a2 n2 c2 x1) {r : Bool} (H : f39 x0 x1 = some r) :
  Calls Try.prog 39 #[.slice a1 n1 c1, .slice a2 n2 c2] w0 (RetV w0 (.bool r)) := by
 have hS := Since.start hS0
 have hO : Owns G0 w0 w0.heap.size [] := Owns.nil (Nat.le_refl _)
 unfold f39 at H
 refine enter1 (N := 26) (shutV _ _) Try.func39 rfl rfl rfl rfl ?_; refine WC_seq ?_; refine WC_region ?_; refine WL_val (rn_assign (v := (.bool false)) rfl) rfl ?_; refine WL_nil ?_; refine WC_seq ?_; refine WC_seq ?_; refine WC_region ?_; refine WL_val (rn_move (v := (.slice a1 n1 c1)) rfl) rfl ?_; refine WL_val (rn_len sl22 rfl rfl h1.1) rfl ?_; refine WL_val (rn_move (v := (.slice a2 n2 c2)) rfl) rfl ?_; refine WL_val (rn_len sl22 rfl rfl h2.1) rfl ?_; refine WL_val (rn_neq rfl rfl) rfl ?_; refine WL_nil ?_; refine WC_cond rfl (fun hb3 => ?_) (fun hb3 => ?_)
 ·have H := ifT hb3 H; refine WC_seq ?_; refine WC_region ?_; refine WL_val (rn_assign (v := (.bool false)) rfl) rfl ?_; refine WL_nil ?_; refine WC_ret ?_
  have H : some false = some r := H
  have H := Option.some.inj H; subst H
  exact ⟨rfl, hS.below⟩
 ·have H := ifF hb3 H; refine WC_skip ?_; refine WC_seq ?_; refine WC_seq ?_; refine WC_region ?_; refine WL_val (rn_assign (v := (.int .i64 0)) rfl) rfl ?_; refine WL_nil ?_; obtain ⟨q6, hq6, H⟩ := bnd H; refine WC_cut (fun F w => ∃ (p5 : Unit) (Fb : Fr) (G : Gm), q6 = .inl p5 ∧ F = upds Fb [] ∧ Gle G0 G ∧ Since w0.heap.size G0 w0 G w ∧ Owns G w w0.heap.size []) ?_ ?_
  ·refine WC_block (WC_loop hq6 (fun s4 F w => ∃ (Fb : Fr) (G : Gm), F = upds Fb [(0, .slice a1 n1 c1), (1, .slice a2 n2 c2), (5, .int .i64 s4)] ∧ Gle G0 G ∧ Since w0.heap.size G0 w0 G w ∧ Owns G w w0.heap.size []) ?_ ?_)
   ·have hO : Owns G0 w0 w0.heap.size ([]) := hO
    exact ⟨_, G0, upds_self _ _ ⟨rfl, rfl, rfl, trivial⟩, Gle.refl _, hS, hO⟩
   ·rintro s4 F w8 t7 ⟨Fb, G9, rfl, leG9, hS, hO⟩
    intro H1 hqq6
    have Hoq6 := H; have H := H1
    unfold f39_b0 at H
    refine WC_seq ?_; refine WC_seq ?_; refine WC_region ?_; refine WL_val (rn_move (v := (.int .i64 s4)) rfl) rfl ?_; refine WL_val (rn_move (v := (.slice a1 n1 c1)) rfl) rfl ?_; refine WL_val (rn_len sl22 rfl rfl (h1.mono RInt_mono leG9).1) rfl ?_; refine WL_val (rn_lss rfl rfl) rfl ?_; refine WL_nil ?_; refine WC_cond rfl (fun hb10 => ?_) (fun hb10 => ?_)
    ·have H := ifT hb10 H; refine WC_skip ?_; refine WC_seq ?_; refine WC_block ?_; refine WC_seq ?_; have hS := hS.keep (below_drew _); have hO := hO.below (below_drew _)
     refine WC_regionD mixedO (fun _ w => Sat G9 w ∧ True) (.fl 0 (.fl 1 (.fl 2 (.fl 3 (.fl 4 (.on 5 (.on 6 (.on 7 (.on 8 .nil))))))))) (by kernel_rfl) rfl (by kernel_rfl) (fun _ => ⟨hS.sat, trivial⟩) ?_
     refine WD_val rfl (fun w hw => rn_move (v := (.slice a1 n1 c1)) rfl) rfl ?_; refine WD_val rfl (fun w hw => rn_move (v := (.int .i64 s4)) rfl) rfl ?_; obtain ⟨y11, hy11, H⟩ := bnd H; refine WD_idx rfl sl22 (h1.mono RInt_mono leG9) hy11 rfl rfl rfl ?_
     rintro b12 o12 _ hcb12 _ ⟨⟩
     refine WD_val rfl (fun w hw => rn_load na3 rfl (hw.1.cell (hcb12 0 _ rfl))) rfl ?_; refine WD_val rfl (fun w hw => rn_move (v := (.slice a2 n2 c2)) rfl) rfl ?_; refine WD_op rfl rfl (OpP_val (rn_move (v := (.int .i64 s4)) rfl) rfl ?_); refine ⟨fun _ _ => ⟨hS.sat, trivial⟩, ?_⟩; obtain ⟨y13, hy13, H⟩ := bnd H; refine WD_op rfl rfl (OpP_idx sl22 (h2.mono RInt_mono leG9) hy13 rfl rfl rfl ?_)
     rintro b14 o14 _ hcb14 _ ⟨⟩
     refine ⟨fun _ _ => ⟨hS.sat, trivial⟩, ?_⟩; refine WD_op rfl rfl (OpP_val (rn_load na3 rfl (hS.sat.cell (hcb14 0 _ rfl))) rfl ?_); refine ⟨fun _ _ => ⟨hS.sat, trivial⟩, ?_⟩; refine WD_op rfl rfl (OpP_val (rn_neq rfl rfl) rfl ?_)
     refine ⟨fun _ h => noneed (by kernel_rfl) h, ?_⟩
     refine WD_nil ?_; refine WC_cond rfl (fun hb15 => ?_) (fun hb15 => ?_)
     ·have H := ifT hb15 H; refine WC_seq ?_; refine WC_region ?_; refine WL_val (rn_assign (v := (.bool false)) rfl) rfl ?_; refine WL_nil ?_; refine WC_ret ?_; have H := Option.some.inj H; subst H
      have hres := hqq6 _ rfl
      subst hres; have H := Hoq6
      have H : some false = some r := H
      have H := Option.some.inj H; subst H
      exact ⟨rfl, hS.below⟩
     ·have H := ifF hb15 H; refine WC_skip ?_; refine WC_region ?_; refine WL_val (rn_move (v := (.int .i64 s4)) rfl) rfl ?_; refine WL_val (rn_add rfl rfl) rfl ?_; refine WL_val (rn_assign (v := (.int .i64 (IntKind.i64.wrap (s4 + 1)))) rfl) rfl ?_; refine WL_nil ?_
      have hO : Owns G9 w8.drew w0.heap.size ([]) := hO
      have H := Option.some.inj H; subst H; refine ⟨_, rfl, ?_⟩
      exact ⟨_, G9, upds_self _ _ ⟨rfl, rfl, rfl, trivial⟩, leG9, hS, hO⟩
    ·have H := ifF hb10 H; refine WC_exit rfl ?_
     have hO : Owns G9 w8 w0.heap.size ([]) := hO
     have H := Option.some.inj H; subst H
     have hres := hqq6 _ rfl
     subst hres
     exact ⟨_, _, G9, rfl, rfl, leG9, hS, hO⟩
  ·rintro F w16 ⟨p5, Fb, G17, rfl, rfl, leG17, hS, hO⟩
   refine WC_seq ?_; refine WC_region ?_; refine WL_val (rn_assign (v := (.bool true)) rfl) rfl ?_; refine WL_nil ?_; refine WC_ret ?_
   have H : some true = some r := H
   have H := Option.some.inj H; subst H
   exact ⟨rfl, hS.below⟩
set_option maxHeartbeats 1000000 in
theorem f45_ok {G0 : Gm} {w0 : World} (hS0 : Sat G0 w0) {x0 : TShipPass} {a1 : Option Addr} {n1 c1 : Nat} {a2 : Option Addr} {n2 c2 : Nat} {x1 : Int} (h1 : RSl RInt 1 G0 a1 n1 c1 x0.Tides) (h2 : RSl RTSpan 2 G0 a2 n2 c2 x0.Swell) {r : (List Int) × (List Int) × Int} (H : f45 x0 x1 = some r) :
  Calls Try.prog 45 #[.agg #[.slice a1 n1 c1, .int .i64 x0.Depth, .int .i64 x0.Draft, .slice a2 n2 c2, .int .i64 x0.Light.Low, .int .i64 x0.Light.High], .int .i64 x1] w0 (RetG G0 w0 (fun G v => ∃ (ra0 : Option Addr) (rn0 rc0 : Nat) (ra1 : Option Addr) (rn1 rc1 : Nat), v = .tuple #[.slice ra0 rn0 rc0, .slice ra1 rn1 rc1, .int .i64 r.2.2] ∧ RSl RInt 1 G ra0 rn0 rc0 r.1 ∧ RSl RInt 1 G ra1 rn1 rc1 r.2.1)) := by
 have hS := Since.start hS0
 have hO : Owns G0 w0 w0.heap.size [] := Owns.nil (Nat.le_refl _)
 unfold f45 at H
 refine enter3 (N := 53) (shutG _ _ _) Try.func45 rfl rfl rfl rfl ?_; refine WC_seq ?_; refine WC_region ?_; refine WL_op rfl (OpP_newF (v := fun b => .pointer (some ⟨b, 0, none⟩)) (cs := [.slice a1 n1 c1, .int .i64 x0.Depth, .int .i64 x0.Draft, .slice a2 n2 c2, .int .i64 x0.Light.Low, .int .i64 x0.Light.High]) (e := 27) (rn_boxA rfl) hS.sat rfl (fun b3 G5 w4 hg hcb3 => ?_)); have hS := hS.grow hg; have hO := hO.grow hg
 have leG5 := hg.le
 refine WL_val (rn_assign (v := (.slice none 0 0)) rfl) rfl ?_; refine WL_val (rn_assign (v := (.slice none 0 0)) rfl) rfl ?_; refine WL_val (rn_assign (v := (.int .i64 0)) rfl) rfl ?_; refine WL_nil ?_; refine WC_seq ?_; refine WC_seq ?_; obtain ⟨q6, hq6, H⟩ := bnd H; refine WC_cut (fun F w => ∃ (Fb : Fr) (G : Gm), F = upds Fb [(1, .int .i64 x1), (2, .pointer (some ⟨b3, 0, none⟩)), (22, .bool q6)] ∧ Gle G5 G ∧ Since w0.heap.size G0 w0 G w ∧ Owns G w w0.heap.size []) ?_ ?_
 ·have Hoq6 := H; have H := hq6; refine WC_region ?_; refine WL_val (rn_loadA ag27 (cs := [.slice a1 n1 c1, .int .i64 x0.Depth, .int .i64 x0.Draft, .slice a2 n2 c2, .int .i64 x0.Light.Low, .int .i64 x0.Light.High]) rfl rfl (fun j v hj => hS.sat.cell (hcb3.drop_take 0 6 j v hj))) rfl ?_; obtain ⟨y7, hy7, H⟩ := bnd H; refine WL_op rfl (OpP_callV cb60 (f60_ok (x0 := x0) hS.sat (h1.mono RInt_mono leG5) (h2.mono RTSpan_mono leG5) hy7) rfl rfl (fun w8 hb => ?_)); have hS := hS.keep hb; have hO := hO.below hb; refine WL_val (rn_not rfl) rfl ?_; refine WL_val (rn_move (v := (.bool (!y7))) rfl) rfl ?_
  rcases bcases (!y7) with hb9 | hb9
  ·have H := ifT hb9 H; refine WL_guardN rfl hb9 rfl rfl rfl ?_; refine WL_guardN rfl hb9 rfl rfl rfl ?_; refine WL_guardN rfl hb9 rfl rfl rfl ?_; refine WL_guardN rfl hb9 rfl rfl rfl ?_; refine WL_guardN rfl hb9 rfl rfl rfl ?_; refine WL_guardN rfl hb9 rfl rfl rfl ?_; refine WL_guardN rfl hb9 rfl rfl rfl ?_; refine WL_val (rn_pickT (v := (.bool true)) rfl hb9 rfl) rfl ?_; refine WL_nil ?_
   have hO : Owns G5 w8 w0.heap.size ([]) := hO
   have H := Option.some.inj H; subst H
   exact ⟨_, G5, upds_self _ _ ⟨rfl, rfl, rfl, trivial⟩, Gle.refl _, hS, hO⟩
  ·have H := ifF hb9 H; refine WL_guardY rfl hb9 rfl rfl ?_; refine WL_val (rn_move (v := (.int .i64 x1)) rfl) rfl ?_; refine WL_guardY rfl hb9 rfl rfl ?_; refine WL_val (rn_fld fd27_3 rfl) rfl ?_; refine WL_guardY rfl hb9 rfl rfl ?_; refine WL_val (rn_load na23 rfl (hS.sat.cell (hcb3 3 _ rfl))) rfl ?_; refine WL_guardY rfl hb9 rfl rfl ?_; refine WL_val (rn_len sl23 rfl rfl (h2.mono RTSpan_mono leG5).1) rfl ?_; refine WL_guardY rfl hb9 rfl rfl ?_; refine WL_val (rn_sub rfl rfl) rfl ?_; refine WL_guardY rfl hb9 rfl rfl ?_; obtain ⟨y10, hy10, H⟩ := bnd H; refine WL_op rfl (OpP_callV cb62 (f62_ok (x0 := x1) (x1 := 0) (x2 := IntKind.i64.wrap ((x0.Swell.length : Int) - 1)) hS.sat  hy10) rfl rfl (fun w11 hb => ?_)); have hS := hS.keep hb; have hO := hO.below hb; refine WL_guardY rfl hb9 rfl rfl ?_; refine WL_val (rn_not rfl) rfl ?_; refine WL_val (rn_pickF (v := (.bool (!y10))) rfl hb9 rfl) rfl ?_; refine WL_nil ?_
   have hO : Owns G5 w11 w0.heap.size ([]) := hO
   have H := Option.some.inj H; subst H
   exact ⟨_, G5, upds_self _ _ ⟨rfl, rfl, rfl, trivial⟩, Gle.refl _, hS, hO⟩
 ·rintro F w12 ⟨Fb, G13, rfl, leG13, hS, hO⟩
  refine WC_cond rfl (fun hb14 => ?_) (fun hb14 => ?_)
  ·have H := ifT hb14 H; refine WC_seq ?_; refine WC_region ?_; refine WL_val (rn_assign (v := (.slice none 0 0)) rfl) rfl ?_; refine WL_val (rn_assign (v := (.slice none 0 0)) rfl) rfl ?_; refine WL_val (rn_assign (v := (.int .i64 2)) rfl) rfl ?_; refine WL_nil ?_; refine WC_ret ?_
   have H : some ([], [], 2) = some r := H
   have H := Option.some.inj H; subst H
   exact ⟨_, _, rfl, hS.toGrow, _, _, _, _, _, _, rfl, (RSl.nil RInt 1 G13 none), (RSl.nil RInt 1 G13 none)⟩
  ·have H := ifF hb14 H; refine WC_skip ?_; refine WC_seq ?_; refine WC_region ?_; refine WL_val (rn_assign (v := (.slice none 0 0)) rfl) rfl ?_; refine WL_val (rn_assign (v := (.slice none 0 0)) rfl) rfl ?_; refine WL_nil ?_; refine WC_seq ?_; refine WC_seq ?_; refine WC_region ?_; refine WL_val (rn_move (v := (.int .i64 0)) rfl) rfl ?_; refine WL_nil ?_; have hO := hO.cons_nil 3 1; have hO := hO.cons_nil 3 1; obtain ⟨q19, hq19, H⟩ := bnd H; refine WC_cut (fun F w => ∃ (Fb : Fr) (G : Gm) (aq19_0 : Option Addr) (nq19_0 cq19_0 : Nat) (claq19_0 : List Value) (aq19_1 : Option Addr) (nq19_1 cq19_1 : Nat) (claq19_1 : List Value), F = upds Fb [(7, .slice aq19_0 nq19_0 cq19_0), (8, .slice aq19_1 nq19_1 cq19_1)] ∧ Gle G13 G ∧ Since w0.heap.size G0 w0 G w ∧ Owns G w w0.heap.size [⟨3, 1, nq19_1, .slice aq19_1 nq19_1 cq19_1, claq19_1⟩, ⟨3, 1, nq19_0, .slice aq19_0 nq19_0 cq19_0, claq19_0⟩] ∧ nq19_0 = q19.1.length ∧ Rd RInt 1 G claq19_0 q19.1 ∧ nq19_1 = q19.2.length ∧ Rd RInt 1 G claq19_1 q19.2) ?_ ?_
   ·refine WC_block (WC_loop hq19 (fun s17 F w => ∃ (Fb : Fr) (G : Gm) (as17_0 : Option Addr) (ns17_0 cs17_0 : Nat) (clas17_0 : List Value) (as17_1 : Option Addr) (ns17_1 cs17_1 : Nat) (clas17_1 : List Value), F = upds Fb [(1, .int .i64 x1), (2, .pointer (some ⟨b3, 0, none⟩)), (7, .slice as17_0 ns17_0 cs17_0), (8, .slice as17_1 ns17_1 cs17_1), (23, .int .i64 s17.2.2)] ∧ Gle G13 G ∧ Since w0.heap.size G0 w0 G w ∧ Owns G w w0.heap.size [⟨3, 1, ns17_1, .slice as17_1 ns17_1 cs17_1, clas17_1⟩, ⟨3, 1, ns17_0, .slice as17_0 ns17_0 cs17_0, clas17_0⟩] ∧ ns17_0 = s17.1.length ∧ Rd RInt 1 G clas17_0 s17.1 ∧ ns17_1 = s17.2.1.length ∧ Rd RInt 1 G clas17_1 s17.2.1) ?_ ?_)
    ·have hO : Owns G13 w12 w0.heap.size ([⟨3, 1, 0, .slice none 0 0, []⟩, ⟨3, 1, 0, .slice none 0 0, []⟩]) := hO
     exact ⟨_, G13, none, 0, 0, [], none, 0, 0, [], upds_self _ _ ⟨rfl, rfl, rfl, rfl, rfl, trivial⟩, Gle.refl _, hS, hO, rfl, (Rd.nil RInt 1 G13), rfl, (Rd.nil RInt 1 G13)⟩
    ·rintro s17 F w21 t20 ⟨Fb, G22, as17_0, ns17_0, cs17_0, clas17_0, as17_1, ns17_1, cs17_1, clas17_1, rfl, leG22, hS, hO, hnhs17_0, hs17_0, hnhs17_1, hs17_1⟩
     intro H1 hqq19
     have Hoq19 := H; have H := H1
     unfold f45_b0 at H
     refine WC_seq ?_; refine WC_region ?_; refine WL_val (rn_lss rfl rfl) rfl ?_; refine WL_nil ?_; refine WC_seq ?_; refine WC_cond rfl (fun hb23 => ?_) (fun hb23 => ?_)
     ·have H := ifT hb23 H; refine WC_skip ?_; refine WC_seq ?_; obtain ⟨q24, hq24, H⟩ := bnd H; refine WC_cut (fun F w => ∃ (Fb : Fr) (G : Gm) (aq24_0 : Option Addr) (nq24_0 cq24_0 : Nat) (claq24_0 : List Value) (aq24_1 : Option Addr) (nq24_1 cq24_1 : Nat) (claq24_1 : List Value), F = upds Fb [(1, .int .i64 x1), (2, .pointer (some ⟨b3, 0, none⟩)), (7, .slice aq24_0 nq24_0 cq24_0), (8, .slice aq24_1 nq24_1 cq24_1), (23, .int .i64 s17.2.2)] ∧ Gle G22 G ∧ Since w0.heap.size G0 w0 G w ∧ Owns G w w0.heap.size [⟨3, 1, nq24_1, .slice aq24_1 nq24_1 cq24_1, claq24_1⟩, ⟨3, 1, nq24_0, .slice aq24_0 nq24_0 cq24_0, claq24_0⟩] ∧ nq24_0 = q24.1.length ∧ Rd RInt 1 G claq24_0 q24.1 ∧ nq24_1 = q24.2.length ∧ Rd RInt 1 G claq24_1 q24.2) ?_ ?_
      ·have Hoq24 := H; have H := hq24; refine WC_block ?_; refine WC_seq ?_; refine WC_region ?_; refine WL_val (rn_move (v := (.int .i64 s17.2.2)) rfl) rfl ?_; refine WL_val (rn_assign (v := (.int .i64 s17.2.2)) rfl) rfl ?_; refine WL_nil ?_; refine WC_seq ?_; refine WC_region ?_; refine WL_val (rn_move (v := (.int .i64 x1)) rfl) rfl ?_; refine WL_val (rn_move (v := (.int .i64 s17.2.2)) rfl) rfl ?_
       refine WL_val (v := (.agg #[.int .i64 x1, .int .i64 s17.2.2])) (by kernel_rfl) rfl ?_
       refine WL_op rfl (OpP_newO (v := fun b => .pointer (some ⟨b, 0, none⟩)) (cs := [.int .i64 0, .int .i64 0]) (e := 82) (by kernel_rfl) hS.sat hO rfl 2 1 rfl (by decide) (fun b25 w26 hb hO => ?_))
       have hS := hS.keep hb; refine WL_op rfl (OpP_store (vs := [.int .i64 x1, .int .i64 s17.2.2]) sz82 hS hO (k := 0) rfl rfl rfl rfl rfl (one_all rfl) (Nat.le_of_ble_eq_true rfl) (fun w28 hS hO => ?_))
       have hO : Owns G22 w28 w0.heap.size ([⟨82, 2, 1, .slice (some ⟨b25, 0, none⟩) 1 1, [.int .i64 x1, .int .i64 s17.2.2]⟩, ⟨3, 1, ns17_1, .slice as17_1 ns17_1 cs17_1, clas17_1⟩, ⟨3, 1, ns17_0, .slice as17_0 ns17_0 cs17_0, clas17_0⟩]) := hO
       obtain ⟨G29, leG29, hS, hO, hqG29, _⟩ := hO.freeze hS (k := 0) rfl
       have hcG29 : Cells G29 b25 0 [.int .i64 x1, .int .i64 s17.2.2] := (hqG29 _ _ _ _ rfl)
       refine WL_nil ?_; refine WC_seq ?_; obtain ⟨q30, hq30, H⟩ := bnd H; refine WC_cut (fun F w => ∃ (Fb : Fr) (G : Gm) (aq30_0 : Option Addr) (nq30_0 cq30_0 : Nat) (claq30_0 : List Value), F = upds Fb [(1, .int .i64 x1), (2, .pointer (some ⟨b3, 0, none⟩)), (7, .slice aq30_0 nq30_0 cq30_0), (8, .slice as17_1 ns17_1 cs17_1), (9, .int .i64 s17.2.2), (10, .pointer (some ⟨b25, 0, none⟩)), (23, .int .i64 s17.2.2)] ∧ Gle G29 G ∧ Since w0.heap.size G0 w0 G w ∧ Owns G w w0.heap.size [⟨3, 1, ns17_1, .slice as17_1 ns17_1 cs17_1, clas17_1⟩, ⟨3, 1, nq30_0, .slice aq30_0 nq30_0 cq30_0, claq30_0⟩] ∧ nq30_0 = q30.length ∧ Rd RInt 1 G claq30_0 q30) ?_ ?_
       ·have Hoq30 := H; have H := hq30; refine WC_seq ?_; refine WC_region ?_
        have l1_4 := (leG13.trans leG22).trans leG29
        refine WL_val (rn_loadA ag27 (cs := [.slice a1 n1 c1, .int .i64 x0.Depth, .int .i64 x0.Draft, .slice a2 n2 c2, .int .i64 x0.Light.Low, .int .i64 x0.Light.High]) rfl rfl (fun j v hj => (hS.sat.le l1_4).cell (hcb3.drop_take 0 6 j v hj))) rfl ?_; refine WL_val (rn_loadA ag82 (cs := [.int .i64 x1, .int .i64 s17.2.2]) rfl rfl (fun j v hj => hS.sat.cell (hcG29.drop_take 0 2 j v hj))) rfl ?_; obtain ⟨y31, hy31, H⟩ := bnd H
        have l0_4 := leG5.trans l1_4
        refine WL_op rfl (OpP_callV cb80 (f80_ok (x0 := x0) (x1 := (⟨x1, s17.2.2⟩ : TShipCall)) hS.sat (h1.mono RInt_mono l0_4) (h2.mono RTSpan_mono l0_4) hy31) rfl rfl (fun w32 hb => ?_)); have hS := hS.keep hb; have hO := hO.below hb; refine WL_nil ?_; refine WC_cond rfl (fun hb33 => ?_) (fun hb33 => ?_)
        ·have H := ifT hb33 H; refine WC_region ?_; refine WL_val (rn_move (v := (.slice as17_0 ns17_0 cs17_0)) rfl) rfl ?_; refine WL_val (rn_move (v := (.int .i64 s17.2.2)) rfl) rfl ?_
         refine WL_op rfl (OpP_newF (v := fun b => .slice (some ⟨b, 0, none⟩) 1 1) (cs := [.int .i64 s17.2.2]) (e := 3) (by kernel_rfl) hS.sat rfl (fun b34 G36 w35 hg hcb34 => ?_))
         have hS := hS.grow hg; have hO := hO.grow hg
         have leG36 := hg.le
         have hfb34 : RSl RInt 1 G36 (some ⟨b34, 0, none⟩) 1 1 [s17.2.2] := RSl.of_rd hcb34 (Rd.cons (c := [.int .i64 s17.2.2]) rfl rfl (Rd.nil RInt 1 _)) rfl (by decide)
         obtain ⟨y37, hy37, H⟩ := bnd H
         have l3_5 := leG29.trans leG36
         refine WL_op rfl (OpP_append (k := 1) sl22 RInt_one hS hO rfl hnhs17_0 (hs17_0.mono RInt_mono l3_5) hfb34 hy37 rfl rfl rfl rfl rfl (fun aw38 cw38 w38 clw38 hS hO hrw38 => ?_))
         have hO : Owns G36 w38 w0.heap.size ([⟨3, 1, ns17_1, .slice as17_1 ns17_1 cs17_1, clas17_1⟩, ⟨3, 1, y37.length, .slice aw38 y37.length cw38, clw38⟩]) := hO
         refine WL_val (rn_assign (v := (.slice aw38 y37.length cw38)) rfl) rfl ?_; refine WL_nil ?_
         have hO : Owns G36 w38 w0.heap.size ([⟨3, 1, ns17_1, .slice as17_1 ns17_1 cs17_1, clas17_1⟩, ⟨3, 1, y37.length, .slice aw38 y37.length cw38, clw38⟩]) := hO
         have H := Option.some.inj H; subst H
         exact ⟨_, G36, aw38, y37.length, cw38, clw38, upds_self _ _ ⟨rfl, rfl, rfl, rfl, rfl, rfl, rfl, trivial⟩, leG36, hS, hO, rfl, hrw38⟩
        ·have H := ifF hb33 H; refine WC_skip ?_
         have hO : Owns G29 w32 w0.heap.size ([⟨3, 1, ns17_1, .slice as17_1 ns17_1 cs17_1, clas17_1⟩, ⟨3, 1, ns17_0, .slice as17_0 ns17_0 cs17_0, clas17_0⟩]) := hO
         have H := Option.some.inj H; subst H
         exact ⟨_, G29, as17_0, ns17_0, cs17_0, clas17_0, upds_self _ _ ⟨rfl, rfl, rfl, rfl, rfl, rfl, rfl, trivial⟩, Gle.refl _, hS, hO, hnhs17_0, (hs17_0.mono RInt_mono leG29)⟩
       ·rintro F w39 ⟨Fb, G40, aq30_0, nq30_0, cq30_0, claq30_0, rfl, leG40, hS, hO, hnhq30_0, hq30_0⟩
        refine WC_seq ?_; have hS := hS.keep (below_drew _); have hO := hO.below (below_drew _)
        refine WC_regionD mixedO (fun _ w => Sat G40 w ∧ Owns G40 w w0.heap.size [⟨3, 1, ns17_1, .slice as17_1 ns17_1 cs17_1, clas17_1⟩, ⟨3, 1, nq30_0, .slice aq30_0 nq30_0 cq30_0, claq30_0⟩]) (.fl 0 (.fl 1 (.fl 2 (.fl 3 (.fl 4 (.fl 5 (.fl 6 (.fl 7 (.on 8 (.on 9 .nil)))))))))) (by kernel_rfl) rfl (by kernel_rfl) (fun _ => ⟨hS.sat, hO⟩) ?_
        refine WD_val rfl (fun w hw => rn_loadA ag27 (cs := [.slice a1 n1 c1, .int .i64 x0.Depth, .int .i64 x0.Draft, .slice a2 n2 c2, .int .i64 x0.Light.Low, .int .i64 x0.Light.High]) rfl rfl (fun j v hj => (hw.1.le (((leG13.trans leG22).trans leG29).trans leG40)).cell (hcb3.drop_take 0 6 j v hj))) rfl ?_; refine WD_val rfl (fun w hw => rn_fld fd27_3 rfl) rfl ?_; refine WD_val rfl (fun w hw => rn_load na23 rfl ((hw.1.le (((leG13.trans leG22).trans leG29).trans leG40)).cell (hcb3 3 _ rfl))) rfl ?_; refine WD_val rfl (fun w hw => rn_move (v := (.int .i64 x1)) rfl) rfl ?_; obtain ⟨y41, hy41, H⟩ := bnd H
        have l0_5 := (((leG5.trans leG13).trans leG22).trans leG29).trans leG40
        refine WD_idx rfl sl23 (h2.mono RTSpan_mono l0_5) hy41 rfl rfl rfl ?_
        rintro b42 o42 _ hcb42 _ ⟨⟩
        refine WD_val rfl (fun w hw => rn_fld fd25_0 rfl) rfl ?_; refine WD_val rfl (fun w hw => rn_load na3 rfl (hw.1.cell (hcb42 0 _ rfl))) rfl ?_
        refine WD_val (v := (.agg #[.slice a1 n1 c1, .int .i64 x0.Depth, .int .i64 x0.Draft, .slice a2 n2 c2, .int .i64 x0.Light.Low, .int .i64 x0.Light.High, .int .i64 y41.Low])) rfl (fun w hw => by kernel_rfl) rfl ?_
        refine WD_op rfl rfl (OpP_val (rn_loadA ag82 (cs := [.int .i64 x1, .int .i64 s17.2.2]) rfl rfl (fun j v hj => (hS.sat.le leG40).cell (hcG29.drop_take 0 2 j v hj))) rfl ?_); refine ⟨fun _ _ => ⟨hS.sat, hO⟩, ?_⟩; obtain ⟨y43, hy43, H⟩ := bnd H; refine WD_op rfl rfl (OpP_callV cb81 (f81_ok (x0 := (⟨x0, y41.Low⟩ : TPass)) (x1 := (⟨x1, s17.2.2⟩ : TShipCall)) hS.sat (h1.mono RInt_mono l0_5) (h2.mono RTSpan_mono l0_5) hy43) rfl rfl (fun w44 hb => ?_)); have hS := hS.keep hb; have hO := hO.below hb
        refine ⟨fun _ h => noneed (by kernel_rfl) h, ?_⟩
        refine WD_nil ?_; refine WC_cond rfl (fun hb45 => ?_) (fun hb45 => ?_)
        ·have H := ifT hb45 H; refine WC_region ?_; refine WL_val (rn_move (v := (.slice as17_1 ns17_1 cs17_1)) rfl) rfl ?_; refine WL_val (rn_move (v := (.int .i64 s17.2.2)) rfl) rfl ?_
         refine WL_op rfl (OpP_newF (v := fun b => .slice (some ⟨b, 0, none⟩) 1 1) (cs := [.int .i64 s17.2.2]) (e := 3) (by kernel_rfl) hS.sat rfl (fun b46 G48 w47 hg hcb46 => ?_))
         have hS := hS.grow hg; have hO := hO.grow hg
         have leG48 := hg.le
         have hfb46 : RSl RInt 1 G48 (some ⟨b46, 0, none⟩) 1 1 [s17.2.2] := RSl.of_rd hcb46 (Rd.cons (c := [.int .i64 s17.2.2]) rfl rfl (Rd.nil RInt 1 _)) rfl (by decide)
         obtain ⟨y49, hy49, H⟩ := bnd H
         have l3_6 := (leG29.trans leG40).trans leG48
         refine WL_op rfl (OpP_append (k := 0) sl22 RInt_one hS hO rfl hnhs17_1 (hs17_1.mono RInt_mono l3_6) hfb46 hy49 rfl rfl rfl rfl rfl (fun aw50 cw50 w50 clw50 hS hO hrw50 => ?_))
         have hO : Owns G48 w50 w0.heap.size ([⟨3, 1, y49.length, .slice aw50 y49.length cw50, clw50⟩, ⟨3, 1, nq30_0, .slice aq30_0 nq30_0 cq30_0, claq30_0⟩]) := hO
         refine WL_val (rn_assign (v := (.slice aw50 y49.length cw50)) rfl) rfl ?_; refine WL_nil ?_
         have hO : Owns G48 w50 w0.heap.size ([⟨3, 1, y49.length, .slice aw50 y49.length cw50, clw50⟩, ⟨3, 1, nq30_0, .slice aq30_0 nq30_0 cq30_0, claq30_0⟩]) := hO
         have H := Option.some.inj H; subst H
         exact ⟨_, G48, aq30_0, nq30_0, cq30_0, claq30_0, aw50, y49.length, cw50, clw50, upds_self _ _ ⟨rfl, rfl, rfl, rfl, rfl, trivial⟩, l3_6, hS, hO, hnhq30_0, (hq30_0.mono RInt_mono leG48), rfl, hrw50⟩
        ·have H := ifF hb45 H; refine WC_skip ?_
         have hO : Owns G40 w44 w0.heap.size ([⟨3, 1, ns17_1, .slice as17_1 ns17_1 cs17_1, clas17_1⟩, ⟨3, 1, nq30_0, .slice aq30_0 nq30_0 cq30_0, claq30_0⟩]) := hO
         have H := Option.some.inj H; subst H
         have l3_5 := leG29.trans leG40
         exact ⟨_, G40, aq30_0, nq30_0, cq30_0, claq30_0, as17_1, ns17_1, cs17_1, clas17_1, upds_self _ _ ⟨rfl, rfl, rfl, rfl, rfl, trivial⟩, l3_5, hS, hO, hnhq30_0, hq30_0, hnhs17_1, (hs17_1.mono RInt_mono l3_5)⟩
      ·rintro F w51 ⟨Fb, G52, aq24_0, nq24_0, cq24_0, claq24_0, aq24_1, nq24_1, cq24_1, claq24_1, rfl, leG52, hS, hO, hnhq24_0, hq24_0, hnhq24_1, hq24_1⟩
       refine WC_region ?_; refine WL_val (rn_add rfl rfl) rfl ?_; refine WL_val (rn_move (v := (.int .i64 (IntKind.i64.wrap (s17.2.2 + 1)))) rfl) rfl ?_; refine WL_nil ?_
       have hO : Owns G52 w51 w0.heap.size ([⟨3, 1, nq24_1, .slice aq24_1 nq24_1 cq24_1, claq24_1⟩, ⟨3, 1, nq24_0, .slice aq24_0 nq24_0 cq24_0, claq24_0⟩]) := hO
       have H := Option.some.inj H; subst H; refine ⟨_, rfl, ?_⟩
       have l2_4 := leG22.trans leG52
       exact ⟨_, G52, aq24_0, nq24_0, cq24_0, claq24_0, aq24_1, nq24_1, cq24_1, claq24_1, upds_self _ _ ⟨rfl, rfl, rfl, rfl, rfl, trivial⟩, l2_4, hS, hO, hnhq24_0, hq24_0, hnhq24_1, hq24_1⟩
     ·have H := ifF hb23 H; refine WC_exit rfl ?_
      have hO : Owns G22 w21 w0.heap.size ([⟨3, 1, ns17_1, .slice as17_1 ns17_1 cs17_1, clas17_1⟩, ⟨3, 1, ns17_0, .slice as17_0 ns17_0 cs17_0, clas17_0⟩]) := hO
      have H := Option.some.inj H; subst H
      have hres := hqq19 _ rfl
      subst hres
      exact ⟨_, G22, as17_0, ns17_0, cs17_0, clas17_0, as17_1, ns17_1, cs17_1, clas17_1, upds_self _ _ ⟨rfl, rfl, trivial⟩, leG22, hS, hO, hnhs17_0, hs17_0, hnhs17_1, hs17_1⟩
   ·rintro F w53 ⟨Fb, G54, aq19_0, nq19_0, cq19_0, claq19_0, aq19_1, nq19_1, cq19_1, claq19_1, rfl, leG54, hS, hO, hnhq19_0, hq19_0, hnhq19_1, hq19_1⟩
    refine WC_seq ?_; refine WC_region ?_; refine WL_val (rn_move (v := (.slice aq19_0 nq19_0 cq19_0)) rfl) rfl ?_; refine WL_val (rn_move (v := (.slice aq19_1 nq19_1 cq19_1)) rfl) rfl ?_; refine WL_val (rn_assign (v := (.slice aq19_0 nq19_0 cq19_0)) rfl) rfl ?_; refine WL_val (rn_assign (v := (.slice aq19_1 nq19_1 cq19_1)) rfl) rfl ?_; refine WL_val (rn_assign (v := (.int .i64 0)) rfl) rfl ?_; refine WL_nil ?_; refine WC_ret ?_; obtain ⟨G55, leG55, hS, hO, hfG55⟩ := hO.freezeS hS RInt_mono (k := 1) rfl hq19_0 hnhq19_0; obtain ⟨G56, leG56, hS, hO, hfG56⟩ := hO.freezeS hS RInt_mono (k := 0) rfl (hq19_1.mono RInt_mono leG55) hnhq19_1
    have H : some (q19.1, q19.2, 0) = some r := H
    have H := Option.some.inj H; subst H
    exact ⟨_, _, rfl, hS.toGrow, _, _, _, _, _, _, rfl, (hfG55.mono RInt_mono leG56), hfG56⟩
set_option maxHeartbeats 1000000 in
theorem f82_ok {G0 : Gm} {w0 : World} (hS0 : Sat G0 w0) {x0 : TShipPass} {a1 : Option Addr} {n1 c1 : Nat} {a2 : Option Addr} {n2 c2 : Nat} {x1 : TShipCall} (h1 : RSl RInt 1 G0 a1 n1 c1 x0.Tides) (h2 : RSl RTSpan 2 G0 a2 n2 c2 x0.Swell) {r : Bool} (H : f82 x0 x1 = some r) :
  Calls Try.prog 82 #[.agg #[.slice a1 n1 c1, .int .i64 x0.Depth, .int .i64 x0.Draft, .slice a2 n2 c2, .int .i64 x0.Light.Low, .int .i64 x0.Light.High], .agg #[.int .i64 x1.Day, .int .i64 x1.Hour]] w0 (RetV w0 (.bool r)) := by
 have hS := Since.start hS0
 have hO : Owns G0 w0 w0.heap.size [] := Owns.nil (Nat.le_refl _)
 unfold f82 at H
 refine enter1 (N := 17) (shutV _ _) Try.func82 rfl rfl rfl rfl ?_; refine WC_seq ?_; refine WC_region ?_; refine WL_op rfl (OpP_newF (v := fun b => .pointer (some ⟨b, 0, none⟩)) (cs := [.slice a1 n1 c1, .int .i64 x0.Depth, .int .i64 x0.Draft, .slice a2 n2 c2, .int .i64 x0.Light.Low, .int .i64 x0.Light.High]) (e := 27) (rn_boxA rfl) hS.sat rfl (fun b3 G5 w4 hg hcb3 => ?_)); have hS := hS.grow hg; have hO := hO.grow hg
 have leG5 := hg.le
 refine WL_op rfl (OpP_newF (v := fun b => .pointer (some ⟨b, 0, none⟩)) (cs := [.int .i64 x1.Day, .int .i64 x1.Hour]) (e := 82) (rn_boxA rfl) hS.sat rfl (fun b6 G8 w7 hg hcb6 => ?_)); have hS := hS.grow hg; have hO := hO.grow hg
 have leG8 := hg.le
 refine WL_val (rn_assign (v := (.bool false)) rfl) rfl ?_; refine WL_nil ?_; refine WC_seq ?_; obtain ⟨q9, hq9, H⟩ := bnd H; refine WC_cut (fun F w => ∃ (Fb : Fr) (G : Gm), F = upds Fb [(4, .bool q9)] ∧ Gle G8 G ∧ Since w0.heap.size G0 w0 G w ∧ Owns G w w0.heap.size []) ?_ ?_
 ·have Hoq9 := H; have H := hq9; refine WC_region ?_; refine WL_val (rn_fld fd82_0 rfl) rfl ?_; refine WL_val (rn_load na3 rfl (hS.sat.cell (hcb6 0 _ rfl))) rfl ?_; refine WL_val (rn_fld fd27_3 rfl) rfl ?_; refine WL_val (rn_load na23 rfl ((hS.sat.le leG8).cell (hcb3 3 _ rfl))) rfl ?_
  have l0_2 := leG5.trans leG8
  refine WL_val (rn_len sl23 rfl rfl (h2.mono RTSpan_mono l0_2).1) rfl ?_; refine WL_val (rn_sub rfl rfl) rfl ?_; obtain ⟨y10, hy10, H⟩ := bnd H; refine WL_op rfl (OpP_callV cb62 (f62_ok (x0 := x1.Day) (x1 := 0) (x2 := IntKind.i64.wrap ((x0.Swell.length : Int) - 1)) hS.sat  hy10) rfl rfl (fun w11 hb => ?_)); have hS := hS.keep hb; have hO := hO.below hb; refine WL_val (rn_move (v := (.bool y10)) rfl) rfl ?_
  rcases bcases y10 with hb12 | hb12
  ·have H := ifT hb12 H; refine WL_guardY rfl hb12 rfl rfl ?_; refine WL_val (rn_fld fd82_1 rfl) rfl ?_; refine WL_guardY rfl hb12 rfl rfl ?_; refine WL_val (rn_load na3 rfl (hS.sat.cell (hcb6 1 _ rfl))) rfl ?_; refine WL_guardY rfl hb12 rfl rfl ?_; obtain ⟨y13, hy13, H⟩ := bnd H; refine WL_op rfl (OpP_callV cb62 (f62_ok (x0 := x1.Hour) (x1 := 0) (x2 := 23) hS.sat  hy13) rfl rfl (fun w14 hb => ?_)); have hS := hS.keep hb; have hO := hO.below hb; refine WL_val (rn_pickT (v := (.bool y13)) rfl hb12 rfl) rfl ?_; refine WL_val (rn_assign (v := (.bool y13)) rfl) rfl ?_; refine WL_nil ?_
   have hO : Owns G8 w14 w0.heap.size ([]) := hO
   have H := Option.some.inj H; subst H
   exact ⟨_, G8, upds_self _ _ ⟨rfl, trivial⟩, Gle.refl _, hS, hO⟩
  ·have H := ifF hb12 H; refine WL_guardN rfl hb12 rfl rfl rfl ?_; refine WL_guardN rfl hb12 rfl rfl rfl ?_; refine WL_guardN rfl hb12 rfl rfl rfl ?_; refine WL_val (rn_pickF (v := (.bool false)) rfl hb12 rfl) rfl ?_; refine WL_val (rn_assign (v := (.bool false)) rfl) rfl ?_; refine WL_nil ?_
   have hO : Owns G8 w11 w0.heap.size ([]) := hO
   have H := Option.some.inj H; subst H
   exact ⟨_, G8, upds_self _ _ ⟨rfl, trivial⟩, Gle.refl _, hS, hO⟩
 ·rintro F w15 ⟨Fb, G16, rfl, leG16, hS, hO⟩
  refine WC_ret ?_
  have H : some q9 = some r := H
  have H := Option.some.inj H; subst H
  exact ⟨rfl, hS.below⟩
set_option maxHeartbeats 1000000 in
theorem f48_ok {G0 : Gm} {w0 : World} (hS0 : Sat G0 w0) {x0 : TShipPass} {a1 : Option Addr} {n1 c1 : Nat} {a2 : Option Addr} {n2 c2 : Nat} {x1 : TShipCall} (h1 : RSl RInt 1 G0 a1 n1 c1 x0.Tides) (h2 : RSl RTSpan 2 G0 a2 n2 c2 x0.Swell) {r : TShipCall × Int} (H : f48 x0 x1 = some r) :
  Calls Try.prog 48 #[.agg #[.slice a1 n1 c1, .int .i64 x0.Depth, .int .i64 x0.Draft, .slice a2 n2 c2, .int .i64 x0.Light.Low, .int .i64 x0.Light.High], .agg #[.int .i64 x1.Day, .int .i64 x1.Hour]] w0 (RetV w0 (.tuple #[.agg #[.int .i64 r.1.Day, .int .i64 r.1.Hour], .int .i64 r.2])) := by
 have hS := Since.start hS0
 have hO : Owns G0 w0 w0.heap.size [] := Owns.nil (Nat.le_refl _)
 unfold f48 at H
 refine enterG (N := 23) (shutV _ _) [.cell 4 82, .cell 5 31] Try.func48 rfl rfl rfl rfl ?_; refine WC_seq ?_; refine WC_region ?_; refine WL_op rfl (OpP_newF (v := fun b => .pointer (some ⟨b, 0, none⟩)) (cs := [.slice a1 n1 c1, .int .i64 x0.Depth, .int .i64 x0.Draft, .slice a2 n2 c2, .int .i64 x0.Light.Low, .int .i64 x0.Light.High]) (e := 27) (rn_boxA rfl) hS.sat rfl (fun b3 G5 w4 hg hcb3 => ?_)); have hS := hS.grow hg; have hO := hO.grow hg
 have leG5 := hg.le
 refine WL_op rfl (OpP_newF (v := fun b => .pointer (some ⟨b, 0, none⟩)) (cs := [.int .i64 x1.Day, .int .i64 x1.Hour]) (e := 82) (rn_boxA rfl) hS.sat rfl (fun b6 G8 w7 hg hcb6 => ?_)); have hS := hS.grow hg; have hO := hO.grow hg
 have leG8 := hg.le
 refine WL_op rfl (OpP_newO (v := fun b => .pointer (some ⟨b, 0, none⟩)) (cs := [.int .i64 0, .int .i64 0]) (e := 82) (by kernel_rfl) hS.sat hO rfl 2 1 rfl (by decide) (fun b9 w10 hb hO => ?_))
 have hS := hS.keep hb
 refine WL_op rfl (OpP_newO (v := fun b => .pointer (some ⟨b, 0, none⟩)) (cs := [.int .i64 0]) (e := 31) (by kernel_rfl) hS.sat hO rfl 1 1 rfl (by decide) (fun b12 w13 hb hO => ?_))
 have hS := hS.keep hb; refine WL_nil ?_; refine WC_seq ?_; refine WC_seq ?_; obtain ⟨q15, hq15, H⟩ := bnd H; refine WC_cut (fun F w => ∃ (Fb : Fr) (G : Gm), F = upds Fb [(2, .pointer (some ⟨b3, 0, none⟩)), (3, .pointer (some ⟨b6, 0, none⟩)), (4, .pointer (some ⟨b9, 0, none⟩)), (5, .pointer (some ⟨b12, 0, none⟩)), (15, .bool q15)] ∧ Gle G8 G ∧ Since w0.heap.size G0 w0 G w ∧ Owns G w w0.heap.size [⟨31, 1, 1, .slice (some ⟨b12, 0, none⟩) 1 1, [.int .i64 0]⟩, ⟨82, 2, 1, .slice (some ⟨b9, 0, none⟩) 1 1, [.int .i64 0, .int .i64 0]⟩]) ?_ ?_
 ·have Hoq15 := H; have H := hq15; refine WC_region ?_; refine WL_val (rn_loadA ag27 (cs := [.slice a1 n1 c1, .int .i64 x0.Depth, .int .i64 x0.Draft, .slice a2 n2 c2, .int .i64 x0.Light.Low, .int .i64 x0.Light.High]) rfl rfl (fun j v hj => (hS.sat.le leG8).cell (hcb3.drop_take 0 6 j v hj))) rfl ?_; obtain ⟨y16, hy16, H⟩ := bnd H
  have l0_2 := leG5.trans leG8
  refine WL_op rfl (OpP_callV cb60 (f60_ok (x0 := x0) hS.sat (h1.mono RInt_mono l0_2) (h2.mono RTSpan_mono l0_2) hy16) rfl rfl (fun w17 hb => ?_)); have hS := hS.keep hb; have hO := hO.below hb; refine WL_val (rn_not rfl) rfl ?_; refine WL_val (rn_move (v := (.bool (!y16))) rfl) rfl ?_
  rcases bcases (!y16) with hb18 | hb18
  ·have H := ifT hb18 H; refine WL_guardN rfl hb18 rfl rfl rfl ?_; refine WL_guardN rfl hb18 rfl rfl rfl ?_; refine WL_guardN rfl hb18 rfl rfl rfl ?_; refine WL_guardN rfl hb18 rfl rfl rfl ?_; refine WL_val (rn_pickT (v := (.bool true)) rfl hb18 rfl) rfl ?_; refine WL_nil ?_
   have hO : Owns G8 w17 w0.heap.size ([⟨31, 1, 1, .slice (some ⟨b12, 0, none⟩) 1 1, [.int .i64 0]⟩, ⟨82, 2, 1, .slice (some ⟨b9, 0, none⟩) 1 1, [.int .i64 0, .int .i64 0]⟩]) := hO
   have H := Option.some.inj H; subst H
   exact ⟨_, G8, upds_self _ _ ⟨rfl, rfl, rfl, rfl, rfl, trivial⟩, Gle.refl _, hS, hO⟩
  ·have H := ifF hb18 H; refine WL_guardY rfl hb18 rfl rfl ?_; refine WL_val (rn_loadA ag27 (cs := [.slice a1 n1 c1, .int .i64 x0.Depth, .int .i64 x0.Draft, .slice a2 n2 c2, .int .i64 x0.Light.Low, .int .i64 x0.Light.High]) rfl rfl (fun j v hj => (hS.sat.le leG8).cell (hcb3.drop_take 0 6 j v hj))) rfl ?_; refine WL_guardY rfl hb18 rfl rfl ?_; refine WL_val (rn_loadA ag82 (cs := [.int .i64 x1.Day, .int .i64 x1.Hour]) rfl rfl (fun j v hj => hS.sat.cell (hcb6.drop_take 0 2 j v hj))) rfl ?_; refine WL_guardY rfl hb18 rfl rfl ?_; obtain ⟨y19, hy19, H⟩ := bnd H; refine WL_op rfl (OpP_callV cb82 (f82_ok (x0 := x0) (x1 := x1) hS.sat (h1.mono RInt_mono l0_2) (h2.mono RTSpan_mono l0_2) hy19) rfl rfl (fun w20 hb => ?_)); have hS := hS.keep hb; have hO := hO.below hb; refine WL_guardY rfl hb18 rfl rfl ?_; refine WL_val (rn_not rfl) rfl ?_; refine WL_val (rn_pickF (v := (.bool (!y19))) rfl hb18 rfl) rfl ?_; refine WL_nil ?_
   have hO : Owns G8 w20 w0.heap.size ([⟨31, 1, 1, .slice (some ⟨b12, 0, none⟩) 1 1, [.int .i64 0]⟩, ⟨82, 2, 1, .slice (some ⟨b9, 0, none⟩) 1 1, [.int .i64 0, .int .i64 0]⟩]) := hO
   have H := Option.some.inj H; subst H
   exact ⟨_, G8, upds_self _ _ ⟨rfl, rfl, rfl, rfl, rfl, trivial⟩, Gle.refl _, hS, hO⟩
 ·rintro F w21 ⟨Fb, G22, rfl, leG22, hS, hO⟩
  refine WC_cond rfl (fun hb23 => ?_) (fun hb23 => ?_)
  ·have H := ifT hb23 H; refine WC_seq ?_; refine WC_region ?_
   refine WL_val (v := (.agg #[.int .i64 0, .int .i64 0])) (by kernel_rfl) rfl ?_
   refine WL_op rfl (OpP_store (vs := [.int .i64 0, .int .i64 0]) sz82 hS hO (k := 1) rfl rfl rfl rfl rfl (one_all rfl) (Nat.le_of_ble_eq_true rfl) (fun w24 hS hO => ?_))
   have hO : Owns G22 w24 w0.heap.size ([⟨31, 1, 1, .slice (some ⟨b12, 0, none⟩) 1 1, [.int .i64 0]⟩, ⟨82, 2, 1, .slice (some ⟨b9, 0, none⟩) 1 1, [.int .i64 0, .int .i64 0]⟩]) := hO
   refine WL_op rfl (OpP_store (vs := [.int .i64 2]) sz31 hS hO (k := 0) rfl rfl rfl rfl rfl (one_all rfl) (Nat.le_of_ble_eq_true rfl) (fun w25 hS hO => ?_))
   have hO : Owns G22 w25 w0.heap.size ([⟨31, 1, 1, .slice (some ⟨b12, 0, none⟩) 1 1, [.int .i64 2]⟩, ⟨82, 2, 1, .slice (some ⟨b9, 0, none⟩) 1 1, [.int .i64 0, .int .i64 0]⟩]) := hO
   refine WL_nil ?_; refine WC_ret ?_
   have H : some ((⟨0, 0⟩ : TShipCall), 2) = some r := H
   have H := Option.some.inj H; subst H
   exact ⟨[.agg #[.int .i64 0, .int .i64 0], .int .i64 2], ⟨⟨_, rfl, ld_agg (cs := [.int .i64 0, .int .i64 0]) ag82 rfl (fun j v hj => own_sub hO (k := 1) rfl 0 2 j v hj)⟩, ⟨_, rfl, ld_one na31 (own_cell hO (k := 0) rfl (j := 0) rfl)⟩, trivial⟩, ⟨rfl, hS.below⟩⟩
  ·have H := ifF hb23 H; refine WC_skip ?_; refine WC_seq ?_; refine WC_seq ?_; refine WC_region ?_
   have l1_3 := leG8.trans leG22
   refine WL_val (rn_loadA ag27 (cs := [.slice a1 n1 c1, .int .i64 x0.Depth, .int .i64 x0.Draft, .slice a2 n2 c2, .int .i64 x0.Light.Low, .int .i64 x0.Light.High]) rfl rfl (fun j v hj => (hS.sat.le l1_3).cell (hcb3.drop_take 0 6 j v hj))) rfl ?_; refine WL_val (rn_loadA ag82 (cs := [.int .i64 x1.Day, .int .i64 x1.Hour]) rfl rfl (fun j v hj => (hS.sat.le leG22).cell (hcb6.drop_take 0 2 j v hj))) rfl ?_; refine WL_op rfl (OpP_in1 (N' := 6) [.agg #[.slice a1 n1 c1, .int .i64 x0.Depth, .int .i64 x0.Draft, .slice a2 n2 c2, .int .i64 x0.Light.Low, .int .i64 x0.Light.High], .agg #[.int .i64 x1.Day, .int .i64 x1.Hour]] cb64 Try.func64 rfl rfl rfl rfl rfl rfl ?_); refine WC_seq ?_; refine WC_region ?_; refine WL_op rfl (OpP_newF (v := fun b => .pointer (some ⟨b, 0, none⟩)) (cs := [.slice a1 n1 c1, .int .i64 x0.Depth, .int .i64 x0.Draft, .slice a2 n2 c2, .int .i64 x0.Light.Low, .int .i64 x0.Light.High]) (e := 27) (rn_boxA rfl) hS.sat rfl (fun b26 G28 w27 hg hcb26 => ?_)); have hS := hS.grow hg; have hO := hO.grow hg
   have leG28 := hg.le
   refine WL_op rfl (OpP_newF (v := fun b => .pointer (some ⟨b, 0, none⟩)) (cs := [.int .i64 x1.Day, .int .i64 x1.Hour]) (e := 82) (rn_boxA rfl) hS.sat rfl (fun b29 G31 w30 hg hcb29 => ?_)); have hS := hS.grow hg; have hO := hO.grow hg
   have leG31 := hg.le
   refine WL_val (rn_assign (v := .nilFunc) rfl) rfl ?_; refine WL_nil ?_; refine WC_seq ?_; refine WC_region ?_; obtain ⟨y32, hy32, H⟩ := bnd H
   have l0_5 := ((leG5.trans l1_3).trans leG28).trans leG31
   have hI33 := f89_ok (x0 := x0) (x1 := x1) hcb29 (hcb26.mono leG31) (h1.mono RInt_mono l0_5) (h2.mono RTSpan_mono l0_5) hy32
   refine WL_val (rn_func (vs := []) (us := [.pointer (some ⟨b29, 0, none⟩), .pointer (some ⟨b26, 0, none⟩)]) rfl rfl) rfl ?_; refine WL_val (rn_assign (v := (.func (.func 89) ([]).toArray ([.pointer (some ⟨b29, 0, none⟩), .pointer (some ⟨b26, 0, none⟩)]).toArray)) rfl) rfl ?_; refine WL_nil ?_; refine WC_ret ?_; refine ⟨(.func (.func 89) ([]).toArray ([.pointer (some ⟨b29, 0, none⟩), .pointer (some ⟨b26, 0, none⟩)]).toArray), rfl, ?_⟩
   have hO : Owns G31 w30 w0.heap.size ([⟨31, 1, 1, .slice (some ⟨b12, 0, none⟩) 1 1, [.int .i64 0]⟩, ⟨82, 2, 1, .slice (some ⟨b9, 0, none⟩) 1 1, [.int .i64 0, .int .i64 0]⟩]) := hO
   refine WL_nil ?_; refine WC_block ?_
   have hO : Owns G31 w30 w0.heap.size ([⟨31, 1, 1, .slice (some ⟨b12, 0, none⟩) 1 1, [.int .i64 0]⟩, ⟨82, 2, 1, .slice (some ⟨b9, 0, none⟩) 1 1, [.int .i64 0, .int .i64 0]⟩]) := hO
   obtain ⟨q36, hq36, H⟩ := bnd H; refine WC_range (xs := y32) (enc := encC) (bd := f48_b0) (fi := []) (ca := [.pointer (some ⟨b29, 0, none⟩), .pointer (some ⟨b26, 0, none⟩)]) cb89 hI33 rfl (fun _ => rfl) rfl hq36 (fun (s34 : TShipCall) (G : Gm) (L : List Row) => L = [⟨31, 1, 1, .slice (some ⟨b12, 0, none⟩) 1 1, [.int .i64 0]⟩, ⟨82, 2, 1, .slice (some ⟨b9, 0, none⟩) 1 1, [.int .i64 s34.Day, .int .i64 s34.Hour]⟩]) (fun (p49 : TShipCall) (c50 : Code) (G : Gm) (L : List Row) => (∃ (s34 : TShipCall), s34 = p49 ∧ c50 = .ret ∧ L = [⟨31, 1, 1, .slice (some ⟨b12, 0, none⟩) 1 1, [.int .i64 0]⟩, ⟨82, 2, 1, .slice (some ⟨b9, 0, none⟩) 1 1, [.int .i64 s34.Day, .int .i64 s34.Hour]⟩])) ?_ hS hO rfl [] ?_ ?_ ?_
   ·rintro s34 G1 G2 L hle rfl
    exact rfl
   ·rintro l51 y35 s34 t37 G39 w38 L52 Lx40 leG39 hS hO rfl H1 hqq36
    have hO : Owns G39 w38 w0.heap.size (⟨31, 1, 1, .slice (some ⟨b12, 0, none⟩) 1 1, [.int .i64 0]⟩ :: ⟨82, 2, 1, .slice (some ⟨b9, 0, none⟩) 1 1, [.int .i64 s34.Day, .int .i64 s34.Hour]⟩ :: Lx40) := hO
    have Hoq36 := H; have H := H1
    unfold f48_b0 at H
    refine WC_region ?_
    refine WL_op rfl (OpP_newO (v := fun b => .pointer (some ⟨b, 0, none⟩)) (cs := [.int .i64 0, .int .i64 0]) (e := 82) (by kernel_rfl) hS.sat hO rfl 2 1 rfl (by decide) (fun b41 w42 hb hO => ?_))
    have hS := hS.keep hb; refine WL_op rfl (OpP_store (vs := [.int .i64 y35.Day, .int .i64 y35.Hour]) sz82 hS hO (k := 0) rfl rfl rfl rfl rfl (one_all rfl) (Nat.le_of_ble_eq_true rfl) (fun w44 hS hO => ?_))
    have hO : Owns G39 w44 w0.heap.size (⟨82, 2, 1, .slice (some ⟨b41, 0, none⟩) 1 1, [.int .i64 y35.Day, .int .i64 y35.Hour]⟩ :: ⟨31, 1, 1, .slice (some ⟨b12, 0, none⟩) 1 1, [.int .i64 0]⟩ :: ⟨82, 2, 1, .slice (some ⟨b9, 0, none⟩) 1 1, [.int .i64 s34.Day, .int .i64 s34.Hour]⟩ :: Lx40) := hO
    obtain ⟨G45, leG45, hS, hO, hqG45, _⟩ := hO.freeze hS (k := 0) rfl
    have hcG45 : Cells G45 b41 0 [.int .i64 y35.Day, .int .i64 y35.Hour] := (hqG45 _ _ _ _ rfl)
    refine WL_nil ?_
    intro w46 hfix
    have hS := hS.fix hfix; have hO := hO.fix hfix; refine WC_block ?_; refine WC_seq ?_; refine WC_region ?_; refine WL_val (rn_loadA ag82 (cs := [.int .i64 y35.Day, .int .i64 y35.Hour]) rfl rfl (fun j v hj => hS.sat.cell (hcG45.drop_take 0 2 j v hj))) rfl ?_; refine WL_op rfl (OpP_store (vs := [.int .i64 y35.Day, .int .i64 y35.Hour]) sz82 hS hO (k := 1) rfl rfl rfl rfl rfl (one_all rfl) (Nat.le_of_ble_eq_true rfl) (fun w47 hS hO => ?_))
    have hO : Owns G45 w47 w0.heap.size (⟨31, 1, 1, .slice (some ⟨b12, 0, none⟩) 1 1, [.int .i64 0]⟩ :: ⟨82, 2, 1, .slice (some ⟨b9, 0, none⟩) 1 1, [.int .i64 y35.Day, .int .i64 y35.Hour]⟩ :: Lx40) := hO
    refine WL_op rfl (OpP_store (vs := [.int .i64 0]) sz31 hS hO (k := 0) rfl rfl rfl rfl rfl (one_all rfl) (Nat.le_of_ble_eq_true rfl) (fun w48 hS hO => ?_))
    have hO : Owns G45 w48 w0.heap.size (⟨31, 1, 1, .slice (some ⟨b12, 0, none⟩) 1 1, [.int .i64 0]⟩ :: ⟨82, 2, 1, .slice (some ⟨b9, 0, none⟩) 1 1, [.int .i64 y35.Day, .int .i64 y35.Hour]⟩ :: Lx40) := hO
    refine WL_nil ?_; refine WC_ret ?_
    have hO : Owns G45 w48 w0.heap.size (⟨31, 1, 1, .slice (some ⟨b12, 0, none⟩) 1 1, [.int .i64 0]⟩ :: ⟨82, 2, 1, .slice (some ⟨b9, 0, none⟩) 1 1, [.int .i64 y35.Day, .int .i64 y35.Hour]⟩ :: Lx40) := hO
    have H := Option.some.inj H; subst H
    exact ⟨_, rfl, _, [⟨31, 1, 1, .slice (some ⟨b12, 0, none⟩) 1 1, [.int .i64 0]⟩, ⟨82, 2, 1, .slice (some ⟨b9, 0, none⟩) 1 1, [.int .i64 y35.Day, .int .i64 y35.Hour]⟩], leG45, hS, hO, ⟨_, rfl, rfl, rfl⟩⟩
   ·rintro s34 G54 w53 L57 hres leG54 hS hO rfl
    subst hres; refine WC_seq ?_; refine WC_region ?_
    refine WL_val (v := (.agg #[.int .i64 0, .int .i64 0])) (by kernel_rfl) rfl ?_
    refine WL_op rfl (OpP_store (vs := [.int .i64 0, .int .i64 0]) sz82 hS hO (k := 1) rfl rfl rfl rfl rfl (one_all rfl) (Nat.le_of_ble_eq_true rfl) (fun w55 hS hO => ?_))
    have hO : Owns G54 w55 w0.heap.size ([⟨31, 1, 1, .slice (some ⟨b12, 0, none⟩) 1 1, [.int .i64 0]⟩, ⟨82, 2, 1, .slice (some ⟨b9, 0, none⟩) 1 1, [.int .i64 0, .int .i64 0]⟩]) := hO
    refine WL_op rfl (OpP_store (vs := [.int .i64 5]) sz31 hS hO (k := 0) rfl rfl rfl rfl rfl (one_all rfl) (Nat.le_of_ble_eq_true rfl) (fun w56 hS hO => ?_))
    have hO : Owns G54 w56 w0.heap.size ([⟨31, 1, 1, .slice (some ⟨b12, 0, none⟩) 1 1, [.int .i64 5]⟩, ⟨82, 2, 1, .slice (some ⟨b9, 0, none⟩) 1 1, [.int .i64 0, .int .i64 0]⟩]) := hO
    refine WL_nil ?_; refine WC_ret ?_
    have H : some ((⟨0, 0⟩ : TShipCall), 5) = some r := H
    have H := Option.some.inj H; subst H
    exact ⟨[.agg #[.int .i64 0, .int .i64 0], .int .i64 5], ⟨⟨_, rfl, ld_agg (cs := [.int .i64 0, .int .i64 0]) ag82 rfl (fun j v hj => own_sub hO (k := 1) rfl 0 2 j v hj)⟩, ⟨_, rfl, ld_one na31 (own_cell hO (k := 0) rfl (j := 0) rfl)⟩, trivial⟩, ⟨rfl, hS.below⟩⟩
   ·rintro _ _ G54z w53z _ hres _ leG54z hS hO ⟨s34, rfl, rfl, rfl⟩
    subst hres; refine WC_ret ?_
    have H : some (s34, 0) = some r := H
    have H := Option.some.inj H; subst H
    exact ⟨[.agg #[.int .i64 s34.Day, .int .i64 s34.Hour], .int .i64 0], ⟨⟨_, rfl, ld_agg (cs := [.int .i64 s34.Day, .int .i64 s34.Hour]) ag82 rfl (fun j v hj => own_sub hO (k := 1) rfl 0 2 j v hj)⟩, ⟨_, rfl, ld_one na31 (own_cell hO (k := 0) rfl (j := 0) rfl)⟩, trivial⟩, ⟨rfl, hS.below⟩⟩
set_option maxHeartbeats 1000000 in
theorem f56_ok {G0 : Gm} {w0 : World} (hS0 : Sat G0 w0) {x0 : (List TShipWant)} {a1 : Option Addr} {n1 c1 : Nat} {x1 : (List TShipWant)} {a2 : Option Addr} {n2 c2 : Nat} (h1 : RSl RTShipWant 2 G0 a1 n1 c1 x0) (h2 : RSl RTShipWant 2 G0 a2 n2 c2 x1) {r : Bool} (H : f56 x0 x1 = some r) :
  Calls Try.prog 56 #[.slice a1 n1 c1, .slice a2 n2 c2] w0 (RetV w0 (.bool r)) := by
 have hS := Since.start hS0
 have hO : Owns G0 w0 w0.heap.size [] := Owns.nil (Nat.le_refl _)
 unfold f56 at H
 refine enter1 (N := 26) (shutV _ _) Try.func56 rfl rfl rfl rfl ?_; refine WC_seq ?_; refine WC_region ?_; refine WL_val (rn_assign (v := (.bool false)) rfl) rfl ?_; refine WL_nil ?_; refine WC_seq ?_; refine WC_seq ?_; refine WC_region ?_; refine WL_val (rn_move (v := (.slice a1 n1 c1)) rfl) rfl ?_; refine WL_val (rn_len sl55 rfl rfl h1.1) rfl ?_; refine WL_val (rn_move (v := (.slice a2 n2 c2)) rfl) rfl ?_; refine WL_val (rn_len sl55 rfl rfl h2.1) rfl ?_; refine WL_val (rn_neq rfl rfl) rfl ?_; refine WL_nil ?_; refine WC_cond rfl (fun hb3 => ?_) (fun hb3 => ?_)
 ·have H := ifT hb3 H; refine WC_seq ?_; refine WC_region ?_; refine WL_val (rn_assign (v := (.bool false)) rfl) rfl ?_; refine WL_nil ?_; refine WC_ret ?_
  have H : some false = some r := H
  have H := Option.some.inj H; subst H
  exact ⟨rfl, hS.below⟩
 ·have H := ifF hb3 H; refine WC_skip ?_; refine WC_seq ?_; refine WC_seq ?_; refine WC_region ?_; refine WL_val (rn_assign (v := (.int .i64 0)) rfl) rfl ?_; refine WL_nil ?_; obtain ⟨q6, hq6, H⟩ := bnd H; refine WC_cut (fun F w => ∃ (p5 : Unit) (Fb : Fr) (G : Gm), q6 = .inl p5 ∧ F = upds Fb [] ∧ Gle G0 G ∧ Since w0.heap.size G0 w0 G w ∧ Owns G w w0.heap.size []) ?_ ?_
  ·refine WC_block (WC_loop hq6 (fun s4 F w => ∃ (Fb : Fr) (G : Gm), F = upds Fb [(0, .slice a1 n1 c1), (1, .slice a2 n2 c2), (5, .int .i64 s4)] ∧ Gle G0 G ∧ Since w0.heap.size G0 w0 G w ∧ Owns G w w0.heap.size []) ?_ ?_)
   ·have hO : Owns G0 w0 w0.heap.size ([]) := hO
    exact ⟨_, G0, upds_self _ _ ⟨rfl, rfl, rfl, trivial⟩, Gle.refl _, hS, hO⟩
   ·rintro s4 F w8 t7 ⟨Fb, G9, rfl, leG9, hS, hO⟩
    intro H1 hqq6
    have Hoq6 := H; have H := H1
    unfold f56_b0 at H
    refine WC_seq ?_; refine WC_seq ?_; refine WC_region ?_; refine WL_val (rn_move (v := (.int .i64 s4)) rfl) rfl ?_; refine WL_val (rn_move (v := (.slice a1 n1 c1)) rfl) rfl ?_; refine WL_val (rn_len sl55 rfl rfl (h1.mono RTShipWant_mono leG9).1) rfl ?_; refine WL_val (rn_lss rfl rfl) rfl ?_; refine WL_nil ?_; refine WC_cond rfl (fun hb10 => ?_) (fun hb10 => ?_)
    ·have H := ifT hb10 H; refine WC_skip ?_; refine WC_seq ?_; refine WC_block ?_; refine WC_seq ?_; have hS := hS.keep (below_drew _); have hO := hO.below (below_drew _)
     refine WC_regionD mixedO (fun _ w => Sat G9 w ∧ True) (.fl 0 (.fl 1 (.fl 2 (.fl 3 (.fl 4 (.on 5 (.on 6 (.on 7 (.on 8 .nil))))))))) (by kernel_rfl) rfl (by kernel_rfl) (fun _ => ⟨hS.sat, trivial⟩) ?_
     refine WD_val rfl (fun w hw => rn_move (v := (.slice a1 n1 c1)) rfl) rfl ?_; refine WD_val rfl (fun w hw => rn_move (v := (.int .i64 s4)) rfl) rfl ?_; obtain ⟨y11, hy11, H⟩ := bnd H; refine WD_idx rfl sl55 (h1.mono RTShipWant_mono leG9) hy11 rfl rfl rfl ?_
     rintro b12 o12 _ hcb12 _ ⟨⟩
     refine WD_val rfl (fun w hw => rn_loadA ag59 (cs := [.int .i64 y11.May, .int .i64 y11.Must]) rfl rfl (fun j v hj => hw.1.cell (hcb12.drop_take 0 2 j v hj))) rfl ?_; refine WD_val rfl (fun w hw => rn_move (v := (.slice a2 n2 c2)) rfl) rfl ?_; refine WD_op rfl rfl (OpP_val (rn_move (v := (.int .i64 s4)) rfl) rfl ?_); refine ⟨fun _ _ => ⟨hS.sat, trivial⟩, ?_⟩; obtain ⟨y13, hy13, H⟩ := bnd H; refine WD_op rfl rfl (OpP_idx sl55 (h2.mono RTShipWant_mono leG9) hy13 rfl rfl rfl ?_)
     rintro b14 o14 _ hcb14 _ ⟨⟩
     refine ⟨fun _ _ => ⟨hS.sat, trivial⟩, ?_⟩; refine WD_op rfl rfl (OpP_val (rn_loadA ag59 (cs := [.int .i64 y13.May, .int .i64 y13.Must]) rfl rfl (fun j v hj => hS.sat.cell (hcb14.drop_take 0 2 j v hj))) rfl ?_); refine ⟨fun _ _ => ⟨hS.sat, trivial⟩, ?_⟩; refine WD_op rfl rfl (OpP_val (rn_neqA (xs := [y11.May, y11.Must]) (ys := [y13.May, y13.Must]) in59 rfl rfl rfl rfl) rfl ?_)
     refine ⟨fun _ h => noneed (by kernel_rfl) h, ?_⟩
     refine WD_nil ?_; refine WC_cond rfl (fun hb15 => ?_) (fun hb15 => ?_)
     ·have H := ifT hb15 H; refine WC_seq ?_; refine WC_region ?_; refine WL_val (rn_assign (v := (.bool false)) rfl) rfl ?_; refine WL_nil ?_; refine WC_ret ?_; have H := Option.some.inj H; subst H
      have hres := hqq6 _ rfl
      subst hres; have H := Hoq6
      have H : some false = some r := H
      have H := Option.some.inj H; subst H
      exact ⟨rfl, hS.below⟩
     ·have H := ifF hb15 H; refine WC_skip ?_; refine WC_region ?_; refine WL_val (rn_move (v := (.int .i64 s4)) rfl) rfl ?_; refine WL_val (rn_add rfl rfl) rfl ?_; refine WL_val (rn_assign (v := (.int .i64 (IntKind.i64.wrap (s4 + 1)))) rfl) rfl ?_; refine WL_nil ?_
      have hO : Owns G9 w8.drew w0.heap.size ([]) := hO
      have H := Option.some.inj H; subst H; refine ⟨_, rfl, ?_⟩
      exact ⟨_, G9, upds_self _ _ ⟨rfl, rfl, rfl, trivial⟩, leG9, hS, hO⟩
    ·have H := ifF hb10 H; refine WC_exit rfl ?_
     have hO : Owns G9 w8 w0.heap.size ([]) := hO
     have H := Option.some.inj H; subst H
     have hres := hqq6 _ rfl
     subst hres
     exact ⟨_, _, G9, rfl, rfl, leG9, hS, hO⟩
  ·rintro F w16 ⟨p5, Fb, G17, rfl, rfl, leG17, hS, hO⟩
   refine WC_seq ?_; refine WC_region ?_; refine WL_val (rn_assign (v := (.bool true)) rfl) rfl ?_; refine WL_nil ?_; refine WC_ret ?_
   have H : some true = some r := H
   have H := Option.some.inj H; subst H
   exact ⟨rfl, hS.below⟩
set_option maxHeartbeats 1000000 in
theorem f58_ok {G0 : Gm} {w0 : World} (hS0 : Sat G0 w0)   {r : TShipPass} (H : f58 = some r) :
  Calls Try.prog 58 #[] w0 (RetG G0 w0 (fun G v => ∃ (ra0 : Option Addr) (rn0 rc0 : Nat) (ra1 : Option Addr) (rn1 rc1 : Nat), v = .agg #[.slice ra0 rn0 rc0, .int .i64 r.Depth, .int .i64 r.Draft, .slice ra1 rn1 rc1, .int .i64 r.Light.Low, .int .i64 r.Light.High] ∧ RSl RInt 1 G ra0 rn0 rc0 r.Tides ∧ RSl RTSpan 2 G ra1 rn1 rc1 r.Swell)) := by
 have hS := Since.start hS0
 have hO : Owns G0 w0 w0.heap.size [] := Owns.nil (Nat.le_refl _)
 unfold f58 at H
 refine enterG (N := 7) (shutG _ _ _) [.cell 0 27] Try.func58 rfl rfl rfl rfl ?_; refine WC_seq ?_; refine WC_region ?_
 refine WL_op rfl (OpP_newO (v := fun b => .pointer (some ⟨b, 0, none⟩)) (cs := [.slice none 0 0, .int .i64 0, .int .i64 0, .slice none 0 0, .int .i64 0, .int .i64 0]) (e := 27) (by kernel_rfl) hS.sat hO rfl 6 1 rfl (by decide) (fun b1 w2 hb hO => ?_))
 have hS := hS.keep hb; refine WL_nil ?_; refine WC_seq ?_; refine WC_region ?_
 refine WL_op rfl (OpP_newF (v := fun b => .slice (some ⟨b, 0, none⟩) 6 6) (cs := [.int .i64 0, .int .i64 2, .int .i64 4, .int .i64 3, .int .i64 1, .int .i64 (-1)]) (e := 3) (by kernel_rfl) hS.sat rfl (fun b4 G6 w5 hg hcb4 => ?_))
 have hS := hS.grow hg; have hO := hO.grow hg
 have leG6 := hg.le
 have hfb4 : RSl RInt 1 G6 (some ⟨b4, 0, none⟩) 6 6 [0, 2, 4, 3, 1, (-1)] := RSl.of_rd hcb4 (Rd.cons (c := [.int .i64 0]) rfl rfl (Rd.cons (c := [.int .i64 2]) rfl rfl (Rd.cons (c := [.int .i64 4]) rfl rfl (Rd.cons (c := [.int .i64 3]) rfl rfl (Rd.cons (c := [.int .i64 1]) rfl rfl (Rd.cons (c := [.int .i64 (-1)]) rfl rfl (Rd.nil RInt 1 _))))))) rfl (by decide)
 refine WL_val (v := (.agg #[.int .i64 0, .int .i64 1])) (by kernel_rfl) rfl ?_
 refine WL_val (v := (.agg #[.int .i64 1, .int .i64 3])) (by kernel_rfl) rfl ?_
 refine WL_op rfl (OpP_newF (v := fun b => .slice (some ⟨b, 0, none⟩) 2 2) (cs := [.int .i64 0, .int .i64 1, .int .i64 1, .int .i64 3]) (e := 25) (by kernel_rfl) hS.sat rfl (fun b7 G9 w8 hg hcb7 => ?_))
 have hS := hS.grow hg; have hO := hO.grow hg
 have leG9 := hg.le
 have hfb7 : RSl RTSpan 2 G9 (some ⟨b7, 0, none⟩) 2 2 [(⟨0, 1⟩ : TSpan), (⟨1, 3⟩ : TSpan)] := RSl.of_rd hcb7 (Rd.cons (c := [.int .i64 0, .int .i64 1]) rfl rfl (Rd.cons (c := [.int .i64 1, .int .i64 3]) rfl rfl (Rd.nil RTSpan 2 _))) rfl (by decide)
 refine WL_val (v := (.agg #[.int .i64 6, .int .i64 17])) (by kernel_rfl) rfl ?_
 refine WL_val (v := (.agg #[.slice (some ⟨b4, 0, none⟩) 6 6, .int .i64 20, .int .i64 21, .slice (some ⟨b7, 0, none⟩) 2 2, .int .i64 6, .int .i64 17])) (by kernel_rfl) rfl ?_
 refine WL_op rfl (OpP_store (vs := [.slice (some ⟨b4, 0, none⟩) 6 6, .int .i64 20, .int .i64 21, .slice (some ⟨b7, 0, none⟩) 2 2, .int .i64 6, .int .i64 17]) sz27 hS hO (k := 0) rfl rfl rfl rfl rfl (one_all rfl) (Nat.le_of_ble_eq_true rfl) (fun w10 hS hO => ?_))
 have hO : Owns G9 w10 w0.heap.size ([⟨27, 6, 1, .slice (some ⟨b1, 0, none⟩) 1 1, [.slice (some ⟨b4, 0, none⟩) 6 6, .int .i64 20, .int .i64 21, .slice (some ⟨b7, 0, none⟩) 2 2, .int .i64 6, .int .i64 17]⟩]) := hO
 obtain ⟨G11, leG11, hS, hO, hqG11, _⟩ := hO.freeze hS (k := 0) rfl
 have hcG11 : Cells G11 b1 0 [.slice (some ⟨b4, 0, none⟩) 6 6, .int .i64 20, .int .i64 21, .slice (some ⟨b7, 0, none⟩) 2 2, .int .i64 6, .int .i64 17] := (hqG11 _ _ _ _ rfl)
 refine WL_nil ?_; refine WC_ret ?_
 have H : some (⟨[0, 2, 4, 3, 1, (-1)], 20, 21, [(⟨0, 1⟩ : TSpan), (⟨1, 3⟩ : TSpan)], (⟨6, 17⟩ : TSpan)⟩ : TShipPass) = some r := H
 have H := Option.some.inj H; subst H
 have l1_3 := leG9.trans leG11
 exact ⟨[.agg #[.slice (some ⟨b4, 0, none⟩) 6 6, .int .i64 20, .int .i64 21, .slice (some ⟨b7, 0, none⟩) 2 2, .int .i64 6, .int .i64 17]], ⟨⟨_, rfl, ld_agg (cs := [.slice (some ⟨b4, 0, none⟩) 6 6, .int .i64 20, .int .i64 21, .slice (some ⟨b7, 0, none⟩) 2 2, .int .i64 6, .int .i64 17]) ag27 rfl (fun j v hj => hS.sat.cell (hcG11 j v hj))⟩, trivial⟩, ⟨_, _, rfl, hS.toGrow, _, _, _, _, _, _, rfl, (hfb4.mono RInt_mono l1_3), (hfb7.mono RTSpan_mono leG11)⟩⟩
set_option maxHeartbeats 1000000 in
theorem f59_ok {G0 : Gm} {w0 : World} (hS0 : Sat G0 w0)   {r : TShipStore} (H : f59 = some r) :
  Calls Try.prog 59 #[] w0 (RetG G0 w0 (fun G v => ∃ (ra0 : Option Addr) (rn0 rc0 : Nat) (ra1 : Option Addr) (rn1 rc1 : Nat) (ra2 : Option Addr) (rn2 rc2 : Nat), v = .agg #[.slice ra0 rn0 rc0, .slice ra1 rn1 rc1, .int .i64 r.Gap.Low, .int .i64 r.Gap.High, .slice ra2 rn2 rc2, .int .i64 r.Hold] ∧ RSl RInt 1 G ra0 rn0 rc0 r.Stock ∧ RSl RTSpan 2 G ra1 rn1 rc1 r.Use ∧ RSl RTShipLot 3 G ra2 rn2 rc2 r.Lots)) := by
 have hS := Since.start hS0
 have hO : Owns G0 w0 w0.heap.size [] := Owns.nil (Nat.le_refl _)
 unfold f59 at H
 refine enterG (N := 20) (shutG _ _ _) [.cell 0 42] Try.func59 rfl rfl rfl rfl ?_; refine WC_seq ?_; refine WC_region ?_
 refine WL_op rfl (OpP_newO (v := fun b => .pointer (some ⟨b, 0, none⟩)) (cs := [.slice none 0 0, .slice none 0 0, .int .i64 0, .int .i64 0, .slice none 0 0, .int .i64 0]) (e := 42) (by kernel_rfl) hS.sat hO rfl 6 1 rfl (by decide) (fun b1 w2 hb hO => ?_))
 have hS := hS.keep hb; refine WL_nil ?_; refine WC_seq ?_; refine WC_region ?_
 refine WL_op rfl (OpP_newF (v := fun b => .slice (some ⟨b, 0, none⟩) 2 2) (cs := [.int .i64 130, .int .i64 70]) (e := 3) (by kernel_rfl) hS.sat rfl (fun b4 G6 w5 hg hcb4 => ?_))
 have hS := hS.grow hg; have hO := hO.grow hg
 have leG6 := hg.le
 have hfb4 : RSl RInt 1 G6 (some ⟨b4, 0, none⟩) 2 2 [130, 70] := RSl.of_rd hcb4 (Rd.cons (c := [.int .i64 130]) rfl rfl (Rd.cons (c := [.int .i64 70]) rfl rfl (Rd.nil RInt 1 _))) rfl (by decide)
 refine WL_val (v := (.agg #[.int .i64 3, .int .i64 4])) (by kernel_rfl) rfl ?_
 refine WL_val (v := (.agg #[.int .i64 1, .int .i64 2])) (by kernel_rfl) rfl ?_
 refine WL_op rfl (OpP_newF (v := fun b => .slice (some ⟨b, 0, none⟩) 2 2) (cs := [.int .i64 3, .int .i64 4, .int .i64 1, .int .i64 2]) (e := 25) (by kernel_rfl) hS.sat rfl (fun b7 G9 w8 hg hcb7 => ?_))
 have hS := hS.grow hg; have hO := hO.grow hg
 have leG9 := hg.le
 have hfb7 : RSl RTSpan 2 G9 (some ⟨b7, 0, none⟩) 2 2 [(⟨3, 4⟩ : TSpan), (⟨1, 2⟩ : TSpan)] := RSl.of_rd hcb7 (Rd.cons (c := [.int .i64 3, .int .i64 4]) rfl rfl (Rd.cons (c := [.int .i64 1, .int .i64 2]) rfl rfl (Rd.nil RTSpan 2 _))) rfl (by decide)
 refine WL_val (v := (.agg #[.int .i64 20, .int .i64 30])) (by kernel_rfl) rfl ?_
 refine WL_val (v := (.agg #[.int .i64 90, .int .i64 100])) (by kernel_rfl) rfl ?_
 refine WL_val (v := (.agg #[.int .i64 0, .int .i64 0])) (by kernel_rfl) rfl ?_
 refine WL_op rfl (OpP_newF (v := fun b => .slice (some ⟨b, 0, none⟩) 2 2) (cs := [.int .i64 90, .int .i64 100, .int .i64 0, .int .i64 0]) (e := 25) (by kernel_rfl) hS.sat rfl (fun b10 G12 w11 hg hcb10 => ?_))
 have hS := hS.grow hg; have hO := hO.grow hg
 have leG12 := hg.le
 have hfb10 : RSl RTSpan 2 G12 (some ⟨b10, 0, none⟩) 2 2 [(⟨90, 100⟩ : TSpan), (⟨0, 0⟩ : TSpan)] := RSl.of_rd hcb10 (Rd.cons (c := [.int .i64 90, .int .i64 100]) rfl rfl (Rd.cons (c := [.int .i64 0, .int .i64 0]) rfl rfl (Rd.nil RTSpan 2 _))) rfl (by decide)
 refine WL_val (v := (.agg #[.slice (some ⟨b10, 0, none⟩) 2 2, .int .i64 50, .int .i64 70])) (by kernel_rfl) rfl ?_
 refine WL_val (v := (.agg #[.int .i64 0, .int .i64 0])) (by kernel_rfl) rfl ?_
 refine WL_val (v := (.agg #[.int .i64 50, .int .i64 60])) (by kernel_rfl) rfl ?_
 refine WL_op rfl (OpP_newF (v := fun b => .slice (some ⟨b, 0, none⟩) 2 2) (cs := [.int .i64 0, .int .i64 0, .int .i64 50, .int .i64 60]) (e := 25) (by kernel_rfl) hS.sat rfl (fun b13 G15 w14 hg hcb13 => ?_))
 have hS := hS.grow hg; have hO := hO.grow hg
 have leG15 := hg.le
 have hfb13 : RSl RTSpan 2 G15 (some ⟨b13, 0, none⟩) 2 2 [(⟨0, 0⟩ : TSpan), (⟨50, 60⟩ : TSpan)] := RSl.of_rd hcb13 (Rd.cons (c := [.int .i64 0, .int .i64 0]) rfl rfl (Rd.cons (c := [.int .i64 50, .int .i64 60]) rfl rfl (Rd.nil RTSpan 2 _))) rfl (by decide)
 refine WL_val (v := (.agg #[.slice (some ⟨b13, 0, none⟩) 2 2, .int .i64 30, .int .i64 40])) (by kernel_rfl) rfl ?_
 refine WL_val (v := (.agg #[.int .i64 130, .int .i64 130])) (by kernel_rfl) rfl ?_
 refine WL_val (v := (.agg #[.int .i64 30, .int .i64 30])) (by kernel_rfl) rfl ?_
 refine WL_op rfl (OpP_newF (v := fun b => .slice (some ⟨b, 0, none⟩) 2 2) (cs := [.int .i64 130, .int .i64 130, .int .i64 30, .int .i64 30]) (e := 25) (by kernel_rfl) hS.sat rfl (fun b16 G18 w17 hg hcb16 => ?_))
 have hS := hS.grow hg; have hO := hO.grow hg
 have leG18 := hg.le
 have hfb16 : RSl RTSpan 2 G18 (some ⟨b16, 0, none⟩) 2 2 [(⟨130, 130⟩ : TSpan), (⟨30, 30⟩ : TSpan)] := RSl.of_rd hcb16 (Rd.cons (c := [.int .i64 130, .int .i64 130]) rfl rfl (Rd.cons (c := [.int .i64 30, .int .i64 30]) rfl rfl (Rd.nil RTSpan 2 _))) rfl (by decide)
 refine WL_val (v := (.agg #[.slice (some ⟨b16, 0, none⟩) 2 2, .int .i64 90, .int .i64 100])) (by kernel_rfl) rfl ?_
 refine WL_op rfl (OpP_newF (v := fun b => .slice (some ⟨b, 0, none⟩) 3 3) (cs := [.slice (some ⟨b10, 0, none⟩) 2 2, .int .i64 50, .int .i64 70, .slice (some ⟨b13, 0, none⟩) 2 2, .int .i64 30, .int .i64 40, .slice (some ⟨b16, 0, none⟩) 2 2, .int .i64 90, .int .i64 100]) (e := 111) (by kernel_rfl) hS.sat rfl (fun b19 G21 w20 hg hcb19 => ?_))
 have hS := hS.grow hg; have hO := hO.grow hg
 have leG21 := hg.le
 have l4_6 := leG18.trans leG21
 have l3_6 := leG15.trans l4_6
 have hfb19 : RSl RTShipLot 3 G21 (some ⟨b19, 0, none⟩) 3 3 [(⟨[(⟨90, 100⟩ : TSpan), (⟨0, 0⟩ : TSpan)], 50, 70⟩ : TShipLot), (⟨[(⟨0, 0⟩ : TSpan), (⟨50, 60⟩ : TSpan)], 30, 40⟩ : TShipLot), (⟨[(⟨130, 130⟩ : TSpan), (⟨30, 30⟩ : TSpan)], 90, 100⟩ : TShipLot)] := RSl.of_rd hcb19 (Rd.cons (c := [.slice (some ⟨b10, 0, none⟩) 2 2, .int .i64 50, .int .i64 70]) rfl ⟨_, _, _, rfl, (hfb10.mono RTSpan_mono l3_6)⟩ (Rd.cons (c := [.slice (some ⟨b13, 0, none⟩) 2 2, .int .i64 30, .int .i64 40]) rfl ⟨_, _, _, rfl, (hfb13.mono RTSpan_mono l4_6)⟩ (Rd.cons (c := [.slice (some ⟨b16, 0, none⟩) 2 2, .int .i64 90, .int .i64 100]) rfl ⟨_, _, _, rfl, (hfb16.mono RTSpan_mono leG21)⟩ (Rd.nil RTShipLot 3 _)))) rfl (by decide)
 refine WL_val (v := (.agg #[.slice (some ⟨b4, 0, none⟩) 2 2, .slice (some ⟨b7, 0, none⟩) 2 2, .int .i64 20, .int .i64 30, .slice (some ⟨b19, 0, none⟩) 3 3, .int .i64 100])) (by kernel_rfl) rfl ?_
 refine WL_op rfl (OpP_store (vs := [.slice (some ⟨b4, 0, none⟩) 2 2, .slice (some ⟨b7, 0, none⟩) 2 2, .int .i64 20, .int .i64 30, .slice (some ⟨b19, 0, none⟩) 3 3, .int .i64 100]) sz42 hS hO (k := 0) rfl rfl rfl rfl rfl (one_all rfl) (Nat.le_of_ble_eq_true rfl) (fun w22 hS hO => ?_))
 have hO : Owns G21 w22 w0.heap.size ([⟨42, 6, 1, .slice (some ⟨b1, 0, none⟩) 1 1, [.slice (some ⟨b4, 0, none⟩) 2 2, .slice (some ⟨b7, 0, none⟩) 2 2, .int .i64 20, .int .i64 30, .slice (some ⟨b19, 0, none⟩) 3 3, .int .i64 100]⟩]) := hO
 obtain ⟨G23, leG23, hS, hO, hqG23, _⟩ := hO.freeze hS (k := 0) rfl
 have hcG23 : Cells G23 b1 0 [.slice (some ⟨b4, 0, none⟩) 2 2, .slice (some ⟨b7, 0, none⟩) 2 2, .int .i64 20, .int .i64 30, .slice (some ⟨b19, 0, none⟩) 3 3, .int .i64 100] := (hqG23 _ _ _ _ rfl)
 refine WL_nil ?_; refine WC_ret ?_
 have H : some (⟨[130, 70], [(⟨3, 4⟩ : TSpan), (⟨1, 2⟩ : TSpan)], (⟨20, 30⟩ : TSpan), [(⟨[(⟨90, 100⟩ : TSpan), (⟨0, 0⟩ : TSpan)], 50, 70⟩ : TShipLot), (⟨[(⟨0, 0⟩ : TSpan), (⟨50, 60⟩ : TSpan)], 30, 40⟩ : TShipLot), (⟨[(⟨130, 130⟩ : TSpan), (⟨30, 30⟩ : TSpan)], 90, 100⟩ : TShipLot)], 100⟩ : TShipStore) = some r := H
 have H := Option.some.inj H; subst H
 have l1_7 := ((leG9.trans leG12).trans l3_6).trans leG23
 have l2_7 := (leG12.trans l3_6).trans leG23
 exact ⟨[.agg #[.slice (some ⟨b4, 0, none⟩) 2 2, .slice (some ⟨b7, 0, none⟩) 2 2, .int .i64 20, .int .i64 30, .slice (some ⟨b19, 0, none⟩) 3 3, .int .i64 100]], ⟨⟨_, rfl, ld_agg (cs := [.slice (some ⟨b4, 0, none⟩) 2 2, .slice (some ⟨b7, 0, none⟩) 2 2, .int .i64 20, .int .i64 30, .slice (some ⟨b19, 0, none⟩) 3 3, .int .i64 100]) ag42 rfl (fun j v hj => hS.sat.cell (hcG23 j v hj))⟩, trivial⟩, ⟨_, _, rfl, hS.toGrow, _, _, _, _, _, _, _, _, _, rfl, (hfb4.mono RInt_mono l1_7), (hfb7.mono RTSpan_mono l2_7), (hfb19.mono RTShipLot_mono leG23)⟩⟩
set_option maxHeartbeats 1000000 in
theorem f17_ok {G0 : Gm} {w0 : World} (hS0 : Sat G0 w0)   {r : Bool} (H : f17 = some r) :
  Calls Try.prog 17 #[] w0 (RetV w0 (.bool r)) := by
 have hS := Since.start hS0
 have hO : Owns G0 w0 w0.heap.size [] := Owns.nil (Nat.le_refl _)
 unfold f17 at H
 refine enter1 (N := 144) (shutV _ _) Try.func17 rfl rfl rfl rfl ?_; refine WC_seq ?_; refine WC_region ?_; refine WL_val (rn_assign (v := (.bool false)) rfl) rfl ?_; refine WL_nil ?_; refine WC_seq ?_; refine WC_region ?_; obtain ⟨y1, hy1, H⟩ := bnd H; refine WL_op rfl (OpP_callG cb58 (f58_ok  hS.sat  hy1) rfl rfl (fun vy1 G3 w2 hg hvy1 => ?_)); obtain ⟨a4, n4, c4, a5, n5, c5, ⟨⟩, h4, h5⟩ := hvy1; have hS := hS.grow hg; have hO := hO.grow hg
 have leG3 := hg.le
 obtain ⟨y6, hy6, H⟩ := bnd H; refine WL_op rfl (OpP_callG cb45 (f45_ok (x0 := y1) (x1 := 1) hS.sat h4 h5 hy6) rfl rfl (fun vy6 G8 w7 hg hvy6 => ?_)); obtain ⟨a9, n9, c9, a10, n10, c10, ⟨⟩, h9, h10⟩ := hvy6; have hS := hS.grow hg; have hO := hO.grow hg
 have leG8 := hg.le
 refine WL_val (rn_move (v := (.tuple #[.slice a9 n9 c9, .slice a10 n10 c10, .int .i64 y6.2.2])) rfl) rfl ?_; refine WL_val (rn_extract (v := (.slice a9 n9 c9)) rfl rfl) rfl ?_; refine WL_val (rn_extract (v := (.slice a10 n10 c10)) rfl rfl) rfl ?_; refine WL_val (rn_extract (v := (.int .i64 y6.2.2)) rfl rfl) rfl ?_; refine WL_val (rn_assign (v := (.slice a9 n9 c9)) rfl) rfl ?_; refine WL_val (rn_assign (v := (.slice a10 n10 c10)) rfl) rfl ?_; refine WL_val (rn_assign (v := (.int .i64 y6.2.2)) rfl) rfl ?_; refine WL_nil ?_; refine WC_seq ?_; refine WC_region ?_; obtain ⟨y11, hy11, H⟩ := bnd H; refine WL_op rfl (OpP_callG cb58 (f58_ok  hS.sat  hy11) rfl rfl (fun vy11 G13 w12 hg hvy11 => ?_)); obtain ⟨a14, n14, c14, a15, n15, c15, ⟨⟩, h14, h15⟩ := hvy11; have hS := hS.grow hg; have hO := hO.grow hg
 have leG13 := hg.le
 refine WL_val (v := (.agg #[.int .i64 0, .int .i64 16])) (by kernel_rfl) rfl ?_
 obtain ⟨y16, hy16, H⟩ := bnd H; refine WL_op rfl (OpP_callV cb48 (f48_ok (x0 := y11) (x1 := (⟨0, 16⟩ : TShipCall)) hS.sat h14 h15 hy16) rfl rfl (fun w17 hb => ?_)); have hS := hS.keep hb; have hO := hO.below hb; refine WL_val (rn_move (v := (.tuple #[.agg #[.int .i64 y16.1.Day, .int .i64 y16.1.Hour], .int .i64 y16.2])) rfl) rfl ?_; refine WL_val (rn_extract (v := (.agg #[.int .i64 y16.1.Day, .int .i64 y16.1.Hour])) rfl rfl) rfl ?_; refine WL_val (rn_extract (v := (.int .i64 y16.2)) rfl rfl) rfl ?_
 refine WL_op rfl (OpP_newO (v := fun b => .pointer (some ⟨b, 0, none⟩)) (cs := [.int .i64 0, .int .i64 0]) (e := 82) (by kernel_rfl) hS.sat hO rfl 2 1 rfl (by decide) (fun b18 w19 hb hO => ?_))
 have hS := hS.keep hb; refine WL_op rfl (OpP_store (vs := [.int .i64 y16.1.Day, .int .i64 y16.1.Hour]) sz82 hS hO (k := 0) rfl rfl rfl rfl rfl (one_all rfl) (Nat.le_of_ble_eq_true rfl) (fun w21 hS hO => ?_))
 have hO : Owns G13 w21 w0.heap.size ([⟨82, 2, 1, .slice (some ⟨b18, 0, none⟩) 1 1, [.int .i64 y16.1.Day, .int .i64 y16.1.Hour]⟩]) := hO
 obtain ⟨G22, leG22, hS, hO, hqG22, _⟩ := hO.freeze hS (k := 0) rfl
 have hcG22 : Cells G22 b18 0 [.int .i64 y16.1.Day, .int .i64 y16.1.Hour] := (hqG22 _ _ _ _ rfl)
 refine WL_val (rn_assign (v := (.int .i64 y16.2)) rfl) rfl ?_; refine WL_nil ?_; refine WC_seq ?_; refine WC_region ?_; obtain ⟨y23, hy23, H⟩ := bnd H; refine WL_op rfl (OpP_callG cb58 (f58_ok  hS.sat  hy23) rfl rfl (fun vy23 G25 w24 hg hvy23 => ?_)); obtain ⟨a26, n26, c26, a27, n27, c27, ⟨⟩, h26, h27⟩ := hvy23; have hS := hS.grow hg; have hO := hO.grow hg
 have leG25 := hg.le
 refine WL_val (v := (.agg #[.int .i64 1, .int .i64 2])) (by kernel_rfl) rfl ?_
 obtain ⟨y28, hy28, H⟩ := bnd H; refine WL_op rfl (OpP_callG cb18 (f18_ok (x0 := y23) (x1 := (⟨1, 2⟩ : TSpan)) (x2 := 1) hS.sat h26 h27 hy28) rfl rfl (fun vy28 G30 w29 hg hvy28 => ?_)); obtain ⟨a31, n31, c31, ⟨⟩, h31⟩ := hvy28; have hS := hS.grow hg; have hO := hO.grow hg
 have leG30 := hg.le
 refine WL_val (rn_move (v := (.tuple #[.slice a31 n31 c31, .int .i64 y28.2])) rfl) rfl ?_; refine WL_val (rn_extract (v := (.slice a31 n31 c31)) rfl rfl) rfl ?_; refine WL_val (rn_extract (v := (.int .i64 y28.2)) rfl rfl) rfl ?_; refine WL_val (rn_assign (v := (.slice a31 n31 c31)) rfl) rfl ?_; refine WL_val (rn_assign (v := (.int .i64 y28.2)) rfl) rfl ?_; refine WL_nil ?_; refine WC_seq ?_; refine WC_region ?_; obtain ⟨y32, hy32, H⟩ := bnd H; refine WL_op rfl (OpP_callG cb59 (f59_ok  hS.sat  hy32) rfl rfl (fun vy32 G34 w33 hg hvy32 => ?_)); obtain ⟨a35, n35, c35, a36, n36, c36, a37, n37, c37, ⟨⟩, h35, h36, h37⟩ := hvy32; have hS := hS.grow hg; have hO := hO.grow hg
 have leG34 := hg.le
 refine WL_op rfl (OpP_newF (v := fun b => .slice (some ⟨b, 0, none⟩) 2 2) (cs := [.int .i64 0, .int .i64 1]) (e := 3) (by kernel_rfl) hS.sat rfl (fun b38 G40 w39 hg hcb38 => ?_))
 have hS := hS.grow hg; have hO := hO.grow hg
 have leG40 := hg.le
 have hfb38 : RSl RInt 1 G40 (some ⟨b38, 0, none⟩) 2 2 [0, 1] := RSl.of_rd hcb38 (Rd.cons (c := [.int .i64 0]) rfl rfl (Rd.cons (c := [.int .i64 1]) rfl rfl (Rd.nil RInt 1 _))) rfl (by decide)
 refine WL_op rfl (OpP_newF (v := fun b => .slice (some ⟨b, 0, none⟩) 2 2) (cs := [.int .i64 4, .int .i64 2]) (e := 3) (by kernel_rfl) hS.sat rfl (fun b41 G43 w42 hg hcb41 => ?_))
 have hS := hS.grow hg; have hO := hO.grow hg
 have leG43 := hg.le
 have hfb41 : RSl RInt 1 G43 (some ⟨b41, 0, none⟩) 2 2 [4, 2] := RSl.of_rd hcb41 (Rd.cons (c := [.int .i64 4]) rfl rfl (Rd.cons (c := [.int .i64 2]) rfl rfl (Rd.nil RInt 1 _))) rfl (by decide)
 refine WL_op rfl (OpP_newF (v := fun b => .slice (some ⟨b, 0, none⟩) 2 2) (cs := [.int .i64 30, .int .i64 30]) (e := 3) (by kernel_rfl) hS.sat rfl (fun b44 G46 w45 hg hcb44 => ?_))
 have hS := hS.grow hg; have hO := hO.grow hg
 have leG46 := hg.le
 have hfb44 : RSl RInt 1 G46 (some ⟨b44, 0, none⟩) 2 2 [30, 30] := RSl.of_rd hcb44 (Rd.cons (c := [.int .i64 30]) rfl rfl (Rd.cons (c := [.int .i64 30]) rfl rfl (Rd.nil RInt 1 _))) rfl (by decide)
 refine WL_op rfl (OpP_newF (v := fun b => .slice (some ⟨b, 0, none⟩) 2 2) (cs := [.int .i64 95, .int .i64 0]) (e := 3) (by kernel_rfl) hS.sat rfl (fun b47 G49 w48 hg hcb47 => ?_))
 have hS := hS.grow hg; have hO := hO.grow hg
 have leG49 := hg.le
 have hfb47 : RSl RInt 1 G49 (some ⟨b47, 0, none⟩) 2 2 [95, 0] := RSl.of_rd hcb47 (Rd.cons (c := [.int .i64 95]) rfl rfl (Rd.cons (c := [.int .i64 0]) rfl rfl (Rd.nil RInt 1 _))) rfl (by decide)
 refine WL_op rfl (OpP_newF (v := fun b => .slice (some ⟨b, 0, none⟩) 2 2) (cs := [.int .i64 0, .int .i64 55]) (e := 3) (by kernel_rfl) hS.sat rfl (fun b50 G52 w51 hg hcb50 => ?_))
 have hS := hS.grow hg; have hO := hO.grow hg
 have leG52 := hg.le
 have hfb50 : RSl RInt 1 G52 (some ⟨b50, 0, none⟩) 2 2 [0, 55] := RSl.of_rd hcb50 (Rd.cons (c := [.int .i64 0]) rfl rfl (Rd.cons (c := [.int .i64 55]) rfl rfl (Rd.nil RInt 1 _))) rfl (by decide)
 refine WL_op rfl (OpP_newF (v := fun b => .slice (some ⟨b, 0, none⟩) 2 2) (cs := [.int .i64 130, .int .i64 30]) (e := 3) (by kernel_rfl) hS.sat rfl (fun b53 G55 w54 hg hcb53 => ?_))
 have hS := hS.grow hg; have hO := hO.grow hg
 have leG55 := hg.le
 have hfb53 : RSl RInt 1 G55 (some ⟨b53, 0, none⟩) 2 2 [130, 30] := RSl.of_rd hcb53 (Rd.cons (c := [.int .i64 130]) rfl rfl (Rd.cons (c := [.int .i64 30]) rfl rfl (Rd.nil RInt 1 _))) rfl (by decide)
 refine WL_op rfl (OpP_newF (v := fun b => .slice (some ⟨b, 0, none⟩) 3 3) (cs := [.slice (some ⟨b47, 0, none⟩) 2 2, .slice (some ⟨b50, 0, none⟩) 2 2, .slice (some ⟨b53, 0, none⟩) 2 2]) (e := 22) (by kernel_rfl) hS.sat rfl (fun b56 G58 w57 hg hcb56 => ?_))
 have hS := hS.grow hg; have hO := hO.grow hg
 have leG58 := hg.le
 have l12_14 := leG55.trans leG58
 have l11_14 := leG52.trans l12_14
 have hfb56 : RSl (RSlice RInt 1) 1 G58 (some ⟨b56, 0, none⟩) 3 3 [[95, 0], [0, 55], [130, 30]] := RSl.of_rd hcb56 (Rd.cons (c := [.slice (some ⟨b47, 0, none⟩) 2 2]) rfl ⟨_, _, _, rfl, (hfb47.mono RInt_mono l11_14)⟩ (Rd.cons (c := [.slice (some ⟨b50, 0, none⟩) 2 2]) rfl ⟨_, _, _, rfl, (hfb50.mono RInt_mono l12_14)⟩ (Rd.cons (c := [.slice (some ⟨b53, 0, none⟩) 2 2]) rfl ⟨_, _, _, rfl, (hfb53.mono RInt_mono leG58)⟩ (Rd.nil (RSlice RInt 1) 1 _)))) rfl (by decide)
 refine WL_val (v := (.agg #[.slice (some ⟨b41, 0, none⟩) 2 2, .slice (some ⟨b44, 0, none⟩) 2 2, .slice (some ⟨b56, 0, none⟩) 3 3])) (by kernel_rfl) rfl ?_
 obtain ⟨y59, hy59, H⟩ := bnd H
 have l7_14 := (((leG40.trans leG43).trans leG46).trans leG49).trans l11_14
 have l8_14 := ((leG43.trans leG46).trans leG49).trans l11_14
 have l9_14 := (leG46.trans leG49).trans l11_14
 have l10_14 := leG49.trans l11_14
 refine WL_op rfl (OpP_callG cb26 (f26_ok (x0 := y32) (x1 := [0, 1]) (x2 := 60) (x3 := (⟨[4, 2], [30, 30], [[95, 0], [0, 55], [130, 30]]⟩ : TShipTruth)) hS.sat (h35.mono RInt_mono l7_14) (h36.mono RTSpan_mono l7_14) (h37.mono RTShipLot_mono l7_14) (hfb38.mono RInt_mono l8_14) (hfb41.mono RInt_mono l9_14) (hfb44.mono RInt_mono l10_14) hfb56 hy59) rfl rfl (fun vy59 G61 w60 hg hvy59 => ?_)); obtain ⟨a62, n62, c62, a63, n63, c63, ⟨⟩, h62, h63⟩ := hvy59; have hS := hS.grow hg; have hO := hO.grow hg
 have leG61 := hg.le
 refine WL_val (rn_move (v := (.tuple #[.slice a62 n62 c62, .slice a63 n63 c63, .int .i64 y59.2.2])) rfl) rfl ?_; refine WL_val (rn_extract (v := (.slice a62 n62 c62)) rfl rfl) rfl ?_; refine WL_val (rn_extract (v := (.slice a63 n63 c63)) rfl rfl) rfl ?_; refine WL_val (rn_extract (v := (.int .i64 y59.2.2)) rfl rfl) rfl ?_; refine WL_val (rn_assign (v := (.slice a62 n62 c62)) rfl) rfl ?_; refine WL_val (rn_assign (v := (.slice a63 n63 c63)) rfl) rfl ?_; refine WL_val (rn_assign (v := (.int .i64 y59.2.2)) rfl) rfl ?_; refine WL_nil ?_; refine WC_seq ?_; refine WC_region ?_; obtain ⟨y64, hy64, H⟩ := bnd H; refine WL_op rfl (OpP_callG cb59 (f59_ok  hS.sat  hy64) rfl rfl (fun vy64 G66 w65 hg hvy64 => ?_)); obtain ⟨a67, n67, c67, a68, n68, c68, a69, n69, c69, ⟨⟩, h67, h68, h69⟩ := hvy64; have hS := hS.grow hg; have hO := hO.grow hg
 have leG66 := hg.le
 refine WL_op rfl (OpP_newF (v := fun b => .slice (some ⟨b, 0, none⟩) 1 1) (cs := [.int .i64 2]) (e := 3) (by kernel_rfl) hS.sat rfl (fun b70 G72 w71 hg hcb70 => ?_))
 have hS := hS.grow hg; have hO := hO.grow hg
 have leG72 := hg.le
 have hfb70 : RSl RInt 1 G72 (some ⟨b70, 0, none⟩) 1 1 [2] := RSl.of_rd hcb70 (Rd.cons (c := [.int .i64 2]) rfl rfl (Rd.nil RInt 1 _)) rfl (by decide)
 obtain ⟨y73, hy73, H⟩ := bnd H; refine WL_op rfl (OpP_callG cb30 (f30_ok (x0 := y64) (x1 := [2]) (x2 := 60) hS.sat (h67.mono RInt_mono leG72) (h68.mono RTSpan_mono leG72) (h69.mono RTShipLot_mono leG72) hfb70 hy73) rfl rfl (fun vy73 G75 w74 hg hvy73 => ?_)); obtain ⟨a76, n76, c76, ⟨⟩, h76⟩ := hvy73; have hS := hS.grow hg; have hO := hO.grow hg
 have leG75 := hg.le
 refine WL_val (rn_move (v := (.tuple #[.slice a76 n76 c76, .int .i64 y73.2])) rfl) rfl ?_; refine WL_val (rn_extract (v := (.slice a76 n76 c76)) rfl rfl) rfl ?_; refine WL_val (rn_extract (v := (.int .i64 y73.2)) rfl rfl) rfl ?_; refine WL_val (rn_assign (v := (.slice a76 n76 c76)) rfl) rfl ?_; refine WL_val (rn_assign (v := (.int .i64 y73.2)) rfl) rfl ?_; refine WL_nil ?_; refine WC_seq ?_; refine WC_region ?_; obtain ⟨y77, hy77, H⟩ := bnd H; refine WL_op rfl (OpP_callG cb59 (f59_ok  hS.sat  hy77) rfl rfl (fun vy77 G79 w78 hg hvy77 => ?_)); obtain ⟨a80, n80, c80, a81, n81, c81, a82, n82, c82, ⟨⟩, h80, h81, h82⟩ := hvy77; have hS := hS.grow hg; have hO := hO.grow hg
 have leG79 := hg.le
 refine WL_op rfl (OpP_newF (v := fun b => .slice (some ⟨b, 0, none⟩) 2 2) (cs := [.int .i64 0, .int .i64 1]) (e := 3) (by kernel_rfl) hS.sat rfl (fun b83 G85 w84 hg hcb83 => ?_))
 have hS := hS.grow hg; have hO := hO.grow hg
 have leG85 := hg.le
 have hfb83 : RSl RInt 1 G85 (some ⟨b83, 0, none⟩) 2 2 [0, 1] := RSl.of_rd hcb83 (Rd.cons (c := [.int .i64 0]) rfl rfl (Rd.cons (c := [.int .i64 1]) rfl rfl (Rd.nil RInt 1 _))) rfl (by decide)
 obtain ⟨y86, hy86, H⟩ := bnd H; refine WL_op rfl (OpP_callV cb32 (f32_ok (x0 := y77) (x1 := [0, 1]) (x2 := 60) (x3 := 0) hS.sat (h80.mono RInt_mono leG85) (h81.mono RTSpan_mono leG85) (h82.mono RTShipLot_mono leG85) hfb83 hy86) rfl rfl (fun w87 hb => ?_)); have hS := hS.keep hb; have hO := hO.below hb; refine WL_val (rn_move (v := (.tuple #[.int .i64 y86.1, .int .i64 y86.2])) rfl) rfl ?_; refine WL_val (rn_extract (v := (.int .i64 y86.1)) rfl rfl) rfl ?_; refine WL_val (rn_extract (v := (.int .i64 y86.2)) rfl rfl) rfl ?_; refine WL_val (rn_assign (v := (.int .i64 y86.1)) rfl) rfl ?_; refine WL_val (rn_assign (v := (.int .i64 y86.2)) rfl) rfl ?_; refine WL_nil ?_; refine WC_seq ?_; refine WC_region ?_; obtain ⟨y88, hy88, H⟩ := bnd H; refine WL_op rfl (OpP_callG cb59 (f59_ok  hS.sat  hy88) rfl rfl (fun vy88 G90 w89 hg hvy88 => ?_)); obtain ⟨a91, n91, c91, a92, n92, c92, a93, n93, c93, ⟨⟩, h91, h92, h93⟩ := hvy88; have hS := hS.grow hg; have hO := hO.grow hg
 have leG90 := hg.le
 obtain ⟨y94, hy94, H⟩ := bnd H; refine WL_op rfl (OpP_callG cb35 (f35_ok (x0 := y88) (x1 := 55) hS.sat h91 h92 h93 hy94) rfl rfl (fun vy94 G96 w95 hg hvy94 => ?_)); obtain ⟨a97, n97, c97, ⟨⟩, h97⟩ := hvy94; have hS := hS.grow hg; have hO := hO.grow hg
 have leG96 := hg.le
 refine WL_val (rn_move (v := (.tuple #[.slice a97 n97 c97, .int .i64 y94.2.1, .int .i64 y94.2.2])) rfl) rfl ?_; refine WL_val (rn_extract (v := (.slice a97 n97 c97)) rfl rfl) rfl ?_; refine WL_val (rn_extract (v := (.int .i64 y94.2.1)) rfl rfl) rfl ?_; refine WL_val (rn_extract (v := (.int .i64 y94.2.2)) rfl rfl) rfl ?_; refine WL_val (rn_assign (v := (.slice a97 n97 c97)) rfl) rfl ?_; refine WL_val (rn_assign (v := (.int .i64 y94.2.1)) rfl) rfl ?_; refine WL_val (rn_assign (v := (.int .i64 y94.2.2)) rfl) rfl ?_; refine WL_nil ?_; refine WC_seq ?_; refine WC_seq ?_; obtain ⟨q98, hq98, H⟩ := bnd H; refine WC_cut (fun F w => ∃ (Fb : Fr), F = upds Fb [(1, .slice a9 n9 c9), (2, .slice a10 n10 c10), (4, .pointer (some ⟨b18, 0, none⟩)), (6, .slice a31 n31 c31), (8, .slice a62 n62 c62), (9, .slice a63 n63 c63), (11, .slice a76 n76 c76), (13, .int .i64 y86.1), (15, .slice a97 n97 c97), (16, .int .i64 y94.2.1), (93, .bool q98)] ∧ w95 = w) ?_ ?_
 ·have Hoq98 := H; have H := hq98; refine WC_region ?_; refine WL_val (rn_move (v := (.int .i64 y6.2.2)) rfl) rfl ?_; refine WL_val (rn_neq rfl rfl) rfl ?_; refine WL_val (rn_move (v := (.bool (y6.2.2 != 0))) rfl) rfl ?_
  rcases bcases (y6.2.2 != 0) with hb99 | hb99
  ·have H := ifT hb99 H; refine WL_guardN rfl hb99 rfl rfl rfl ?_; refine WL_guardN rfl hb99 rfl rfl rfl ?_; refine WL_val (rn_pickT (v := (.bool true)) rfl hb99 rfl) rfl ?_; refine WL_val (rn_move (v := (.bool true)) rfl) rfl ?_; refine WL_guardN rfl rfl rfl rfl rfl ?_; refine WL_guardN rfl rfl rfl rfl rfl ?_; refine WL_val (rn_pickT (v := (.bool true)) rfl rfl rfl) rfl ?_; refine WL_val (rn_move (v := (.bool true)) rfl) rfl ?_; refine WL_guardN rfl rfl rfl rfl rfl ?_; refine WL_guardN rfl rfl rfl rfl rfl ?_; refine WL_val (rn_pickT (v := (.bool true)) rfl rfl rfl) rfl ?_; refine WL_val (rn_move (v := (.bool true)) rfl) rfl ?_; refine WL_guardN rfl rfl rfl rfl rfl ?_; refine WL_guardN rfl rfl rfl rfl rfl ?_; refine WL_val (rn_pickT (v := (.bool true)) rfl rfl rfl) rfl ?_; refine WL_val (rn_move (v := (.bool true)) rfl) rfl ?_; refine WL_guardN rfl rfl rfl rfl rfl ?_; refine WL_guardN rfl rfl rfl rfl rfl ?_; refine WL_val (rn_pickT (v := (.bool true)) rfl rfl rfl) rfl ?_; refine WL_val (rn_move (v := (.bool true)) rfl) rfl ?_; refine WL_guardN rfl rfl rfl rfl rfl ?_; refine WL_guardN rfl rfl rfl rfl rfl ?_; refine WL_val (rn_pickT (v := (.bool true)) rfl rfl rfl) rfl ?_; refine WL_nil ?_; have H := Option.some.inj H; subst H
   exact ⟨_, upds_self _ _ ⟨rfl, rfl, rfl, rfl, rfl, rfl, rfl, rfl, rfl, rfl, rfl, trivial⟩, rfl⟩
  ·have H := ifF hb99 H; refine WL_guardY rfl hb99 rfl rfl ?_; refine WL_val (rn_move (v := (.int .i64 y16.2)) rfl) rfl ?_; refine WL_guardY rfl hb99 rfl rfl ?_; refine WL_val (rn_neq rfl rfl) rfl ?_; refine WL_val (rn_pickF (v := (.bool (y16.2 != 0))) rfl hb99 rfl) rfl ?_; refine WL_val (rn_move (v := (.bool (y16.2 != 0))) rfl) rfl ?_
   rcases bcases (y16.2 != 0) with hb100 | hb100
   ·have H := ifT hb100 H; refine WL_guardN rfl hb100 rfl rfl rfl ?_; refine WL_guardN rfl hb100 rfl rfl rfl ?_; refine WL_val (rn_pickT (v := (.bool true)) rfl hb100 rfl) rfl ?_; refine WL_val (rn_move (v := (.bool true)) rfl) rfl ?_; refine WL_guardN rfl rfl rfl rfl rfl ?_; refine WL_guardN rfl rfl rfl rfl rfl ?_; refine WL_val (rn_pickT (v := (.bool true)) rfl rfl rfl) rfl ?_; refine WL_val (rn_move (v := (.bool true)) rfl) rfl ?_; refine WL_guardN rfl rfl rfl rfl rfl ?_; refine WL_guardN rfl rfl rfl rfl rfl ?_; refine WL_val (rn_pickT (v := (.bool true)) rfl rfl rfl) rfl ?_; refine WL_val (rn_move (v := (.bool true)) rfl) rfl ?_; refine WL_guardN rfl rfl rfl rfl rfl ?_; refine WL_guardN rfl rfl rfl rfl rfl ?_; refine WL_val (rn_pickT (v := (.bool true)) rfl rfl rfl) rfl ?_; refine WL_val (rn_move (v := (.bool true)) rfl) rfl ?_; refine WL_guardN rfl rfl rfl rfl rfl ?_; refine WL_guardN rfl rfl rfl rfl rfl ?_; refine WL_val (rn_pickT (v := (.bool true)) rfl rfl rfl) rfl ?_; refine WL_nil ?_; have H := Option.some.inj H; subst H
    exact ⟨_, upds_self _ _ ⟨rfl, rfl, rfl, rfl, rfl, rfl, rfl, rfl, rfl, rfl, rfl, trivial⟩, rfl⟩
   ·have H := ifF hb100 H; refine WL_guardY rfl hb100 rfl rfl ?_; refine WL_val (rn_move (v := (.int .i64 y28.2)) rfl) rfl ?_; refine WL_guardY rfl hb100 rfl rfl ?_; refine WL_val (rn_neq rfl rfl) rfl ?_; refine WL_val (rn_pickF (v := (.bool (y28.2 != 0))) rfl hb100 rfl) rfl ?_; refine WL_val (rn_move (v := (.bool (y28.2 != 0))) rfl) rfl ?_
    rcases bcases (y28.2 != 0) with hb101 | hb101
    ·have H := ifT hb101 H; refine WL_guardN rfl hb101 rfl rfl rfl ?_; refine WL_guardN rfl hb101 rfl rfl rfl ?_; refine WL_val (rn_pickT (v := (.bool true)) rfl hb101 rfl) rfl ?_; refine WL_val (rn_move (v := (.bool true)) rfl) rfl ?_; refine WL_guardN rfl rfl rfl rfl rfl ?_; refine WL_guardN rfl rfl rfl rfl rfl ?_; refine WL_val (rn_pickT (v := (.bool true)) rfl rfl rfl) rfl ?_; refine WL_val (rn_move (v := (.bool true)) rfl) rfl ?_; refine WL_guardN rfl rfl rfl rfl rfl ?_; refine WL_guardN rfl rfl rfl rfl rfl ?_; refine WL_val (rn_pickT (v := (.bool true)) rfl rfl rfl) rfl ?_; refine WL_val (rn_move (v := (.bool true)) rfl) rfl ?_; refine WL_guardN rfl rfl rfl rfl rfl ?_; refine WL_guardN rfl rfl rfl rfl rfl ?_; refine WL_val (rn_pickT (v := (.bool true)) rfl rfl rfl) rfl ?_; refine WL_nil ?_; have H := Option.some.inj H; subst H
     exact ⟨_, upds_self _ _ ⟨rfl, rfl, rfl, rfl, rfl, rfl, rfl, rfl, rfl, rfl, rfl, trivial⟩, rfl⟩
    ·have H := ifF hb101 H; refine WL_guardY rfl hb101 rfl rfl ?_; refine WL_val (rn_move (v := (.int .i64 y59.2.2)) rfl) rfl ?_; refine WL_guardY rfl hb101 rfl rfl ?_; refine WL_val (rn_neq rfl rfl) rfl ?_; refine WL_val (rn_pickF (v := (.bool (y59.2.2 != 0))) rfl hb101 rfl) rfl ?_; refine WL_val (rn_move (v := (.bool (y59.2.2 != 0))) rfl) rfl ?_
     rcases bcases (y59.2.2 != 0) with hb102 | hb102
     ·have H := ifT hb102 H; refine WL_guardN rfl hb102 rfl rfl rfl ?_; refine WL_guardN rfl hb102 rfl rfl rfl ?_; refine WL_val (rn_pickT (v := (.bool true)) rfl hb102 rfl) rfl ?_; refine WL_val (rn_move (v := (.bool true)) rfl) rfl ?_; refine WL_guardN rfl rfl rfl rfl rfl ?_; refine WL_guardN rfl rfl rfl rfl rfl ?_; refine WL_val (rn_pickT (v := (.bool true)) rfl rfl rfl) rfl ?_; refine WL_val (rn_move (v := (.bool true)) rfl) rfl ?_; refine WL_guardN rfl rfl rfl rfl rfl ?_; refine WL_guardN rfl rfl rfl rfl rfl ?_; refine WL_val (rn_pickT (v := (.bool true)) rfl rfl rfl) rfl ?_; refine WL_nil ?_; have H := Option.some.inj H; subst H
      exact ⟨_, upds_self _ _ ⟨rfl, rfl, rfl, rfl, rfl, rfl, rfl, rfl, rfl, rfl, rfl, trivial⟩, rfl⟩
     ·have H := ifF hb102 H; refine WL_guardY rfl hb102 rfl rfl ?_; refine WL_val (rn_move (v := (.int .i64 y73.2)) rfl) rfl ?_; refine WL_guardY rfl hb102 rfl rfl ?_; refine WL_val (rn_neq rfl rfl) rfl ?_; refine WL_val (rn_pickF (v := (.bool (y73.2 != 0))) rfl hb102 rfl) rfl ?_; refine WL_val (rn_move (v := (.bool (y73.2 != 0))) rfl) rfl ?_
      rcases bcases (y73.2 != 0) with hb103 | hb103
      ·have H := ifT hb103 H; refine WL_guardN rfl hb103 rfl rfl rfl ?_; refine WL_guardN rfl hb103 rfl rfl rfl ?_; refine WL_val (rn_pickT (v := (.bool true)) rfl hb103 rfl) rfl ?_; refine WL_val (rn_move (v := (.bool true)) rfl) rfl ?_; refine WL_guardN rfl rfl rfl rfl rfl ?_; refine WL_guardN rfl rfl rfl rfl rfl ?_; refine WL_val (rn_pickT (v := (.bool true)) rfl rfl rfl) rfl ?_; refine WL_nil ?_; have H := Option.some.inj H; subst H
       exact ⟨_, upds_self _ _ ⟨rfl, rfl, rfl, rfl, rfl, rfl, rfl, rfl, rfl, rfl, rfl, trivial⟩, rfl⟩
      ·have H := ifF hb103 H; refine WL_guardY rfl hb103 rfl rfl ?_; refine WL_val (rn_move (v := (.int .i64 y86.2)) rfl) rfl ?_; refine WL_guardY rfl hb103 rfl rfl ?_; refine WL_val (rn_neq rfl rfl) rfl ?_; refine WL_val (rn_pickF (v := (.bool (y86.2 != 0))) rfl hb103 rfl) rfl ?_; refine WL_val (rn_move (v := (.bool (y86.2 != 0))) rfl) rfl ?_
       rcases bcases (y86.2 != 0) with hb104 | hb104
       ·have H := ifT hb104 H; refine WL_guardN rfl hb104 rfl rfl rfl ?_; refine WL_guardN rfl hb104 rfl rfl rfl ?_; refine WL_val (rn_pickT (v := (.bool true)) rfl hb104 rfl) rfl ?_; refine WL_nil ?_; have H := Option.some.inj H; subst H
        exact ⟨_, upds_self _ _ ⟨rfl, rfl, rfl, rfl, rfl, rfl, rfl, rfl, rfl, rfl, rfl, trivial⟩, rfl⟩
       ·have H := ifF hb104 H; refine WL_guardY rfl hb104 rfl rfl ?_; refine WL_val (rn_move (v := (.int .i64 y94.2.2)) rfl) rfl ?_; refine WL_guardY rfl hb104 rfl rfl ?_; refine WL_val (rn_neq rfl rfl) rfl ?_; refine WL_val (rn_pickF (v := (.bool (y94.2.2 != 0))) rfl hb104 rfl) rfl ?_; refine WL_nil ?_; have H := Option.some.inj H; subst H
        exact ⟨_, upds_self _ _ ⟨rfl, rfl, rfl, rfl, rfl, rfl, rfl, rfl, rfl, rfl, rfl, trivial⟩, rfl⟩
 ·rintro F wl ⟨Fb, rfl, rfl⟩
  refine WC_cond rfl (fun hb107 => ?_) (fun hb107 => ?_)
  ·have H := ifT hb107 H; refine WC_seq ?_; refine WC_region ?_; refine WL_val (rn_assign (v := (.bool false)) rfl) rfl ?_; refine WL_nil ?_; refine WC_ret ?_
   have H : some false = some r := H
   have H := Option.some.inj H; subst H
   exact ⟨rfl, hS.below⟩
  ·have H := ifF hb107 H; refine WC_skip ?_; refine WC_seq ?_; refine WC_seq ?_; obtain ⟨q108, hq108, H⟩ := bnd H; refine WC_cut (fun F w => ∃ (Fb : Fr) (G : Gm), F = upds Fb [(8, .slice a62 n62 c62), (9, .slice a63 n63 c63), (11, .slice a76 n76 c76), (13, .int .i64 y86.1), (15, .slice a97 n97 c97), (16, .int .i64 y94.2.1), (115, .bool q108)] ∧ Gle G96 G ∧ Since w0.heap.size G0 w0 G w ∧ Owns G w w0.heap.size []) ?_ ?_
   ·have Hoq108 := H; have H := hq108; refine WC_region ?_; refine WL_val (rn_move (v := (.slice a9 n9 c9)) rfl) rfl ?_
    refine WL_op rfl (OpP_newF (v := fun b => .slice (some ⟨b, 0, none⟩) 2 2) (cs := [.int .i64 8, .int .i64 14]) (e := 3) (by kernel_rfl) hS.sat rfl (fun b109 G111 w110 hg hcb109 => ?_))
    have hS := hS.grow hg; have hO := hO.grow hg
    have leG111 := hg.le
    have hfb109 : RSl RInt 1 G111 (some ⟨b109, 0, none⟩) 2 2 [8, 14] := RSl.of_rd hcb109 (Rd.cons (c := [.int .i64 8]) rfl rfl (Rd.cons (c := [.int .i64 14]) rfl rfl (Rd.nil RInt 1 _))) rfl (by decide)
    obtain ⟨y112, hy112, H⟩ := bnd H
    have l2_23 := (((((((((((((leG13.trans leG22).trans leG25).trans leG30).trans leG34).trans l7_14).trans leG61).trans leG66).trans leG72).trans leG75).trans leG79).trans leG85).trans leG90).trans leG96).trans leG111
    refine WL_op rfl (OpP_callV cb39 (f39_ok (x0 := y6.1) (x1 := [8, 14]) hS.sat (h9.mono RInt_mono l2_23) hfb109 hy112) rfl rfl (fun w113 hb => ?_)); have hS := hS.keep hb; have hO := hO.below hb; refine WL_val (rn_not rfl) rfl ?_; refine WL_val (rn_move (v := (.bool (!y112))) rfl) rfl ?_
    rcases bcases (!y112) with hb114 | hb114
    ·have H := ifT hb114 H; refine WL_guardN rfl hb114 rfl rfl rfl ?_; refine WL_guardN rfl hb114 rfl rfl rfl ?_; refine WL_guardN rfl hb114 rfl rfl rfl ?_; refine WL_guardN rfl hb114 rfl rfl rfl ?_; refine WL_val (rn_pickT (v := (.bool true)) rfl hb114 rfl) rfl ?_; refine WL_val (rn_move (v := (.bool true)) rfl) rfl ?_; refine WL_guardN rfl rfl rfl rfl rfl ?_; refine WL_guardN rfl rfl rfl rfl rfl ?_; refine WL_guardN rfl rfl rfl rfl rfl ?_; refine WL_val (rn_pickT (v := (.bool true)) rfl rfl rfl) rfl ?_; refine WL_val (rn_move (v := (.bool true)) rfl) rfl ?_; refine WL_guardN rfl rfl rfl rfl rfl ?_; refine WL_guardN rfl rfl rfl rfl rfl ?_; refine WL_guardN rfl rfl rfl rfl rfl ?_; refine WL_guardN rfl rfl rfl rfl rfl ?_; refine WL_guardN rfl rfl rfl rfl rfl ?_; refine WL_val (rn_pickT (v := (.bool true)) rfl rfl rfl) rfl ?_; refine WL_nil ?_
     have hO : Owns G111 w113 w0.heap.size ([]) := hO
     have H := Option.some.inj H; subst H
     exact ⟨_, G111, upds_self _ _ ⟨rfl, rfl, rfl, rfl, rfl, rfl, rfl, trivial⟩, leG111, hS, hO⟩
    ·have H := ifF hb114 H; refine WL_guardY rfl hb114 rfl rfl ?_; refine WL_val (rn_move (v := (.slice a10 n10 c10)) rfl) rfl ?_; refine WL_guardY rfl hb114 rfl rfl ?_
     refine WL_op rfl (OpP_newF (v := fun b => .slice (some ⟨b, 0, none⟩) 6 6) (cs := [.int .i64 7, .int .i64 8, .int .i64 9, .int .i64 13, .int .i64 14, .int .i64 15]) (e := 3) (by kernel_rfl) hS.sat rfl (fun b115 G117 w116 hg hcb115 => ?_))
     have hS := hS.grow hg; have hO := hO.grow hg
     have leG117 := hg.le
     have hfb115 : RSl RInt 1 G117 (some ⟨b115, 0, none⟩) 6 6 [7, 8, 9, 13, 14, 15] := RSl.of_rd hcb115 (Rd.cons (c := [.int .i64 7]) rfl rfl (Rd.cons (c := [.int .i64 8]) rfl rfl (Rd.cons (c := [.int .i64 9]) rfl rfl (Rd.cons (c := [.int .i64 13]) rfl rfl (Rd.cons (c := [.int .i64 14]) rfl rfl (Rd.cons (c := [.int .i64 15]) rfl rfl (Rd.nil RInt 1 _))))))) rfl (by decide)
     refine WL_guardY rfl hb114 rfl rfl ?_; obtain ⟨y118, hy118, H⟩ := bnd H
     have l2_24 := l2_23.trans leG117
     refine WL_op rfl (OpP_callV cb39 (f39_ok (x0 := y6.2.1) (x1 := [7, 8, 9, 13, 14, 15]) hS.sat (h10.mono RInt_mono l2_24) hfb115 hy118) rfl rfl (fun w119 hb => ?_)); have hS := hS.keep hb; have hO := hO.below hb; refine WL_guardY rfl hb114 rfl rfl ?_; refine WL_val (rn_not rfl) rfl ?_; refine WL_val (rn_pickF (v := (.bool (!y118))) rfl hb114 rfl) rfl ?_; refine WL_val (rn_move (v := (.bool (!y118))) rfl) rfl ?_
     rcases bcases (!y118) with hb120 | hb120
     ·have H := ifT hb120 H; refine WL_guardN rfl hb120 rfl rfl rfl ?_; refine WL_guardN rfl hb120 rfl rfl rfl ?_; refine WL_guardN rfl hb120 rfl rfl rfl ?_; refine WL_val (rn_pickT (v := (.bool true)) rfl hb120 rfl) rfl ?_; refine WL_val (rn_move (v := (.bool true)) rfl) rfl ?_; refine WL_guardN rfl rfl rfl rfl rfl ?_; refine WL_guardN rfl rfl rfl rfl rfl ?_; refine WL_guardN rfl rfl rfl rfl rfl ?_; refine WL_guardN rfl rfl rfl rfl rfl ?_; refine WL_guardN rfl rfl rfl rfl rfl ?_; refine WL_val (rn_pickT (v := (.bool true)) rfl rfl rfl) rfl ?_; refine WL_nil ?_
      have hO : Owns G117 w119 w0.heap.size ([]) := hO
      have H := Option.some.inj H; subst H
      have l22_24 := leG111.trans leG117
      exact ⟨_, G117, upds_self _ _ ⟨rfl, rfl, rfl, rfl, rfl, rfl, rfl, trivial⟩, l22_24, hS, hO⟩
     ·have H := ifF hb120 H; refine WL_guardY rfl hb120 rfl rfl ?_
      have l4_24 := ((((((((((((leG25.trans leG30).trans leG34).trans l7_14).trans leG61).trans leG66).trans leG72).trans leG75).trans leG79).trans leG85).trans leG90).trans leG96).trans leG111).trans leG117
      refine WL_val (rn_loadA ag82 (cs := [.int .i64 y16.1.Day, .int .i64 y16.1.Hour]) rfl rfl (fun j v hj => (hS.sat.le l4_24).cell (hcG22.drop_take 0 2 j v hj))) rfl ?_; refine WL_guardY rfl hb120 rfl rfl ?_
      refine WL_val (v := (.agg #[.int .i64 1, .int .i64 8])) (by kernel_rfl) rfl ?_
      refine WL_guardY rfl hb120 rfl rfl ?_; refine WL_val (rn_neqA (xs := [y16.1.Day, y16.1.Hour]) (ys := [1, 8]) in82 rfl rfl rfl rfl) rfl ?_; refine WL_val (rn_pickF (v := (.bool (!(([y16.1.Day, y16.1.Hour] : List Int) == [1, 8])))) rfl hb120 rfl) rfl ?_; refine WL_val (rn_move (v := (.bool (!(([y16.1.Day, y16.1.Hour] : List Int) == [1, 8])))) rfl) rfl ?_
      rcases bcases (!(([y16.1.Day, y16.1.Hour] : List Int) == [1, 8])) with hb121 | hb121
      ·have H := ifT hb121 H; refine WL_guardN rfl hb121 rfl rfl rfl ?_; refine WL_guardN rfl hb121 rfl rfl rfl ?_; refine WL_guardN rfl hb121 rfl rfl rfl ?_; refine WL_guardN rfl hb121 rfl rfl rfl ?_; refine WL_guardN rfl hb121 rfl rfl rfl ?_; refine WL_val (rn_pickT (v := (.bool true)) rfl hb121 rfl) rfl ?_; refine WL_nil ?_
       have hO : Owns G117 w119 w0.heap.size ([]) := hO
       have H := Option.some.inj H; subst H
       have l22_24 := leG111.trans leG117
       exact ⟨_, G117, upds_self _ _ ⟨rfl, rfl, rfl, rfl, rfl, rfl, rfl, trivial⟩, l22_24, hS, hO⟩
      ·have H := ifF hb121 H; refine WL_guardY rfl hb121 rfl rfl ?_; refine WL_val (rn_move (v := (.slice a31 n31 c31)) rfl) rfl ?_; refine WL_guardY rfl hb121 rfl rfl ?_
       refine WL_val (v := (.agg #[.int .i64 1, .int .i64 8])) (by kernel_rfl) rfl ?_
       refine WL_guardY rfl hb121 rfl rfl ?_
       refine WL_op rfl (OpP_newF (v := fun b => .slice (some ⟨b, 0, none⟩) 1 1) (cs := [.int .i64 1, .int .i64 8]) (e := 82) (by kernel_rfl) hS.sat rfl (fun b122 G124 w123 hg hcb122 => ?_))
       have hS := hS.grow hg; have hO := hO.grow hg
       have leG124 := hg.le
       have hfb122 : RSl RTShipCall 2 G124 (some ⟨b122, 0, none⟩) 1 1 [(⟨1, 8⟩ : TShipCall)] := RSl.of_rd hcb122 (Rd.cons (c := [.int .i64 1, .int .i64 8]) rfl rfl (Rd.nil RTShipCall 2 _)) rfl (by decide)
       refine WL_guardY rfl hb121 rfl rfl ?_; obtain ⟨y125, hy125, H⟩ := bnd H
       have l6_25 := (((((((((((leG34.trans l7_14).trans leG61).trans leG66).trans leG72).trans leG75).trans leG79).trans leG85).trans leG90).trans leG96).trans leG111).trans leG117).trans leG124
       refine WL_op rfl (OpP_callV cb23 (f23_ok (x0 := y28.1) (x1 := [(⟨1, 8⟩ : TShipCall)]) hS.sat (h31.mono RTShipCall_mono l6_25) hfb122 hy125) rfl rfl (fun w126 hb => ?_)); have hS := hS.keep hb; have hO := hO.below hb; refine WL_guardY rfl hb121 rfl rfl ?_; refine WL_val (rn_not rfl) rfl ?_; refine WL_val (rn_pickF (v := (.bool (!y125))) rfl hb121 rfl) rfl ?_; refine WL_nil ?_
       have hO : Owns G124 w126 w0.heap.size ([]) := hO
       have H := Option.some.inj H; subst H
       have l22_25 := (leG111.trans leG117).trans leG124
       exact ⟨_, G124, upds_self _ _ ⟨rfl, rfl, rfl, rfl, rfl, rfl, rfl, trivial⟩, l22_25, hS, hO⟩
   ·rintro F w127 ⟨Fb, G128, rfl, leG128, hS, hO⟩
    refine WC_cond rfl (fun hb129 => ?_) (fun hb129 => ?_)
    ·have H := ifT hb129 H; refine WC_seq ?_; refine WC_region ?_; refine WL_val (rn_assign (v := (.bool false)) rfl) rfl ?_; refine WL_nil ?_; refine WC_ret ?_
     have H : some false = some r := H
     have H := Option.some.inj H; subst H
     exact ⟨rfl, hS.below⟩
    ·have H := ifF hb129 H; refine WC_skip ?_; refine WC_seq ?_; obtain ⟨q130, hq130, H⟩ := bnd H; refine WC_cut (fun F w => ∃ (Fb : Fr) (G : Gm), F = upds Fb [(0, .bool q130)] ∧ Gle G128 G ∧ Since w0.heap.size G0 w0 G w ∧ Owns G w w0.heap.size []) ?_ ?_
     ·have Hoq130 := H; have H := hq130; refine WC_region ?_; refine WL_val (rn_move (v := (.slice a62 n62 c62)) rfl) rfl ?_
      refine WL_op rfl (OpP_newF (v := fun b => .slice (some ⟨b, 0, none⟩) 2 2) (cs := [.int .i64 56, .int .i64 (-1)]) (e := 3) (by kernel_rfl) hS.sat rfl (fun b131 G133 w132 hg hcb131 => ?_))
      have hS := hS.grow hg; have hO := hO.grow hg
      have leG133 := hg.le
      have hfb131 : RSl RInt 1 G133 (some ⟨b131, 0, none⟩) 2 2 [56, (-1)] := RSl.of_rd hcb131 (Rd.cons (c := [.int .i64 56]) rfl rfl (Rd.cons (c := [.int .i64 (-1)]) rfl rfl (Rd.nil RInt 1 _))) rfl (by decide)
      obtain ⟨y134, hy134, H⟩ := bnd H
      have l15_24 := (((((((leG66.trans leG72).trans leG75).trans leG79).trans leG85).trans leG90).trans leG96).trans leG128).trans leG133
      refine WL_op rfl (OpP_callV cb39 (f39_ok (x0 := y59.1) (x1 := [56, (-1)]) hS.sat (h62.mono RInt_mono l15_24) hfb131 hy134) rfl rfl (fun w135 hb => ?_)); have hS := hS.keep hb; have hO := hO.below hb; refine WL_val (rn_move (v := (.bool y134)) rfl) rfl ?_
      rcases bcases y134 with hb136 | hb136
      ·have H := ifT hb136 H; refine WL_guardY rfl hb136 rfl rfl ?_; refine WL_val (rn_move (v := (.slice a63 n63 c63)) rfl) rfl ?_; refine WL_guardY rfl hb136 rfl rfl ?_
       refine WL_op rfl (OpP_newF (v := fun b => .slice (some ⟨b, 0, none⟩) 2 2) (cs := [.int .i64 0, .int .i64 5]) (e := 3) (by kernel_rfl) hS.sat rfl (fun b137 G139 w138 hg hcb137 => ?_))
       have hS := hS.grow hg; have hO := hO.grow hg
       have leG139 := hg.le
       have hfb137 : RSl RInt 1 G139 (some ⟨b137, 0, none⟩) 2 2 [0, 5] := RSl.of_rd hcb137 (Rd.cons (c := [.int .i64 0]) rfl rfl (Rd.cons (c := [.int .i64 5]) rfl rfl (Rd.nil RInt 1 _))) rfl (by decide)
       refine WL_guardY rfl hb136 rfl rfl ?_; obtain ⟨y140, hy140, H⟩ := bnd H
       have l15_25 := l15_24.trans leG139
       refine WL_op rfl (OpP_callV cb39 (f39_ok (x0 := y59.2.1) (x1 := [0, 5]) hS.sat (h63.mono RInt_mono l15_25) hfb137 hy140) rfl rfl (fun w141 hb => ?_)); have hS := hS.keep hb; have hO := hO.below hb; refine WL_val (rn_pickT (v := (.bool y140)) rfl hb136 rfl) rfl ?_; refine WL_val (rn_move (v := (.bool y140)) rfl) rfl ?_
       rcases bcases y140 with hb142 | hb142
       ·have H := ifT hb142 H; refine WL_guardY rfl hb142 rfl rfl ?_; refine WL_val (rn_move (v := (.slice a76 n76 c76)) rfl) rfl ?_; refine WL_guardY rfl hb142 rfl rfl ?_
        refine WL_val (v := (.agg #[.int .i64 (-1), .int .i64 (-1)])) (by kernel_rfl) rfl ?_
        refine WL_guardY rfl hb142 rfl rfl ?_
        refine WL_val (v := (.agg #[.int .i64 50, .int .i64 (-1)])) (by kernel_rfl) rfl ?_
        refine WL_guardY rfl hb142 rfl rfl ?_
        refine WL_op rfl (OpP_newF (v := fun b => .slice (some ⟨b, 0, none⟩) 2 2) (cs := [.int .i64 (-1), .int .i64 (-1), .int .i64 50, .int .i64 (-1)]) (e := 59) (by kernel_rfl) hS.sat rfl (fun b143 G145 w144 hg hcb143 => ?_))
        have hS := hS.grow hg; have hO := hO.grow hg
        have leG145 := hg.le
        have hfb143 : RSl RTShipWant 2 G145 (some ⟨b143, 0, none⟩) 2 2 [(⟨(-1), (-1)⟩ : TShipWant), (⟨50, (-1)⟩ : TShipWant)] := RSl.of_rd hcb143 (Rd.cons (c := [.int .i64 (-1), .int .i64 (-1)]) rfl rfl (Rd.cons (c := [.int .i64 50, .int .i64 (-1)]) rfl rfl (Rd.nil RTShipWant 2 _))) rfl (by decide)
        refine WL_guardY rfl hb142 rfl rfl ?_; obtain ⟨y146, hy146, H⟩ := bnd H
        have l18_26 := ((((((leG79.trans leG85).trans leG90).trans leG96).trans leG128).trans leG133).trans leG139).trans leG145
        refine WL_op rfl (OpP_callV cb56 (f56_ok (x0 := y73.1) (x1 := [(⟨(-1), (-1)⟩ : TShipWant), (⟨50, (-1)⟩ : TShipWant)]) hS.sat (h76.mono RTShipWant_mono l18_26) hfb143 hy146) rfl rfl (fun w147 hb => ?_)); have hS := hS.keep hb; have hO := hO.below hb; refine WL_val (rn_pickT (v := (.bool y146)) rfl hb142 rfl) rfl ?_; refine WL_val (rn_move (v := (.bool y146)) rfl) rfl ?_
        rcases bcases y146 with hb148 | hb148
        ·have H := ifT hb148 H; refine WL_guardY rfl hb148 rfl rfl ?_; refine WL_val (rn_move (v := (.int .i64 y86.1)) rfl) rfl ?_; refine WL_guardY rfl hb148 rfl rfl ?_; refine WL_val (rn_eql rfl rfl) rfl ?_; refine WL_val (rn_pickT (v := (.bool (y86.1 == 750))) rfl hb148 rfl) rfl ?_; refine WL_val (rn_move (v := (.bool (y86.1 == 750))) rfl) rfl ?_
         rcases bcases (y86.1 == 750) with hb149 | hb149
         ·have H := ifT hb149 H; refine WL_guardY rfl hb149 rfl rfl ?_; refine WL_val (rn_move (v := (.slice a97 n97 c97)) rfl) rfl ?_; refine WL_guardY rfl hb149 rfl rfl ?_
          refine WL_op rfl (OpP_newF (v := fun b => .slice (some ⟨b, 0, none⟩) 2 2) (cs := [.int .i64 0, .int .i64 1]) (e := 3) (by kernel_rfl) hS.sat rfl (fun b150 G152 w151 hg hcb150 => ?_))
          have hS := hS.grow hg; have hO := hO.grow hg
          have leG152 := hg.le
          have hfb150 : RSl RInt 1 G152 (some ⟨b150, 0, none⟩) 2 2 [0, 1] := RSl.of_rd hcb150 (Rd.cons (c := [.int .i64 0]) rfl rfl (Rd.cons (c := [.int .i64 1]) rfl rfl (Rd.nil RInt 1 _))) rfl (by decide)
          refine WL_guardY rfl hb149 rfl rfl ?_; obtain ⟨y153, hy153, H⟩ := bnd H
          have l22_27 := (((leG128.trans leG133).trans leG139).trans leG145).trans leG152
          refine WL_op rfl (OpP_callV cb39 (f39_ok (x0 := y94.1) (x1 := [0, 1]) hS.sat (h97.mono RInt_mono l22_27) hfb150 hy153) rfl rfl (fun w154 hb => ?_)); have hS := hS.keep hb; have hO := hO.below hb; refine WL_val (rn_pickT (v := (.bool y153)) rfl hb149 rfl) rfl ?_; refine WL_val (rn_move (v := (.bool y153)) rfl) rfl ?_
          rcases bcases y153 with hb155 | hb155
          ·have H := ifT hb155 H; refine WL_guardY rfl hb155 rfl rfl ?_; refine WL_val (rn_move (v := (.int .i64 y94.2.1)) rfl) rfl ?_; refine WL_guardY rfl hb155 rfl rfl ?_; refine WL_val (rn_eql rfl rfl) rfl ?_; refine WL_val (rn_pickT (v := (.bool (y94.2.1 == 110))) rfl hb155 rfl) rfl ?_; refine WL_val (rn_assign (v := (.bool (y94.2.1 == 110))) rfl) rfl ?_; refine WL_nil ?_
           have hO : Owns G152 w154 w0.heap.size ([]) := hO
           have H := Option.some.inj H; subst H
           have l23_27 := ((leG133.trans leG139).trans leG145).trans leG152
           exact ⟨_, G152, upds_self _ _ ⟨rfl, trivial⟩, l23_27, hS, hO⟩
          ·have H := ifF hb155 H; refine WL_guardN rfl hb155 rfl rfl rfl ?_; refine WL_guardN rfl hb155 rfl rfl rfl ?_; refine WL_val (rn_pickF (v := (.bool false)) rfl hb155 rfl) rfl ?_; refine WL_val (rn_assign (v := (.bool false)) rfl) rfl ?_; refine WL_nil ?_
           have hO : Owns G152 w154 w0.heap.size ([]) := hO
           have H := Option.some.inj H; subst H
           have l23_27 := ((leG133.trans leG139).trans leG145).trans leG152
           exact ⟨_, G152, upds_self _ _ ⟨rfl, trivial⟩, l23_27, hS, hO⟩
         ·have H := ifF hb149 H; refine WL_guardN rfl hb149 rfl rfl rfl ?_; refine WL_guardN rfl hb149 rfl rfl rfl ?_; refine WL_guardN rfl hb149 rfl rfl rfl ?_; refine WL_val (rn_pickF (v := (.bool false)) rfl hb149 rfl) rfl ?_; refine WL_val (rn_move (v := (.bool false)) rfl) rfl ?_; refine WL_guardN rfl rfl rfl rfl rfl ?_; refine WL_guardN rfl rfl rfl rfl rfl ?_; refine WL_val (rn_pickF (v := (.bool false)) rfl rfl rfl) rfl ?_; refine WL_val (rn_assign (v := (.bool false)) rfl) rfl ?_; refine WL_nil ?_
          have hO : Owns G145 w147 w0.heap.size ([]) := hO
          have H := Option.some.inj H; subst H
          have l23_26 := (leG133.trans leG139).trans leG145
          exact ⟨_, G145, upds_self _ _ ⟨rfl, trivial⟩, l23_26, hS, hO⟩
        ·have H := ifF hb148 H; refine WL_guardN rfl hb148 rfl rfl rfl ?_; refine WL_guardN rfl hb148 rfl rfl rfl ?_; refine WL_val (rn_pickF (v := (.bool false)) rfl hb148 rfl) rfl ?_; refine WL_val (rn_move (v := (.bool false)) rfl) rfl ?_; refine WL_guardN rfl rfl rfl rfl rfl ?_; refine WL_guardN rfl rfl rfl rfl rfl ?_; refine WL_guardN rfl rfl rfl rfl rfl ?_; refine WL_val (rn_pickF (v := (.bool false)) rfl rfl rfl) rfl ?_; refine WL_val (rn_move (v := (.bool false)) rfl) rfl ?_; refine WL_guardN rfl rfl rfl rfl rfl ?_; refine WL_guardN rfl rfl rfl rfl rfl ?_; refine WL_val (rn_pickF (v := (.bool false)) rfl rfl rfl) rfl ?_; refine WL_val (rn_assign (v := (.bool false)) rfl) rfl ?_; refine WL_nil ?_
         have hO : Owns G145 w147 w0.heap.size ([]) := hO
         have H := Option.some.inj H; subst H
         have l23_26 := (leG133.trans leG139).trans leG145
         exact ⟨_, G145, upds_self _ _ ⟨rfl, trivial⟩, l23_26, hS, hO⟩
       ·have H := ifF hb142 H; refine WL_guardN rfl hb142 rfl rfl rfl ?_; refine WL_guardN rfl hb142 rfl rfl rfl ?_; refine WL_guardN rfl hb142 rfl rfl rfl ?_; refine WL_guardN rfl hb142 rfl rfl rfl ?_; refine WL_guardN rfl hb142 rfl rfl rfl ?_; refine WL_val (rn_pickF (v := (.bool false)) rfl hb142 rfl) rfl ?_; refine WL_val (rn_move (v := (.bool false)) rfl) rfl ?_; refine WL_guardN rfl rfl rfl rfl rfl ?_; refine WL_guardN rfl rfl rfl rfl rfl ?_; refine WL_val (rn_pickF (v := (.bool false)) rfl rfl rfl) rfl ?_; refine WL_val (rn_move (v := (.bool false)) rfl) rfl ?_; refine WL_guardN rfl rfl rfl rfl rfl ?_; refine WL_guardN rfl rfl rfl rfl rfl ?_; refine WL_guardN rfl rfl rfl rfl rfl ?_; refine WL_val (rn_pickF (v := (.bool false)) rfl rfl rfl) rfl ?_; refine WL_val (rn_move (v := (.bool false)) rfl) rfl ?_; refine WL_guardN rfl rfl rfl rfl rfl ?_; refine WL_guardN rfl rfl rfl rfl rfl ?_; refine WL_val (rn_pickF (v := (.bool false)) rfl rfl rfl) rfl ?_; refine WL_val (rn_assign (v := (.bool false)) rfl) rfl ?_; refine WL_nil ?_
        have hO : Owns G139 w141 w0.heap.size ([]) := hO
        have H := Option.some.inj H; subst H
        have l23_25 := leG133.trans leG139
        exact ⟨_, G139, upds_self _ _ ⟨rfl, trivial⟩, l23_25, hS, hO⟩
      ·have H := ifF hb136 H; refine WL_guardN rfl hb136 rfl rfl rfl ?_; refine WL_guardN rfl hb136 rfl rfl rfl ?_; refine WL_guardN rfl hb136 rfl rfl rfl ?_; refine WL_val (rn_pickF (v := (.bool false)) rfl hb136 rfl) rfl ?_; refine WL_val (rn_move (v := (.bool false)) rfl) rfl ?_; refine WL_guardN rfl rfl rfl rfl rfl ?_; refine WL_guardN rfl rfl rfl rfl rfl ?_; refine WL_guardN rfl rfl rfl rfl rfl ?_; refine WL_guardN rfl rfl rfl rfl rfl ?_; refine WL_guardN rfl rfl rfl rfl rfl ?_; refine WL_val (rn_pickF (v := (.bool false)) rfl rfl rfl) rfl ?_; refine WL_val (rn_move (v := (.bool false)) rfl) rfl ?_; refine WL_guardN rfl rfl rfl rfl rfl ?_; refine WL_guardN rfl rfl rfl rfl rfl ?_; refine WL_val (rn_pickF (v := (.bool false)) rfl rfl rfl) rfl ?_; refine WL_val (rn_move (v := (.bool false)) rfl) rfl ?_; refine WL_guardN rfl rfl rfl rfl rfl ?_; refine WL_guardN rfl rfl rfl rfl rfl ?_; refine WL_guardN rfl rfl rfl rfl rfl ?_; refine WL_val (rn_pickF (v := (.bool false)) rfl rfl rfl) rfl ?_; refine WL_val (rn_move (v := (.bool false)) rfl) rfl ?_; refine WL_guardN rfl rfl rfl rfl rfl ?_; refine WL_guardN rfl rfl rfl rfl rfl ?_; refine WL_val (rn_pickF (v := (.bool false)) rfl rfl rfl) rfl ?_; refine WL_val (rn_assign (v := (.bool false)) rfl) rfl ?_; refine WL_nil ?_
       have hO : Owns G133 w135 w0.heap.size ([]) := hO
       have H := Option.some.inj H; subst H
       exact ⟨_, G133, upds_self _ _ ⟨rfl, trivial⟩, leG133, hS, hO⟩
     ·rintro F w156 ⟨Fb, G157, rfl, leG157, hS, hO⟩
      refine WC_ret ?_
      have H : some q130 = some r := H
      have H := Option.some.inj H; subst H
      exact ⟨rfl, hS.below⟩
set_option maxHeartbeats 1000000 in
theorem f65_ok {G0 : Gm} {w0 : World} (hS0 : Sat G0 w0) {x0 : Int} {x1 : Int} {x2 : Int}  {r : Bool} (H : f65 x0 x1 x2 = some r) :
  Calls Try.prog 65 #[.int .i64 x0, .int .i64 x1, .int .i64 x2] w0 (RetV w0 (.bool r)) := by
 have hS := Since.start hS0
 have hO : Owns G0 w0 w0.heap.size [] := Owns.nil (Nat.le_refl _)
 unfold f65 at H
 refine enter1 (N := 15) (shutV _ _) Try.func65 rfl rfl rfl rfl ?_; refine WC_seq ?_; refine WC_region ?_; refine WL_val (rn_assign (v := (.bool false)) rfl) rfl ?_; refine WL_nil ?_; refine WC_seq ?_; obtain ⟨q1, hq1, H⟩ := bnd H; refine WC_cut (fun F w => ∃ (Fb : Fr), F = upds Fb [(6, .bool q1)] ∧ w0 = w) ?_ ?_
 ·have Hoq1 := H; have H := hq1; refine WC_region ?_; refine WL_val (rn_move (v := (.int .i64 x0)) rfl) rfl ?_; refine WL_val (rn_move (v := (.int .i64 x1)) rfl) rfl ?_; refine WL_val (rn_geq rfl rfl) rfl ?_; refine WL_val (rn_move (v := (.bool (decide (x1 ≤ x0)))) rfl) rfl ?_
  rcases bcases (decide (x1 ≤ x0)) with hb2 | hb2
  ·have H := ifT hb2 H; refine WL_guardY rfl hb2 rfl rfl ?_; refine WL_val (rn_move (v := (.int .i64 x0)) rfl) rfl ?_; refine WL_guardY rfl hb2 rfl rfl ?_; refine WL_val (rn_move (v := (.int .i64 x2)) rfl) rfl ?_; refine WL_guardY rfl hb2 rfl rfl ?_; refine WL_val (rn_leq rfl rfl) rfl ?_; refine WL_val (rn_pickT (v := (.bool (decide (x0 ≤ x2)))) rfl hb2 rfl) rfl ?_; refine WL_val (rn_assign (v := (.bool (decide (x0 ≤ x2)))) rfl) rfl ?_; refine WL_nil ?_; have H := Option.some.inj H; subst H
   exact ⟨_, upds_self _ _ ⟨rfl, trivial⟩, rfl⟩
  ·have H := ifF hb2 H; refine WL_guardN rfl hb2 rfl rfl rfl ?_; refine WL_guardN rfl hb2 rfl rfl rfl ?_; refine WL_guardN rfl hb2 rfl rfl rfl ?_; refine WL_val (rn_pickF (v := (.bool false)) rfl hb2 rfl) rfl ?_; refine WL_val (rn_assign (v := (.bool false)) rfl) rfl ?_; refine WL_nil ?_; have H := Option.some.inj H; subst H
   exact ⟨_, upds_self _ _ ⟨rfl, trivial⟩, rfl⟩
 ·rintro F wl ⟨Fb, rfl, rfl⟩
  refine WC_ret ?_
  have H : some q1 = some r := H
  have H := Option.some.inj H; subst H
  exact ⟨rfl, hS.below⟩
set_option maxHeartbeats 1000000 in
theorem f66_ok {G0 : Gm} {w0 : World} (hS0 : Sat G0 w0) {x0 : TSpan} {x1 : Int} {x2 : Int}  {r : Bool} (H : f66 x0 x1 x2 = some r) :
  Calls Try.prog 66 #[.agg #[.int .i64 x0.Low, .int .i64 x0.High], .int .i64 x1, .int .i64 x2] w0 (RetV w0 (.bool r)) := by
 have hS := Since.start hS0
 have hO : Owns G0 w0 w0.heap.size [] := Owns.nil (Nat.le_refl _)
 unfold f66 at H
 refine enter1 (N := 24) (shutV _ _) Try.func66 rfl rfl rfl rfl ?_; refine WC_seq ?_; refine WC_region ?_; refine WL_op rfl (OpP_newF (v := fun b => .pointer (some ⟨b, 0, none⟩)) (cs := [.int .i64 x0.Low, .int .i64 x0.High]) (e := 25) (rn_boxA rfl) hS.sat rfl (fun b1 G3 w2 hg hcb1 => ?_)); have hS := hS.grow hg; have hO := hO.grow hg
 have leG3 := hg.le
 refine WL_val (rn_assign (v := (.bool false)) rfl) rfl ?_; refine WL_nil ?_; refine WC_seq ?_; obtain ⟨q4, hq4, H⟩ := bnd H; refine WC_cut (fun F w => ∃ (Fb : Fr), F = upds Fb [(6, .bool q4)] ∧ w2 = w) ?_ ?_
 ·have Hoq4 := H; have H := hq4; refine WC_region ?_; refine WL_val (rn_fld fd25_0 rfl) rfl ?_; refine WL_val (rn_load na3 rfl (hS.sat.cell (hcb1 0 _ rfl))) rfl ?_; refine WL_val (rn_move (v := (.int .i64 x1)) rfl) rfl ?_; refine WL_val (rn_geq rfl rfl) rfl ?_; refine WL_val (rn_move (v := (.bool (decide (x1 ≤ x0.Low)))) rfl) rfl ?_
  rcases bcases (decide (x1 ≤ x0.Low)) with hb5 | hb5
  ·have H := ifT hb5 H; refine WL_guardY rfl hb5 rfl rfl ?_; refine WL_val (rn_fld fd25_0 rfl) rfl ?_; refine WL_guardY rfl hb5 rfl rfl ?_; refine WL_val (rn_load na3 rfl (hS.sat.cell (hcb1 0 _ rfl))) rfl ?_; refine WL_guardY rfl hb5 rfl rfl ?_; refine WL_val (rn_fld fd25_1 rfl) rfl ?_; refine WL_guardY rfl hb5 rfl rfl ?_; refine WL_val (rn_load na3 rfl (hS.sat.cell (hcb1 1 _ rfl))) rfl ?_; refine WL_guardY rfl hb5 rfl rfl ?_; refine WL_val (rn_leq rfl rfl) rfl ?_; refine WL_val (rn_pickT (v := (.bool (decide (x0.Low ≤ x0.High)))) rfl hb5 rfl) rfl ?_; refine WL_val (rn_move (v := (.bool (decide (x0.Low ≤ x0.High)))) rfl) rfl ?_
   rcases bcases (decide (x0.Low ≤ x0.High)) with hb6 | hb6
   ·have H := ifT hb6 H; refine WL_guardY rfl hb6 rfl rfl ?_; refine WL_val (rn_fld fd25_1 rfl) rfl ?_; refine WL_guardY rfl hb6 rfl rfl ?_; refine WL_val (rn_load na3 rfl (hS.sat.cell (hcb1 1 _ rfl))) rfl ?_; refine WL_guardY rfl hb6 rfl rfl ?_; refine WL_val (rn_move (v := (.int .i64 x2)) rfl) rfl ?_; refine WL_guardY rfl hb6 rfl rfl ?_; refine WL_val (rn_leq rfl rfl) rfl ?_; refine WL_val (rn_pickT (v := (.bool (decide (x0.High ≤ x2)))) rfl hb6 rfl) rfl ?_; refine WL_val (rn_assign (v := (.bool (decide (x0.High ≤ x2)))) rfl) rfl ?_; refine WL_nil ?_; have H := Option.some.inj H; subst H
    exact ⟨_, upds_self _ _ ⟨rfl, trivial⟩, rfl⟩
   ·have H := ifF hb6 H; refine WL_guardN rfl hb6 rfl rfl rfl ?_; refine WL_guardN rfl hb6 rfl rfl rfl ?_; refine WL_guardN rfl hb6 rfl rfl rfl ?_; refine WL_guardN rfl hb6 rfl rfl rfl ?_; refine WL_val (rn_pickF (v := (.bool false)) rfl hb6 rfl) rfl ?_; refine WL_val (rn_assign (v := (.bool false)) rfl) rfl ?_; refine WL_nil ?_; have H := Option.some.inj H; subst H
    exact ⟨_, upds_self _ _ ⟨rfl, trivial⟩, rfl⟩
  ·have H := ifF hb5 H; refine WL_guardN rfl hb5 rfl rfl rfl ?_; refine WL_guardN rfl hb5 rfl rfl rfl ?_; refine WL_guardN rfl hb5 rfl rfl rfl ?_; refine WL_guardN rfl hb5 rfl rfl rfl ?_; refine WL_guardN rfl hb5 rfl rfl rfl ?_; refine WL_val (rn_pickF (v := (.bool false)) rfl hb5 rfl) rfl ?_; refine WL_val (rn_move (v := (.bool false)) rfl) rfl ?_; refine WL_guardN rfl rfl rfl rfl rfl ?_; refine WL_guardN rfl rfl rfl rfl rfl ?_; refine WL_guardN rfl rfl rfl rfl rfl ?_; refine WL_guardN rfl rfl rfl rfl rfl ?_; refine WL_val (rn_pickF (v := (.bool false)) rfl rfl rfl) rfl ?_; refine WL_val (rn_assign (v := (.bool false)) rfl) rfl ?_; refine WL_nil ?_; have H := Option.some.inj H; subst H
   exact ⟨_, upds_self _ _ ⟨rfl, trivial⟩, rfl⟩
 ·rintro F wl ⟨Fb, rfl, rfl⟩
  refine WC_ret ?_
  have H : some q4 = some r := H
  have H := Option.some.inj H; subst H
  exact ⟨rfl, hS.below⟩
set_option maxHeartbeats 1000000 in
theorem f20_ok {G0 : Gm} {w0 : World} (hS0 : Sat G0 w0) {x0 : TSpan}  {r : Bool} (H : f20 x0 = some r) :
  Calls Try.prog 20 #[.agg #[.int .i64 x0.Low, .int .i64 x0.High]] w0 (RetV w0 (.bool r)) := by
 have hS := Since.start hS0
 have hO : Owns G0 w0 w0.heap.size [] := Owns.nil (Nat.le_refl _)
 unfold f20 at H
 refine enter1 (N := 5) (shutV _ _) Try.func20 rfl rfl rfl rfl ?_; refine WC_seq ?_; refine WC_region ?_; refine WL_op rfl (OpP_newF (v := fun b => .pointer (some ⟨b, 0, none⟩)) (cs := [.int .i64 x0.Low, .int .i64 x0.High]) (e := 25) (rn_boxA rfl) hS.sat rfl (fun b1 G3 w2 hg hcb1 => ?_)); have hS := hS.grow hg; have hO := hO.grow hg
 have leG3 := hg.le
 refine WL_val (rn_assign (v := (.bool false)) rfl) rfl ?_; refine WL_nil ?_; refine WC_seq ?_; refine WC_region ?_; refine WL_val (rn_loadA ag25 (cs := [.int .i64 x0.Low, .int .i64 x0.High]) rfl rfl (fun j v hj => hS.sat.cell (hcb1.drop_take 0 2 j v hj))) rfl ?_; obtain ⟨y4, hy4, H⟩ := bnd H; refine WL_op rfl (OpP_callV cb66 (f66_ok (x0 := x0) (x1 := 1) (x2 := 60) hS.sat  hy4) rfl rfl (fun w5 hb => ?_)); have hS := hS.keep hb; have hO := hO.below hb; refine WL_val (rn_assign (v := (.bool y4)) rfl) rfl ?_; refine WL_nil ?_; refine WC_ret ?_
 have H : some y4 = some r := H
 have H := Option.some.inj H; subst H
 exact ⟨rfl, hS.below⟩
set_option maxHeartbeats 1000000 in
theorem f24_ok {G0 : Gm} {w0 : World} (hS0 : Sat G0 w0) {x0 : TShipStore} {a1 : Option Addr} {n1 c1 : Nat} {a2 : Option Addr} {n2 c2 : Nat} {a3 : Option Addr} {n3 c3 : Nat} (h1 : RSl RInt 1 G0 a1 n1 c1 x0.Stock) (h2 : RSl RTSpan 2 G0 a2 n2 c2 x0.Use) (h3 : RSl RTShipLot 3 G0 a3 n3 c3 x0.Lots) {r : Bool} (H : f24 x0 = some r) :
  Calls Try.prog 24 #[.agg #[.slice a1 n1 c1, .slice a2 n2 c2, .int .i64 x0.Gap.Low, .int .i64 x0.Gap.High, .slice a3 n3 c3, .int .i64 x0.Hold]] w0 (RetV w0 (.bool r)) := by
 have hS := Since.start hS0
 have hO : Owns G0 w0 w0.heap.size [] := Owns.nil (Nat.le_refl _)
 unfold f24 at H
 refine enter1 (N := 39) (shutV _ _) Try.func24 rfl rfl rfl rfl ?_; refine WC_seq ?_; refine WC_region ?_; refine WL_op rfl (OpP_newF (v := fun b => .pointer (some ⟨b, 0, none⟩)) (cs := [.slice a1 n1 c1, .slice a2 n2 c2, .int .i64 x0.Gap.Low, .int .i64 x0.Gap.High, .slice a3 n3 c3, .int .i64 x0.Hold]) (e := 42) (rn_boxA rfl) hS.sat rfl (fun b4 G6 w5 hg hcb4 => ?_)); have hS := hS.grow hg; have hO := hO.grow hg
 have leG6 := hg.le
 refine WL_val (rn_assign (v := (.bool false)) rfl) rfl ?_; refine WL_nil ?_; refine WC_seq ?_; refine WC_seq ?_; refine WC_region ?_; refine WL_val (rn_assign (v := (.int .i64 0)) rfl) rfl ?_; refine WL_nil ?_; obtain ⟨q9, hq9, H⟩ := bnd H; refine WC_cut (fun F w => ∃ (p8 : Unit) (Fb : Fr), q9 = .inl p8 ∧ F = upds Fb [(1, .pointer (some ⟨b4, 0, none⟩))] ∧ w5 = w) ?_ ?_
 ·refine WC_block (WC_loop hq9 (fun s7 F w => ∃ (Fb : Fr), F = upds Fb [(1, .pointer (some ⟨b4, 0, none⟩)), (3, .int .i64 s7)] ∧ w5 = w) ?_ ?_)
  ·exact ⟨_, upds_self _ _ ⟨rfl, rfl, trivial⟩, rfl⟩
  ·rintro s7 F wl t10 ⟨Fb, rfl, rfl⟩
   intro H1 hqq9
   have Hoq9 := H; have H := H1
   unfold f24_b0 at H
   refine WC_seq ?_; refine WC_seq ?_; obtain ⟨q13, hq13, H⟩ := bnd H; refine WC_cut (fun F w => ∃ (Fb : Fr), F = upds Fb [(1, .pointer (some ⟨b4, 0, none⟩)), (3, .int .i64 s7), (12, .bool q13)] ∧ w5 = w) ?_ ?_
   ·have Hoq13 := H; have H := hq13; refine WC_region ?_; refine WL_val (rn_move (v := (.int .i64 s7)) rfl) rfl ?_; refine WL_val (rn_fld fd42_3 rfl) rfl ?_; refine WL_val (rn_load na40 rfl (hS.sat.cell (hcb4 4 _ rfl))) rfl ?_; refine WL_val (rn_len sl40 rfl rfl (h3.mono RTShipLot_mono leG6).1) rfl ?_; refine WL_val (rn_lss rfl rfl) rfl ?_; refine WL_val (rn_move (v := (.bool (decide (s7 < (x0.Lots.length : Int))))) rfl) rfl ?_
    rcases bcases (decide (s7 < (x0.Lots.length : Int))) with hb14 | hb14
    ·have H := ifT hb14 H; refine WL_guardY rfl hb14 rfl rfl ?_; refine WL_val (rn_move (v := (.int .i64 s7)) rfl) rfl ?_; refine WL_guardY rfl hb14 rfl rfl ?_; refine WL_val (rn_lss rfl rfl) rfl ?_; refine WL_val (rn_pickT (v := (.bool (decide (s7 < 12)))) rfl hb14 rfl) rfl ?_; refine WL_nil ?_; have H := Option.some.inj H; subst H
     exact ⟨_, upds_self _ _ ⟨rfl, rfl, rfl, trivial⟩, rfl⟩
    ·have H := ifF hb14 H; refine WL_guardN rfl hb14 rfl rfl rfl ?_; refine WL_guardN rfl hb14 rfl rfl rfl ?_; refine WL_val (rn_pickF (v := (.bool false)) rfl hb14 rfl) rfl ?_; refine WL_nil ?_; have H := Option.some.inj H; subst H
     exact ⟨_, upds_self _ _ ⟨rfl, rfl, rfl, trivial⟩, rfl⟩
   ·rintro F wl ⟨Fb, rfl, rfl⟩
    refine WC_cond rfl (fun hb17 => ?_) (fun hb17 => ?_)
    ·have H := ifT hb17 H; refine WC_skip ?_; refine WC_seq ?_; refine WC_block ?_; refine WC_seq ?_; refine WC_region ?_; refine WL_val (rn_fld fd42_3 rfl) rfl ?_; refine WL_val (rn_load na40 rfl (hS.sat.cell (hcb4 4 _ rfl))) rfl ?_; refine WL_val (rn_move (v := (.int .i64 s7)) rfl) rfl ?_; obtain ⟨y18, hy18, H⟩ := bnd H; refine WL_idx sl40 (h3.mono RTShipLot_mono leG6) hy18 rfl rfl rfl ?_
     rintro b19 o19 _ hcb19 _ ⟨a20, n20, c20, ⟨⟩, h20⟩
     refine WL_val (rn_fld fd111_0 rfl) rfl ?_; refine WL_val (rn_load na23 rfl (hS.sat.cell (hcb19 0 _ rfl))) rfl ?_; refine WL_val (rn_len sl23 rfl rfl h20.1) rfl ?_; refine WL_val (rn_gtr rfl rfl) rfl ?_; refine WL_nil ?_; refine WC_cond rfl (fun hb21 => ?_) (fun hb21 => ?_)
     ·have H := ifT hb21 H; refine WC_seq ?_; refine WC_region ?_; refine WL_val (rn_assign (v := (.bool false)) rfl) rfl ?_; refine WL_nil ?_; refine WC_ret ?_; have H := Option.some.inj H; subst H
      have hres := hqq9 _ rfl
      subst hres; have H := Hoq9
      have H : some false = some r := H
      have H := Option.some.inj H; subst H
      exact ⟨rfl, hS.below⟩
     ·have H := ifF hb21 H; refine WC_skip ?_; refine WC_region ?_; refine WL_val (rn_move (v := (.int .i64 s7)) rfl) rfl ?_; refine WL_val (rn_add rfl rfl) rfl ?_; refine WL_val (rn_assign (v := (.int .i64 (IntKind.i64.wrap (s7 + 1)))) rfl) rfl ?_; refine WL_nil ?_; have H := Option.some.inj H; subst H; refine ⟨_, rfl, ?_⟩
      exact ⟨_, upds_self _ _ ⟨rfl, rfl, trivial⟩, rfl⟩
    ·have H := ifF hb17 H; refine WC_exit rfl ?_; have H := Option.some.inj H; subst H
     have hres := hqq9 _ rfl
     subst hres
     exact ⟨_, _, rfl, upds_self _ _ ⟨rfl, trivial⟩, rfl⟩
 ·rintro F wl ⟨p8, Fb, rfl, rfl, rfl⟩
  refine WC_seq ?_; obtain ⟨q24, hq24, H⟩ := bnd H; refine WC_cut (fun F w => ∃ (Fb : Fr), F = upds Fb [(2, .bool q24)] ∧ w5 = w) ?_ ?_
  ·have Hoq24 := H; have H := hq24; refine WC_region ?_; refine WL_val (rn_fld fd42_0 rfl) rfl ?_; refine WL_val (rn_load na22 rfl (hS.sat.cell (hcb4 0 _ rfl))) rfl ?_; refine WL_val (rn_len sl22 rfl rfl (h1.mono RInt_mono leG6).1) rfl ?_; refine WL_val (rn_leq rfl rfl) rfl ?_; refine WL_val (rn_move (v := (.bool (decide ((x0.Stock.length : Int) ≤ 8)))) rfl) rfl ?_
   rcases bcases (decide ((x0.Stock.length : Int) ≤ 8)) with hb25 | hb25
   ·have H := ifT hb25 H; refine WL_guardY rfl hb25 rfl rfl ?_; refine WL_val (rn_fld fd42_1 rfl) rfl ?_; refine WL_guardY rfl hb25 rfl rfl ?_; refine WL_val (rn_load na23 rfl (hS.sat.cell (hcb4 1 _ rfl))) rfl ?_; refine WL_guardY rfl hb25 rfl rfl ?_; refine WL_val (rn_len sl23 rfl rfl (h2.mono RTSpan_mono leG6).1) rfl ?_; refine WL_guardY rfl hb25 rfl rfl ?_; refine WL_val (rn_leq rfl rfl) rfl ?_; refine WL_val (rn_pickT (v := (.bool (decide ((x0.Use.length : Int) ≤ 8)))) rfl hb25 rfl) rfl ?_; refine WL_val (rn_move (v := (.bool (decide ((x0.Use.length : Int) ≤ 8)))) rfl) rfl ?_
    rcases bcases (decide ((x0.Use.length : Int) ≤ 8)) with hb26 | hb26
    ·have H := ifT hb26 H; refine WL_guardY rfl hb26 rfl rfl ?_; refine WL_val (rn_fld fd42_3 rfl) rfl ?_; refine WL_guardY rfl hb26 rfl rfl ?_; refine WL_val (rn_load na40 rfl (hS.sat.cell (hcb4 4 _ rfl))) rfl ?_; refine WL_guardY rfl hb26 rfl rfl ?_; refine WL_val (rn_len sl40 rfl rfl (h3.mono RTShipLot_mono leG6).1) rfl ?_; refine WL_guardY rfl hb26 rfl rfl ?_; refine WL_val (rn_leq rfl rfl) rfl ?_; refine WL_val (rn_pickT (v := (.bool (decide ((x0.Lots.length : Int) ≤ 9)))) rfl hb26 rfl) rfl ?_; refine WL_val (rn_assign (v := (.bool (decide ((x0.Lots.length : Int) ≤ 9)))) rfl) rfl ?_; refine WL_nil ?_; have H := Option.some.inj H; subst H
     exact ⟨_, upds_self _ _ ⟨rfl, trivial⟩, rfl⟩
    ·have H := ifF hb26 H; refine WL_guardN rfl hb26 rfl rfl rfl ?_; refine WL_guardN rfl hb26 rfl rfl rfl ?_; refine WL_guardN rfl hb26 rfl rfl rfl ?_; refine WL_guardN rfl hb26 rfl rfl rfl ?_; refine WL_val (rn_pickF (v := (.bool false)) rfl hb26 rfl) rfl ?_; refine WL_val (rn_assign (v := (.bool false)) rfl) rfl ?_; refine WL_nil ?_; have H := Option.some.inj H; subst H
     exact ⟨_, upds_self _ _ ⟨rfl, trivial⟩, rfl⟩
   ·have H := ifF hb25 H; refine WL_guardN rfl hb25 rfl rfl rfl ?_; refine WL_guardN rfl hb25 rfl rfl rfl ?_; refine WL_guardN rfl hb25 rfl rfl rfl ?_; refine WL_guardN rfl hb25 rfl rfl rfl ?_; refine WL_val (rn_pickF (v := (.bool false)) rfl hb25 rfl) rfl ?_; refine WL_val (rn_move (v := (.bool false)) rfl) rfl ?_; refine WL_guardN rfl rfl rfl rfl rfl ?_; refine WL_guardN rfl rfl rfl rfl rfl ?_; refine WL_guardN rfl rfl rfl rfl rfl ?_; refine WL_guardN rfl rfl rfl rfl rfl ?_; refine WL_val (rn_pickF (v := (.bool false)) rfl rfl rfl) rfl ?_; refine WL_val (rn_assign (v := (.bool false)) rfl) rfl ?_; refine WL_nil ?_; have H := Option.some.inj H; subst H
    exact ⟨_, upds_self _ _ ⟨rfl, trivial⟩, rfl⟩
  ·rintro F wl ⟨Fb, rfl, rfl⟩
   refine WC_ret ?_
   have H : some q24 = some r := H
   have H := Option.some.inj H; subst H
   exact ⟨rfl, hS.below⟩
set_option maxHeartbeats 1000000 in
theorem f36_ok {G0 : Gm} {w0 : World} (hS0 : Sat G0 w0) {x0 : TShipStore} {a1 : Option Addr} {n1 c1 : Nat} {a2 : Option Addr} {n2 c2 : Nat} {a3 : Option Addr} {n3 c3 : Nat} (h1 : RSl RInt 1 G0 a1 n1 c1 x0.Stock) (h2 : RSl RTSpan 2 G0 a2 n2 c2 x0.Use) (h3 : RSl RTShipLot 3 G0 a3 n3 c3 x0.Lots) {r : Bool} (H : f36 x0 = some r) :
  Calls Try.prog 36 #[.agg #[.slice a1 n1 c1, .slice a2 n2 c2, .int .i64 x0.Gap.Low, .int .i64 x0.Gap.High, .slice a3 n3 c3, .int .i64 x0.Hold]] w0 (RetV w0 (.bool r)) := by
 have hS := Since.start hS0
 have hO : Owns G0 w0 w0.heap.size [] := Owns.nil (Nat.le_refl _)
 unfold f36 at H
 refine enter1 (N := 110) (shutV _ _) Try.func36 rfl rfl rfl rfl ?_; refine WC_seq ?_; refine WC_region ?_; refine WL_op rfl (OpP_newF (v := fun b => .pointer (some ⟨b, 0, none⟩)) (cs := [.slice a1 n1 c1, .slice a2 n2 c2, .int .i64 x0.Gap.Low, .int .i64 x0.Gap.High, .slice a3 n3 c3, .int .i64 x0.Hold]) (e := 42) (rn_boxA rfl) hS.sat rfl (fun b4 G6 w5 hg hcb4 => ?_)); have hS := hS.grow hg; have hO := hO.grow hg
 have leG6 := hg.le
 refine WL_val (rn_assign (v := (.bool false)) rfl) rfl ?_; refine WL_nil ?_; refine WC_seq ?_; refine WC_seq ?_; refine WC_region ?_; refine WL_val (rn_assign (v := (.int .i64 0)) rfl) rfl ?_; refine WL_nil ?_; obtain ⟨q9, hq9, H⟩ := bnd H; refine WC_cut (fun F w => ∃ (p8 : Unit) (Fb : Fr) (G : Gm), q9 = .inl p8 ∧ F = upds Fb [(1, .pointer (some ⟨b4, 0, none⟩))] ∧ Gle G6 G ∧ Since w0.heap.size G0 w0 G w ∧ Owns G w w0.heap.size []) ?_ ?_
 ·refine WC_block (WC_loop hq9 (fun s7 F w => ∃ (Fb : Fr) (G : Gm), F = upds Fb [(1, .pointer (some ⟨b4, 0, none⟩)), (3, .int .i64 s7)] ∧ Gle G6 G ∧ Since w0.heap.size G0 w0 G w ∧ Owns G w w0.heap.size []) ?_ ?_)
  ·have hO : Owns G6 w5 w0.heap.size ([]) := hO
   exact ⟨_, G6, upds_self _ _ ⟨rfl, rfl, trivial⟩, Gle.refl _, hS, hO⟩
  ·rintro s7 F w11 t10 ⟨Fb, G12, rfl, leG12, hS, hO⟩
   intro H1 hqq9
   have Hoq9 := H; have H := H1
   unfold f36_b0 at H
   refine WC_seq ?_; refine WC_seq ?_; refine WC_region ?_; refine WL_val (rn_move (v := (.int .i64 s7)) rfl) rfl ?_; refine WL_val (rn_fld fd42_0 rfl) rfl ?_; refine WL_val (rn_load na22 rfl ((hS.sat.le leG12).cell (hcb4 0 _ rfl))) rfl ?_
   have l0_2 := leG6.trans leG12
   refine WL_val (rn_len sl22 rfl rfl (h1.mono RInt_mono l0_2).1) rfl ?_; refine WL_val (rn_lss rfl rfl) rfl ?_; refine WL_nil ?_; refine WC_cond rfl (fun hb13 => ?_) (fun hb13 => ?_)
   ·have H := ifT hb13 H; refine WC_skip ?_; refine WC_seq ?_; refine WC_block ?_; refine WC_seq ?_; refine WC_region ?_; refine WL_val (rn_fld fd42_0 rfl) rfl ?_; refine WL_val (rn_load na22 rfl ((hS.sat.le leG12).cell (hcb4 0 _ rfl))) rfl ?_; refine WL_val (rn_move (v := (.int .i64 s7)) rfl) rfl ?_; obtain ⟨y14, hy14, H⟩ := bnd H; refine WL_idx sl22 (h1.mono RInt_mono l0_2) hy14 rfl rfl rfl ?_
    rintro b15 o15 _ hcb15 _ ⟨⟩
    refine WL_val (rn_load na3 rfl (hS.sat.cell (hcb15 0 _ rfl))) rfl ?_; obtain ⟨y16, hy16, H⟩ := bnd H; refine WL_op rfl (OpP_callV cb65 (f65_ok (x0 := y14) (x1 := 0) (x2 := 100000) hS.sat  hy16) rfl rfl (fun w17 hb => ?_)); have hS := hS.keep hb; have hO := hO.below hb; refine WL_val (rn_not rfl) rfl ?_; refine WL_nil ?_; refine WC_cond rfl (fun hb18 => ?_) (fun hb18 => ?_)
    ·have H := ifT hb18 H; refine WC_seq ?_; refine WC_region ?_; refine WL_val (rn_assign (v := (.bool false)) rfl) rfl ?_; refine WL_nil ?_; refine WC_ret ?_; have H := Option.some.inj H; subst H
     have hres := hqq9 _ rfl
     subst hres; have H := Hoq9
     have H : some false = some r := H
     have H := Option.some.inj H; subst H
     exact ⟨rfl, hS.below⟩
    ·have H := ifF hb18 H; refine WC_skip ?_; refine WC_region ?_; refine WL_val (rn_move (v := (.int .i64 s7)) rfl) rfl ?_; refine WL_val (rn_add rfl rfl) rfl ?_; refine WL_val (rn_assign (v := (.int .i64 (IntKind.i64.wrap (s7 + 1)))) rfl) rfl ?_; refine WL_nil ?_
     have hO : Owns G12 w17 w0.heap.size ([]) := hO
     have H := Option.some.inj H; subst H; refine ⟨_, rfl, ?_⟩
     exact ⟨_, G12, upds_self _ _ ⟨rfl, rfl, trivial⟩, leG12, hS, hO⟩
   ·have H := ifF hb13 H; refine WC_exit rfl ?_
    have hO : Owns G12 w11 w0.heap.size ([]) := hO
    have H := Option.some.inj H; subst H
    have hres := hqq9 _ rfl
    subst hres
    exact ⟨_, _, G12, rfl, upds_self _ _ ⟨rfl, trivial⟩, leG12, hS, hO⟩
 ·rintro F w19 ⟨p8, Fb, G20, rfl, rfl, leG20, hS, hO⟩
  refine WC_seq ?_; refine WC_seq ?_; refine WC_region ?_; refine WL_val (rn_assign (v := (.int .i64 0)) rfl) rfl ?_; refine WL_nil ?_; obtain ⟨q23, hq23, H⟩ := bnd H; refine WC_cut (fun F w => ∃ (p22 : Unit) (Fb : Fr) (G : Gm), q23 = .inl p22 ∧ F = upds Fb [(1, .pointer (some ⟨b4, 0, none⟩))] ∧ Gle G20 G ∧ Since w0.heap.size G0 w0 G w ∧ Owns G w w0.heap.size []) ?_ ?_
  ·refine WC_block (WC_loop hq23 (fun s21 F w => ∃ (Fb : Fr) (G : Gm), F = upds Fb [(1, .pointer (some ⟨b4, 0, none⟩)), (4, .int .i64 s21)] ∧ Gle G20 G ∧ Since w0.heap.size G0 w0 G w ∧ Owns G w w0.heap.size []) ?_ ?_)
   ·have hO : Owns G20 w19 w0.heap.size ([]) := hO
    exact ⟨_, G20, upds_self _ _ ⟨rfl, rfl, trivial⟩, Gle.refl _, hS, hO⟩
   ·rintro s21 F w25 t24 ⟨Fb, G26, rfl, leG26, hS, hO⟩
    intro H1 hqq23
    have Hoq23 := H; have H := H1
    unfold f36_b1 at H
    refine WC_seq ?_; refine WC_seq ?_; refine WC_region ?_; refine WL_val (rn_move (v := (.int .i64 s21)) rfl) rfl ?_; refine WL_val (rn_fld fd42_1 rfl) rfl ?_
    have l1_3 := leG20.trans leG26
    refine WL_val (rn_load na23 rfl ((hS.sat.le l1_3).cell (hcb4 1 _ rfl))) rfl ?_
    have l0_3 := leG6.trans l1_3
    refine WL_val (rn_len sl23 rfl rfl (h2.mono RTSpan_mono l0_3).1) rfl ?_; refine WL_val (rn_lss rfl rfl) rfl ?_; refine WL_nil ?_; refine WC_cond rfl (fun hb27 => ?_) (fun hb27 => ?_)
    ·have H := ifT hb27 H; refine WC_skip ?_; refine WC_seq ?_; refine WC_block ?_; refine WC_seq ?_; refine WC_region ?_; refine WL_val (rn_fld fd42_1 rfl) rfl ?_; refine WL_val (rn_load na23 rfl ((hS.sat.le l1_3).cell (hcb4 1 _ rfl))) rfl ?_; refine WL_val (rn_move (v := (.int .i64 s21)) rfl) rfl ?_; obtain ⟨y28, hy28, H⟩ := bnd H; refine WL_idx sl23 (h2.mono RTSpan_mono l0_3) hy28 rfl rfl rfl ?_
     rintro b29 o29 _ hcb29 _ ⟨⟩
     refine WL_val (rn_loadA ag25 (cs := [.int .i64 y28.Low, .int .i64 y28.High]) rfl rfl (fun j v hj => hS.sat.cell (hcb29.drop_take 0 2 j v hj))) rfl ?_; obtain ⟨y30, hy30, H⟩ := bnd H; refine WL_op rfl (OpP_callV cb66 (f66_ok (x0 := y28) (x1 := 0) (x2 := 1000) hS.sat  hy30) rfl rfl (fun w31 hb => ?_)); have hS := hS.keep hb; have hO := hO.below hb; refine WL_val (rn_not rfl) rfl ?_; refine WL_nil ?_; refine WC_cond rfl (fun hb32 => ?_) (fun hb32 => ?_)
     ·have H := ifT hb32 H; refine WC_seq ?_; refine WC_region ?_; refine WL_val (rn_assign (v := (.bool false)) rfl) rfl ?_; refine WL_nil ?_; refine WC_ret ?_; have H := Option.some.inj H; subst H
      have hres := hqq23 _ rfl
      subst hres; have H := Hoq23
      have H : some false = some r := H
      have H := Option.some.inj H; subst H
      exact ⟨rfl, hS.below⟩
     ·have H := ifF hb32 H; refine WC_skip ?_; refine WC_region ?_; refine WL_val (rn_move (v := (.int .i64 s21)) rfl) rfl ?_; refine WL_val (rn_add rfl rfl) rfl ?_; refine WL_val (rn_assign (v := (.int .i64 (IntKind.i64.wrap (s21 + 1)))) rfl) rfl ?_; refine WL_nil ?_
      have hO : Owns G26 w31 w0.heap.size ([]) := hO
      have H := Option.some.inj H; subst H; refine ⟨_, rfl, ?_⟩
      exact ⟨_, G26, upds_self _ _ ⟨rfl, rfl, trivial⟩, leG26, hS, hO⟩
    ·have H := ifF hb27 H; refine WC_exit rfl ?_
     have hO : Owns G26 w25 w0.heap.size ([]) := hO
     have H := Option.some.inj H; subst H
     have hres := hqq23 _ rfl
     subst hres
     exact ⟨_, _, G26, rfl, upds_self _ _ ⟨rfl, trivial⟩, leG26, hS, hO⟩
  ·rintro F w33 ⟨p22, Fb, G34, rfl, rfl, leG34, hS, hO⟩
   refine WC_seq ?_; refine WC_seq ?_; refine WC_region ?_; refine WL_val (rn_assign (v := (.int .i64 0)) rfl) rfl ?_; refine WL_nil ?_; obtain ⟨q37, hq37, H⟩ := bnd H; refine WC_cut (fun F w => ∃ (p36 : Unit) (Fb : Fr) (G : Gm), q37 = .inl p36 ∧ F = upds Fb [(1, .pointer (some ⟨b4, 0, none⟩))] ∧ Gle G34 G ∧ Since w0.heap.size G0 w0 G w ∧ Owns G w w0.heap.size []) ?_ ?_
   ·refine WC_block (WC_loop hq37 (fun s35 F w => ∃ (Fb : Fr) (G : Gm), F = upds Fb [(1, .pointer (some ⟨b4, 0, none⟩)), (5, .int .i64 s35)] ∧ Gle G34 G ∧ Since w0.heap.size G0 w0 G w ∧ Owns G w w0.heap.size []) ?_ ?_)
    ·have hO : Owns G34 w33 w0.heap.size ([]) := hO
     exact ⟨_, G34, upds_self _ _ ⟨rfl, rfl, trivial⟩, Gle.refl _, hS, hO⟩
    ·rintro s35 F w39 t38 ⟨Fb, G40, rfl, leG40, hS, hO⟩
     intro H1 hqq37
     have Hoq37 := H; have H := H1
     unfold f36_b2 at H
     refine WC_seq ?_; refine WC_seq ?_; refine WC_region ?_; refine WL_val (rn_move (v := (.int .i64 s35)) rfl) rfl ?_; refine WL_val (rn_fld fd42_3 rfl) rfl ?_
     have l1_4 := (leG20.trans leG34).trans leG40
     refine WL_val (rn_load na40 rfl ((hS.sat.le l1_4).cell (hcb4 4 _ rfl))) rfl ?_
     have l0_4 := leG6.trans l1_4
     refine WL_val (rn_len sl40 rfl rfl (h3.mono RTShipLot_mono l0_4).1) rfl ?_; refine WL_val (rn_lss rfl rfl) rfl ?_; refine WL_nil ?_; refine WC_cond rfl (fun hb41 => ?_) (fun hb41 => ?_)
     ·have H := ifT hb41 H; refine WC_skip ?_; refine WC_seq ?_; refine WC_block ?_; refine WC_seq ?_; refine WC_region ?_; refine WL_val (rn_fld fd42_3 rfl) rfl ?_; refine WL_val (rn_load na40 rfl ((hS.sat.le l1_4).cell (hcb4 4 _ rfl))) rfl ?_; refine WL_val (rn_move (v := (.int .i64 s35)) rfl) rfl ?_; obtain ⟨y42, hy42, H⟩ := bnd H; refine WL_idx sl40 (h3.mono RTShipLot_mono l0_4) hy42 rfl rfl rfl ?_
      rintro b43 o43 _ hcb43 _ ⟨a44, n44, c44, ⟨⟩, h44⟩
      refine WL_val (rn_loadA ag111 (cs := [.slice a44 n44 c44, .int .i64 y42.Weight, .int .i64 y42.Cost]) rfl rfl (fun j v hj => hS.sat.cell (hcb43.drop_take 0 3 j v hj))) rfl ?_
      refine WL_op rfl (OpP_newO (v := fun b => .pointer (some ⟨b, 0, none⟩)) (cs := [.slice none 0 0, .int .i64 0, .int .i64 0]) (e := 111) (by kernel_rfl) hS.sat hO rfl 3 1 rfl (by decide) (fun b45 w46 hb hO => ?_))
      have hS := hS.keep hb; refine WL_op rfl (OpP_store (vs := [.slice a44 n44 c44, .int .i64 y42.Weight, .int .i64 y42.Cost]) sz111 hS hO (k := 0) rfl rfl rfl rfl rfl (one_all rfl) (Nat.le_of_ble_eq_true rfl) (fun w48 hS hO => ?_))
      have hO : Owns G40 w48 w0.heap.size ([⟨111, 3, 1, .slice (some ⟨b45, 0, none⟩) 1 1, [.slice a44 n44 c44, .int .i64 y42.Weight, .int .i64 y42.Cost]⟩]) := hO
      obtain ⟨G49, leG49, hS, hO, hqG49, _⟩ := hO.freeze hS (k := 0) rfl
      have hcG49 : Cells G49 b45 0 [.slice a44 n44 c44, .int .i64 y42.Weight, .int .i64 y42.Cost] := (hqG49 _ _ _ _ rfl)
      refine WL_nil ?_; refine WC_seq ?_; refine WC_seq ?_; refine WC_region ?_; refine WL_val (rn_assign (v := (.int .i64 0)) rfl) rfl ?_; refine WL_nil ?_; obtain ⟨q52, hq52, H⟩ := bnd H; refine WC_cut (fun F w => ∃ (p51 : Unit) (Fb : Fr) (G : Gm), q52 = .inl p51 ∧ F = upds Fb [(1, .pointer (some ⟨b4, 0, none⟩)), (5, .int .i64 s35), (6, .pointer (some ⟨b45, 0, none⟩))] ∧ Gle G49 G ∧ Since w0.heap.size G0 w0 G w ∧ Owns G w w0.heap.size []) ?_ ?_
      ·refine WC_block (WC_loop hq52 (fun s50 F w => ∃ (Fb : Fr) (G : Gm), F = upds Fb [(1, .pointer (some ⟨b4, 0, none⟩)), (5, .int .i64 s35), (6, .pointer (some ⟨b45, 0, none⟩)), (7, .int .i64 s50)] ∧ Gle G49 G ∧ Since w0.heap.size G0 w0 G w ∧ Owns G w w0.heap.size []) ?_ ?_)
       ·have hO : Owns G49 w48 w0.heap.size ([]) := hO
        exact ⟨_, G49, upds_self _ _ ⟨rfl, rfl, rfl, rfl, trivial⟩, Gle.refl _, hS, hO⟩
       ·rintro s50 F w54 t53 ⟨Fb, G55, rfl, leG55, hS, hO⟩
        intro H1 hqq52
        have Hoq52 := H; have H := H1
        unfold f36_b3 at H
        refine WC_seq ?_; refine WC_seq ?_; refine WC_region ?_; refine WL_val (rn_move (v := (.int .i64 s50)) rfl) rfl ?_; refine WL_val (rn_fld fd111_0 rfl) rfl ?_; refine WL_val (rn_load na23 rfl ((hS.sat.le leG55).cell (hcG49 0 _ rfl))) rfl ?_
        have l4_6 := leG49.trans leG55
        refine WL_val (rn_len sl23 rfl rfl (h44.mono RTSpan_mono l4_6).1) rfl ?_; refine WL_val (rn_lss rfl rfl) rfl ?_; refine WL_nil ?_; refine WC_cond rfl (fun hb56 => ?_) (fun hb56 => ?_)
        ·have H := ifT hb56 H; refine WC_skip ?_; refine WC_seq ?_; refine WC_block ?_; refine WC_seq ?_; refine WC_region ?_; refine WL_val (rn_fld fd111_0 rfl) rfl ?_; refine WL_val (rn_load na23 rfl ((hS.sat.le leG55).cell (hcG49 0 _ rfl))) rfl ?_; refine WL_val (rn_move (v := (.int .i64 s50)) rfl) rfl ?_; obtain ⟨y57, hy57, H⟩ := bnd H; refine WL_idx sl23 (h44.mono RTSpan_mono l4_6) hy57 rfl rfl rfl ?_
         rintro b58 o58 _ hcb58 _ ⟨⟩
         refine WL_val (rn_loadA ag25 (cs := [.int .i64 y57.Low, .int .i64 y57.High]) rfl rfl (fun j v hj => hS.sat.cell (hcb58.drop_take 0 2 j v hj))) rfl ?_; obtain ⟨y59, hy59, H⟩ := bnd H; refine WL_op rfl (OpP_callV cb66 (f66_ok (x0 := y57) (x1 := 0) (x2 := 100000) hS.sat  hy59) rfl rfl (fun w60 hb => ?_)); have hS := hS.keep hb; have hO := hO.below hb; refine WL_val (rn_not rfl) rfl ?_; refine WL_nil ?_; refine WC_cond rfl (fun hb61 => ?_) (fun hb61 => ?_)
         ·have H := ifT hb61 H; refine WC_seq ?_; refine WC_region ?_; refine WL_val (rn_assign (v := (.bool false)) rfl) rfl ?_; refine WL_nil ?_; refine WC_ret ?_; have H := Option.some.inj H; subst H
          have hres := hqq52 _ rfl
          subst hres; have H := Hoq52; have H := Option.some.inj H; subst H
          have hres := hqq37 _ rfl
          subst hres; have H := Hoq37
          have H : some false = some r := H
          have H := Option.some.inj H; subst H
          exact ⟨rfl, hS.below⟩
         ·have H := ifF hb61 H; refine WC_skip ?_; refine WC_region ?_; refine WL_val (rn_move (v := (.int .i64 s50)) rfl) rfl ?_; refine WL_val (rn_add rfl rfl) rfl ?_; refine WL_val (rn_assign (v := (.int .i64 (IntKind.i64.wrap (s50 + 1)))) rfl) rfl ?_; refine WL_nil ?_
          have hO : Owns G55 w60 w0.heap.size ([]) := hO
          have H := Option.some.inj H; subst H; refine ⟨_, rfl, ?_⟩
          exact ⟨_, G55, upds_self _ _ ⟨rfl, rfl, rfl, rfl, trivial⟩, leG55, hS, hO⟩
        ·have H := ifF hb56 H; refine WC_exit rfl ?_
         have hO : Owns G55 w54 w0.heap.size ([]) := hO
         have H := Option.some.inj H; subst H
         have hres := hqq52 _ rfl
         subst hres
         exact ⟨_, _, G55, rfl, upds_self _ _ ⟨rfl, rfl, rfl, trivial⟩, leG55, hS, hO⟩
      ·rintro F w62 ⟨p51, Fb, G63, rfl, rfl, leG63, hS, hO⟩
       refine WC_seq ?_; obtain ⟨q64, hq64, H⟩ := bnd H; refine WC_cut (fun F w => ∃ (Fb : Fr) (G : Gm), F = upds Fb [(1, .pointer (some ⟨b4, 0, none⟩)), (5, .int .i64 s35), (80, .bool q64)] ∧ Gle G63 G ∧ Since w0.heap.size G0 w0 G w ∧ Owns G w w0.heap.size []) ?_ ?_
       ·have Hoq64 := H; have H := hq64; refine WC_region ?_; refine WL_val (rn_fld fd111_0 rfl) rfl ?_; refine WL_val (rn_load na23 rfl ((hS.sat.le leG63).cell (hcG49 0 _ rfl))) rfl ?_
        have l4_6 := leG49.trans leG63
        refine WL_val (rn_len sl23 rfl rfl (h44.mono RTSpan_mono l4_6).1) rfl ?_; refine WL_val (rn_fld fd42_0 rfl) rfl ?_
        have l1_6 := l1_4.trans l4_6
        refine WL_val (rn_load na22 rfl ((hS.sat.le l1_6).cell (hcb4 0 _ rfl))) rfl ?_
        have l0_6 := l0_4.trans l4_6
        refine WL_val (rn_len sl22 rfl rfl (h1.mono RInt_mono l0_6).1) rfl ?_; refine WL_val (rn_neq rfl rfl) rfl ?_; refine WL_val (rn_move (v := (.bool ((y42.Goods.length : Int) != (x0.Stock.length : Int)))) rfl) rfl ?_
        rcases bcases ((y42.Goods.length : Int) != (x0.Stock.length : Int)) with hb65 | hb65
        ·have H := ifT hb65 H; refine WL_guardN rfl hb65 rfl rfl rfl ?_; refine WL_guardN rfl hb65 rfl rfl rfl ?_; refine WL_guardN rfl hb65 rfl rfl rfl ?_; refine WL_guardN rfl hb65 rfl rfl rfl ?_; refine WL_val (rn_pickT (v := (.bool true)) rfl hb65 rfl) rfl ?_; refine WL_val (rn_move (v := (.bool true)) rfl) rfl ?_; refine WL_guardN rfl rfl rfl rfl rfl ?_; refine WL_guardN rfl rfl rfl rfl rfl ?_; refine WL_guardN rfl rfl rfl rfl rfl ?_; refine WL_guardN rfl rfl rfl rfl rfl ?_; refine WL_val (rn_pickT (v := (.bool true)) rfl rfl rfl) rfl ?_; refine WL_nil ?_
         have hO : Owns G63 w62 w0.heap.size ([]) := hO
         have H := Option.some.inj H; subst H
         exact ⟨_, G63, upds_self _ _ ⟨rfl, rfl, rfl, trivial⟩, Gle.refl _, hS, hO⟩
        ·have H := ifF hb65 H; refine WL_guardY rfl hb65 rfl rfl ?_; refine WL_val (rn_fld fd111_1 rfl) rfl ?_; refine WL_guardY rfl hb65 rfl rfl ?_; refine WL_val (rn_load na3 rfl ((hS.sat.le leG63).cell (hcG49 1 _ rfl))) rfl ?_; refine WL_guardY rfl hb65 rfl rfl ?_; obtain ⟨y66, hy66, H⟩ := bnd H; refine WL_op rfl (OpP_callV cb65 (f65_ok (x0 := y42.Weight) (x1 := 0) (x2 := 100000) hS.sat  hy66) rfl rfl (fun w67 hb => ?_)); have hS := hS.keep hb; have hO := hO.below hb; refine WL_guardY rfl hb65 rfl rfl ?_; refine WL_val (rn_not rfl) rfl ?_; refine WL_val (rn_pickF (v := (.bool (!y66))) rfl hb65 rfl) rfl ?_; refine WL_val (rn_move (v := (.bool (!y66))) rfl) rfl ?_
         rcases bcases (!y66) with hb68 | hb68
         ·have H := ifT hb68 H; refine WL_guardN rfl hb68 rfl rfl rfl ?_; refine WL_guardN rfl hb68 rfl rfl rfl ?_; refine WL_guardN rfl hb68 rfl rfl rfl ?_; refine WL_guardN rfl hb68 rfl rfl rfl ?_; refine WL_val (rn_pickT (v := (.bool true)) rfl hb68 rfl) rfl ?_; refine WL_nil ?_
          have hO : Owns G63 w67 w0.heap.size ([]) := hO
          have H := Option.some.inj H; subst H
          exact ⟨_, G63, upds_self _ _ ⟨rfl, rfl, rfl, trivial⟩, Gle.refl _, hS, hO⟩
         ·have H := ifF hb68 H; refine WL_guardY rfl hb68 rfl rfl ?_; refine WL_val (rn_fld fd111_2 rfl) rfl ?_; refine WL_guardY rfl hb68 rfl rfl ?_; refine WL_val (rn_load na3 rfl ((hS.sat.le leG63).cell (hcG49 2 _ rfl))) rfl ?_; refine WL_guardY rfl hb68 rfl rfl ?_; obtain ⟨y69, hy69, H⟩ := bnd H; refine WL_op rfl (OpP_callV cb65 (f65_ok (x0 := y42.Cost) (x1 := 0) (x2 := 1000000) hS.sat  hy69) rfl rfl (fun w70 hb => ?_)); have hS := hS.keep hb; have hO := hO.below hb; refine WL_guardY rfl hb68 rfl rfl ?_; refine WL_val (rn_not rfl) rfl ?_; refine WL_val (rn_pickF (v := (.bool (!y69))) rfl hb68 rfl) rfl ?_; refine WL_nil ?_
          have hO : Owns G63 w70 w0.heap.size ([]) := hO
          have H := Option.some.inj H; subst H
          exact ⟨_, G63, upds_self _ _ ⟨rfl, rfl, rfl, trivial⟩, Gle.refl _, hS, hO⟩
       ·rintro F w71 ⟨Fb, G72, rfl, leG72, hS, hO⟩
        refine WC_cond rfl (fun hb73 => ?_) (fun hb73 => ?_)
        ·have H := ifT hb73 H; refine WC_seq ?_; refine WC_region ?_; refine WL_val (rn_assign (v := (.bool false)) rfl) rfl ?_; refine WL_nil ?_; refine WC_ret ?_; have H := Option.some.inj H; subst H
         have hres := hqq37 _ rfl
         subst hres; have H := Hoq37
         have H : some false = some r := H
         have H := Option.some.inj H; subst H
         exact ⟨rfl, hS.below⟩
        ·have H := ifF hb73 H; refine WC_skip ?_; refine WC_region ?_; refine WL_val (rn_move (v := (.int .i64 s35)) rfl) rfl ?_; refine WL_val (rn_add rfl rfl) rfl ?_; refine WL_val (rn_assign (v := (.int .i64 (IntKind.i64.wrap (s35 + 1)))) rfl) rfl ?_; refine WL_nil ?_
         have hO : Owns G72 w71 w0.heap.size ([]) := hO
         have H := Option.some.inj H; subst H; refine ⟨_, rfl, ?_⟩
         have l3_7 := ((leG40.trans leG49).trans leG63).trans leG72
         exact ⟨_, G72, upds_self _ _ ⟨rfl, rfl, trivial⟩, l3_7, hS, hO⟩
     ·have H := ifF hb41 H; refine WC_exit rfl ?_
      have hO : Owns G40 w39 w0.heap.size ([]) := hO
      have H := Option.some.inj H; subst H
      have hres := hqq37 _ rfl
      subst hres
      exact ⟨_, _, G40, rfl, upds_self _ _ ⟨rfl, trivial⟩, leG40, hS, hO⟩
   ·rintro F w75 ⟨p36, Fb, G76, rfl, rfl, leG76, hS, hO⟩
    refine WC_seq ?_; obtain ⟨q77, hq77, H⟩ := bnd H; refine WC_cut (fun F w => ∃ (Fb : Fr) (G : Gm), F = upds Fb [(2, .bool q77)] ∧ Gle G76 G ∧ Since w0.heap.size G0 w0 G w ∧ Owns G w w0.heap.size []) ?_ ?_
    ·have Hoq77 := H; have H := hq77; refine WC_region ?_; refine WL_val (rn_fld fd42_0 rfl) rfl ?_
     have l1_4 := (leG20.trans leG34).trans leG76
     refine WL_val (rn_load na22 rfl ((hS.sat.le l1_4).cell (hcb4 0 _ rfl))) rfl ?_
     have l0_4 := leG6.trans l1_4
     refine WL_val (rn_len sl22 rfl rfl (h1.mono RInt_mono l0_4).1) rfl ?_; obtain ⟨y78, hy78, H⟩ := bnd H; refine WL_op rfl (OpP_callV cb65 (f65_ok (x0 := (x0.Stock.length : Int)) (x1 := 1) (x2 := 4) hS.sat  hy78) rfl rfl (fun w79 hb => ?_)); have hS := hS.keep hb; have hO := hO.below hb; refine WL_val (rn_move (v := (.bool y78)) rfl) rfl ?_
     rcases bcases y78 with hb80 | hb80
     ·have H := ifT hb80 H; refine WL_guardY rfl hb80 rfl rfl ?_; refine WL_val (rn_fld fd42_1 rfl) rfl ?_; refine WL_guardY rfl hb80 rfl rfl ?_; refine WL_val (rn_load na23 rfl ((hS.sat.le l1_4).cell (hcb4 1 _ rfl))) rfl ?_; refine WL_guardY rfl hb80 rfl rfl ?_; refine WL_val (rn_len sl23 rfl rfl (h2.mono RTSpan_mono l0_4).1) rfl ?_; refine WL_guardY rfl hb80 rfl rfl ?_; refine WL_val (rn_fld fd42_0 rfl) rfl ?_; refine WL_guardY rfl hb80 rfl rfl ?_; refine WL_val (rn_load na22 rfl ((hS.sat.le l1_4).cell (hcb4 0 _ rfl))) rfl ?_; refine WL_guardY rfl hb80 rfl rfl ?_; refine WL_val (rn_len sl22 rfl rfl (h1.mono RInt_mono l0_4).1) rfl ?_; refine WL_guardY rfl hb80 rfl rfl ?_; refine WL_val (rn_eql rfl rfl) rfl ?_; refine WL_val (rn_pickT (v := (.bool ((x0.Use.length : Int) == (x0.Stock.length : Int)))) rfl hb80 rfl) rfl ?_; refine WL_val (rn_move (v := (.bool ((x0.Use.length : Int) == (x0.Stock.length : Int)))) rfl) rfl ?_
      rcases bcases ((x0.Use.length : Int) == (x0.Stock.length : Int)) with hb81 | hb81
      ·have H := ifT hb81 H; refine WL_guardY rfl hb81 rfl rfl ?_; refine WL_val (rn_fld fd42_2 rfl) rfl ?_; refine WL_guardY rfl hb81 rfl rfl ?_; refine WL_val (rn_loadA ag25 (cs := [.int .i64 x0.Gap.Low, .int .i64 x0.Gap.High]) rfl rfl (fun j v hj => (hS.sat.le l1_4).cell (hcb4.drop_take 2 2 j v hj))) rfl ?_; refine WL_guardY rfl hb81 rfl rfl ?_; obtain ⟨y82, hy82, H⟩ := bnd H; refine WL_op rfl (OpP_callV cb20 (f20_ok (x0 := x0.Gap) hS.sat  hy82) rfl rfl (fun w83 hb => ?_)); have hS := hS.keep hb; have hO := hO.below hb; refine WL_val (rn_pickT (v := (.bool y82)) rfl hb81 rfl) rfl ?_; refine WL_val (rn_move (v := (.bool y82)) rfl) rfl ?_
       rcases bcases y82 with hb84 | hb84
       ·have H := ifT hb84 H; refine WL_guardY rfl hb84 rfl rfl ?_; refine WL_val (rn_fld fd42_3 rfl) rfl ?_; refine WL_guardY rfl hb84 rfl rfl ?_; refine WL_val (rn_load na40 rfl ((hS.sat.le l1_4).cell (hcb4 4 _ rfl))) rfl ?_; refine WL_guardY rfl hb84 rfl rfl ?_; refine WL_val (rn_len sl40 rfl rfl (h3.mono RTShipLot_mono l0_4).1) rfl ?_; refine WL_guardY rfl hb84 rfl rfl ?_; refine WL_val (rn_leq rfl rfl) rfl ?_; refine WL_val (rn_pickT (v := (.bool (decide ((x0.Lots.length : Int) ≤ 6)))) rfl hb84 rfl) rfl ?_; refine WL_val (rn_move (v := (.bool (decide ((x0.Lots.length : Int) ≤ 6)))) rfl) rfl ?_
        rcases bcases (decide ((x0.Lots.length : Int) ≤ 6)) with hb85 | hb85
        ·have H := ifT hb85 H; refine WL_guardY rfl hb85 rfl rfl ?_; refine WL_val (rn_fld fd42_4 rfl) rfl ?_; refine WL_guardY rfl hb85 rfl rfl ?_; refine WL_val (rn_load na3 rfl ((hS.sat.le l1_4).cell (hcb4 5 _ rfl))) rfl ?_; refine WL_guardY rfl hb85 rfl rfl ?_; obtain ⟨y86, hy86, H⟩ := bnd H; refine WL_op rfl (OpP_callV cb65 (f65_ok (x0 := x0.Hold) (x1 := 0) (x2 := 100000) hS.sat  hy86) rfl rfl (fun w87 hb => ?_)); have hS := hS.keep hb; have hO := hO.below hb; refine WL_val (rn_pickT (v := (.bool y86)) rfl hb85 rfl) rfl ?_; refine WL_val (rn_assign (v := (.bool y86)) rfl) rfl ?_; refine WL_nil ?_
         have hO : Owns G76 w87 w0.heap.size ([]) := hO
         have H := Option.some.inj H; subst H
         exact ⟨_, G76, upds_self _ _ ⟨rfl, trivial⟩, Gle.refl _, hS, hO⟩
        ·have H := ifF hb85 H; refine WL_guardN rfl hb85 rfl rfl rfl ?_; refine WL_guardN rfl hb85 rfl rfl rfl ?_; refine WL_guardN rfl hb85 rfl rfl rfl ?_; refine WL_val (rn_pickF (v := (.bool false)) rfl hb85 rfl) rfl ?_; refine WL_val (rn_assign (v := (.bool false)) rfl) rfl ?_; refine WL_nil ?_
         have hO : Owns G76 w83 w0.heap.size ([]) := hO
         have H := Option.some.inj H; subst H
         exact ⟨_, G76, upds_self _ _ ⟨rfl, trivial⟩, Gle.refl _, hS, hO⟩
       ·have H := ifF hb84 H; refine WL_guardN rfl hb84 rfl rfl rfl ?_; refine WL_guardN rfl hb84 rfl rfl rfl ?_; refine WL_guardN rfl hb84 rfl rfl rfl ?_; refine WL_guardN rfl hb84 rfl rfl rfl ?_; refine WL_val (rn_pickF (v := (.bool false)) rfl hb84 rfl) rfl ?_; refine WL_val (rn_move (v := (.bool false)) rfl) rfl ?_; refine WL_guardN rfl rfl rfl rfl rfl ?_; refine WL_guardN rfl rfl rfl rfl rfl ?_; refine WL_guardN rfl rfl rfl rfl rfl ?_; refine WL_val (rn_pickF (v := (.bool false)) rfl rfl rfl) rfl ?_; refine WL_val (rn_assign (v := (.bool false)) rfl) rfl ?_; refine WL_nil ?_
        have hO : Owns G76 w83 w0.heap.size ([]) := hO
        have H := Option.some.inj H; subst H
        exact ⟨_, G76, upds_self _ _ ⟨rfl, trivial⟩, Gle.refl _, hS, hO⟩
      ·have H := ifF hb81 H; refine WL_guardN rfl hb81 rfl rfl rfl ?_; refine WL_guardN rfl hb81 rfl rfl rfl ?_; refine WL_guardN rfl hb81 rfl rfl rfl ?_; refine WL_val (rn_pickF (v := (.bool false)) rfl hb81 rfl) rfl ?_; refine WL_val (rn_move (v := (.bool false)) rfl) rfl ?_; refine WL_guardN rfl rfl rfl rfl rfl ?_; refine WL_guardN rfl rfl rfl rfl rfl ?_; refine WL_guardN rfl rfl rfl rfl rfl ?_; refine WL_guardN rfl rfl rfl rfl rfl ?_; refine WL_val (rn_pickF (v := (.bool false)) rfl rfl rfl) rfl ?_; refine WL_val (rn_move (v := (.bool false)) rfl) rfl ?_; refine WL_guardN rfl rfl rfl rfl rfl ?_; refine WL_guardN rfl rfl rfl rfl rfl ?_; refine WL_guardN rfl rfl rfl rfl rfl ?_; refine WL_val (rn_pickF (v := (.bool false)) rfl rfl rfl) rfl ?_; refine WL_val (rn_assign (v := (.bool false)) rfl) rfl ?_; refine WL_nil ?_
       have hO : Owns G76 w79 w0.heap.size ([]) := hO
       have H := Option.some.inj H; subst H
       exact ⟨_, G76, upds_self _ _ ⟨rfl, trivial⟩, Gle.refl _, hS, hO⟩
     ·have H := ifF hb80 H; refine WL_guardN rfl hb80 rfl rfl rfl ?_; refine WL_guardN rfl hb80 rfl rfl rfl ?_; refine WL_guardN rfl hb80 rfl rfl rfl ?_; refine WL_guardN rfl hb80 rfl rfl rfl ?_; refine WL_guardN rfl hb80 rfl rfl rfl ?_; refine WL_guardN rfl hb80 rfl rfl rfl ?_; refine WL_guardN rfl hb80 rfl rfl rfl ?_; refine WL_val (rn_pickF (v := (.bool false)) rfl hb80 rfl) rfl ?_; refine WL_val (rn_move (v := (.bool false)) rfl) rfl ?_; refine WL_guardN rfl rfl rfl rfl rfl ?_; refine WL_guardN rfl rfl rfl rfl rfl ?_; refine WL_guardN rfl rfl rfl rfl rfl ?_; refine WL_val (rn_pickF (v := (.bool false)) rfl rfl rfl) rfl ?_; refine WL_val (rn_move (v := (.bool false)) rfl) rfl ?_; refine WL_guardN rfl rfl rfl rfl rfl ?_; refine WL_guardN rfl rfl rfl rfl rfl ?_; refine WL_guardN rfl rfl rfl rfl rfl ?_; refine WL_guardN rfl rfl rfl rfl rfl ?_; refine WL_val (rn_pickF (v := (.bool false)) rfl rfl rfl) rfl ?_; refine WL_val (rn_move (v := (.bool false)) rfl) rfl ?_; refine WL_guardN rfl rfl rfl rfl rfl ?_; refine WL_guardN rfl rfl rfl rfl rfl ?_; refine WL_guardN rfl rfl rfl rfl rfl ?_; refine WL_val (rn_pickF (v := (.bool false)) rfl rfl rfl) rfl ?_; refine WL_val (rn_assign (v := (.bool false)) rfl) rfl ?_; refine WL_nil ?_
      have hO : Owns G76 w79 w0.heap.size ([]) := hO
      have H := Option.some.inj H; subst H
      exact ⟨_, G76, upds_self _ _ ⟨rfl, trivial⟩, Gle.refl _, hS, hO⟩
    ·rintro F w88 ⟨Fb, G89, rfl, leG89, hS, hO⟩
     refine WC_ret ?_
     have H : some q77 = some r := H
     have H := Option.some.inj H; subst H
     exact ⟨rfl, hS.below⟩
set_option maxHeartbeats 1000000 in
theorem f37_ok {G0 : Gm} {w0 : World} (hS0 : Sat G0 w0) {x0 : Int}  {r : Bool} (H : f37 x0 = some r) :
  Calls Try.prog 37 #[.int .i64 x0] w0 (RetV w0 (.bool r)) := by
 have hS := Since.start hS0
 have hO : Owns G0 w0 w0.heap.size [] := Owns.nil (Nat.le_refl _)
 unfold f37 at H
 refine enter1 (N := 5) (shutV _ _) Try.func37 rfl rfl rfl rfl ?_; refine WC_seq ?_; refine WC_region ?_; refine WL_val (rn_assign (v := (.bool false)) rfl) rfl ?_; refine WL_nil ?_; refine WC_seq ?_; refine WC_region ?_; refine WL_val (rn_move (v := (.int .i64 x0)) rfl) rfl ?_; obtain ⟨y1, hy1, H⟩ := bnd H; refine WL_op rfl (OpP_callV cb65 (f65_ok (x0 := x0) (x1 := 0) (x2 := 300) hS.sat  hy1) rfl rfl (fun w2 hb => ?_)); have hS := hS.keep hb; have hO := hO.below hb; refine WL_val (rn_assign (v := (.bool y1)) rfl) rfl ?_; refine WL_nil ?_; refine WC_ret ?_
 have H : some y1 = some r := H
 have H := Option.some.inj H; subst H
 exact ⟨rfl, hS.below⟩
set_option maxHeartbeats 1000000 in
theorem f42_ok {G0 : Gm} {w0 : World} (hS0 : Sat G0 w0) {x0 : TShipStore} {a1 : Option Addr} {n1 c1 : Nat} {a2 : Option Addr} {n2 c2 : Nat} {a3 : Option Addr} {n3 c3 : Nat} {x1 : (List Int)} {a4 : Option Addr} {n4 c4 : Nat} (h1 : RSl RInt 1 G0 a1 n1 c1 x0.Stock) (h2 : RSl RTSpan 2 G0 a2 n2 c2 x0.Use) (h3 : RSl RTShipLot 3 G0 a3 n3 c3 x0.Lots) (h4 : RSl RInt 1 G0 a4 n4 c4 x1) {r : Bool} (H : f42 x0 x1 = some r) :
  Calls Try.prog 42 #[.agg #[.slice a1 n1 c1, .slice a2 n2 c2, .int .i64 x0.Gap.Low, .int .i64 x0.Gap.High, .slice a3 n3 c3, .int .i64 x0.Hold], .slice a4 n4 c4] w0 (RetV w0 (.bool r)) := by
 have hS := Since.start hS0
 have hO : Owns G0 w0 w0.heap.size [] := Owns.nil (Nat.le_refl _)
 unfold f42 at H
 refine enter1 (N := 54) (shutV _ _) Try.func42 rfl rfl rfl rfl ?_; refine WC_seq ?_; refine WC_region ?_; refine WL_op rfl (OpP_newF (v := fun b => .pointer (some ⟨b, 0, none⟩)) (cs := [.slice a1 n1 c1, .slice a2 n2 c2, .int .i64 x0.Gap.Low, .int .i64 x0.Gap.High, .slice a3 n3 c3, .int .i64 x0.Hold]) (e := 42) (rn_boxA rfl) hS.sat rfl (fun b5 G7 w6 hg hcb5 => ?_)); have hS := hS.grow hg; have hO := hO.grow hg
 have leG7 := hg.le
 refine WL_val (rn_assign (v := (.bool false)) rfl) rfl ?_; refine WL_nil ?_; refine WC_seq ?_; refine WC_region ?_; refine WL_val (rn_assign (v := (.int .i64 0)) rfl) rfl ?_; refine WL_nil ?_; refine WC_seq ?_; refine WC_seq ?_; refine WC_region ?_; refine WL_val (rn_assign (v := (.int .i64 0)) rfl) rfl ?_; refine WL_nil ?_; obtain ⟨q10, hq10, H⟩ := bnd H; refine WC_cut (fun F w => ∃ (p9 : Int) (Fb : Fr) (G : Gm), q10 = .inl p9 ∧ F = upds Fb [(2, .pointer (some ⟨b5, 0, none⟩)), (5, .int .i64 p9)] ∧ Gle G7 G ∧ Since w0.heap.size G0 w0 G w ∧ Owns G w w0.heap.size []) ?_ ?_
 ·refine WC_block (WC_loop hq10 (fun s8 F w => ∃ (Fb : Fr) (G : Gm), F = upds Fb [(1, .slice a4 n4 c4), (2, .pointer (some ⟨b5, 0, none⟩)), (5, .int .i64 s8.1), (6, .int .i64 s8.2)] ∧ Gle G7 G ∧ Since w0.heap.size G0 w0 G w ∧ Owns G w w0.heap.size []) ?_ ?_)
  ·have hO : Owns G7 w6 w0.heap.size ([]) := hO
   exact ⟨_, G7, upds_self _ _ ⟨rfl, rfl, rfl, rfl, trivial⟩, Gle.refl _, hS, hO⟩
  ·rintro s8 F w12 t11 ⟨Fb, G13, rfl, leG13, hS, hO⟩
   intro H1 hqq10
   have Hoq10 := H; have H := H1
   unfold f42_b0 at H
   refine WC_seq ?_; refine WC_seq ?_; refine WC_region ?_; refine WL_val (rn_move (v := (.int .i64 s8.2)) rfl) rfl ?_; refine WL_val (rn_move (v := (.slice a4 n4 c4)) rfl) rfl ?_
   have l0_2 := leG7.trans leG13
   refine WL_val (rn_len sl22 rfl rfl (h4.mono RInt_mono l0_2).1) rfl ?_; refine WL_val (rn_lss rfl rfl) rfl ?_; refine WL_nil ?_; refine WC_cond rfl (fun hb14 => ?_) (fun hb14 => ?_)
   ·have H := ifT hb14 H; refine WC_skip ?_; refine WC_seq ?_; refine WC_block ?_; refine WC_seq ?_; refine WC_seq ?_; obtain ⟨q15, hq15, H⟩ := bnd H; refine WC_cut (fun F w => ∃ (Fb : Fr) (G : Gm), F = upds Fb [(1, .slice a4 n4 c4), (2, .pointer (some ⟨b5, 0, none⟩)), (5, .int .i64 s8.1), (6, .int .i64 s8.2), (38, .bool q15)] ∧ Gle G13 G ∧ Since w0.heap.size G0 w0 G w ∧ Owns G w w0.heap.size []) ?_ ?_
    ·have Hoq15 := H; have H := hq15; have hS := hS.keep (below_drew _); have hO := hO.below (below_drew _)
     refine WC_regionD mixedO (fun _ w => Sat G13 w ∧ True) (.fl 0 (.fl 1 (.fl 2 (.fl 3 (.on 4 (.on 5 (.on 6 (.on 7 (.on 8 (.on 9 (.on 10 (.on 11 (.on 12 (.on 13 (.fl 14 (.fl 15 (.fl 16 (.fl 17 (.fl 18 (.on 19 (.on 20 (.on 21 (.on 22 (.on 23 (.on 24 (.on 25 .nil)))))))))))))))))))))))))) (by kernel_rfl) rfl (by kernel_rfl) (fun _ => ⟨hS.sat, trivial⟩) ?_
     refine WD_val rfl (fun w hw => rn_move (v := (.slice a4 n4 c4)) rfl) rfl ?_; refine WD_val rfl (fun w hw => rn_move (v := (.int .i64 s8.2)) rfl) rfl ?_; obtain ⟨y16, hy16, H⟩ := bnd H; refine WD_idx rfl sl22 (h4.mono RInt_mono l0_2) hy16 rfl rfl rfl ?_
     rintro b17 o17 _ hcb17 _ ⟨⟩
     refine WD_val rfl (fun w hw => rn_load na3 rfl (hw.1.cell (hcb17 0 _ rfl))) rfl ?_; refine WD_op rfl rfl (OpP_val (rn_fld fd42_3 rfl) rfl ?_); refine ⟨fun _ _ => ⟨hS.sat, trivial⟩, ?_⟩; refine WD_op rfl rfl (OpP_val (rn_load na40 rfl ((hS.sat.le leG13).cell (hcb5 4 _ rfl))) rfl ?_); refine ⟨fun _ _ => ⟨hS.sat, trivial⟩, ?_⟩; refine WD_op rfl rfl (OpP_val (rn_len sl40 rfl rfl (h3.mono RTShipLot_mono l0_2).1) rfl ?_); refine ⟨fun _ _ => ⟨hS.sat, trivial⟩, ?_⟩; refine WD_op rfl rfl (OpP_val (rn_sub rfl rfl) rfl ?_); refine ⟨fun _ _ => ⟨hS.sat, trivial⟩, ?_⟩; obtain ⟨y18, hy18, H⟩ := bnd H; refine WD_op rfl rfl (OpP_callV cb65 (f65_ok (x0 := y16) (x1 := 0) (x2 := IntKind.i64.wrap ((x0.Lots.length : Int) - 1)) hS.sat  hy18) rfl rfl (fun w19 hb => ?_)); have hS := hS.keep hb; have hO := hO.below hb; refine ⟨fun _ _ => ⟨hS.sat, trivial⟩, ?_⟩; refine WD_op rfl rfl (OpP_val (rn_not rfl) rfl ?_); refine ⟨fun _ _ => ⟨hS.sat, trivial⟩, ?_⟩; refine WD_op rfl rfl (OpP_val (rn_move (v := (.bool (!y18))) rfl) rfl ?_); refine ⟨fun _ _ => ⟨hS.sat, trivial⟩, ?_⟩
     rcases bcases (!y18) with hb20 | hb20
     ·have H := ifT hb20 H; refine WD_skipS rfl rfl hb20 rfl rfl rfl (fun _ _ => ⟨hS.sat, trivial⟩) ?_; refine WD_skipS rfl rfl hb20 rfl rfl rfl (fun _ _ => ⟨hS.sat, trivial⟩) ?_; refine WD_skipS rfl rfl hb20 rfl rfl rfl (fun _ _ => ⟨hS.sat, trivial⟩) ?_; refine WD_undefN rfl rfl rfl rfl rfl ?_; refine WD_undefN rfl rfl rfl rfl rfl ?_; refine WD_undefN rfl rfl rfl rfl rfl ?_; refine WD_undefN rfl rfl rfl rfl rfl ?_; refine WD_undefN rfl rfl rfl rfl rfl ?_; refine WD_undefS rfl rfl rfl rfl rfl (fun _ _ => ⟨hS.sat, trivial⟩) ?_; refine WD_undefS rfl rfl rfl rfl rfl (fun _ _ => ⟨hS.sat, trivial⟩) ?_; refine WD_undefS rfl rfl rfl rfl rfl (fun _ _ => ⟨hS.sat, trivial⟩) ?_; refine WD_undefS rfl rfl rfl rfl rfl (fun _ _ => ⟨hS.sat, trivial⟩) ?_
      refine WD_undefS rfl rfl rfl rfl rfl (fun _ h => noneed (by kernel_rfl) h) ?_
      refine WD_skipS rfl rfl hb20 rfl rfl rfl (fun _ h => noneed (by kernel_rfl) h) ?_
      refine WD_op rfl rfl (OpP_val (rn_pickT (v := (.bool true)) rfl hb20 rfl) rfl ?_)
      refine ⟨fun _ h => noneed (by kernel_rfl) h, ?_⟩
      refine WD_nil ?_
      have hO : Owns G13 w19 w0.heap.size ([]) := hO
      have H := Option.some.inj H; subst H
      exact ⟨_, G13, upds_self _ _ ⟨rfl, rfl, rfl, rfl, rfl, trivial⟩, Gle.refl _, hS, hO⟩
     ·have H := ifF hb20 H; refine WD_opY rfl rfl rfl hb20 rfl rfl (OpP_val (rn_move (v := (.int .i64 s8.2)) rfl) rfl ?_); refine ⟨fun _ _ => ⟨hS.sat, trivial⟩, ?_⟩; refine WD_opY rfl rfl rfl hb20 rfl rfl (OpP_val (rn_gtr rfl rfl) rfl ?_); refine ⟨fun _ _ => ⟨hS.sat, trivial⟩, ?_⟩; refine WD_opY rfl rfl rfl hb20 rfl rfl (OpP_val (rn_move (v := (.bool (decide (0 < s8.2)))) rfl) rfl ?_); refine ⟨fun _ _ => ⟨hS.sat, trivial⟩, ?_⟩
      rcases bcases (decide (0 < s8.2)) with hb21 | hb21
      ·have H := ifT hb21 H; refine WD_valY rfl rfl hb21 rfl rfl (fun w hw => rn_move (v := (.slice a4 n4 c4)) rfl) rfl ?_; refine WD_valY rfl rfl hb21 rfl rfl (fun w hw => rn_move (v := (.int .i64 s8.2)) rfl) rfl ?_; refine WD_idxY rfl rfl hb21 rfl rfl sl22 (h4.mono RInt_mono l0_2) hy16 rfl rfl rfl ?_
       rintro b22 o22 _ hcb22 _ ⟨⟩
       refine WD_valY rfl rfl hb21 rfl rfl (fun w hw => rn_load na3 rfl (hw.1.cell (hcb22 0 _ rfl))) rfl ?_; refine WD_valY rfl rfl hb21 rfl rfl (fun w hw => rn_move (v := (.slice a4 n4 c4)) rfl) rfl ?_; refine WD_opY rfl rfl rfl hb21 rfl rfl (OpP_val (rn_move (v := (.int .i64 s8.2)) rfl) rfl ?_); refine ⟨fun _ _ => ⟨hS.sat, trivial⟩, ?_⟩; refine WD_opY rfl rfl rfl hb21 rfl rfl (OpP_val (rn_sub rfl rfl) rfl ?_); refine ⟨fun _ _ => ⟨hS.sat, trivial⟩, ?_⟩; obtain ⟨y23, hy23, H⟩ := bnd H; refine WD_opY rfl rfl rfl hb21 rfl rfl (OpP_idx sl22 (h4.mono RInt_mono l0_2) hy23 rfl rfl rfl ?_)
       rintro b24 o24 _ hcb24 _ ⟨⟩
       refine ⟨fun _ _ => ⟨hS.sat, trivial⟩, ?_⟩; refine WD_opY rfl rfl rfl hb21 rfl rfl (OpP_val (rn_load na3 rfl (hS.sat.cell (hcb24 0 _ rfl))) rfl ?_); refine ⟨fun _ _ => ⟨hS.sat, trivial⟩, ?_⟩; refine WD_opY rfl rfl rfl hb21 rfl rfl (OpP_val (rn_leq rfl rfl) rfl ?_)
       refine ⟨fun _ h => noneed (by kernel_rfl) h, ?_⟩
       refine WD_opY rfl rfl rfl hb20 rfl rfl (OpP_val (rn_pickT (v := (.bool (decide (y16 ≤ y23)))) rfl hb21 rfl) rfl ?_)
       refine ⟨fun _ h => noneed (by kernel_rfl) h, ?_⟩
       refine WD_op rfl rfl (OpP_val (rn_pickF (v := (.bool (decide (y16 ≤ y23)))) rfl hb20 rfl) rfl ?_)
       refine ⟨fun _ h => noneed (by kernel_rfl) h, ?_⟩
       refine WD_nil ?_
       have hO : Owns G13 w19 w0.heap.size ([]) := hO
       have H := Option.some.inj H; subst H
       exact ⟨_, G13, upds_self _ _ ⟨rfl, rfl, rfl, rfl, rfl, trivial⟩, Gle.refl _, hS, hO⟩
      ·have H := ifF hb21 H; refine WD_skip rfl rfl hb21 rfl rfl rfl ?_; refine WD_skip rfl rfl hb21 rfl rfl rfl ?_; refine WD_skip rfl rfl hb21 rfl rfl rfl ?_; refine WD_skip rfl rfl hb21 rfl rfl rfl ?_; refine WD_skip rfl rfl hb21 rfl rfl rfl ?_; refine WD_skipS rfl rfl hb21 rfl rfl rfl (fun _ _ => ⟨hS.sat, trivial⟩) ?_; refine WD_skipS rfl rfl hb21 rfl rfl rfl (fun _ _ => ⟨hS.sat, trivial⟩) ?_; refine WD_skipS rfl rfl hb21 rfl rfl rfl (fun _ _ => ⟨hS.sat, trivial⟩) ?_; refine WD_skipS rfl rfl hb21 rfl rfl rfl (fun _ _ => ⟨hS.sat, trivial⟩) ?_
       refine WD_skipS rfl rfl hb21 rfl rfl rfl (fun _ h => noneed (by kernel_rfl) h) ?_
       refine WD_opY rfl rfl rfl hb20 rfl rfl (OpP_val (rn_pickF (v := (.bool false)) rfl hb21 rfl) rfl ?_)
       refine ⟨fun _ h => noneed (by kernel_rfl) h, ?_⟩
       refine WD_op rfl rfl (OpP_val (rn_pickF (v := (.bool false)) rfl hb20 rfl) rfl ?_)
       refine ⟨fun _ h => noneed (by kernel_rfl) h, ?_⟩
       refine WD_nil ?_
       have hO : Owns G13 w19 w0.heap.size ([]) := hO
       have H := Option.some.inj H; subst H
       exact ⟨_, G13, upds_self _ _ ⟨rfl, rfl, rfl, rfl, rfl, trivial⟩, Gle.refl _, hS, hO⟩
    ·rintro F w25 ⟨Fb, G26, rfl, leG26, hS, hO⟩
     refine WC_cond rfl (fun hb27 => ?_) (fun hb27 => ?_)
     ·have H := ifT hb27 H; refine WC_seq ?_; refine WC_region ?_; refine WL_val (rn_assign (v := (.bool false)) rfl) rfl ?_; refine WL_nil ?_; refine WC_ret ?_; have H := Option.some.inj H; subst H
      have hres := hqq10 _ rfl
      subst hres; have H := Hoq10
      have H : some false = some r := H
      have H := Option.some.inj H; subst H
      exact ⟨rfl, hS.below⟩
     ·have H := ifF hb27 H; refine WC_skip ?_; have hS := hS.keep (below_drew _); have hO := hO.below (below_drew _)
      refine WC_regionD mixedO (fun _ w => Sat G26 w ∧ True) (.fl 0 (.fl 1 (.fl 2 (.fl 3 (.on 4 (.on 5 (.on 6 (.on 7 (.on 8 (.on 9 (.on 10 (.on 11 .nil)))))))))))) (by kernel_rfl) rfl (by kernel_rfl) (fun _ => ⟨hS.sat, trivial⟩) ?_
      refine WD_val rfl (fun w hw => rn_move (v := (.int .i64 s8.1)) rfl) rfl ?_; refine WD_val rfl (fun w hw => rn_fld fd42_3 rfl) rfl ?_; refine WD_val rfl (fun w hw => rn_load na40 rfl ((hw.1.le (leG13.trans leG26)).cell (hcb5 4 _ rfl))) rfl ?_; refine WD_val rfl (fun w hw => rn_move (v := (.slice a4 n4 c4)) rfl) rfl ?_; refine WD_op rfl rfl (OpP_val (rn_move (v := (.int .i64 s8.2)) rfl) rfl ?_); refine ⟨fun _ _ => ⟨hS.sat, trivial⟩, ?_⟩; obtain ⟨y28, hy28, H⟩ := bnd H
      have l0_3 := l0_2.trans leG26
      refine WD_op rfl rfl (OpP_idx sl22 (h4.mono RInt_mono l0_3) hy28 rfl rfl rfl ?_)
      rintro b29 o29 _ hcb29 _ ⟨⟩
      refine ⟨fun _ _ => ⟨hS.sat, trivial⟩, ?_⟩; refine WD_op rfl rfl (OpP_val (rn_load na3 rfl (hS.sat.cell (hcb29 0 _ rfl))) rfl ?_); refine ⟨fun _ _ => ⟨hS.sat, trivial⟩, ?_⟩; obtain ⟨y30, hy30, H⟩ := bnd H; refine WD_op rfl rfl (OpP_idx sl40 (h3.mono RTShipLot_mono l0_3) hy30 rfl rfl rfl ?_)
      rintro b31 o31 _ hcb31 _ ⟨a32, n32, c32, ⟨⟩, h32⟩
      refine ⟨fun _ _ => ⟨hS.sat, trivial⟩, ?_⟩; refine WD_op rfl rfl (OpP_val (rn_fld fd111_1 rfl) rfl ?_); refine ⟨fun _ _ => ⟨hS.sat, trivial⟩, ?_⟩; refine WD_op rfl rfl (OpP_val (rn_load na3 rfl (hS.sat.cell (hcb31 1 _ rfl))) rfl ?_); refine ⟨fun _ _ => ⟨hS.sat, trivial⟩, ?_⟩; refine WD_op rfl rfl (OpP_val (rn_add rfl rfl) rfl ?_)
      refine ⟨fun _ h => noneed (by kernel_rfl) h, ?_⟩
      refine WD_op rfl rfl (OpP_val (rn_assign (v := (.int .i64 (IntKind.i64.wrap (s8.1 + y30.Weight)))) rfl) rfl ?_)
      refine ⟨fun _ h => noneed (by kernel_rfl) h, ?_⟩
      refine WD_nil ?_; refine WC_region ?_; refine WL_val (rn_move (v := (.int .i64 s8.2)) rfl) rfl ?_; refine WL_val (rn_add rfl rfl) rfl ?_; refine WL_val (rn_assign (v := (.int .i64 (IntKind.i64.wrap (s8.2 + 1)))) rfl) rfl ?_; refine WL_nil ?_
      have hO : Owns G26 w25.drew w0.heap.size ([]) := hO
      have H := Option.some.inj H; subst H; refine ⟨_, rfl, ?_⟩
      have l1_3 := leG13.trans leG26
      exact ⟨_, G26, upds_self _ _ ⟨rfl, rfl, rfl, rfl, trivial⟩, l1_3, hS, hO⟩
   ·have H := ifF hb14 H; refine WC_exit rfl ?_
    have hO : Owns G13 w12 w0.heap.size ([]) := hO
    have H := Option.some.inj H; subst H
    have hres := hqq10 _ rfl
    subst hres
    exact ⟨_, _, G13, rfl, upds_self _ _ ⟨rfl, rfl, trivial⟩, leG13, hS, hO⟩
 ·rintro F w33 ⟨p9, Fb, G34, rfl, rfl, leG34, hS, hO⟩
  refine WC_seq ?_; refine WC_region ?_; refine WL_val (rn_move (v := (.int .i64 p9)) rfl) rfl ?_; refine WL_val (rn_fld fd42_4 rfl) rfl ?_; refine WL_val (rn_load na3 rfl ((hS.sat.le leG34).cell (hcb5 5 _ rfl))) rfl ?_; refine WL_val (rn_leq rfl rfl) rfl ?_; refine WL_val (rn_assign (v := (.bool (decide (p9 ≤ x0.Hold)))) rfl) rfl ?_; refine WL_nil ?_; refine WC_ret ?_
  have H : some (decide (p9 ≤ x0.Hold)) = some r := H
  have H := Option.some.inj H; subst H
  exact ⟨rfl, hS.below⟩
set_option maxHeartbeats 1000000 in
theorem f73_ok {G0 : Gm} {w0 : World} (hS0 : Sat G0 w0) {x0 : TShipTruth} {a1 : Option Addr} {n1 c1 : Nat} {a2 : Option Addr} {n2 c2 : Nat} {a3 : Option Addr} {n3 c3 : Nat} {x1 : Int} (h1 : RSl RInt 1 G0 a1 n1 c1 x0.Uses) (h2 : RSl RInt 1 G0 a2 n2 c2 x0.Gaps) (h3 : RSl (RSlice RInt 1) 1 G0 a3 n3 c3 x0.Goods) {r : Bool} (H : f73 x0 x1 = some r) :
  Calls Try.prog 73 #[.agg #[.slice a1 n1 c1, .slice a2 n2 c2, .slice a3 n3 c3], .int .i64 x1] w0 (RetV w0 (.bool r)) := by
 have hS := Since.start hS0
 have hO : Owns G0 w0 w0.heap.size [] := Owns.nil (Nat.le_refl _)
 unfold f73 at H
 refine enter1 (N := 24) (shutV _ _) Try.func73 rfl rfl rfl rfl ?_; refine WC_seq ?_; refine WC_region ?_; refine WL_op rfl (OpP_newF (v := fun b => .pointer (some ⟨b, 0, none⟩)) (cs := [.slice a1 n1 c1, .slice a2 n2 c2, .slice a3 n3 c3]) (e := 45) (rn_boxA rfl) hS.sat rfl (fun b4 G6 w5 hg hcb4 => ?_)); have hS := hS.grow hg; have hO := hO.grow hg
 have leG6 := hg.le
 refine WL_val (rn_assign (v := (.bool false)) rfl) rfl ?_; refine WL_nil ?_; refine WC_seq ?_; refine WC_region ?_; refine WL_val (rn_assign (v := (.int .i64 0)) rfl) rfl ?_; refine WL_nil ?_; refine WC_seq ?_; refine WC_seq ?_; refine WC_region ?_; refine WL_val (rn_assign (v := (.int .i64 0)) rfl) rfl ?_; refine WL_nil ?_; obtain ⟨q9, hq9, H⟩ := bnd H; refine WC_cut (fun F w => ∃ (p8 : Unit) (Fb : Fr), q9 = .inl p8 ∧ F = upds Fb [] ∧ w5 = w) ?_ ?_
 ·refine WC_block (WC_loop hq9 (fun s7 F w => ∃ (Fb : Fr), F = upds Fb [(1, .int .i64 x1), (2, .pointer (some ⟨b4, 0, none⟩)), (5, .int .i64 s7.1), (6, .int .i64 s7.2)] ∧ w5 = w) ?_ ?_)
  ·exact ⟨_, upds_self _ _ ⟨rfl, rfl, rfl, rfl, trivial⟩, rfl⟩
  ·rintro s7 F wl t10 ⟨Fb, rfl, rfl⟩
   intro H1 hqq9
   have Hoq9 := H; have H := H1
   unfold f73_b0 at H
   refine WC_seq ?_; refine WC_seq ?_; refine WC_region ?_; refine WL_val (rn_move (v := (.int .i64 s7.2)) rfl) rfl ?_; refine WL_val (rn_fld fd45_1 rfl) rfl ?_; refine WL_val (rn_load na22 rfl (hS.sat.cell (hcb4 1 _ rfl))) rfl ?_; refine WL_val (rn_len sl22 rfl rfl (h2.mono RInt_mono leG6).1) rfl ?_; refine WL_val (rn_lss rfl rfl) rfl ?_; refine WL_nil ?_; refine WC_cond rfl (fun hb13 => ?_) (fun hb13 => ?_)
   ·have H := ifT hb13 H; refine WC_skip ?_; refine WC_seq ?_; refine WC_block ?_; refine WC_seq ?_; refine WC_region ?_; refine WL_val (rn_move (v := (.int .i64 s7.1)) rfl) rfl ?_; refine WL_val (rn_fld fd45_1 rfl) rfl ?_; refine WL_val (rn_load na22 rfl (hS.sat.cell (hcb4 1 _ rfl))) rfl ?_; refine WL_val (rn_move (v := (.int .i64 s7.2)) rfl) rfl ?_; obtain ⟨y14, hy14, H⟩ := bnd H; refine WL_idx sl22 (h2.mono RInt_mono leG6) hy14 rfl rfl rfl ?_
    rintro b15 o15 _ hcb15 _ ⟨⟩
    refine WL_val (rn_load na3 rfl (hS.sat.cell (hcb15 0 _ rfl))) rfl ?_; refine WL_val (rn_add rfl rfl) rfl ?_; refine WL_val (rn_assign (v := (.int .i64 (IntKind.i64.wrap (s7.1 + y14)))) rfl) rfl ?_; refine WL_nil ?_; refine WC_seq ?_; refine WC_region ?_; refine WL_val (rn_move (v := (.int .i64 (IntKind.i64.wrap (s7.1 + y14)))) rfl) rfl ?_; refine WL_val (rn_move (v := (.int .i64 x1)) rfl) rfl ?_; refine WL_val (rn_eql rfl rfl) rfl ?_; refine WL_nil ?_; refine WC_cond rfl (fun hb16 => ?_) (fun hb16 => ?_)
    ·have H := ifT hb16 H; refine WC_seq ?_; refine WC_region ?_; refine WL_val (rn_assign (v := (.bool true)) rfl) rfl ?_; refine WL_nil ?_; refine WC_ret ?_; have H := Option.some.inj H; subst H
     have hres := hqq9 _ rfl
     subst hres; have H := Hoq9
     have H : some true = some r := H
     have H := Option.some.inj H; subst H
     exact ⟨rfl, hS.below⟩
    ·have H := ifF hb16 H; refine WC_skip ?_; refine WC_region ?_; refine WL_val (rn_move (v := (.int .i64 s7.2)) rfl) rfl ?_; refine WL_val (rn_add rfl rfl) rfl ?_; refine WL_val (rn_assign (v := (.int .i64 (IntKind.i64.wrap (s7.2 + 1)))) rfl) rfl ?_; refine WL_nil ?_; have H := Option.some.inj H; subst H; refine ⟨_, rfl, ?_⟩
     exact ⟨_, upds_self _ _ ⟨rfl, rfl, rfl, rfl, trivial⟩, rfl⟩
   ·have H := ifF hb13 H; refine WC_exit rfl ?_; have H := Option.some.inj H; subst H
    have hres := hqq9 _ rfl
    subst hres
    exact ⟨_, _, rfl, rfl, rfl⟩
 ·rintro F wl ⟨p8, Fb, rfl, rfl, rfl⟩
  refine WC_seq ?_; refine WC_region ?_; refine WL_val (rn_assign (v := (.bool false)) rfl) rfl ?_; refine WL_nil ?_; refine WC_ret ?_
  have H : some false = some r := H
  have H := Option.some.inj H; subst H
  exact ⟨rfl, hS.below⟩
end Go.Proofs.Ytajejmbnmphngaa
