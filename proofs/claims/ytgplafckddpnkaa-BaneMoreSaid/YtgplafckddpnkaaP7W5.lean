/-
  The walks: each Go function computes its plain function (printed by a program of ours).
-/
import Derived.Test.YtgplafckddpnkaaRd
import Derived.Test.YtgplafckddpnkaaIt
import Derived.Test.YtgplafckddpnkaaP7W4
namespace Go.Proofs.Ytgplafckddpnkaa
open Go.RowKit
set_option linter.unusedVariables false

set_option maxRecDepth 20000
set_option linter.unusedVariables false
set_option maxHeartbeats 1000000 in
theorem f7_ok {G0 : Gm} {w0 : World} (hS0 : Sat G0 w0) {x0 : TBaneSea} {a1 : Option Addr} {n1 c1 : Nat} {a2 : Option Addr} {n2 c2 : Nat} {a3 : Option Addr} {n3 c3 : Nat} {x1 : (List Int)} {a4 : Option Addr} {n4 c4 : Nat} {x2 : Int} {x3 : Int} {x4 : Int} (h1 : RSl RInt 1 G0 a1 n1 c1 x0.Infested) (h2 : RSl RInt 1 G0 a2 n2 c2 x0.Clean) (h3 : RSl RTBaneTrip 4 G0 a3 n3 c3 x0.Trips) (h4 : RSl RInt 1 G0 a4 n4 c4 x1) {r : Bool} (H : f7 x0 x1 x2 x3 x4 = some r) :
  Calls Try.prog 7 #[.agg #[.int .i64 x0.Islets, .slice a1 n1 c1, .slice a2 n2 c2, .slice a3 n3 c3, .int .i64 x0.Wait], .slice a4 n4 c4, .int .i64 x2, .int .i64 x3, .int .i64 x4] w0 (RetV w0 (.bool r)) := by
 have hS := Since.start hS0
 have hO : Owns G0 w0 w0.heap.size [] := Owns.nil (Nat.le_refl _)
 unfold f7 at H
 refine enter1 (N := 156) (shutV _ _) Try.func7 rfl rfl rfl rfl ?_; refine WC_seq ?_; refine WC_region ?_; refine WL_op rfl (OpP_newF (v := fun b => .pointer (some ⟨b, 0, none⟩)) (cs := [.int .i64 x0.Islets, .slice a1 n1 c1, .slice a2 n2 c2, .slice a3 n3 c3, .int .i64 x0.Wait]) (e := 46) (rn_boxA rfl) hS.sat rfl (fun b5 G7 w6 hg hcb5 => ?_)); have hS := hS.grow hg; have hO := hO.grow hg
 have leG7 := hg.le
 refine WL_val (rn_assign (v := (.bool false)) rfl) rfl ?_; refine WL_nil ?_; refine WC_seq ?_; refine WC_seq ?_; obtain ⟨q8, hq8, H⟩ := bnd H; refine WC_cut (fun F w => ∃ (Fb : Fr) (G : Gm), F = upds Fb [(1, .slice a4 n4 c4), (2, .int .i64 x2), (3, .int .i64 x3), (4, .int .i64 x4), (5, .pointer (some ⟨b5, 0, none⟩)), (56, .bool q8)] ∧ Gle G7 G ∧ Since w0.heap.size G0 w0 G w ∧ Owns G w w0.heap.size []) ?_ ?_
 ·have Hoq8 := H; have H := hq8; refine WC_region ?_; refine WL_val (rn_loadA ag46 (cs := [.int .i64 x0.Islets, .slice a1 n1 c1, .slice a2 n2 c2, .slice a3 n3 c3, .int .i64 x0.Wait]) rfl rfl (fun j v hj => hS.sat.cell (hcb5.drop_take 0 5 j v hj))) rfl ?_; obtain ⟨y9, hy9, H⟩ := bnd H; refine WL_op rfl (OpP_callV cb27 (f27_ok (x0 := x0) hS.sat (h1.mono RInt_mono leG7) (h2.mono RInt_mono leG7) (h3.mono RTBaneTrip_mono leG7) hy9) rfl rfl (fun w10 hb => ?_)); have hS := hS.keep hb; have hO := hO.below hb; refine WL_val (rn_not rfl) rfl ?_; refine WL_val (rn_move (v := (.bool (!y9))) rfl) rfl ?_
  rcases bcases (!y9) with hb11 | hb11
  ·have H := ifT hb11 H; refine WL_guardN rfl hb11 rfl rfl rfl ?_; refine WL_guardN rfl hb11 rfl rfl rfl ?_; refine WL_guardN rfl hb11 rfl rfl rfl ?_; refine WL_val (rn_pickT (v := (.bool true)) rfl hb11 rfl) rfl ?_; refine WL_val (rn_move (v := (.bool true)) rfl) rfl ?_; refine WL_guardN rfl rfl rfl rfl rfl ?_; refine WL_guardN rfl rfl rfl rfl rfl ?_; refine WL_guardN rfl rfl rfl rfl rfl ?_; refine WL_guardN rfl rfl rfl rfl rfl ?_; refine WL_val (rn_pickT (v := (.bool true)) rfl rfl rfl) rfl ?_; refine WL_val (rn_move (v := (.bool true)) rfl) rfl ?_; refine WL_guardN rfl rfl rfl rfl rfl ?_; refine WL_guardN rfl rfl rfl rfl rfl ?_; refine WL_val (rn_pickT (v := (.bool true)) rfl rfl rfl) rfl ?_; refine WL_val (rn_move (v := (.bool true)) rfl) rfl ?_; refine WL_guardN rfl rfl rfl rfl rfl ?_; refine WL_guardN rfl rfl rfl rfl rfl ?_; refine WL_guardN rfl rfl rfl rfl rfl ?_; refine WL_guardN rfl rfl rfl rfl rfl ?_; refine WL_guardN rfl rfl rfl rfl rfl ?_; refine WL_val (rn_pickT (v := (.bool true)) rfl rfl rfl) rfl ?_; refine WL_val (rn_move (v := (.bool true)) rfl) rfl ?_; refine WL_guardN rfl rfl rfl rfl rfl ?_; refine WL_guardN rfl rfl rfl rfl rfl ?_; refine WL_val (rn_pickT (v := (.bool true)) rfl rfl rfl) rfl ?_; refine WL_val (rn_move (v := (.bool true)) rfl) rfl ?_; refine WL_guardN rfl rfl rfl rfl rfl ?_; refine WL_guardN rfl rfl rfl rfl rfl ?_; refine WL_val (rn_pickT (v := (.bool true)) rfl rfl rfl) rfl ?_; refine WL_nil ?_
   have hO : Owns G7 w10 w0.heap.size ([]) := hO
   have H := Option.some.inj H; subst H
   exact ⟨_, G7, upds_self _ _ ⟨rfl, rfl, rfl, rfl, rfl, rfl, trivial⟩, Gle.refl _, hS, hO⟩
  ·have H := ifF hb11 H; refine WL_guardY rfl hb11 rfl rfl ?_; refine WL_val (rn_move (v := (.slice a4 n4 c4)) rfl) rfl ?_; refine WL_guardY rfl hb11 rfl rfl ?_; refine WL_val (rn_len sl25 rfl rfl (h4.mono RInt_mono leG7).1) rfl ?_; refine WL_guardY rfl hb11 rfl rfl ?_; refine WL_val (rn_gtr rfl rfl) rfl ?_; refine WL_val (rn_pickF (v := (.bool (decide (12 < (x1.length : Int))))) rfl hb11 rfl) rfl ?_; refine WL_val (rn_move (v := (.bool (decide (12 < (x1.length : Int))))) rfl) rfl ?_
   rcases bcases (decide (12 < (x1.length : Int))) with hb12 | hb12
   ·have H := ifT hb12 H; refine WL_guardN rfl hb12 rfl rfl rfl ?_; refine WL_guardN rfl hb12 rfl rfl rfl ?_; refine WL_guardN rfl hb12 rfl rfl rfl ?_; refine WL_guardN rfl hb12 rfl rfl rfl ?_; refine WL_val (rn_pickT (v := (.bool true)) rfl hb12 rfl) rfl ?_; refine WL_val (rn_move (v := (.bool true)) rfl) rfl ?_; refine WL_guardN rfl rfl rfl rfl rfl ?_; refine WL_guardN rfl rfl rfl rfl rfl ?_; refine WL_val (rn_pickT (v := (.bool true)) rfl rfl rfl) rfl ?_; refine WL_val (rn_move (v := (.bool true)) rfl) rfl ?_; refine WL_guardN rfl rfl rfl rfl rfl ?_; refine WL_guardN rfl rfl rfl rfl rfl ?_; refine WL_guardN rfl rfl rfl rfl rfl ?_; refine WL_guardN rfl rfl rfl rfl rfl ?_; refine WL_guardN rfl rfl rfl rfl rfl ?_; refine WL_val (rn_pickT (v := (.bool true)) rfl rfl rfl) rfl ?_; refine WL_val (rn_move (v := (.bool true)) rfl) rfl ?_; refine WL_guardN rfl rfl rfl rfl rfl ?_; refine WL_guardN rfl rfl rfl rfl rfl ?_; refine WL_val (rn_pickT (v := (.bool true)) rfl rfl rfl) rfl ?_; refine WL_val (rn_move (v := (.bool true)) rfl) rfl ?_; refine WL_guardN rfl rfl rfl rfl rfl ?_; refine WL_guardN rfl rfl rfl rfl rfl ?_; refine WL_val (rn_pickT (v := (.bool true)) rfl rfl rfl) rfl ?_; refine WL_nil ?_
    have hO : Owns G7 w10 w0.heap.size ([]) := hO
    have H := Option.some.inj H; subst H
    exact ⟨_, G7, upds_self _ _ ⟨rfl, rfl, rfl, rfl, rfl, rfl, trivial⟩, Gle.refl _, hS, hO⟩
   ·have H := ifF hb12 H; refine WL_guardY rfl hb12 rfl rfl ?_; refine WL_val (rn_loadA ag46 (cs := [.int .i64 x0.Islets, .slice a1 n1 c1, .slice a2 n2 c2, .slice a3 n3 c3, .int .i64 x0.Wait]) rfl rfl (fun j v hj => hS.sat.cell (hcb5.drop_take 0 5 j v hj))) rfl ?_; refine WL_guardY rfl hb12 rfl rfl ?_; refine WL_val (rn_move (v := (.slice a4 n4 c4)) rfl) rfl ?_; refine WL_guardY rfl hb12 rfl rfl ?_; obtain ⟨y13, hy13, H⟩ := bnd H; refine WL_op rfl (OpP_callV cb30 (f30_ok (x0 := x0) (x1 := x1) hS.sat (h1.mono RInt_mono leG7) (h2.mono RInt_mono leG7) (h3.mono RTBaneTrip_mono leG7) (h4.mono RInt_mono leG7) hy13) rfl rfl (fun w14 hb => ?_)); have hS := hS.keep hb; have hO := hO.below hb; refine WL_guardY rfl hb12 rfl rfl ?_; refine WL_val (rn_neq rfl rfl) rfl ?_; refine WL_val (rn_pickF (v := (.bool (y13 != 0))) rfl hb12 rfl) rfl ?_; refine WL_val (rn_move (v := (.bool (y13 != 0))) rfl) rfl ?_
    rcases bcases (y13 != 0) with hb15 | hb15
    ·have H := ifT hb15 H; refine WL_guardN rfl hb15 rfl rfl rfl ?_; refine WL_guardN rfl hb15 rfl rfl rfl ?_; refine WL_val (rn_pickT (v := (.bool true)) rfl hb15 rfl) rfl ?_; refine WL_val (rn_move (v := (.bool true)) rfl) rfl ?_; refine WL_guardN rfl rfl rfl rfl rfl ?_; refine WL_guardN rfl rfl rfl rfl rfl ?_; refine WL_guardN rfl rfl rfl rfl rfl ?_; refine WL_guardN rfl rfl rfl rfl rfl ?_; refine WL_guardN rfl rfl rfl rfl rfl ?_; refine WL_val (rn_pickT (v := (.bool true)) rfl rfl rfl) rfl ?_; refine WL_val (rn_move (v := (.bool true)) rfl) rfl ?_; refine WL_guardN rfl rfl rfl rfl rfl ?_; refine WL_guardN rfl rfl rfl rfl rfl ?_; refine WL_val (rn_pickT (v := (.bool true)) rfl rfl rfl) rfl ?_; refine WL_val (rn_move (v := (.bool true)) rfl) rfl ?_; refine WL_guardN rfl rfl rfl rfl rfl ?_; refine WL_guardN rfl rfl rfl rfl rfl ?_; refine WL_val (rn_pickT (v := (.bool true)) rfl rfl rfl) rfl ?_; refine WL_nil ?_
     have hO : Owns G7 w14 w0.heap.size ([]) := hO
     have H := Option.some.inj H; subst H
     exact ⟨_, G7, upds_self _ _ ⟨rfl, rfl, rfl, rfl, rfl, rfl, trivial⟩, Gle.refl _, hS, hO⟩
    ·have H := ifF hb15 H; refine WL_guardY rfl hb15 rfl rfl ?_; refine WL_val (rn_move (v := (.int .i64 x3)) rfl) rfl ?_; refine WL_guardY rfl hb15 rfl rfl ?_; refine WL_val (rn_lss rfl rfl) rfl ?_; refine WL_val (rn_pickF (v := (.bool (decide (x3 < 0)))) rfl hb15 rfl) rfl ?_; refine WL_val (rn_move (v := (.bool (decide (x3 < 0)))) rfl) rfl ?_
     rcases bcases (decide (x3 < 0)) with hb16 | hb16
     ·have H := ifT hb16 H; refine WL_guardN rfl hb16 rfl rfl rfl ?_; refine WL_guardN rfl hb16 rfl rfl rfl ?_; refine WL_guardN rfl hb16 rfl rfl rfl ?_; refine WL_guardN rfl hb16 rfl rfl rfl ?_; refine WL_guardN rfl hb16 rfl rfl rfl ?_; refine WL_val (rn_pickT (v := (.bool true)) rfl hb16 rfl) rfl ?_; refine WL_val (rn_move (v := (.bool true)) rfl) rfl ?_; refine WL_guardN rfl rfl rfl rfl rfl ?_; refine WL_guardN rfl rfl rfl rfl rfl ?_; refine WL_val (rn_pickT (v := (.bool true)) rfl rfl rfl) rfl ?_; refine WL_val (rn_move (v := (.bool true)) rfl) rfl ?_; refine WL_guardN rfl rfl rfl rfl rfl ?_; refine WL_guardN rfl rfl rfl rfl rfl ?_; refine WL_val (rn_pickT (v := (.bool true)) rfl rfl rfl) rfl ?_; refine WL_nil ?_
      have hO : Owns G7 w14 w0.heap.size ([]) := hO
      have H := Option.some.inj H; subst H
      exact ⟨_, G7, upds_self _ _ ⟨rfl, rfl, rfl, rfl, rfl, rfl, trivial⟩, Gle.refl _, hS, hO⟩
     ·have H := ifF hb16 H; refine WL_guardY rfl hb16 rfl rfl ?_; refine WL_val (rn_move (v := (.int .i64 x3)) rfl) rfl ?_; refine WL_guardY rfl hb16 rfl rfl ?_; refine WL_val (rn_fld fd46_3 rfl) rfl ?_; refine WL_guardY rfl hb16 rfl rfl ?_; refine WL_val (rn_load na44 rfl (hS.sat.cell (hcb5 3 _ rfl))) rfl ?_; refine WL_guardY rfl hb16 rfl rfl ?_; refine WL_val (rn_len sl44 rfl rfl (h3.mono RTBaneTrip_mono leG7).1) rfl ?_; refine WL_guardY rfl hb16 rfl rfl ?_; refine WL_val (rn_gtr rfl rfl) rfl ?_; refine WL_val (rn_pickF (v := (.bool (decide ((x0.Trips.length : Int) < x3)))) rfl hb16 rfl) rfl ?_; refine WL_val (rn_move (v := (.bool (decide ((x0.Trips.length : Int) < x3)))) rfl) rfl ?_
      rcases bcases (decide ((x0.Trips.length : Int) < x3)) with hb17 | hb17
      ·have H := ifT hb17 H; refine WL_guardN rfl hb17 rfl rfl rfl ?_; refine WL_guardN rfl hb17 rfl rfl rfl ?_; refine WL_val (rn_pickT (v := (.bool true)) rfl hb17 rfl) rfl ?_; refine WL_val (rn_move (v := (.bool true)) rfl) rfl ?_; refine WL_guardN rfl rfl rfl rfl rfl ?_; refine WL_guardN rfl rfl rfl rfl rfl ?_; refine WL_val (rn_pickT (v := (.bool true)) rfl rfl rfl) rfl ?_; refine WL_nil ?_
       have hO : Owns G7 w14 w0.heap.size ([]) := hO
       have H := Option.some.inj H; subst H
       exact ⟨_, G7, upds_self _ _ ⟨rfl, rfl, rfl, rfl, rfl, rfl, trivial⟩, Gle.refl _, hS, hO⟩
      ·have H := ifF hb17 H; refine WL_guardY rfl hb17 rfl rfl ?_; refine WL_val (rn_move (v := (.int .i64 x4)) rfl) rfl ?_; refine WL_guardY rfl hb17 rfl rfl ?_; refine WL_val (rn_lss rfl rfl) rfl ?_; refine WL_val (rn_pickF (v := (.bool (decide (x4 < 0)))) rfl hb17 rfl) rfl ?_; refine WL_val (rn_move (v := (.bool (decide (x4 < 0)))) rfl) rfl ?_
       rcases bcases (decide (x4 < 0)) with hb18 | hb18
       ·have H := ifT hb18 H; refine WL_guardN rfl hb18 rfl rfl rfl ?_; refine WL_guardN rfl hb18 rfl rfl rfl ?_; refine WL_val (rn_pickT (v := (.bool true)) rfl hb18 rfl) rfl ?_; refine WL_nil ?_
        have hO : Owns G7 w14 w0.heap.size ([]) := hO
        have H := Option.some.inj H; subst H
        exact ⟨_, G7, upds_self _ _ ⟨rfl, rfl, rfl, rfl, rfl, rfl, trivial⟩, Gle.refl _, hS, hO⟩
       ·have H := ifF hb18 H; refine WL_guardY rfl hb18 rfl rfl ?_; refine WL_val (rn_move (v := (.int .i64 x4)) rfl) rfl ?_; refine WL_guardY rfl hb18 rfl rfl ?_; refine WL_val (rn_gtr rfl rfl) rfl ?_; refine WL_val (rn_pickF (v := (.bool (decide (40 < x4)))) rfl hb18 rfl) rfl ?_; refine WL_nil ?_
        have hO : Owns G7 w14 w0.heap.size ([]) := hO
        have H := Option.some.inj H; subst H
        exact ⟨_, G7, upds_self _ _ ⟨rfl, rfl, rfl, rfl, rfl, rfl, trivial⟩, Gle.refl _, hS, hO⟩
 ·rintro F w19 ⟨Fb, G20, rfl, leG20, hS, hO⟩
  refine WC_cond rfl (fun hb21 => ?_) (fun hb21 => ?_)
  ·have H := ifT hb21 H; refine WC_seq ?_; refine WC_region ?_; obtain ⟨y22, hy22, H⟩ := bnd H; refine WL_op rfl (OpP_callV cb19 (f19_ok  hS.sat  hy22) rfl rfl (fun w23 hb => ?_)); have hS := hS.keep hb; have hO := hO.below hb; refine WL_val (rn_assign (v := (.bool y22)) rfl) rfl ?_; refine WL_nil ?_; refine WC_ret ?_
   have H : some y22 = some r := H
   have H := Option.some.inj H; subst H
   exact ⟨rfl, hS.below⟩
  ·have H := ifF hb21 H; refine WC_skip ?_; refine WC_seq ?_; refine WC_region ?_; refine WL_val (rn_assign (v := (.slice none 0 0)) rfl) rfl ?_; refine WL_val (rn_assign (v := (.slice none 0 0)) rfl) rfl ?_; refine WL_nil ?_; refine WC_seq ?_; refine WC_seq ?_; refine WC_region ?_; refine WL_val (rn_assign (v := (.int .i64 0)) rfl) rfl ?_; refine WL_nil ?_; have hO := hO.cons_nil 3 1; have hO := hO.cons_nil 3 1; obtain ⟨q28, hq28, H⟩ := bnd H; refine WC_cut (fun F w => ∃ (Fb : Fr) (G : Gm) (aq28_0 : Option Addr) (nq28_0 cq28_0 : Nat) (claq28_0 : List Value) (aq28_1 : Option Addr) (nq28_1 cq28_1 : Nat) (claq28_1 : List Value), F = upds Fb [(1, .slice a4 n4 c4), (3, .int .i64 x3), (4, .int .i64 x4), (5, .pointer (some ⟨b5, 0, none⟩)), (11, .slice aq28_0 nq28_0 cq28_0), (12, .slice aq28_1 nq28_1 cq28_1)] ∧ Gle G20 G ∧ Since w0.heap.size G0 w0 G w ∧ Owns G w w0.heap.size [⟨3, 1, nq28_1, .slice aq28_1 nq28_1 cq28_1, claq28_1⟩, ⟨3, 1, nq28_0, .slice aq28_0 nq28_0 cq28_0, claq28_0⟩] ∧ nq28_0 = q28.1.length ∧ Rd RInt 1 G claq28_0 q28.1 ∧ nq28_1 = q28.2.length ∧ Rd RInt 1 G claq28_1 q28.2) ?_ ?_
   ·refine WC_block (WC_loop hq28 (fun s26 F w => ∃ (Fb : Fr) (G : Gm) (as26_0 : Option Addr) (ns26_0 cs26_0 : Nat) (clas26_0 : List Value) (as26_1 : Option Addr) (ns26_1 cs26_1 : Nat) (clas26_1 : List Value), F = upds Fb [(1, .slice a4 n4 c4), (2, .int .i64 x2), (3, .int .i64 x3), (4, .int .i64 x4), (5, .pointer (some ⟨b5, 0, none⟩)), (11, .slice as26_0 ns26_0 cs26_0), (12, .slice as26_1 ns26_1 cs26_1), (13, .int .i64 s26.2.2)] ∧ Gle G20 G ∧ Since w0.heap.size G0 w0 G w ∧ Owns G w w0.heap.size [⟨3, 1, ns26_1, .slice as26_1 ns26_1 cs26_1, clas26_1⟩, ⟨3, 1, ns26_0, .slice as26_0 ns26_0 cs26_0, clas26_0⟩] ∧ ns26_0 = s26.1.length ∧ Rd RInt 1 G clas26_0 s26.1 ∧ ns26_1 = s26.2.1.length ∧ Rd RInt 1 G clas26_1 s26.2.1) ?_ ?_)
    ·have hO : Owns G20 w19 w0.heap.size ([⟨3, 1, 0, .slice none 0 0, []⟩, ⟨3, 1, 0, .slice none 0 0, []⟩]) := hO
     exact ⟨_, G20, none, 0, 0, [], none, 0, 0, [], upds_self _ _ ⟨rfl, rfl, rfl, rfl, rfl, rfl, rfl, rfl, trivial⟩, Gle.refl _, hS, hO, rfl, (Rd.nil RInt 1 G20), rfl, (Rd.nil RInt 1 G20)⟩
    ·rintro s26 F w30 t29 ⟨Fb, G31, as26_0, ns26_0, cs26_0, clas26_0, as26_1, ns26_1, cs26_1, clas26_1, rfl, leG31, hS, hO, hnhs26_0, hs26_0, hnhs26_1, hs26_1⟩
     intro H1 hqq28
     have Hoq28 := H; have H := H1
     unfold f7_b0 at H
     refine WC_seq ?_; refine WC_seq ?_; refine WC_region ?_; refine WL_val (rn_move (v := (.int .i64 s26.2.2)) rfl) rfl ?_; refine WL_val (rn_fld fd46_3 rfl) rfl ?_
     have l1_3 := leG20.trans leG31
     refine WL_val (rn_load na44 rfl ((hS.sat.le l1_3).cell (hcb5 3 _ rfl))) rfl ?_
     have l0_3 := leG7.trans l1_3
     refine WL_val (rn_len sl44 rfl rfl (h3.mono RTBaneTrip_mono l0_3).1) rfl ?_; refine WL_val (rn_lss rfl rfl) rfl ?_; refine WL_nil ?_; refine WC_cond rfl (fun hb32 => ?_) (fun hb32 => ?_)
     ·have H := ifT hb32 H; refine WC_skip ?_; refine WC_seq ?_; obtain ⟨q33, hq33, H⟩ := bnd H; refine WC_cut (fun F w => ∃ (Fb : Fr) (G : Gm) (aq33_0 : Option Addr) (nq33_0 cq33_0 : Nat) (claq33_0 : List Value) (aq33_1 : Option Addr) (nq33_1 cq33_1 : Nat) (claq33_1 : List Value), F = upds Fb [(1, .slice a4 n4 c4), (2, .int .i64 x2), (3, .int .i64 x3), (4, .int .i64 x4), (5, .pointer (some ⟨b5, 0, none⟩)), (11, .slice aq33_0 nq33_0 cq33_0), (12, .slice aq33_1 nq33_1 cq33_1), (13, .int .i64 s26.2.2)] ∧ Gle G31 G ∧ Since w0.heap.size G0 w0 G w ∧ Owns G w w0.heap.size [⟨3, 1, nq33_1, .slice aq33_1 nq33_1 cq33_1, claq33_1⟩, ⟨3, 1, nq33_0, .slice aq33_0 nq33_0 cq33_0, claq33_0⟩] ∧ nq33_0 = q33.1.length ∧ Rd RInt 1 G claq33_0 q33.1 ∧ nq33_1 = q33.2.length ∧ Rd RInt 1 G claq33_1 q33.2) ?_ ?_
      ·have Hoq33 := H; have H := hq33; refine WC_block ?_; refine WC_seq ?_; obtain ⟨q34, hq34, H⟩ := bnd H; refine WC_cut (fun F w => ∃ (Fb : Fr) (G : Gm) (aq34_0 : Option Addr) (nq34_0 cq34_0 : Nat) (claq34_0 : List Value), F = upds Fb [(1, .slice a4 n4 c4), (2, .int .i64 x2), (3, .int .i64 x3), (4, .int .i64 x4), (5, .pointer (some ⟨b5, 0, none⟩)), (11, .slice aq34_0 nq34_0 cq34_0), (12, .slice as26_1 ns26_1 cs26_1), (13, .int .i64 s26.2.2)] ∧ Gle G31 G ∧ Since w0.heap.size G0 w0 G w ∧ Owns G w w0.heap.size [⟨3, 1, ns26_1, .slice as26_1 ns26_1 cs26_1, clas26_1⟩, ⟨3, 1, nq34_0, .slice aq34_0 nq34_0 cq34_0, claq34_0⟩] ∧ nq34_0 = q34.length ∧ Rd RInt 1 G claq34_0 q34) ?_ ?_
       ·have Hoq34 := H; have H := hq34; refine WC_seq ?_; obtain ⟨q35, hq35, H⟩ := bnd H; refine WC_cut (fun F w => ∃ (Fb : Fr) (G : Gm), F = upds Fb [(1, .slice a4 n4 c4), (2, .int .i64 x2), (3, .int .i64 x3), (4, .int .i64 x4), (5, .pointer (some ⟨b5, 0, none⟩)), (11, .slice as26_0 ns26_0 cs26_0), (12, .slice as26_1 ns26_1 cs26_1), (13, .int .i64 s26.2.2), (72, .bool q35)] ∧ Gle G31 G ∧ Since w0.heap.size G0 w0 G w ∧ Owns G w w0.heap.size [⟨3, 1, ns26_1, .slice as26_1 ns26_1 cs26_1, clas26_1⟩, ⟨3, 1, ns26_0, .slice as26_0 ns26_0 cs26_0, clas26_0⟩]) ?_ ?_
        ·have Hoq35 := H; have H := hq35; refine WC_region ?_; refine WL_val (rn_move (v := (.int .i64 s26.2.2)) rfl) rfl ?_; refine WL_val (rn_move (v := (.int .i64 x2)) rfl) rfl ?_; refine WL_val (rn_eql rfl rfl) rfl ?_; refine WL_val (rn_move (v := (.bool (s26.2.2 == x2))) rfl) rfl ?_
         rcases bcases (s26.2.2 == x2) with hb36 | hb36
         ·have H := ifT hb36 H; refine WL_guardN rfl hb36 rfl rfl rfl ?_; refine WL_guardN rfl hb36 rfl rfl rfl ?_; refine WL_guardN rfl hb36 rfl rfl rfl ?_; refine WL_val (rn_pickT (v := (.bool true)) rfl hb36 rfl) rfl ?_; refine WL_nil ?_
          have hO : Owns G31 w30 w0.heap.size ([⟨3, 1, ns26_1, .slice as26_1 ns26_1 cs26_1, clas26_1⟩, ⟨3, 1, ns26_0, .slice as26_0 ns26_0 cs26_0, clas26_0⟩]) := hO
          have H := Option.some.inj H; subst H
          exact ⟨_, G31, upds_self _ _ ⟨rfl, rfl, rfl, rfl, rfl, rfl, rfl, rfl, rfl, trivial⟩, Gle.refl _, hS, hO⟩
         ·have H := ifF hb36 H; refine WL_guardY rfl hb36 rfl rfl ?_; refine WL_val (rn_move (v := (.slice a4 n4 c4)) rfl) rfl ?_; refine WL_guardY rfl hb36 rfl rfl ?_; refine WL_val (rn_move (v := (.int .i64 s26.2.2)) rfl) rfl ?_; refine WL_guardY rfl hb36 rfl rfl ?_; obtain ⟨y37, hy37, H⟩ := bnd H; refine WL_op rfl (OpP_callV cb38 (f38_ok (x0 := x1) (x1 := s26.2.2) hS.sat (h4.mono RInt_mono l0_3) hy37) rfl rfl (fun w38 hb => ?_)); have hS := hS.keep hb; have hO := hO.below hb; refine WL_val (rn_pickF (v := (.bool y37)) rfl hb36 rfl) rfl ?_; refine WL_nil ?_
          have hO : Owns G31 w38 w0.heap.size ([⟨3, 1, ns26_1, .slice as26_1 ns26_1 cs26_1, clas26_1⟩, ⟨3, 1, ns26_0, .slice as26_0 ns26_0 cs26_0, clas26_0⟩]) := hO
          have H := Option.some.inj H; subst H
          exact ⟨_, G31, upds_self _ _ ⟨rfl, rfl, rfl, rfl, rfl, rfl, rfl, rfl, rfl, trivial⟩, Gle.refl _, hS, hO⟩
        ·rintro F w39 ⟨Fb, G40, rfl, leG40, hS, hO⟩
         refine WC_cond rfl (fun hb41 => ?_) (fun hb41 => ?_)
         ·have H := ifT hb41 H; refine WC_region ?_; refine WL_val (rn_move (v := (.slice as26_0 ns26_0 cs26_0)) rfl) rfl ?_; refine WL_val (rn_move (v := (.int .i64 s26.2.2)) rfl) rfl ?_
          refine WL_op rfl (OpP_newF (v := fun b => .slice (some ⟨b, 0, none⟩) 1 1) (cs := [.int .i64 s26.2.2]) (e := 3) (by kernel_rfl) hS.sat rfl (fun b42 G44 w43 hg hcb42 => ?_))
          have hS := hS.grow hg; have hO := hO.grow hg
          have leG44 := hg.le
          have hfb42 : RSl RInt 1 G44 (some ⟨b42, 0, none⟩) 1 1 [s26.2.2] := RSl.of_rd hcb42 (Rd.cons (c := [.int .i64 s26.2.2]) rfl rfl (Rd.nil RInt 1 _)) rfl (by decide)
          obtain ⟨y45, hy45, H⟩ := bnd H
          have l3_5 := leG40.trans leG44
          refine WL_op rfl (OpP_append (k := 1) sl25 RInt_one hS hO rfl hnhs26_0 (hs26_0.mono RInt_mono l3_5) hfb42 hy45 rfl rfl rfl rfl rfl (fun aw46 cw46 w46 clw46 hS hO hrw46 => ?_))
          have hO : Owns G44 w46 w0.heap.size ([⟨3, 1, ns26_1, .slice as26_1 ns26_1 cs26_1, clas26_1⟩, ⟨3, 1, y45.length, .slice aw46 y45.length cw46, clw46⟩]) := hO
          refine WL_val (rn_assign (v := (.slice aw46 y45.length cw46)) rfl) rfl ?_; refine WL_nil ?_
          have hO : Owns G44 w46 w0.heap.size ([⟨3, 1, ns26_1, .slice as26_1 ns26_1 cs26_1, clas26_1⟩, ⟨3, 1, y45.length, .slice aw46 y45.length cw46, clw46⟩]) := hO
          have H := Option.some.inj H; subst H
          exact ⟨_, G44, aw46, y45.length, cw46, clw46, upds_self _ _ ⟨rfl, rfl, rfl, rfl, rfl, rfl, rfl, rfl, trivial⟩, l3_5, hS, hO, rfl, hrw46⟩
         ·have H := ifF hb41 H; refine WC_skip ?_
          have hO : Owns G40 w39 w0.heap.size ([⟨3, 1, ns26_1, .slice as26_1 ns26_1 cs26_1, clas26_1⟩, ⟨3, 1, ns26_0, .slice as26_0 ns26_0 cs26_0, clas26_0⟩]) := hO
          have H := Option.some.inj H; subst H
          exact ⟨_, G40, as26_0, ns26_0, cs26_0, clas26_0, upds_self _ _ ⟨rfl, rfl, rfl, rfl, rfl, rfl, rfl, rfl, trivial⟩, leG40, hS, hO, hnhs26_0, (hs26_0.mono RInt_mono leG40)⟩
       ·rintro F w47 ⟨Fb, G48, aq34_0, nq34_0, cq34_0, claq34_0, rfl, leG48, hS, hO, hnhq34_0, hq34_0⟩
        refine WC_seq ?_; obtain ⟨q49, hq49, H⟩ := bnd H; refine WC_cut (fun F w => ∃ (Fb : Fr) (G : Gm), F = upds Fb [(1, .slice a4 n4 c4), (2, .int .i64 x2), (3, .int .i64 x3), (4, .int .i64 x4), (5, .pointer (some ⟨b5, 0, none⟩)), (11, .slice aq34_0 nq34_0 cq34_0), (12, .slice as26_1 ns26_1 cs26_1), (13, .int .i64 s26.2.2), (84, .bool q49)] ∧ Gle G48 G ∧ Since w0.heap.size G0 w0 G w ∧ Owns G w w0.heap.size [⟨3, 1, ns26_1, .slice as26_1 ns26_1 cs26_1, clas26_1⟩, ⟨3, 1, nq34_0, .slice aq34_0 nq34_0 cq34_0, claq34_0⟩]) ?_ ?_
        ·have Hoq49 := H; have H := hq49; refine WC_region ?_; refine WL_val (rn_move (v := (.int .i64 s26.2.2)) rfl) rfl ?_; refine WL_val (rn_move (v := (.int .i64 x3)) rfl) rfl ?_; refine WL_val (rn_lss rfl rfl) rfl ?_; refine WL_val (rn_move (v := (.bool (decide (s26.2.2 < x3)))) rfl) rfl ?_
         rcases bcases (decide (s26.2.2 < x3)) with hb50 | hb50
         ·have H := ifT hb50 H; refine WL_guardY rfl hb50 rfl rfl ?_; refine WL_val (rn_move (v := (.slice a4 n4 c4)) rfl) rfl ?_; refine WL_guardY rfl hb50 rfl rfl ?_; refine WL_val (rn_move (v := (.int .i64 s26.2.2)) rfl) rfl ?_; refine WL_guardY rfl hb50 rfl rfl ?_; obtain ⟨y51, hy51, H⟩ := bnd H
          have l0_4 := l0_3.trans leG48
          refine WL_op rfl (OpP_callV cb38 (f38_ok (x0 := x1) (x1 := s26.2.2) hS.sat (h4.mono RInt_mono l0_4) hy51) rfl rfl (fun w52 hb => ?_)); have hS := hS.keep hb; have hO := hO.below hb; refine WL_val (rn_pickT (v := (.bool y51)) rfl hb50 rfl) rfl ?_; refine WL_nil ?_
          have hO : Owns G48 w52 w0.heap.size ([⟨3, 1, ns26_1, .slice as26_1 ns26_1 cs26_1, clas26_1⟩, ⟨3, 1, nq34_0, .slice aq34_0 nq34_0 cq34_0, claq34_0⟩]) := hO
          have H := Option.some.inj H; subst H
          exact ⟨_, G48, upds_self _ _ ⟨rfl, rfl, rfl, rfl, rfl, rfl, rfl, rfl, rfl, trivial⟩, Gle.refl _, hS, hO⟩
         ·have H := ifF hb50 H; refine WL_guardN rfl hb50 rfl rfl rfl ?_; refine WL_guardN rfl hb50 rfl rfl rfl ?_; refine WL_guardN rfl hb50 rfl rfl rfl ?_; refine WL_val (rn_pickF (v := (.bool false)) rfl hb50 rfl) rfl ?_; refine WL_nil ?_
          have hO : Owns G48 w47 w0.heap.size ([⟨3, 1, ns26_1, .slice as26_1 ns26_1 cs26_1, clas26_1⟩, ⟨3, 1, nq34_0, .slice aq34_0 nq34_0 cq34_0, claq34_0⟩]) := hO
          have H := Option.some.inj H; subst H
          exact ⟨_, G48, upds_self _ _ ⟨rfl, rfl, rfl, rfl, rfl, rfl, rfl, rfl, rfl, trivial⟩, Gle.refl _, hS, hO⟩
        ·rintro F w53 ⟨Fb, G54, rfl, leG54, hS, hO⟩
         refine WC_cond rfl (fun hb55 => ?_) (fun hb55 => ?_)
         ·have H := ifT hb55 H; refine WC_region ?_; refine WL_val (rn_move (v := (.slice as26_1 ns26_1 cs26_1)) rfl) rfl ?_; refine WL_val (rn_move (v := (.int .i64 s26.2.2)) rfl) rfl ?_
          refine WL_op rfl (OpP_newF (v := fun b => .slice (some ⟨b, 0, none⟩) 1 1) (cs := [.int .i64 s26.2.2]) (e := 3) (by kernel_rfl) hS.sat rfl (fun b56 G58 w57 hg hcb56 => ?_))
          have hS := hS.grow hg; have hO := hO.grow hg
          have leG58 := hg.le
          have hfb56 : RSl RInt 1 G58 (some ⟨b56, 0, none⟩) 1 1 [s26.2.2] := RSl.of_rd hcb56 (Rd.cons (c := [.int .i64 s26.2.2]) rfl rfl (Rd.nil RInt 1 _)) rfl (by decide)
          obtain ⟨y59, hy59, H⟩ := bnd H
          have l3_6 := (leG48.trans leG54).trans leG58
          refine WL_op rfl (OpP_append (k := 0) sl25 RInt_one hS hO rfl hnhs26_1 (hs26_1.mono RInt_mono l3_6) hfb56 hy59 rfl rfl rfl rfl rfl (fun aw60 cw60 w60 clw60 hS hO hrw60 => ?_))
          have hO : Owns G58 w60 w0.heap.size ([⟨3, 1, y59.length, .slice aw60 y59.length cw60, clw60⟩, ⟨3, 1, nq34_0, .slice aq34_0 nq34_0 cq34_0, claq34_0⟩]) := hO
          refine WL_val (rn_assign (v := (.slice aw60 y59.length cw60)) rfl) rfl ?_; refine WL_nil ?_
          have hO : Owns G58 w60 w0.heap.size ([⟨3, 1, y59.length, .slice aw60 y59.length cw60, clw60⟩, ⟨3, 1, nq34_0, .slice aq34_0 nq34_0 cq34_0, claq34_0⟩]) := hO
          have H := Option.some.inj H; subst H
          have l4_6 := leG54.trans leG58
          exact ⟨_, G58, aq34_0, nq34_0, cq34_0, claq34_0, aw60, y59.length, cw60, clw60, upds_self _ _ ⟨rfl, rfl, rfl, rfl, rfl, rfl, rfl, rfl, trivial⟩, l3_6, hS, hO, hnhq34_0, (hq34_0.mono RInt_mono l4_6), rfl, hrw60⟩
         ·have H := ifF hb55 H; refine WC_skip ?_
          have hO : Owns G54 w53 w0.heap.size ([⟨3, 1, ns26_1, .slice as26_1 ns26_1 cs26_1, clas26_1⟩, ⟨3, 1, nq34_0, .slice aq34_0 nq34_0 cq34_0, claq34_0⟩]) := hO
          have H := Option.some.inj H; subst H
          have l3_5 := leG48.trans leG54
          exact ⟨_, G54, aq34_0, nq34_0, cq34_0, claq34_0, as26_1, ns26_1, cs26_1, clas26_1, upds_self _ _ ⟨rfl, rfl, rfl, rfl, rfl, rfl, rfl, rfl, trivial⟩, l3_5, hS, hO, hnhq34_0, (hq34_0.mono RInt_mono leG54), hnhs26_1, (hs26_1.mono RInt_mono l3_5)⟩
      ·rintro F w61 ⟨Fb, G62, aq33_0, nq33_0, cq33_0, claq33_0, aq33_1, nq33_1, cq33_1, claq33_1, rfl, leG62, hS, hO, hnhq33_0, hq33_0, hnhq33_1, hq33_1⟩
       refine WC_region ?_; refine WL_val (rn_move (v := (.int .i64 s26.2.2)) rfl) rfl ?_; refine WL_val (rn_add rfl rfl) rfl ?_; refine WL_val (rn_assign (v := (.int .i64 (IntKind.i64.wrap (s26.2.2 + 1)))) rfl) rfl ?_; refine WL_nil ?_
       have hO : Owns G62 w61 w0.heap.size ([⟨3, 1, nq33_1, .slice aq33_1 nq33_1 cq33_1, claq33_1⟩, ⟨3, 1, nq33_0, .slice aq33_0 nq33_0 cq33_0, claq33_0⟩]) := hO
       have H := Option.some.inj H; subst H; refine ⟨_, rfl, ?_⟩
       have l2_4 := leG31.trans leG62
       exact ⟨_, G62, aq33_0, nq33_0, cq33_0, claq33_0, aq33_1, nq33_1, cq33_1, claq33_1, upds_self _ _ ⟨rfl, rfl, rfl, rfl, rfl, rfl, rfl, rfl, trivial⟩, l2_4, hS, hO, hnhq33_0, hq33_0, hnhq33_1, hq33_1⟩
     ·have H := ifF hb32 H; refine WC_exit rfl ?_
      have hO : Owns G31 w30 w0.heap.size ([⟨3, 1, ns26_1, .slice as26_1 ns26_1 cs26_1, clas26_1⟩, ⟨3, 1, ns26_0, .slice as26_0 ns26_0 cs26_0, clas26_0⟩]) := hO
      have H := Option.some.inj H; subst H
      have hres := hqq28 _ rfl
      subst hres
      exact ⟨_, G31, as26_0, ns26_0, cs26_0, clas26_0, as26_1, ns26_1, cs26_1, clas26_1, upds_self _ _ ⟨rfl, rfl, rfl, rfl, rfl, rfl, trivial⟩, leG31, hS, hO, hnhs26_0, hs26_0, hnhs26_1, hs26_1⟩
   ·rintro F w63 ⟨Fb, G64, aq28_0, nq28_0, cq28_0, claq28_0, aq28_1, nq28_1, cq28_1, claq28_1, rfl, leG64, hS, hO, hnhq28_0, hq28_0, hnhq28_1, hq28_1⟩
    refine WC_seq ?_; have hS := hS.keep (below_drew _); have hO := hO.below (below_drew _)
    refine WC_regionD mixedO (fun w => Sat G64 w ∧ True) (.fl 0 (.fl 1 (.two 2 (.on 3 (.on 4 (.on 5 .nil))) 3 (.on 2 (.on 4 (.on 5 .nil)))))) (by kernel_rfl) rfl (by kernel_rfl) ⟨hS.sat, trivial⟩ ?_
    refine WD_val rfl (fun w hw => rn_loadA ag46 (cs := [.int .i64 x0.Islets, .slice a1 n1 c1, .slice a2 n2 c2, .slice a3 n3 c3, .int .i64 x0.Wait]) rfl rfl (fun j v hj => (hw.1.le (leG20.trans leG64)).cell (hcb5.drop_take 0 5 j v hj))) rfl ?_; refine WD_val rfl (fun w hw => rn_loadA ag46 (cs := [.int .i64 x0.Islets, .slice a1 n1 c1, .slice a2 n2 c2, .slice a3 n3 c3, .int .i64 x0.Wait]) rfl rfl (fun j v hj => (hw.1.le (leG20.trans leG64)).cell (hcb5.drop_take 0 5 j v hj))) rfl ?_; refine WD_two ?_ ?_
    ·refine WD_op rfl rfl (OpP_newO (v := fun b => .pointer (some ⟨b, 0, none⟩)) (cs := [.int .i64 0, .slice none 0 0, .slice none 0 0, .slice none 0 0, .int .i64 0]) (e := 46) (by kernel_rfl) hS.sat hO rfl 5 1 rfl (by decide) (fun b65 w66 hb hO => ?_))
     have hS := hS.keep hb; refine ⟨fun _ => ⟨hS.sat, trivial⟩, ?_⟩
     refine WD_op rfl rfl (OpP_newO (v := fun b => .pointer (some ⟨b, 0, none⟩)) (cs := [.int .i64 0, .slice none 0 0, .slice none 0 0, .slice none 0 0, .int .i64 0]) (e := 46) (by kernel_rfl) hS.sat hO rfl 5 1 rfl (by decide) (fun b68 w69 hb hO => ?_))
     have hS := hS.keep hb; refine ⟨fun _ => ⟨hS.sat, trivial⟩, ?_⟩; refine WD_op rfl rfl (OpP_store (vs := [.int .i64 x0.Islets, .slice a1 n1 c1, .slice a2 n2 c2, .slice a3 n3 c3, .int .i64 x0.Wait]) sz46 hS hO (k := 1) rfl rfl rfl rfl rfl (one_all rfl) (Nat.le_of_ble_eq_true rfl) (fun w71 hS hO => ?_))
     have hO : Owns G64 w71 w0.heap.size ([⟨46, 5, 1, .slice (some ⟨b68, 0, none⟩) 1 1, [.int .i64 0, .slice none 0 0, .slice none 0 0, .slice none 0 0, .int .i64 0]⟩, ⟨46, 5, 1, .slice (some ⟨b65, 0, none⟩) 1 1, [.int .i64 x0.Islets, .slice a1 n1 c1, .slice a2 n2 c2, .slice a3 n3 c3, .int .i64 x0.Wait]⟩, ⟨3, 1, nq28_1, .slice aq28_1 nq28_1 cq28_1, claq28_1⟩, ⟨3, 1, nq28_0, .slice aq28_0 nq28_0 cq28_0, claq28_0⟩]) := hO
     refine ⟨fun _ => ⟨hS.sat, trivial⟩, ?_⟩; refine WD_op rfl rfl (OpP_store (vs := [.int .i64 x0.Islets, .slice a1 n1 c1, .slice a2 n2 c2, .slice a3 n3 c3, .int .i64 x0.Wait]) sz46 hS hO (k := 0) rfl rfl rfl rfl rfl (one_all rfl) (Nat.le_of_ble_eq_true rfl) (fun w72 hS hO => ?_))
     have hO : Owns G64 w72 w0.heap.size ([⟨46, 5, 1, .slice (some ⟨b68, 0, none⟩) 1 1, [.int .i64 x0.Islets, .slice a1 n1 c1, .slice a2 n2 c2, .slice a3 n3 c3, .int .i64 x0.Wait]⟩, ⟨46, 5, 1, .slice (some ⟨b65, 0, none⟩) 1 1, [.int .i64 x0.Islets, .slice a1 n1 c1, .slice a2 n2 c2, .slice a3 n3 c3, .int .i64 x0.Wait]⟩, ⟨3, 1, nq28_1, .slice aq28_1 nq28_1 cq28_1, claq28_1⟩, ⟨3, 1, nq28_0, .slice aq28_0 nq28_0 cq28_0, claq28_0⟩]) := hO
     refine ⟨fun h => nomore (by kernel_rfl) h, ?_⟩
     refine WD_nil ?_; refine WC_seq ?_; refine WC_region ?_; refine WL_val (rn_fld fd46_3 rfl) rfl ?_
     have l1_3 := leG20.trans leG64
     refine WL_val (rn_load na44 rfl ((hS.sat.le l1_3).cell (hcb5 3 _ rfl))) rfl ?_; refine WL_val (rn_move (v := (.int .i64 x3)) rfl) rfl ?_; obtain ⟨y73, hy73, H⟩ := bnd H; obtain ⟨hl0, hl1, hl2, _⟩ := subL_some hy73
     have l0_3 := leG7.trans l1_3
     have hln := (h3.mono RTBaneTrip_mono l0_3).1
     have hnc := (h3.mono RTBaneTrip_mono l0_3).2.1.2
     obtain ⟨ay73, ny73, cy73, hsl, hsy73⟩ := RSl.sub (h3.mono RTBaneTrip_mono l0_3) hy73 rfl
     refine WL_val (v := (.slice ay73 ny73 cy73)) ((rn_sliceH sl44 rfl rfl (by omega) (by omega) hnc _).trans (congrArg (fun v => Result.ok (Next.value v) _) hsl)) rfl ?_
     refine WL_val (rn_fld fd46_3 rfl) rfl ?_; refine WL_op rfl (OpP_store (vs := [.slice ay73 ny73 cy73]) sz44 hS hO (k := 1) rfl rfl rfl rfl rfl (one_all rfl) (Nat.le_of_ble_eq_true rfl) (fun w74 hS hO => ?_))
     have hO : Owns G64 w74 w0.heap.size ([⟨46, 5, 1, .slice (some ⟨b68, 0, none⟩) 1 1, [.int .i64 x0.Islets, .slice a1 n1 c1, .slice a2 n2 c2, .slice a3 n3 c3, .int .i64 x0.Wait]⟩, ⟨46, 5, 1, .slice (some ⟨b65, 0, none⟩) 1 1, [.int .i64 x0.Islets, .slice a1 n1 c1, .slice a2 n2 c2, .slice ay73 ny73 cy73, .int .i64 x0.Wait]⟩, ⟨3, 1, nq28_1, .slice aq28_1 nq28_1 cq28_1, claq28_1⟩, ⟨3, 1, nq28_0, .slice aq28_0 nq28_0 cq28_0, claq28_0⟩]) := hO
     refine WL_nil ?_; refine WC_seq ?_; refine WC_region ?_; refine WL_val (rn_fld fd46_4 rfl) rfl ?_; refine WL_val (rn_load na3 rfl ((hS.sat.le l1_3).cell (hcb5 4 _ rfl))) rfl ?_; refine WL_val (rn_move (v := (.int .i64 x4)) rfl) rfl ?_; refine WL_val (rn_add rfl rfl) rfl ?_; refine WL_val (rn_min rfl rfl) rfl ?_; refine WL_val (rn_fld fd46_4 rfl) rfl ?_; refine WL_op rfl (OpP_store (vs := [.int .i64 (if IntKind.i64.wrap (x0.Wait + x4) < 40 then IntKind.i64.wrap (x0.Wait + x4) else 40)]) sz3 hS hO (k := 0) rfl rfl rfl rfl rfl (one_all rfl) (Nat.le_of_ble_eq_true rfl) (fun w75 hS hO => ?_))
     have hO : Owns G64 w75 w0.heap.size ([⟨46, 5, 1, .slice (some ⟨b68, 0, none⟩) 1 1, [.int .i64 x0.Islets, .slice a1 n1 c1, .slice a2 n2 c2, .slice a3 n3 c3, .int .i64 (if IntKind.i64.wrap (x0.Wait + x4) < 40 then IntKind.i64.wrap (x0.Wait + x4) else 40)]⟩, ⟨46, 5, 1, .slice (some ⟨b65, 0, none⟩) 1 1, [.int .i64 x0.Islets, .slice a1 n1 c1, .slice a2 n2 c2, .slice ay73 ny73 cy73, .int .i64 x0.Wait]⟩, ⟨3, 1, nq28_1, .slice aq28_1 nq28_1 cq28_1, claq28_1⟩, ⟨3, 1, nq28_0, .slice aq28_0 nq28_0 cq28_0, claq28_0⟩]) := hO
     refine WL_nil ?_; refine WC_seq ?_; refine WC_region ?_; refine WL_val (rn_loadA ag46 (cs := [.int .i64 x0.Islets, .slice a1 n1 c1, .slice a2 n2 c2, .slice a3 n3 c3, .int .i64 x0.Wait]) rfl rfl (fun j v hj => (hS.sat.le l1_3).cell (hcb5.drop_take 0 5 j v hj))) rfl ?_; refine WL_val (rn_move (v := (.slice a4 n4 c4)) rfl) rfl ?_; obtain ⟨y76, hy76, H⟩ := bnd H; refine WL_op rfl (OpP_callG cb39 (f39_ok (x0 := x0) (x1 := x1) hS.sat (h1.mono RInt_mono l0_3) (h2.mono RInt_mono l0_3) (h3.mono RTBaneTrip_mono l0_3) (h4.mono RInt_mono l0_3) hy76) rfl rfl (fun vy76 G78 w77 hg hvy76 => ?_)); obtain ⟨a79, n79, c79, ⟨⟩, h79⟩ := hvy76; have hS := hS.grow hg; have hO := hO.grow hg
     have leG78 := hg.le
     refine WL_val (rn_move (v := (.tuple #[.slice a79 n79 c79, .int .i64 y76.2])) rfl) rfl ?_; refine WL_val (rn_extract (v := (.slice a79 n79 c79)) rfl rfl) rfl ?_; refine WL_val (rn_extract (v := (.int .i64 y76.2)) rfl rfl) rfl ?_; refine WL_val (rn_assign (v := (.slice a79 n79 c79)) rfl) rfl ?_; refine WL_val (rn_assign (v := (.int .i64 y76.2)) rfl) rfl ?_; refine WL_nil ?_; refine WC_seq ?_; refine WC_region ?_
     have l1_4 := l1_3.trans leG78
     refine WL_val (rn_loadA ag46 (cs := [.int .i64 x0.Islets, .slice a1 n1 c1, .slice a2 n2 c2, .slice a3 n3 c3, .int .i64 x0.Wait]) rfl rfl (fun j v hj => (hS.sat.le l1_4).cell (hcb5.drop_take 0 5 j v hj))) rfl ?_; refine WL_val (rn_move (v := (.slice aq28_0 nq28_0 cq28_0)) rfl) rfl ?_; obtain ⟨G80, leG80, hS, hO, hfG80⟩ := hO.freezeS hS RInt_mono (k := 3) rfl (hq28_0.mono RInt_mono leG78) hnhq28_0; obtain ⟨y81, hy81, H⟩ := bnd H
     have l0_5 := (l0_3.trans leG78).trans leG80
     refine WL_op rfl (OpP_callG cb39 (f39_ok (x0 := (⟨x0.Islets, x0.Infested, x0.Clean, x0.Trips, x0.Wait⟩ : TBaneSea)) (x1 := q28.1) hS.sat (h1.mono RInt_mono l0_5) (h2.mono RInt_mono l0_5) (h3.mono RTBaneTrip_mono l0_5) hfG80 hy81) rfl rfl (fun vy81 G83 w82 hg hvy81 => ?_)); obtain ⟨a84, n84, c84, ⟨⟩, h84⟩ := hvy81; have hS := hS.grow hg; have hO := hO.grow hg
     have leG83 := hg.le
     refine WL_val (rn_move (v := (.tuple #[.slice a84 n84 c84, .int .i64 y81.2])) rfl) rfl ?_; refine WL_val (rn_extract (v := (.slice a84 n84 c84)) rfl rfl) rfl ?_; refine WL_val (rn_extract (v := (.int .i64 y81.2)) rfl rfl) rfl ?_; refine WL_val (rn_assign (v := (.slice a84 n84 c84)) rfl) rfl ?_; refine WL_val (rn_assign (v := (.int .i64 y81.2)) rfl) rfl ?_; refine WL_nil ?_; refine WC_seq ?_; refine WC_region ?_; refine WL_val (rn_loadA ag46 (cs := [.int .i64 x0.Islets, .slice a1 n1 c1, .slice a2 n2 c2, .slice ay73 ny73 cy73, .int .i64 x0.Wait]) rfl rfl (fun j v hj => own_sub hO (k := 1) rfl 0 5 j v hj)) rfl ?_; refine WL_val (rn_move (v := (.slice aq28_1 nq28_1 cq28_1)) rfl) rfl ?_
     have l3_6 := (leG78.trans leG80).trans leG83
     obtain ⟨G85, leG85, hS, hO, hfG85⟩ := hO.freezeS hS RInt_mono (k := 2) rfl (hq28_1.mono RInt_mono l3_6) hnhq28_1; obtain ⟨y86, hy86, H⟩ := bnd H
     have l0_7 := (l0_5.trans leG83).trans leG85
     have l3_7 := l3_6.trans leG85
     refine WL_op rfl (OpP_callG cb39 (f39_ok (x0 := (⟨x0.Islets, x0.Infested, x0.Clean, y73, x0.Wait⟩ : TBaneSea)) (x1 := q28.2) hS.sat (h1.mono RInt_mono l0_7) (h2.mono RInt_mono l0_7) (hsy73.mono RTBaneTrip_mono l3_7) hfG85 hy86) rfl rfl (fun vy86 G88 w87 hg hvy86 => ?_)); obtain ⟨a89, n89, c89, ⟨⟩, h89⟩ := hvy86; have hS := hS.grow hg; have hO := hO.grow hg
     have leG88 := hg.le
     refine WL_val (rn_move (v := (.tuple #[.slice a89 n89 c89, .int .i64 y86.2])) rfl) rfl ?_; refine WL_val (rn_extract (v := (.slice a89 n89 c89)) rfl rfl) rfl ?_; refine WL_val (rn_extract (v := (.int .i64 y86.2)) rfl rfl) rfl ?_; refine WL_val (rn_assign (v := (.slice a89 n89 c89)) rfl) rfl ?_; refine WL_val (rn_assign (v := (.int .i64 y86.2)) rfl) rfl ?_; refine WL_nil ?_; refine WC_seq ?_; refine WC_region ?_; refine WL_val (rn_loadA ag46 (cs := [.int .i64 x0.Islets, .slice a1 n1 c1, .slice a2 n2 c2, .slice a3 n3 c3, .int .i64 (if IntKind.i64.wrap (x0.Wait + x4) < 40 then IntKind.i64.wrap (x0.Wait + x4) else 40)]) rfl rfl (fun j v hj => own_sub hO (k := 0) rfl 0 5 j v hj)) rfl ?_; refine WL_val (rn_move (v := (.slice a4 n4 c4)) rfl) rfl ?_; obtain ⟨y90, hy90, H⟩ := bnd H
     have l0_8 := l0_7.trans leG88
     refine WL_op rfl (OpP_callG cb39 (f39_ok (x0 := (⟨x0.Islets, x0.Infested, x0.Clean, x0.Trips, if IntKind.i64.wrap (x0.Wait + x4) < 40 then IntKind.i64.wrap (x0.Wait + x4) else 40⟩ : TBaneSea)) (x1 := x1) hS.sat (h1.mono RInt_mono l0_8) (h2.mono RInt_mono l0_8) (h3.mono RTBaneTrip_mono l0_8) (h4.mono RInt_mono l0_8) hy90) rfl rfl (fun vy90 G92 w91 hg hvy90 => ?_)); obtain ⟨a93, n93, c93, ⟨⟩, h93⟩ := hvy90; have hS := hS.grow hg; have hO := hO.grow hg
     have leG92 := hg.le
     refine WL_val (rn_move (v := (.tuple #[.slice a93 n93 c93, .int .i64 y90.2])) rfl) rfl ?_; refine WL_val (rn_extract (v := (.slice a93 n93 c93)) rfl rfl) rfl ?_; refine WL_val (rn_extract (v := (.int .i64 y90.2)) rfl rfl) rfl ?_; refine WL_val (rn_assign (v := (.slice a93 n93 c93)) rfl) rfl ?_; refine WL_val (rn_assign (v := (.int .i64 y90.2)) rfl) rfl ?_; refine WL_nil ?_; refine WC_seq ?_; refine WC_seq ?_; obtain ⟨q94, hq94, H⟩ := bnd H; refine WC_cut (fun F w => ∃ (Fb : Fr), F = upds Fb [(16, .slice a79 n79 c79), (18, .slice a84 n84 c84), (20, .slice a89 n89 c89), (22, .slice a93 n93 c93), (139, .bool q94)] ∧ w91 = w) ?_ ?_
     ·have Hoq94 := H; have H := hq94; refine WC_region ?_; refine WL_val (rn_move (v := (.int .i64 y76.2)) rfl) rfl ?_; refine WL_val (rn_neq rfl rfl) rfl ?_; refine WL_val (rn_move (v := (.bool (y76.2 != 0))) rfl) rfl ?_
      rcases bcases (y76.2 != 0) with hb95 | hb95
      ·have H := ifT hb95 H; refine WL_guardN rfl hb95 rfl rfl rfl ?_; refine WL_guardN rfl hb95 rfl rfl rfl ?_; refine WL_val (rn_pickT (v := (.bool true)) rfl hb95 rfl) rfl ?_; refine WL_val (rn_move (v := (.bool true)) rfl) rfl ?_; refine WL_guardN rfl rfl rfl rfl rfl ?_; refine WL_guardN rfl rfl rfl rfl rfl ?_; refine WL_val (rn_pickT (v := (.bool true)) rfl rfl rfl) rfl ?_; refine WL_val (rn_move (v := (.bool true)) rfl) rfl ?_; refine WL_guardN rfl rfl rfl rfl rfl ?_; refine WL_guardN rfl rfl rfl rfl rfl ?_; refine WL_val (rn_pickT (v := (.bool true)) rfl rfl rfl) rfl ?_; refine WL_nil ?_; have H := Option.some.inj H; subst H
       exact ⟨_, upds_self _ _ ⟨rfl, rfl, rfl, rfl, rfl, trivial⟩, rfl⟩
      ·have H := ifF hb95 H; refine WL_guardY rfl hb95 rfl rfl ?_; refine WL_val (rn_move (v := (.int .i64 y81.2)) rfl) rfl ?_; refine WL_guardY rfl hb95 rfl rfl ?_; refine WL_val (rn_neq rfl rfl) rfl ?_; refine WL_val (rn_pickF (v := (.bool (y81.2 != 0))) rfl hb95 rfl) rfl ?_; refine WL_val (rn_move (v := (.bool (y81.2 != 0))) rfl) rfl ?_
       rcases bcases (y81.2 != 0) with hb96 | hb96
       ·have H := ifT hb96 H; refine WL_guardN rfl hb96 rfl rfl rfl ?_; refine WL_guardN rfl hb96 rfl rfl rfl ?_; refine WL_val (rn_pickT (v := (.bool true)) rfl hb96 rfl) rfl ?_; refine WL_val (rn_move (v := (.bool true)) rfl) rfl ?_; refine WL_guardN rfl rfl rfl rfl rfl ?_; refine WL_guardN rfl rfl rfl rfl rfl ?_; refine WL_val (rn_pickT (v := (.bool true)) rfl rfl rfl) rfl ?_; refine WL_nil ?_; have H := Option.some.inj H; subst H
        exact ⟨_, upds_self _ _ ⟨rfl, rfl, rfl, rfl, rfl, trivial⟩, rfl⟩
       ·have H := ifF hb96 H; refine WL_guardY rfl hb96 rfl rfl ?_; refine WL_val (rn_move (v := (.int .i64 y86.2)) rfl) rfl ?_; refine WL_guardY rfl hb96 rfl rfl ?_; refine WL_val (rn_neq rfl rfl) rfl ?_; refine WL_val (rn_pickF (v := (.bool (y86.2 != 0))) rfl hb96 rfl) rfl ?_; refine WL_val (rn_move (v := (.bool (y86.2 != 0))) rfl) rfl ?_
        rcases bcases (y86.2 != 0) with hb97 | hb97
        ·have H := ifT hb97 H; refine WL_guardN rfl hb97 rfl rfl rfl ?_; refine WL_guardN rfl hb97 rfl rfl rfl ?_; refine WL_val (rn_pickT (v := (.bool true)) rfl hb97 rfl) rfl ?_; refine WL_nil ?_; have H := Option.some.inj H; subst H
         exact ⟨_, upds_self _ _ ⟨rfl, rfl, rfl, rfl, rfl, trivial⟩, rfl⟩
        ·have H := ifF hb97 H; refine WL_guardY rfl hb97 rfl rfl ?_; refine WL_val (rn_move (v := (.int .i64 y90.2)) rfl) rfl ?_; refine WL_guardY rfl hb97 rfl rfl ?_; refine WL_val (rn_neq rfl rfl) rfl ?_; refine WL_val (rn_pickF (v := (.bool (y90.2 != 0))) rfl hb97 rfl) rfl ?_; refine WL_nil ?_; have H := Option.some.inj H; subst H
         exact ⟨_, upds_self _ _ ⟨rfl, rfl, rfl, rfl, rfl, trivial⟩, rfl⟩
     ·rintro F wl ⟨Fb, rfl, rfl⟩
      refine WC_cond rfl (fun hb100 => ?_) (fun hb100 => ?_)
      ·have H := ifT hb100 H; refine WC_seq ?_; refine WC_region ?_; refine WL_val (rn_assign (v := (.bool false)) rfl) rfl ?_; refine WL_nil ?_; refine WC_ret ?_
       have H : some false = some r := H
       have H := Option.some.inj H; subst H
       exact ⟨rfl, hS.below⟩
      ·have H := ifF hb100 H; refine WC_skip ?_; refine WC_seq ?_; obtain ⟨q101, hq101, H⟩ := bnd H; refine WC_cut (fun F w => ∃ (Fb : Fr) (G : Gm), F = upds Fb [(10, .bool q101)] ∧ Gle G92 G ∧ Since w0.heap.size G0 w0 G w ∧ Owns G w w0.heap.size [⟨46, 5, 1, .slice (some ⟨b68, 0, none⟩) 1 1, [.int .i64 x0.Islets, .slice a1 n1 c1, .slice a2 n2 c2, .slice a3 n3 c3, .int .i64 (if IntKind.i64.wrap (x0.Wait + x4) < 40 then IntKind.i64.wrap (x0.Wait + x4) else 40)]⟩, ⟨46, 5, 1, .slice (some ⟨b65, 0, none⟩) 1 1, [.int .i64 x0.Islets, .slice a1 n1 c1, .slice a2 n2 c2, .slice ay73 ny73 cy73, .int .i64 x0.Wait]⟩]) ?_ ?_
       ·have Hoq101 := H; have H := hq101; refine WC_region ?_; refine WL_val (rn_move (v := (.slice a79 n79 c79)) rfl) rfl ?_; refine WL_val (rn_move (v := (.slice a84 n84 c84)) rfl) rfl ?_; obtain ⟨y102, hy102, H⟩ := bnd H
        have l4_9 := (((leG80.trans leG83).trans leG85).trans leG88).trans leG92
        have l6_9 := (leG85.trans leG88).trans leG92
        refine WL_op rfl (OpP_callV cb40 (f40_ok (x0 := y76.1) (x1 := y81.1) hS.sat (h79.mono RInt_mono l4_9) (h84.mono RInt_mono l6_9) hy102) rfl rfl (fun w103 hb => ?_)); have hS := hS.keep hb; have hO := hO.below hb; refine WL_val (rn_move (v := (.bool y102)) rfl) rfl ?_
        rcases bcases y102 with hb104 | hb104
        ·have H := ifT hb104 H; refine WL_guardY rfl hb104 rfl rfl ?_; refine WL_val (rn_move (v := (.slice a79 n79 c79)) rfl) rfl ?_; refine WL_guardY rfl hb104 rfl rfl ?_; refine WL_val (rn_move (v := (.slice a89 n89 c89)) rfl) rfl ?_; refine WL_guardY rfl hb104 rfl rfl ?_; obtain ⟨y105, hy105, H⟩ := bnd H; refine WL_op rfl (OpP_callV cb40 (f40_ok (x0 := y76.1) (x1 := y86.1) hS.sat (h79.mono RInt_mono l4_9) (h89.mono RInt_mono leG92) hy105) rfl rfl (fun w106 hb => ?_)); have hS := hS.keep hb; have hO := hO.below hb; refine WL_val (rn_pickT (v := (.bool y105)) rfl hb104 rfl) rfl ?_; refine WL_val (rn_move (v := (.bool y105)) rfl) rfl ?_
         rcases bcases y105 with hb107 | hb107
         ·have H := ifT hb107 H; refine WL_guardY rfl hb107 rfl rfl ?_; refine WL_val (rn_move (v := (.slice a79 n79 c79)) rfl) rfl ?_; refine WL_guardY rfl hb107 rfl rfl ?_; refine WL_val (rn_move (v := (.slice a93 n93 c93)) rfl) rfl ?_; refine WL_guardY rfl hb107 rfl rfl ?_; obtain ⟨y108, hy108, H⟩ := bnd H; refine WL_op rfl (OpP_callV cb40 (f40_ok (x0 := y76.1) (x1 := y90.1) hS.sat (h79.mono RInt_mono l4_9) h93 hy108) rfl rfl (fun w109 hb => ?_)); have hS := hS.keep hb; have hO := hO.below hb; refine WL_val (rn_pickT (v := (.bool y108)) rfl hb107 rfl) rfl ?_; refine WL_val (rn_move (v := (.bool y108)) rfl) rfl ?_
          rcases bcases y108 with hb110 | hb110
          ·have H := ifT hb110 H; refine WL_guardY rfl hb110 rfl rfl ?_; obtain ⟨y111, hy111, H⟩ := bnd H; refine WL_op rfl (OpP_callV cb19 (f19_ok  hS.sat  hy111) rfl rfl (fun w112 hb => ?_)); have hS := hS.keep hb; have hO := hO.below hb; refine WL_val (rn_pickT (v := (.bool y111)) rfl hb110 rfl) rfl ?_; refine WL_val (rn_assign (v := (.bool y111)) rfl) rfl ?_; refine WL_nil ?_
           have hO : Owns G92 w112 w0.heap.size ([⟨46, 5, 1, .slice (some ⟨b68, 0, none⟩) 1 1, [.int .i64 x0.Islets, .slice a1 n1 c1, .slice a2 n2 c2, .slice a3 n3 c3, .int .i64 (if IntKind.i64.wrap (x0.Wait + x4) < 40 then IntKind.i64.wrap (x0.Wait + x4) else 40)]⟩, ⟨46, 5, 1, .slice (some ⟨b65, 0, none⟩) 1 1, [.int .i64 x0.Islets, .slice a1 n1 c1, .slice a2 n2 c2, .slice ay73 ny73 cy73, .int .i64 x0.Wait]⟩]) := hO
           have H := Option.some.inj H; subst H
           exact ⟨_, G92, upds_self _ _ ⟨rfl, trivial⟩, Gle.refl _, hS, hO⟩
          ·have H := ifF hb110 H; refine WL_guardN rfl hb110 rfl rfl rfl ?_; refine WL_val (rn_pickF (v := (.bool false)) rfl hb110 rfl) rfl ?_; refine WL_val (rn_assign (v := (.bool false)) rfl) rfl ?_; refine WL_nil ?_
           have hO : Owns G92 w109 w0.heap.size ([⟨46, 5, 1, .slice (some ⟨b68, 0, none⟩) 1 1, [.int .i64 x0.Islets, .slice a1 n1 c1, .slice a2 n2 c2, .slice a3 n3 c3, .int .i64 (if IntKind.i64.wrap (x0.Wait + x4) < 40 then IntKind.i64.wrap (x0.Wait + x4) else 40)]⟩, ⟨46, 5, 1, .slice (some ⟨b65, 0, none⟩) 1 1, [.int .i64 x0.Islets, .slice a1 n1 c1, .slice a2 n2 c2, .slice ay73 ny73 cy73, .int .i64 x0.Wait]⟩]) := hO
           have H := Option.some.inj H; subst H
           exact ⟨_, G92, upds_self _ _ ⟨rfl, trivial⟩, Gle.refl _, hS, hO⟩
         ·have H := ifF hb107 H; refine WL_guardN rfl hb107 rfl rfl rfl ?_; refine WL_guardN rfl hb107 rfl rfl rfl ?_; refine WL_guardN rfl hb107 rfl rfl rfl ?_; refine WL_val (rn_pickF (v := (.bool false)) rfl hb107 rfl) rfl ?_; refine WL_val (rn_move (v := (.bool false)) rfl) rfl ?_; refine WL_guardN rfl rfl rfl rfl rfl ?_; refine WL_val (rn_pickF (v := (.bool false)) rfl rfl rfl) rfl ?_; refine WL_val (rn_assign (v := (.bool false)) rfl) rfl ?_; refine WL_nil ?_
          have hO : Owns G92 w106 w0.heap.size ([⟨46, 5, 1, .slice (some ⟨b68, 0, none⟩) 1 1, [.int .i64 x0.Islets, .slice a1 n1 c1, .slice a2 n2 c2, .slice a3 n3 c3, .int .i64 (if IntKind.i64.wrap (x0.Wait + x4) < 40 then IntKind.i64.wrap (x0.Wait + x4) else 40)]⟩, ⟨46, 5, 1, .slice (some ⟨b65, 0, none⟩) 1 1, [.int .i64 x0.Islets, .slice a1 n1 c1, .slice a2 n2 c2, .slice ay73 ny73 cy73, .int .i64 x0.Wait]⟩]) := hO
          have H := Option.some.inj H; subst H
          exact ⟨_, G92, upds_self _ _ ⟨rfl, trivial⟩, Gle.refl _, hS, hO⟩
        ·have H := ifF hb104 H; refine WL_guardN rfl hb104 rfl rfl rfl ?_; refine WL_guardN rfl hb104 rfl rfl rfl ?_; refine WL_guardN rfl hb104 rfl rfl rfl ?_; refine WL_val (rn_pickF (v := (.bool false)) rfl hb104 rfl) rfl ?_; refine WL_val (rn_move (v := (.bool false)) rfl) rfl ?_; refine WL_guardN rfl rfl rfl rfl rfl ?_; refine WL_guardN rfl rfl rfl rfl rfl ?_; refine WL_guardN rfl rfl rfl rfl rfl ?_; refine WL_val (rn_pickF (v := (.bool false)) rfl rfl rfl) rfl ?_; refine WL_val (rn_move (v := (.bool false)) rfl) rfl ?_; refine WL_guardN rfl rfl rfl rfl rfl ?_; refine WL_val (rn_pickF (v := (.bool false)) rfl rfl rfl) rfl ?_; refine WL_val (rn_assign (v := (.bool false)) rfl) rfl ?_; refine WL_nil ?_
         have hO : Owns G92 w103 w0.heap.size ([⟨46, 5, 1, .slice (some ⟨b68, 0, none⟩) 1 1, [.int .i64 x0.Islets, .slice a1 n1 c1, .slice a2 n2 c2, .slice a3 n3 c3, .int .i64 (if IntKind.i64.wrap (x0.Wait + x4) < 40 then IntKind.i64.wrap (x0.Wait + x4) else 40)]⟩, ⟨46, 5, 1, .slice (some ⟨b65, 0, none⟩) 1 1, [.int .i64 x0.Islets, .slice a1 n1 c1, .slice a2 n2 c2, .slice ay73 ny73 cy73, .int .i64 x0.Wait]⟩]) := hO
         have H := Option.some.inj H; subst H
         exact ⟨_, G92, upds_self _ _ ⟨rfl, trivial⟩, Gle.refl _, hS, hO⟩
       ·rintro F w113 ⟨Fb, G114, rfl, leG114, hS, hO⟩
        refine WC_ret ?_
        have H : some q101 = some r := H
        have H := Option.some.inj H; subst H
        exact ⟨rfl, hS.below⟩
    ·refine WD_op rfl rfl (OpP_newO (v := fun b => .pointer (some ⟨b, 0, none⟩)) (cs := [.int .i64 0, .slice none 0 0, .slice none 0 0, .slice none 0 0, .int .i64 0]) (e := 46) (by kernel_rfl) hS.sat hO rfl 5 1 rfl (by decide) (fun b65 w66 hb hO => ?_))
     have hS := hS.keep hb; refine ⟨fun _ => ⟨hS.sat, trivial⟩, ?_⟩
     refine WD_op rfl rfl (OpP_newO (v := fun b => .pointer (some ⟨b, 0, none⟩)) (cs := [.int .i64 0, .slice none 0 0, .slice none 0 0, .slice none 0 0, .int .i64 0]) (e := 46) (by kernel_rfl) hS.sat hO rfl 5 1 rfl (by decide) (fun b68 w69 hb hO => ?_))
     have hS := hS.keep hb; refine ⟨fun _ => ⟨hS.sat, trivial⟩, ?_⟩; refine WD_op rfl rfl (OpP_store (vs := [.int .i64 x0.Islets, .slice a1 n1 c1, .slice a2 n2 c2, .slice a3 n3 c3, .int .i64 x0.Wait]) sz46 hS hO (k := 0) rfl rfl rfl rfl rfl (one_all rfl) (Nat.le_of_ble_eq_true rfl) (fun w71 hS hO => ?_))
     have hO : Owns G64 w71 w0.heap.size ([⟨46, 5, 1, .slice (some ⟨b68, 0, none⟩) 1 1, [.int .i64 x0.Islets, .slice a1 n1 c1, .slice a2 n2 c2, .slice a3 n3 c3, .int .i64 x0.Wait]⟩, ⟨46, 5, 1, .slice (some ⟨b65, 0, none⟩) 1 1, [.int .i64 0, .slice none 0 0, .slice none 0 0, .slice none 0 0, .int .i64 0]⟩, ⟨3, 1, nq28_1, .slice aq28_1 nq28_1 cq28_1, claq28_1⟩, ⟨3, 1, nq28_0, .slice aq28_0 nq28_0 cq28_0, claq28_0⟩]) := hO
     refine ⟨fun _ => ⟨hS.sat, trivial⟩, ?_⟩; refine WD_op rfl rfl (OpP_store (vs := [.int .i64 x0.Islets, .slice a1 n1 c1, .slice a2 n2 c2, .slice a3 n3 c3, .int .i64 x0.Wait]) sz46 hS hO (k := 1) rfl rfl rfl rfl rfl (one_all rfl) (Nat.le_of_ble_eq_true rfl) (fun w72 hS hO => ?_))
     have hO : Owns G64 w72 w0.heap.size ([⟨46, 5, 1, .slice (some ⟨b68, 0, none⟩) 1 1, [.int .i64 x0.Islets, .slice a1 n1 c1, .slice a2 n2 c2, .slice a3 n3 c3, .int .i64 x0.Wait]⟩, ⟨46, 5, 1, .slice (some ⟨b65, 0, none⟩) 1 1, [.int .i64 x0.Islets, .slice a1 n1 c1, .slice a2 n2 c2, .slice a3 n3 c3, .int .i64 x0.Wait]⟩, ⟨3, 1, nq28_1, .slice aq28_1 nq28_1 cq28_1, claq28_1⟩, ⟨3, 1, nq28_0, .slice aq28_0 nq28_0 cq28_0, claq28_0⟩]) := hO
     refine ⟨fun h => nomore (by kernel_rfl) h, ?_⟩
     refine WD_nil ?_; refine WC_seq ?_; refine WC_region ?_; refine WL_val (rn_fld fd46_3 rfl) rfl ?_
     have l1_3 := leG20.trans leG64
     refine WL_val (rn_load na44 rfl ((hS.sat.le l1_3).cell (hcb5 3 _ rfl))) rfl ?_; refine WL_val (rn_move (v := (.int .i64 x3)) rfl) rfl ?_; obtain ⟨y73, hy73, H⟩ := bnd H; obtain ⟨hl0, hl1, hl2, _⟩ := subL_some hy73
     have l0_3 := leG7.trans l1_3
     have hln := (h3.mono RTBaneTrip_mono l0_3).1
     have hnc := (h3.mono RTBaneTrip_mono l0_3).2.1.2
     obtain ⟨ay73, ny73, cy73, hsl, hsy73⟩ := RSl.sub (h3.mono RTBaneTrip_mono l0_3) hy73 rfl
     refine WL_val (v := (.slice ay73 ny73 cy73)) ((rn_sliceH sl44 rfl rfl (by omega) (by omega) hnc _).trans (congrArg (fun v => Result.ok (Next.value v) _) hsl)) rfl ?_
     refine WL_val (rn_fld fd46_3 rfl) rfl ?_; refine WL_op rfl (OpP_store (vs := [.slice ay73 ny73 cy73]) sz44 hS hO (k := 0) rfl rfl rfl rfl rfl (one_all rfl) (Nat.le_of_ble_eq_true rfl) (fun w74 hS hO => ?_))
     have hO : Owns G64 w74 w0.heap.size ([⟨46, 5, 1, .slice (some ⟨b68, 0, none⟩) 1 1, [.int .i64 x0.Islets, .slice a1 n1 c1, .slice a2 n2 c2, .slice ay73 ny73 cy73, .int .i64 x0.Wait]⟩, ⟨46, 5, 1, .slice (some ⟨b65, 0, none⟩) 1 1, [.int .i64 x0.Islets, .slice a1 n1 c1, .slice a2 n2 c2, .slice a3 n3 c3, .int .i64 x0.Wait]⟩, ⟨3, 1, nq28_1, .slice aq28_1 nq28_1 cq28_1, claq28_1⟩, ⟨3, 1, nq28_0, .slice aq28_0 nq28_0 cq28_0, claq28_0⟩]) := hO
     refine WL_nil ?_; refine WC_seq ?_; refine WC_region ?_; refine WL_val (rn_fld fd46_4 rfl) rfl ?_; refine WL_val (rn_load na3 rfl ((hS.sat.le l1_3).cell (hcb5 4 _ rfl))) rfl ?_; refine WL_val (rn_move (v := (.int .i64 x4)) rfl) rfl ?_; refine WL_val (rn_add rfl rfl) rfl ?_; refine WL_val (rn_min rfl rfl) rfl ?_; refine WL_val (rn_fld fd46_4 rfl) rfl ?_; refine WL_op rfl (OpP_store (vs := [.int .i64 (if IntKind.i64.wrap (x0.Wait + x4) < 40 then IntKind.i64.wrap (x0.Wait + x4) else 40)]) sz3 hS hO (k := 1) rfl rfl rfl rfl rfl (one_all rfl) (Nat.le_of_ble_eq_true rfl) (fun w75 hS hO => ?_))
     have hO : Owns G64 w75 w0.heap.size ([⟨46, 5, 1, .slice (some ⟨b68, 0, none⟩) 1 1, [.int .i64 x0.Islets, .slice a1 n1 c1, .slice a2 n2 c2, .slice ay73 ny73 cy73, .int .i64 x0.Wait]⟩, ⟨46, 5, 1, .slice (some ⟨b65, 0, none⟩) 1 1, [.int .i64 x0.Islets, .slice a1 n1 c1, .slice a2 n2 c2, .slice a3 n3 c3, .int .i64 (if IntKind.i64.wrap (x0.Wait + x4) < 40 then IntKind.i64.wrap (x0.Wait + x4) else 40)]⟩, ⟨3, 1, nq28_1, .slice aq28_1 nq28_1 cq28_1, claq28_1⟩, ⟨3, 1, nq28_0, .slice aq28_0 nq28_0 cq28_0, claq28_0⟩]) := hO
     refine WL_nil ?_; refine WC_seq ?_; refine WC_region ?_; refine WL_val (rn_loadA ag46 (cs := [.int .i64 x0.Islets, .slice a1 n1 c1, .slice a2 n2 c2, .slice a3 n3 c3, .int .i64 x0.Wait]) rfl rfl (fun j v hj => (hS.sat.le l1_3).cell (hcb5.drop_take 0 5 j v hj))) rfl ?_; refine WL_val (rn_move (v := (.slice a4 n4 c4)) rfl) rfl ?_; obtain ⟨y76, hy76, H⟩ := bnd H; refine WL_op rfl (OpP_callG cb39 (f39_ok (x0 := x0) (x1 := x1) hS.sat (h1.mono RInt_mono l0_3) (h2.mono RInt_mono l0_3) (h3.mono RTBaneTrip_mono l0_3) (h4.mono RInt_mono l0_3) hy76) rfl rfl (fun vy76 G78 w77 hg hvy76 => ?_)); obtain ⟨a79, n79, c79, ⟨⟩, h79⟩ := hvy76; have hS := hS.grow hg; have hO := hO.grow hg
     have leG78 := hg.le
     refine WL_val (rn_move (v := (.tuple #[.slice a79 n79 c79, .int .i64 y76.2])) rfl) rfl ?_; refine WL_val (rn_extract (v := (.slice a79 n79 c79)) rfl rfl) rfl ?_; refine WL_val (rn_extract (v := (.int .i64 y76.2)) rfl rfl) rfl ?_; refine WL_val (rn_assign (v := (.slice a79 n79 c79)) rfl) rfl ?_; refine WL_val (rn_assign (v := (.int .i64 y76.2)) rfl) rfl ?_; refine WL_nil ?_; refine WC_seq ?_; refine WC_region ?_
     have l1_4 := l1_3.trans leG78
     refine WL_val (rn_loadA ag46 (cs := [.int .i64 x0.Islets, .slice a1 n1 c1, .slice a2 n2 c2, .slice a3 n3 c3, .int .i64 x0.Wait]) rfl rfl (fun j v hj => (hS.sat.le l1_4).cell (hcb5.drop_take 0 5 j v hj))) rfl ?_; refine WL_val (rn_move (v := (.slice aq28_0 nq28_0 cq28_0)) rfl) rfl ?_; obtain ⟨G80, leG80, hS, hO, hfG80⟩ := hO.freezeS hS RInt_mono (k := 3) rfl (hq28_0.mono RInt_mono leG78) hnhq28_0; obtain ⟨y81, hy81, H⟩ := bnd H
     have l0_5 := (l0_3.trans leG78).trans leG80
     refine WL_op rfl (OpP_callG cb39 (f39_ok (x0 := (⟨x0.Islets, x0.Infested, x0.Clean, x0.Trips, x0.Wait⟩ : TBaneSea)) (x1 := q28.1) hS.sat (h1.mono RInt_mono l0_5) (h2.mono RInt_mono l0_5) (h3.mono RTBaneTrip_mono l0_5) hfG80 hy81) rfl rfl (fun vy81 G83 w82 hg hvy81 => ?_)); obtain ⟨a84, n84, c84, ⟨⟩, h84⟩ := hvy81; have hS := hS.grow hg; have hO := hO.grow hg
     have leG83 := hg.le
     refine WL_val (rn_move (v := (.tuple #[.slice a84 n84 c84, .int .i64 y81.2])) rfl) rfl ?_; refine WL_val (rn_extract (v := (.slice a84 n84 c84)) rfl rfl) rfl ?_; refine WL_val (rn_extract (v := (.int .i64 y81.2)) rfl rfl) rfl ?_; refine WL_val (rn_assign (v := (.slice a84 n84 c84)) rfl) rfl ?_; refine WL_val (rn_assign (v := (.int .i64 y81.2)) rfl) rfl ?_; refine WL_nil ?_; refine WC_seq ?_; refine WC_region ?_; refine WL_val (rn_loadA ag46 (cs := [.int .i64 x0.Islets, .slice a1 n1 c1, .slice a2 n2 c2, .slice ay73 ny73 cy73, .int .i64 x0.Wait]) rfl rfl (fun j v hj => own_sub hO (k := 0) rfl 0 5 j v hj)) rfl ?_; refine WL_val (rn_move (v := (.slice aq28_1 nq28_1 cq28_1)) rfl) rfl ?_
     have l3_6 := (leG78.trans leG80).trans leG83
     obtain ⟨G85, leG85, hS, hO, hfG85⟩ := hO.freezeS hS RInt_mono (k := 2) rfl (hq28_1.mono RInt_mono l3_6) hnhq28_1; obtain ⟨y86, hy86, H⟩ := bnd H
     have l0_7 := (l0_5.trans leG83).trans leG85
     have l3_7 := l3_6.trans leG85
     refine WL_op rfl (OpP_callG cb39 (f39_ok (x0 := (⟨x0.Islets, x0.Infested, x0.Clean, y73, x0.Wait⟩ : TBaneSea)) (x1 := q28.2) hS.sat (h1.mono RInt_mono l0_7) (h2.mono RInt_mono l0_7) (hsy73.mono RTBaneTrip_mono l3_7) hfG85 hy86) rfl rfl (fun vy86 G88 w87 hg hvy86 => ?_)); obtain ⟨a89, n89, c89, ⟨⟩, h89⟩ := hvy86; have hS := hS.grow hg; have hO := hO.grow hg
     have leG88 := hg.le
     refine WL_val (rn_move (v := (.tuple #[.slice a89 n89 c89, .int .i64 y86.2])) rfl) rfl ?_; refine WL_val (rn_extract (v := (.slice a89 n89 c89)) rfl rfl) rfl ?_; refine WL_val (rn_extract (v := (.int .i64 y86.2)) rfl rfl) rfl ?_; refine WL_val (rn_assign (v := (.slice a89 n89 c89)) rfl) rfl ?_; refine WL_val (rn_assign (v := (.int .i64 y86.2)) rfl) rfl ?_; refine WL_nil ?_; refine WC_seq ?_; refine WC_region ?_; refine WL_val (rn_loadA ag46 (cs := [.int .i64 x0.Islets, .slice a1 n1 c1, .slice a2 n2 c2, .slice a3 n3 c3, .int .i64 (if IntKind.i64.wrap (x0.Wait + x4) < 40 then IntKind.i64.wrap (x0.Wait + x4) else 40)]) rfl rfl (fun j v hj => own_sub hO (k := 1) rfl 0 5 j v hj)) rfl ?_; refine WL_val (rn_move (v := (.slice a4 n4 c4)) rfl) rfl ?_; obtain ⟨y90, hy90, H⟩ := bnd H
     have l0_8 := l0_7.trans leG88
     refine WL_op rfl (OpP_callG cb39 (f39_ok (x0 := (⟨x0.Islets, x0.Infested, x0.Clean, x0.Trips, if IntKind.i64.wrap (x0.Wait + x4) < 40 then IntKind.i64.wrap (x0.Wait + x4) else 40⟩ : TBaneSea)) (x1 := x1) hS.sat (h1.mono RInt_mono l0_8) (h2.mono RInt_mono l0_8) (h3.mono RTBaneTrip_mono l0_8) (h4.mono RInt_mono l0_8) hy90) rfl rfl (fun vy90 G92 w91 hg hvy90 => ?_)); obtain ⟨a93, n93, c93, ⟨⟩, h93⟩ := hvy90; have hS := hS.grow hg; have hO := hO.grow hg
     have leG92 := hg.le
     refine WL_val (rn_move (v := (.tuple #[.slice a93 n93 c93, .int .i64 y90.2])) rfl) rfl ?_; refine WL_val (rn_extract (v := (.slice a93 n93 c93)) rfl rfl) rfl ?_; refine WL_val (rn_extract (v := (.int .i64 y90.2)) rfl rfl) rfl ?_; refine WL_val (rn_assign (v := (.slice a93 n93 c93)) rfl) rfl ?_; refine WL_val (rn_assign (v := (.int .i64 y90.2)) rfl) rfl ?_; refine WL_nil ?_; refine WC_seq ?_; refine WC_seq ?_; obtain ⟨q94, hq94, H⟩ := bnd H; refine WC_cut (fun F w => ∃ (Fb : Fr), F = upds Fb [(16, .slice a79 n79 c79), (18, .slice a84 n84 c84), (20, .slice a89 n89 c89), (22, .slice a93 n93 c93), (139, .bool q94)] ∧ w91 = w) ?_ ?_
     ·have Hoq94 := H; have H := hq94; refine WC_region ?_; refine WL_val (rn_move (v := (.int .i64 y76.2)) rfl) rfl ?_; refine WL_val (rn_neq rfl rfl) rfl ?_; refine WL_val (rn_move (v := (.bool (y76.2 != 0))) rfl) rfl ?_
      rcases bcases (y76.2 != 0) with hb95 | hb95
      ·have H := ifT hb95 H; refine WL_guardN rfl hb95 rfl rfl rfl ?_; refine WL_guardN rfl hb95 rfl rfl rfl ?_; refine WL_val (rn_pickT (v := (.bool true)) rfl hb95 rfl) rfl ?_; refine WL_val (rn_move (v := (.bool true)) rfl) rfl ?_; refine WL_guardN rfl rfl rfl rfl rfl ?_; refine WL_guardN rfl rfl rfl rfl rfl ?_; refine WL_val (rn_pickT (v := (.bool true)) rfl rfl rfl) rfl ?_; refine WL_val (rn_move (v := (.bool true)) rfl) rfl ?_; refine WL_guardN rfl rfl rfl rfl rfl ?_; refine WL_guardN rfl rfl rfl rfl rfl ?_; refine WL_val (rn_pickT (v := (.bool true)) rfl rfl rfl) rfl ?_; refine WL_nil ?_; have H := Option.some.inj H; subst H
       exact ⟨_, upds_self _ _ ⟨rfl, rfl, rfl, rfl, rfl, trivial⟩, rfl⟩
      ·have H := ifF hb95 H; refine WL_guardY rfl hb95 rfl rfl ?_; refine WL_val (rn_move (v := (.int .i64 y81.2)) rfl) rfl ?_; refine WL_guardY rfl hb95 rfl rfl ?_; refine WL_val (rn_neq rfl rfl) rfl ?_; refine WL_val (rn_pickF (v := (.bool (y81.2 != 0))) rfl hb95 rfl) rfl ?_; refine WL_val (rn_move (v := (.bool (y81.2 != 0))) rfl) rfl ?_
       rcases bcases (y81.2 != 0) with hb96 | hb96
       ·have H := ifT hb96 H; refine WL_guardN rfl hb96 rfl rfl rfl ?_; refine WL_guardN rfl hb96 rfl rfl rfl ?_; refine WL_val (rn_pickT (v := (.bool true)) rfl hb96 rfl) rfl ?_; refine WL_val (rn_move (v := (.bool true)) rfl) rfl ?_; refine WL_guardN rfl rfl rfl rfl rfl ?_; refine WL_guardN rfl rfl rfl rfl rfl ?_; refine WL_val (rn_pickT (v := (.bool true)) rfl rfl rfl) rfl ?_; refine WL_nil ?_; have H := Option.some.inj H; subst H
        exact ⟨_, upds_self _ _ ⟨rfl, rfl, rfl, rfl, rfl, trivial⟩, rfl⟩
       ·have H := ifF hb96 H; refine WL_guardY rfl hb96 rfl rfl ?_; refine WL_val (rn_move (v := (.int .i64 y86.2)) rfl) rfl ?_; refine WL_guardY rfl hb96 rfl rfl ?_; refine WL_val (rn_neq rfl rfl) rfl ?_; refine WL_val (rn_pickF (v := (.bool (y86.2 != 0))) rfl hb96 rfl) rfl ?_; refine WL_val (rn_move (v := (.bool (y86.2 != 0))) rfl) rfl ?_
        rcases bcases (y86.2 != 0) with hb97 | hb97
        ·have H := ifT hb97 H; refine WL_guardN rfl hb97 rfl rfl rfl ?_; refine WL_guardN rfl hb97 rfl rfl rfl ?_; refine WL_val (rn_pickT (v := (.bool true)) rfl hb97 rfl) rfl ?_; refine WL_nil ?_; have H := Option.some.inj H; subst H
         exact ⟨_, upds_self _ _ ⟨rfl, rfl, rfl, rfl, rfl, trivial⟩, rfl⟩
        ·have H := ifF hb97 H; refine WL_guardY rfl hb97 rfl rfl ?_; refine WL_val (rn_move (v := (.int .i64 y90.2)) rfl) rfl ?_; refine WL_guardY rfl hb97 rfl rfl ?_; refine WL_val (rn_neq rfl rfl) rfl ?_; refine WL_val (rn_pickF (v := (.bool (y90.2 != 0))) rfl hb97 rfl) rfl ?_; refine WL_nil ?_; have H := Option.some.inj H; subst H
         exact ⟨_, upds_self _ _ ⟨rfl, rfl, rfl, rfl, rfl, trivial⟩, rfl⟩
     ·rintro F wl ⟨Fb, rfl, rfl⟩
      refine WC_cond rfl (fun hb100 => ?_) (fun hb100 => ?_)
      ·have H := ifT hb100 H; refine WC_seq ?_; refine WC_region ?_; refine WL_val (rn_assign (v := (.bool false)) rfl) rfl ?_; refine WL_nil ?_; refine WC_ret ?_
       have H : some false = some r := H
       have H := Option.some.inj H; subst H
       exact ⟨rfl, hS.below⟩
      ·have H := ifF hb100 H; refine WC_skip ?_; refine WC_seq ?_; obtain ⟨q101, hq101, H⟩ := bnd H; refine WC_cut (fun F w => ∃ (Fb : Fr) (G : Gm), F = upds Fb [(10, .bool q101)] ∧ Gle G92 G ∧ Since w0.heap.size G0 w0 G w ∧ Owns G w w0.heap.size [⟨46, 5, 1, .slice (some ⟨b68, 0, none⟩) 1 1, [.int .i64 x0.Islets, .slice a1 n1 c1, .slice a2 n2 c2, .slice ay73 ny73 cy73, .int .i64 x0.Wait]⟩, ⟨46, 5, 1, .slice (some ⟨b65, 0, none⟩) 1 1, [.int .i64 x0.Islets, .slice a1 n1 c1, .slice a2 n2 c2, .slice a3 n3 c3, .int .i64 (if IntKind.i64.wrap (x0.Wait + x4) < 40 then IntKind.i64.wrap (x0.Wait + x4) else 40)]⟩]) ?_ ?_
       ·have Hoq101 := H; have H := hq101; refine WC_region ?_; refine WL_val (rn_move (v := (.slice a79 n79 c79)) rfl) rfl ?_; refine WL_val (rn_move (v := (.slice a84 n84 c84)) rfl) rfl ?_; obtain ⟨y102, hy102, H⟩ := bnd H
        have l4_9 := (((leG80.trans leG83).trans leG85).trans leG88).trans leG92
        have l6_9 := (leG85.trans leG88).trans leG92
        refine WL_op rfl (OpP_callV cb40 (f40_ok (x0 := y76.1) (x1 := y81.1) hS.sat (h79.mono RInt_mono l4_9) (h84.mono RInt_mono l6_9) hy102) rfl rfl (fun w103 hb => ?_)); have hS := hS.keep hb; have hO := hO.below hb; refine WL_val (rn_move (v := (.bool y102)) rfl) rfl ?_
        rcases bcases y102 with hb104 | hb104
        ·have H := ifT hb104 H; refine WL_guardY rfl hb104 rfl rfl ?_; refine WL_val (rn_move (v := (.slice a79 n79 c79)) rfl) rfl ?_; refine WL_guardY rfl hb104 rfl rfl ?_; refine WL_val (rn_move (v := (.slice a89 n89 c89)) rfl) rfl ?_; refine WL_guardY rfl hb104 rfl rfl ?_; obtain ⟨y105, hy105, H⟩ := bnd H; refine WL_op rfl (OpP_callV cb40 (f40_ok (x0 := y76.1) (x1 := y86.1) hS.sat (h79.mono RInt_mono l4_9) (h89.mono RInt_mono leG92) hy105) rfl rfl (fun w106 hb => ?_)); have hS := hS.keep hb; have hO := hO.below hb; refine WL_val (rn_pickT (v := (.bool y105)) rfl hb104 rfl) rfl ?_; refine WL_val (rn_move (v := (.bool y105)) rfl) rfl ?_
         rcases bcases y105 with hb107 | hb107
         ·have H := ifT hb107 H; refine WL_guardY rfl hb107 rfl rfl ?_; refine WL_val (rn_move (v := (.slice a79 n79 c79)) rfl) rfl ?_; refine WL_guardY rfl hb107 rfl rfl ?_; refine WL_val (rn_move (v := (.slice a93 n93 c93)) rfl) rfl ?_; refine WL_guardY rfl hb107 rfl rfl ?_; obtain ⟨y108, hy108, H⟩ := bnd H; refine WL_op rfl (OpP_callV cb40 (f40_ok (x0 := y76.1) (x1 := y90.1) hS.sat (h79.mono RInt_mono l4_9) h93 hy108) rfl rfl (fun w109 hb => ?_)); have hS := hS.keep hb; have hO := hO.below hb; refine WL_val (rn_pickT (v := (.bool y108)) rfl hb107 rfl) rfl ?_; refine WL_val (rn_move (v := (.bool y108)) rfl) rfl ?_
          rcases bcases y108 with hb110 | hb110
          ·have H := ifT hb110 H; refine WL_guardY rfl hb110 rfl rfl ?_; obtain ⟨y111, hy111, H⟩ := bnd H; refine WL_op rfl (OpP_callV cb19 (f19_ok  hS.sat  hy111) rfl rfl (fun w112 hb => ?_)); have hS := hS.keep hb; have hO := hO.below hb; refine WL_val (rn_pickT (v := (.bool y111)) rfl hb110 rfl) rfl ?_; refine WL_val (rn_assign (v := (.bool y111)) rfl) rfl ?_; refine WL_nil ?_
           have hO : Owns G92 w112 w0.heap.size ([⟨46, 5, 1, .slice (some ⟨b68, 0, none⟩) 1 1, [.int .i64 x0.Islets, .slice a1 n1 c1, .slice a2 n2 c2, .slice ay73 ny73 cy73, .int .i64 x0.Wait]⟩, ⟨46, 5, 1, .slice (some ⟨b65, 0, none⟩) 1 1, [.int .i64 x0.Islets, .slice a1 n1 c1, .slice a2 n2 c2, .slice a3 n3 c3, .int .i64 (if IntKind.i64.wrap (x0.Wait + x4) < 40 then IntKind.i64.wrap (x0.Wait + x4) else 40)]⟩]) := hO
           have H := Option.some.inj H; subst H
           exact ⟨_, G92, upds_self _ _ ⟨rfl, trivial⟩, Gle.refl _, hS, hO⟩
          ·have H := ifF hb110 H; refine WL_guardN rfl hb110 rfl rfl rfl ?_; refine WL_val (rn_pickF (v := (.bool false)) rfl hb110 rfl) rfl ?_; refine WL_val (rn_assign (v := (.bool false)) rfl) rfl ?_; refine WL_nil ?_
           have hO : Owns G92 w109 w0.heap.size ([⟨46, 5, 1, .slice (some ⟨b68, 0, none⟩) 1 1, [.int .i64 x0.Islets, .slice a1 n1 c1, .slice a2 n2 c2, .slice ay73 ny73 cy73, .int .i64 x0.Wait]⟩, ⟨46, 5, 1, .slice (some ⟨b65, 0, none⟩) 1 1, [.int .i64 x0.Islets, .slice a1 n1 c1, .slice a2 n2 c2, .slice a3 n3 c3, .int .i64 (if IntKind.i64.wrap (x0.Wait + x4) < 40 then IntKind.i64.wrap (x0.Wait + x4) else 40)]⟩]) := hO
           have H := Option.some.inj H; subst H
           exact ⟨_, G92, upds_self _ _ ⟨rfl, trivial⟩, Gle.refl _, hS, hO⟩
         ·have H := ifF hb107 H; refine WL_guardN rfl hb107 rfl rfl rfl ?_; refine WL_guardN rfl hb107 rfl rfl rfl ?_; refine WL_guardN rfl hb107 rfl rfl rfl ?_; refine WL_val (rn_pickF (v := (.bool false)) rfl hb107 rfl) rfl ?_; refine WL_val (rn_move (v := (.bool false)) rfl) rfl ?_; refine WL_guardN rfl rfl rfl rfl rfl ?_; refine WL_val (rn_pickF (v := (.bool false)) rfl rfl rfl) rfl ?_; refine WL_val (rn_assign (v := (.bool false)) rfl) rfl ?_; refine WL_nil ?_
          have hO : Owns G92 w106 w0.heap.size ([⟨46, 5, 1, .slice (some ⟨b68, 0, none⟩) 1 1, [.int .i64 x0.Islets, .slice a1 n1 c1, .slice a2 n2 c2, .slice ay73 ny73 cy73, .int .i64 x0.Wait]⟩, ⟨46, 5, 1, .slice (some ⟨b65, 0, none⟩) 1 1, [.int .i64 x0.Islets, .slice a1 n1 c1, .slice a2 n2 c2, .slice a3 n3 c3, .int .i64 (if IntKind.i64.wrap (x0.Wait + x4) < 40 then IntKind.i64.wrap (x0.Wait + x4) else 40)]⟩]) := hO
          have H := Option.some.inj H; subst H
          exact ⟨_, G92, upds_self _ _ ⟨rfl, trivial⟩, Gle.refl _, hS, hO⟩
        ·have H := ifF hb104 H; refine WL_guardN rfl hb104 rfl rfl rfl ?_; refine WL_guardN rfl hb104 rfl rfl rfl ?_; refine WL_guardN rfl hb104 rfl rfl rfl ?_; refine WL_val (rn_pickF (v := (.bool false)) rfl hb104 rfl) rfl ?_; refine WL_val (rn_move (v := (.bool false)) rfl) rfl ?_; refine WL_guardN rfl rfl rfl rfl rfl ?_; refine WL_guardN rfl rfl rfl rfl rfl ?_; refine WL_guardN rfl rfl rfl rfl rfl ?_; refine WL_val (rn_pickF (v := (.bool false)) rfl rfl rfl) rfl ?_; refine WL_val (rn_move (v := (.bool false)) rfl) rfl ?_; refine WL_guardN rfl rfl rfl rfl rfl ?_; refine WL_val (rn_pickF (v := (.bool false)) rfl rfl rfl) rfl ?_; refine WL_val (rn_assign (v := (.bool false)) rfl) rfl ?_; refine WL_nil ?_
         have hO : Owns G92 w103 w0.heap.size ([⟨46, 5, 1, .slice (some ⟨b68, 0, none⟩) 1 1, [.int .i64 x0.Islets, .slice a1 n1 c1, .slice a2 n2 c2, .slice ay73 ny73 cy73, .int .i64 x0.Wait]⟩, ⟨46, 5, 1, .slice (some ⟨b65, 0, none⟩) 1 1, [.int .i64 x0.Islets, .slice a1 n1 c1, .slice a2 n2 c2, .slice a3 n3 c3, .int .i64 (if IntKind.i64.wrap (x0.Wait + x4) < 40 then IntKind.i64.wrap (x0.Wait + x4) else 40)]⟩]) := hO
         have H := Option.some.inj H; subst H
         exact ⟨_, G92, upds_self _ _ ⟨rfl, trivial⟩, Gle.refl _, hS, hO⟩
       ·rintro F w113 ⟨Fb, G114, rfl, leG114, hS, hO⟩
        refine WC_ret ?_
        have H : some q101 = some r := H
        have H := Option.some.inj H; subst H
        exact ⟨rfl, hS.below⟩
end Go.Proofs.Ytgplafckddpnkaa
