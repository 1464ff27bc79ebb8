/-
  The walks: each Go function computes its plain function (printed by a program of ours).
-/
import Derived.Test.YtgplafckddpnkaaRd
import Derived.Test.YtgplafckddpnkaaIt
import Derived.Test.YtgplafckddpnkaaP12W4
namespace Go.Proofs.Ytgplafckddpnkaa
open Go.RowKit
set_option linter.unusedVariables false

set_option maxRecDepth 20000
set_option linter.unusedVariables false
set_option maxHeartbeats 1000000 in
theorem f12_ok {G0 : Gm} {w0 : World} (hS0 : Sat G0 w0) {x0 : TBaneSea} {a1 : Option Addr} {n1 c1 : Nat} {a2 : Option Addr} {n2 c2 : Nat} {a3 : Option Addr} {n3 c3 : Nat} {x1 : (List Int)} {a4 : Option Addr} {n4 c4 : Nat} {x2 : (List Bool)} {a5 : Option Addr} {n5 c5 : Nat} {x3 : Int} {x4 : (List Int)} {a6 : Option Addr} {n6 c6 : Nat} (h1 : RSl RInt 1 G0 a1 n1 c1 x0.Infested) (h2 : RSl RInt 1 G0 a2 n2 c2 x0.Clean) (h3 : RSl RTBaneTrip 4 G0 a3 n3 c3 x0.Trips) (h4 : RSl RInt 1 G0 a4 n4 c4 x1) (h5 : RSl RBool 1 G0 a5 n5 c5 x2) (h6 : RSl RInt 1 G0 a6 n6 c6 x4) {r : Bool} (H : f12 x0 x1 x2 x3 x4 = some r) :
  Calls Try.prog 12 #[.agg #[.int .i64 x0.Islets, .slice a1 n1 c1, .slice a2 n2 c2, .slice a3 n3 c3, .int .i64 x0.Wait], .slice a4 n4 c4, .slice a5 n5 c5, .int .i64 x3, .slice a6 n6 c6] w0 (RetV w0 (.bool r)) := by
 have hS := Since.start hS0
 have hO : Owns G0 w0 w0.heap.size [] := Owns.nil (Nat.le_refl _)
 unfold f12 at H
 refine enter1 (N := 207) (shutV _ _) Try.func12 rfl rfl rfl rfl ?_; refine WC_seq ?_; refine WC_region ?_; refine WL_op rfl (OpP_newF (v := fun b => .pointer (some ⟨b, 0, none⟩)) (cs := [.int .i64 x0.Islets, .slice a1 n1 c1, .slice a2 n2 c2, .slice a3 n3 c3, .int .i64 x0.Wait]) (e := 46) (rn_boxA rfl) hS.sat rfl (fun b7 G9 w8 hg hcb7 => ?_)); have hS := hS.grow hg; have hO := hO.grow hg
 have leG9 := hg.le
 refine WL_val (rn_assign (v := (.bool false)) rfl) rfl ?_; refine WL_nil ?_; refine WC_seq ?_; refine WC_seq ?_; obtain ⟨q10, hq10, H⟩ := bnd H; refine WC_cut (fun F w => ∃ (Fb : Fr) (G : Gm), F = upds Fb [(1, .slice a4 n4 c4), (2, .slice a5 n5 c5), (3, .int .i64 x3), (4, .slice a6 n6 c6), (5, .pointer (some ⟨b7, 0, none⟩)), (52, .bool q10)] ∧ Gle G9 G ∧ Since w0.heap.size G0 w0 G w ∧ Owns G w w0.heap.size []) ?_ ?_
 ·have Hoq10 := H; have H := hq10; refine WC_region ?_; refine WL_val (rn_loadA ag46 (cs := [.int .i64 x0.Islets, .slice a1 n1 c1, .slice a2 n2 c2, .slice a3 n3 c3, .int .i64 x0.Wait]) rfl rfl (fun j v hj => hS.sat.cell (hcb7.drop_take 0 5 j v hj))) rfl ?_; obtain ⟨y11, hy11, H⟩ := bnd H; refine WL_op rfl (OpP_callV cb27 (f27_ok (x0 := x0) hS.sat (h1.mono RInt_mono leG9) (h2.mono RInt_mono leG9) (h3.mono RTBaneTrip_mono leG9) hy11) rfl rfl (fun w12 hb => ?_)); have hS := hS.keep hb; have hO := hO.below hb; refine WL_val (rn_not rfl) rfl ?_; refine WL_val (rn_move (v := (.bool (!y11))) rfl) rfl ?_
  rcases bcases (!y11) with hb13 | hb13
  ·have H := ifT hb13 H; refine WL_guardN rfl hb13 rfl rfl rfl ?_; refine WL_guardN rfl hb13 rfl rfl rfl ?_; refine WL_guardN rfl hb13 rfl rfl rfl ?_; refine WL_val (rn_pickT (v := (.bool true)) rfl hb13 rfl) rfl ?_; refine WL_val (rn_move (v := (.bool true)) rfl) rfl ?_; refine WL_guardN rfl rfl rfl rfl rfl ?_; refine WL_guardN rfl rfl rfl rfl rfl ?_; refine WL_guardN rfl rfl rfl rfl rfl ?_; refine WL_val (rn_pickT (v := (.bool true)) rfl rfl rfl) rfl ?_; refine WL_val (rn_move (v := (.bool true)) rfl) rfl ?_; refine WL_guardN rfl rfl rfl rfl rfl ?_; refine WL_guardN rfl rfl rfl rfl rfl ?_; refine WL_guardN rfl rfl rfl rfl rfl ?_; refine WL_guardN rfl rfl rfl rfl rfl ?_; refine WL_val (rn_pickT (v := (.bool true)) rfl rfl rfl) rfl ?_; refine WL_val (rn_move (v := (.bool true)) rfl) rfl ?_; refine WL_guardN rfl rfl rfl rfl rfl ?_; refine WL_guardN rfl rfl rfl rfl rfl ?_; refine WL_guardN rfl rfl rfl rfl rfl ?_; refine WL_guardN rfl rfl rfl rfl rfl ?_; refine WL_guardN rfl rfl rfl rfl rfl ?_; refine WL_guardN rfl rfl rfl rfl rfl ?_; refine WL_val (rn_pickT (v := (.bool true)) rfl rfl rfl) rfl ?_; refine WL_val (rn_move (v := (.bool true)) rfl) rfl ?_; refine WL_guardN rfl rfl rfl rfl rfl ?_; refine WL_guardN rfl rfl rfl rfl rfl ?_; refine WL_guardN rfl rfl rfl rfl rfl ?_; refine WL_guardN rfl rfl rfl rfl rfl ?_; refine WL_val (rn_pickT (v := (.bool true)) rfl rfl rfl) rfl ?_; refine WL_nil ?_
   have hO : Owns G9 w12 w0.heap.size ([]) := hO
   have H := Option.some.inj H; subst H
   exact ⟨_, G9, upds_self _ _ ⟨rfl, rfl, rfl, rfl, rfl, rfl, trivial⟩, Gle.refl _, hS, hO⟩
  ·have H := ifF hb13 H; refine WL_guardY rfl hb13 rfl rfl ?_; refine WL_val (rn_move (v := (.slice a4 n4 c4)) rfl) rfl ?_; refine WL_guardY rfl hb13 rfl rfl ?_; refine WL_val (rn_len sl25 rfl rfl (h4.mono RInt_mono leG9).1) rfl ?_; refine WL_guardY rfl hb13 rfl rfl ?_; refine WL_val (rn_gtr rfl rfl) rfl ?_; refine WL_val (rn_pickF (v := (.bool (decide (12 < (x1.length : Int))))) rfl hb13 rfl) rfl ?_; refine WL_val (rn_move (v := (.bool (decide (12 < (x1.length : Int))))) rfl) rfl ?_
   rcases bcases (decide (12 < (x1.length : Int))) with hb14 | hb14
   ·have H := ifT hb14 H; refine WL_guardN rfl hb14 rfl rfl rfl ?_; refine WL_guardN rfl hb14 rfl rfl rfl ?_; refine WL_guardN rfl hb14 rfl rfl rfl ?_; refine WL_val (rn_pickT (v := (.bool true)) rfl hb14 rfl) rfl ?_; refine WL_val (rn_move (v := (.bool true)) rfl) rfl ?_; refine WL_guardN rfl rfl rfl rfl rfl ?_; refine WL_guardN rfl rfl rfl rfl rfl ?_; refine WL_guardN rfl rfl rfl rfl rfl ?_; refine WL_guardN rfl rfl rfl rfl rfl ?_; refine WL_val (rn_pickT (v := (.bool true)) rfl rfl rfl) rfl ?_; refine WL_val (rn_move (v := (.bool true)) rfl) rfl ?_; refine WL_guardN rfl rfl rfl rfl rfl ?_; refine WL_guardN rfl rfl rfl rfl rfl ?_; refine WL_guardN rfl rfl rfl rfl rfl ?_; refine WL_guardN rfl rfl rfl rfl rfl ?_; refine WL_guardN rfl rfl rfl rfl rfl ?_; refine WL_guardN rfl rfl rfl rfl rfl ?_; refine WL_val (rn_pickT (v := (.bool true)) rfl rfl rfl) rfl ?_; refine WL_val (rn_move (v := (.bool true)) rfl) rfl ?_; refine WL_guardN rfl rfl rfl rfl rfl ?_; refine WL_guardN rfl rfl rfl rfl rfl ?_; refine WL_guardN rfl rfl rfl rfl rfl ?_; refine WL_guardN rfl rfl rfl rfl rfl ?_; refine WL_val (rn_pickT (v := (.bool true)) rfl rfl rfl) rfl ?_; refine WL_nil ?_
    have hO : Owns G9 w12 w0.heap.size ([]) := hO
    have H := Option.some.inj H; subst H
    exact ⟨_, G9, upds_self _ _ ⟨rfl, rfl, rfl, rfl, rfl, rfl, trivial⟩, Gle.refl _, hS, hO⟩
   ·have H := ifF hb14 H; refine WL_guardY rfl hb14 rfl rfl ?_; refine WL_val (rn_move (v := (.slice a6 n6 c6)) rfl) rfl ?_; refine WL_guardY rfl hb14 rfl rfl ?_; refine WL_val (rn_len sl25 rfl rfl (h6.mono RInt_mono leG9).1) rfl ?_; refine WL_guardY rfl hb14 rfl rfl ?_; refine WL_val (rn_gtr rfl rfl) rfl ?_; refine WL_val (rn_pickF (v := (.bool (decide (12 < (x4.length : Int))))) rfl hb14 rfl) rfl ?_; refine WL_val (rn_move (v := (.bool (decide (12 < (x4.length : Int))))) rfl) rfl ?_
    rcases bcases (decide (12 < (x4.length : Int))) with hb15 | hb15
    ·have H := ifT hb15 H; refine WL_guardN rfl hb15 rfl rfl rfl ?_; refine WL_guardN rfl hb15 rfl rfl rfl ?_; refine WL_guardN rfl hb15 rfl rfl rfl ?_; refine WL_guardN rfl hb15 rfl rfl rfl ?_; refine WL_val (rn_pickT (v := (.bool true)) rfl hb15 rfl) rfl ?_; refine WL_val (rn_move (v := (.bool true)) rfl) rfl ?_; refine WL_guardN rfl rfl rfl rfl rfl ?_; refine WL_guardN rfl rfl rfl rfl rfl ?_; refine WL_guardN rfl rfl rfl rfl rfl ?_; refine WL_guardN rfl rfl rfl rfl rfl ?_; refine WL_guardN rfl rfl rfl rfl rfl ?_; refine WL_guardN rfl rfl rfl rfl rfl ?_; refine WL_val (rn_pickT (v := (.bool true)) rfl rfl rfl) rfl ?_; refine WL_val (rn_move (v := (.bool true)) rfl) rfl ?_; refine WL_guardN rfl rfl rfl rfl rfl ?_; refine WL_guardN rfl rfl rfl rfl rfl ?_; refine WL_guardN rfl rfl rfl rfl rfl ?_; refine WL_guardN rfl rfl rfl rfl rfl ?_; refine WL_val (rn_pickT (v := (.bool true)) rfl rfl rfl) rfl ?_; refine WL_nil ?_
     have hO : Owns G9 w12 w0.heap.size ([]) := hO
     have H := Option.some.inj H; subst H
     exact ⟨_, G9, upds_self _ _ ⟨rfl, rfl, rfl, rfl, rfl, rfl, trivial⟩, Gle.refl _, hS, hO⟩
    ·have H := ifF hb15 H; refine WL_guardY rfl hb15 rfl rfl ?_; refine WL_val (rn_loadA ag46 (cs := [.int .i64 x0.Islets, .slice a1 n1 c1, .slice a2 n2 c2, .slice a3 n3 c3, .int .i64 x0.Wait]) rfl rfl (fun j v hj => hS.sat.cell (hcb7.drop_take 0 5 j v hj))) rfl ?_; refine WL_guardY rfl hb15 rfl rfl ?_; refine WL_val (rn_move (v := (.slice a4 n4 c4)) rfl) rfl ?_; refine WL_guardY rfl hb15 rfl rfl ?_; obtain ⟨y16, hy16, H⟩ := bnd H; refine WL_op rfl (OpP_callV cb30 (f30_ok (x0 := x0) (x1 := x1) hS.sat (h1.mono RInt_mono leG9) (h2.mono RInt_mono leG9) (h3.mono RTBaneTrip_mono leG9) (h4.mono RInt_mono leG9) hy16) rfl rfl (fun w17 hb => ?_)); have hS := hS.keep hb; have hO := hO.below hb; refine WL_guardY rfl hb15 rfl rfl ?_; refine WL_val (rn_neq rfl rfl) rfl ?_; refine WL_val (rn_pickF (v := (.bool (y16 != 0))) rfl hb15 rfl) rfl ?_; refine WL_val (rn_move (v := (.bool (y16 != 0))) rfl) rfl ?_
     rcases bcases (y16 != 0) with hb18 | hb18
     ·have H := ifT hb18 H; refine WL_guardN rfl hb18 rfl rfl rfl ?_; refine WL_guardN rfl hb18 rfl rfl rfl ?_; refine WL_guardN rfl hb18 rfl rfl rfl ?_; refine WL_guardN rfl hb18 rfl rfl rfl ?_; refine WL_guardN rfl hb18 rfl rfl rfl ?_; refine WL_guardN rfl hb18 rfl rfl rfl ?_; refine WL_val (rn_pickT (v := (.bool true)) rfl hb18 rfl) rfl ?_; refine WL_val (rn_move (v := (.bool true)) rfl) rfl ?_; refine WL_guardN rfl rfl rfl rfl rfl ?_; refine WL_guardN rfl rfl rfl rfl rfl ?_; refine WL_guardN rfl rfl rfl rfl rfl ?_; refine WL_guardN rfl rfl rfl rfl rfl ?_; refine WL_val (rn_pickT (v := (.bool true)) rfl rfl rfl) rfl ?_; refine WL_nil ?_
      have hO : Owns G9 w17 w0.heap.size ([]) := hO
      have H := Option.some.inj H; subst H
      exact ⟨_, G9, upds_self _ _ ⟨rfl, rfl, rfl, rfl, rfl, rfl, trivial⟩, Gle.refl _, hS, hO⟩
     ·have H := ifF hb18 H; refine WL_guardY rfl hb18 rfl rfl ?_; refine WL_val (rn_move (v := (.slice a5 n5 c5)) rfl) rfl ?_; refine WL_guardY rfl hb18 rfl rfl ?_; refine WL_val (rn_len sl79 rfl rfl (h5.mono RBool_mono leG9).1) rfl ?_; refine WL_guardY rfl hb18 rfl rfl ?_; refine WL_val (rn_fld fd46_3 rfl) rfl ?_; refine WL_guardY rfl hb18 rfl rfl ?_; refine WL_val (rn_load na44 rfl (hS.sat.cell (hcb7 3 _ rfl))) rfl ?_; refine WL_guardY rfl hb18 rfl rfl ?_; refine WL_val (rn_len sl44 rfl rfl (h3.mono RTBaneTrip_mono leG9).1) rfl ?_; refine WL_guardY rfl hb18 rfl rfl ?_; refine WL_val (rn_neq rfl rfl) rfl ?_; refine WL_val (rn_pickF (v := (.bool ((x2.length : Int) != (x0.Trips.length : Int)))) rfl hb18 rfl) rfl ?_; refine WL_val (rn_move (v := (.bool ((x2.length : Int) != (x0.Trips.length : Int)))) rfl) rfl ?_
      rcases bcases ((x2.length : Int) != (x0.Trips.length : Int)) with hb19 | hb19
      ·have H := ifT hb19 H; refine WL_guardN rfl hb19 rfl rfl rfl ?_; refine WL_guardN rfl hb19 rfl rfl rfl ?_; refine WL_guardN rfl hb19 rfl rfl rfl ?_; refine WL_guardN rfl hb19 rfl rfl rfl ?_; refine WL_val (rn_pickT (v := (.bool true)) rfl hb19 rfl) rfl ?_; refine WL_nil ?_
       have hO : Owns G9 w17 w0.heap.size ([]) := hO
       have H := Option.some.inj H; subst H
       exact ⟨_, G9, upds_self _ _ ⟨rfl, rfl, rfl, rfl, rfl, rfl, trivial⟩, Gle.refl _, hS, hO⟩
      ·have H := ifF hb19 H; refine WL_guardY rfl hb19 rfl rfl ?_; refine WL_val (rn_loadA ag46 (cs := [.int .i64 x0.Islets, .slice a1 n1 c1, .slice a2 n2 c2, .slice a3 n3 c3, .int .i64 x0.Wait]) rfl rfl (fun j v hj => hS.sat.cell (hcb7.drop_take 0 5 j v hj))) rfl ?_; refine WL_guardY rfl hb19 rfl rfl ?_; refine WL_val (rn_move (v := (.int .i64 x3)) rfl) rfl ?_; refine WL_guardY rfl hb19 rfl rfl ?_; obtain ⟨y20, hy20, H⟩ := bnd H; refine WL_op rfl (OpP_callV cb31 (f31_ok (x0 := x0) (x1 := x3) hS.sat (h1.mono RInt_mono leG9) (h2.mono RInt_mono leG9) (h3.mono RTBaneTrip_mono leG9) hy20) rfl rfl (fun w21 hb => ?_)); have hS := hS.keep hb; have hO := hO.below hb; refine WL_guardY rfl hb19 rfl rfl ?_; refine WL_val (rn_not rfl) rfl ?_; refine WL_val (rn_pickF (v := (.bool (!y20))) rfl hb19 rfl) rfl ?_; refine WL_nil ?_
       have hO : Owns G9 w21 w0.heap.size ([]) := hO
       have H := Option.some.inj H; subst H
       exact ⟨_, G9, upds_self _ _ ⟨rfl, rfl, rfl, rfl, rfl, rfl, trivial⟩, Gle.refl _, hS, hO⟩
 ·rintro F w22 ⟨Fb, G23, rfl, leG23, hS, hO⟩
  refine WC_cond rfl (fun hb24 => ?_) (fun hb24 => ?_)
  ·have H := ifT hb24 H; refine WC_seq ?_; refine WC_region ?_; obtain ⟨y25, hy25, H⟩ := bnd H; refine WL_op rfl (OpP_callV cb19 (f19_ok  hS.sat  hy25) rfl rfl (fun w26 hb => ?_)); have hS := hS.keep hb; have hO := hO.below hb; refine WL_val (rn_assign (v := (.bool y25)) rfl) rfl ?_; refine WL_nil ?_; refine WC_ret ?_
   have H : some y25 = some r := H
   have H := Option.some.inj H; subst H
   exact ⟨rfl, hS.below⟩
  ·have H := ifF hb24 H; refine WC_skip ?_; refine WC_seq ?_; refine WC_region ?_; refine WL_val (rn_loadA ag46 (cs := [.int .i64 x0.Islets, .slice a1 n1 c1, .slice a2 n2 c2, .slice a3 n3 c3, .int .i64 x0.Wait]) rfl rfl (fun j v hj => (hS.sat.le leG23).cell (hcb7.drop_take 0 5 j v hj))) rfl ?_; refine WL_val (rn_move (v := (.slice a4 n4 c4)) rfl) rfl ?_; obtain ⟨y27, hy27, H⟩ := bnd H
   have l0_2 := leG9.trans leG23
   refine WL_op rfl (OpP_callG cb39 (f39_ok (x0 := x0) (x1 := x1) hS.sat (h1.mono RInt_mono l0_2) (h2.mono RInt_mono l0_2) (h3.mono RTBaneTrip_mono l0_2) (h4.mono RInt_mono l0_2) hy27) rfl rfl (fun vy27 G29 w28 hg hvy27 => ?_)); obtain ⟨a30, n30, c30, ⟨⟩, h30⟩ := hvy27; have hS := hS.grow hg; have hO := hO.grow hg
   have leG29 := hg.le
   refine WL_val (rn_move (v := (.tuple #[.slice a30 n30 c30, .int .i64 y27.2])) rfl) rfl ?_; refine WL_val (rn_extract (v := (.slice a30 n30 c30)) rfl rfl) rfl ?_; refine WL_val (rn_extract (v := (.int .i64 y27.2)) rfl rfl) rfl ?_; refine WL_val (rn_assign (v := (.slice a30 n30 c30)) rfl) rfl ?_; refine WL_val (rn_assign (v := (.int .i64 y27.2)) rfl) rfl ?_; refine WL_nil ?_; refine WC_seq ?_; refine WC_region ?_
   have l1_3 := leG23.trans leG29
   refine WL_val (rn_loadA ag46 (cs := [.int .i64 x0.Islets, .slice a1 n1 c1, .slice a2 n2 c2, .slice a3 n3 c3, .int .i64 x0.Wait]) rfl rfl (fun j v hj => (hS.sat.le l1_3).cell (hcb7.drop_take 0 5 j v hj))) rfl ?_; refine WL_val (rn_move (v := (.slice a4 n4 c4)) rfl) rfl ?_; refine WL_val (rn_move (v := (.slice a5 n5 c5)) rfl) rfl ?_; obtain ⟨y31, hy31, H⟩ := bnd H
   have l0_3 := l0_2.trans leG29
   refine WL_op rfl (OpP_callG cb50 (f50_ok (x0 := x0) (x1 := x1) (x2 := x2) hS.sat (h1.mono RInt_mono l0_3) (h2.mono RInt_mono l0_3) (h3.mono RTBaneTrip_mono l0_3) (h4.mono RInt_mono l0_3) (h5.mono RBool_mono l0_3) hy31) rfl rfl (fun vy31 G33 w32 hg hvy31 => ?_)); obtain ⟨a34, n34, c34, ⟨⟩, h34⟩ := hvy31; have hS := hS.grow hg; have hO := hO.grow hg
   have leG33 := hg.le
   refine WL_val (rn_move (v := (.tuple #[.slice a34 n34 c34, .int .i64 y31.2])) rfl) rfl ?_; refine WL_val (rn_extract (v := (.slice a34 n34 c34)) rfl rfl) rfl ?_; refine WL_val (rn_extract (v := (.int .i64 y31.2)) rfl rfl) rfl ?_; refine WL_val (rn_assign (v := (.slice a34 n34 c34)) rfl) rfl ?_; refine WL_val (rn_assign (v := (.int .i64 y31.2)) rfl) rfl ?_; refine WL_nil ?_; refine WC_seq ?_; refine WC_region ?_
   have l1_4 := l1_3.trans leG33
   refine WL_val (rn_loadA ag46 (cs := [.int .i64 x0.Islets, .slice a1 n1 c1, .slice a2 n2 c2, .slice a3 n3 c3, .int .i64 x0.Wait]) rfl rfl (fun j v hj => (hS.sat.le l1_4).cell (hcb7.drop_take 0 5 j v hj))) rfl ?_; refine WL_val (rn_move (v := (.slice a4 n4 c4)) rfl) rfl ?_; refine WL_val (rn_move (v := (.int .i64 x3)) rfl) rfl ?_; obtain ⟨y35, hy35, H⟩ := bnd H
   have l0_4 := l0_3.trans leG33
   refine WL_op rfl (OpP_callG cb29 (f29_ok (x0 := x0) (x1 := x1) (x2 := x3) hS.sat (h1.mono RInt_mono l0_4) (h2.mono RInt_mono l0_4) (h3.mono RTBaneTrip_mono l0_4) (h4.mono RInt_mono l0_4) hy35) rfl rfl (fun vy35 G37 w36 hg hvy35 => ?_)); obtain ⟨a38, n38, c38, ⟨⟩, h38⟩ := hvy35; have hS := hS.grow hg; have hO := hO.grow hg
   have leG37 := hg.le
   refine WL_val (rn_move (v := (.tuple #[.slice a38 n38 c38, .int .i64 y35.2])) rfl) rfl ?_; refine WL_val (rn_extract (v := (.slice a38 n38 c38)) rfl rfl) rfl ?_; refine WL_val (rn_extract (v := (.int .i64 y35.2)) rfl rfl) rfl ?_; refine WL_val (rn_assign (v := (.slice a38 n38 c38)) rfl) rfl ?_; refine WL_val (rn_assign (v := (.int .i64 y35.2)) rfl) rfl ?_; refine WL_nil ?_; refine WC_seq ?_; refine WC_seq ?_; obtain ⟨q39, hq39, H⟩ := bnd H; refine WC_cut (fun F w => ∃ (Fb : Fr), F = upds Fb [(1, .slice a4 n4 c4), (3, .int .i64 x3), (4, .slice a6 n6 c6), (5, .pointer (some ⟨b7, 0, none⟩)), (11, .slice a30 n30 c30), (13, .slice a34 n34 c34), (15, .slice a38 n38 c38), (16, .int .i64 y35.2), (93, .bool q39)] ∧ w36 = w) ?_ ?_
   ·have Hoq39 := H; have H := hq39; refine WC_region ?_; refine WL_val (rn_move (v := (.int .i64 y27.2)) rfl) rfl ?_; refine WL_val (rn_neq rfl rfl) rfl ?_; refine WL_val (rn_move (v := (.bool (y27.2 != 0))) rfl) rfl ?_
    rcases bcases (y27.2 != 0) with hb40 | hb40
    ·have H := ifT hb40 H; refine WL_guardN rfl hb40 rfl rfl rfl ?_; refine WL_guardN rfl hb40 rfl rfl rfl ?_; refine WL_val (rn_pickT (v := (.bool true)) rfl hb40 rfl) rfl ?_; refine WL_val (rn_move (v := (.bool true)) rfl) rfl ?_; refine WL_guardN rfl rfl rfl rfl rfl ?_; refine WL_guardN rfl rfl rfl rfl rfl ?_; refine WL_guardN rfl rfl rfl rfl rfl ?_; refine WL_guardN rfl rfl rfl rfl rfl ?_; refine WL_guardN rfl rfl rfl rfl rfl ?_; refine WL_val (rn_pickT (v := (.bool true)) rfl rfl rfl) rfl ?_; refine WL_val (rn_move (v := (.bool true)) rfl) rfl ?_; refine WL_guardN rfl rfl rfl rfl rfl ?_; refine WL_guardN rfl rfl rfl rfl rfl ?_; refine WL_guardN rfl rfl rfl rfl rfl ?_; refine WL_guardN rfl rfl rfl rfl rfl ?_; refine WL_guardN rfl rfl rfl rfl rfl ?_; refine WL_val (rn_pickT (v := (.bool true)) rfl rfl rfl) rfl ?_; refine WL_nil ?_; have H := Option.some.inj H; subst H
     exact ⟨_, upds_self _ _ ⟨rfl, rfl, rfl, rfl, rfl, rfl, rfl, rfl, rfl, trivial⟩, rfl⟩
    ·have H := ifF hb40 H; refine WL_guardY rfl hb40 rfl rfl ?_; refine WL_val (rn_move (v := (.int .i64 y31.2)) rfl) rfl ?_; refine WL_guardY rfl hb40 rfl rfl ?_; refine WL_val (rn_neq rfl rfl) rfl ?_; refine WL_val (rn_pickF (v := (.bool (y31.2 != 0))) rfl hb40 rfl) rfl ?_; refine WL_val (rn_move (v := (.bool (y31.2 != 0))) rfl) rfl ?_
     rcases bcases (y31.2 != 0) with hb41 | hb41
     ·have H := ifT hb41 H; refine WL_guardN rfl hb41 rfl rfl rfl ?_; refine WL_guardN rfl hb41 rfl rfl rfl ?_; refine WL_guardN rfl hb41 rfl rfl rfl ?_; refine WL_guardN rfl hb41 rfl rfl rfl ?_; refine WL_guardN rfl hb41 rfl rfl rfl ?_; refine WL_val (rn_pickT (v := (.bool true)) rfl hb41 rfl) rfl ?_; refine WL_val (rn_move (v := (.bool true)) rfl) rfl ?_; refine WL_guardN rfl rfl rfl rfl rfl ?_; refine WL_guardN rfl rfl rfl rfl rfl ?_; refine WL_guardN rfl rfl rfl rfl rfl ?_; refine WL_guardN rfl rfl rfl rfl rfl ?_; refine WL_guardN rfl rfl rfl rfl rfl ?_; refine WL_val (rn_pickT (v := (.bool true)) rfl rfl rfl) rfl ?_; refine WL_nil ?_; have H := Option.some.inj H; subst H
      exact ⟨_, upds_self _ _ ⟨rfl, rfl, rfl, rfl, rfl, rfl, rfl, rfl, rfl, trivial⟩, rfl⟩
     ·have H := ifF hb41 H; refine WL_guardY rfl hb41 rfl rfl ?_; refine WL_val (rn_move (v := (.slice a30 n30 c30)) rfl) rfl ?_; refine WL_guardY rfl hb41 rfl rfl ?_
      have l3_5 := leG33.trans leG37
      refine WL_val (rn_len sl25 rfl rfl (h30.mono RInt_mono l3_5).1) rfl ?_; refine WL_guardY rfl hb41 rfl rfl ?_; refine WL_val (rn_fld fd46_0 rfl) rfl ?_; refine WL_guardY rfl hb41 rfl rfl ?_
      have l1_5 := l1_4.trans leG37
      refine WL_val (rn_load na3 rfl ((hS.sat.le l1_5).cell (hcb7 0 _ rfl))) rfl ?_; refine WL_guardY rfl hb41 rfl rfl ?_; refine WL_val (rn_neq rfl rfl) rfl ?_; refine WL_val (rn_pickF (v := (.bool ((y27.1.length : Int) != x0.Islets))) rfl hb41 rfl) rfl ?_; refine WL_val (rn_move (v := (.bool ((y27.1.length : Int) != x0.Islets))) rfl) rfl ?_
      rcases bcases ((y27.1.length : Int) != x0.Islets) with hb42 | hb42
      ·have H := ifT hb42 H; refine WL_guardN rfl hb42 rfl rfl rfl ?_; refine WL_guardN rfl hb42 rfl rfl rfl ?_; refine WL_guardN rfl hb42 rfl rfl rfl ?_; refine WL_guardN rfl hb42 rfl rfl rfl ?_; refine WL_guardN rfl hb42 rfl rfl rfl ?_; refine WL_val (rn_pickT (v := (.bool true)) rfl hb42 rfl) rfl ?_; refine WL_nil ?_; have H := Option.some.inj H; subst H
       exact ⟨_, upds_self _ _ ⟨rfl, rfl, rfl, rfl, rfl, rfl, rfl, rfl, rfl, trivial⟩, rfl⟩
      ·have H := ifF hb42 H; refine WL_guardY rfl hb42 rfl rfl ?_; refine WL_val (rn_move (v := (.slice a34 n34 c34)) rfl) rfl ?_; refine WL_guardY rfl hb42 rfl rfl ?_; refine WL_val (rn_len sl25 rfl rfl (h34.mono RInt_mono leG37).1) rfl ?_; refine WL_guardY rfl hb42 rfl rfl ?_; refine WL_val (rn_fld fd46_0 rfl) rfl ?_; refine WL_guardY rfl hb42 rfl rfl ?_; refine WL_val (rn_load na3 rfl ((hS.sat.le l1_5).cell (hcb7 0 _ rfl))) rfl ?_; refine WL_guardY rfl hb42 rfl rfl ?_; refine WL_val (rn_neq rfl rfl) rfl ?_; refine WL_val (rn_pickF (v := (.bool ((y31.1.length : Int) != x0.Islets))) rfl hb42 rfl) rfl ?_; refine WL_nil ?_; have H := Option.some.inj H; subst H
       exact ⟨_, upds_self _ _ ⟨rfl, rfl, rfl, rfl, rfl, rfl, rfl, rfl, rfl, trivial⟩, rfl⟩
   ·rintro F wl ⟨Fb, rfl, rfl⟩
    refine WC_cond rfl (fun hb45 => ?_) (fun hb45 => ?_)
    ·have H := ifT hb45 H; refine WC_seq ?_; refine WC_region ?_; refine WL_val (rn_assign (v := (.bool false)) rfl) rfl ?_; refine WL_nil ?_; refine WC_ret ?_
     have H : some false = some r := H
     have H := Option.some.inj H; subst H
     exact ⟨rfl, hS.below⟩
    ·have H := ifF hb45 H; refine WC_skip ?_; refine WC_seq ?_; refine WC_seq ?_; refine WC_region ?_; refine WL_val (rn_assign (v := (.int .i64 0)) rfl) rfl ?_; refine WL_nil ?_; obtain ⟨q48, hq48, H⟩ := bnd H; refine WC_cut (fun F w => ∃ (p47 : Unit) (Fb : Fr) (G : Gm), q48 = .inl p47 ∧ F = upds Fb [(1, .slice a4 n4 c4), (3, .int .i64 x3), (4, .slice a6 n6 c6), (5, .pointer (some ⟨b7, 0, none⟩)), (11, .slice a30 n30 c30), (15, .slice a38 n38 c38), (16, .int .i64 y35.2)] ∧ Gle G37 G ∧ Since w0.heap.size G0 w0 G w ∧ Owns G w w0.heap.size []) ?_ ?_
     ·refine WC_block (WC_loop hq48 (fun s46 F w => ∃ (Fb : Fr) (G : Gm), F = upds Fb [(1, .slice a4 n4 c4), (3, .int .i64 x3), (4, .slice a6 n6 c6), (5, .pointer (some ⟨b7, 0, none⟩)), (11, .slice a30 n30 c30), (13, .slice a34 n34 c34), (15, .slice a38 n38 c38), (16, .int .i64 y35.2), (17, .int .i64 s46)] ∧ Gle G37 G ∧ Since w0.heap.size G0 w0 G w ∧ Owns G w w0.heap.size []) ?_ ?_)
      ·have hO : Owns G37 w36 w0.heap.size ([]) := hO
       exact ⟨_, G37, upds_self _ _ ⟨rfl, rfl, rfl, rfl, rfl, rfl, rfl, rfl, rfl, trivial⟩, Gle.refl _, hS, hO⟩
      ·rintro s46 F w50 t49 ⟨Fb, G51, rfl, leG51, hS, hO⟩
       intro H1 hqq48
       have Hoq48 := H; have H := H1
       unfold f12_b0 at H
       refine WC_seq ?_; refine WC_seq ?_; refine WC_region ?_; refine WL_val (rn_move (v := (.int .i64 s46)) rfl) rfl ?_; refine WL_val (rn_fld fd46_0 rfl) rfl ?_
       have l1_6 := (l1_4.trans leG37).trans leG51
       refine WL_val (rn_load na3 rfl ((hS.sat.le l1_6).cell (hcb7 0 _ rfl))) rfl ?_; refine WL_val (rn_lss rfl rfl) rfl ?_; refine WL_nil ?_; refine WC_cond rfl (fun hb52 => ?_) (fun hb52 => ?_)
       ·have H := ifT hb52 H; refine WC_skip ?_; refine WC_seq ?_; refine WC_block ?_; refine WC_seq ?_; obtain ⟨q53, hq53, H⟩ := bnd H; refine WC_cut (fun F w => ∃ (Fb : Fr) (G : Gm), F = upds Fb [(1, .slice a4 n4 c4), (3, .int .i64 x3), (4, .slice a6 n6 c6), (5, .pointer (some ⟨b7, 0, none⟩)), (11, .slice a30 n30 c30), (13, .slice a34 n34 c34), (15, .slice a38 n38 c38), (16, .int .i64 y35.2), (17, .int .i64 s46), (122, .bool q53)] ∧ Gle G51 G ∧ Since w0.heap.size G0 w0 G w ∧ Owns G w w0.heap.size []) ?_ ?_
        ·have Hoq53 := H; have H := hq53; have hS := hS.keep (below_drew _); have hO := hO.below (below_drew _)
         refine WC_regionD mixedO (fun w => Sat G51 w ∧ True) (.fl 0 (.on 1 (.on 2 (.on 3 (.on 4 (.on 5 (.fl 6 (.on 7 (.on 8 (.on 9 (.on 10 (.on 11 (.fl 12 (.fl 13 (.fl 14 (.fl 15 (.fl 16 (.on 17 (.on 18 (.on 19 (.on 20 (.on 21 (.on 22 .nil))))))))))))))))))))))) (by kernel_rfl) rfl (by kernel_rfl) ⟨hS.sat, trivial⟩ ?_
         refine WD_val rfl (fun w hw => rn_move (v := (.slice a34 n34 c34)) rfl) rfl ?_; refine WD_op rfl rfl (OpP_val (rn_move (v := (.int .i64 s46)) rfl) rfl ?_); refine ⟨fun _ => ⟨hS.sat, trivial⟩, ?_⟩; obtain ⟨y54, hy54, H⟩ := bnd H
         have l4_6 := leG37.trans leG51
         refine WD_op rfl rfl (OpP_idx sl25 (h34.mono RInt_mono l4_6) hy54 rfl rfl rfl ?_)
         rintro b55 o55 _ hcb55 _ ⟨⟩
         refine ⟨fun _ => ⟨hS.sat, trivial⟩, ?_⟩; refine WD_op rfl rfl (OpP_val (rn_load na3 rfl (hS.sat.cell (hcb55 0 _ rfl))) rfl ?_); refine ⟨fun _ => ⟨hS.sat, trivial⟩, ?_⟩; refine WD_op rfl rfl (OpP_val (rn_geq rfl rfl) rfl ?_); refine ⟨fun _ => ⟨hS.sat, trivial⟩, ?_⟩; refine WD_op rfl rfl (OpP_val (rn_move (v := (.bool (decide (0 ≤ y54)))) rfl) rfl ?_); refine ⟨fun _ => ⟨hS.sat, trivial⟩, ?_⟩
         rcases bcases (decide (0 ≤ y54)) with hb56 | hb56
         ·have H := ifT hb56 H; refine WD_valY rfl rfl hb56 rfl rfl (fun w hw => rn_move (v := (.slice a30 n30 c30)) rfl) rfl ?_; refine WD_opY rfl rfl rfl hb56 rfl rfl (OpP_val (rn_move (v := (.int .i64 s46)) rfl) rfl ?_); refine ⟨fun _ => ⟨hS.sat, trivial⟩, ?_⟩; obtain ⟨y57, hy57, H⟩ := bnd H
          have l3_6 := leG33.trans l4_6
          refine WD_opY rfl rfl rfl hb56 rfl rfl (OpP_idx sl25 (h30.mono RInt_mono l3_6) hy57 rfl rfl rfl ?_)
          rintro b58 o58 _ hcb58 _ ⟨⟩
          refine ⟨fun _ => ⟨hS.sat, trivial⟩, ?_⟩; refine WD_opY rfl rfl rfl hb56 rfl rfl (OpP_val (rn_load na3 rfl (hS.sat.cell (hcb58 0 _ rfl))) rfl ?_); refine ⟨fun _ => ⟨hS.sat, trivial⟩, ?_⟩; refine WD_opY rfl rfl rfl hb56 rfl rfl (OpP_val (rn_lss rfl rfl) rfl ?_); refine ⟨fun _ => ⟨hS.sat, trivial⟩, ?_⟩; refine WD_opY rfl rfl rfl hb56 rfl rfl (OpP_val (rn_move (v := (.bool (decide (y57 < 0)))) rfl) rfl ?_); refine ⟨fun _ => ⟨hS.sat, trivial⟩, ?_⟩
          rcases bcases (decide (y57 < 0)) with hb59 | hb59
          ·have H := ifT hb59 H; refine WD_skip rfl rfl hb59 rfl rfl rfl ?_; refine WD_skip rfl rfl hb59 rfl rfl rfl ?_; refine WD_skip rfl rfl hb59 rfl rfl rfl ?_; refine WD_skip rfl rfl hb59 rfl rfl rfl ?_; refine WD_skip rfl rfl hb59 rfl rfl rfl ?_; refine WD_skipS rfl rfl hb59 rfl rfl rfl (fun _ => ⟨hS.sat, trivial⟩) ?_; refine WD_skipS rfl rfl hb59 rfl rfl rfl (fun _ => ⟨hS.sat, trivial⟩) ?_; refine WD_skipS rfl rfl hb59 rfl rfl rfl (fun _ => ⟨hS.sat, trivial⟩) ?_
           refine WD_skipS rfl rfl hb59 rfl rfl rfl (fun h => nomore (by kernel_rfl) h) ?_
           refine WD_opY rfl rfl rfl hb56 rfl rfl (OpP_val (rn_pickT (v := (.bool true)) rfl hb59 rfl) rfl ?_)
           refine ⟨fun h => nomore (by kernel_rfl) h, ?_⟩
           refine WD_op rfl rfl (OpP_val (rn_pickT (v := (.bool true)) rfl hb56 rfl) rfl ?_)
           refine ⟨fun h => nomore (by kernel_rfl) h, ?_⟩
           refine WD_nil ?_
           have hO : Owns G51 w50.drew w0.heap.size ([]) := hO
           have H := Option.some.inj H; subst H
           exact ⟨_, G51, upds_self _ _ ⟨rfl, rfl, rfl, rfl, rfl, rfl, rfl, rfl, rfl, rfl, trivial⟩, Gle.refl _, hS, hO⟩
          ·have H := ifF hb59 H; refine WD_valY rfl rfl hb59 rfl rfl (fun w hw => rn_move (v := (.slice a34 n34 c34)) rfl) rfl ?_; refine WD_valY rfl rfl hb59 rfl rfl (fun w hw => rn_move (v := (.int .i64 s46)) rfl) rfl ?_; refine WD_idxY rfl rfl hb59 rfl rfl sl25 (h34.mono RInt_mono l4_6) hy54 rfl rfl rfl ?_
           rintro b60 o60 _ hcb60 _ ⟨⟩
           refine WD_valY rfl rfl hb59 rfl rfl (fun w hw => rn_load na3 rfl (hw.1.cell (hcb60 0 _ rfl))) rfl ?_; refine WD_valY rfl rfl hb59 rfl rfl (fun w hw => rn_move (v := (.slice a30 n30 c30)) rfl) rfl ?_; refine WD_opY rfl rfl rfl hb59 rfl rfl (OpP_val (rn_move (v := (.int .i64 s46)) rfl) rfl ?_); refine ⟨fun _ => ⟨hS.sat, trivial⟩, ?_⟩; refine WD_opY rfl rfl rfl hb59 rfl rfl (OpP_idx sl25 (h30.mono RInt_mono l3_6) hy57 rfl rfl rfl ?_)
           rintro b61 o61 _ hcb61 _ ⟨⟩
           refine ⟨fun _ => ⟨hS.sat, trivial⟩, ?_⟩; refine WD_opY rfl rfl rfl hb59 rfl rfl (OpP_val (rn_load na3 rfl (hS.sat.cell (hcb61 0 _ rfl))) rfl ?_); refine ⟨fun _ => ⟨hS.sat, trivial⟩, ?_⟩; refine WD_opY rfl rfl rfl hb59 rfl rfl (OpP_val (rn_lss rfl rfl) rfl ?_)
           refine ⟨fun h => nomore (by kernel_rfl) h, ?_⟩
           refine WD_opY rfl rfl rfl hb56 rfl rfl (OpP_val (rn_pickF (v := (.bool (decide (y54 < y57)))) rfl hb59 rfl) rfl ?_)
           refine ⟨fun h => nomore (by kernel_rfl) h, ?_⟩
           refine WD_op rfl rfl (OpP_val (rn_pickT (v := (.bool (decide (y54 < y57)))) rfl hb56 rfl) rfl ?_)
           refine ⟨fun h => nomore (by kernel_rfl) h, ?_⟩
           refine WD_nil ?_
           have hO : Owns G51 w50.drew w0.heap.size ([]) := hO
           have H := Option.some.inj H; subst H
           exact ⟨_, G51, upds_self _ _ ⟨rfl, rfl, rfl, rfl, rfl, rfl, rfl, rfl, rfl, rfl, trivial⟩, Gle.refl _, hS, hO⟩
         ·have H := ifF hb56 H; refine WD_skip rfl rfl hb56 rfl rfl rfl ?_; refine WD_skipS rfl rfl hb56 rfl rfl rfl (fun _ => ⟨hS.sat, trivial⟩) ?_; refine WD_skipS rfl rfl hb56 rfl rfl rfl (fun _ => ⟨hS.sat, trivial⟩) ?_; refine WD_skipS rfl rfl hb56 rfl rfl rfl (fun _ => ⟨hS.sat, trivial⟩) ?_; refine WD_skipS rfl rfl hb56 rfl rfl rfl (fun _ => ⟨hS.sat, trivial⟩) ?_; refine WD_skipS rfl rfl hb56 rfl rfl rfl (fun _ => ⟨hS.sat, trivial⟩) ?_; refine WD_undefN rfl rfl rfl rfl rfl ?_; refine WD_undefN rfl rfl rfl rfl rfl ?_; refine WD_undefN rfl rfl rfl rfl rfl ?_; refine WD_undefN rfl rfl rfl rfl rfl ?_; refine WD_undefN rfl rfl rfl rfl rfl ?_; refine WD_undefS rfl rfl rfl rfl rfl (fun _ => ⟨hS.sat, trivial⟩) ?_; refine WD_undefS rfl rfl rfl rfl rfl (fun _ => ⟨hS.sat, trivial⟩) ?_; refine WD_undefS rfl rfl rfl rfl rfl (fun _ => ⟨hS.sat, trivial⟩) ?_
          refine WD_undefS rfl rfl rfl rfl rfl (fun h => nomore (by kernel_rfl) h) ?_
          refine WD_skipS rfl rfl hb56 rfl rfl rfl (fun h => nomore (by kernel_rfl) h) ?_
          refine WD_op rfl rfl (OpP_val (rn_pickF (v := (.bool false)) rfl hb56 rfl) rfl ?_)
          refine ⟨fun h => nomore (by kernel_rfl) h, ?_⟩
          refine WD_nil ?_
          have hO : Owns G51 w50.drew w0.heap.size ([]) := hO
          have H := Option.some.inj H; subst H
          exact ⟨_, G51, upds_self _ _ ⟨rfl, rfl, rfl, rfl, rfl, rfl, rfl, rfl, rfl, rfl, trivial⟩, Gle.refl _, hS, hO⟩
        ·rintro F w62 ⟨Fb, G63, rfl, leG63, hS, hO⟩
         refine WC_cond rfl (fun hb64 => ?_) (fun hb64 => ?_)
         ·have H := ifT hb64 H; refine WC_seq ?_; refine WC_region ?_; refine WL_val (rn_assign (v := (.bool false)) rfl) rfl ?_; refine WL_nil ?_; refine WC_ret ?_; have H := Option.some.inj H; subst H
          have hres := hqq48 _ rfl
          subst hres; have H := Hoq48
          have H : some false = some r := H
          have H := Option.some.inj H; subst H
          exact ⟨rfl, hS.below⟩
         ·have H := ifF hb64 H; refine WC_skip ?_; refine WC_region ?_; refine WL_val (rn_move (v := (.int .i64 s46)) rfl) rfl ?_; refine WL_val (rn_add rfl rfl) rfl ?_; refine WL_val (rn_assign (v := (.int .i64 (IntKind.i64.wrap (s46 + 1)))) rfl) rfl ?_; refine WL_nil ?_
          have hO : Owns G63 w62 w0.heap.size ([]) := hO
          have H := Option.some.inj H; subst H; refine ⟨_, rfl, ?_⟩
          have l5_7 := leG51.trans leG63
          exact ⟨_, G63, upds_self _ _ ⟨rfl, rfl, rfl, rfl, rfl, rfl, rfl, rfl, rfl, trivial⟩, l5_7, hS, hO⟩
       ·have H := ifF hb52 H; refine WC_exit rfl ?_
        have hO : Owns G51 w50 w0.heap.size ([]) := hO
        have H := Option.some.inj H; subst H
        have hres := hqq48 _ rfl
        subst hres
        exact ⟨_, _, G51, rfl, upds_self _ _ ⟨rfl, rfl, rfl, rfl, rfl, rfl, rfl, trivial⟩, leG51, hS, hO⟩
     ·rintro F w65 ⟨p47, Fb, G66, rfl, rfl, leG66, hS, hO⟩
      refine WC_seq ?_; refine WC_region ?_
      have l1_6 := (l1_4.trans leG37).trans leG66
      refine WL_val (rn_loadA ag46 (cs := [.int .i64 x0.Islets, .slice a1 n1 c1, .slice a2 n2 c2, .slice a3 n3 c3, .int .i64 x0.Wait]) rfl rfl (fun j v hj => (hS.sat.le l1_6).cell (hcb7.drop_take 0 5 j v hj))) rfl ?_; refine WL_val (rn_move (v := (.slice a4 n4 c4)) rfl) rfl ?_; refine WL_val (rn_move (v := (.slice a6 n6 c6)) rfl) rfl ?_; refine WL_val (rn_move (v := (.int .i64 x3)) rfl) rfl ?_; obtain ⟨y67, hy67, H⟩ := bnd H
      have l0_6 := (l0_4.trans leG37).trans leG66
      refine WL_op rfl (OpP_callV cb51 (f51_ok (x0 := x0) (x1 := x1) (x2 := x4) (x3 := x3) hS.sat (h1.mono RInt_mono l0_6) (h2.mono RInt_mono l0_6) (h3.mono RTBaneTrip_mono l0_6) (h4.mono RInt_mono l0_6) (h6.mono RInt_mono l0_6) hy67) rfl rfl (fun w68 hb => ?_)); have hS := hS.keep hb; have hO := hO.below hb; refine WL_val (rn_assign (v := (.bool y67)) rfl) rfl ?_; refine WL_nil ?_; refine WC_seq ?_; refine WC_region ?_; refine WL_val (rn_move (v := (.slice a30 n30 c30)) rfl) rfl ?_; refine WL_val (rn_move (v := (.int .i64 x3)) rfl) rfl ?_; obtain ⟨y69, hy69, H⟩ := bnd H
      have l3_6 := (leG33.trans leG37).trans leG66
      refine WL_idx sl25 (h30.mono RInt_mono l3_6) hy69 rfl rfl rfl ?_
      rintro b70 o70 _ hcb70 _ ⟨⟩
      refine WL_val (rn_load na3 rfl (hS.sat.cell (hcb70 0 _ rfl))) rfl ?_; refine WL_val (rn_assign (v := (.int .i64 y69)) rfl) rfl ?_; refine WL_nil ?_; refine WC_seq ?_; refine WC_seq ?_; refine WC_region ?_; refine WL_val (rn_move (v := (.int .i64 y35.2)) rfl) rfl ?_; refine WL_val (rn_neq rfl rfl) rfl ?_; refine WL_nil ?_; refine WC_cond rfl (fun hb71 => ?_) (fun hb71 => ?_)
      ·have H := ifT hb71 H; refine WC_seq ?_; obtain ⟨q72, hq72, H⟩ := bnd H; refine WC_cut (fun F w => ∃ (Fb : Fr) (G : Gm), F = upds Fb [(10, .bool q72)] ∧ Gle G66 G ∧ Since w0.heap.size G0 w0 G w ∧ Owns G w w0.heap.size []) ?_ ?_
       ·have Hoq72 := H; have H := hq72; refine WC_region ?_; refine WL_val (rn_move (v := (.int .i64 y35.2)) rfl) rfl ?_; refine WL_val (rn_eql rfl rfl) rfl ?_; refine WL_val (rn_move (v := (.bool (y35.2 == 5))) rfl) rfl ?_
        rcases bcases (y35.2 == 5) with hb73 | hb73
        ·have H := ifT hb73 H; refine WL_guardY rfl hb73 rfl rfl ?_; refine WL_val (rn_move (v := (.int .i64 y69)) rfl) rfl ?_; refine WL_guardY rfl hb73 rfl rfl ?_; refine WL_val (rn_eql rfl rfl) rfl ?_; refine WL_val (rn_pickT (v := (.bool (y69 == (-1)))) rfl hb73 rfl) rfl ?_; refine WL_val (rn_move (v := (.bool (y69 == (-1)))) rfl) rfl ?_
         rcases bcases (y69 == (-1)) with hb74 | hb74
         ·have H := ifT hb74 H; refine WL_guardY rfl hb74 rfl rfl ?_; refine WL_val (rn_move (v := (.bool y67)) rfl) rfl ?_; refine WL_guardY rfl hb74 rfl rfl ?_; refine WL_val (rn_not rfl) rfl ?_; refine WL_val (rn_pickT (v := (.bool (!y67))) rfl hb74 rfl) rfl ?_; refine WL_val (rn_move (v := (.bool (!y67))) rfl) rfl ?_
          rcases bcases (!y67) with hb75 | hb75
          ·have H := ifT hb75 H; refine WL_guardY rfl hb75 rfl rfl ?_; obtain ⟨y76, hy76, H⟩ := bnd H; refine WL_op rfl (OpP_callV cb19 (f19_ok  hS.sat  hy76) rfl rfl (fun w77 hb => ?_)); have hS := hS.keep hb; have hO := hO.below hb; refine WL_val (rn_pickT (v := (.bool y76)) rfl hb75 rfl) rfl ?_; refine WL_val (rn_assign (v := (.bool y76)) rfl) rfl ?_; refine WL_nil ?_
           have hO : Owns G66 w77 w0.heap.size ([]) := hO
           have H := Option.some.inj H; subst H
           exact ⟨_, G66, upds_self _ _ ⟨rfl, trivial⟩, Gle.refl _, hS, hO⟩
          ·have H := ifF hb75 H; refine WL_guardN rfl hb75 rfl rfl rfl ?_; refine WL_val (rn_pickF (v := (.bool false)) rfl hb75 rfl) rfl ?_; refine WL_val (rn_assign (v := (.bool false)) rfl) rfl ?_; refine WL_nil ?_
           have hO : Owns G66 w68 w0.heap.size ([]) := hO
           have H := Option.some.inj H; subst H
           exact ⟨_, G66, upds_self _ _ ⟨rfl, trivial⟩, Gle.refl _, hS, hO⟩
         ·have H := ifF hb74 H; refine WL_guardN rfl hb74 rfl rfl rfl ?_; refine WL_guardN rfl hb74 rfl rfl rfl ?_; refine WL_val (rn_pickF (v := (.bool false)) rfl hb74 rfl) rfl ?_; refine WL_val (rn_move (v := (.bool false)) rfl) rfl ?_; refine WL_guardN rfl rfl rfl rfl rfl ?_; refine WL_val (rn_pickF (v := (.bool false)) rfl rfl rfl) rfl ?_; refine WL_val (rn_assign (v := (.bool false)) rfl) rfl ?_; refine WL_nil ?_
          have hO : Owns G66 w68 w0.heap.size ([]) := hO
          have H := Option.some.inj H; subst H
          exact ⟨_, G66, upds_self _ _ ⟨rfl, trivial⟩, Gle.refl _, hS, hO⟩
        ·have H := ifF hb73 H; refine WL_guardN rfl hb73 rfl rfl rfl ?_; refine WL_guardN rfl hb73 rfl rfl rfl ?_; refine WL_val (rn_pickF (v := (.bool false)) rfl hb73 rfl) rfl ?_; refine WL_val (rn_move (v := (.bool false)) rfl) rfl ?_; refine WL_guardN rfl rfl rfl rfl rfl ?_; refine WL_guardN rfl rfl rfl rfl rfl ?_; refine WL_val (rn_pickF (v := (.bool false)) rfl rfl rfl) rfl ?_; refine WL_val (rn_move (v := (.bool false)) rfl) rfl ?_; refine WL_guardN rfl rfl rfl rfl rfl ?_; refine WL_val (rn_pickF (v := (.bool false)) rfl rfl rfl) rfl ?_; refine WL_val (rn_assign (v := (.bool false)) rfl) rfl ?_; refine WL_nil ?_
         have hO : Owns G66 w68 w0.heap.size ([]) := hO
         have H := Option.some.inj H; subst H
         exact ⟨_, G66, upds_self _ _ ⟨rfl, trivial⟩, Gle.refl _, hS, hO⟩
       ·rintro F w78 ⟨Fb, G79, rfl, leG79, hS, hO⟩
        refine WC_ret ?_
        have H : some q72 = some r := H
        have H := Option.some.inj H; subst H
        exact ⟨rfl, hS.below⟩
      ·have H := ifF hb71 H; refine WC_skip ?_; refine WC_seq ?_; refine WC_seq ?_; obtain ⟨q80, hq80, H⟩ := bnd H; refine WC_cut (fun F w => ∃ (Fb : Fr) (G : Gm), F = upds Fb [(4, .slice a6 n6 c6), (5, .pointer (some ⟨b7, 0, none⟩)), (15, .slice a38 n38 c38), (18, .bool y67), (19, .int .i64 y69), (167, .bool q80)] ∧ Gle G66 G ∧ Since w0.heap.size G0 w0 G w ∧ Owns G w w0.heap.size []) ?_ ?_
       ·have Hoq80 := H; have H := hq80; refine WC_region ?_; refine WL_val (rn_move (v := (.slice a38 n38 c38)) rfl) rfl ?_; refine WL_val (rn_len sl25 rfl rfl (h38.mono RInt_mono leG66).1) rfl ?_; refine WL_val (rn_fld fd46_3 rfl) rfl ?_; refine WL_val (rn_load na44 rfl ((hS.sat.le l1_6).cell (hcb7 3 _ rfl))) rfl ?_; refine WL_val (rn_len sl44 rfl rfl (h3.mono RTBaneTrip_mono l0_6).1) rfl ?_; refine WL_val (rn_gtr rfl rfl) rfl ?_; refine WL_val (rn_move (v := (.bool (decide ((x0.Trips.length : Int) < (y35.1.length : Int))))) rfl) rfl ?_
        rcases bcases (decide ((x0.Trips.length : Int) < (y35.1.length : Int))) with hb81 | hb81
        ·have H := ifT hb81 H; refine WL_guardN rfl hb81 rfl rfl rfl ?_; refine WL_guardN rfl hb81 rfl rfl rfl ?_; refine WL_guardN rfl hb81 rfl rfl rfl ?_; refine WL_guardN rfl hb81 rfl rfl rfl ?_; refine WL_guardN rfl hb81 rfl rfl rfl ?_; refine WL_guardN rfl hb81 rfl rfl rfl ?_; refine WL_val (rn_pickT (v := (.bool true)) rfl hb81 rfl) rfl ?_; refine WL_val (rn_move (v := (.bool true)) rfl) rfl ?_; refine WL_guardN rfl rfl rfl rfl rfl ?_; refine WL_guardN rfl rfl rfl rfl rfl ?_; refine WL_guardN rfl rfl rfl rfl rfl ?_; refine WL_guardN rfl rfl rfl rfl rfl ?_; refine WL_guardN rfl rfl rfl rfl rfl ?_; refine WL_val (rn_pickT (v := (.bool true)) rfl rfl rfl) rfl ?_; refine WL_nil ?_
         have hO : Owns G66 w68 w0.heap.size ([]) := hO
         have H := Option.some.inj H; subst H
         exact ⟨_, G66, upds_self _ _ ⟨rfl, rfl, rfl, rfl, rfl, rfl, trivial⟩, Gle.refl _, hS, hO⟩
        ·have H := ifF hb81 H; refine WL_guardY rfl hb81 rfl rfl ?_; refine WL_val (rn_loadA ag46 (cs := [.int .i64 x0.Islets, .slice a1 n1 c1, .slice a2 n2 c2, .slice a3 n3 c3, .int .i64 x0.Wait]) rfl rfl (fun j v hj => (hS.sat.le l1_6).cell (hcb7.drop_take 0 5 j v hj))) rfl ?_; refine WL_guardY rfl hb81 rfl rfl ?_; refine WL_val (rn_move (v := (.slice a4 n4 c4)) rfl) rfl ?_; refine WL_guardY rfl hb81 rfl rfl ?_; refine WL_val (rn_move (v := (.slice a38 n38 c38)) rfl) rfl ?_; refine WL_guardY rfl hb81 rfl rfl ?_; refine WL_val (rn_move (v := (.int .i64 x3)) rfl) rfl ?_; refine WL_guardY rfl hb81 rfl rfl ?_; obtain ⟨y82, hy82, H⟩ := bnd H; refine WL_op rfl (OpP_callV cb51 (f51_ok (x0 := x0) (x1 := x1) (x2 := y35.1) (x3 := x3) hS.sat (h1.mono RInt_mono l0_6) (h2.mono RInt_mono l0_6) (h3.mono RTBaneTrip_mono l0_6) (h4.mono RInt_mono l0_6) (h38.mono RInt_mono leG66) hy82) rfl rfl (fun w83 hb => ?_)); have hS := hS.keep hb; have hO := hO.below hb; refine WL_guardY rfl hb81 rfl rfl ?_; refine WL_val (rn_not rfl) rfl ?_; refine WL_val (rn_pickF (v := (.bool (!y82))) rfl hb81 rfl) rfl ?_; refine WL_val (rn_move (v := (.bool (!y82))) rfl) rfl ?_
         rcases bcases (!y82) with hb84 | hb84
         ·have H := ifT hb84 H; refine WL_guardN rfl hb84 rfl rfl rfl ?_; refine WL_guardN rfl hb84 rfl rfl rfl ?_; refine WL_guardN rfl hb84 rfl rfl rfl ?_; refine WL_guardN rfl hb84 rfl rfl rfl ?_; refine WL_guardN rfl hb84 rfl rfl rfl ?_; refine WL_val (rn_pickT (v := (.bool true)) rfl hb84 rfl) rfl ?_; refine WL_nil ?_
          have hO : Owns G66 w83 w0.heap.size ([]) := hO
          have H := Option.some.inj H; subst H
          exact ⟨_, G66, upds_self _ _ ⟨rfl, rfl, rfl, rfl, rfl, rfl, trivial⟩, Gle.refl _, hS, hO⟩
         ·have H := ifF hb84 H; refine WL_guardY rfl hb84 rfl rfl ?_; refine WL_val (rn_loadA ag46 (cs := [.int .i64 x0.Islets, .slice a1 n1 c1, .slice a2 n2 c2, .slice a3 n3 c3, .int .i64 x0.Wait]) rfl rfl (fun j v hj => (hS.sat.le l1_6).cell (hcb7.drop_take 0 5 j v hj))) rfl ?_; refine WL_guardY rfl hb84 rfl rfl ?_; refine WL_val (rn_move (v := (.slice a38 n38 c38)) rfl) rfl ?_; refine WL_guardY rfl hb84 rfl rfl ?_; obtain ⟨y85, hy85, H⟩ := bnd H; refine WL_op rfl (OpP_callV cb52 (f52_ok (x0 := x0) (x1 := y35.1) hS.sat (h1.mono RInt_mono l0_6) (h2.mono RInt_mono l0_6) (h3.mono RTBaneTrip_mono l0_6) (h38.mono RInt_mono leG66) hy85) rfl rfl (fun w86 hb => ?_)); have hS := hS.keep hb; have hO := hO.below hb; refine WL_guardY rfl hb84 rfl rfl ?_; refine WL_val (rn_move (v := (.int .i64 y69)) rfl) rfl ?_; refine WL_guardY rfl hb84 rfl rfl ?_; refine WL_val (rn_neq rfl rfl) rfl ?_; refine WL_val (rn_pickF (v := (.bool (y85 != y69))) rfl hb84 rfl) rfl ?_; refine WL_nil ?_
          have hO : Owns G66 w86 w0.heap.size ([]) := hO
          have H := Option.some.inj H; subst H
          exact ⟨_, G66, upds_self _ _ ⟨rfl, rfl, rfl, rfl, rfl, rfl, trivial⟩, Gle.refl _, hS, hO⟩
       ·rintro F w87 ⟨Fb, G88, rfl, leG88, hS, hO⟩
        refine WC_cond rfl (fun hb89 => ?_) (fun hb89 => ?_)
        ·have H := ifT hb89 H; refine WC_seq ?_; refine WC_region ?_; refine WL_val (rn_assign (v := (.bool false)) rfl) rfl ?_; refine WL_nil ?_; refine WC_ret ?_
         have H : some false = some r := H
         have H := Option.some.inj H; subst H
         exact ⟨rfl, hS.below⟩
        ·have H := ifF hb89 H; refine WC_skip ?_; refine WC_seq ?_; obtain ⟨q90, hq90, H⟩ := bnd H; refine WC_cut (fun F w => ∃ (Fb : Fr) (G : Gm), F = upds Fb [(10, .bool q90)] ∧ Gle G88 G ∧ Since w0.heap.size G0 w0 G w ∧ Owns G w w0.heap.size []) ?_ ?_
         ·have Hoq90 := H; have H := hq90; refine WC_region ?_; refine WL_val (rn_move (v := (.bool y67)) rfl) rfl ?_; refine WL_val (rn_not rfl) rfl ?_; refine WL_val (rn_move (v := (.bool (!y67))) rfl) rfl ?_
          rcases bcases (!y67) with hb91 | hb91
          ·have H := ifT hb91 H; refine WL_guardN rfl hb91 rfl rfl rfl ?_; refine WL_guardN rfl hb91 rfl rfl rfl ?_; refine WL_guardN rfl hb91 rfl rfl rfl ?_; refine WL_guardN rfl hb91 rfl rfl rfl ?_; refine WL_guardN rfl hb91 rfl rfl rfl ?_; refine WL_val (rn_pickT (v := (.bool true)) rfl hb91 rfl) rfl ?_; refine WL_val (rn_move (v := (.bool true)) rfl) rfl ?_; refine WL_guardN rfl rfl rfl rfl rfl ?_; refine WL_guardN rfl rfl rfl rfl rfl ?_; refine WL_guardN rfl rfl rfl rfl rfl ?_; refine WL_guardN rfl rfl rfl rfl rfl ?_; refine WL_guardN rfl rfl rfl rfl rfl ?_; refine WL_guardN rfl rfl rfl rfl rfl ?_; refine WL_guardU rfl rfl rfl rfl ?_; refine WL_guardU rfl rfl rfl rfl ?_; refine WL_guardU rfl rfl rfl rfl ?_; refine WL_guardU rfl rfl rfl rfl ?_; refine WL_guardU rfl rfl rfl rfl ?_; refine WL_guardU rfl rfl rfl rfl ?_; refine WL_guardU rfl rfl rfl rfl ?_; refine WL_guardU rfl rfl rfl rfl ?_; refine WL_guardU rfl rfl rfl rfl ?_; refine WL_guardU rfl rfl rfl rfl ?_; refine WL_guardU rfl rfl rfl rfl ?_; refine WL_guardU rfl rfl rfl rfl ?_; refine WL_guardU rfl rfl rfl rfl ?_; refine WL_guardU rfl rfl rfl rfl ?_; refine WL_guardU rfl rfl rfl rfl ?_; refine WL_guardU rfl rfl rfl rfl ?_; refine WL_guardU rfl rfl rfl rfl ?_; refine WL_guardU rfl rfl rfl rfl ?_; refine WL_guardN rfl rfl rfl rfl rfl ?_; refine WL_val (rn_pickT (v := (.bool true)) rfl rfl rfl) rfl ?_; refine WL_val (rn_move (v := (.bool true)) rfl) rfl ?_; refine WL_guardY rfl rfl rfl rfl ?_; obtain ⟨y92, hy92, H⟩ := bnd H; refine WL_op rfl (OpP_callV cb19 (f19_ok  hS.sat  hy92) rfl rfl (fun w93 hb => ?_)); have hS := hS.keep hb; have hO := hO.below hb; refine WL_val (rn_pickT (v := (.bool y92)) rfl rfl rfl) rfl ?_; refine WL_val (rn_assign (v := (.bool y92)) rfl) rfl ?_; refine WL_nil ?_
           have hO : Owns G88 w93 w0.heap.size ([]) := hO
           have H := Option.some.inj H; subst H
           exact ⟨_, G88, upds_self _ _ ⟨rfl, trivial⟩, Gle.refl _, hS, hO⟩
          ·have H := ifF hb91 H; refine WL_guardY rfl hb91 rfl rfl ?_
           have l1_7 := l1_6.trans leG88
           refine WL_val (rn_loadA ag46 (cs := [.int .i64 x0.Islets, .slice a1 n1 c1, .slice a2 n2 c2, .slice a3 n3 c3, .int .i64 x0.Wait]) rfl rfl (fun j v hj => (hS.sat.le l1_7).cell (hcb7.drop_take 0 5 j v hj))) rfl ?_; refine WL_guardY rfl hb91 rfl rfl ?_; refine WL_val (rn_move (v := (.slice a6 n6 c6)) rfl) rfl ?_; refine WL_guardY rfl hb91 rfl rfl ?_; obtain ⟨y94, hy94, H⟩ := bnd H
           have l0_7 := l0_6.trans leG88
           refine WL_op rfl (OpP_callV cb52 (f52_ok (x0 := x0) (x1 := x4) hS.sat (h1.mono RInt_mono l0_7) (h2.mono RInt_mono l0_7) (h3.mono RTBaneTrip_mono l0_7) (h6.mono RInt_mono l0_7) hy94) rfl rfl (fun w95 hb => ?_)); have hS := hS.keep hb; have hO := hO.below hb; refine WL_guardY rfl hb91 rfl rfl ?_; refine WL_val (rn_move (v := (.int .i64 y69)) rfl) rfl ?_; refine WL_guardY rfl hb91 rfl rfl ?_; refine WL_val (rn_gtr rfl rfl) rfl ?_; refine WL_val (rn_pickF (v := (.bool (decide (y69 < y94)))) rfl hb91 rfl) rfl ?_; refine WL_val (rn_move (v := (.bool (decide (y69 < y94)))) rfl) rfl ?_
           rcases bcases (decide (y69 < y94)) with hb96 | hb96
           ·have H := ifT hb96 H; refine WL_guardN rfl hb96 rfl rfl rfl ?_; refine WL_guardN rfl hb96 rfl rfl rfl ?_; refine WL_guardN rfl hb96 rfl rfl rfl ?_; refine WL_guardN rfl hb96 rfl rfl rfl ?_; refine WL_guardN rfl hb96 rfl rfl rfl ?_; refine WL_guardN rfl hb96 rfl rfl rfl ?_; refine WL_guardU rfl rfl rfl rfl ?_; refine WL_guardU rfl rfl rfl rfl ?_; refine WL_guardU rfl rfl rfl rfl ?_; refine WL_guardU rfl rfl rfl rfl ?_; refine WL_guardU rfl rfl rfl rfl ?_; refine WL_guardU rfl rfl rfl rfl ?_; refine WL_guardU rfl rfl rfl rfl ?_; refine WL_guardU rfl rfl rfl rfl ?_; refine WL_guardU rfl rfl rfl rfl ?_; refine WL_guardU rfl rfl rfl rfl ?_; refine WL_guardU rfl rfl rfl rfl ?_; refine WL_guardU rfl rfl rfl rfl ?_; refine WL_guardU rfl rfl rfl rfl ?_; refine WL_guardU rfl rfl rfl rfl ?_; refine WL_guardU rfl rfl rfl rfl ?_; refine WL_guardU rfl rfl rfl rfl ?_; refine WL_guardU rfl rfl rfl rfl ?_; refine WL_guardU rfl rfl rfl rfl ?_; refine WL_guardN rfl hb96 rfl rfl rfl ?_; refine WL_val (rn_pickT (v := (.bool true)) rfl hb96 rfl) rfl ?_; refine WL_val (rn_move (v := (.bool true)) rfl) rfl ?_; refine WL_guardY rfl rfl rfl rfl ?_; obtain ⟨y97, hy97, H⟩ := bnd H; refine WL_op rfl (OpP_callV cb19 (f19_ok  hS.sat  hy97) rfl rfl (fun w98 hb => ?_)); have hS := hS.keep hb; have hO := hO.below hb; refine WL_val (rn_pickT (v := (.bool y97)) rfl rfl rfl) rfl ?_; refine WL_val (rn_assign (v := (.bool y97)) rfl) rfl ?_; refine WL_nil ?_
            have hO : Owns G88 w98 w0.heap.size ([]) := hO
            have H := Option.some.inj H; subst H
            exact ⟨_, G88, upds_self _ _ ⟨rfl, trivial⟩, Gle.refl _, hS, hO⟩
           ·have H := ifF hb96 H; refine WL_guardY rfl hb96 rfl rfl ?_; refine WL_val (rn_loadA ag46 (cs := [.int .i64 x0.Islets, .slice a1 n1 c1, .slice a2 n2 c2, .slice a3 n3 c3, .int .i64 x0.Wait]) rfl rfl (fun j v hj => (hS.sat.le l1_7).cell (hcb7.drop_take 0 5 j v hj))) rfl ?_; refine WL_guardY rfl hb96 rfl rfl ?_; refine WL_val (rn_move (v := (.slice a6 n6 c6)) rfl) rfl ?_; refine WL_guardY rfl hb96 rfl rfl ?_; obtain ⟨y99, hy99, H⟩ := bnd H; refine WL_op rfl (OpP_callV cb52 (f52_ok (x0 := x0) (x1 := x4) hS.sat (h1.mono RInt_mono l0_7) (h2.mono RInt_mono l0_7) (h3.mono RTBaneTrip_mono l0_7) (h6.mono RInt_mono l0_7) hy99) rfl rfl (fun w100 hb => ?_)); have hS := hS.keep hb; have hO := hO.below hb; refine WL_guardY rfl hb96 rfl rfl ?_; refine WL_val (rn_move (v := (.int .i64 y69)) rfl) rfl ?_; refine WL_guardY rfl hb96 rfl rfl ?_; refine WL_val (rn_eql rfl rfl) rfl ?_; refine WL_guardY rfl hb96 rfl rfl ?_; refine WL_val (rn_move (v := (.bool (y99 == y69))) rfl) rfl ?_
            rcases bcases (y99 == y69) with hb101 | hb101
            ·have H := ifT hb101 H; refine WL_guardY rfl hb101 rfl rfl ?_; refine WL_val (rn_move (v := (.slice a6 n6 c6)) rfl) rfl ?_; refine WL_guardY rfl hb101 rfl rfl ?_; refine WL_val (rn_len sl25 rfl rfl (h6.mono RInt_mono l0_7).1) rfl ?_; refine WL_guardY rfl hb101 rfl rfl ?_; refine WL_val (rn_move (v := (.slice a38 n38 c38)) rfl) rfl ?_; refine WL_guardY rfl hb101 rfl rfl ?_
             have l5_7 := leG66.trans leG88
             refine WL_val (rn_len sl25 rfl rfl (h38.mono RInt_mono l5_7).1) rfl ?_; refine WL_guardY rfl hb101 rfl rfl ?_; refine WL_val (rn_gtr rfl rfl) rfl ?_; refine WL_guardY rfl hb101 rfl rfl ?_; refine WL_val (rn_move (v := (.bool (decide ((y35.1.length : Int) < (x4.length : Int))))) rfl) rfl ?_
             rcases bcases (decide ((y35.1.length : Int) < (x4.length : Int))) with hb102 | hb102
             ·have H := ifT hb102 H; refine WL_guardN rfl hb102 rfl rfl rfl ?_; refine WL_guardN rfl hb102 rfl rfl rfl ?_; refine WL_guardN rfl hb102 rfl rfl rfl ?_; refine WL_guardN rfl hb102 rfl rfl rfl ?_; refine WL_guardN rfl hb102 rfl rfl rfl ?_; refine WL_guardN rfl hb102 rfl rfl rfl ?_; refine WL_guardU rfl rfl rfl rfl ?_; refine WL_guardU rfl rfl rfl rfl ?_; refine WL_guardU rfl rfl rfl rfl ?_; refine WL_guardU rfl rfl rfl rfl ?_; refine WL_guardN rfl hb102 rfl rfl rfl ?_; refine WL_guardY rfl hb101 rfl rfl ?_; refine WL_val (rn_pickT (v := (.bool true)) rfl hb102 rfl) rfl ?_; refine WL_guardY rfl hb96 rfl rfl ?_; refine WL_val (rn_pickT (v := (.bool true)) rfl hb101 rfl) rfl ?_; refine WL_val (rn_pickF (v := (.bool true)) rfl hb96 rfl) rfl ?_; refine WL_val (rn_move (v := (.bool true)) rfl) rfl ?_; refine WL_guardY rfl rfl rfl rfl ?_; obtain ⟨y103, hy103, H⟩ := bnd H; refine WL_op rfl (OpP_callV cb19 (f19_ok  hS.sat  hy103) rfl rfl (fun w104 hb => ?_)); have hS := hS.keep hb; have hO := hO.below hb; refine WL_val (rn_pickT (v := (.bool y103)) rfl rfl rfl) rfl ?_; refine WL_val (rn_assign (v := (.bool y103)) rfl) rfl ?_; refine WL_nil ?_
              have hO : Owns G88 w104 w0.heap.size ([]) := hO
              have H := Option.some.inj H; subst H
              exact ⟨_, G88, upds_self _ _ ⟨rfl, trivial⟩, Gle.refl _, hS, hO⟩
             ·have H := ifF hb102 H; refine WL_guardY rfl hb102 rfl rfl ?_; refine WL_val (rn_move (v := (.slice a6 n6 c6)) rfl) rfl ?_; refine WL_guardY rfl hb102 rfl rfl ?_; refine WL_val (rn_len sl25 rfl rfl (h6.mono RInt_mono l0_7).1) rfl ?_; refine WL_guardY rfl hb102 rfl rfl ?_; refine WL_val (rn_move (v := (.slice a38 n38 c38)) rfl) rfl ?_; refine WL_guardY rfl hb102 rfl rfl ?_; refine WL_val (rn_len sl25 rfl rfl (h38.mono RInt_mono l5_7).1) rfl ?_; refine WL_guardY rfl hb102 rfl rfl ?_; refine WL_val (rn_eql rfl rfl) rfl ?_; refine WL_guardY rfl hb102 rfl rfl ?_; refine WL_val (rn_move (v := (.bool ((x4.length : Int) == (y35.1.length : Int)))) rfl) rfl ?_
              rcases bcases ((x4.length : Int) == (y35.1.length : Int)) with hb105 | hb105
              ·have H := ifT hb105 H; refine WL_guardY rfl hb105 rfl rfl ?_; refine WL_val (rn_move (v := (.slice a6 n6 c6)) rfl) rfl ?_; refine WL_guardY rfl hb105 rfl rfl ?_; refine WL_val (rn_move (v := (.slice a38 n38 c38)) rfl) rfl ?_; refine WL_guardY rfl hb105 rfl rfl ?_; obtain ⟨y106, hy106, H⟩ := bnd H; refine WL_op rfl (OpP_callV cb47 (f47_ok (x0 := x4) (x1 := y35.1) hS.sat (h6.mono RInt_mono l0_7) (h38.mono RInt_mono l5_7) hy106) rfl rfl (fun w107 hb => ?_)); have hS := hS.keep hb; have hO := hO.below hb; refine WL_guardY rfl hb105 rfl rfl ?_; refine WL_val (rn_not rfl) rfl ?_; refine WL_guardY rfl hb102 rfl rfl ?_; refine WL_val (rn_pickT (v := (.bool (!y106))) rfl hb105 rfl) rfl ?_; refine WL_guardY rfl hb101 rfl rfl ?_; refine WL_val (rn_pickF (v := (.bool (!y106))) rfl hb102 rfl) rfl ?_; refine WL_guardY rfl hb96 rfl rfl ?_; refine WL_val (rn_pickT (v := (.bool (!y106))) rfl hb101 rfl) rfl ?_; refine WL_val (rn_pickF (v := (.bool (!y106))) rfl hb96 rfl) rfl ?_; refine WL_val (rn_move (v := (.bool (!y106))) rfl) rfl ?_
               rcases bcases (!y106) with hb108 | hb108
               ·have H := ifT hb108 H; refine WL_guardY rfl hb108 rfl rfl ?_; obtain ⟨y109, hy109, H⟩ := bnd H; refine WL_op rfl (OpP_callV cb19 (f19_ok  hS.sat  hy109) rfl rfl (fun w110 hb => ?_)); have hS := hS.keep hb; have hO := hO.below hb; refine WL_val (rn_pickT (v := (.bool y109)) rfl hb108 rfl) rfl ?_; refine WL_val (rn_assign (v := (.bool y109)) rfl) rfl ?_; refine WL_nil ?_
                have hO : Owns G88 w110 w0.heap.size ([]) := hO
                have H := Option.some.inj H; subst H
                exact ⟨_, G88, upds_self _ _ ⟨rfl, trivial⟩, Gle.refl _, hS, hO⟩
               ·have H := ifF hb108 H; refine WL_guardN rfl hb108 rfl rfl rfl ?_; refine WL_val (rn_pickF (v := (.bool false)) rfl hb108 rfl) rfl ?_; refine WL_val (rn_assign (v := (.bool false)) rfl) rfl ?_; refine WL_nil ?_
                have hO : Owns G88 w107 w0.heap.size ([]) := hO
                have H := Option.some.inj H; subst H
                exact ⟨_, G88, upds_self _ _ ⟨rfl, trivial⟩, Gle.refl _, hS, hO⟩
              ·have H := ifF hb105 H; refine WL_guardN rfl hb105 rfl rfl rfl ?_; refine WL_guardN rfl hb105 rfl rfl rfl ?_; refine WL_guardN rfl hb105 rfl rfl rfl ?_; refine WL_guardN rfl hb105 rfl rfl rfl ?_; refine WL_guardY rfl hb102 rfl rfl ?_; refine WL_val (rn_pickF (v := (.bool false)) rfl hb105 rfl) rfl ?_; refine WL_guardY rfl hb101 rfl rfl ?_; refine WL_val (rn_pickF (v := (.bool false)) rfl hb102 rfl) rfl ?_; refine WL_guardY rfl hb96 rfl rfl ?_; refine WL_val (rn_pickT (v := (.bool false)) rfl hb101 rfl) rfl ?_; refine WL_val (rn_pickF (v := (.bool false)) rfl hb96 rfl) rfl ?_; refine WL_val (rn_move (v := (.bool false)) rfl) rfl ?_; refine WL_guardN rfl rfl rfl rfl rfl ?_; refine WL_val (rn_pickF (v := (.bool false)) rfl rfl rfl) rfl ?_; refine WL_val (rn_assign (v := (.bool false)) rfl) rfl ?_; refine WL_nil ?_
               have hO : Owns G88 w100 w0.heap.size ([]) := hO
               have H := Option.some.inj H; subst H
               exact ⟨_, G88, upds_self _ _ ⟨rfl, trivial⟩, Gle.refl _, hS, hO⟩
            ·have H := ifF hb101 H; refine WL_guardN rfl hb101 rfl rfl rfl ?_; refine WL_guardN rfl hb101 rfl rfl rfl ?_; refine WL_guardN rfl hb101 rfl rfl rfl ?_; refine WL_guardN rfl hb101 rfl rfl rfl ?_; refine WL_guardN rfl hb101 rfl rfl rfl ?_; refine WL_guardN rfl hb101 rfl rfl rfl ?_; refine WL_guardU rfl rfl rfl rfl ?_; refine WL_guardU rfl rfl rfl rfl ?_; refine WL_guardU rfl rfl rfl rfl ?_; refine WL_guardU rfl rfl rfl rfl ?_; refine WL_guardU rfl rfl rfl rfl ?_; refine WL_guardU rfl rfl rfl rfl ?_; refine WL_guardU rfl rfl rfl rfl ?_; refine WL_guardU rfl rfl rfl rfl ?_; refine WL_guardU rfl rfl rfl rfl ?_; refine WL_guardU rfl rfl rfl rfl ?_; refine WL_guardU rfl rfl rfl rfl ?_; refine WL_guardN rfl hb101 rfl rfl rfl ?_; refine WL_guardY rfl hb96 rfl rfl ?_; refine WL_val (rn_pickF (v := (.bool false)) rfl hb101 rfl) rfl ?_; refine WL_val (rn_pickF (v := (.bool false)) rfl hb96 rfl) rfl ?_; refine WL_val (rn_move (v := (.bool false)) rfl) rfl ?_; refine WL_guardN rfl rfl rfl rfl rfl ?_; refine WL_val (rn_pickF (v := (.bool false)) rfl rfl rfl) rfl ?_; refine WL_val (rn_assign (v := (.bool false)) rfl) rfl ?_; refine WL_nil ?_
             have hO : Owns G88 w100 w0.heap.size ([]) := hO
             have H := Option.some.inj H; subst H
             exact ⟨_, G88, upds_self _ _ ⟨rfl, trivial⟩, Gle.refl _, hS, hO⟩
         ·rintro F w111 ⟨Fb, G112, rfl, leG112, hS, hO⟩
          refine WC_ret ?_
          have H : some q90 = some r := H
          have H := Option.some.inj H; subst H
          exact ⟨rfl, hS.below⟩
end Go.Proofs.Ytgplafckddpnkaa
