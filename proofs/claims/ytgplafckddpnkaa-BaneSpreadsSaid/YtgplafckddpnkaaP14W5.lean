/-
  The walks: each Go function computes its plain function (printed by a program of ours).
-/
import Derived.Test.YtgplafckddpnkaaRd
import Derived.Test.YtgplafckddpnkaaIt
import Derived.Test.YtgplafckddpnkaaP14W4
namespace Go.Proofs.Ytgplafckddpnkaa
open Go.RowKit
set_option linter.unusedVariables false

set_option maxRecDepth 20000
set_option linter.unusedVariables false
set_option maxHeartbeats 1000000 in
theorem f14_ok {G0 : Gm} {w0 : World} (hS0 : Sat G0 w0) {x0 : TBaneSea} {a1 : Option Addr} {n1 c1 : Nat} {a2 : Option Addr} {n2 c2 : Nat} {a3 : Option Addr} {n3 c3 : Nat} {x1 : (List Int)} {a4 : Option Addr} {n4 c4 : Nat} {x2 : (List Bool)} {a5 : Option Addr} {n5 c5 : Nat} (h1 : RSl RInt 1 G0 a1 n1 c1 x0.Infested) (h2 : RSl RInt 1 G0 a2 n2 c2 x0.Clean) (h3 : RSl RTBaneTrip 4 G0 a3 n3 c3 x0.Trips) (h4 : RSl RInt 1 G0 a4 n4 c4 x1) (h5 : RSl RBool 1 G0 a5 n5 c5 x2) {r : Bool} (H : f14 x0 x1 x2 = some r) :
    Calls Try.prog 14 #[.agg #[.int .i64 x0.Islets, .slice a1 n1 c1, .slice a2 n2 c2, .slice a3 n3 c3, .int .i64 x0.Wait], .slice a4 n4 c4, .slice a5 n5 c5] w0 (RetV w0 (.bool r)) := by
  have hS := Since.start hS0
  have hO : Owns G0 w0 w0.heap.size [] := Owns.nil (Nat.le_refl _)
  unfold f14 at H
  refine enter1 (N := 123) (shutV _ _) Try.func14 rfl rfl rfl rfl ?_
  refine WC_seq ?_
  refine WC_region ?_
  refine WL_op rfl (OpP_newF (v := fun b => .pointer (some ⟨b, 0, none⟩)) (cs := [.int .i64 x0.Islets, .slice a1 n1 c1, .slice a2 n2 c2, .slice a3 n3 c3, .int .i64 x0.Wait]) (e := 46) (rn_boxA rfl) hS.sat rfl (fun b6 G8 w7 hg hcb6 => ?_))
  have hS := hS.grow hg
  have hO := hO.grow hg
  have leG8 := hg.le
  refine WL_val (rn_assign (v := (.bool false)) rfl) rfl ?_
  refine WL_nil ?_
  refine WC_seq ?_
  refine WC_seq ?_
  obtain ⟨q9, hq9, H⟩ := bnd H
  refine WC_cut (fun F w => ∃ (Fb : Fr) (G : Gm), F = upds Fb [(1, .slice a4 n4 c4), (2, .slice a5 n5 c5), (3, .pointer (some ⟨b6, 0, none⟩)), (26, .bool q9)] ∧ Gle G8 G ∧ Since w0.heap.size G0 w0 G w ∧ Owns G w w0.heap.size []) ?_ ?_
  · have Hoq9 := H
    have H := hq9
    refine WC_region ?_
    refine WL_val (rn_loadA ag46 (cs := [.int .i64 x0.Islets, .slice a1 n1 c1, .slice a2 n2 c2, .slice a3 n3 c3, .int .i64 x0.Wait]) rfl rfl (fun j v hj => hS.sat.cell (hcb6.drop_take 0 5 j v hj))) rfl ?_
    obtain ⟨y10, hy10, H⟩ := bnd H
    refine WL_op rfl (OpP_callV cb27 (f27_ok (x0 := x0) hS.sat (h1.mono RInt_mono leG8) (h2.mono RInt_mono leG8) (h3.mono RTBaneTrip_mono leG8) hy10) rfl rfl (fun w11 hb => ?_))
    have hS := hS.keep hb
    have hO := hO.below hb
    refine WL_val (rn_not rfl) rfl ?_
    refine WL_val (rn_move (v := (.bool (!y10))) rfl) rfl ?_
    rcases bcases (!y10) with hb12 | hb12
    · have H := ifT hb12 H
      refine WL_guardN rfl hb12 rfl rfl rfl ?_
      refine WL_guardN rfl hb12 rfl rfl rfl ?_
      refine WL_guardN rfl hb12 rfl rfl rfl ?_
      refine WL_val (rn_pickT (v := (.bool true)) rfl hb12 rfl) rfl ?_
      refine WL_val (rn_move (v := (.bool true)) rfl) rfl ?_
      refine WL_guardN rfl rfl rfl rfl rfl ?_
      refine WL_guardN rfl rfl rfl rfl rfl ?_
      refine WL_guardN rfl rfl rfl rfl rfl ?_
      refine WL_val (rn_pickT (v := (.bool true)) rfl rfl rfl) rfl ?_
      refine WL_nil ?_
      have hO : Owns G8 w11 w0.heap.size ([]) := hO
      have H := Option.some.inj H
      subst H
      exact ⟨_, G8, upds_self _ _ ⟨rfl, rfl, rfl, rfl, trivial⟩, Gle.refl _, hS, hO⟩
    · have H := ifF hb12 H
      refine WL_guardY rfl hb12 rfl rfl ?_
      refine WL_val (rn_move (v := (.slice a4 n4 c4)) rfl) rfl ?_
      refine WL_guardY rfl hb12 rfl rfl ?_
      refine WL_val (rn_len sl25 rfl rfl (h4.mono RInt_mono leG8).1) rfl ?_
      refine WL_guardY rfl hb12 rfl rfl ?_
      refine WL_val (rn_gtr rfl rfl) rfl ?_
      refine WL_val (rn_pickF (v := (.bool (decide (12 < (x1.length : Int))))) rfl hb12 rfl) rfl ?_
      refine WL_val (rn_move (v := (.bool (decide (12 < (x1.length : Int))))) rfl) rfl ?_
      rcases bcases (decide (12 < (x1.length : Int))) with hb13 | hb13
      · have H := ifT hb13 H
        refine WL_guardN rfl hb13 rfl rfl rfl ?_
        refine WL_guardN rfl hb13 rfl rfl rfl ?_
        refine WL_guardN rfl hb13 rfl rfl rfl ?_
        refine WL_val (rn_pickT (v := (.bool true)) rfl hb13 rfl) rfl ?_
        refine WL_nil ?_
        have hO : Owns G8 w11 w0.heap.size ([]) := hO
        have H := Option.some.inj H
        subst H
        exact ⟨_, G8, upds_self _ _ ⟨rfl, rfl, rfl, rfl, trivial⟩, Gle.refl _, hS, hO⟩
      · have H := ifF hb13 H
        refine WL_guardY rfl hb13 rfl rfl ?_
        refine WL_val (rn_move (v := (.slice a5 n5 c5)) rfl) rfl ?_
        refine WL_guardY rfl hb13 rfl rfl ?_
        refine WL_val (rn_len sl79 rfl rfl (h5.mono RBool_mono leG8).1) rfl ?_
        refine WL_guardY rfl hb13 rfl rfl ?_
        refine WL_val (rn_gtr rfl rfl) rfl ?_
        refine WL_val (rn_pickF (v := (.bool (decide (12 < (x2.length : Int))))) rfl hb13 rfl) rfl ?_
        refine WL_nil ?_
        have hO : Owns G8 w11 w0.heap.size ([]) := hO
        have H := Option.some.inj H
        subst H
        exact ⟨_, G8, upds_self _ _ ⟨rfl, rfl, rfl, rfl, trivial⟩, Gle.refl _, hS, hO⟩
  · rintro F w14 ⟨Fb, G15, rfl, leG15, hS, hO⟩
    refine WC_cond rfl (fun hb16 => ?_) (fun hb16 => ?_)
    · have H := ifT hb16 H
      refine WC_seq ?_
      refine WC_region ?_
      obtain ⟨y17, hy17, H⟩ := bnd H
      refine WL_op rfl (OpP_callV cb19 (f19_ok  hS.sat  hy17) rfl rfl (fun w18 hb => ?_))
      have hS := hS.keep hb
      have hO := hO.below hb
      refine WL_val (rn_assign (v := (.bool y17)) rfl) rfl ?_
      refine WL_nil ?_
      refine WC_ret ?_
      have H : some y17 = some r := H
      have H := Option.some.inj H
      subst H
      exact ⟨rfl, hS.below⟩
    · have H := ifF hb16 H
      refine WC_skip ?_
      refine WC_seq ?_
      refine WC_region ?_
      refine WL_val (rn_loadA ag46 (cs := [.int .i64 x0.Islets, .slice a1 n1 c1, .slice a2 n2 c2, .slice a3 n3 c3, .int .i64 x0.Wait]) rfl rfl (fun j v hj => (hS.sat.le leG15).cell (hcb6.drop_take 0 5 j v hj))) rfl ?_
      obtain ⟨y19, hy19, H⟩ := bnd H
      have l0_2 := leG8.trans leG15
      refine WL_op rfl (OpP_callV cb54 (f54_ok (x0 := x0) hS.sat (h1.mono RInt_mono l0_2) (h2.mono RInt_mono l0_2) (h3.mono RTBaneTrip_mono l0_2) hy19) rfl rfl (fun w20 hb => ?_))
      have hS := hS.keep hb
      have hO := hO.below hb
      refine WL_val (rn_assign (v := (.int .i64 y19)) rfl) rfl ?_
      refine WL_nil ?_
      refine WC_seq ?_
      refine WC_region ?_
      refine WL_val (rn_loadA ag46 (cs := [.int .i64 x0.Islets, .slice a1 n1 c1, .slice a2 n2 c2, .slice a3 n3 c3, .int .i64 x0.Wait]) rfl rfl (fun j v hj => (hS.sat.le leG15).cell (hcb6.drop_take 0 5 j v hj))) rfl ?_
      refine WL_val (rn_move (v := (.slice a4 n4 c4)) rfl) rfl ?_
      obtain ⟨y21, hy21, H⟩ := bnd H
      refine WL_op rfl (OpP_callG cb39 (f39_ok (x0 := x0) (x1 := x1) hS.sat (h1.mono RInt_mono l0_2) (h2.mono RInt_mono l0_2) (h3.mono RTBaneTrip_mono l0_2) (h4.mono RInt_mono l0_2) hy21) rfl rfl (fun vy21 G23 w22 hg hvy21 => ?_))
      obtain ⟨a24, n24, c24, ⟨⟩, h24⟩ := hvy21
      have hS := hS.grow hg
      have hO := hO.grow hg
      have leG23 := hg.le
      refine WL_val (rn_move (v := (.tuple #[.slice a24 n24 c24, .int .i64 y21.2])) rfl) rfl ?_
      refine WL_val (rn_extract (v := (.slice a24 n24 c24)) rfl rfl) rfl ?_
      refine WL_val (rn_extract (v := (.int .i64 y21.2)) rfl rfl) rfl ?_
      refine WL_val (rn_assign (v := (.slice a24 n24 c24)) rfl) rfl ?_
      refine WL_val (rn_assign (v := (.int .i64 y21.2)) rfl) rfl ?_
      refine WL_nil ?_
      refine WC_seq ?_
      refine WC_region ?_
      have l1_3 := leG15.trans leG23
      refine WL_val (rn_loadA ag46 (cs := [.int .i64 x0.Islets, .slice a1 n1 c1, .slice a2 n2 c2, .slice a3 n3 c3, .int .i64 x0.Wait]) rfl rfl (fun j v hj => (hS.sat.le l1_3).cell (hcb6.drop_take 0 5 j v hj))) rfl ?_
      refine WL_val (rn_move (v := (.slice a4 n4 c4)) rfl) rfl ?_
      refine WL_val (rn_move (v := (.slice a5 n5 c5)) rfl) rfl ?_
      obtain ⟨y25, hy25, H⟩ := bnd H
      have l0_3 := l0_2.trans leG23
      refine WL_op rfl (OpP_callG cb50 (f50_ok (x0 := x0) (x1 := x1) (x2 := x2) hS.sat (h1.mono RInt_mono l0_3) (h2.mono RInt_mono l0_3) (h3.mono RTBaneTrip_mono l0_3) (h4.mono RInt_mono l0_3) (h5.mono RBool_mono l0_3) hy25) rfl rfl (fun vy25 G27 w26 hg hvy25 => ?_))
      obtain ⟨a28, n28, c28, ⟨⟩, h28⟩ := hvy25
      have hS := hS.grow hg
      have hO := hO.grow hg
      have leG27 := hg.le
      refine WL_val (rn_move (v := (.tuple #[.slice a28 n28 c28, .int .i64 y25.2])) rfl) rfl ?_
      refine WL_val (rn_extract (v := (.slice a28 n28 c28)) rfl rfl) rfl ?_
      refine WL_val (rn_extract (v := (.int .i64 y25.2)) rfl rfl) rfl ?_
      refine WL_val (rn_assign (v := (.slice a28 n28 c28)) rfl) rfl ?_
      refine WL_val (rn_assign (v := (.int .i64 y25.2)) rfl) rfl ?_
      refine WL_nil ?_
      refine WC_seq ?_
      refine WC_seq ?_
      refine WC_region ?_
      have l1_4 := l1_3.trans leG27
      refine WL_val (rn_loadA ag46 (cs := [.int .i64 x0.Islets, .slice a1 n1 c1, .slice a2 n2 c2, .slice a3 n3 c3, .int .i64 x0.Wait]) rfl rfl (fun j v hj => (hS.sat.le l1_4).cell (hcb6.drop_take 0 5 j v hj))) rfl ?_
      obtain ⟨y29, hy29, H⟩ := bnd H
      have l0_4 := l0_3.trans leG27
      refine WL_op rfl (OpP_callV cb28 (f28_ok (x0 := x0) hS.sat (h1.mono RInt_mono l0_4) (h2.mono RInt_mono l0_4) (h3.mono RTBaneTrip_mono l0_4) hy29) rfl rfl (fun w30 hb => ?_))
      have hS := hS.keep hb
      have hO := hO.below hb
      refine WL_val (rn_assign (v := (.bool y29)) rfl) rfl ?_
      refine WL_nil ?_
      refine WC_seq ?_
      obtain ⟨q31, hq31, H⟩ := bnd H
      refine WC_cut (fun F w => ∃ (Fb : Fr), F = upds Fb [(1, .slice a4 n4 c4), (2, .slice a5 n5 c5), (3, .pointer (some ⟨b6, 0, none⟩)), (8, .slice a24 n24 c24), (9, .int .i64 y21.2), (10, .slice a28 n28 c28), (11, .int .i64 y25.2), (57, .bool q31)] ∧ w30 = w) ?_ ?_
      · have Hoq31 := H
        have H := hq31
        refine WC_region ?_
        refine WL_val (rn_move (v := (.bool y29)) rfl) rfl ?_
        refine WL_val (rn_move (v := (.bool y29)) rfl) rfl ?_
        rcases bcases y29 with hb32 | hb32
        · have H := ifT hb32 H
          refine WL_guardY rfl hb32 rfl rfl ?_
          refine WL_val (rn_move (v := (.int .i64 y19)) rfl) rfl ?_
          refine WL_guardY rfl hb32 rfl rfl ?_
          refine WL_val (rn_neq rfl rfl) rfl ?_
          refine WL_val (rn_pickT (v := (.bool (y19 != 0))) rfl hb32 rfl) rfl ?_
          refine WL_val (rn_move (v := (.bool (y19 != 0))) rfl) rfl ?_
          rcases bcases (y19 != 0) with hb33 | hb33
          · have H := ifT hb33 H
            refine WL_guardN rfl hb33 rfl rfl rfl ?_
            refine WL_guardN rfl hb33 rfl rfl rfl ?_
            refine WL_guardN rfl hb33 rfl rfl rfl ?_
            refine WL_guardU rfl rfl rfl rfl ?_
            refine WL_guardU rfl rfl rfl rfl ?_
            refine WL_guardN rfl hb33 rfl rfl rfl ?_
            refine WL_val (rn_pickT (v := (.bool true)) rfl hb33 rfl) rfl ?_
            refine WL_nil ?_
            have H := Option.some.inj H
            subst H
            exact ⟨_, upds_self _ _ ⟨rfl, rfl, rfl, rfl, rfl, rfl, rfl, rfl, trivial⟩, rfl⟩
          · have H := ifF hb33 H
            refine WL_guardY rfl hb33 rfl rfl ?_
            refine WL_val (rn_move (v := (.bool y29)) rfl) rfl ?_
            refine WL_guardY rfl hb33 rfl rfl ?_
            refine WL_val (rn_not rfl) rfl ?_
            refine WL_guardY rfl hb33 rfl rfl ?_
            refine WL_val (rn_move (v := (.bool (!y29))) rfl) rfl ?_
            refine WL_guardN rfl (notF hb32) rfl rfl rfl ?_
            refine WL_guardN rfl (notF hb32) rfl rfl rfl ?_
            refine WL_guardY rfl hb33 rfl rfl ?_
            refine WL_val (rn_pickF (v := (.bool false)) rfl (notF hb32) rfl) rfl ?_
            refine WL_val (rn_pickF (v := (.bool false)) rfl hb33 rfl) rfl ?_
            refine WL_nil ?_
            have H := Option.some.inj H
            subst H
            exact ⟨_, upds_self _ _ ⟨rfl, rfl, rfl, rfl, rfl, rfl, rfl, rfl, trivial⟩, rfl⟩
        · have H := ifF hb32 H
          refine WL_guardN rfl hb32 rfl rfl rfl ?_
          refine WL_guardN rfl hb32 rfl rfl rfl ?_
          refine WL_val (rn_pickF (v := (.bool false)) rfl hb32 rfl) rfl ?_
          refine WL_val (rn_move (v := (.bool false)) rfl) rfl ?_
          refine WL_guardY rfl rfl rfl rfl ?_
          refine WL_val (rn_move (v := (.bool y29)) rfl) rfl ?_
          refine WL_guardY rfl rfl rfl rfl ?_
          refine WL_val (rn_not rfl) rfl ?_
          refine WL_guardY rfl rfl rfl rfl ?_
          refine WL_val (rn_move (v := (.bool (!y29))) rfl) rfl ?_
          refine WL_guardY rfl (notT hb32) rfl rfl ?_
          refine WL_val (rn_move (v := (.int .i64 y19)) rfl) rfl ?_
          refine WL_guardY rfl (notT hb32) rfl rfl ?_
          refine WL_val (rn_neq rfl rfl) rfl ?_
          refine WL_guardY rfl rfl rfl rfl ?_
          refine WL_val (rn_pickT (v := (.bool (y19 != 2))) rfl (notT hb32) rfl) rfl ?_
          refine WL_val (rn_pickF (v := (.bool (y19 != 2))) rfl rfl rfl) rfl ?_
          refine WL_nil ?_
          have H := Option.some.inj H
          subst H
          exact ⟨_, upds_self _ _ ⟨rfl, rfl, rfl, rfl, rfl, rfl, rfl, rfl, trivial⟩, rfl⟩
      · rintro F wl ⟨Fb, rfl, rfl⟩
        refine WC_cond rfl (fun hb36 => ?_) (fun hb36 => ?_)
        · have H := ifT hb36 H
          refine WC_seq ?_
          refine WC_region ?_
          refine WL_val (rn_assign (v := (.bool false)) rfl) rfl ?_
          refine WL_nil ?_
          refine WC_ret ?_
          have H : some false = some r := H
          have H := Option.some.inj H
          subst H
          exact ⟨rfl, hS.below⟩
        · have H := ifF hb36 H
          refine WC_skip ?_
          refine WC_seq ?_
          refine WC_seq ?_
          refine WC_region ?_
          refine WL_val (rn_loadA ag46 (cs := [.int .i64 x0.Islets, .slice a1 n1 c1, .slice a2 n2 c2, .slice a3 n3 c3, .int .i64 x0.Wait]) rfl rfl (fun j v hj => (hS.sat.le l1_4).cell (hcb6.drop_take 0 5 j v hj))) rfl ?_
          refine WL_val (rn_move (v := (.slice a4 n4 c4)) rfl) rfl ?_
          obtain ⟨y37, hy37, H⟩ := bnd H
          refine WL_op rfl (OpP_callV cb30 (f30_ok (x0 := x0) (x1 := x1) hS.sat (h1.mono RInt_mono l0_4) (h2.mono RInt_mono l0_4) (h3.mono RTBaneTrip_mono l0_4) (h4.mono RInt_mono l0_4) hy37) rfl rfl (fun w38 hb => ?_))
          have hS := hS.keep hb
          have hO := hO.below hb
          refine WL_val (rn_assign (v := (.int .i64 y37)) rfl) rfl ?_
          refine WL_nil ?_
          refine WC_seq ?_
          refine WC_region ?_
          refine WL_val (rn_move (v := (.int .i64 y37)) rfl) rfl ?_
          refine WL_val (rn_neq rfl rfl) rfl ?_
          refine WL_nil ?_
          refine WC_cond rfl (fun hb39 => ?_) (fun hb39 => ?_)
          · have H := ifT hb39 H
            refine WC_seq ?_
            obtain ⟨q40, hq40, H⟩ := bnd H
            refine WC_cut (fun F w => ∃ (Fb : Fr) (G : Gm), F = upds Fb [(6, .bool q40)] ∧ Gle G27 G ∧ Since w0.heap.size G0 w0 G w ∧ Owns G w w0.heap.size []) ?_ ?_
            · have Hoq40 := H
              have H := hq40
              refine WC_region ?_
              refine WL_val (rn_move (v := (.int .i64 y21.2)) rfl) rfl ?_
              refine WL_val (rn_move (v := (.int .i64 y37)) rfl) rfl ?_
              refine WL_val (rn_eql rfl rfl) rfl ?_
              refine WL_val (rn_move (v := (.bool (y21.2 == y37))) rfl) rfl ?_
              rcases bcases (y21.2 == y37) with hb41 | hb41
              · have H := ifT hb41 H
                refine WL_guardY rfl hb41 rfl rfl ?_
                refine WL_val (rn_move (v := (.int .i64 y25.2)) rfl) rfl ?_
                refine WL_guardY rfl hb41 rfl rfl ?_
                refine WL_val (rn_move (v := (.int .i64 y37)) rfl) rfl ?_
                refine WL_guardY rfl hb41 rfl rfl ?_
                refine WL_val (rn_eql rfl rfl) rfl ?_
                refine WL_val (rn_pickT (v := (.bool (y25.2 == y37))) rfl hb41 rfl) rfl ?_
                refine WL_val (rn_move (v := (.bool (y25.2 == y37))) rfl) rfl ?_
                rcases bcases (y25.2 == y37) with hb42 | hb42
                · have H := ifT hb42 H
                  refine WL_guardY rfl hb42 rfl rfl ?_
                  refine WL_val (rn_move (v := (.slice a24 n24 c24)) rfl) rfl ?_
                  refine WL_guardY rfl hb42 rfl rfl ?_
                  refine WL_val (rn_len sl25 rfl rfl (h24.mono RInt_mono leG27).1) rfl ?_
                  refine WL_guardY rfl hb42 rfl rfl ?_
                  refine WL_val (rn_move (v := (.slice a28 n28 c28)) rfl) rfl ?_
                  refine WL_guardY rfl hb42 rfl rfl ?_
                  refine WL_val (rn_len sl25 rfl rfl h28.1) rfl ?_
                  refine WL_guardY rfl hb42 rfl rfl ?_
                  refine WL_val (rn_add rfl rfl) rfl ?_
                  refine WL_guardY rfl hb42 rfl rfl ?_
                  refine WL_val (rn_eql rfl rfl) rfl ?_
                  refine WL_val (rn_pickT (v := (.bool ((IntKind.i64.wrap ((y21.1.length : Int) + (y25.1.length : Int))) == 0))) rfl hb42 rfl) rfl ?_
                  refine WL_val (rn_move (v := (.bool ((IntKind.i64.wrap ((y21.1.length : Int) + (y25.1.length : Int))) == 0))) rfl) rfl ?_
                  rcases bcases ((IntKind.i64.wrap ((y21.1.length : Int) + (y25.1.length : Int))) == 0) with hb43 | hb43
                  · have H := ifT hb43 H
                    refine WL_guardY rfl hb43 rfl rfl ?_
                    obtain ⟨y44, hy44, H⟩ := bnd H
                    refine WL_op rfl (OpP_callV cb19 (f19_ok  hS.sat  hy44) rfl rfl (fun w45 hb => ?_))
                    have hS := hS.keep hb
                    have hO := hO.below hb
                    refine WL_val (rn_pickT (v := (.bool y44)) rfl hb43 rfl) rfl ?_
                    refine WL_val (rn_assign (v := (.bool y44)) rfl) rfl ?_
                    refine WL_nil ?_
                    have hO : Owns G27 w45 w0.heap.size ([]) := hO
                    have H := Option.some.inj H
                    subst H
                    exact ⟨_, G27, upds_self _ _ ⟨rfl, trivial⟩, Gle.refl _, hS, hO⟩
                  · have H := ifF hb43 H
                    refine WL_guardN rfl hb43 rfl rfl rfl ?_
                    refine WL_val (rn_pickF (v := (.bool false)) rfl hb43 rfl) rfl ?_
                    refine WL_val (rn_assign (v := (.bool false)) rfl) rfl ?_
                    refine WL_nil ?_
                    have hO : Owns G27 w38 w0.heap.size ([]) := hO
                    have H := Option.some.inj H
                    subst H
                    exact ⟨_, G27, upds_self _ _ ⟨rfl, trivial⟩, Gle.refl _, hS, hO⟩
                · have H := ifF hb42 H
                  refine WL_guardN rfl hb42 rfl rfl rfl ?_
                  refine WL_guardN rfl hb42 rfl rfl rfl ?_
                  refine WL_guardN rfl hb42 rfl rfl rfl ?_
                  refine WL_guardN rfl hb42 rfl rfl rfl ?_
                  refine WL_guardN rfl hb42 rfl rfl rfl ?_
                  refine WL_guardN rfl hb42 rfl rfl rfl ?_
                  refine WL_val (rn_pickF (v := (.bool false)) rfl hb42 rfl) rfl ?_
                  refine WL_val (rn_move (v := (.bool false)) rfl) rfl ?_
                  refine WL_guardN rfl rfl rfl rfl rfl ?_
                  refine WL_val (rn_pickF (v := (.bool false)) rfl rfl rfl) rfl ?_
                  refine WL_val (rn_assign (v := (.bool false)) rfl) rfl ?_
                  refine WL_nil ?_
                  have hO : Owns G27 w38 w0.heap.size ([]) := hO
                  have H := Option.some.inj H
                  subst H
                  exact ⟨_, G27, upds_self _ _ ⟨rfl, trivial⟩, Gle.refl _, hS, hO⟩
              · have H := ifF hb41 H
                refine WL_guardN rfl hb41 rfl rfl rfl ?_
                refine WL_guardN rfl hb41 rfl rfl rfl ?_
                refine WL_guardN rfl hb41 rfl rfl rfl ?_
                refine WL_val (rn_pickF (v := (.bool false)) rfl hb41 rfl) rfl ?_
                refine WL_val (rn_move (v := (.bool false)) rfl) rfl ?_
                refine WL_guardN rfl rfl rfl rfl rfl ?_
                refine WL_guardN rfl rfl rfl rfl rfl ?_
                refine WL_guardN rfl rfl rfl rfl rfl ?_
                refine WL_guardN rfl rfl rfl rfl rfl ?_
                refine WL_guardN rfl rfl rfl rfl rfl ?_
                refine WL_guardN rfl rfl rfl rfl rfl ?_
                refine WL_val (rn_pickF (v := (.bool false)) rfl rfl rfl) rfl ?_
                refine WL_val (rn_move (v := (.bool false)) rfl) rfl ?_
                refine WL_guardN rfl rfl rfl rfl rfl ?_
                refine WL_val (rn_pickF (v := (.bool false)) rfl rfl rfl) rfl ?_
                refine WL_val (rn_assign (v := (.bool false)) rfl) rfl ?_
                refine WL_nil ?_
                have hO : Owns G27 w38 w0.heap.size ([]) := hO
                have H := Option.some.inj H
                subst H
                exact ⟨_, G27, upds_self _ _ ⟨rfl, trivial⟩, Gle.refl _, hS, hO⟩
            · rintro F w46 ⟨Fb, G47, rfl, leG47, hS, hO⟩
              refine WC_ret ?_
              have H : some q40 = some r := H
              have H := Option.some.inj H
              subst H
              exact ⟨rfl, hS.below⟩
          · have H := ifF hb39 H
            refine WC_skip ?_
            refine WC_seq ?_
            refine WC_seq ?_
            obtain ⟨q48, hq48, H⟩ := bnd H
            refine WC_cut (fun F w => ∃ (Fb : Fr) (G : Gm), F = upds Fb [(1, .slice a4 n4 c4), (2, .slice a5 n5 c5), (3, .pointer (some ⟨b6, 0, none⟩)), (10, .slice a28 n28 c28), (11, .int .i64 y25.2), (92, .bool q48)] ∧ Gle G27 G ∧ Since w0.heap.size G0 w0 G w ∧ Owns G w w0.heap.size []) ?_ ?_
            · have Hoq48 := H
              have H := hq48
              refine WC_region ?_
              refine WL_val (rn_move (v := (.int .i64 y21.2)) rfl) rfl ?_
              refine WL_val (rn_neq rfl rfl) rfl ?_
              refine WL_val (rn_move (v := (.bool (y21.2 != 0))) rfl) rfl ?_
              rcases bcases (y21.2 != 0) with hb49 | hb49
              · have H := ifT hb49 H
                refine WL_guardN rfl hb49 rfl rfl rfl ?_
                refine WL_guardN rfl hb49 rfl rfl rfl ?_
                refine WL_guardN rfl hb49 rfl rfl rfl ?_
                refine WL_guardN rfl hb49 rfl rfl rfl ?_
                refine WL_guardN rfl hb49 rfl rfl rfl ?_
                refine WL_guardN rfl hb49 rfl rfl rfl ?_
                refine WL_guardN rfl hb49 rfl rfl rfl ?_
                refine WL_val (rn_pickT (v := (.bool true)) rfl hb49 rfl) rfl ?_
                refine WL_nil ?_
                have hO : Owns G27 w38 w0.heap.size ([]) := hO
                have H := Option.some.inj H
                subst H
                exact ⟨_, G27, upds_self _ _ ⟨rfl, rfl, rfl, rfl, rfl, rfl, trivial⟩, Gle.refl _, hS, hO⟩
              · have H := ifF hb49 H
                refine WL_guardY rfl hb49 rfl rfl ?_
                refine WL_val (rn_move (v := (.slice a24 n24 c24)) rfl) rfl ?_
                refine WL_guardY rfl hb49 rfl rfl ?_
                refine WL_val (rn_loadA ag46 (cs := [.int .i64 x0.Islets, .slice a1 n1 c1, .slice a2 n2 c2, .slice a3 n3 c3, .int .i64 x0.Wait]) rfl rfl (fun j v hj => (hS.sat.le l1_4).cell (hcb6.drop_take 0 5 j v hj))) rfl ?_
                refine WL_guardY rfl hb49 rfl rfl ?_
                refine WL_val (rn_move (v := (.slice a4 n4 c4)) rfl) rfl ?_
                refine WL_guardY rfl hb49 rfl rfl ?_
                obtain ⟨y50, hy50, H⟩ := bnd H
                refine WL_op rfl (OpP_callG cb56 (f56_ok (x0 := x0) (x1 := x1) hS.sat (h1.mono RInt_mono l0_4) (h2.mono RInt_mono l0_4) (h3.mono RTBaneTrip_mono l0_4) (h4.mono RInt_mono l0_4) hy50) rfl rfl (fun vy50 G52 w51 hg hvy50 => ?_))
                obtain ⟨a53, n53, c53, ⟨⟩, h53⟩ := hvy50
                have hS := hS.grow hg
                have hO := hO.grow hg
                have leG52 := hg.le
                refine WL_guardY rfl hb49 rfl rfl ?_
                obtain ⟨y54, hy54, H⟩ := bnd H
                refine WL_op rfl (OpP_callG cb55 (f55_ok (x0 := y50) hS.sat h53 hy54) rfl rfl (fun vy54 G56 w55 hg hvy54 => ?_))
                obtain ⟨a57, n57, c57, ⟨⟩, h57⟩ := hvy54
                have hS := hS.grow hg
                have hO := hO.grow hg
                have leG56 := hg.le
                refine WL_guardY rfl hb49 rfl rfl ?_
                obtain ⟨y58, hy58, H⟩ := bnd H
                have l3_6 := (leG27.trans leG52).trans leG56
                refine WL_op rfl (OpP_callV cb23 (f23_ok (x0 := y21.1) (x1 := y54) hS.sat (h24.mono RInt_mono l3_6) h57 hy58) rfl rfl (fun w59 hb => ?_))
                have hS := hS.keep hb
                have hO := hO.below hb
                refine WL_guardY rfl hb49 rfl rfl ?_
                refine WL_val (rn_not rfl) rfl ?_
                refine WL_val (rn_pickF (v := (.bool (!y58))) rfl hb49 rfl) rfl ?_
                refine WL_nil ?_
                have hO : Owns G56 w59 w0.heap.size ([]) := hO
                have H := Option.some.inj H
                subst H
                have l4_6 := leG52.trans leG56
                exact ⟨_, G56, upds_self _ _ ⟨rfl, rfl, rfl, rfl, rfl, rfl, trivial⟩, l4_6, hS, hO⟩
            · rintro F w60 ⟨Fb, G61, rfl, leG61, hS, hO⟩
              refine WC_cond rfl (fun hb62 => ?_) (fun hb62 => ?_)
              · have H := ifT hb62 H
                refine WC_seq ?_
                refine WC_region ?_
                refine WL_val (rn_assign (v := (.bool false)) rfl) rfl ?_
                refine WL_nil ?_
                refine WC_ret ?_
                have H : some false = some r := H
                have H := Option.some.inj H
                subst H
                exact ⟨rfl, hS.below⟩
              · have H := ifF hb62 H
                refine WC_skip ?_
                refine WC_seq ?_
                refine WC_seq ?_
                refine WC_region ?_
                refine WL_val (rn_move (v := (.slice a5 n5 c5)) rfl) rfl ?_
                have l0_5 := l0_4.trans leG61
                refine WL_val (rn_len sl79 rfl rfl (h5.mono RBool_mono l0_5).1) rfl ?_
                refine WL_val (rn_fld fd46_3 rfl) rfl ?_
                have l1_5 := l1_4.trans leG61
                refine WL_val (rn_load na44 rfl ((hS.sat.le l1_5).cell (hcb6 3 _ rfl))) rfl ?_
                refine WL_val (rn_len sl44 rfl rfl (h3.mono RTBaneTrip_mono l0_5).1) rfl ?_
                refine WL_val (rn_neq rfl rfl) rfl ?_
                refine WL_nil ?_
                refine WC_cond rfl (fun hb63 => ?_) (fun hb63 => ?_)
                · have H := ifT hb63 H
                  refine WC_seq ?_
                  obtain ⟨q64, hq64, H⟩ := bnd H
                  refine WC_cut (fun F w => ∃ (Fb : Fr) (G : Gm), F = upds Fb [(6, .bool q64)] ∧ Gle G61 G ∧ Since w0.heap.size G0 w0 G w ∧ Owns G w w0.heap.size []) ?_ ?_
                  · have Hoq64 := H
                    have H := hq64
                    refine WC_region ?_
                    refine WL_val (rn_move (v := (.int .i64 y25.2)) rfl) rfl ?_
                    refine WL_val (rn_eql rfl rfl) rfl ?_
                    refine WL_val (rn_move (v := (.bool (y25.2 == 2))) rfl) rfl ?_
                    rcases bcases (y25.2 == 2) with hb65 | hb65
                    · have H := ifT hb65 H
                      refine WL_guardY rfl hb65 rfl rfl ?_
                      refine WL_val (rn_move (v := (.slice a28 n28 c28)) rfl) rfl ?_
                      refine WL_guardY rfl hb65 rfl rfl ?_
                      refine WL_val (rn_len sl25 rfl rfl (h28.mono RInt_mono leG61).1) rfl ?_
                      refine WL_guardY rfl hb65 rfl rfl ?_
                      refine WL_val (rn_eql rfl rfl) rfl ?_
                      refine WL_val (rn_pickT (v := (.bool ((y25.1.length : Int) == 0))) rfl hb65 rfl) rfl ?_
                      refine WL_val (rn_move (v := (.bool ((y25.1.length : Int) == 0))) rfl) rfl ?_
                      rcases bcases ((y25.1.length : Int) == 0) with hb66 | hb66
                      · have H := ifT hb66 H
                        refine WL_guardY rfl hb66 rfl rfl ?_
                        obtain ⟨y67, hy67, H⟩ := bnd H
                        refine WL_op rfl (OpP_callV cb19 (f19_ok  hS.sat  hy67) rfl rfl (fun w68 hb => ?_))
                        have hS := hS.keep hb
                        have hO := hO.below hb
                        refine WL_val (rn_pickT (v := (.bool y67)) rfl hb66 rfl) rfl ?_
                        refine WL_val (rn_assign (v := (.bool y67)) rfl) rfl ?_
                        refine WL_nil ?_
                        have hO : Owns G61 w68 w0.heap.size ([]) := hO
                        have H := Option.some.inj H
                        subst H
                        exact ⟨_, G61, upds_self _ _ ⟨rfl, trivial⟩, Gle.refl _, hS, hO⟩
                      · have H := ifF hb66 H
                        refine WL_guardN rfl hb66 rfl rfl rfl ?_
                        refine WL_val (rn_pickF (v := (.bool false)) rfl hb66 rfl) rfl ?_
                        refine WL_val (rn_assign (v := (.bool false)) rfl) rfl ?_
                        refine WL_nil ?_
                        have hO : Owns G61 w60 w0.heap.size ([]) := hO
                        have H := Option.some.inj H
                        subst H
                        exact ⟨_, G61, upds_self _ _ ⟨rfl, trivial⟩, Gle.refl _, hS, hO⟩
                    · have H := ifF hb65 H
                      refine WL_guardN rfl hb65 rfl rfl rfl ?_
                      refine WL_guardN rfl hb65 rfl rfl rfl ?_
                      refine WL_guardN rfl hb65 rfl rfl rfl ?_
                      refine WL_val (rn_pickF (v := (.bool false)) rfl hb65 rfl) rfl ?_
                      refine WL_val (rn_move (v := (.bool false)) rfl) rfl ?_
                      refine WL_guardN rfl rfl rfl rfl rfl ?_
                      refine WL_val (rn_pickF (v := (.bool false)) rfl rfl rfl) rfl ?_
                      refine WL_val (rn_assign (v := (.bool false)) rfl) rfl ?_
                      refine WL_nil ?_
                      have hO : Owns G61 w60 w0.heap.size ([]) := hO
                      have H := Option.some.inj H
                      subst H
                      exact ⟨_, G61, upds_self _ _ ⟨rfl, trivial⟩, Gle.refl _, hS, hO⟩
                  · rintro F w69 ⟨Fb, G70, rfl, leG70, hS, hO⟩
                    refine WC_ret ?_
                    have H : some q64 = some r := H
                    have H := Option.some.inj H
                    subst H
                    exact ⟨rfl, hS.below⟩
                · have H := ifF hb63 H
                  refine WC_skip ?_
                  refine WC_seq ?_
                  obtain ⟨q71, hq71, H⟩ := bnd H
                  refine WC_cut (fun F w => ∃ (Fb : Fr) (G : Gm), F = upds Fb [(6, .bool q71)] ∧ Gle G61 G ∧ Since w0.heap.size G0 w0 G w ∧ Owns G w w0.heap.size []) ?_ ?_
                  · have Hoq71 := H
                    have H := hq71
                    refine WC_region ?_
                    refine WL_val (rn_move (v := (.int .i64 y25.2)) rfl) rfl ?_
                    refine WL_val (rn_eql rfl rfl) rfl ?_
                    refine WL_val (rn_move (v := (.bool (y25.2 == 0))) rfl) rfl ?_
                    rcases bcases (y25.2 == 0) with hb72 | hb72
                    · have H := ifT hb72 H
                      refine WL_guardY rfl hb72 rfl rfl ?_
                      refine WL_val (rn_move (v := (.slice a28 n28 c28)) rfl) rfl ?_
                      refine WL_guardY rfl hb72 rfl rfl ?_
                      refine WL_val (rn_loadA ag46 (cs := [.int .i64 x0.Islets, .slice a1 n1 c1, .slice a2 n2 c2, .slice a3 n3 c3, .int .i64 x0.Wait]) rfl rfl (fun j v hj => (hS.sat.le l1_5).cell (hcb6.drop_take 0 5 j v hj))) rfl ?_
                      refine WL_guardY rfl hb72 rfl rfl ?_
                      refine WL_val (rn_move (v := (.slice a4 n4 c4)) rfl) rfl ?_
                      refine WL_guardY rfl hb72 rfl rfl ?_
                      refine WL_val (rn_move (v := (.slice a5 n5 c5)) rfl) rfl ?_
                      refine WL_guardY rfl hb72 rfl rfl ?_
                      obtain ⟨y73, hy73, H⟩ := bnd H
                      refine WL_op rfl (OpP_callG cb57 (f57_ok (x0 := x0) (x1 := x1) (x2 := x2) hS.sat (h1.mono RInt_mono l0_5) (h2.mono RInt_mono l0_5) (h3.mono RTBaneTrip_mono l0_5) (h4.mono RInt_mono l0_5) (h5.mono RBool_mono l0_5) hy73) rfl rfl (fun vy73 G75 w74 hg hvy73 => ?_))
                      obtain ⟨a76, n76, c76, ⟨⟩, h76⟩ := hvy73
                      have hS := hS.grow hg
                      have hO := hO.grow hg
                      have leG75 := hg.le
                      refine WL_guardY rfl hb72 rfl rfl ?_
                      obtain ⟨y77, hy77, H⟩ := bnd H
                      refine WL_op rfl (OpP_callG cb55 (f55_ok (x0 := y73) hS.sat h76 hy77) rfl rfl (fun vy77 G79 w78 hg hvy77 => ?_))
                      obtain ⟨a80, n80, c80, ⟨⟩, h80⟩ := hvy77
                      have hS := hS.grow hg
                      have hO := hO.grow hg
                      have leG79 := hg.le
                      refine WL_guardY rfl hb72 rfl rfl ?_
                      obtain ⟨y81, hy81, H⟩ := bnd H
                      have l4_7 := (leG61.trans leG75).trans leG79
                      refine WL_op rfl (OpP_callV cb23 (f23_ok (x0 := y25.1) (x1 := y77) hS.sat (h28.mono RInt_mono l4_7) h80 hy81) rfl rfl (fun w82 hb => ?_))
                      have hS := hS.keep hb
                      have hO := hO.below hb
                      refine WL_val (rn_pickT (v := (.bool y81)) rfl hb72 rfl) rfl ?_
                      refine WL_val (rn_move (v := (.bool y81)) rfl) rfl ?_
                      rcases bcases y81 with hb83 | hb83
                      · have H := ifT hb83 H
                        refine WL_guardY rfl hb83 rfl rfl ?_
                        obtain ⟨y84, hy84, H⟩ := bnd H
                        refine WL_op rfl (OpP_callV cb19 (f19_ok  hS.sat  hy84) rfl rfl (fun w85 hb => ?_))
                        have hS := hS.keep hb
                        have hO := hO.below hb
                        refine WL_val (rn_pickT (v := (.bool y84)) rfl hb83 rfl) rfl ?_
                        refine WL_val (rn_assign (v := (.bool y84)) rfl) rfl ?_
                        refine WL_nil ?_
                        have hO : Owns G79 w85 w0.heap.size ([]) := hO
                        have H := Option.some.inj H
                        subst H
                        have l5_7 := leG75.trans leG79
                        exact ⟨_, G79, upds_self _ _ ⟨rfl, trivial⟩, l5_7, hS, hO⟩
                      · have H := ifF hb83 H
                        refine WL_guardN rfl hb83 rfl rfl rfl ?_
                        refine WL_val (rn_pickF (v := (.bool false)) rfl hb83 rfl) rfl ?_
                        refine WL_val (rn_assign (v := (.bool false)) rfl) rfl ?_
                        refine WL_nil ?_
                        have hO : Owns G79 w82 w0.heap.size ([]) := hO
                        have H := Option.some.inj H
                        subst H
                        have l5_7 := leG75.trans leG79
                        exact ⟨_, G79, upds_self _ _ ⟨rfl, trivial⟩, l5_7, hS, hO⟩
                    · have H := ifF hb72 H
                      refine WL_guardN rfl hb72 rfl rfl rfl ?_
                      refine WL_guardN rfl hb72 rfl rfl rfl ?_
                      refine WL_guardN rfl hb72 rfl rfl rfl ?_
                      refine WL_guardN rfl hb72 rfl rfl rfl ?_
                      refine WL_guardN rfl hb72 rfl rfl rfl ?_
                      refine WL_guardN rfl hb72 rfl rfl rfl ?_
                      refine WL_guardN rfl hb72 rfl rfl rfl ?_
                      refine WL_val (rn_pickF (v := (.bool false)) rfl hb72 rfl) rfl ?_
                      refine WL_val (rn_move (v := (.bool false)) rfl) rfl ?_
                      refine WL_guardN rfl rfl rfl rfl rfl ?_
                      refine WL_val (rn_pickF (v := (.bool false)) rfl rfl rfl) rfl ?_
                      refine WL_val (rn_assign (v := (.bool false)) rfl) rfl ?_
                      refine WL_nil ?_
                      have hO : Owns G61 w60 w0.heap.size ([]) := hO
                      have H := Option.some.inj H
                      subst H
                      exact ⟨_, G61, upds_self _ _ ⟨rfl, trivial⟩, Gle.refl _, hS, hO⟩
                  · rintro F w86 ⟨Fb, G87, rfl, leG87, hS, hO⟩
                    refine WC_ret ?_
                    have H : some q71 = some r := H
                    have H := Option.some.inj H
                    subst H
                    exact ⟨rfl, hS.below⟩
end Go.Proofs.Ytgplafckddpnkaa
