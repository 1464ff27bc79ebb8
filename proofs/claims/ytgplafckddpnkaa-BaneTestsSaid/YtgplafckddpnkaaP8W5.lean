/-
  The walks: each Go function computes its plain function (printed by a program of ours).
-/
import Derived.Test.YtgplafckddpnkaaRd
import Derived.Test.YtgplafckddpnkaaIt
import Derived.Test.YtgplafckddpnkaaP8W4
namespace Go.Proofs.Ytgplafckddpnkaa
open Go.RowKit
set_option linter.unusedVariables false

set_option maxRecDepth 20000
set_option linter.unusedVariables false
set_option maxHeartbeats 1000000 in
theorem f8_ok {G0 : Gm} {w0 : World} (hS0 : Sat G0 w0) {x0 : TBaneWeb} {a1 : Option Addr} {n1 c1 : Nat} {x1 : (List Int)} {a2 : Option Addr} {n2 c2 : Nat} {x2 : (List Int)} {a3 : Option Addr} {n3 c3 : Nat} (h1 : RSl RTBaneFish 5 G0 a1 n1 c1 x0.Fish) (h2 : RSl RInt 1 G0 a2 n2 c2 x1) (h3 : RSl RInt 1 G0 a3 n3 c3 x2) {r : Bool} (H : f8 x0 x1 x2 = some r) :
    Calls Try.prog 8 #[.agg #[.slice a1 n1 c1, .int .i64 x0.Limit], .slice a2 n2 c2, .slice a3 n3 c3] w0 (RetV w0 (.bool r)) := by
  have hS := Since.start hS0
  have hO : Owns G0 w0 w0.heap.size [] := Owns.nil (Nat.le_refl _)
  unfold f8 at H
  refine enter1 (N := 135) (shutV _ _) Try.func8 rfl rfl rfl rfl ?_
  refine WC_seq ?_
  refine WC_region ?_
  refine WL_op rfl (OpP_newF (v := fun b => .pointer (some ⟨b, 0, none⟩)) (cs := [.slice a1 n1 c1, .int .i64 x0.Limit]) (e := 24) (rn_boxA rfl) hS.sat rfl (fun b4 G6 w5 hg hcb4 => ?_))
  have hS := hS.grow hg
  have hO := hO.grow hg
  have leG6 := hg.le
  refine WL_val (rn_assign (v := (.bool false)) rfl) rfl ?_
  refine WL_nil ?_
  refine WC_seq ?_
  refine WC_seq ?_
  obtain ⟨q7, hq7, H⟩ := bnd H
  refine WC_cut (fun F w => ∃ (Fb : Fr) (G : Gm), F = upds Fb [(1, .slice a2 n2 c2), (2, .slice a3 n3 c3), (3, .pointer (some ⟨b4, 0, none⟩)), (26, .bool q7)] ∧ Gle G6 G ∧ Since w0.heap.size G0 w0 G w ∧ Owns G w w0.heap.size []) ?_ ?_
  · have Hoq7 := H
    have H := hq7
    refine WC_region ?_
    refine WL_val (rn_loadA ag24 (cs := [.slice a1 n1 c1, .int .i64 x0.Limit]) rfl rfl (fun j v hj => hS.sat.cell (hcb4.drop_take 0 2 j v hj))) rfl ?_
    obtain ⟨y8, hy8, H⟩ := bnd H
    refine WL_op rfl (OpP_callV cb17 (f17_ok (x0 := x0) hS.sat (h1.mono RTBaneFish_mono leG6) hy8) rfl rfl (fun w9 hb => ?_))
    have hS := hS.keep hb
    have hO := hO.below hb
    refine WL_val (rn_not rfl) rfl ?_
    refine WL_val (rn_move (v := (.bool (!y8))) rfl) rfl ?_
    rcases bcases (!y8) with hb10 | hb10
    · have H := ifT hb10 H
      refine WL_guardN rfl hb10 rfl rfl rfl ?_
      refine WL_guardN rfl hb10 rfl rfl rfl ?_
      refine WL_guardN rfl hb10 rfl rfl rfl ?_
      refine WL_val (rn_pickT (v := (.bool true)) rfl hb10 rfl) rfl ?_
      refine WL_val (rn_move (v := (.bool true)) rfl) rfl ?_
      refine WL_guardN rfl rfl rfl rfl rfl ?_
      refine WL_guardN rfl rfl rfl rfl rfl ?_
      refine WL_guardN rfl rfl rfl rfl rfl ?_
      refine WL_val (rn_pickT (v := (.bool true)) rfl rfl rfl) rfl ?_
      refine WL_nil ?_
      have hO : Owns G6 w9 w0.heap.size ([]) := hO
      have H := Option.some.inj H
      subst H
      exact ⟨_, G6, upds_self _ _ ⟨rfl, rfl, rfl, rfl, trivial⟩, Gle.refl _, hS, hO⟩
    · have H := ifF hb10 H
      refine WL_guardY rfl hb10 rfl rfl ?_
      refine WL_val (rn_move (v := (.slice a2 n2 c2)) rfl) rfl ?_
      refine WL_guardY rfl hb10 rfl rfl ?_
      refine WL_val (rn_len sl25 rfl rfl (h2.mono RInt_mono leG6).1) rfl ?_
      refine WL_guardY rfl hb10 rfl rfl ?_
      refine WL_val (rn_gtr rfl rfl) rfl ?_
      refine WL_val (rn_pickF (v := (.bool (decide (12 < (x1.length : Int))))) rfl hb10 rfl) rfl ?_
      refine WL_val (rn_move (v := (.bool (decide (12 < (x1.length : Int))))) rfl) rfl ?_
      rcases bcases (decide (12 < (x1.length : Int))) with hb11 | hb11
      · have H := ifT hb11 H
        refine WL_guardN rfl hb11 rfl rfl rfl ?_
        refine WL_guardN rfl hb11 rfl rfl rfl ?_
        refine WL_guardN rfl hb11 rfl rfl rfl ?_
        refine WL_val (rn_pickT (v := (.bool true)) rfl hb11 rfl) rfl ?_
        refine WL_nil ?_
        have hO : Owns G6 w9 w0.heap.size ([]) := hO
        have H := Option.some.inj H
        subst H
        exact ⟨_, G6, upds_self _ _ ⟨rfl, rfl, rfl, rfl, trivial⟩, Gle.refl _, hS, hO⟩
      · have H := ifF hb11 H
        refine WL_guardY rfl hb11 rfl rfl ?_
        refine WL_val (rn_move (v := (.slice a3 n3 c3)) rfl) rfl ?_
        refine WL_guardY rfl hb11 rfl rfl ?_
        refine WL_val (rn_len sl25 rfl rfl (h3.mono RInt_mono leG6).1) rfl ?_
        refine WL_guardY rfl hb11 rfl rfl ?_
        refine WL_val (rn_gtr rfl rfl) rfl ?_
        refine WL_val (rn_pickF (v := (.bool (decide (12 < (x2.length : Int))))) rfl hb11 rfl) rfl ?_
        refine WL_nil ?_
        have hO : Owns G6 w9 w0.heap.size ([]) := hO
        have H := Option.some.inj H
        subst H
        exact ⟨_, G6, upds_self _ _ ⟨rfl, rfl, rfl, rfl, trivial⟩, Gle.refl _, hS, hO⟩
  · rintro F w12 ⟨Fb, G13, rfl, leG13, hS, hO⟩
    refine WC_cond rfl (fun hb14 => ?_) (fun hb14 => ?_)
    · have H := ifT hb14 H
      refine WC_seq ?_
      refine WC_region ?_
      obtain ⟨y15, hy15, H⟩ := bnd H
      refine WL_op rfl (OpP_callV cb19 (f19_ok  hS.sat  hy15) rfl rfl (fun w16 hb => ?_))
      have hS := hS.keep hb
      have hO := hO.below hb
      refine WL_val (rn_assign (v := (.bool y15)) rfl) rfl ?_
      refine WL_nil ?_
      refine WC_ret ?_
      have H : some y15 = some r := H
      have H := Option.some.inj H
      subst H
      exact ⟨rfl, hS.below⟩
    · have H := ifF hb14 H
      refine WC_skip ?_
      refine WC_seq ?_
      refine WC_region ?_
      refine WL_val (rn_loadA ag24 (cs := [.slice a1 n1 c1, .int .i64 x0.Limit]) rfl rfl (fun j v hj => (hS.sat.le leG13).cell (hcb4.drop_take 0 2 j v hj))) rfl ?_
      refine WL_val (rn_move (v := (.slice a2 n2 c2)) rfl) rfl ?_
      refine WL_val (rn_move (v := (.slice a3 n3 c3)) rfl) rfl ?_
      obtain ⟨y17, hy17, H⟩ := bnd H
      have l0_2 := leG6.trans leG13
      refine WL_op rfl (OpP_callV cb41 (f41_ok (x0 := x0) (x1 := x1) (x2 := x2) hS.sat (h1.mono RTBaneFish_mono l0_2) (h2.mono RInt_mono l0_2) (h3.mono RInt_mono l0_2) hy17) rfl rfl (fun w18 hb => ?_))
      have hS := hS.keep hb
      have hO := hO.below hb
      refine WL_val (rn_move (v := (.tuple #[.bool y17.1, .int .i64 y17.2])) rfl) rfl ?_
      refine WL_val (rn_extract (v := (.bool y17.1)) rfl rfl) rfl ?_
      refine WL_val (rn_extract (v := (.int .i64 y17.2)) rfl rfl) rfl ?_
      refine WL_val (rn_assign (v := (.bool y17.1)) rfl) rfl ?_
      refine WL_val (rn_assign (v := (.int .i64 y17.2)) rfl) rfl ?_
      refine WL_nil ?_
      refine WC_seq ?_
      refine WC_region ?_
      refine WL_val (rn_loadA ag24 (cs := [.slice a1 n1 c1, .int .i64 x0.Limit]) rfl rfl (fun j v hj => (hS.sat.le leG13).cell (hcb4.drop_take 0 2 j v hj))) rfl ?_
      refine WL_val (rn_move (v := (.slice a2 n2 c2)) rfl) rfl ?_
      obtain ⟨y19, hy19, H⟩ := bnd H
      refine WL_op rfl (OpP_callG cb42 (f42_ok (x0 := x0) (x1 := x1) hS.sat (h1.mono RTBaneFish_mono l0_2) (h2.mono RInt_mono l0_2) hy19) rfl rfl (fun vy19 G21 w20 hg hvy19 => ?_))
      obtain ⟨a22, n22, c22, ⟨⟩, h22⟩ := hvy19
      have hS := hS.grow hg
      have hO := hO.grow hg
      have leG21 := hg.le
      refine WL_val (rn_move (v := (.tuple #[.slice a22 n22 c22, .int .i64 y19.2.1, .int .i64 y19.2.2])) rfl) rfl ?_
      refine WL_val (rn_extract (v := (.slice a22 n22 c22)) rfl rfl) rfl ?_
      refine WL_val (rn_extract (v := (.int .i64 y19.2.1)) rfl rfl) rfl ?_
      refine WL_val (rn_extract (v := (.int .i64 y19.2.2)) rfl rfl) rfl ?_
      refine WL_val (rn_assign (v := (.slice a22 n22 c22)) rfl) rfl ?_
      refine WL_val (rn_assign (v := (.int .i64 y19.2.1)) rfl) rfl ?_
      refine WL_val (rn_assign (v := (.int .i64 y19.2.2)) rfl) rfl ?_
      refine WL_nil ?_
      refine WC_seq ?_
      refine WC_seq ?_
      obtain ⟨q23, hq23, H⟩ := bnd H
      refine WC_cut (fun F w => ∃ (Fb : Fr) (G : Gm), F = upds Fb [(1, .slice a2 n2 c2), (2, .slice a3 n3 c3), (3, .pointer (some ⟨b4, 0, none⟩)), (7, .bool y17.1), (8, .int .i64 y17.2), (9, .slice a22 n22 c22), (10, .int .i64 y19.2.1), (11, .int .i64 y19.2.2), (52, .bool q23)] ∧ Gle G21 G ∧ Since w0.heap.size G0 w0 G w ∧ Owns G w w0.heap.size []) ?_ ?_
      · have Hoq23 := H
        have H := hq23
        refine WC_region ?_
        have l1_3 := leG13.trans leG21
        refine WL_val (rn_loadA ag24 (cs := [.slice a1 n1 c1, .int .i64 x0.Limit]) rfl rfl (fun j v hj => (hS.sat.le l1_3).cell (hcb4.drop_take 0 2 j v hj))) rfl ?_
        obtain ⟨y24, hy24, H⟩ := bnd H
        have l0_3 := l0_2.trans leG21
        refine WL_op rfl (OpP_callV cb21 (f21_ok (x0 := x0) hS.sat (h1.mono RTBaneFish_mono l0_3) hy24) rfl rfl (fun w25 hb => ?_))
        have hS := hS.keep hb
        have hO := hO.below hb
        refine WL_val (rn_not rfl) rfl ?_
        refine WL_val (rn_move (v := (.bool (!y24))) rfl) rfl ?_
        rcases bcases (!y24) with hb26 | hb26
        · have H := ifT hb26 H
          refine WL_guardN rfl hb26 rfl rfl rfl ?_
          refine WL_guardN rfl hb26 rfl rfl rfl ?_
          refine WL_guardN rfl hb26 rfl rfl rfl ?_
          refine WL_guardN rfl hb26 rfl rfl rfl ?_
          refine WL_guardN rfl hb26 rfl rfl rfl ?_
          refine WL_guardN rfl hb26 rfl rfl rfl ?_
          refine WL_val (rn_pickT (v := (.bool true)) rfl hb26 rfl) rfl ?_
          refine WL_nil ?_
          have hO : Owns G21 w25 w0.heap.size ([]) := hO
          have H := Option.some.inj H
          subst H
          exact ⟨_, G21, upds_self _ _ ⟨rfl, rfl, rfl, rfl, rfl, rfl, rfl, rfl, rfl, trivial⟩, Gle.refl _, hS, hO⟩
        · have H := ifF hb26 H
          refine WL_guardY rfl hb26 rfl rfl ?_
          refine WL_val (rn_move (v := (.slice a2 n2 c2)) rfl) rfl ?_
          refine WL_guardY rfl hb26 rfl rfl ?_
          refine WL_val (rn_fld fd24_0 rfl) rfl ?_
          refine WL_guardY rfl hb26 rfl rfl ?_
          refine WL_val (rn_load na22 rfl ((hS.sat.le l1_3).cell (hcb4 0 _ rfl))) rfl ?_
          refine WL_guardY rfl hb26 rfl rfl ?_
          refine WL_val (rn_len sl22 rfl rfl (h1.mono RTBaneFish_mono l0_3).1) rfl ?_
          refine WL_guardY rfl hb26 rfl rfl ?_
          obtain ⟨y27, hy27, H⟩ := bnd H
          refine WL_op rfl (OpP_callV cb43 (f43_ok (x0 := x1) (x1 := (x0.Fish.length : Int)) hS.sat (h2.mono RInt_mono l0_3) hy27) rfl rfl (fun w28 hb => ?_))
          have hS := hS.keep hb
          have hO := hO.below hb
          refine WL_guardY rfl hb26 rfl rfl ?_
          refine WL_val (rn_not rfl) rfl ?_
          refine WL_val (rn_pickF (v := (.bool (!y27))) rfl hb26 rfl) rfl ?_
          refine WL_nil ?_
          have hO : Owns G21 w28 w0.heap.size ([]) := hO
          have H := Option.some.inj H
          subst H
          exact ⟨_, G21, upds_self _ _ ⟨rfl, rfl, rfl, rfl, rfl, rfl, rfl, rfl, rfl, trivial⟩, Gle.refl _, hS, hO⟩
      · rintro F w29 ⟨Fb, G30, rfl, leG30, hS, hO⟩
        refine WC_cond rfl (fun hb31 => ?_) (fun hb31 => ?_)
        · have H := ifT hb31 H
          refine WC_seq ?_
          obtain ⟨q32, hq32, H⟩ := bnd H
          refine WC_cut (fun F w => ∃ (Fb : Fr) (G : Gm), F = upds Fb [(6, .bool q32)] ∧ Gle G30 G ∧ Since w0.heap.size G0 w0 G w ∧ Owns G w w0.heap.size []) ?_ ?_
          · have Hoq32 := H
            have H := hq32
            refine WC_region ?_
            refine WL_val (rn_move (v := (.int .i64 y17.2)) rfl) rfl ?_
            refine WL_val (rn_eql rfl rfl) rfl ?_
            refine WL_val (rn_move (v := (.bool (y17.2 == 2))) rfl) rfl ?_
            rcases bcases (y17.2 == 2) with hb33 | hb33
            · have H := ifT hb33 H
              refine WL_guardY rfl hb33 rfl rfl ?_
              refine WL_val (rn_move (v := (.bool y17.1)) rfl) rfl ?_
              refine WL_guardY rfl hb33 rfl rfl ?_
              refine WL_val (rn_not rfl) rfl ?_
              refine WL_val (rn_pickT (v := (.bool (!y17.1))) rfl hb33 rfl) rfl ?_
              refine WL_val (rn_move (v := (.bool (!y17.1))) rfl) rfl ?_
              rcases bcases (!y17.1) with hb34 | hb34
              · have H := ifT hb34 H
                refine WL_guardY rfl hb34 rfl rfl ?_
                refine WL_val (rn_move (v := (.int .i64 y19.2.2)) rfl) rfl ?_
                refine WL_guardY rfl hb34 rfl rfl ?_
                refine WL_val (rn_eql rfl rfl) rfl ?_
                refine WL_val (rn_pickT (v := (.bool (y19.2.2 == 2))) rfl hb34 rfl) rfl ?_
                refine WL_val (rn_move (v := (.bool (y19.2.2 == 2))) rfl) rfl ?_
                rcases bcases (y19.2.2 == 2) with hb35 | hb35
                · have H := ifT hb35 H
                  refine WL_guardY rfl hb35 rfl rfl ?_
                  refine WL_val (rn_move (v := (.slice a22 n22 c22)) rfl) rfl ?_
                  refine WL_guardY rfl hb35 rfl rfl ?_
                  refine WL_val (rn_len sl25 rfl rfl (h22.mono RInt_mono leG30).1) rfl ?_
                  refine WL_guardY rfl hb35 rfl rfl ?_
                  refine WL_val (rn_eql rfl rfl) rfl ?_
                  refine WL_val (rn_pickT (v := (.bool ((y19.1.length : Int) == 0))) rfl hb35 rfl) rfl ?_
                  refine WL_val (rn_move (v := (.bool ((y19.1.length : Int) == 0))) rfl) rfl ?_
                  rcases bcases ((y19.1.length : Int) == 0) with hb36 | hb36
                  · have H := ifT hb36 H
                    refine WL_guardY rfl hb36 rfl rfl ?_
                    refine WL_val (rn_move (v := (.int .i64 y19.2.1)) rfl) rfl ?_
                    refine WL_guardY rfl hb36 rfl rfl ?_
                    refine WL_val (rn_eql rfl rfl) rfl ?_
                    refine WL_val (rn_pickT (v := (.bool (y19.2.1 == 0))) rfl hb36 rfl) rfl ?_
                    refine WL_val (rn_move (v := (.bool (y19.2.1 == 0))) rfl) rfl ?_
                    rcases bcases (y19.2.1 == 0) with hb37 | hb37
                    · have H := ifT hb37 H
                      refine WL_guardY rfl hb37 rfl rfl ?_
                      obtain ⟨y38, hy38, H⟩ := bnd H
                      refine WL_op rfl (OpP_callV cb19 (f19_ok  hS.sat  hy38) rfl rfl (fun w39 hb => ?_))
                      have hS := hS.keep hb
                      have hO := hO.below hb
                      refine WL_val (rn_pickT (v := (.bool y38)) rfl hb37 rfl) rfl ?_
                      refine WL_val (rn_assign (v := (.bool y38)) rfl) rfl ?_
                      refine WL_nil ?_
                      have hO : Owns G30 w39 w0.heap.size ([]) := hO
                      have H := Option.some.inj H
                      subst H
                      exact ⟨_, G30, upds_self _ _ ⟨rfl, trivial⟩, Gle.refl _, hS, hO⟩
                    · have H := ifF hb37 H
                      refine WL_guardN rfl hb37 rfl rfl rfl ?_
                      refine WL_val (rn_pickF (v := (.bool false)) rfl hb37 rfl) rfl ?_
                      refine WL_val (rn_assign (v := (.bool false)) rfl) rfl ?_
                      refine WL_nil ?_
                      have hO : Owns G30 w29 w0.heap.size ([]) := hO
                      have H := Option.some.inj H
                      subst H
                      exact ⟨_, G30, upds_self _ _ ⟨rfl, trivial⟩, Gle.refl _, hS, hO⟩
                  · have H := ifF hb36 H
                    refine WL_guardN rfl hb36 rfl rfl rfl ?_
                    refine WL_guardN rfl hb36 rfl rfl rfl ?_
                    refine WL_val (rn_pickF (v := (.bool false)) rfl hb36 rfl) rfl ?_
                    refine WL_val (rn_move (v := (.bool false)) rfl) rfl ?_
                    refine WL_guardN rfl rfl rfl rfl rfl ?_
                    refine WL_val (rn_pickF (v := (.bool false)) rfl rfl rfl) rfl ?_
                    refine WL_val (rn_assign (v := (.bool false)) rfl) rfl ?_
                    refine WL_nil ?_
                    have hO : Owns G30 w29 w0.heap.size ([]) := hO
                    have H := Option.some.inj H
                    subst H
                    exact ⟨_, G30, upds_self _ _ ⟨rfl, trivial⟩, Gle.refl _, hS, hO⟩
                · have H := ifF hb35 H
                  refine WL_guardN rfl hb35 rfl rfl rfl ?_
                  refine WL_guardN rfl hb35 rfl rfl rfl ?_
                  refine WL_guardN rfl hb35 rfl rfl rfl ?_
                  refine WL_val (rn_pickF (v := (.bool false)) rfl hb35 rfl) rfl ?_
                  refine WL_val (rn_move (v := (.bool false)) rfl) rfl ?_
                  refine WL_guardN rfl rfl rfl rfl rfl ?_
                  refine WL_guardN rfl rfl rfl rfl rfl ?_
                  refine WL_val (rn_pickF (v := (.bool false)) rfl rfl rfl) rfl ?_
                  refine WL_val (rn_move (v := (.bool false)) rfl) rfl ?_
                  refine WL_guardN rfl rfl rfl rfl rfl ?_
                  refine WL_val (rn_pickF (v := (.bool false)) rfl rfl rfl) rfl ?_
                  refine WL_val (rn_assign (v := (.bool false)) rfl) rfl ?_
                  refine WL_nil ?_
                  have hO : Owns G30 w29 w0.heap.size ([]) := hO
                  have H := Option.some.inj H
                  subst H
                  exact ⟨_, G30, upds_self _ _ ⟨rfl, trivial⟩, Gle.refl _, hS, hO⟩
              · have H := ifF hb34 H
                refine WL_guardN rfl hb34 rfl rfl rfl ?_
                refine WL_guardN rfl hb34 rfl rfl rfl ?_
                refine WL_val (rn_pickF (v := (.bool false)) rfl hb34 rfl) rfl ?_
                refine WL_val (rn_move (v := (.bool false)) rfl) rfl ?_
                refine WL_guardN rfl rfl rfl rfl rfl ?_
                refine WL_guardN rfl rfl rfl rfl rfl ?_
                refine WL_guardN rfl rfl rfl rfl rfl ?_
                refine WL_val (rn_pickF (v := (.bool false)) rfl rfl rfl) rfl ?_
                refine WL_val (rn_move (v := (.bool false)) rfl) rfl ?_
                refine WL_guardN rfl rfl rfl rfl rfl ?_
                refine WL_guardN rfl rfl rfl rfl rfl ?_
                refine WL_val (rn_pickF (v := (.bool false)) rfl rfl rfl) rfl ?_
                refine WL_val (rn_move (v := (.bool false)) rfl) rfl ?_
                refine WL_guardN rfl rfl rfl rfl rfl ?_
                refine WL_val (rn_pickF (v := (.bool false)) rfl rfl rfl) rfl ?_
                refine WL_val (rn_assign (v := (.bool false)) rfl) rfl ?_
                refine WL_nil ?_
                have hO : Owns G30 w29 w0.heap.size ([]) := hO
                have H := Option.some.inj H
                subst H
                exact ⟨_, G30, upds_self _ _ ⟨rfl, trivial⟩, Gle.refl _, hS, hO⟩
            · have H := ifF hb33 H
              refine WL_guardN rfl hb33 rfl rfl rfl ?_
              refine WL_guardN rfl hb33 rfl rfl rfl ?_
              refine WL_val (rn_pickF (v := (.bool false)) rfl hb33 rfl) rfl ?_
              refine WL_val (rn_move (v := (.bool false)) rfl) rfl ?_
              refine WL_guardN rfl rfl rfl rfl rfl ?_
              refine WL_guardN rfl rfl rfl rfl rfl ?_
              refine WL_val (rn_pickF (v := (.bool false)) rfl rfl rfl) rfl ?_
              refine WL_val (rn_move (v := (.bool false)) rfl) rfl ?_
              refine WL_guardN rfl rfl rfl rfl rfl ?_
              refine WL_guardN rfl rfl rfl rfl rfl ?_
              refine WL_guardN rfl rfl rfl rfl rfl ?_
              refine WL_val (rn_pickF (v := (.bool false)) rfl rfl rfl) rfl ?_
              refine WL_val (rn_move (v := (.bool false)) rfl) rfl ?_
              refine WL_guardN rfl rfl rfl rfl rfl ?_
              refine WL_guardN rfl rfl rfl rfl rfl ?_
              refine WL_val (rn_pickF (v := (.bool false)) rfl rfl rfl) rfl ?_
              refine WL_val (rn_move (v := (.bool false)) rfl) rfl ?_
              refine WL_guardN rfl rfl rfl rfl rfl ?_
              refine WL_val (rn_pickF (v := (.bool false)) rfl rfl rfl) rfl ?_
              refine WL_val (rn_assign (v := (.bool false)) rfl) rfl ?_
              refine WL_nil ?_
              have hO : Owns G30 w29 w0.heap.size ([]) := hO
              have H := Option.some.inj H
              subst H
              exact ⟨_, G30, upds_self _ _ ⟨rfl, trivial⟩, Gle.refl _, hS, hO⟩
          · rintro F w40 ⟨Fb, G41, rfl, leG41, hS, hO⟩
            refine WC_ret ?_
            have H : some q32 = some r := H
            have H := Option.some.inj H
            subst H
            exact ⟨rfl, hS.below⟩
        · have H := ifF hb31 H
          refine WC_skip ?_
          refine WC_seq ?_
          obtain ⟨q42, hq42, H⟩ := bnd H
          refine WC_cut (fun F w => ∃ (p43 : Unit) (Fb : Fr) (G : Gm), q42 = .inl p43 ∧ F = upds Fb [(1, .slice a2 n2 c2), (3, .pointer (some ⟨b4, 0, none⟩)), (9, .slice a22 n22 c22), (10, .int .i64 y19.2.1), (11, .int .i64 y19.2.2)] ∧ Gle G30 G ∧ Since w0.heap.size G0 w0 G w ∧ Owns G w w0.heap.size []) ?_ ?_
          · have Hoq42 := H
            have H := hq42
            refine WC_seq ?_
            refine WC_region ?_
            refine WL_val (rn_move (v := (.slice a3 n3 c3)) rfl) rfl ?_
            refine WL_val (rn_fld fd24_0 rfl) rfl ?_
            have l1_4 := (leG13.trans leG21).trans leG30
            refine WL_val (rn_load na22 rfl ((hS.sat.le l1_4).cell (hcb4 0 _ rfl))) rfl ?_
            have l0_4 := (l0_2.trans leG21).trans leG30
            refine WL_val (rn_len sl22 rfl rfl (h1.mono RTBaneFish_mono l0_4).1) rfl ?_
            obtain ⟨y44, hy44, H⟩ := bnd H
            refine WL_op rfl (OpP_callV cb43 (f43_ok (x0 := x2) (x1 := (x0.Fish.length : Int)) hS.sat (h3.mono RInt_mono l0_4) hy44) rfl rfl (fun w45 hb => ?_))
            have hS := hS.keep hb
            have hO := hO.below hb
            refine WL_val (rn_not rfl) rfl ?_
            refine WL_nil ?_
            refine WC_cond rfl (fun hb46 => ?_) (fun hb46 => ?_)
            · have H := ifT hb46 H
              refine WC_seq ?_
              obtain ⟨q47, hq47, H⟩ := bnd H
              refine WC_cut (fun F w => ∃ (Fb : Fr), F = upds Fb [(1, .slice a2 n2 c2), (3, .pointer (some ⟨b4, 0, none⟩)), (9, .slice a22 n22 c22), (10, .int .i64 y19.2.1), (11, .int .i64 y19.2.2), (85, .bool q47)] ∧ w45 = w) ?_ ?_
              · have Hoq47 := H
                have H := hq47
                refine WC_region ?_
                refine WL_val (rn_move (v := (.int .i64 y17.2)) rfl) rfl ?_
                refine WL_val (rn_neq rfl rfl) rfl ?_
                refine WL_val (rn_move (v := (.bool (y17.2 != 2))) rfl) rfl ?_
                rcases bcases (y17.2 != 2) with hb48 | hb48
                · have H := ifT hb48 H
                  refine WL_guardN rfl hb48 rfl rfl rfl ?_
                  refine WL_val (rn_pickT (v := (.bool true)) rfl hb48 rfl) rfl ?_
                  refine WL_nil ?_
                  have H := Option.some.inj H
                  subst H
                  exact ⟨_, upds_self _ _ ⟨rfl, rfl, rfl, rfl, rfl, rfl, trivial⟩, rfl⟩
                · have H := ifF hb48 H
                  refine WL_guardY rfl hb48 rfl rfl ?_
                  refine WL_val (rn_move (v := (.bool y17.1)) rfl) rfl ?_
                  refine WL_val (rn_pickF (v := (.bool y17.1)) rfl hb48 rfl) rfl ?_
                  refine WL_nil ?_
                  have H := Option.some.inj H
                  subst H
                  exact ⟨_, upds_self _ _ ⟨rfl, rfl, rfl, rfl, rfl, rfl, trivial⟩, rfl⟩
              · rintro F wl ⟨Fb, rfl, rfl⟩
                refine WC_cond rfl (fun hb51 => ?_) (fun hb51 => ?_)
                · have H := ifT hb51 H
                  refine WC_seq ?_
                  refine WC_region ?_
                  refine WL_val (rn_assign (v := (.bool false)) rfl) rfl ?_
                  refine WL_nil ?_
                  refine WC_ret ?_
                  have H := Option.some.inj H
                  subst H
                  have H := Hoq42
                  have H : some false = some r := H
                  have H := Option.some.inj H
                  subst H
                  exact ⟨rfl, hS.below⟩
                · have H := ifF hb51 H
                  refine WC_skip ?_
                  have hO : Owns G30 w45 w0.heap.size ([]) := hO
                  have H := Option.some.inj H
                  subst H
                  exact ⟨_, _, G30, rfl, upds_self _ _ ⟨rfl, rfl, rfl, rfl, rfl, trivial⟩, Gle.refl _, hS, hO⟩
            · have H := ifF hb46 H
              refine WC_seq ?_
              obtain ⟨q52, hq52, H⟩ := bnd H
              refine WC_cut (fun F w => ∃ (Fb : Fr) (G : Gm), F = upds Fb [(1, .slice a2 n2 c2), (3, .pointer (some ⟨b4, 0, none⟩)), (9, .slice a22 n22 c22), (10, .int .i64 y19.2.1), (11, .int .i64 y19.2.2), (95, .bool q52)] ∧ Gle G30 G ∧ Since w0.heap.size G0 w0 G w ∧ Owns G w w0.heap.size []) ?_ ?_
              · have Hoq52 := H
                have H := hq52
                refine WC_region ?_
                refine WL_val (rn_move (v := (.int .i64 y17.2)) rfl) rfl ?_
                refine WL_val (rn_neq rfl rfl) rfl ?_
                refine WL_val (rn_move (v := (.bool (y17.2 != 0))) rfl) rfl ?_
                rcases bcases (y17.2 != 0) with hb53 | hb53
                · have H := ifT hb53 H
                  refine WL_guardN rfl hb53 rfl rfl rfl ?_
                  refine WL_guardN rfl hb53 rfl rfl rfl ?_
                  refine WL_guardN rfl hb53 rfl rfl rfl ?_
                  refine WL_guardN rfl hb53 rfl rfl rfl ?_
                  refine WL_guardN rfl hb53 rfl rfl rfl ?_
                  refine WL_guardN rfl hb53 rfl rfl rfl ?_
                  refine WL_val (rn_pickT (v := (.bool true)) rfl hb53 rfl) rfl ?_
                  refine WL_nil ?_
                  have hO : Owns G30 w45 w0.heap.size ([]) := hO
                  have H := Option.some.inj H
                  subst H
                  exact ⟨_, G30, upds_self _ _ ⟨rfl, rfl, rfl, rfl, rfl, rfl, trivial⟩, Gle.refl _, hS, hO⟩
                · have H := ifF hb53 H
                  refine WL_guardY rfl hb53 rfl rfl ?_
                  refine WL_val (rn_move (v := (.bool y17.1)) rfl) rfl ?_
                  refine WL_guardY rfl hb53 rfl rfl ?_
                  refine WL_val (rn_loadA ag24 (cs := [.slice a1 n1 c1, .int .i64 x0.Limit]) rfl rfl (fun j v hj => (hS.sat.le l1_4).cell (hcb4.drop_take 0 2 j v hj))) rfl ?_
                  refine WL_guardY rfl hb53 rfl rfl ?_
                  refine WL_val (rn_move (v := (.slice a2 n2 c2)) rfl) rfl ?_
                  refine WL_guardY rfl hb53 rfl rfl ?_
                  refine WL_val (rn_move (v := (.slice a3 n3 c3)) rfl) rfl ?_
                  refine WL_guardY rfl hb53 rfl rfl ?_
                  obtain ⟨y54, hy54, H⟩ := bnd H
                  refine WL_op rfl (OpP_callV cb44 (f44_ok (x0 := x0) (x1 := x1) (x2 := x2) hS.sat (h1.mono RTBaneFish_mono l0_4) (h2.mono RInt_mono l0_4) (h3.mono RInt_mono l0_4) hy54) rfl rfl (fun w55 hb => ?_))
                  have hS := hS.keep hb
                  have hO := hO.below hb
                  refine WL_guardY rfl hb53 rfl rfl ?_
                  refine WL_val (rn_neqB Try.underlying4 rfl rfl) rfl ?_
                  refine WL_val (rn_pickF (v := (.bool (!(y17.1 == y54)))) rfl hb53 rfl) rfl ?_
                  refine WL_nil ?_
                  have hO : Owns G30 w55 w0.heap.size ([]) := hO
                  have H := Option.some.inj H
                  subst H
                  exact ⟨_, G30, upds_self _ _ ⟨rfl, rfl, rfl, rfl, rfl, rfl, trivial⟩, Gle.refl _, hS, hO⟩
              · rintro F w56 ⟨Fb, G57, rfl, leG57, hS, hO⟩
                refine WC_cond rfl (fun hb58 => ?_) (fun hb58 => ?_)
                · have H := ifT hb58 H
                  refine WC_seq ?_
                  refine WC_region ?_
                  refine WL_val (rn_assign (v := (.bool false)) rfl) rfl ?_
                  refine WL_nil ?_
                  refine WC_ret ?_
                  have H := Option.some.inj H
                  subst H
                  have H := Hoq42
                  have H : some false = some r := H
                  have H := Option.some.inj H
                  subst H
                  exact ⟨rfl, hS.below⟩
                · have H := ifF hb58 H
                  refine WC_skip ?_
                  have hO : Owns G57 w56 w0.heap.size ([]) := hO
                  have H := Option.some.inj H
                  subst H
                  exact ⟨_, _, G57, rfl, upds_self _ _ ⟨rfl, rfl, rfl, rfl, rfl, trivial⟩, leG57, hS, hO⟩
          · rintro F w59 ⟨p43, Fb, G60, rfl, rfl, leG60, hS, hO⟩
            refine WC_seq ?_
            refine WC_region ?_
            have l1_5 := ((leG13.trans leG21).trans leG30).trans leG60
            refine WL_val (rn_loadA ag24 (cs := [.slice a1 n1 c1, .int .i64 x0.Limit]) rfl rfl (fun j v hj => (hS.sat.le l1_5).cell (hcb4.drop_take 0 2 j v hj))) rfl ?_
            refine WL_val (rn_move (v := (.slice a2 n2 c2)) rfl) rfl ?_
            obtain ⟨y61, hy61, H⟩ := bnd H
            have l0_5 := ((l0_2.trans leG21).trans leG30).trans leG60
            refine WL_op rfl (OpP_callG cb45 (f45_ok (x0 := x0) (x1 := x1) hS.sat (h1.mono RTBaneFish_mono l0_5) (h2.mono RInt_mono l0_5) hy61) rfl rfl (fun vy61 G63 w62 hg hvy61 => ?_))
            obtain ⟨a64, n64, c64, ⟨⟩, h64⟩ := hvy61
            have hS := hS.grow hg
            have hO := hO.grow hg
            have leG63 := hg.le
            refine WL_val (rn_move (v := (.tuple #[.slice a64 n64 c64, .bool y61.2])) rfl) rfl ?_
            refine WL_val (rn_extract (v := (.slice a64 n64 c64)) rfl rfl) rfl ?_
            refine WL_val (rn_extract (v := (.bool y61.2)) rfl rfl) rfl ?_
            refine WL_val (rn_assign (v := (.slice a64 n64 c64)) rfl) rfl ?_
            refine WL_val (rn_assign (v := (.bool y61.2)) rfl) rfl ?_
            refine WL_nil ?_
            refine WC_seq ?_
            refine WC_seq ?_
            refine WC_region ?_
            refine WL_val (rn_move (v := (.bool y61.2)) rfl) rfl ?_
            refine WL_val (rn_not rfl) rfl ?_
            refine WL_nil ?_
            refine WC_cond rfl (fun hb65 => ?_) (fun hb65 => ?_)
            · have H := ifT hb65 H
              refine WC_seq ?_
              obtain ⟨q66, hq66, H⟩ := bnd H
              refine WC_cut (fun F w => ∃ (Fb : Fr) (G : Gm), F = upds Fb [(6, .bool q66)] ∧ Gle G63 G ∧ Since w0.heap.size G0 w0 G w ∧ Owns G w w0.heap.size []) ?_ ?_
              · have Hoq66 := H
                have H := hq66
                refine WC_region ?_
                refine WL_val (rn_move (v := (.int .i64 y19.2.2)) rfl) rfl ?_
                refine WL_val (rn_eql rfl rfl) rfl ?_
                refine WL_val (rn_move (v := (.bool (y19.2.2 == 5))) rfl) rfl ?_
                rcases bcases (y19.2.2 == 5) with hb67 | hb67
                · have H := ifT hb67 H
                  refine WL_guardY rfl hb67 rfl rfl ?_
                  refine WL_val (rn_move (v := (.slice a22 n22 c22)) rfl) rfl ?_
                  refine WL_guardY rfl hb67 rfl rfl ?_
                  have l3_6 := (leG30.trans leG60).trans leG63
                  refine WL_val (rn_len sl25 rfl rfl (h22.mono RInt_mono l3_6).1) rfl ?_
                  refine WL_guardY rfl hb67 rfl rfl ?_
                  refine WL_val (rn_eql rfl rfl) rfl ?_
                  refine WL_val (rn_pickT (v := (.bool ((y19.1.length : Int) == 0))) rfl hb67 rfl) rfl ?_
                  refine WL_val (rn_move (v := (.bool ((y19.1.length : Int) == 0))) rfl) rfl ?_
                  rcases bcases ((y19.1.length : Int) == 0) with hb68 | hb68
                  · have H := ifT hb68 H
                    refine WL_guardY rfl hb68 rfl rfl ?_
                    refine WL_val (rn_move (v := (.int .i64 y19.2.1)) rfl) rfl ?_
                    refine WL_guardY rfl hb68 rfl rfl ?_
                    refine WL_val (rn_eql rfl rfl) rfl ?_
                    refine WL_val (rn_pickT (v := (.bool (y19.2.1 == 0))) rfl hb68 rfl) rfl ?_
                    refine WL_val (rn_move (v := (.bool (y19.2.1 == 0))) rfl) rfl ?_
                    rcases bcases (y19.2.1 == 0) with hb69 | hb69
                    · have H := ifT hb69 H
                      refine WL_guardY rfl hb69 rfl rfl ?_
                      obtain ⟨y70, hy70, H⟩ := bnd H
                      refine WL_op rfl (OpP_callV cb19 (f19_ok  hS.sat  hy70) rfl rfl (fun w71 hb => ?_))
                      have hS := hS.keep hb
                      have hO := hO.below hb
                      refine WL_val (rn_pickT (v := (.bool y70)) rfl hb69 rfl) rfl ?_
                      refine WL_val (rn_assign (v := (.bool y70)) rfl) rfl ?_
                      refine WL_nil ?_
                      have hO : Owns G63 w71 w0.heap.size ([]) := hO
                      have H := Option.some.inj H
                      subst H
                      exact ⟨_, G63, upds_self _ _ ⟨rfl, trivial⟩, Gle.refl _, hS, hO⟩
                    · have H := ifF hb69 H
                      refine WL_guardN rfl hb69 rfl rfl rfl ?_
                      refine WL_val (rn_pickF (v := (.bool false)) rfl hb69 rfl) rfl ?_
                      refine WL_val (rn_assign (v := (.bool false)) rfl) rfl ?_
                      refine WL_nil ?_
                      have hO : Owns G63 w62 w0.heap.size ([]) := hO
                      have H := Option.some.inj H
                      subst H
                      exact ⟨_, G63, upds_self _ _ ⟨rfl, trivial⟩, Gle.refl _, hS, hO⟩
                  · have H := ifF hb68 H
                    refine WL_guardN rfl hb68 rfl rfl rfl ?_
                    refine WL_guardN rfl hb68 rfl rfl rfl ?_
                    refine WL_val (rn_pickF (v := (.bool false)) rfl hb68 rfl) rfl ?_
                    refine WL_val (rn_move (v := (.bool false)) rfl) rfl ?_
                    refine WL_guardN rfl rfl rfl rfl rfl ?_
                    refine WL_val (rn_pickF (v := (.bool false)) rfl rfl rfl) rfl ?_
                    refine WL_val (rn_assign (v := (.bool false)) rfl) rfl ?_
                    refine WL_nil ?_
                    have hO : Owns G63 w62 w0.heap.size ([]) := hO
                    have H := Option.some.inj H
                    subst H
                    exact ⟨_, G63, upds_self _ _ ⟨rfl, trivial⟩, Gle.refl _, hS, hO⟩
                · have H := ifF hb67 H
                  refine WL_guardN rfl hb67 rfl rfl rfl ?_
                  refine WL_guardN rfl hb67 rfl rfl rfl ?_
                  refine WL_guardN rfl hb67 rfl rfl rfl ?_
                  refine WL_val (rn_pickF (v := (.bool false)) rfl hb67 rfl) rfl ?_
                  refine WL_val (rn_move (v := (.bool false)) rfl) rfl ?_
                  refine WL_guardN rfl rfl rfl rfl rfl ?_
                  refine WL_guardN rfl rfl rfl rfl rfl ?_
                  refine WL_val (rn_pickF (v := (.bool false)) rfl rfl rfl) rfl ?_
                  refine WL_val (rn_move (v := (.bool false)) rfl) rfl ?_
                  refine WL_guardN rfl rfl rfl rfl rfl ?_
                  refine WL_val (rn_pickF (v := (.bool false)) rfl rfl rfl) rfl ?_
                  refine WL_val (rn_assign (v := (.bool false)) rfl) rfl ?_
                  refine WL_nil ?_
                  have hO : Owns G63 w62 w0.heap.size ([]) := hO
                  have H := Option.some.inj H
                  subst H
                  exact ⟨_, G63, upds_self _ _ ⟨rfl, trivial⟩, Gle.refl _, hS, hO⟩
              · rintro F w72 ⟨Fb, G73, rfl, leG73, hS, hO⟩
                refine WC_ret ?_
                have H : some q66 = some r := H
                have H := Option.some.inj H
                subst H
                exact ⟨rfl, hS.below⟩
            · have H := ifF hb65 H
              refine WC_skip ?_
              refine WC_seq ?_
              obtain ⟨q74, hq74, H⟩ := bnd H
              refine WC_cut (fun F w => ∃ (Fb : Fr) (G : Gm), F = upds Fb [(6, .bool q74)] ∧ Gle G63 G ∧ Since w0.heap.size G0 w0 G w ∧ Owns G w w0.heap.size []) ?_ ?_
              · have Hoq74 := H
                have H := hq74
                refine WC_region ?_
                refine WL_val (rn_move (v := (.int .i64 y19.2.2)) rfl) rfl ?_
                refine WL_val (rn_eql rfl rfl) rfl ?_
                refine WL_val (rn_move (v := (.bool (y19.2.2 == 0))) rfl) rfl ?_
                rcases bcases (y19.2.2 == 0) with hb75 | hb75
                · have H := ifT hb75 H
                  refine WL_guardY rfl hb75 rfl rfl ?_
                  refine WL_val (rn_move (v := (.slice a22 n22 c22)) rfl) rfl ?_
                  refine WL_guardY rfl hb75 rfl rfl ?_
                  refine WL_val (rn_move (v := (.slice a64 n64 c64)) rfl) rfl ?_
                  refine WL_guardY rfl hb75 rfl rfl ?_
                  obtain ⟨y76, hy76, H⟩ := bnd H
                  have l3_6 := (leG30.trans leG60).trans leG63
                  refine WL_op rfl (OpP_callV cb23 (f23_ok (x0 := y19.1) (x1 := y61.1) hS.sat (h22.mono RInt_mono l3_6) h64 hy76) rfl rfl (fun w77 hb => ?_))
                  have hS := hS.keep hb
                  have hO := hO.below hb
                  refine WL_val (rn_pickT (v := (.bool y76)) rfl hb75 rfl) rfl ?_
                  refine WL_val (rn_move (v := (.bool y76)) rfl) rfl ?_
                  rcases bcases y76 with hb78 | hb78
                  · have H := ifT hb78 H
                    refine WL_guardY rfl hb78 rfl rfl ?_
                    refine WL_val (rn_move (v := (.int .i64 y19.2.1)) rfl) rfl ?_
                    refine WL_guardY rfl hb78 rfl rfl ?_
                    have l1_6 := l1_5.trans leG63
                    refine WL_val (rn_loadA ag24 (cs := [.slice a1 n1 c1, .int .i64 x0.Limit]) rfl rfl (fun j v hj => (hS.sat.le l1_6).cell (hcb4.drop_take 0 2 j v hj))) rfl ?_
                    refine WL_guardY rfl hb78 rfl rfl ?_
                    refine WL_val (rn_move (v := (.slice a64 n64 c64)) rfl) rfl ?_
                    refine WL_guardY rfl hb78 rfl rfl ?_
                    obtain ⟨y79, hy79, H⟩ := bnd H
                    have l0_6 := l0_5.trans leG63
                    refine WL_op rfl (OpP_callV cb46 (f46_ok (x0 := x0) (x1 := y61.1) hS.sat (h1.mono RTBaneFish_mono l0_6) h64 hy79) rfl rfl (fun w80 hb => ?_))
                    have hS := hS.keep hb
                    have hO := hO.below hb
                    refine WL_guardY rfl hb78 rfl rfl ?_
                    refine WL_val (rn_eql rfl rfl) rfl ?_
                    refine WL_val (rn_pickT (v := (.bool (y19.2.1 == y79))) rfl hb78 rfl) rfl ?_
                    refine WL_val (rn_move (v := (.bool (y19.2.1 == y79))) rfl) rfl ?_
                    rcases bcases (y19.2.1 == y79) with hb81 | hb81
                    · have H := ifT hb81 H
                      refine WL_guardY rfl hb81 rfl rfl ?_
                      obtain ⟨y82, hy82, H⟩ := bnd H
                      refine WL_op rfl (OpP_callV cb19 (f19_ok  hS.sat  hy82) rfl rfl (fun w83 hb => ?_))
                      have hS := hS.keep hb
                      have hO := hO.below hb
                      refine WL_val (rn_pickT (v := (.bool y82)) rfl hb81 rfl) rfl ?_
                      refine WL_val (rn_assign (v := (.bool y82)) rfl) rfl ?_
                      refine WL_nil ?_
                      have hO : Owns G63 w83 w0.heap.size ([]) := hO
                      have H := Option.some.inj H
                      subst H
                      exact ⟨_, G63, upds_self _ _ ⟨rfl, trivial⟩, Gle.refl _, hS, hO⟩
                    · have H := ifF hb81 H
                      refine WL_guardN rfl hb81 rfl rfl rfl ?_
                      refine WL_val (rn_pickF (v := (.bool false)) rfl hb81 rfl) rfl ?_
                      refine WL_val (rn_assign (v := (.bool false)) rfl) rfl ?_
                      refine WL_nil ?_
                      have hO : Owns G63 w80 w0.heap.size ([]) := hO
                      have H := Option.some.inj H
                      subst H
                      exact ⟨_, G63, upds_self _ _ ⟨rfl, trivial⟩, Gle.refl _, hS, hO⟩
                  · have H := ifF hb78 H
                    refine WL_guardN rfl hb78 rfl rfl rfl ?_
                    refine WL_guardN rfl hb78 rfl rfl rfl ?_
                    refine WL_guardN rfl hb78 rfl rfl rfl ?_
                    refine WL_guardN rfl hb78 rfl rfl rfl ?_
                    refine WL_guardN rfl hb78 rfl rfl rfl ?_
                    refine WL_val (rn_pickF (v := (.bool false)) rfl hb78 rfl) rfl ?_
                    refine WL_val (rn_move (v := (.bool false)) rfl) rfl ?_
                    refine WL_guardN rfl rfl rfl rfl rfl ?_
                    refine WL_val (rn_pickF (v := (.bool false)) rfl rfl rfl) rfl ?_
                    refine WL_val (rn_assign (v := (.bool false)) rfl) rfl ?_
                    refine WL_nil ?_
                    have hO : Owns G63 w77 w0.heap.size ([]) := hO
                    have H := Option.some.inj H
                    subst H
                    exact ⟨_, G63, upds_self _ _ ⟨rfl, trivial⟩, Gle.refl _, hS, hO⟩
                · have H := ifF hb75 H
                  refine WL_guardN rfl hb75 rfl rfl rfl ?_
                  refine WL_guardN rfl hb75 rfl rfl rfl ?_
                  refine WL_guardN rfl hb75 rfl rfl rfl ?_
                  refine WL_val (rn_pickF (v := (.bool false)) rfl hb75 rfl) rfl ?_
                  refine WL_val (rn_move (v := (.bool false)) rfl) rfl ?_
                  refine WL_guardN rfl rfl rfl rfl rfl ?_
                  refine WL_guardN rfl rfl rfl rfl rfl ?_
                  refine WL_guardN rfl rfl rfl rfl rfl ?_
                  refine WL_guardN rfl rfl rfl rfl rfl ?_
                  refine WL_guardN rfl rfl rfl rfl rfl ?_
                  refine WL_val (rn_pickF (v := (.bool false)) rfl rfl rfl) rfl ?_
                  refine WL_val (rn_move (v := (.bool false)) rfl) rfl ?_
                  refine WL_guardN rfl rfl rfl rfl rfl ?_
                  refine WL_val (rn_pickF (v := (.bool false)) rfl rfl rfl) rfl ?_
                  refine WL_val (rn_assign (v := (.bool false)) rfl) rfl ?_
                  refine WL_nil ?_
                  have hO : Owns G63 w62 w0.heap.size ([]) := hO
                  have H := Option.some.inj H
                  subst H
                  exact ⟨_, G63, upds_self _ _ ⟨rfl, trivial⟩, Gle.refl _, hS, hO⟩
              · rintro F w84 ⟨Fb, G85, rfl, leG85, hS, hO⟩
                refine WC_ret ?_
                have H : some q74 = some r := H
                have H := Option.some.inj H
                subst H
                exact ⟨rfl, hS.below⟩
end Go.Proofs.Ytgplafckddpnkaa
