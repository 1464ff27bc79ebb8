/-
  The walks: each Go function computes its plain function (printed by a program of ours).
-/
import Derived.Test.YtgplafckddpnkaaRd
import Derived.Test.YtgplafckddpnkaaIt
import Derived.Test.YtgplafckddpnkaaP10W4
namespace Go.Proofs.Ytgplafckddpnkaa
open Go.RowKit
set_option linter.unusedVariables false

set_option maxRecDepth 20000
set_option linter.unusedVariables false
set_option maxHeartbeats 1000000 in
theorem f10_ok {G0 : Gm} {w0 : World} (hS0 : Sat G0 w0) {x0 : TBaneWeb} {a1 : Option Addr} {n1 c1 : Nat} {x1 : (List Int)} {a2 : Option Addr} {n2 c2 : Nat} {x2 : (List Int)} {a3 : Option Addr} {n3 c3 : Nat} (h1 : RSl RTBaneFish 5 G0 a1 n1 c1 x0.Fish) (h2 : RSl RInt 1 G0 a2 n2 c2 x1) (h3 : RSl RInt 1 G0 a3 n3 c3 x2) {r : Bool} (H : f10 x0 x1 x2 = some r) :
    Calls Try.prog 10 #[.agg #[.slice a1 n1 c1, .int .i64 x0.Limit], .slice a2 n2 c2, .slice a3 n3 c3] w0 (RetV w0 (.bool r)) := by
  have hS := Since.start hS0
  have hO : Owns G0 w0 w0.heap.size [] := Owns.nil (Nat.le_refl _)
  unfold f10 at H
  refine enter1 (N := 177) (shutV _ _) Try.func10 rfl rfl rfl rfl ?_
  refine WC_seq ?_
  refine WC_region ?_
  refine WL_op rfl (OpP_newF (v := fun b => .pointer (some ⟨b, 0, none⟩)) (cs := [.slice a1 n1 c1, .int .i64 x0.Limit]) (e := 24) (rn_boxA rfl) hS.sat rfl (fun b4 G6 w5 hg hcb4 => ?_))
  have hS := hS.grow hg
  have hO := hO.grow hg
  have leG6 := hg.le
  refine WL_val (rn_assign (v := (.bool false)) rfl) rfl ?_
  refine WL_nil ?_
  refine WC_seq ?_
  refine WC_seq ?_
  obtain ⟨q7, hq7, H⟩ := bnd H
  refine WC_cut (fun F w => ∃ (Fb : Fr) (G : Gm), F = upds Fb [(1, .slice a2 n2 c2), (2, .slice a3 n3 c3), (3, .pointer (some ⟨b4, 0, none⟩)), (52, .bool q7)] ∧ Gle G6 G ∧ Since w0.heap.size G0 w0 G w ∧ Owns G w w0.heap.size []) ?_ ?_
  · have Hoq7 := H
    have H := hq7
    refine WC_region ?_
    refine WL_val (rn_loadA ag24 (cs := [.slice a1 n1 c1, .int .i64 x0.Limit]) rfl rfl (fun j v hj => hS.sat.cell (hcb4.drop_take 0 2 j v hj))) rfl ?_
    obtain ⟨y8, hy8, H⟩ := bnd H
    refine WL_op rfl (OpP_callV cb17 (f17_ok (x0 := x0) hS.sat (h1.mono RTBaneFish_mono leG6) hy8) rfl rfl (fun w9 hb => ?_))
    have hS := hS.keep hb
    have hO := hO.below hb
    refine WL_val (rn_not rfl) rfl ?_
    refine WL_val (rn_move (v := (.bool (!y8))) rfl) rfl ?_
    rcases bcases (!y8) with hb10 | hb10
    · have H := ifT hb10 H
      refine WL_guardN rfl hb10 rfl rfl rfl ?_
      refine WL_guardN rfl hb10 rfl rfl rfl ?_
      refine WL_guardN rfl hb10 rfl rfl rfl ?_
      refine WL_val (rn_pickT (v := (.bool true)) rfl hb10 rfl) rfl ?_
      refine WL_val (rn_move (v := (.bool true)) rfl) rfl ?_
      refine WL_guardN rfl rfl rfl rfl rfl ?_
      refine WL_guardN rfl rfl rfl rfl rfl ?_
      refine WL_guardN rfl rfl rfl rfl rfl ?_
      refine WL_val (rn_pickT (v := (.bool true)) rfl rfl rfl) rfl ?_
      refine WL_val (rn_move (v := (.bool true)) rfl) rfl ?_
      refine WL_guardN rfl rfl rfl rfl rfl ?_
      refine WL_guardN rfl rfl rfl rfl rfl ?_
      refine WL_guardN rfl rfl rfl rfl rfl ?_
      refine WL_val (rn_pickT (v := (.bool true)) rfl rfl rfl) rfl ?_
      refine WL_val (rn_move (v := (.bool true)) rfl) rfl ?_
      refine WL_guardN rfl rfl rfl rfl rfl ?_
      refine WL_guardN rfl rfl rfl rfl rfl ?_
      refine WL_guardN rfl rfl rfl rfl rfl ?_
      refine WL_guardN rfl rfl rfl rfl rfl ?_
      refine WL_guardN rfl rfl rfl rfl rfl ?_
      refine WL_guardN rfl rfl rfl rfl rfl ?_
      refine WL_val (rn_pickT (v := (.bool true)) rfl rfl rfl) rfl ?_
      refine WL_val (rn_move (v := (.bool true)) rfl) rfl ?_
      refine WL_guardN rfl rfl rfl rfl rfl ?_
      refine WL_guardN rfl rfl rfl rfl rfl ?_
      refine WL_guardN rfl rfl rfl rfl rfl ?_
      refine WL_guardN rfl rfl rfl rfl rfl ?_
      refine WL_guardN rfl rfl rfl rfl rfl ?_
      refine WL_guardN rfl rfl rfl rfl rfl ?_
      refine WL_val (rn_pickT (v := (.bool true)) rfl rfl rfl) rfl ?_
      refine WL_nil ?_
      have hO : Owns G6 w9 w0.heap.size ([]) := hO
      have H := Option.some.inj H
      subst H
      exact ⟨_, G6, upds_self _ _ ⟨rfl, rfl, rfl, rfl, trivial⟩, Gle.refl _, hS, hO⟩
    · have H := ifF hb10 H
      refine WL_guardY rfl hb10 rfl rfl ?_
      refine WL_val (rn_move (v := (.slice a2 n2 c2)) rfl) rfl ?_
      refine WL_guardY rfl hb10 rfl rfl ?_
      refine WL_val (rn_len sl25 rfl rfl (h2.mono RInt_mono leG6).1) rfl ?_
      refine WL_guardY rfl hb10 rfl rfl ?_
      refine WL_val (rn_gtr rfl rfl) rfl ?_
      refine WL_val (rn_pickF (v := (.bool (decide (12 < (x1.length : Int))))) rfl hb10 rfl) rfl ?_
      refine WL_val (rn_move (v := (.bool (decide (12 < (x1.length : Int))))) rfl) rfl ?_
      rcases bcases (decide (12 < (x1.length : Int))) with hb11 | hb11
      · have H := ifT hb11 H
        refine WL_guardN rfl hb11 rfl rfl rfl ?_
        refine WL_guardN rfl hb11 rfl rfl rfl ?_
        refine WL_guardN rfl hb11 rfl rfl rfl ?_
        refine WL_val (rn_pickT (v := (.bool true)) rfl hb11 rfl) rfl ?_
        refine WL_val (rn_move (v := (.bool true)) rfl) rfl ?_
        refine WL_guardN rfl rfl rfl rfl rfl ?_
        refine WL_guardN rfl rfl rfl rfl rfl ?_
        refine WL_guardN rfl rfl rfl rfl rfl ?_
        refine WL_val (rn_pickT (v := (.bool true)) rfl rfl rfl) rfl ?_
        refine WL_val (rn_move (v := (.bool true)) rfl) rfl ?_
        refine WL_guardN rfl rfl rfl rfl rfl ?_
        refine WL_guardN rfl rfl rfl rfl rfl ?_
        refine WL_guardN rfl rfl rfl rfl rfl ?_
        refine WL_guardN rfl rfl rfl rfl rfl ?_
        refine WL_guardN rfl rfl rfl rfl rfl ?_
        refine WL_guardN rfl rfl rfl rfl rfl ?_
        refine WL_val (rn_pickT (v := (.bool true)) rfl rfl rfl) rfl ?_
        refine WL_val (rn_move (v := (.bool true)) rfl) rfl ?_
        refine WL_guardN rfl rfl rfl rfl rfl ?_
        refine WL_guardN rfl rfl rfl rfl rfl ?_
        refine WL_guardN rfl rfl rfl rfl rfl ?_
        refine WL_guardN rfl rfl rfl rfl rfl ?_
        refine WL_guardN rfl rfl rfl rfl rfl ?_
        refine WL_guardN rfl rfl rfl rfl rfl ?_
        refine WL_val (rn_pickT (v := (.bool true)) rfl rfl rfl) rfl ?_
        refine WL_nil ?_
        have hO : Owns G6 w9 w0.heap.size ([]) := hO
        have H := Option.some.inj H
        subst H
        exact ⟨_, G6, upds_self _ _ ⟨rfl, rfl, rfl, rfl, trivial⟩, Gle.refl _, hS, hO⟩
      · have H := ifF hb11 H
        refine WL_guardY rfl hb11 rfl rfl ?_
        refine WL_val (rn_move (v := (.slice a3 n3 c3)) rfl) rfl ?_
        refine WL_guardY rfl hb11 rfl rfl ?_
        refine WL_val (rn_len sl25 rfl rfl (h3.mono RInt_mono leG6).1) rfl ?_
        refine WL_guardY rfl hb11 rfl rfl ?_
        refine WL_val (rn_gtr rfl rfl) rfl ?_
        refine WL_val (rn_pickF (v := (.bool (decide (12 < (x2.length : Int))))) rfl hb11 rfl) rfl ?_
        refine WL_val (rn_move (v := (.bool (decide (12 < (x2.length : Int))))) rfl) rfl ?_
        rcases bcases (decide (12 < (x2.length : Int))) with hb12 | hb12
        · have H := ifT hb12 H
          refine WL_guardN rfl hb12 rfl rfl rfl ?_
          refine WL_guardN rfl hb12 rfl rfl rfl ?_
          refine WL_guardN rfl hb12 rfl rfl rfl ?_
          refine WL_val (rn_pickT (v := (.bool true)) rfl hb12 rfl) rfl ?_
          refine WL_val (rn_move (v := (.bool true)) rfl) rfl ?_
          refine WL_guardN rfl rfl rfl rfl rfl ?_
          refine WL_guardN rfl rfl rfl rfl rfl ?_
          refine WL_guardN rfl rfl rfl rfl rfl ?_
          refine WL_guardN rfl rfl rfl rfl rfl ?_
          refine WL_guardN rfl rfl rfl rfl rfl ?_
          refine WL_guardN rfl rfl rfl rfl rfl ?_
          refine WL_val (rn_pickT (v := (.bool true)) rfl rfl rfl) rfl ?_
          refine WL_val (rn_move (v := (.bool true)) rfl) rfl ?_
          refine WL_guardN rfl rfl rfl rfl rfl ?_
          refine WL_guardN rfl rfl rfl rfl rfl ?_
          refine WL_guardN rfl rfl rfl rfl rfl ?_
          refine WL_guardN rfl rfl rfl rfl rfl ?_
          refine WL_guardN rfl rfl rfl rfl rfl ?_
          refine WL_guardN rfl rfl rfl rfl rfl ?_
          refine WL_val (rn_pickT (v := (.bool true)) rfl rfl rfl) rfl ?_
          refine WL_nil ?_
          have hO : Owns G6 w9 w0.heap.size ([]) := hO
          have H := Option.some.inj H
          subst H
          exact ⟨_, G6, upds_self _ _ ⟨rfl, rfl, rfl, rfl, trivial⟩, Gle.refl _, hS, hO⟩
        · have H := ifF hb12 H
          refine WL_guardY rfl hb12 rfl rfl ?_
          refine WL_val (rn_loadA ag24 (cs := [.slice a1 n1 c1, .int .i64 x0.Limit]) rfl rfl (fun j v hj => hS.sat.cell (hcb4.drop_take 0 2 j v hj))) rfl ?_
          refine WL_guardY rfl hb12 rfl rfl ?_
          obtain ⟨y13, hy13, H⟩ := bnd H
          refine WL_op rfl (OpP_callV cb21 (f21_ok (x0 := x0) hS.sat (h1.mono RTBaneFish_mono leG6) hy13) rfl rfl (fun w14 hb => ?_))
          have hS := hS.keep hb
          have hO := hO.below hb
          refine WL_guardY rfl hb12 rfl rfl ?_
          refine WL_val (rn_not rfl) rfl ?_
          refine WL_val (rn_pickF (v := (.bool (!y13))) rfl hb12 rfl) rfl ?_
          refine WL_val (rn_move (v := (.bool (!y13))) rfl) rfl ?_
          rcases bcases (!y13) with hb15 | hb15
          · have H := ifT hb15 H
            refine WL_guardN rfl hb15 rfl rfl rfl ?_
            refine WL_guardN rfl hb15 rfl rfl rfl ?_
            refine WL_guardN rfl hb15 rfl rfl rfl ?_
            refine WL_guardN rfl hb15 rfl rfl rfl ?_
            refine WL_guardN rfl hb15 rfl rfl rfl ?_
            refine WL_guardN rfl hb15 rfl rfl rfl ?_
            refine WL_val (rn_pickT (v := (.bool true)) rfl hb15 rfl) rfl ?_
            refine WL_val (rn_move (v := (.bool true)) rfl) rfl ?_
            refine WL_guardN rfl rfl rfl rfl rfl ?_
            refine WL_guardN rfl rfl rfl rfl rfl ?_
            refine WL_guardN rfl rfl rfl rfl rfl ?_
            refine WL_guardN rfl rfl rfl rfl rfl ?_
            refine WL_guardN rfl rfl rfl rfl rfl ?_
            refine WL_guardN rfl rfl rfl rfl rfl ?_
            refine WL_val (rn_pickT (v := (.bool true)) rfl rfl rfl) rfl ?_
            refine WL_nil ?_
            have hO : Owns G6 w14 w0.heap.size ([]) := hO
            have H := Option.some.inj H
            subst H
            exact ⟨_, G6, upds_self _ _ ⟨rfl, rfl, rfl, rfl, trivial⟩, Gle.refl _, hS, hO⟩
          · have H := ifF hb15 H
            refine WL_guardY rfl hb15 rfl rfl ?_
            refine WL_val (rn_move (v := (.slice a2 n2 c2)) rfl) rfl ?_
            refine WL_guardY rfl hb15 rfl rfl ?_
            refine WL_val (rn_fld fd24_0 rfl) rfl ?_
            refine WL_guardY rfl hb15 rfl rfl ?_
            refine WL_val (rn_load na22 rfl (hS.sat.cell (hcb4 0 _ rfl))) rfl ?_
            refine WL_guardY rfl hb15 rfl rfl ?_
            refine WL_val (rn_len sl22 rfl rfl (h1.mono RTBaneFish_mono leG6).1) rfl ?_
            refine WL_guardY rfl hb15 rfl rfl ?_
            obtain ⟨y16, hy16, H⟩ := bnd H
            refine WL_op rfl (OpP_callV cb43 (f43_ok (x0 := x1) (x1 := (x0.Fish.length : Int)) hS.sat (h2.mono RInt_mono leG6) hy16) rfl rfl (fun w17 hb => ?_))
            have hS := hS.keep hb
            have hO := hO.below hb
            refine WL_guardY rfl hb15 rfl rfl ?_
            refine WL_val (rn_not rfl) rfl ?_
            refine WL_val (rn_pickF (v := (.bool (!y16))) rfl hb15 rfl) rfl ?_
            refine WL_val (rn_move (v := (.bool (!y16))) rfl) rfl ?_
            rcases bcases (!y16) with hb18 | hb18
            · have H := ifT hb18 H
              refine WL_guardN rfl hb18 rfl rfl rfl ?_
              refine WL_guardN rfl hb18 rfl rfl rfl ?_
              refine WL_guardN rfl hb18 rfl rfl rfl ?_
              refine WL_guardN rfl hb18 rfl rfl rfl ?_
              refine WL_guardN rfl hb18 rfl rfl rfl ?_
              refine WL_guardN rfl hb18 rfl rfl rfl ?_
              refine WL_val (rn_pickT (v := (.bool true)) rfl hb18 rfl) rfl ?_
              refine WL_nil ?_
              have hO : Owns G6 w17 w0.heap.size ([]) := hO
              have H := Option.some.inj H
              subst H
              exact ⟨_, G6, upds_self _ _ ⟨rfl, rfl, rfl, rfl, trivial⟩, Gle.refl _, hS, hO⟩
            · have H := ifF hb18 H
              refine WL_guardY rfl hb18 rfl rfl ?_
              refine WL_val (rn_move (v := (.slice a3 n3 c3)) rfl) rfl ?_
              refine WL_guardY rfl hb18 rfl rfl ?_
              refine WL_val (rn_fld fd24_0 rfl) rfl ?_
              refine WL_guardY rfl hb18 rfl rfl ?_
              refine WL_val (rn_load na22 rfl (hS.sat.cell (hcb4 0 _ rfl))) rfl ?_
              refine WL_guardY rfl hb18 rfl rfl ?_
              refine WL_val (rn_len sl22 rfl rfl (h1.mono RTBaneFish_mono leG6).1) rfl ?_
              refine WL_guardY rfl hb18 rfl rfl ?_
              obtain ⟨y19, hy19, H⟩ := bnd H
              refine WL_op rfl (OpP_callV cb43 (f43_ok (x0 := x2) (x1 := (x0.Fish.length : Int)) hS.sat (h3.mono RInt_mono leG6) hy19) rfl rfl (fun w20 hb => ?_))
              have hS := hS.keep hb
              have hO := hO.below hb
              refine WL_guardY rfl hb18 rfl rfl ?_
              refine WL_val (rn_not rfl) rfl ?_
              refine WL_val (rn_pickF (v := (.bool (!y19))) rfl hb18 rfl) rfl ?_
              refine WL_nil ?_
              have hO : Owns G6 w20 w0.heap.size ([]) := hO
              have H := Option.some.inj H
              subst H
              exact ⟨_, G6, upds_self _ _ ⟨rfl, rfl, rfl, rfl, trivial⟩, Gle.refl _, hS, hO⟩
  · rintro F w21 ⟨Fb, G22, rfl, leG22, hS, hO⟩
    refine WC_cond rfl (fun hb23 => ?_) (fun hb23 => ?_)
    · have H := ifT hb23 H
      refine WC_seq ?_
      refine WC_region ?_
      obtain ⟨y24, hy24, H⟩ := bnd H
      refine WL_op rfl (OpP_callV cb19 (f19_ok  hS.sat  hy24) rfl rfl (fun w25 hb => ?_))
      have hS := hS.keep hb
      have hO := hO.below hb
      refine WL_val (rn_assign (v := (.bool y24)) rfl) rfl ?_
      refine WL_nil ?_
      refine WC_ret ?_
      have H : some y24 = some r := H
      have H := Option.some.inj H
      subst H
      exact ⟨rfl, hS.below⟩
    · have H := ifF hb23 H
      refine WC_skip ?_
      refine WC_seq ?_
      refine WC_region ?_
      refine WL_val (rn_loadA ag24 (cs := [.slice a1 n1 c1, .int .i64 x0.Limit]) rfl rfl (fun j v hj => (hS.sat.le leG22).cell (hcb4.drop_take 0 2 j v hj))) rfl ?_
      refine WL_val (rn_move (v := (.slice a2 n2 c2)) rfl) rfl ?_
      obtain ⟨y26, hy26, H⟩ := bnd H
      have l0_2 := leG6.trans leG22
      refine WL_op rfl (OpP_callG cb42 (f42_ok (x0 := x0) (x1 := x1) hS.sat (h1.mono RTBaneFish_mono l0_2) (h2.mono RInt_mono l0_2) hy26) rfl rfl (fun vy26 G28 w27 hg hvy26 => ?_))
      obtain ⟨a29, n29, c29, ⟨⟩, h29⟩ := hvy26
      have hS := hS.grow hg
      have hO := hO.grow hg
      have leG28 := hg.le
      refine WL_val (rn_move (v := (.tuple #[.slice a29 n29 c29, .int .i64 y26.2.1, .int .i64 y26.2.2])) rfl) rfl ?_
      refine WL_val (rn_extract (v := (.slice a29 n29 c29)) rfl rfl) rfl ?_
      refine WL_val (rn_extract (v := (.int .i64 y26.2.1)) rfl rfl) rfl ?_
      refine WL_val (rn_extract (v := (.int .i64 y26.2.2)) rfl rfl) rfl ?_
      refine WL_val (rn_assign (v := (.slice a29 n29 c29)) rfl) rfl ?_
      refine WL_val (rn_assign (v := (.int .i64 y26.2.1)) rfl) rfl ?_
      refine WL_val (rn_assign (v := (.int .i64 y26.2.2)) rfl) rfl ?_
      refine WL_nil ?_
      refine WC_seq ?_
      refine WC_region ?_
      have l1_3 := leG22.trans leG28
      refine WL_val (rn_loadA ag24 (cs := [.slice a1 n1 c1, .int .i64 x0.Limit]) rfl rfl (fun j v hj => (hS.sat.le l1_3).cell (hcb4.drop_take 0 2 j v hj))) rfl ?_
      refine WL_val (rn_move (v := (.slice a2 n2 c2)) rfl) rfl ?_
      refine WL_val (rn_move (v := (.slice a3 n3 c3)) rfl) rfl ?_
      obtain ⟨y30, hy30, H⟩ := bnd H
      have l0_3 := l0_2.trans leG28
      refine WL_op rfl (OpP_callV cb41 (f41_ok (x0 := x0) (x1 := x1) (x2 := x2) hS.sat (h1.mono RTBaneFish_mono l0_3) (h2.mono RInt_mono l0_3) (h3.mono RInt_mono l0_3) hy30) rfl rfl (fun w31 hb => ?_))
      have hS := hS.keep hb
      have hO := hO.below hb
      refine WL_val (rn_move (v := (.tuple #[.bool y30.1, .int .i64 y30.2])) rfl) rfl ?_
      refine WL_val (rn_extract (v := (.bool y30.1)) rfl rfl) rfl ?_
      refine WL_val (rn_extract (v := (.int .i64 y30.2)) rfl rfl) rfl ?_
      refine WL_val (rn_assign (v := (.bool y30.1)) rfl) rfl ?_
      refine WL_val (rn_assign (v := (.int .i64 y30.2)) rfl) rfl ?_
      refine WL_nil ?_
      refine WC_seq ?_
      refine WC_seq ?_
      refine WC_region ?_
      refine WL_val (rn_move (v := (.int .i64 y30.2)) rfl) rfl ?_
      refine WL_val (rn_neq rfl rfl) rfl ?_
      refine WL_nil ?_
      refine WC_cond rfl (fun hb32 => ?_) (fun hb32 => ?_)
      · have H := ifT hb32 H
        refine WC_seq ?_
        refine WC_region ?_
        refine WL_val (rn_assign (v := (.bool false)) rfl) rfl ?_
        refine WL_nil ?_
        refine WC_ret ?_
        have H : some false = some r := H
        have H := Option.some.inj H
        subst H
        exact ⟨rfl, hS.below⟩
      · have H := ifF hb32 H
        refine WC_skip ?_
        refine WC_seq ?_
        refine WC_seq ?_
        refine WC_region ?_
        refine WL_val (rn_move (v := (.int .i64 y26.2.2)) rfl) rfl ?_
        refine WL_val (rn_neq rfl rfl) rfl ?_
        refine WL_nil ?_
        refine WC_cond rfl (fun hb33 => ?_) (fun hb33 => ?_)
        · have H := ifT hb33 H
          refine WC_seq ?_
          refine WC_region ?_
          refine WL_val (rn_assign (v := (.slice none 0 0)) rfl) rfl ?_
          refine WL_nil ?_
          refine WC_seq ?_
          refine WC_seq ?_
          refine WC_region ?_
          refine WL_val (rn_assign (v := (.int .i64 0)) rfl) rfl ?_
          refine WL_nil ?_
          have hO := hO.cons_nil 3 1
          obtain ⟨q37, hq37, H⟩ := bnd H
          refine WC_cut (fun F w => ∃ (Fb : Fr) (G : Gm) (aq37_0 : Option Addr) (nq37_0 cq37_0 : Nat) (claq37_0 : List Value), F = upds Fb [(1, .slice a2 n2 c2), (3, .pointer (some ⟨b4, 0, none⟩)), (9, .int .i64 y26.2.2), (10, .bool y30.1), (12, .slice aq37_0 nq37_0 cq37_0)] ∧ Gle G28 G ∧ Since w0.heap.size G0 w0 G w ∧ Owns G w w0.heap.size [⟨3, 1, nq37_0, .slice aq37_0 nq37_0 cq37_0, claq37_0⟩] ∧ nq37_0 = q37.length ∧ Rd RInt 1 G claq37_0 q37) ?_ ?_
          · refine WC_block (WC_loop hq37 (fun s35 F w => ∃ (Fb : Fr) (G : Gm) (as35_0 : Option Addr) (ns35_0 cs35_0 : Nat) (clas35_0 : List Value), F = upds Fb [(1, .slice a2 n2 c2), (3, .pointer (some ⟨b4, 0, none⟩)), (9, .int .i64 y26.2.2), (10, .bool y30.1), (12, .slice as35_0 ns35_0 cs35_0), (13, .int .i64 s35.2)] ∧ Gle G28 G ∧ Since w0.heap.size G0 w0 G w ∧ Owns G w w0.heap.size [⟨3, 1, ns35_0, .slice as35_0 ns35_0 cs35_0, clas35_0⟩] ∧ ns35_0 = s35.1.length ∧ Rd RInt 1 G clas35_0 s35.1) ?_ ?_)
            · have hO : Owns G28 w31 w0.heap.size ([⟨3, 1, 0, .slice none 0 0, []⟩]) := hO
              exact ⟨_, G28, none, 0, 0, [], upds_self _ _ ⟨rfl, rfl, rfl, rfl, rfl, rfl, trivial⟩, Gle.refl _, hS, hO, rfl, (Rd.nil RInt 1 G28)⟩
            · rintro s35 F w39 t38 ⟨Fb, G40, as35_0, ns35_0, cs35_0, clas35_0, rfl, leG40, hS, hO, hnhs35_0, hs35_0⟩
              intro H1 hqq37
              have Hoq37 := H
              have H := H1
              unfold f10_b0 at H
              refine WC_seq ?_
              refine WC_seq ?_
              refine WC_region ?_
              refine WL_val (rn_move (v := (.int .i64 s35.2)) rfl) rfl ?_
              refine WL_val (rn_fld fd24_0 rfl) rfl ?_
              have l1_4 := l1_3.trans leG40
              refine WL_val (rn_load na22 rfl ((hS.sat.le l1_4).cell (hcb4 0 _ rfl))) rfl ?_
              have l0_4 := l0_3.trans leG40
              refine WL_val (rn_len sl22 rfl rfl (h1.mono RTBaneFish_mono l0_4).1) rfl ?_
              refine WL_val (rn_lss rfl rfl) rfl ?_
              refine WL_nil ?_
              refine WC_cond rfl (fun hb41 => ?_) (fun hb41 => ?_)
              · have H := ifT hb41 H
                refine WC_skip ?_
                refine WC_seq ?_
                refine WC_block ?_
                refine WC_region ?_
                refine WL_val (rn_move (v := (.slice as35_0 ns35_0 cs35_0)) rfl) rfl ?_
                refine WL_val (rn_move (v := (.int .i64 s35.2)) rfl) rfl ?_
                refine WL_op rfl (OpP_newF (v := fun b => .slice (some ⟨b, 0, none⟩) 1 1) (cs := [.int .i64 s35.2]) (e := 3) (by kernel_rfl) hS.sat rfl (fun b42 G44 w43 hg hcb42 => ?_))
                have hS := hS.grow hg
                have hO := hO.grow hg
                have leG44 := hg.le
                have hfb42 : RSl RInt 1 G44 (some ⟨b42, 0, none⟩) 1 1 [s35.2] := RSl.of_rd hcb42 (Rd.cons (c := [.int .i64 s35.2]) rfl rfl (Rd.nil RInt 1 _)) rfl (by decide)
                obtain ⟨y45, hy45, H⟩ := bnd H
                refine WL_op rfl (OpP_append (k := 0) sl25 RInt_one hS hO rfl hnhs35_0 (hs35_0.mono RInt_mono leG44) hfb42 hy45 rfl rfl rfl rfl rfl (fun aw46 cw46 w46 clw46 hS hO hrw46 => ?_))
                have hO : Owns G44 w46 w0.heap.size ([⟨3, 1, y45.length, .slice aw46 y45.length cw46, clw46⟩]) := hO
                refine WL_val (rn_assign (v := (.slice aw46 y45.length cw46)) rfl) rfl ?_
                refine WL_nil ?_
                refine WC_region ?_
                refine WL_val (rn_move (v := (.int .i64 s35.2)) rfl) rfl ?_
                refine WL_val (rn_add rfl rfl) rfl ?_
                refine WL_val (rn_assign (v := (.int .i64 (IntKind.i64.wrap (s35.2 + 1)))) rfl) rfl ?_
                refine WL_nil ?_
                have hO : Owns G44 w46 w0.heap.size ([⟨3, 1, y45.length, .slice aw46 y45.length cw46, clw46⟩]) := hO
                have H := Option.some.inj H
                subst H
                refine ⟨_, rfl, ?_⟩
                have l3_5 := leG40.trans leG44
                exact ⟨_, G44, aw46, y45.length, cw46, clw46, upds_self _ _ ⟨rfl, rfl, rfl, rfl, rfl, rfl, trivial⟩, l3_5, hS, hO, rfl, hrw46⟩
              · have H := ifF hb41 H
                refine WC_exit rfl ?_
                have hO : Owns G40 w39 w0.heap.size ([⟨3, 1, ns35_0, .slice as35_0 ns35_0 cs35_0, clas35_0⟩]) := hO
                have H := Option.some.inj H
                subst H
                have hres := hqq37 _ rfl
                subst hres
                exact ⟨_, G40, as35_0, ns35_0, cs35_0, clas35_0, upds_self _ _ ⟨rfl, rfl, rfl, rfl, rfl, trivial⟩, leG40, hS, hO, hnhs35_0, hs35_0⟩
          · rintro F w47 ⟨Fb, G48, aq37_0, nq37_0, cq37_0, claq37_0, rfl, leG48, hS, hO, hnhq37_0, hq37_0⟩
            refine WC_seq ?_
            refine WC_region ?_
            have l1_4 := l1_3.trans leG48
            refine WL_val (rn_loadA ag24 (cs := [.slice a1 n1 c1, .int .i64 x0.Limit]) rfl rfl (fun j v hj => (hS.sat.le l1_4).cell (hcb4.drop_take 0 2 j v hj))) rfl ?_
            refine WL_val (rn_move (v := (.slice a2 n2 c2)) rfl) rfl ?_
            refine WL_val (rn_move (v := (.slice aq37_0 nq37_0 cq37_0)) rfl) rfl ?_
            obtain ⟨y49, hy49, H⟩ := bnd H
            obtain ⟨Gv50, leGv50, hSGv50, hOGv50, hvGv50⟩ := hO.freezeS hS RInt_mono (k := 0) rfl hq37_0 hnhq37_0
            have l0_4 := l0_3.trans leG48
            refine WL_op rfl (OpP_callV cb41 (f41_ok (x0 := x0) (x1 := x1) (x2 := q37) hSGv50.sat ((h1.mono RTBaneFish_mono l0_4).mono RTBaneFish_mono leGv50) ((h2.mono RInt_mono l0_4).mono RInt_mono leGv50) hvGv50 hy49) rfl rfl (fun w51 hb => ?_))
            have hS := hS.keep hb
            have hO := hO.below hb
            refine WL_val (rn_move (v := (.tuple #[.bool y49.1, .int .i64 y49.2])) rfl) rfl ?_
            refine WL_val (rn_extract (v := (.bool y49.1)) rfl rfl) rfl ?_
            refine WL_val (rn_extract (v := (.int .i64 y49.2)) rfl rfl) rfl ?_
            refine WL_val (rn_assign (v := (.bool y49.1)) rfl) rfl ?_
            refine WL_val (rn_assign (v := (.int .i64 y49.2)) rfl) rfl ?_
            refine WL_nil ?_
            refine WC_seq ?_
            obtain ⟨q52, hq52, H⟩ := bnd H
            refine WC_cut (fun F w => ∃ (Fb : Fr) (G : Gm), F = upds Fb [(6, .bool q52)] ∧ Gle G48 G ∧ Since w0.heap.size G0 w0 G w ∧ Owns G w w0.heap.size [⟨3, 1, nq37_0, .slice aq37_0 nq37_0 cq37_0, claq37_0⟩]) ?_ ?_
            · have Hoq52 := H
              have H := hq52
              refine WC_region ?_
              refine WL_val (rn_move (v := (.int .i64 y26.2.2)) rfl) rfl ?_
              refine WL_val (rn_eql rfl rfl) rfl ?_
              refine WL_val (rn_move (v := (.bool (y26.2.2 == 5))) rfl) rfl ?_
              rcases bcases (y26.2.2 == 5) with hb53 | hb53
              · have H := ifT hb53 H
                refine WL_guardY rfl hb53 rfl rfl ?_
                refine WL_val (rn_move (v := (.bool y30.1)) rfl) rfl ?_
                refine WL_guardY rfl hb53 rfl rfl ?_
                refine WL_val (rn_not rfl) rfl ?_
                refine WL_val (rn_pickT (v := (.bool (!y30.1))) rfl hb53 rfl) rfl ?_
                refine WL_val (rn_move (v := (.bool (!y30.1))) rfl) rfl ?_
                rcases bcases (!y30.1) with hb54 | hb54
                · have H := ifT hb54 H
                  refine WL_guardY rfl hb54 rfl rfl ?_
                  refine WL_val (rn_move (v := (.int .i64 y49.2)) rfl) rfl ?_
                  refine WL_guardY rfl hb54 rfl rfl ?_
                  refine WL_val (rn_eql rfl rfl) rfl ?_
                  refine WL_val (rn_pickT (v := (.bool (y49.2 == 0))) rfl hb54 rfl) rfl ?_
                  refine WL_val (rn_move (v := (.bool (y49.2 == 0))) rfl) rfl ?_
                  rcases bcases (y49.2 == 0) with hb55 | hb55
                  · have H := ifT hb55 H
                    refine WL_guardY rfl hb55 rfl rfl ?_
                    refine WL_val (rn_move (v := (.bool y49.1)) rfl) rfl ?_
                    refine WL_guardY rfl hb55 rfl rfl ?_
                    refine WL_val (rn_not rfl) rfl ?_
                    refine WL_val (rn_pickT (v := (.bool (!y49.1))) rfl hb55 rfl) rfl ?_
                    refine WL_val (rn_move (v := (.bool (!y49.1))) rfl) rfl ?_
                    rcases bcases (!y49.1) with hb56 | hb56
                    · have H := ifT hb56 H
                      refine WL_guardY rfl hb56 rfl rfl ?_
                      obtain ⟨y57, hy57, H⟩ := bnd H
                      refine WL_op rfl (OpP_callV cb19 (f19_ok  hS.sat  hy57) rfl rfl (fun w58 hb => ?_))
                      have hS := hS.keep hb
                      have hO := hO.below hb
                      refine WL_val (rn_pickT (v := (.bool y57)) rfl hb56 rfl) rfl ?_
                      refine WL_val (rn_assign (v := (.bool y57)) rfl) rfl ?_
                      refine WL_nil ?_
                      have hO : Owns G48 w58 w0.heap.size ([⟨3, 1, nq37_0, .slice aq37_0 nq37_0 cq37_0, claq37_0⟩]) := hO
                      have H := Option.some.inj H
                      subst H
                      exact ⟨_, G48, upds_self _ _ ⟨rfl, trivial⟩, Gle.refl _, hS, hO⟩
                    · have H := ifF hb56 H
                      refine WL_guardN rfl hb56 rfl rfl rfl ?_
                      refine WL_val (rn_pickF (v := (.bool false)) rfl hb56 rfl) rfl ?_
                      refine WL_val (rn_assign (v := (.bool false)) rfl) rfl ?_
                      refine WL_nil ?_
                      have hO : Owns G48 w51 w0.heap.size ([⟨3, 1, nq37_0, .slice aq37_0 nq37_0 cq37_0, claq37_0⟩]) := hO
                      have H := Option.some.inj H
                      subst H
                      exact ⟨_, G48, upds_self _ _ ⟨rfl, trivial⟩, Gle.refl _, hS, hO⟩
                  · have H := ifF hb55 H
                    refine WL_guardN rfl hb55 rfl rfl rfl ?_
                    refine WL_guardN rfl hb55 rfl rfl rfl ?_
                    refine WL_val (rn_pickF (v := (.bool false)) rfl hb55 rfl) rfl ?_
                    refine WL_val (rn_move (v := (.bool false)) rfl) rfl ?_
                    refine WL_guardN rfl rfl rfl rfl rfl ?_
                    refine WL_val (rn_pickF (v := (.bool false)) rfl rfl rfl) rfl ?_
                    refine WL_val (rn_assign (v := (.bool false)) rfl) rfl ?_
                    refine WL_nil ?_
                    have hO : Owns G48 w51 w0.heap.size ([⟨3, 1, nq37_0, .slice aq37_0 nq37_0 cq37_0, claq37_0⟩]) := hO
                    have H := Option.some.inj H
                    subst H
                    exact ⟨_, G48, upds_self _ _ ⟨rfl, trivial⟩, Gle.refl _, hS, hO⟩
                · have H := ifF hb54 H
                  refine WL_guardN rfl hb54 rfl rfl rfl ?_
                  refine WL_guardN rfl hb54 rfl rfl rfl ?_
                  refine WL_val (rn_pickF (v := (.bool false)) rfl hb54 rfl) rfl ?_
                  refine WL_val (rn_move (v := (.bool false)) rfl) rfl ?_
                  refine WL_guardN rfl rfl rfl rfl rfl ?_
                  refine WL_guardN rfl rfl rfl rfl rfl ?_
                  refine WL_val (rn_pickF (v := (.bool false)) rfl rfl rfl) rfl ?_
                  refine WL_val (rn_move (v := (.bool false)) rfl) rfl ?_
                  refine WL_guardN rfl rfl rfl rfl rfl ?_
                  refine WL_val (rn_pickF (v := (.bool false)) rfl rfl rfl) rfl ?_
                  refine WL_val (rn_assign (v := (.bool false)) rfl) rfl ?_
                  refine WL_nil ?_
                  have hO : Owns G48 w51 w0.heap.size ([⟨3, 1, nq37_0, .slice aq37_0 nq37_0 cq37_0, claq37_0⟩]) := hO
                  have H := Option.some.inj H
                  subst H
                  exact ⟨_, G48, upds_self _ _ ⟨rfl, trivial⟩, Gle.refl _, hS, hO⟩
              · have H := ifF hb53 H
                refine WL_guardN rfl hb53 rfl rfl rfl ?_
                refine WL_guardN rfl hb53 rfl rfl rfl ?_
                refine WL_val (rn_pickF (v := (.bool false)) rfl hb53 rfl) rfl ?_
                refine WL_val (rn_move (v := (.bool false)) rfl) rfl ?_
                refine WL_guardN rfl rfl rfl rfl rfl ?_
                refine WL_guardN rfl rfl rfl rfl rfl ?_
                refine WL_val (rn_pickF (v := (.bool false)) rfl rfl rfl) rfl ?_
                refine WL_val (rn_move (v := (.bool false)) rfl) rfl ?_
                refine WL_guardN rfl rfl rfl rfl rfl ?_
                refine WL_guardN rfl rfl rfl rfl rfl ?_
                refine WL_val (rn_pickF (v := (.bool false)) rfl rfl rfl) rfl ?_
                refine WL_val (rn_move (v := (.bool false)) rfl) rfl ?_
                refine WL_guardN rfl rfl rfl rfl rfl ?_
                refine WL_val (rn_pickF (v := (.bool false)) rfl rfl rfl) rfl ?_
                refine WL_val (rn_assign (v := (.bool false)) rfl) rfl ?_
                refine WL_nil ?_
                have hO : Owns G48 w51 w0.heap.size ([⟨3, 1, nq37_0, .slice aq37_0 nq37_0 cq37_0, claq37_0⟩]) := hO
                have H := Option.some.inj H
                subst H
                exact ⟨_, G48, upds_self _ _ ⟨rfl, trivial⟩, Gle.refl _, hS, hO⟩
            · rintro F w59 ⟨Fb, G60, rfl, leG60, hS, hO⟩
              refine WC_ret ?_
              have H : some q52 = some r := H
              have H := Option.some.inj H
              subst H
              exact ⟨rfl, hS.below⟩
        · have H := ifF hb33 H
          refine WC_skip ?_
          refine WC_seq ?_
          refine WC_seq ?_
          obtain ⟨q61, hq61, H⟩ := bnd H
          refine WC_cut (fun F w => ∃ (Fb : Fr) (G : Gm), F = upds Fb [(1, .slice a2 n2 c2), (2, .slice a3 n3 c3), (3, .pointer (some ⟨b4, 0, none⟩)), (7, .slice a29 n29 c29), (8, .int .i64 y26.2.1), (10, .bool y30.1), (124, .bool q61)] ∧ Gle G28 G ∧ Since w0.heap.size G0 w0 G w ∧ Owns G w w0.heap.size []) ?_ ?_
          · have Hoq61 := H
            have H := hq61
            refine WC_region ?_
            refine WL_val (rn_move (v := (.slice a29 n29 c29)) rfl) rfl ?_
            refine WL_val (rn_len sl25 rfl rfl h29.1) rfl ?_
            refine WL_val (rn_gtr rfl rfl) rfl ?_
            refine WL_val (rn_move (v := (.bool (decide (12 < (y26.1.length : Int))))) rfl) rfl ?_
            rcases bcases (decide (12 < (y26.1.length : Int))) with hb62 | hb62
            · have H := ifT hb62 H
              refine WL_guardN rfl hb62 rfl rfl rfl ?_
              refine WL_guardN rfl hb62 rfl rfl rfl ?_
              refine WL_guardN rfl hb62 rfl rfl rfl ?_
              refine WL_guardN rfl hb62 rfl rfl rfl ?_
              refine WL_guardN rfl hb62 rfl rfl rfl ?_
              refine WL_guardN rfl hb62 rfl rfl rfl ?_
              refine WL_val (rn_pickT (v := (.bool true)) rfl hb62 rfl) rfl ?_
              refine WL_val (rn_move (v := (.bool true)) rfl) rfl ?_
              refine WL_guardN rfl rfl rfl rfl rfl ?_
              refine WL_guardN rfl rfl rfl rfl rfl ?_
              refine WL_guardN rfl rfl rfl rfl rfl ?_
              refine WL_guardN rfl rfl rfl rfl rfl ?_
              refine WL_guardN rfl rfl rfl rfl rfl ?_
              refine WL_val (rn_pickT (v := (.bool true)) rfl rfl rfl) rfl ?_
              refine WL_nil ?_
              have hO : Owns G28 w31 w0.heap.size ([]) := hO
              have H := Option.some.inj H
              subst H
              exact ⟨_, G28, upds_self _ _ ⟨rfl, rfl, rfl, rfl, rfl, rfl, rfl, trivial⟩, Gle.refl _, hS, hO⟩
            · have H := ifF hb62 H
              refine WL_guardY rfl hb62 rfl rfl ?_
              refine WL_val (rn_move (v := (.slice a29 n29 c29)) rfl) rfl ?_
              refine WL_guardY rfl hb62 rfl rfl ?_
              refine WL_val (rn_fld fd24_0 rfl) rfl ?_
              refine WL_guardY rfl hb62 rfl rfl ?_
              refine WL_val (rn_load na22 rfl ((hS.sat.le l1_3).cell (hcb4 0 _ rfl))) rfl ?_
              refine WL_guardY rfl hb62 rfl rfl ?_
              refine WL_val (rn_len sl22 rfl rfl (h1.mono RTBaneFish_mono l0_3).1) rfl ?_
              refine WL_guardY rfl hb62 rfl rfl ?_
              obtain ⟨y63, hy63, H⟩ := bnd H
              refine WL_op rfl (OpP_callV cb43 (f43_ok (x0 := y26.1) (x1 := (x0.Fish.length : Int)) hS.sat h29 hy63) rfl rfl (fun w64 hb => ?_))
              have hS := hS.keep hb
              have hO := hO.below hb
              refine WL_guardY rfl hb62 rfl rfl ?_
              refine WL_val (rn_not rfl) rfl ?_
              refine WL_val (rn_pickF (v := (.bool (!y63))) rfl hb62 rfl) rfl ?_
              refine WL_val (rn_move (v := (.bool (!y63))) rfl) rfl ?_
              rcases bcases (!y63) with hb65 | hb65
              · have H := ifT hb65 H
                refine WL_guardN rfl hb65 rfl rfl rfl ?_
                refine WL_guardN rfl hb65 rfl rfl rfl ?_
                refine WL_guardN rfl hb65 rfl rfl rfl ?_
                refine WL_guardN rfl hb65 rfl rfl rfl ?_
                refine WL_guardN rfl hb65 rfl rfl rfl ?_
                refine WL_val (rn_pickT (v := (.bool true)) rfl hb65 rfl) rfl ?_
                refine WL_nil ?_
                have hO : Owns G28 w64 w0.heap.size ([]) := hO
                have H := Option.some.inj H
                subst H
                exact ⟨_, G28, upds_self _ _ ⟨rfl, rfl, rfl, rfl, rfl, rfl, rfl, trivial⟩, Gle.refl _, hS, hO⟩
              · have H := ifF hb65 H
                refine WL_guardY rfl hb65 rfl rfl ?_
                refine WL_val (rn_move (v := (.int .i64 y26.2.1)) rfl) rfl ?_
                refine WL_guardY rfl hb65 rfl rfl ?_
                refine WL_val (rn_loadA ag24 (cs := [.slice a1 n1 c1, .int .i64 x0.Limit]) rfl rfl (fun j v hj => (hS.sat.le l1_3).cell (hcb4.drop_take 0 2 j v hj))) rfl ?_
                refine WL_guardY rfl hb65 rfl rfl ?_
                refine WL_val (rn_move (v := (.slice a29 n29 c29)) rfl) rfl ?_
                refine WL_guardY rfl hb65 rfl rfl ?_
                obtain ⟨y66, hy66, H⟩ := bnd H
                refine WL_op rfl (OpP_callV cb46 (f46_ok (x0 := x0) (x1 := y26.1) hS.sat (h1.mono RTBaneFish_mono l0_3) h29 hy66) rfl rfl (fun w67 hb => ?_))
                have hS := hS.keep hb
                have hO := hO.below hb
                refine WL_guardY rfl hb65 rfl rfl ?_
                refine WL_val (rn_neq rfl rfl) rfl ?_
                refine WL_val (rn_pickF (v := (.bool (y26.2.1 != y66))) rfl hb65 rfl) rfl ?_
                refine WL_nil ?_
                have hO : Owns G28 w67 w0.heap.size ([]) := hO
                have H := Option.some.inj H
                subst H
                exact ⟨_, G28, upds_self _ _ ⟨rfl, rfl, rfl, rfl, rfl, rfl, rfl, trivial⟩, Gle.refl _, hS, hO⟩
          · rintro F w68 ⟨Fb, G69, rfl, leG69, hS, hO⟩
            refine WC_cond rfl (fun hb70 => ?_) (fun hb70 => ?_)
            · have H := ifT hb70 H
              refine WC_seq ?_
              refine WC_region ?_
              refine WL_val (rn_assign (v := (.bool false)) rfl) rfl ?_
              refine WL_nil ?_
              refine WC_ret ?_
              have H : some false = some r := H
              have H := Option.some.inj H
              subst H
              exact ⟨rfl, hS.below⟩
            · have H := ifF hb70 H
              refine WC_skip ?_
              refine WC_seq ?_
              refine WC_region ?_
              have l1_4 := l1_3.trans leG69
              refine WL_val (rn_loadA ag24 (cs := [.slice a1 n1 c1, .int .i64 x0.Limit]) rfl rfl (fun j v hj => (hS.sat.le l1_4).cell (hcb4.drop_take 0 2 j v hj))) rfl ?_
              refine WL_val (rn_move (v := (.slice a2 n2 c2)) rfl) rfl ?_
              refine WL_val (rn_move (v := (.slice a29 n29 c29)) rfl) rfl ?_
              obtain ⟨y71, hy71, H⟩ := bnd H
              have l0_4 := l0_3.trans leG69
              refine WL_op rfl (OpP_callV cb41 (f41_ok (x0 := x0) (x1 := x1) (x2 := y26.1) hS.sat (h1.mono RTBaneFish_mono l0_4) (h2.mono RInt_mono l0_4) (h29.mono RInt_mono leG69) hy71) rfl rfl (fun w72 hb => ?_))
              have hS := hS.keep hb
              have hO := hO.below hb
              refine WL_val (rn_move (v := (.tuple #[.bool y71.1, .int .i64 y71.2])) rfl) rfl ?_
              refine WL_val (rn_extract (v := (.bool y71.1)) rfl rfl) rfl ?_
              refine WL_val (rn_extract (v := (.int .i64 y71.2)) rfl rfl) rfl ?_
              refine WL_val (rn_assign (v := (.bool y71.1)) rfl) rfl ?_
              refine WL_val (rn_assign (v := (.int .i64 y71.2)) rfl) rfl ?_
              refine WL_nil ?_
              refine WC_seq ?_
              refine WC_region ?_
              refine WL_val (rn_loadA ag24 (cs := [.slice a1 n1 c1, .int .i64 x0.Limit]) rfl rfl (fun j v hj => (hS.sat.le l1_4).cell (hcb4.drop_take 0 2 j v hj))) rfl ?_
              refine WL_val (rn_move (v := (.slice a3 n3 c3)) rfl) rfl ?_
              obtain ⟨y73, hy73, H⟩ := bnd H
              refine WL_op rfl (OpP_callV cb46 (f46_ok (x0 := x0) (x1 := x2) hS.sat (h1.mono RTBaneFish_mono l0_4) (h3.mono RInt_mono l0_4) hy73) rfl rfl (fun w74 hb => ?_))
              have hS := hS.keep hb
              have hO := hO.below hb
              refine WL_val (rn_assign (v := (.int .i64 y73)) rfl) rfl ?_
              refine WL_nil ?_
              refine WC_seq ?_
              obtain ⟨q75, hq75, H⟩ := bnd H
              refine WC_cut (fun F w => ∃ (Fb : Fr) (G : Gm), F = upds Fb [(6, .bool q75)] ∧ Gle G69 G ∧ Since w0.heap.size G0 w0 G w ∧ Owns G w w0.heap.size []) ?_ ?_
              · have Hoq75 := H
                have H := hq75
                refine WC_region ?_
                refine WL_val (rn_move (v := (.int .i64 y71.2)) rfl) rfl ?_
                refine WL_val (rn_eql rfl rfl) rfl ?_
                refine WL_val (rn_move (v := (.bool (y71.2 == 0))) rfl) rfl ?_
                rcases bcases (y71.2 == 0) with hb76 | hb76
                · have H := ifT hb76 H
                  refine WL_guardY rfl hb76 rfl rfl ?_
                  refine WL_val (rn_move (v := (.bool y71.1)) rfl) rfl ?_
                  refine WL_val (rn_pickT (v := (.bool y71.1)) rfl hb76 rfl) rfl ?_
                  refine WL_val (rn_move (v := (.bool y71.1)) rfl) rfl ?_
                  rcases bcases y71.1 with hb77 | hb77
                  · have H := ifT hb77 H
                    refine WL_guardY rfl hb77 rfl rfl ?_
                    refine WL_val (rn_move (v := (.bool y30.1)) rfl) rfl ?_
                    refine WL_guardY rfl hb77 rfl rfl ?_
                    refine WL_val (rn_not rfl) rfl ?_
                    refine WL_guardY rfl hb77 rfl rfl ?_
                    refine WL_val (rn_move (v := (.bool (!y30.1))) rfl) rfl ?_
                    rcases bcases (!y30.1) with hb78 | hb78
                    · have H := ifT hb78 H
                      refine WL_guardN rfl hb78 rfl rfl rfl ?_
                      refine WL_guardN rfl hb78 rfl rfl rfl ?_
                      refine WL_guardN rfl hb78 rfl rfl rfl ?_
                      refine WL_guardY rfl hb77 rfl rfl ?_
                      refine WL_val (rn_pickT (v := (.bool true)) rfl hb78 rfl) rfl ?_
                      refine WL_guardY rfl hb77 rfl rfl ?_
                      refine WL_val (rn_move (v := (.bool true)) rfl) rfl ?_
                      refine WL_guardN rfl rfl rfl rfl rfl ?_
                      refine WL_guardN rfl rfl rfl rfl rfl ?_
                      refine WL_guardN rfl rfl rfl rfl rfl ?_
                      refine WL_guardN rfl rfl rfl rfl rfl ?_
                      refine WL_guardU rfl rfl rfl rfl ?_
                      refine WL_guardU rfl rfl rfl rfl ?_
                      refine WL_guardU rfl rfl rfl rfl ?_
                      refine WL_guardU rfl rfl rfl rfl ?_
                      refine WL_guardU rfl rfl rfl rfl ?_
                      refine WL_guardU rfl rfl rfl rfl ?_
                      refine WL_guardU rfl rfl rfl rfl ?_
                      refine WL_guardU rfl rfl rfl rfl ?_
                      refine WL_guardU rfl rfl rfl rfl ?_
                      refine WL_guardU rfl rfl rfl rfl ?_
                      refine WL_guardU rfl rfl rfl rfl ?_
                      refine WL_guardU rfl rfl rfl rfl ?_
                      refine WL_guardU rfl rfl rfl rfl ?_
                      refine WL_guardU rfl rfl rfl rfl ?_
                      refine WL_guardU rfl rfl rfl rfl ?_
                      refine WL_guardU rfl rfl rfl rfl ?_
                      refine WL_guardU rfl rfl rfl rfl ?_
                      refine WL_guardU rfl rfl rfl rfl ?_
                      refine WL_guardN rfl rfl rfl rfl rfl ?_
                      refine WL_guardY rfl hb77 rfl rfl ?_
                      refine WL_val (rn_pickT (v := (.bool true)) rfl rfl rfl) rfl ?_
                      refine WL_val (rn_pickT (v := (.bool true)) rfl hb77 rfl) rfl ?_
                      refine WL_val (rn_move (v := (.bool true)) rfl) rfl ?_
                      refine WL_guardY rfl rfl rfl rfl ?_
                      obtain ⟨y79, hy79, H⟩ := bnd H
                      refine WL_op rfl (OpP_callV cb19 (f19_ok  hS.sat  hy79) rfl rfl (fun w80 hb => ?_))
                      have hS := hS.keep hb
                      have hO := hO.below hb
                      refine WL_val (rn_pickT (v := (.bool y79)) rfl rfl rfl) rfl ?_
                      refine WL_val (rn_assign (v := (.bool y79)) rfl) rfl ?_
                      refine WL_nil ?_
                      have hO : Owns G69 w80 w0.heap.size ([]) := hO
                      have H := Option.some.inj H
                      subst H
                      exact ⟨_, G69, upds_self _ _ ⟨rfl, trivial⟩, Gle.refl _, hS, hO⟩
                    · have H := ifF hb78 H
                      refine WL_guardY rfl hb78 rfl rfl ?_
                      refine WL_val (rn_move (v := (.int .i64 y73)) rfl) rfl ?_
                      refine WL_guardY rfl hb78 rfl rfl ?_
                      refine WL_val (rn_move (v := (.int .i64 y26.2.1)) rfl) rfl ?_
                      refine WL_guardY rfl hb78 rfl rfl ?_
                      refine WL_val (rn_gtr rfl rfl) rfl ?_
                      refine WL_guardY rfl hb77 rfl rfl ?_
                      refine WL_val (rn_pickF (v := (.bool (decide (y26.2.1 < y73)))) rfl hb78 rfl) rfl ?_
                      refine WL_guardY rfl hb77 rfl rfl ?_
                      refine WL_val (rn_move (v := (.bool (decide (y26.2.1 < y73)))) rfl) rfl ?_
                      rcases bcases (decide (y26.2.1 < y73)) with hb81 | hb81
                      · have H := ifT hb81 H
                        refine WL_guardN rfl hb81 rfl rfl rfl ?_
                        refine WL_guardN rfl hb81 rfl rfl rfl ?_
                        refine WL_guardN rfl hb81 rfl rfl rfl ?_
                        refine WL_guardN rfl hb81 rfl rfl rfl ?_
                        refine WL_guardU rfl rfl rfl rfl ?_
                        refine WL_guardU rfl rfl rfl rfl ?_
                        refine WL_guardU rfl rfl rfl rfl ?_
                        refine WL_guardU rfl rfl rfl rfl ?_
                        refine WL_guardU rfl rfl rfl rfl ?_
                        refine WL_guardU rfl rfl rfl rfl ?_
                        refine WL_guardU rfl rfl rfl rfl ?_
                        refine WL_guardU rfl rfl rfl rfl ?_
                        refine WL_guardU rfl rfl rfl rfl ?_
                        refine WL_guardU rfl rfl rfl rfl ?_
                        refine WL_guardU rfl rfl rfl rfl ?_
                        refine WL_guardU rfl rfl rfl rfl ?_
                        refine WL_guardU rfl rfl rfl rfl ?_
                        refine WL_guardU rfl rfl rfl rfl ?_
                        refine WL_guardU rfl rfl rfl rfl ?_
                        refine WL_guardU rfl rfl rfl rfl ?_
                        refine WL_guardU rfl rfl rfl rfl ?_
                        refine WL_guardU rfl rfl rfl rfl ?_
                        refine WL_guardN rfl hb81 rfl rfl rfl ?_
                        refine WL_guardY rfl hb77 rfl rfl ?_
                        refine WL_val (rn_pickT (v := (.bool true)) rfl hb81 rfl) rfl ?_
                        refine WL_val (rn_pickT (v := (.bool true)) rfl hb77 rfl) rfl ?_
                        refine WL_val (rn_move (v := (.bool true)) rfl) rfl ?_
                        refine WL_guardY rfl rfl rfl rfl ?_
                        obtain ⟨y82, hy82, H⟩ := bnd H
                        refine WL_op rfl (OpP_callV cb19 (f19_ok  hS.sat  hy82) rfl rfl (fun w83 hb => ?_))
                        have hS := hS.keep hb
                        have hO := hO.below hb
                        refine WL_val (rn_pickT (v := (.bool y82)) rfl rfl rfl) rfl ?_
                        refine WL_val (rn_assign (v := (.bool y82)) rfl) rfl ?_
                        refine WL_nil ?_
                        have hO : Owns G69 w83 w0.heap.size ([]) := hO
                        have H := Option.some.inj H
                        subst H
                        exact ⟨_, G69, upds_self _ _ ⟨rfl, trivial⟩, Gle.refl _, hS, hO⟩
                      · have H := ifF hb81 H
                        refine WL_guardY rfl hb81 rfl rfl ?_
                        refine WL_val (rn_move (v := (.int .i64 y73)) rfl) rfl ?_
                        refine WL_guardY rfl hb81 rfl rfl ?_
                        refine WL_val (rn_move (v := (.int .i64 y26.2.1)) rfl) rfl ?_
                        refine WL_guardY rfl hb81 rfl rfl ?_
                        refine WL_val (rn_eql rfl rfl) rfl ?_
                        refine WL_guardY rfl hb81 rfl rfl ?_
                        refine WL_val (rn_move (v := (.bool (y73 == y26.2.1))) rfl) rfl ?_
                        rcases bcases (y73 == y26.2.1) with hb84 | hb84
                        · have H := ifT hb84 H
                          refine WL_guardY rfl hb84 rfl rfl ?_
                          refine WL_val (rn_move (v := (.slice a3 n3 c3)) rfl) rfl ?_
                          refine WL_guardY rfl hb84 rfl rfl ?_
                          refine WL_val (rn_len sl25 rfl rfl (h3.mono RInt_mono l0_4).1) rfl ?_
                          refine WL_guardY rfl hb84 rfl rfl ?_
                          refine WL_val (rn_move (v := (.slice a29 n29 c29)) rfl) rfl ?_
                          refine WL_guardY rfl hb84 rfl rfl ?_
                          refine WL_val (rn_len sl25 rfl rfl (h29.mono RInt_mono leG69).1) rfl ?_
                          refine WL_guardY rfl hb84 rfl rfl ?_
                          refine WL_val (rn_gtr rfl rfl) rfl ?_
                          refine WL_guardY rfl hb84 rfl rfl ?_
                          refine WL_val (rn_move (v := (.bool (decide ((y26.1.length : Int) < (x2.length : Int))))) rfl) rfl ?_
                          rcases bcases (decide ((y26.1.length : Int) < (x2.length : Int))) with hb85 | hb85
                          · have H := ifT hb85 H
                            refine WL_guardN rfl hb85 rfl rfl rfl ?_
                            refine WL_guardN rfl hb85 rfl rfl rfl ?_
                            refine WL_guardN rfl hb85 rfl rfl rfl ?_
                            refine WL_guardN rfl hb85 rfl rfl rfl ?_
                            refine WL_guardN rfl hb85 rfl rfl rfl ?_
                            refine WL_guardN rfl hb85 rfl rfl rfl ?_
                            refine WL_guardU rfl rfl rfl rfl ?_
                            refine WL_guardU rfl rfl rfl rfl ?_
                            refine WL_guardU rfl rfl rfl rfl ?_
                            refine WL_guardU rfl rfl rfl rfl ?_
                            refine WL_guardN rfl hb85 rfl rfl rfl ?_
                            refine WL_guardY rfl hb84 rfl rfl ?_
                            refine WL_val (rn_pickT (v := (.bool true)) rfl hb85 rfl) rfl ?_
                            refine WL_guardY rfl hb81 rfl rfl ?_
                            refine WL_val (rn_pickT (v := (.bool true)) rfl hb84 rfl) rfl ?_
                            refine WL_guardY rfl hb77 rfl rfl ?_
                            refine WL_val (rn_pickF (v := (.bool true)) rfl hb81 rfl) rfl ?_
                            refine WL_val (rn_pickT (v := (.bool true)) rfl hb77 rfl) rfl ?_
                            refine WL_val (rn_move (v := (.bool true)) rfl) rfl ?_
                            refine WL_guardY rfl rfl rfl rfl ?_
                            obtain ⟨y86, hy86, H⟩ := bnd H
                            refine WL_op rfl (OpP_callV cb19 (f19_ok  hS.sat  hy86) rfl rfl (fun w87 hb => ?_))
                            have hS := hS.keep hb
                            have hO := hO.below hb
                            refine WL_val (rn_pickT (v := (.bool y86)) rfl rfl rfl) rfl ?_
                            refine WL_val (rn_assign (v := (.bool y86)) rfl) rfl ?_
                            refine WL_nil ?_
                            have hO : Owns G69 w87 w0.heap.size ([]) := hO
                            have H := Option.some.inj H
                            subst H
                            exact ⟨_, G69, upds_self _ _ ⟨rfl, trivial⟩, Gle.refl _, hS, hO⟩
                          · have H := ifF hb85 H
                            refine WL_guardY rfl hb85 rfl rfl ?_
                            refine WL_val (rn_move (v := (.slice a3 n3 c3)) rfl) rfl ?_
                            refine WL_guardY rfl hb85 rfl rfl ?_
                            refine WL_val (rn_len sl25 rfl rfl (h3.mono RInt_mono l0_4).1) rfl ?_
                            refine WL_guardY rfl hb85 rfl rfl ?_
                            refine WL_val (rn_move (v := (.slice a29 n29 c29)) rfl) rfl ?_
                            refine WL_guardY rfl hb85 rfl rfl ?_
                            refine WL_val (rn_len sl25 rfl rfl (h29.mono RInt_mono leG69).1) rfl ?_
                            refine WL_guardY rfl hb85 rfl rfl ?_
                            refine WL_val (rn_eql rfl rfl) rfl ?_
                            refine WL_guardY rfl hb85 rfl rfl ?_
                            refine WL_val (rn_move (v := (.bool ((x2.length : Int) == (y26.1.length : Int)))) rfl) rfl ?_
                            rcases bcases ((x2.length : Int) == (y26.1.length : Int)) with hb88 | hb88
                            · have H := ifT hb88 H
                              refine WL_guardY rfl hb88 rfl rfl ?_
                              refine WL_val (rn_move (v := (.slice a3 n3 c3)) rfl) rfl ?_
                              refine WL_guardY rfl hb88 rfl rfl ?_
                              refine WL_val (rn_move (v := (.slice a29 n29 c29)) rfl) rfl ?_
                              refine WL_guardY rfl hb88 rfl rfl ?_
                              obtain ⟨y89, hy89, H⟩ := bnd H
                              refine WL_op rfl (OpP_callV cb47 (f47_ok (x0 := x2) (x1 := y26.1) hS.sat (h3.mono RInt_mono l0_4) (h29.mono RInt_mono leG69) hy89) rfl rfl (fun w90 hb => ?_))
                              have hS := hS.keep hb
                              have hO := hO.below hb
                              refine WL_guardY rfl hb88 rfl rfl ?_
                              refine WL_val (rn_not rfl) rfl ?_
                              refine WL_guardY rfl hb85 rfl rfl ?_
                              refine WL_val (rn_pickT (v := (.bool (!y89))) rfl hb88 rfl) rfl ?_
                              refine WL_guardY rfl hb84 rfl rfl ?_
                              refine WL_val (rn_pickF (v := (.bool (!y89))) rfl hb85 rfl) rfl ?_
                              refine WL_guardY rfl hb81 rfl rfl ?_
                              refine WL_val (rn_pickT (v := (.bool (!y89))) rfl hb84 rfl) rfl ?_
                              refine WL_guardY rfl hb77 rfl rfl ?_
                              refine WL_val (rn_pickF (v := (.bool (!y89))) rfl hb81 rfl) rfl ?_
                              refine WL_val (rn_pickT (v := (.bool (!y89))) rfl hb77 rfl) rfl ?_
                              refine WL_val (rn_move (v := (.bool (!y89))) rfl) rfl ?_
                              rcases bcases (!y89) with hb91 | hb91
                              · have H := ifT hb91 H
                                refine WL_guardY rfl hb91 rfl rfl ?_
                                obtain ⟨y92, hy92, H⟩ := bnd H
                                refine WL_op rfl (OpP_callV cb19 (f19_ok  hS.sat  hy92) rfl rfl (fun w93 hb => ?_))
                                have hS := hS.keep hb
                                have hO := hO.below hb
                                refine WL_val (rn_pickT (v := (.bool y92)) rfl hb91 rfl) rfl ?_
                                refine WL_val (rn_assign (v := (.bool y92)) rfl) rfl ?_
                                refine WL_nil ?_
                                have hO : Owns G69 w93 w0.heap.size ([]) := hO
                                have H := Option.some.inj H
                                subst H
                                exact ⟨_, G69, upds_self _ _ ⟨rfl, trivial⟩, Gle.refl _, hS, hO⟩
                              · have H := ifF hb91 H
                                refine WL_guardN rfl hb91 rfl rfl rfl ?_
                                refine WL_val (rn_pickF (v := (.bool false)) rfl hb91 rfl) rfl ?_
                                refine WL_val (rn_assign (v := (.bool false)) rfl) rfl ?_
                                refine WL_nil ?_
                                have hO : Owns G69 w90 w0.heap.size ([]) := hO
                                have H := Option.some.inj H
                                subst H
                                exact ⟨_, G69, upds_self _ _ ⟨rfl, trivial⟩, Gle.refl _, hS, hO⟩
                            · have H := ifF hb88 H
                              refine WL_guardN rfl hb88 rfl rfl rfl ?_
                              refine WL_guardN rfl hb88 rfl rfl rfl ?_
                              refine WL_guardN rfl hb88 rfl rfl rfl ?_
                              refine WL_guardN rfl hb88 rfl rfl rfl ?_
                              refine WL_guardY rfl hb85 rfl rfl ?_
                              refine WL_val (rn_pickF (v := (.bool false)) rfl hb88 rfl) rfl ?_
                              refine WL_guardY rfl hb84 rfl rfl ?_
                              refine WL_val (rn_pickF (v := (.bool false)) rfl hb85 rfl) rfl ?_
                              refine WL_guardY rfl hb81 rfl rfl ?_
                              refine WL_val (rn_pickT (v := (.bool false)) rfl hb84 rfl) rfl ?_
                              refine WL_guardY rfl hb77 rfl rfl ?_
                              refine WL_val (rn_pickF (v := (.bool false)) rfl hb81 rfl) rfl ?_
                              refine WL_val (rn_pickT (v := (.bool false)) rfl hb77 rfl) rfl ?_
                              refine WL_val (rn_move (v := (.bool false)) rfl) rfl ?_
                              refine WL_guardN rfl rfl rfl rfl rfl ?_
                              refine WL_val (rn_pickF (v := (.bool false)) rfl rfl rfl) rfl ?_
                              refine WL_val (rn_assign (v := (.bool false)) rfl) rfl ?_
                              refine WL_nil ?_
                              have hO : Owns G69 w74 w0.heap.size ([]) := hO
                              have H := Option.some.inj H
                              subst H
                              exact ⟨_, G69, upds_self _ _ ⟨rfl, trivial⟩, Gle.refl _, hS, hO⟩
                        · have H := ifF hb84 H
                          refine WL_guardN rfl hb84 rfl rfl rfl ?_
                          refine WL_guardN rfl hb84 rfl rfl rfl ?_
                          refine WL_guardN rfl hb84 rfl rfl rfl ?_
                          refine WL_guardN rfl hb84 rfl rfl rfl ?_
                          refine WL_guardN rfl hb84 rfl rfl rfl ?_
                          refine WL_guardN rfl hb84 rfl rfl rfl ?_
                          refine WL_guardU rfl rfl rfl rfl ?_
                          refine WL_guardU rfl rfl rfl rfl ?_
                          refine WL_guardU rfl rfl rfl rfl ?_
                          refine WL_guardU rfl rfl rfl rfl ?_
                          refine WL_guardU rfl rfl rfl rfl ?_
                          refine WL_guardU rfl rfl rfl rfl ?_
                          refine WL_guardU rfl rfl rfl rfl ?_
                          refine WL_guardU rfl rfl rfl rfl ?_
                          refine WL_guardU rfl rfl rfl rfl ?_
                          refine WL_guardU rfl rfl rfl rfl ?_
                          refine WL_guardU rfl rfl rfl rfl ?_
                          refine WL_guardN rfl hb84 rfl rfl rfl ?_
                          refine WL_guardY rfl hb81 rfl rfl ?_
                          refine WL_val (rn_pickF (v := (.bool false)) rfl hb84 rfl) rfl ?_
                          refine WL_guardY rfl hb77 rfl rfl ?_
                          refine WL_val (rn_pickF (v := (.bool false)) rfl hb81 rfl) rfl ?_
                          refine WL_val (rn_pickT (v := (.bool false)) rfl hb77 rfl) rfl ?_
                          refine WL_val (rn_move (v := (.bool false)) rfl) rfl ?_
                          refine WL_guardN rfl rfl rfl rfl rfl ?_
                          refine WL_val (rn_pickF (v := (.bool false)) rfl rfl rfl) rfl ?_
                          refine WL_val (rn_assign (v := (.bool false)) rfl) rfl ?_
                          refine WL_nil ?_
                          have hO : Owns G69 w74 w0.heap.size ([]) := hO
                          have H := Option.some.inj H
                          subst H
                          exact ⟨_, G69, upds_self _ _ ⟨rfl, trivial⟩, Gle.refl _, hS, hO⟩
                  · have H := ifF hb77 H
                    refine WL_guardN rfl hb77 rfl rfl rfl ?_
                    refine WL_guardN rfl hb77 rfl rfl rfl ?_
                    refine WL_guardN rfl hb77 rfl rfl rfl ?_
                    refine WL_guardU rfl rfl rfl rfl ?_
                    refine WL_guardU rfl rfl rfl rfl ?_
                    refine WL_guardU rfl rfl rfl rfl ?_
                    refine WL_guardN rfl hb77 rfl rfl rfl ?_
                    refine WL_guardN rfl hb77 rfl rfl rfl ?_
                    refine WL_guardU rfl rfl rfl rfl ?_
                    refine WL_guardU rfl rfl rfl rfl ?_
                    refine WL_guardU rfl rfl rfl rfl ?_
                    refine WL_guardU rfl rfl rfl rfl ?_
                    refine WL_guardU rfl rfl rfl rfl ?_
                    refine WL_guardU rfl rfl rfl rfl ?_
                    refine WL_guardU rfl rfl rfl rfl ?_
                    refine WL_guardU rfl rfl rfl rfl ?_
                    refine WL_guardU rfl rfl rfl rfl ?_
                    refine WL_guardU rfl rfl rfl rfl ?_
                    refine WL_guardU rfl rfl rfl rfl ?_
                    refine WL_guardU rfl rfl rfl rfl ?_
                    refine WL_guardU rfl rfl rfl rfl ?_
                    refine WL_guardU rfl rfl rfl rfl ?_
                    refine WL_guardU rfl rfl rfl rfl ?_
                    refine WL_guardU rfl rfl rfl rfl ?_
                    refine WL_guardU rfl rfl rfl rfl ?_
                    refine WL_guardU rfl rfl rfl rfl ?_
                    refine WL_guardU rfl rfl rfl rfl ?_
                    refine WL_guardU rfl rfl rfl rfl ?_
                    refine WL_guardU rfl rfl rfl rfl ?_
                    refine WL_guardU rfl rfl rfl rfl ?_
                    refine WL_guardU rfl rfl rfl rfl ?_
                    refine WL_guardN rfl hb77 rfl rfl rfl ?_
                    refine WL_val (rn_pickF (v := (.bool false)) rfl hb77 rfl) rfl ?_
                    refine WL_val (rn_move (v := (.bool false)) rfl) rfl ?_
                    refine WL_guardN rfl rfl rfl rfl rfl ?_
                    refine WL_val (rn_pickF (v := (.bool false)) rfl rfl rfl) rfl ?_
                    refine WL_val (rn_assign (v := (.bool false)) rfl) rfl ?_
                    refine WL_nil ?_
                    have hO : Owns G69 w74 w0.heap.size ([]) := hO
                    have H := Option.some.inj H
                    subst H
                    exact ⟨_, G69, upds_self _ _ ⟨rfl, trivial⟩, Gle.refl _, hS, hO⟩
                · have H := ifF hb76 H
                  refine WL_guardN rfl hb76 rfl rfl rfl ?_
                  refine WL_val (rn_pickF (v := (.bool false)) rfl hb76 rfl) rfl ?_
                  refine WL_val (rn_move (v := (.bool false)) rfl) rfl ?_
                  refine WL_guardN rfl rfl rfl rfl rfl ?_
                  refine WL_guardN rfl rfl rfl rfl rfl ?_
                  refine WL_guardN rfl rfl rfl rfl rfl ?_
                  refine WL_guardU rfl rfl rfl rfl ?_
                  refine WL_guardU rfl rfl rfl rfl ?_
                  refine WL_guardU rfl rfl rfl rfl ?_
                  refine WL_guardN rfl rfl rfl rfl rfl ?_
                  refine WL_guardN rfl rfl rfl rfl rfl ?_
                  refine WL_guardU rfl rfl rfl rfl ?_
                  refine WL_guardU rfl rfl rfl rfl ?_
                  refine WL_guardU rfl rfl rfl rfl ?_
                  refine WL_guardU rfl rfl rfl rfl ?_
                  refine WL_guardU rfl rfl rfl rfl ?_
                  refine WL_guardU rfl rfl rfl rfl ?_
                  refine WL_guardU rfl rfl rfl rfl ?_
                  refine WL_guardU rfl rfl rfl rfl ?_
                  refine WL_guardU rfl rfl rfl rfl ?_
                  refine WL_guardU rfl rfl rfl rfl ?_
                  refine WL_guardU rfl rfl rfl rfl ?_
                  refine WL_guardU rfl rfl rfl rfl ?_
                  refine WL_guardU rfl rfl rfl rfl ?_
                  refine WL_guardU rfl rfl rfl rfl ?_
                  refine WL_guardU rfl rfl rfl rfl ?_
                  refine WL_guardU rfl rfl rfl rfl ?_
                  refine WL_guardU rfl rfl rfl rfl ?_
                  refine WL_guardU rfl rfl rfl rfl ?_
                  refine WL_guardU rfl rfl rfl rfl ?_
                  refine WL_guardU rfl rfl rfl rfl ?_
                  refine WL_guardU rfl rfl rfl rfl ?_
                  refine WL_guardU rfl rfl rfl rfl ?_
                  refine WL_guardU rfl rfl rfl rfl ?_
                  refine WL_guardN rfl rfl rfl rfl rfl ?_
                  refine WL_val (rn_pickF (v := (.bool false)) rfl rfl rfl) rfl ?_
                  refine WL_val (rn_move (v := (.bool false)) rfl) rfl ?_
                  refine WL_guardN rfl rfl rfl rfl rfl ?_
                  refine WL_val (rn_pickF (v := (.bool false)) rfl rfl rfl) rfl ?_
                  refine WL_val (rn_assign (v := (.bool false)) rfl) rfl ?_
                  refine WL_nil ?_
                  have hO : Owns G69 w74 w0.heap.size ([]) := hO
                  have H := Option.some.inj H
                  subst H
                  exact ⟨_, G69, upds_self _ _ ⟨rfl, trivial⟩, Gle.refl _, hS, hO⟩
              · rintro F w94 ⟨Fb, G95, rfl, leG95, hS, hO⟩
                refine WC_ret ?_
                have H : some q75 = some r := H
                have H := Option.some.inj H
                subst H
                exact ⟨rfl, hS.below⟩
end Go.Proofs.Ytgplafckddpnkaa
