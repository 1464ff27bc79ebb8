/-
  The walks: each Go function computes its plain function (printed by a program of ours).
-/
import Derived.Test.YtgplafckddpnkaaRd
import Derived.Test.YtgplafckddpnkaaIt
import Derived.Test.YtgplafckddpnkaaP11W4
namespace Go.Proofs.Ytgplafckddpnkaa
open Go.RowKit
set_option linter.unusedVariables false

set_option maxRecDepth 20000
set_option linter.unusedVariables false
set_option maxHeartbeats 1000000 in
theorem f11_ok {G0 : Gm} {w0 : World} (hS0 : Sat G0 w0) {x0 : TBaneWeb} {a1 : Option Addr} {n1 c1 : Nat} {x1 : (List Int)} {a2 : Option Addr} {n2 c2 : Nat} {x2 : (List Int)} {a3 : Option Addr} {n3 c3 : Nat} {x3 : Int} {x4 : Int} {x5 : Int} (h1 : RSl RTBaneFish 5 G0 a1 n1 c1 x0.Fish) (h2 : RSl RInt 1 G0 a2 n2 c2 x1) (h3 : RSl RInt 1 G0 a3 n3 c3 x2) {r : Bool} (H : f11 x0 x1 x2 x3 x4 x5 = some r) :
    Calls Try.prog 11 #[.agg #[.slice a1 n1 c1, .int .i64 x0.Limit], .slice a2 n2 c2, .slice a3 n3 c3, .int .i64 x3, .int .i64 x4, .int .i64 x5] w0 (RetV w0 (.bool r)) := by
  have hS := Since.start hS0
  have hO : Owns G0 w0 w0.heap.size [] := Owns.nil (Nat.le_refl _)
  unfold f11 at H
  refine enter1 (N := 236) (shutV _ _) Try.func11 rfl rfl rfl rfl ?_
  refine WC_seq ?_
  refine WC_region ?_
  refine WL_op rfl (OpP_newF (v := fun b => .pointer (some ⟨b, 0, none⟩)) (cs := [.slice a1 n1 c1, .int .i64 x0.Limit]) (e := 24) (rn_boxA rfl) hS.sat rfl (fun b4 G6 w5 hg hcb4 => ?_))
  have hS := hS.grow hg
  have hO := hO.grow hg
  have leG6 := hg.le
  refine WL_val (rn_assign (v := (.bool false)) rfl) rfl ?_
  refine WL_nil ?_
  refine WC_seq ?_
  refine WC_seq ?_
  obtain ⟨q7, hq7, H⟩ := bnd H
  refine WC_cut (fun F w => ∃ (Fb : Fr) (G : Gm), F = upds Fb [(1, .slice a2 n2 c2), (2, .slice a3 n3 c3), (3, .int .i64 x3), (4, .int .i64 x4), (5, .int .i64 x5), (6, .pointer (some ⟨b4, 0, none⟩)), (79, .bool q7)] ∧ Gle G6 G ∧ Since w0.heap.size G0 w0 G w ∧ Owns G w w0.heap.size []) ?_ ?_
  · have Hoq7 := H
    have H := hq7
    refine WC_region ?_
    refine WL_val (rn_loadA ag24 (cs := [.slice a1 n1 c1, .int .i64 x0.Limit]) rfl rfl (fun j v hj => hS.sat.cell (hcb4.drop_take 0 2 j v hj))) rfl ?_
    obtain ⟨y8, hy8, H⟩ := bnd H
    refine WL_op rfl (OpP_callV cb17 (f17_ok (x0 := x0) hS.sat (h1.mono RTBaneFish_mono leG6) hy8) rfl rfl (fun w9 hb => ?_))
    have hS := hS.keep hb
    have hO := hO.below hb
    refine WL_val (rn_not rfl) rfl ?_
    refine WL_val (rn_move (v := (.bool (!y8))) rfl) rfl ?_
    rcases bcases (!y8) with hb10 | hb10
    · have H := ifT hb10 H
      refine WL_guardN rfl hb10 rfl rfl rfl ?_
      refine WL_guardN rfl hb10 rfl rfl rfl ?_
      refine WL_guardN rfl hb10 rfl rfl rfl ?_
      refine WL_val (rn_pickT (v := (.bool true)) rfl hb10 rfl) rfl ?_
      refine WL_val (rn_move (v := (.bool true)) rfl) rfl ?_
      refine WL_guardN rfl rfl rfl rfl rfl ?_
      refine WL_guardN rfl rfl rfl rfl rfl ?_
      refine WL_guardN rfl rfl rfl rfl rfl ?_
      refine WL_val (rn_pickT (v := (.bool true)) rfl rfl rfl) rfl ?_
      refine WL_val (rn_move (v := (.bool true)) rfl) rfl ?_
      refine WL_guardN rfl rfl rfl rfl rfl ?_
      refine WL_guardN rfl rfl rfl rfl rfl ?_
      refine WL_guardN rfl rfl rfl rfl rfl ?_
      refine WL_val (rn_pickT (v := (.bool true)) rfl rfl rfl) rfl ?_
      refine WL_val (rn_move (v := (.bool true)) rfl) rfl ?_
      refine WL_guardN rfl rfl rfl rfl rfl ?_
      refine WL_guardN rfl rfl rfl rfl rfl ?_
      refine WL_guardN rfl rfl rfl rfl rfl ?_
      refine WL_guardN rfl rfl rfl rfl rfl ?_
      refine WL_guardN rfl rfl rfl rfl rfl ?_
      refine WL_guardN rfl rfl rfl rfl rfl ?_
      refine WL_val (rn_pickT (v := (.bool true)) rfl rfl rfl) rfl ?_
      refine WL_val (rn_move (v := (.bool true)) rfl) rfl ?_
      refine WL_guardN rfl rfl rfl rfl rfl ?_
      refine WL_guardN rfl rfl rfl rfl rfl ?_
      refine WL_guardN rfl rfl rfl rfl rfl ?_
      refine WL_guardN rfl rfl rfl rfl rfl ?_
      refine WL_guardN rfl rfl rfl rfl rfl ?_
      refine WL_guardN rfl rfl rfl rfl rfl ?_
      refine WL_val (rn_pickT (v := (.bool true)) rfl rfl rfl) rfl ?_
      refine WL_val (rn_move (v := (.bool true)) rfl) rfl ?_
      refine WL_guardN rfl rfl rfl rfl rfl ?_
      refine WL_guardN rfl rfl rfl rfl rfl ?_
      refine WL_val (rn_pickT (v := (.bool true)) rfl rfl rfl) rfl ?_
      refine WL_val (rn_move (v := (.bool true)) rfl) rfl ?_
      refine WL_guardN rfl rfl rfl rfl rfl ?_
      refine WL_guardN rfl rfl rfl rfl rfl ?_
      refine WL_guardN rfl rfl rfl rfl rfl ?_
      refine WL_val (rn_pickT (v := (.bool true)) rfl rfl rfl) rfl ?_
      refine WL_val (rn_move (v := (.bool true)) rfl) rfl ?_
      refine WL_guardN rfl rfl rfl rfl rfl ?_
      refine WL_guardN rfl rfl rfl rfl rfl ?_
      refine WL_val (rn_pickT (v := (.bool true)) rfl rfl rfl) rfl ?_
      refine WL_val (rn_move (v := (.bool true)) rfl) rfl ?_
      refine WL_guardN rfl rfl rfl rfl rfl ?_
      refine WL_guardN rfl rfl rfl rfl rfl ?_
      refine WL_guardN rfl rfl rfl rfl rfl ?_
      refine WL_guardN rfl rfl rfl rfl rfl ?_
      refine WL_val (rn_pickT (v := (.bool true)) rfl rfl rfl) rfl ?_
      refine WL_nil ?_
      have hO : Owns G6 w9 w0.heap.size ([]) := hO
      have H := Option.some.inj H
      subst H
      exact ⟨_, G6, upds_self _ _ ⟨rfl, rfl, rfl, rfl, rfl, rfl, rfl, trivial⟩, Gle.refl _, hS, hO⟩
    · have H := ifF hb10 H
      refine WL_guardY rfl hb10 rfl rfl ?_
      refine WL_val (rn_move (v := (.slice a2 n2 c2)) rfl) rfl ?_
      refine WL_guardY rfl hb10 rfl rfl ?_
      refine WL_val (rn_len sl25 rfl rfl (h2.mono RInt_mono leG6).1) rfl ?_
      refine WL_guardY rfl hb10 rfl rfl ?_
      refine WL_val (rn_gtr rfl rfl) rfl ?_
      refine WL_val (rn_pickF (v := (.bool (decide (12 < (x1.length : Int))))) rfl hb10 rfl) rfl ?_
      refine WL_val (rn_move (v := (.bool (decide (12 < (x1.length : Int))))) rfl) rfl ?_
      rcases bcases (decide (12 < (x1.length : Int))) with hb11 | hb11
      · have H := ifT hb11 H
        refine WL_guardN rfl hb11 rfl rfl rfl ?_
        refine WL_guardN rfl hb11 rfl rfl rfl ?_
        refine WL_guardN rfl hb11 rfl rfl rfl ?_
        refine WL_val (rn_pickT (v := (.bool true)) rfl hb11 rfl) rfl ?_
        refine WL_val (rn_move (v := (.bool true)) rfl) rfl ?_
        refine WL_guardN rfl rfl rfl rfl rfl ?_
        refine WL_guardN rfl rfl rfl rfl rfl ?_
        refine WL_guardN rfl rfl rfl rfl rfl ?_
        refine WL_val (rn_pickT (v := (.bool true)) rfl rfl rfl) rfl ?_
        refine WL_val (rn_move (v := (.bool true)) rfl) rfl ?_
        refine WL_guardN rfl rfl rfl rfl rfl ?_
        refine WL_guardN rfl rfl rfl rfl rfl ?_
        refine WL_guardN rfl rfl rfl rfl rfl ?_
        refine WL_guardN rfl rfl rfl rfl rfl ?_
        refine WL_guardN rfl rfl rfl rfl rfl ?_
        refine WL_guardN rfl rfl rfl rfl rfl ?_
        refine WL_val (rn_pickT (v := (.bool true)) rfl rfl rfl) rfl ?_
        refine WL_val (rn_move (v := (.bool true)) rfl) rfl ?_
        refine WL_guardN rfl rfl rfl rfl rfl ?_
        refine WL_guardN rfl rfl rfl rfl rfl ?_
        refine WL_guardN rfl rfl rfl rfl rfl ?_
        refine WL_guardN rfl rfl rfl rfl rfl ?_
        refine WL_guardN rfl rfl rfl rfl rfl ?_
        refine WL_guardN rfl rfl rfl rfl rfl ?_
        refine WL_val (rn_pickT (v := (.bool true)) rfl rfl rfl) rfl ?_
        refine WL_val (rn_move (v := (.bool true)) rfl) rfl ?_
        refine WL_guardN rfl rfl rfl rfl rfl ?_
        refine WL_guardN rfl rfl rfl rfl rfl ?_
        refine WL_val (rn_pickT (v := (.bool true)) rfl rfl rfl) rfl ?_
        refine WL_val (rn_move (v := (.bool true)) rfl) rfl ?_
        refine WL_guardN rfl rfl rfl rfl rfl ?_
        refine WL_guardN rfl rfl rfl rfl rfl ?_
        refine WL_guardN rfl rfl rfl rfl rfl ?_
        refine WL_val (rn_pickT (v := (.bool true)) rfl rfl rfl) rfl ?_
        refine WL_val (rn_move (v := (.bool true)) rfl) rfl ?_
        refine WL_guardN rfl rfl rfl rfl rfl ?_
        refine WL_guardN rfl rfl rfl rfl rfl ?_
        refine WL_val (rn_pickT (v := (.bool true)) rfl rfl rfl) rfl ?_
        refine WL_val (rn_move (v := (.bool true)) rfl) rfl ?_
        refine WL_guardN rfl rfl rfl rfl rfl ?_
        refine WL_guardN rfl rfl rfl rfl rfl ?_
        refine WL_guardN rfl rfl rfl rfl rfl ?_
        refine WL_guardN rfl rfl rfl rfl rfl ?_
        refine WL_val (rn_pickT (v := (.bool true)) rfl rfl rfl) rfl ?_
        refine WL_nil ?_
        have hO : Owns G6 w9 w0.heap.size ([]) := hO
        have H := Option.some.inj H
        subst H
        exact ⟨_, G6, upds_self _ _ ⟨rfl, rfl, rfl, rfl, rfl, rfl, rfl, trivial⟩, Gle.refl _, hS, hO⟩
      · have H := ifF hb11 H
        refine WL_guardY rfl hb11 rfl rfl ?_
        refine WL_val (rn_move (v := (.slice a3 n3 c3)) rfl) rfl ?_
        refine WL_guardY rfl hb11 rfl rfl ?_
        refine WL_val (rn_len sl25 rfl rfl (h3.mono RInt_mono leG6).1) rfl ?_
        refine WL_guardY rfl hb11 rfl rfl ?_
        refine WL_val (rn_gtr rfl rfl) rfl ?_
        refine WL_val (rn_pickF (v := (.bool (decide (12 < (x2.length : Int))))) rfl hb11 rfl) rfl ?_
        refine WL_val (rn_move (v := (.bool (decide (12 < (x2.length : Int))))) rfl) rfl ?_
        rcases bcases (decide (12 < (x2.length : Int))) with hb12 | hb12
        · have H := ifT hb12 H
          refine WL_guardN rfl hb12 rfl rfl rfl ?_
          refine WL_guardN rfl hb12 rfl rfl rfl ?_
          refine WL_guardN rfl hb12 rfl rfl rfl ?_
          refine WL_val (rn_pickT (v := (.bool true)) rfl hb12 rfl) rfl ?_
          refine WL_val (rn_move (v := (.bool true)) rfl) rfl ?_
          refine WL_guardN rfl rfl rfl rfl rfl ?_
          refine WL_guardN rfl rfl rfl rfl rfl ?_
          refine WL_guardN rfl rfl rfl rfl rfl ?_
          refine WL_guardN rfl rfl rfl rfl rfl ?_
          refine WL_guardN rfl rfl rfl rfl rfl ?_
          refine WL_guardN rfl rfl rfl rfl rfl ?_
          refine WL_val (rn_pickT (v := (.bool true)) rfl rfl rfl) rfl ?_
          refine WL_val (rn_move (v := (.bool true)) rfl) rfl ?_
          refine WL_guardN rfl rfl rfl rfl rfl ?_
          refine WL_guardN rfl rfl rfl rfl rfl ?_
          refine WL_guardN rfl rfl rfl rfl rfl ?_
          refine WL_guardN rfl rfl rfl rfl rfl ?_
          refine WL_guardN rfl rfl rfl rfl rfl ?_
          refine WL_guardN rfl rfl rfl rfl rfl ?_
          refine WL_val (rn_pickT (v := (.bool true)) rfl rfl rfl) rfl ?_
          refine WL_val (rn_move (v := (.bool true)) rfl) rfl ?_
          refine WL_guardN rfl rfl rfl rfl rfl ?_
          refine WL_guardN rfl rfl rfl rfl rfl ?_
          refine WL_val (rn_pickT (v := (.bool true)) rfl rfl rfl) rfl ?_
          refine WL_val (rn_move (v := (.bool true)) rfl) rfl ?_
          refine WL_guardN rfl rfl rfl rfl rfl ?_
          refine WL_guardN rfl rfl rfl rfl rfl ?_
          refine WL_guardN rfl rfl rfl rfl rfl ?_
          refine WL_val (rn_pickT (v := (.bool true)) rfl rfl rfl) rfl ?_
          refine WL_val (rn_move (v := (.bool true)) rfl) rfl ?_
          refine WL_guardN rfl rfl rfl rfl rfl ?_
          refine WL_guardN rfl rfl rfl rfl rfl ?_
          refine WL_val (rn_pickT (v := (.bool true)) rfl rfl rfl) rfl ?_
          refine WL_val (rn_move (v := (.bool true)) rfl) rfl ?_
          refine WL_guardN rfl rfl rfl rfl rfl ?_
          refine WL_guardN rfl rfl rfl rfl rfl ?_
          refine WL_guardN rfl rfl rfl rfl rfl ?_
          refine WL_guardN rfl rfl rfl rfl rfl ?_
          refine WL_val (rn_pickT (v := (.bool true)) rfl rfl rfl) rfl ?_
          refine WL_nil ?_
          have hO : Owns G6 w9 w0.heap.size ([]) := hO
          have H := Option.some.inj H
          subst H
          exact ⟨_, G6, upds_self _ _ ⟨rfl, rfl, rfl, rfl, rfl, rfl, rfl, trivial⟩, Gle.refl _, hS, hO⟩
        · have H := ifF hb12 H
          refine WL_guardY rfl hb12 rfl rfl ?_
          refine WL_val (rn_loadA ag24 (cs := [.slice a1 n1 c1, .int .i64 x0.Limit]) rfl rfl (fun j v hj => hS.sat.cell (hcb4.drop_take 0 2 j v hj))) rfl ?_
          refine WL_guardY rfl hb12 rfl rfl ?_
          obtain ⟨y13, hy13, H⟩ := bnd H
          refine WL_op rfl (OpP_callV cb21 (f21_ok (x0 := x0) hS.sat (h1.mono RTBaneFish_mono leG6) hy13) rfl rfl (fun w14 hb => ?_))
          have hS := hS.keep hb
          have hO := hO.below hb
          refine WL_guardY rfl hb12 rfl rfl ?_
          refine WL_val (rn_not rfl) rfl ?_
          refine WL_val (rn_pickF (v := (.bool (!y13))) rfl hb12 rfl) rfl ?_
          refine WL_val (rn_move (v := (.bool (!y13))) rfl) rfl ?_
          rcases bcases (!y13) with hb15 | hb15
          · have H := ifT hb15 H
            refine WL_guardN rfl hb15 rfl rfl rfl ?_
            refine WL_guardN rfl hb15 rfl rfl rfl ?_
            refine WL_guardN rfl hb15 rfl rfl rfl ?_
            refine WL_guardN rfl hb15 rfl rfl rfl ?_
            refine WL_guardN rfl hb15 rfl rfl rfl ?_
            refine WL_guardN rfl hb15 rfl rfl rfl ?_
            refine WL_val (rn_pickT (v := (.bool true)) rfl hb15 rfl) rfl ?_
            refine WL_val (rn_move (v := (.bool true)) rfl) rfl ?_
            refine WL_guardN rfl rfl rfl rfl rfl ?_
            refine WL_guardN rfl rfl rfl rfl rfl ?_
            refine WL_guardN rfl rfl rfl rfl rfl ?_
            refine WL_guardN rfl rfl rfl rfl rfl ?_
            refine WL_guardN rfl rfl rfl rfl rfl ?_
            refine WL_guardN rfl rfl rfl rfl rfl ?_
            refine WL_val (rn_pickT (v := (.bool true)) rfl rfl rfl) rfl ?_
            refine WL_val (rn_move (v := (.bool true)) rfl) rfl ?_
            refine WL_guardN rfl rfl rfl rfl rfl ?_
            refine WL_guardN rfl rfl rfl rfl rfl ?_
            refine WL_val (rn_pickT (v := (.bool true)) rfl rfl rfl) rfl ?_
            refine WL_val (rn_move (v := (.bool true)) rfl) rfl ?_
            refine WL_guardN rfl rfl rfl rfl rfl ?_
            refine WL_guardN rfl rfl rfl rfl rfl ?_
            refine WL_guardN rfl rfl rfl rfl rfl ?_
            refine WL_val (rn_pickT (v := (.bool true)) rfl rfl rfl) rfl ?_
            refine WL_val (rn_move (v := (.bool true)) rfl) rfl ?_
            refine WL_guardN rfl rfl rfl rfl rfl ?_
            refine WL_guardN rfl rfl rfl rfl rfl ?_
            refine WL_val (rn_pickT (v := (.bool true)) rfl rfl rfl) rfl ?_
            refine WL_val (rn_move (v := (.bool true)) rfl) rfl ?_
            refine WL_guardN rfl rfl rfl rfl rfl ?_
            refine WL_guardN rfl rfl rfl rfl rfl ?_
            refine WL_guardN rfl rfl rfl rfl rfl ?_
            refine WL_guardN rfl rfl rfl rfl rfl ?_
            refine WL_val (rn_pickT (v := (.bool true)) rfl rfl rfl) rfl ?_
            refine WL_nil ?_
            have hO : Owns G6 w14 w0.heap.size ([]) := hO
            have H := Option.some.inj H
            subst H
            exact ⟨_, G6, upds_self _ _ ⟨rfl, rfl, rfl, rfl, rfl, rfl, rfl, trivial⟩, Gle.refl _, hS, hO⟩
          · have H := ifF hb15 H
            refine WL_guardY rfl hb15 rfl rfl ?_
            refine WL_val (rn_move (v := (.slice a2 n2 c2)) rfl) rfl ?_
            refine WL_guardY rfl hb15 rfl rfl ?_
            refine WL_val (rn_fld fd24_0 rfl) rfl ?_
            refine WL_guardY rfl hb15 rfl rfl ?_
            refine WL_val (rn_load na22 rfl (hS.sat.cell (hcb4 0 _ rfl))) rfl ?_
            refine WL_guardY rfl hb15 rfl rfl ?_
            refine WL_val (rn_len sl22 rfl rfl (h1.mono RTBaneFish_mono leG6).1) rfl ?_
            refine WL_guardY rfl hb15 rfl rfl ?_
            obtain ⟨y16, hy16, H⟩ := bnd H
            refine WL_op rfl (OpP_callV cb43 (f43_ok (x0 := x1) (x1 := (x0.Fish.length : Int)) hS.sat (h2.mono RInt_mono leG6) hy16) rfl rfl (fun w17 hb => ?_))
            have hS := hS.keep hb
            have hO := hO.below hb
            refine WL_guardY rfl hb15 rfl rfl ?_
            refine WL_val (rn_not rfl) rfl ?_
            refine WL_val (rn_pickF (v := (.bool (!y16))) rfl hb15 rfl) rfl ?_
            refine WL_val (rn_move (v := (.bool (!y16))) rfl) rfl ?_
            rcases bcases (!y16) with hb18 | hb18
            · have H := ifT hb18 H
              refine WL_guardN rfl hb18 rfl rfl rfl ?_
              refine WL_guardN rfl hb18 rfl rfl rfl ?_
              refine WL_guardN rfl hb18 rfl rfl rfl ?_
              refine WL_guardN rfl hb18 rfl rfl rfl ?_
              refine WL_guardN rfl hb18 rfl rfl rfl ?_
              refine WL_guardN rfl hb18 rfl rfl rfl ?_
              refine WL_val (rn_pickT (v := (.bool true)) rfl hb18 rfl) rfl ?_
              refine WL_val (rn_move (v := (.bool true)) rfl) rfl ?_
              refine WL_guardN rfl rfl rfl rfl rfl ?_
              refine WL_guardN rfl rfl rfl rfl rfl ?_
              refine WL_val (rn_pickT (v := (.bool true)) rfl rfl rfl) rfl ?_
              refine WL_val (rn_move (v := (.bool true)) rfl) rfl ?_
              refine WL_guardN rfl rfl rfl rfl rfl ?_
              refine WL_guardN rfl rfl rfl rfl rfl ?_
              refine WL_guardN rfl rfl rfl rfl rfl ?_
              refine WL_val (rn_pickT (v := (.bool true)) rfl rfl rfl) rfl ?_
              refine WL_val (rn_move (v := (.bool true)) rfl) rfl ?_
              refine WL_guardN rfl rfl rfl rfl rfl ?_
              refine WL_guardN rfl rfl rfl rfl rfl ?_
              refine WL_val (rn_pickT (v := (.bool true)) rfl rfl rfl) rfl ?_
              refine WL_val (rn_move (v := (.bool true)) rfl) rfl ?_
              refine WL_guardN rfl rfl rfl rfl rfl ?_
              refine WL_guardN rfl rfl rfl rfl rfl ?_
              refine WL_guardN rfl rfl rfl rfl rfl ?_
              refine WL_guardN rfl rfl rfl rfl rfl ?_
              refine WL_val (rn_pickT (v := (.bool true)) rfl rfl rfl) rfl ?_
              refine WL_nil ?_
              have hO : Owns G6 w17 w0.heap.size ([]) := hO
              have H := Option.some.inj H
              subst H
              exact ⟨_, G6, upds_self _ _ ⟨rfl, rfl, rfl, rfl, rfl, rfl, rfl, trivial⟩, Gle.refl _, hS, hO⟩
            · have H := ifF hb18 H
              refine WL_guardY rfl hb18 rfl rfl ?_
              refine WL_val (rn_move (v := (.slice a3 n3 c3)) rfl) rfl ?_
              refine WL_guardY rfl hb18 rfl rfl ?_
              refine WL_val (rn_fld fd24_0 rfl) rfl ?_
              refine WL_guardY rfl hb18 rfl rfl ?_
              refine WL_val (rn_load na22 rfl (hS.sat.cell (hcb4 0 _ rfl))) rfl ?_
              refine WL_guardY rfl hb18 rfl rfl ?_
              refine WL_val (rn_len sl22 rfl rfl (h1.mono RTBaneFish_mono leG6).1) rfl ?_
              refine WL_guardY rfl hb18 rfl rfl ?_
              obtain ⟨y19, hy19, H⟩ := bnd H
              refine WL_op rfl (OpP_callV cb43 (f43_ok (x0 := x2) (x1 := (x0.Fish.length : Int)) hS.sat (h3.mono RInt_mono leG6) hy19) rfl rfl (fun w20 hb => ?_))
              have hS := hS.keep hb
              have hO := hO.below hb
              refine WL_guardY rfl hb18 rfl rfl ?_
              refine WL_val (rn_not rfl) rfl ?_
              refine WL_val (rn_pickF (v := (.bool (!y19))) rfl hb18 rfl) rfl ?_
              refine WL_val (rn_move (v := (.bool (!y19))) rfl) rfl ?_
              rcases bcases (!y19) with hb21 | hb21
              · have H := ifT hb21 H
                refine WL_guardN rfl hb21 rfl rfl rfl ?_
                refine WL_guardN rfl hb21 rfl rfl rfl ?_
                refine WL_val (rn_pickT (v := (.bool true)) rfl hb21 rfl) rfl ?_
                refine WL_val (rn_move (v := (.bool true)) rfl) rfl ?_
                refine WL_guardN rfl rfl rfl rfl rfl ?_
                refine WL_guardN rfl rfl rfl rfl rfl ?_
                refine WL_guardN rfl rfl rfl rfl rfl ?_
                refine WL_val (rn_pickT (v := (.bool true)) rfl rfl rfl) rfl ?_
                refine WL_val (rn_move (v := (.bool true)) rfl) rfl ?_
                refine WL_guardN rfl rfl rfl rfl rfl ?_
                refine WL_guardN rfl rfl rfl rfl rfl ?_
                refine WL_val (rn_pickT (v := (.bool true)) rfl rfl rfl) rfl ?_
                refine WL_val (rn_move (v := (.bool true)) rfl) rfl ?_
                refine WL_guardN rfl rfl rfl rfl rfl ?_
                refine WL_guardN rfl rfl rfl rfl rfl ?_
                refine WL_guardN rfl rfl rfl rfl rfl ?_
                refine WL_guardN rfl rfl rfl rfl rfl ?_
                refine WL_val (rn_pickT (v := (.bool true)) rfl rfl rfl) rfl ?_
                refine WL_nil ?_
                have hO : Owns G6 w20 w0.heap.size ([]) := hO
                have H := Option.some.inj H
                subst H
                exact ⟨_, G6, upds_self _ _ ⟨rfl, rfl, rfl, rfl, rfl, rfl, rfl, trivial⟩, Gle.refl _, hS, hO⟩
              · have H := ifF hb21 H
                refine WL_guardY rfl hb21 rfl rfl ?_
                refine WL_val (rn_move (v := (.int .i64 x3)) rfl) rfl ?_
                refine WL_guardY rfl hb21 rfl rfl ?_
                refine WL_val (rn_lss rfl rfl) rfl ?_
                refine WL_val (rn_pickF (v := (.bool (decide (x3 < 0)))) rfl hb21 rfl) rfl ?_
                refine WL_val (rn_move (v := (.bool (decide (x3 < 0)))) rfl) rfl ?_
                rcases bcases (decide (x3 < 0)) with hb22 | hb22
                · have H := ifT hb22 H
                  refine WL_guardN rfl hb22 rfl rfl rfl ?_
                  refine WL_guardN rfl hb22 rfl rfl rfl ?_
                  refine WL_guardN rfl hb22 rfl rfl rfl ?_
                  refine WL_val (rn_pickT (v := (.bool true)) rfl hb22 rfl) rfl ?_
                  refine WL_val (rn_move (v := (.bool true)) rfl) rfl ?_
                  refine WL_guardN rfl rfl rfl rfl rfl ?_
                  refine WL_guardN rfl rfl rfl rfl rfl ?_
                  refine WL_val (rn_pickT (v := (.bool true)) rfl rfl rfl) rfl ?_
                  refine WL_val (rn_move (v := (.bool true)) rfl) rfl ?_
                  refine WL_guardN rfl rfl rfl rfl rfl ?_
                  refine WL_guardN rfl rfl rfl rfl rfl ?_
                  refine WL_guardN rfl rfl rfl rfl rfl ?_
                  refine WL_guardN rfl rfl rfl rfl rfl ?_
                  refine WL_val (rn_pickT (v := (.bool true)) rfl rfl rfl) rfl ?_
                  refine WL_nil ?_
                  have hO : Owns G6 w20 w0.heap.size ([]) := hO
                  have H := Option.some.inj H
                  subst H
                  exact ⟨_, G6, upds_self _ _ ⟨rfl, rfl, rfl, rfl, rfl, rfl, rfl, trivial⟩, Gle.refl _, hS, hO⟩
                · have H := ifF hb22 H
                  refine WL_guardY rfl hb22 rfl rfl ?_
                  refine WL_val (rn_move (v := (.int .i64 x3)) rfl) rfl ?_
                  refine WL_guardY rfl hb22 rfl rfl ?_
                  refine WL_val (rn_move (v := (.int .i64 x4)) rfl) rfl ?_
                  refine WL_guardY rfl hb22 rfl rfl ?_
                  refine WL_val (rn_gtr rfl rfl) rfl ?_
                  refine WL_val (rn_pickF (v := (.bool (decide (x4 < x3)))) rfl hb22 rfl) rfl ?_
                  refine WL_val (rn_move (v := (.bool (decide (x4 < x3)))) rfl) rfl ?_
                  rcases bcases (decide (x4 < x3)) with hb23 | hb23
                  · have H := ifT hb23 H
                    refine WL_guardN rfl hb23 rfl rfl rfl ?_
                    refine WL_guardN rfl hb23 rfl rfl rfl ?_
                    refine WL_val (rn_pickT (v := (.bool true)) rfl hb23 rfl) rfl ?_
                    refine WL_val (rn_move (v := (.bool true)) rfl) rfl ?_
                    refine WL_guardN rfl rfl rfl rfl rfl ?_
                    refine WL_guardN rfl rfl rfl rfl rfl ?_
                    refine WL_guardN rfl rfl rfl rfl rfl ?_
                    refine WL_guardN rfl rfl rfl rfl rfl ?_
                    refine WL_val (rn_pickT (v := (.bool true)) rfl rfl rfl) rfl ?_
                    refine WL_nil ?_
                    have hO : Owns G6 w20 w0.heap.size ([]) := hO
                    have H := Option.some.inj H
                    subst H
                    exact ⟨_, G6, upds_self _ _ ⟨rfl, rfl, rfl, rfl, rfl, rfl, rfl, trivial⟩, Gle.refl _, hS, hO⟩
                  · have H := ifF hb23 H
                    refine WL_guardY rfl hb23 rfl rfl ?_
                    refine WL_val (rn_move (v := (.int .i64 x4)) rfl) rfl ?_
                    refine WL_guardY rfl hb23 rfl rfl ?_
                    refine WL_val (rn_gtr rfl rfl) rfl ?_
                    refine WL_val (rn_pickF (v := (.bool (decide (100 < x4)))) rfl hb23 rfl) rfl ?_
                    refine WL_val (rn_move (v := (.bool (decide (100 < x4)))) rfl) rfl ?_
                    rcases bcases (decide (100 < x4)) with hb24 | hb24
                    · have H := ifT hb24 H
                      refine WL_guardN rfl hb24 rfl rfl rfl ?_
                      refine WL_guardN rfl hb24 rfl rfl rfl ?_
                      refine WL_guardN rfl hb24 rfl rfl rfl ?_
                      refine WL_guardN rfl hb24 rfl rfl rfl ?_
                      refine WL_val (rn_pickT (v := (.bool true)) rfl hb24 rfl) rfl ?_
                      refine WL_nil ?_
                      have hO : Owns G6 w20 w0.heap.size ([]) := hO
                      have H := Option.some.inj H
                      subst H
                      exact ⟨_, G6, upds_self _ _ ⟨rfl, rfl, rfl, rfl, rfl, rfl, rfl, trivial⟩, Gle.refl _, hS, hO⟩
                    · have H := ifF hb24 H
                      refine WL_guardY rfl hb24 rfl rfl ?_
                      refine WL_val (rn_loadA ag24 (cs := [.slice a1 n1 c1, .int .i64 x0.Limit]) rfl rfl (fun j v hj => hS.sat.cell (hcb4.drop_take 0 2 j v hj))) rfl ?_
                      refine WL_guardY rfl hb24 rfl rfl ?_
                      refine WL_val (rn_move (v := (.int .i64 x5)) rfl) rfl ?_
                      refine WL_guardY rfl hb24 rfl rfl ?_
                      obtain ⟨y25, hy25, H⟩ := bnd H
                      refine WL_op rfl (OpP_callV cb48 (f48_ok (x0 := x0) (x1 := x5) hS.sat (h1.mono RTBaneFish_mono leG6) hy25) rfl rfl (fun w26 hb => ?_))
                      have hS := hS.keep hb
                      have hO := hO.below hb
                      refine WL_guardY rfl hb24 rfl rfl ?_
                      refine WL_val (rn_not rfl) rfl ?_
                      refine WL_val (rn_pickF (v := (.bool (!y25))) rfl hb24 rfl) rfl ?_
                      refine WL_nil ?_
                      have hO : Owns G6 w26 w0.heap.size ([]) := hO
                      have H := Option.some.inj H
                      subst H
                      exact ⟨_, G6, upds_self _ _ ⟨rfl, rfl, rfl, rfl, rfl, rfl, rfl, trivial⟩, Gle.refl _, hS, hO⟩
  · rintro F w27 ⟨Fb, G28, rfl, leG28, hS, hO⟩
    refine WC_cond rfl (fun hb29 => ?_) (fun hb29 => ?_)
    · have H := ifT hb29 H
      refine WC_seq ?_
      refine WC_region ?_
      obtain ⟨y30, hy30, H⟩ := bnd H
      refine WL_op rfl (OpP_callV cb19 (f19_ok  hS.sat  hy30) rfl rfl (fun w31 hb => ?_))
      have hS := hS.keep hb
      have hO := hO.below hb
      refine WL_val (rn_assign (v := (.bool y30)) rfl) rfl ?_
      refine WL_nil ?_
      refine WC_ret ?_
      have H : some y30 = some r := H
      have H := Option.some.inj H
      subst H
      exact ⟨rfl, hS.below⟩
    · have H := ifF hb29 H
      refine WC_skip ?_
      refine WC_seq ?_
      refine WC_region ?_
      refine WL_val (rn_loadA ag24 (cs := [.slice a1 n1 c1, .int .i64 x0.Limit]) rfl rfl (fun j v hj => (hS.sat.le leG28).cell (hcb4.drop_take 0 2 j v hj))) rfl ?_
      refine WL_op rfl (OpP_newO (v := fun b => .pointer (some ⟨b, 0, none⟩)) (cs := [.slice none 0 0, .int .i64 0]) (e := 24) (by kernel_rfl) hS.sat hO rfl 2 1 rfl (by decide) (fun b32 w33 hb hO => ?_))
      have hS := hS.keep hb
      refine WL_op rfl (OpP_store (vs := [.slice a1 n1 c1, .int .i64 x0.Limit]) sz24 hS hO (k := 0) rfl rfl rfl rfl rfl (one_all rfl) (Nat.le_of_ble_eq_true rfl) (fun w35 hS hO => ?_))
      have hO : Owns G28 w35 w0.heap.size ([⟨24, 2, 1, .slice (some ⟨b32, 0, none⟩) 1 1, [.slice a1 n1 c1, .int .i64 x0.Limit]⟩]) := hO
      refine WL_nil ?_
      refine WC_seq ?_
      refine WC_region ?_
      refine WL_val (rn_fld fd24_0 rfl) rfl ?_
      refine WL_op rfl (OpP_store (vs := [.slice none 0 0]) sz22 hS hO (k := 0) rfl rfl rfl rfl rfl (one_all rfl) (Nat.le_of_ble_eq_true rfl) (fun w36 hS hO => ?_))
      have hO : Owns G28 w36 w0.heap.size ([⟨24, 2, 1, .slice (some ⟨b32, 0, none⟩) 1 1, [.slice none 0 0, .int .i64 x0.Limit]⟩]) := hO
      refine WL_nil ?_
      refine WC_seq ?_
      refine WC_region ?_
      refine WL_val (rn_assign (v := (.slice none 0 0)) rfl) rfl ?_
      refine WL_nil ?_
      refine WC_seq ?_
      refine WC_seq ?_
      refine WC_region ?_
      refine WL_val (rn_assign (v := (.int .i64 0)) rfl) rfl ?_
      refine WL_nil ?_
      have hO := hO.cons_nil 3 1
      have hO := hO.cons_nil 72 5
      obtain ⟨q41, hq41, H⟩ := bnd H
      refine WC_cut (fun F w => ∃ (Fb : Fr) (G : Gm) (aq41_0 : Option Addr) (nq41_0 cq41_0 : Nat) (claq41_0 : List Value) (aq41_1 : Option Addr) (nq41_1 cq41_1 : Nat) (claq41_1 : List Value), F = upds Fb [(1, .slice a2 n2 c2), (2, .slice a3 n3 c3), (6, .pointer (some ⟨b4, 0, none⟩)), (13, .pointer (some ⟨b32, 0, none⟩)), (14, .slice aq41_0 nq41_0 cq41_0)] ∧ Gle G28 G ∧ Since w0.heap.size G0 w0 G w ∧ Owns G w w0.heap.size [⟨72, 5, nq41_1, .slice aq41_1 nq41_1 cq41_1, claq41_1⟩, ⟨3, 1, nq41_0, .slice aq41_0 nq41_0 cq41_0, claq41_0⟩, ⟨24, 2, 1, .slice (some ⟨b32, 0, none⟩) 1 1, [.slice aq41_1 nq41_1 cq41_1, .int .i64 q41.2.Limit]⟩] ∧ nq41_0 = q41.1.length ∧ Rd RInt 1 G claq41_0 q41.1 ∧ nq41_1 = q41.2.Fish.length ∧ Rd RTBaneFish 5 G claq41_1 q41.2.Fish) ?_ ?_
      · refine WC_block (WC_loop hq41 (fun s39 F w => ∃ (Fb : Fr) (G : Gm) (as39_0 : Option Addr) (ns39_0 cs39_0 : Nat) (clas39_0 : List Value) (as39_1 : Option Addr) (ns39_1 cs39_1 : Nat) (clas39_1 : List Value), F = upds Fb [(1, .slice a2 n2 c2), (2, .slice a3 n3 c3), (3, .int .i64 x3), (4, .int .i64 x4), (5, .int .i64 x5), (6, .pointer (some ⟨b4, 0, none⟩)), (13, .pointer (some ⟨b32, 0, none⟩)), (14, .slice as39_0 ns39_0 cs39_0), (15, .int .i64 s39.2.1)] ∧ Gle G28 G ∧ Since w0.heap.size G0 w0 G w ∧ Owns G w w0.heap.size [⟨72, 5, ns39_1, .slice as39_1 ns39_1 cs39_1, clas39_1⟩, ⟨3, 1, ns39_0, .slice as39_0 ns39_0 cs39_0, clas39_0⟩, ⟨24, 2, 1, .slice (some ⟨b32, 0, none⟩) 1 1, [.slice as39_1 ns39_1 cs39_1, .int .i64 s39.2.2.Limit]⟩] ∧ ns39_0 = s39.1.length ∧ Rd RInt 1 G clas39_0 s39.1 ∧ ns39_1 = s39.2.2.Fish.length ∧ Rd RTBaneFish 5 G clas39_1 s39.2.2.Fish) ?_ ?_)
        · have hO : Owns G28 w36 w0.heap.size ([⟨72, 5, 0, .slice none 0 0, []⟩, ⟨3, 1, 0, .slice none 0 0, []⟩, ⟨24, 2, 1, .slice (some ⟨b32, 0, none⟩) 1 1, [.slice none 0 0, .int .i64 x0.Limit]⟩]) := hO
          exact ⟨_, G28, none, 0, 0, [], none, 0, 0, [], upds_self _ _ ⟨rfl, rfl, rfl, rfl, rfl, rfl, rfl, rfl, rfl, trivial⟩, Gle.refl _, hS, hO, rfl, (Rd.nil RInt 1 G28), rfl, (Rd.nil RTBaneFish 5 G28)⟩
        · rintro s39 F w43 t42 ⟨Fb, G44, as39_0, ns39_0, cs39_0, clas39_0, as39_1, ns39_1, cs39_1, clas39_1, rfl, leG44, hS, hO, hnhs39_0, hs39_0, hnhs39_1, hs39_1⟩
          intro H1 hqq41
          have Hoq41 := H
          have H := H1
          unfold f11_b0 at H
          refine WC_seq ?_
          refine WC_seq ?_
          refine WC_region ?_
          refine WL_val (rn_move (v := (.int .i64 s39.2.1)) rfl) rfl ?_
          refine WL_val (rn_fld fd24_0 rfl) rfl ?_
          have l1_3 := leG28.trans leG44
          refine WL_val (rn_load na22 rfl ((hS.sat.le l1_3).cell (hcb4 0 _ rfl))) rfl ?_
          have l0_3 := leG6.trans l1_3
          refine WL_val (rn_len sl22 rfl rfl (h1.mono RTBaneFish_mono l0_3).1) rfl ?_
          refine WL_val (rn_lss rfl rfl) rfl ?_
          refine WL_nil ?_
          refine WC_cond rfl (fun hb45 => ?_) (fun hb45 => ?_)
          · have H := ifT hb45 H
            refine WC_skip ?_
            refine WC_seq ?_
            obtain ⟨q46, hq46, H⟩ := bnd H
            refine WC_cut (fun F w => ∃ (Fb : Fr) (G : Gm) (aq46_0 : Option Addr) (nq46_0 cq46_0 : Nat) (claq46_0 : List Value) (aq46_1 : Option Addr) (nq46_1 cq46_1 : Nat) (claq46_1 : List Value), F = upds Fb [(1, .slice a2 n2 c2), (2, .slice a3 n3 c3), (3, .int .i64 x3), (4, .int .i64 x4), (5, .int .i64 x5), (6, .pointer (some ⟨b4, 0, none⟩)), (13, .pointer (some ⟨b32, 0, none⟩)), (14, .slice aq46_0 nq46_0 cq46_0), (15, .int .i64 s39.2.1)] ∧ Gle G44 G ∧ Since w0.heap.size G0 w0 G w ∧ Owns G w w0.heap.size [⟨72, 5, nq46_1, .slice aq46_1 nq46_1 cq46_1, claq46_1⟩, ⟨3, 1, nq46_0, .slice aq46_0 nq46_0 cq46_0, claq46_0⟩, ⟨24, 2, 1, .slice (some ⟨b32, 0, none⟩) 1 1, [.slice aq46_1 nq46_1 cq46_1, .int .i64 q46.2.Limit]⟩] ∧ nq46_0 = q46.1.length ∧ Rd RInt 1 G claq46_0 q46.1 ∧ nq46_1 = q46.2.Fish.length ∧ Rd RTBaneFish 5 G claq46_1 q46.2.Fish) ?_ ?_
            · have Hoq46 := H
              have H := hq46
              refine WC_block ?_
              refine WC_seq ?_
              refine WC_region ?_
              refine WL_val (rn_fld fd24_0 rfl) rfl ?_
              refine WL_val (rn_load na22 rfl ((hS.sat.le l1_3).cell (hcb4 0 _ rfl))) rfl ?_
              refine WL_val (rn_move (v := (.int .i64 s39.2.1)) rfl) rfl ?_
              obtain ⟨y47, hy47, H⟩ := bnd H
              refine WL_idx sl22 (h1.mono RTBaneFish_mono l0_3) hy47 rfl rfl rfl ?_
              rintro b48 o48 _ hcb48 _ ⟨a49, n49, c49, ⟨⟩, h49⟩
              refine WL_val (rn_loadA ag72 (cs := [.int .i64 y47.Base.Low, .int .i64 y47.Base.High, .slice a49 n49 c49, .int .i64 y47.Pass, .int .i64 y47.Cost]) rfl rfl (fun j v hj => hS.sat.cell (hcb48.drop_take 0 5 j v hj))) rfl ?_
              refine WL_op rfl (OpP_newO (v := fun b => .pointer (some ⟨b, 0, none⟩)) (cs := [.int .i64 0, .int .i64 0, .slice none 0 0, .int .i64 0, .int .i64 0]) (e := 72) (by kernel_rfl) hS.sat hO rfl 5 1 rfl (by decide) (fun b50 w51 hb hO => ?_))
              have hS := hS.keep hb
              refine WL_op rfl (OpP_store (vs := [.int .i64 y47.Base.Low, .int .i64 y47.Base.High, .slice a49 n49 c49, .int .i64 y47.Pass, .int .i64 y47.Cost]) sz72 hS hO (k := 0) rfl rfl rfl rfl rfl (one_all rfl) (Nat.le_of_ble_eq_true rfl) (fun w53 hS hO => ?_))
              have hO : Owns G44 w53 w0.heap.size ([⟨72, 5, 1, .slice (some ⟨b50, 0, none⟩) 1 1, [.int .i64 y47.Base.Low, .int .i64 y47.Base.High, .slice a49 n49 c49, .int .i64 y47.Pass, .int .i64 y47.Cost]⟩, ⟨72, 5, ns39_1, .slice as39_1 ns39_1 cs39_1, clas39_1⟩, ⟨3, 1, ns39_0, .slice as39_0 ns39_0 cs39_0, clas39_0⟩, ⟨24, 2, 1, .slice (some ⟨b32, 0, none⟩) 1 1, [.slice as39_1 ns39_1 cs39_1, .int .i64 s39.2.2.Limit]⟩]) := hO
              refine WL_nil ?_
              refine WC_seq ?_
              refine WC_region ?_
              refine WL_val (rn_fld fd72_0 rfl) rfl ?_
              refine WL_val (rn_loadA ag43 (cs := [.int .i64 y47.Base.Low, .int .i64 y47.Base.High]) rfl rfl (fun j v hj => own_sub hO (k := 0) rfl 0 2 j v hj)) rfl ?_
              refine WL_val (rn_move (v := (.int .i64 x3)) rfl) rfl ?_
              refine WL_val (rn_move (v := (.int .i64 x4)) rfl) rfl ?_
              obtain ⟨y54, hy54, H⟩ := bnd H
              refine WL_op rfl (OpP_callV cb49 (f49_ok (x0 := y47.Base) (x1 := x3) (x2 := x4) hS.sat  hy54) rfl rfl (fun w55 hb => ?_))
              have hS := hS.keep hb
              have hO := hO.below hb
              refine WL_val (rn_fld fd72_0 rfl) rfl ?_
              refine WL_op rfl (OpP_store (vs := [.int .i64 y54.Low, .int .i64 y54.High]) sz43 hS hO (k := 0) rfl rfl rfl rfl rfl (one_all rfl) (Nat.le_of_ble_eq_true rfl) (fun w56 hS hO => ?_))
              have hO : Owns G44 w56 w0.heap.size ([⟨72, 5, 1, .slice (some ⟨b50, 0, none⟩) 1 1, [.int .i64 y54.Low, .int .i64 y54.High, .slice a49 n49 c49, .int .i64 y47.Pass, .int .i64 y47.Cost]⟩, ⟨72, 5, ns39_1, .slice as39_1 ns39_1 cs39_1, clas39_1⟩, ⟨3, 1, ns39_0, .slice as39_0 ns39_0 cs39_0, clas39_0⟩, ⟨24, 2, 1, .slice (some ⟨b32, 0, none⟩) 1 1, [.slice as39_1 ns39_1 cs39_1, .int .i64 s39.2.2.Limit]⟩]) := hO
              refine WL_nil ?_
              refine WC_seq ?_
              refine WC_region ?_
              refine WL_val (rn_fld fd72_1 rfl) rfl ?_
              refine WL_val (rn_load na70 rfl (own_cell hO (k := 0) rfl (j := 2) rfl)) rfl ?_
              have hO := hO.cons_nil 77 3
              obtain ⟨y58, hy58, H⟩ := bnd H
              refine WL_op rfl (OpP_append (k := 0) sl70 RTBaneBite_one hS hO rfl rfl (Rd.nil RTBaneBite 3 G44) h49 hy58 rfl rfl rfl rfl rfl (fun aw59 cw59 w59 clw59 hS hO hrw59 => ?_))
              have hO : Owns G44 w59 w0.heap.size ([⟨77, 3, y58.length, .slice aw59 y58.length cw59, clw59⟩, ⟨72, 5, 1, .slice (some ⟨b50, 0, none⟩) 1 1, [.int .i64 y54.Low, .int .i64 y54.High, .slice a49 n49 c49, .int .i64 y47.Pass, .int .i64 y47.Cost]⟩, ⟨72, 5, ns39_1, .slice as39_1 ns39_1 cs39_1, clas39_1⟩, ⟨3, 1, ns39_0, .slice as39_0 ns39_0 cs39_0, clas39_0⟩, ⟨24, 2, 1, .slice (some ⟨b32, 0, none⟩) 1 1, [.slice as39_1 ns39_1 cs39_1, .int .i64 s39.2.2.Limit]⟩]) := hO
              refine WL_val (rn_fld fd72_1 rfl) rfl ?_
              refine WL_op rfl (OpP_store (vs := [.slice aw59 y58.length cw59]) sz70 hS hO (k := 1) rfl rfl rfl rfl rfl (one_all rfl) (Nat.le_of_ble_eq_true rfl) (fun w60 hS hO => ?_))
              have hO : Owns G44 w60 w0.heap.size ([⟨77, 3, y58.length, .slice aw59 y58.length cw59, clw59⟩, ⟨72, 5, 1, .slice (some ⟨b50, 0, none⟩) 1 1, [.int .i64 y54.Low, .int .i64 y54.High, .slice aw59 y58.length cw59, .int .i64 y47.Pass, .int .i64 y47.Cost]⟩, ⟨72, 5, ns39_1, .slice as39_1 ns39_1 cs39_1, clas39_1⟩, ⟨3, 1, ns39_0, .slice as39_0 ns39_0 cs39_0, clas39_0⟩, ⟨24, 2, 1, .slice (some ⟨b32, 0, none⟩) 1 1, [.slice as39_1 ns39_1 cs39_1, .int .i64 s39.2.2.Limit]⟩]) := hO
              refine WL_nil ?_
              refine WC_seq ?_
              refine WC_seq ?_
              refine WC_region ?_
              refine WL_val (rn_assign (v := (.int .i64 0)) rfl) rfl ?_
              refine WL_nil ?_
              obtain ⟨q63, hq63, H⟩ := bnd H
              refine WC_cut (fun F w => ∃ (Fb : Fr) (G : Gm) (aq63_0 : Option Addr) (nq63_0 cq63_0 : Nat) (claq63_0 : List Value) (aq63_1 : Option Addr) (nq63_1 cq63_1 : Nat) (claq63_1 : List Value), F = upds Fb [(1, .slice a2 n2 c2), (2, .slice a3 n3 c3), (3, .int .i64 x3), (4, .int .i64 x4), (5, .int .i64 x5), (6, .pointer (some ⟨b4, 0, none⟩)), (13, .pointer (some ⟨b32, 0, none⟩)), (14, .slice as39_0 ns39_0 cs39_0), (15, .int .i64 s39.2.1), (16, .pointer (some ⟨b50, 0, none⟩))] ∧ Gle G44 G ∧ Since w0.heap.size G0 w0 G w ∧ Owns G w w0.heap.size [⟨77, 3, nq63_0, .slice aq63_0 nq63_0 cq63_0, claq63_0⟩, ⟨72, 5, 1, .slice (some ⟨b50, 0, none⟩) 1 1, [.int .i64 q63.1.Base.Low, .int .i64 q63.1.Base.High, .slice aq63_0 nq63_0 cq63_0, .int .i64 q63.1.Pass, .int .i64 q63.1.Cost]⟩, ⟨72, 5, nq63_1, .slice aq63_1 nq63_1 cq63_1, claq63_1⟩, ⟨3, 1, ns39_0, .slice as39_0 ns39_0 cs39_0, clas39_0⟩, ⟨24, 2, 1, .slice (some ⟨b32, 0, none⟩) 1 1, [.slice aq63_1 nq63_1 cq63_1, .int .i64 q63.2.Limit]⟩] ∧ nq63_0 = q63.1.Bites.length ∧ Rd RTBaneBite 3 G claq63_0 q63.1.Bites ∧ nq63_1 = q63.2.Fish.length ∧ Rd RTBaneFish 5 G claq63_1 q63.2.Fish) ?_ ?_
              · refine WC_block (WC_loop hq63 (fun s61 F w => ∃ (Fb : Fr) (G : Gm) (as61_0 : Option Addr) (ns61_0 cs61_0 : Nat) (clas61_0 : List Value) (as61_1 : Option Addr) (ns61_1 cs61_1 : Nat) (clas61_1 : List Value), F = upds Fb [(1, .slice a2 n2 c2), (2, .slice a3 n3 c3), (3, .int .i64 x3), (4, .int .i64 x4), (5, .int .i64 x5), (6, .pointer (some ⟨b4, 0, none⟩)), (13, .pointer (some ⟨b32, 0, none⟩)), (14, .slice as39_0 ns39_0 cs39_0), (15, .int .i64 s39.2.1), (16, .pointer (some ⟨b50, 0, none⟩)), (17, .int .i64 s61.1)] ∧ Gle G44 G ∧ Since w0.heap.size G0 w0 G w ∧ Owns G w w0.heap.size [⟨77, 3, ns61_0, .slice as61_0 ns61_0 cs61_0, clas61_0⟩, ⟨72, 5, 1, .slice (some ⟨b50, 0, none⟩) 1 1, [.int .i64 s61.2.1.Base.Low, .int .i64 s61.2.1.Base.High, .slice as61_0 ns61_0 cs61_0, .int .i64 s61.2.1.Pass, .int .i64 s61.2.1.Cost]⟩, ⟨72, 5, ns61_1, .slice as61_1 ns61_1 cs61_1, clas61_1⟩, ⟨3, 1, ns39_0, .slice as39_0 ns39_0 cs39_0, clas39_0⟩, ⟨24, 2, 1, .slice (some ⟨b32, 0, none⟩) 1 1, [.slice as61_1 ns61_1 cs61_1, .int .i64 s61.2.2.Limit]⟩] ∧ ns61_0 = s61.2.1.Bites.length ∧ Rd RTBaneBite 3 G clas61_0 s61.2.1.Bites ∧ ns61_1 = s61.2.2.Fish.length ∧ Rd RTBaneFish 5 G clas61_1 s61.2.2.Fish) ?_ ?_)
                · have hO : Owns G44 w60 w0.heap.size ([⟨77, 3, y58.length, .slice aw59 y58.length cw59, clw59⟩, ⟨72, 5, 1, .slice (some ⟨b50, 0, none⟩) 1 1, [.int .i64 y54.Low, .int .i64 y54.High, .slice aw59 y58.length cw59, .int .i64 y47.Pass, .int .i64 y47.Cost]⟩, ⟨72, 5, ns39_1, .slice as39_1 ns39_1 cs39_1, clas39_1⟩, ⟨3, 1, ns39_0, .slice as39_0 ns39_0 cs39_0, clas39_0⟩, ⟨24, 2, 1, .slice (some ⟨b32, 0, none⟩) 1 1, [.slice as39_1 ns39_1 cs39_1, .int .i64 s39.2.2.Limit]⟩]) := hO
                  exact ⟨_, G44, aw59, y58.length, cw59, clw59, as39_1, ns39_1, cs39_1, clas39_1, upds_self _ _ ⟨rfl, rfl, rfl, rfl, rfl, rfl, rfl, rfl, rfl, rfl, rfl, trivial⟩, Gle.refl _, hS, hO, rfl, hrw59, hnhs39_1, hs39_1⟩
                · rintro s61 F w65 t64 ⟨Fb, G66, as61_0, ns61_0, cs61_0, clas61_0, as61_1, ns61_1, cs61_1, clas61_1, rfl, leG66, hS, hO, hnhs61_0, hs61_0, hnhs61_1, hs61_1⟩
                  intro H1 hqq63
                  have Hoq63 := H
                  have H := H1
                  unfold f11_b1 at H
                  refine WC_seq ?_
                  refine WC_seq ?_
                  refine WC_region ?_
                  refine WL_val (rn_move (v := (.int .i64 s61.1)) rfl) rfl ?_
                  refine WL_val (rn_fld fd72_1 rfl) rfl ?_
                  refine WL_val (rn_load na70 rfl (own_cell hO (k := 1) rfl (j := 2) rfl)) rfl ?_
                  refine WL_val (rn_len (m := s61.2.1.Bites.length) sl70 rfl rfl hnhs61_0) rfl ?_
                  refine WL_val (rn_lss rfl rfl) rfl ?_
                  refine WL_nil ?_
                  refine WC_cond rfl (fun hb67 => ?_) (fun hb67 => ?_)
                  · have H := ifT hb67 H
                    refine WC_skip ?_
                    refine WC_seq ?_
                    refine WC_block ?_
                    have hS := hS.keep (below_drew _)
                    have hO := hO.below (below_drew _)
                    refine WC_regionD mixedO (fun w => Sat G66 w ∧ Owns G66 w w0.heap.size [⟨77, 3, ns61_0, .slice as61_0 ns61_0 cs61_0, clas61_0⟩, ⟨72, 5, 1, .slice (some ⟨b50, 0, none⟩) 1 1, [.int .i64 s61.2.1.Base.Low, .int .i64 s61.2.1.Base.High, .slice as61_0 ns61_0 cs61_0, .int .i64 s61.2.1.Pass, .int .i64 s61.2.1.Cost]⟩, ⟨72, 5, ns61_1, .slice as61_1 ns61_1 cs61_1, clas61_1⟩, ⟨3, 1, ns39_0, .slice as39_0 ns39_0 cs39_0, clas39_0⟩, ⟨24, 2, 1, .slice (some ⟨b32, 0, none⟩) 1 1, [.slice as61_1 ns61_1 cs61_1, .int .i64 s61.2.2.Limit]⟩]) (.fl 0 (.fl 1 (.fl 2 (.fl 3 (.fl 4 (.fl 5 (.fl 6 (.fl 7 (.fl 8 (.fl 9 (.on 10 (.on 11 (.on 12 (.on 13 (.on 14 .nil))))))))))))))) (by kernel_rfl) rfl (by kernel_rfl) ⟨hS.sat, hO⟩ ?_
                    refine WD_val rfl (fun w hw => rn_fld fd72_1 rfl) rfl ?_
                    refine WD_val rfl (fun w hw => rn_load na70 rfl (own_cell hw.2 (k := 1) rfl (j := 2) rfl)) rfl ?_
                    refine WD_val rfl (fun w hw => rn_move (v := (.int .i64 s61.1)) rfl) rfl ?_
                    refine WD_val rfl (fun w hw => rn_fld fd72_1 rfl) rfl ?_
                    refine WD_val rfl (fun w hw => rn_load na70 rfl (own_cell hw.2 (k := 1) rfl (j := 2) rfl)) rfl ?_
                    refine WD_val rfl (fun w hw => rn_move (v := (.int .i64 s61.1)) rfl) rfl ?_
                    obtain ⟨y68, hy68, H⟩ := bnd H
                    refine WD_idxO rfl sl70 hO (k := 0) rfl hnhs61_0 hs61_0 hy68 rfl rfl rfl ?_
                    rintro b69 ob69 _ hb69 _ hcb69 ⟨⟩
                    refine WD_val rfl (fun w hw => rn_fld fd77_1 rfl) rfl ?_
                    refine WD_val rfl (fun w hw => rn_loadA ag43 (cs := [.int .i64 y68.Share.Low, .int .i64 y68.Share.High]) rfl rfl (own_subB hw.2 (k := 0) rfl hb69 _ 1 2 rfl hcb69)) rfl ?_
                    refine WD_val rfl (fun w hw => rn_move (v := (.int .i64 x3)) rfl) rfl ?_
                    refine WD_op rfl rfl (OpP_val (rn_move (v := (.int .i64 x4)) rfl) rfl ?_)
                    refine ⟨fun _ => ⟨hS.sat, hO⟩, ?_⟩
                    obtain ⟨y70, hy70, H⟩ := bnd H
                    refine WD_op rfl rfl (OpP_callV cb49 (f49_ok (x0 := y68.Share) (x1 := x3) (x2 := x4) hS.sat  hy70) rfl rfl (fun w71 hb => ?_))
                    have hS := hS.keep hb
                    have hO := hO.below hb
                    refine ⟨fun _ => ⟨hS.sat, hO⟩, ?_⟩
                    refine WD_op rfl rfl (OpP_idxO sl70 hO (k := 0) rfl hnhs61_0 hs61_0 hy68 rfl rfl rfl ?_)
                    rintro b72 ob72 _ hb72 _ hcb72 ⟨⟩
                    refine ⟨fun h => nomore (by kernel_rfl) h, ?_⟩
                    refine WD_op rfl rfl (OpP_val (rn_fld fd77_1 rfl) rfl ?_)
                    refine ⟨fun h => nomore (by kernel_rfl) h, ?_⟩
                    obtain ⟨y73, hy73, H⟩ := bnd H
                    refine WD_op rfl rfl (OpP_storeE (vs := [.int .i64 y70.Low, .int .i64 y70.High]) (cs := [.int .i64 y68.Prey, .int .i64 y68.Share.Low, .int .i64 y68.Share.High]) (j := 1) (y := (⟨y68.Prey, y70⟩ : TBaneBite)) sz43 hS hO (k := 0) rfl hnhs61_0 rfl hs61_0 hb72 rfl hcb72 hy73 rfl rfl rfl rfl rfl (one_all rfl) (Nat.le_of_ble_eq_true rfl) (fun w74 clw74 hS hO hrw74 => ?_))
                    have hO : Owns G66 w74 w0.heap.size ([⟨77, 3, ns61_0, .slice as61_0 ns61_0 cs61_0, clw74⟩, ⟨72, 5, 1, .slice (some ⟨b50, 0, none⟩) 1 1, [.int .i64 s61.2.1.Base.Low, .int .i64 s61.2.1.Base.High, .slice as61_0 ns61_0 cs61_0, .int .i64 s61.2.1.Pass, .int .i64 s61.2.1.Cost]⟩, ⟨72, 5, ns61_1, .slice as61_1 ns61_1 cs61_1, clas61_1⟩, ⟨3, 1, ns39_0, .slice as39_0 ns39_0 cs39_0, clas39_0⟩, ⟨24, 2, 1, .slice (some ⟨b32, 0, none⟩) 1 1, [.slice as61_1 ns61_1 cs61_1, .int .i64 s61.2.2.Limit]⟩]) := hO
                    refine ⟨fun h => nomore (by kernel_rfl) h, ?_⟩
                    refine WD_nil ?_
                    refine WC_region ?_
                    refine WL_val (rn_move (v := (.int .i64 s61.1)) rfl) rfl ?_
                    refine WL_val (rn_add rfl rfl) rfl ?_
                    refine WL_val (rn_assign (v := (.int .i64 (IntKind.i64.wrap (s61.1 + 1)))) rfl) rfl ?_
                    refine WL_nil ?_
                    have hO : Owns G66 w74 w0.heap.size ([⟨77, 3, ns61_0, .slice as61_0 ns61_0 cs61_0, clw74⟩, ⟨72, 5, 1, .slice (some ⟨b50, 0, none⟩) 1 1, [.int .i64 s61.2.1.Base.Low, .int .i64 s61.2.1.Base.High, .slice as61_0 ns61_0 cs61_0, .int .i64 s61.2.1.Pass, .int .i64 s61.2.1.Cost]⟩, ⟨72, 5, ns61_1, .slice as61_1 ns61_1 cs61_1, clas61_1⟩, ⟨3, 1, ns39_0, .slice as39_0 ns39_0 cs39_0, clas39_0⟩, ⟨24, 2, 1, .slice (some ⟨b32, 0, none⟩) 1 1, [.slice as61_1 ns61_1 cs61_1, .int .i64 s61.2.2.Limit]⟩]) := hO
                    have H := Option.some.inj H
                    subst H
                    refine ⟨_, rfl, ?_⟩
                    exact ⟨_, G66, as61_0, ns61_0, cs61_0, clw74, as61_1, ns61_1, cs61_1, clas61_1, upds_self _ _ ⟨rfl, rfl, rfl, rfl, rfl, rfl, rfl, rfl, rfl, rfl, rfl, trivial⟩, leG66, hS, hO, (Eq.trans hnhs61_0 (setIx_len hy73)), hrw74, hnhs61_1, hs61_1⟩
                  · have H := ifF hb67 H
                    refine WC_exit rfl ?_
                    have hO : Owns G66 w65 w0.heap.size ([⟨77, 3, ns61_0, .slice as61_0 ns61_0 cs61_0, clas61_0⟩, ⟨72, 5, 1, .slice (some ⟨b50, 0, none⟩) 1 1, [.int .i64 s61.2.1.Base.Low, .int .i64 s61.2.1.Base.High, .slice as61_0 ns61_0 cs61_0, .int .i64 s61.2.1.Pass, .int .i64 s61.2.1.Cost]⟩, ⟨72, 5, ns61_1, .slice as61_1 ns61_1 cs61_1, clas61_1⟩, ⟨3, 1, ns39_0, .slice as39_0 ns39_0 cs39_0, clas39_0⟩, ⟨24, 2, 1, .slice (some ⟨b32, 0, none⟩) 1 1, [.slice as61_1 ns61_1 cs61_1, .int .i64 s61.2.2.Limit]⟩]) := hO
                    have H := Option.some.inj H
                    subst H
                    have hres := hqq63 _ rfl
                    subst hres
                    exact ⟨_, G66, as61_0, ns61_0, cs61_0, clas61_0, as61_1, ns61_1, cs61_1, clas61_1, upds_self _ _ ⟨rfl, rfl, rfl, rfl, rfl, rfl, rfl, rfl, rfl, rfl, trivial⟩, leG66, hS, hO, hnhs61_0, hs61_0, hnhs61_1, hs61_1⟩
              · rintro F w75 ⟨Fb, G76, aq63_0, nq63_0, cq63_0, claq63_0, aq63_1, nq63_1, cq63_1, claq63_1, rfl, leG76, hS, hO, hnhq63_0, hq63_0, hnhq63_1, hq63_1⟩
                refine WC_seq ?_
                refine WC_region ?_
                refine WL_val (rn_fld fd24_0 rfl) rfl ?_
                refine WL_val (rn_load na22 rfl (own_cell hO (k := 4) rfl (j := 0) rfl)) rfl ?_
                refine WL_val (rn_loadA ag72 (cs := [.int .i64 q63.1.Base.Low, .int .i64 q63.1.Base.High, .slice aq63_0 nq63_0 cq63_0, .int .i64 q63.1.Pass, .int .i64 q63.1.Cost]) rfl rfl (fun j v hj => own_sub hO (k := 1) rfl 0 5 j v hj)) rfl ?_
                obtain ⟨G77, leG77, hS, hO, hfG77⟩ := hO.freezeS hS RTBaneBite_mono (k := 0) rfl hq63_0 hnhq63_0
                refine WL_op rfl (OpP_newF (v := fun b => .slice (some ⟨b, 0, none⟩) 1 1) (cs := [.int .i64 q63.1.Base.Low, .int .i64 q63.1.Base.High, .slice aq63_0 nq63_0 cq63_0, .int .i64 q63.1.Pass, .int .i64 q63.1.Cost]) (e := 72) (by kernel_rfl) hS.sat rfl (fun b78 G80 w79 hg hcb78 => ?_))
                have hS := hS.grow hg
                have hO := hO.grow hg
                have leG80 := hg.le
                have hfb78 : RSl RTBaneFish 5 G80 (some ⟨b78, 0, none⟩) 1 1 [(⟨(⟨q63.1.Base.Low, q63.1.Base.High⟩ : TSpan), q63.1.Bites, q63.1.Pass, q63.1.Cost⟩ : TBaneFish)] := RSl.of_rd hcb78 (Rd.cons (c := [.int .i64 q63.1.Base.Low, .int .i64 q63.1.Base.High, .slice aq63_0 nq63_0 cq63_0, .int .i64 q63.1.Pass, .int .i64 q63.1.Cost]) rfl ⟨_, _, _, rfl, (hfG77.mono RTBaneBite_mono leG80)⟩ (Rd.nil RTBaneFish 5 _)) rfl (by decide)
                obtain ⟨y81, hy81, H⟩ := bnd H
                have l4_6 := leG77.trans leG80
                refine WL_op rfl (OpP_append (k := 1) sl22 RTBaneFish_one hS hO rfl hnhq63_1 (hq63_1.mono RTBaneFish_mono l4_6) hfb78 hy81 rfl rfl rfl rfl rfl (fun aw82 cw82 w82 clw82 hS hO hrw82 => ?_))
                have hO : Owns G80 w82 w0.heap.size ([⟨72, 5, 1, .slice (some ⟨b50, 0, none⟩) 1 1, [.int .i64 q63.1.Base.Low, .int .i64 q63.1.Base.High, .slice aq63_0 nq63_0 cq63_0, .int .i64 q63.1.Pass, .int .i64 q63.1.Cost]⟩, ⟨72, 5, y81.length, .slice aw82 y81.length cw82, clw82⟩, ⟨3, 1, ns39_0, .slice as39_0 ns39_0 cs39_0, clas39_0⟩, ⟨24, 2, 1, .slice (some ⟨b32, 0, none⟩) 1 1, [.slice aq63_1 nq63_1 cq63_1, .int .i64 q63.2.Limit]⟩]) := hO
                refine WL_val (rn_fld fd24_0 rfl) rfl ?_
                refine WL_op rfl (OpP_store (vs := [.slice aw82 y81.length cw82]) sz22 hS hO (k := 3) rfl rfl rfl rfl rfl (one_all rfl) (Nat.le_of_ble_eq_true rfl) (fun w83 hS hO => ?_))
                have hO : Owns G80 w83 w0.heap.size ([⟨72, 5, 1, .slice (some ⟨b50, 0, none⟩) 1 1, [.int .i64 q63.1.Base.Low, .int .i64 q63.1.Base.High, .slice aq63_0 nq63_0 cq63_0, .int .i64 q63.1.Pass, .int .i64 q63.1.Cost]⟩, ⟨72, 5, y81.length, .slice aw82 y81.length cw82, clw82⟩, ⟨3, 1, ns39_0, .slice as39_0 ns39_0 cs39_0, clas39_0⟩, ⟨24, 2, 1, .slice (some ⟨b32, 0, none⟩) 1 1, [.slice aw82 y81.length cw82, .int .i64 q63.2.Limit]⟩]) := hO
                refine WL_nil ?_
                refine WC_seq ?_
                obtain ⟨q84, hq84, H⟩ := bnd H
                refine WC_cut (fun F w => ∃ (Fb : Fr) (G : Gm), F = upds Fb [(1, .slice a2 n2 c2), (2, .slice a3 n3 c3), (3, .int .i64 x3), (4, .int .i64 x4), (5, .int .i64 x5), (6, .pointer (some ⟨b4, 0, none⟩)), (13, .pointer (some ⟨b32, 0, none⟩)), (14, .slice as39_0 ns39_0 cs39_0), (15, .int .i64 s39.2.1), (139, .bool q84)] ∧ Gle G80 G ∧ Since w0.heap.size G0 w0 G w ∧ Owns G w w0.heap.size [⟨72, 5, 1, .slice (some ⟨b50, 0, none⟩) 1 1, [.int .i64 q63.1.Base.Low, .int .i64 q63.1.Base.High, .slice aq63_0 nq63_0 cq63_0, .int .i64 q63.1.Pass, .int .i64 q63.1.Cost]⟩, ⟨72, 5, y81.length, .slice aw82 y81.length cw82, clw82⟩, ⟨3, 1, ns39_0, .slice as39_0 ns39_0 cs39_0, clas39_0⟩, ⟨24, 2, 1, .slice (some ⟨b32, 0, none⟩) 1 1, [.slice aw82 y81.length cw82, .int .i64 q63.2.Limit]⟩]) ?_ ?_
                · have Hoq84 := H
                  have H := hq84
                  refine WC_region ?_
                  refine WL_val (rn_move (v := (.int .i64 s39.2.1)) rfl) rfl ?_
                  refine WL_val (rn_move (v := (.int .i64 x5)) rfl) rfl ?_
                  refine WL_val (rn_eql rfl rfl) rfl ?_
                  refine WL_val (rn_move (v := (.bool (s39.2.1 == x5))) rfl) rfl ?_
                  rcases bcases (s39.2.1 == x5) with hb85 | hb85
                  · have H := ifT hb85 H
                    refine WL_guardN rfl hb85 rfl rfl rfl ?_
                    refine WL_guardN rfl hb85 rfl rfl rfl ?_
                    refine WL_guardN rfl hb85 rfl rfl rfl ?_
                    refine WL_val (rn_pickT (v := (.bool true)) rfl hb85 rfl) rfl ?_
                    refine WL_nil ?_
                    have hO : Owns G80 w83 w0.heap.size ([⟨72, 5, 1, .slice (some ⟨b50, 0, none⟩) 1 1, [.int .i64 q63.1.Base.Low, .int .i64 q63.1.Base.High, .slice aq63_0 nq63_0 cq63_0, .int .i64 q63.1.Pass, .int .i64 q63.1.Cost]⟩, ⟨72, 5, y81.length, .slice aw82 y81.length cw82, clw82⟩, ⟨3, 1, ns39_0, .slice as39_0 ns39_0 cs39_0, clas39_0⟩, ⟨24, 2, 1, .slice (some ⟨b32, 0, none⟩) 1 1, [.slice aw82 y81.length cw82, .int .i64 q63.2.Limit]⟩]) := hO
                    have H := Option.some.inj H
                    subst H
                    exact ⟨_, G80, upds_self _ _ ⟨rfl, rfl, rfl, rfl, rfl, rfl, rfl, rfl, rfl, rfl, trivial⟩, Gle.refl _, hS, hO⟩
                  · have H := ifF hb85 H
                    refine WL_guardY rfl hb85 rfl rfl ?_
                    refine WL_val (rn_move (v := (.slice a3 n3 c3)) rfl) rfl ?_
                    refine WL_guardY rfl hb85 rfl rfl ?_
                    refine WL_val (rn_move (v := (.int .i64 s39.2.1)) rfl) rfl ?_
                    refine WL_guardY rfl hb85 rfl rfl ?_
                    obtain ⟨y86, hy86, H⟩ := bnd H
                    have l0_6 := (l0_3.trans leG76).trans l4_6
                    refine WL_op rfl (OpP_callV cb38 (f38_ok (x0 := x2) (x1 := s39.2.1) hS.sat (h3.mono RInt_mono l0_6) hy86) rfl rfl (fun w87 hb => ?_))
                    have hS := hS.keep hb
                    have hO := hO.below hb
                    refine WL_val (rn_pickF (v := (.bool y86)) rfl hb85 rfl) rfl ?_
                    refine WL_nil ?_
                    have hO : Owns G80 w87 w0.heap.size ([⟨72, 5, 1, .slice (some ⟨b50, 0, none⟩) 1 1, [.int .i64 q63.1.Base.Low, .int .i64 q63.1.Base.High, .slice aq63_0 nq63_0 cq63_0, .int .i64 q63.1.Pass, .int .i64 q63.1.Cost]⟩, ⟨72, 5, y81.length, .slice aw82 y81.length cw82, clw82⟩, ⟨3, 1, ns39_0, .slice as39_0 ns39_0 cs39_0, clas39_0⟩, ⟨24, 2, 1, .slice (some ⟨b32, 0, none⟩) 1 1, [.slice aw82 y81.length cw82, .int .i64 q63.2.Limit]⟩]) := hO
                    have H := Option.some.inj H
                    subst H
                    exact ⟨_, G80, upds_self _ _ ⟨rfl, rfl, rfl, rfl, rfl, rfl, rfl, rfl, rfl, rfl, trivial⟩, Gle.refl _, hS, hO⟩
                · rintro F w88 ⟨Fb, G89, rfl, leG89, hS, hO⟩
                  refine WC_cond rfl (fun hb90 => ?_) (fun hb90 => ?_)
                  · have H := ifT hb90 H
                    refine WC_region ?_
                    refine WL_val (rn_move (v := (.slice as39_0 ns39_0 cs39_0)) rfl) rfl ?_
                    refine WL_val (rn_move (v := (.int .i64 s39.2.1)) rfl) rfl ?_
                    refine WL_op rfl (OpP_newF (v := fun b => .slice (some ⟨b, 0, none⟩) 1 1) (cs := [.int .i64 s39.2.1]) (e := 3) (by kernel_rfl) hS.sat rfl (fun b91 G93 w92 hg hcb91 => ?_))
                    have hS := hS.grow hg
                    have hO := hO.grow hg
                    have leG93 := hg.le
                    have hfb91 : RSl RInt 1 G93 (some ⟨b91, 0, none⟩) 1 1 [s39.2.1] := RSl.of_rd hcb91 (Rd.cons (c := [.int .i64 s39.2.1]) rfl rfl (Rd.nil RInt 1 _)) rfl (by decide)
                    obtain ⟨y94, hy94, H⟩ := bnd H
                    have l3_8 := ((leG76.trans l4_6).trans leG89).trans leG93
                    refine WL_op rfl (OpP_append (k := 2) sl25 RInt_one hS hO rfl hnhs39_0 (hs39_0.mono RInt_mono l3_8) hfb91 hy94 rfl rfl rfl rfl rfl (fun aw95 cw95 w95 clw95 hS hO hrw95 => ?_))
                    have hO : Owns G93 w95 w0.heap.size ([⟨72, 5, 1, .slice (some ⟨b50, 0, none⟩) 1 1, [.int .i64 q63.1.Base.Low, .int .i64 q63.1.Base.High, .slice aq63_0 nq63_0 cq63_0, .int .i64 q63.1.Pass, .int .i64 q63.1.Cost]⟩, ⟨72, 5, y81.length, .slice aw82 y81.length cw82, clw82⟩, ⟨3, 1, y94.length, .slice aw95 y94.length cw95, clw95⟩, ⟨24, 2, 1, .slice (some ⟨b32, 0, none⟩) 1 1, [.slice aw82 y81.length cw82, .int .i64 q63.2.Limit]⟩]) := hO
                    refine WL_val (rn_assign (v := (.slice aw95 y94.length cw95)) rfl) rfl ?_
                    refine WL_nil ?_
                    have hO := hO.drop 0
                    have hO : Owns G93 w95 w0.heap.size ([⟨72, 5, y81.length, .slice aw82 y81.length cw82, clw82⟩, ⟨3, 1, y94.length, .slice aw95 y94.length cw95, clw95⟩, ⟨24, 2, 1, .slice (some ⟨b32, 0, none⟩) 1 1, [.slice aw82 y81.length cw82, .int .i64 q63.2.Limit]⟩]) := hO
                    have H := Option.some.inj H
                    subst H
                    have l6_8 := leG89.trans leG93
                    exact ⟨_, G93, aw95, y94.length, cw95, clw95, aw82, y81.length, cw82, clw82, upds_self _ _ ⟨rfl, rfl, rfl, rfl, rfl, rfl, rfl, rfl, rfl, trivial⟩, l3_8, hS, hO, rfl, hrw95, rfl, (hrw82.mono RTBaneFish_mono l6_8)⟩
                  · have H := ifF hb90 H
                    refine WC_skip ?_
                    have hO := hO.drop 0
                    have hO : Owns G89 w88 w0.heap.size ([⟨72, 5, y81.length, .slice aw82 y81.length cw82, clw82⟩, ⟨3, 1, ns39_0, .slice as39_0 ns39_0 cs39_0, clas39_0⟩, ⟨24, 2, 1, .slice (some ⟨b32, 0, none⟩) 1 1, [.slice aw82 y81.length cw82, .int .i64 q63.2.Limit]⟩]) := hO
                    have H := Option.some.inj H
                    subst H
                    have l3_7 := (leG76.trans l4_6).trans leG89
                    exact ⟨_, G89, as39_0, ns39_0, cs39_0, clas39_0, aw82, y81.length, cw82, clw82, upds_self _ _ ⟨rfl, rfl, rfl, rfl, rfl, rfl, rfl, rfl, rfl, trivial⟩, l3_7, hS, hO, hnhs39_0, (hs39_0.mono RInt_mono l3_7), rfl, (hrw82.mono RTBaneFish_mono leG89)⟩
            · rintro F w96 ⟨Fb, G97, aq46_0, nq46_0, cq46_0, claq46_0, aq46_1, nq46_1, cq46_1, claq46_1, rfl, leG97, hS, hO, hnhq46_0, hq46_0, hnhq46_1, hq46_1⟩
              refine WC_region ?_
              refine WL_val (rn_move (v := (.int .i64 s39.2.1)) rfl) rfl ?_
              refine WL_val (rn_add rfl rfl) rfl ?_
              refine WL_val (rn_assign (v := (.int .i64 (IntKind.i64.wrap (s39.2.1 + 1)))) rfl) rfl ?_
              refine WL_nil ?_
              have hO : Owns G97 w96 w0.heap.size ([⟨72, 5, nq46_1, .slice aq46_1 nq46_1 cq46_1, claq46_1⟩, ⟨3, 1, nq46_0, .slice aq46_0 nq46_0 cq46_0, claq46_0⟩, ⟨24, 2, 1, .slice (some ⟨b32, 0, none⟩) 1 1, [.slice aq46_1 nq46_1 cq46_1, .int .i64 q46.2.Limit]⟩]) := hO
              have H := Option.some.inj H
              subst H
              refine ⟨_, rfl, ?_⟩
              have l2_4 := leG44.trans leG97
              exact ⟨_, G97, aq46_0, nq46_0, cq46_0, claq46_0, aq46_1, nq46_1, cq46_1, claq46_1, upds_self _ _ ⟨rfl, rfl, rfl, rfl, rfl, rfl, rfl, rfl, rfl, trivial⟩, l2_4, hS, hO, hnhq46_0, hq46_0, hnhq46_1, hq46_1⟩
          · have H := ifF hb45 H
            refine WC_exit rfl ?_
            have hO : Owns G44 w43 w0.heap.size ([⟨72, 5, ns39_1, .slice as39_1 ns39_1 cs39_1, clas39_1⟩, ⟨3, 1, ns39_0, .slice as39_0 ns39_0 cs39_0, clas39_0⟩, ⟨24, 2, 1, .slice (some ⟨b32, 0, none⟩) 1 1, [.slice as39_1 ns39_1 cs39_1, .int .i64 s39.2.2.Limit]⟩]) := hO
            have H := Option.some.inj H
            subst H
            have hres := hqq41 _ rfl
            subst hres
            exact ⟨_, G44, as39_0, ns39_0, cs39_0, clas39_0, as39_1, ns39_1, cs39_1, clas39_1, upds_self _ _ ⟨rfl, rfl, rfl, rfl, rfl, trivial⟩, leG44, hS, hO, hnhs39_0, hs39_0, hnhs39_1, hs39_1⟩
      · rintro F w98 ⟨Fb, G99, aq41_0, nq41_0, cq41_0, claq41_0, aq41_1, nq41_1, cq41_1, claq41_1, rfl, leG99, hS, hO, hnhq41_0, hq41_0, hnhq41_1, hq41_1⟩
        refine WC_seq ?_
        refine WC_region ?_
        have l1_3 := leG28.trans leG99
        refine WL_val (rn_loadA ag24 (cs := [.slice a1 n1 c1, .int .i64 x0.Limit]) rfl rfl (fun j v hj => (hS.sat.le l1_3).cell (hcb4.drop_take 0 2 j v hj))) rfl ?_
        obtain ⟨y100, hy100, H⟩ := bnd H
        have l0_3 := leG6.trans l1_3
        refine WL_op rfl (OpP_callG cb25 (f25_ok (x0 := x0) hS.sat (h1.mono RTBaneFish_mono l0_3) hy100) rfl rfl (fun vy100 G102 w101 hg hvy100 => ?_))
        obtain ⟨a103, n103, c103, ⟨⟩, h103⟩ := hvy100
        have hS := hS.grow hg
        have hO := hO.grow hg
        have leG102 := hg.le
        refine WL_val (rn_move (v := (.tuple #[.slice a103 n103 c103, .int .i64 y100.2])) rfl) rfl ?_
        refine WL_val (rn_extract (v := (.slice a103 n103 c103)) rfl rfl) rfl ?_
        refine WL_val (rn_extract (v := (.int .i64 y100.2)) rfl rfl) rfl ?_
        refine WL_val (rn_assign (v := (.slice a103 n103 c103)) rfl) rfl ?_
        refine WL_val (rn_assign (v := (.int .i64 y100.2)) rfl) rfl ?_
        refine WL_nil ?_
        refine WC_seq ?_
        refine WC_region ?_
        refine WL_val (rn_loadA ag24 (cs := [.slice aq41_1 nq41_1 cq41_1, .int .i64 q41.2.Limit]) rfl rfl (fun j v hj => own_sub hO (k := 2) rfl 0 2 j v hj)) rfl ?_
        obtain ⟨G104, leG104, hS, hO, hfG104⟩ := hO.freezeS hS RTBaneFish_mono (k := 0) rfl (hq41_1.mono RTBaneFish_mono leG102) hnhq41_1
        obtain ⟨y105, hy105, H⟩ := bnd H
        refine WL_op rfl (OpP_callG cb25 (f25_ok (x0 := (⟨q41.2.Fish, q41.2.Limit⟩ : TBaneWeb)) hS.sat hfG104 hy105) rfl rfl (fun vy105 G107 w106 hg hvy105 => ?_))
        obtain ⟨a108, n108, c108, ⟨⟩, h108⟩ := hvy105
        have hS := hS.grow hg
        have hO := hO.grow hg
        have leG107 := hg.le
        refine WL_val (rn_move (v := (.tuple #[.slice a108 n108 c108, .int .i64 y105.2])) rfl) rfl ?_
        refine WL_val (rn_extract (v := (.slice a108 n108 c108)) rfl rfl) rfl ?_
        refine WL_val (rn_extract (v := (.int .i64 y105.2)) rfl rfl) rfl ?_
        refine WL_val (rn_assign (v := (.slice a108 n108 c108)) rfl) rfl ?_
        refine WL_val (rn_assign (v := (.int .i64 y105.2)) rfl) rfl ?_
        refine WL_nil ?_
        refine WC_seq ?_
        refine WC_region ?_
        have l1_6 := ((l1_3.trans leG102).trans leG104).trans leG107
        refine WL_val (rn_loadA ag24 (cs := [.slice a1 n1 c1, .int .i64 x0.Limit]) rfl rfl (fun j v hj => (hS.sat.le l1_6).cell (hcb4.drop_take 0 2 j v hj))) rfl ?_
        refine WL_val (rn_move (v := (.slice a2 n2 c2)) rfl) rfl ?_
        refine WL_val (rn_move (v := (.slice a3 n3 c3)) rfl) rfl ?_
        obtain ⟨y109, hy109, H⟩ := bnd H
        have l0_6 := ((l0_3.trans leG102).trans leG104).trans leG107
        refine WL_op rfl (OpP_callV cb41 (f41_ok (x0 := x0) (x1 := x1) (x2 := x2) hS.sat (h1.mono RTBaneFish_mono l0_6) (h2.mono RInt_mono l0_6) (h3.mono RInt_mono l0_6) hy109) rfl rfl (fun w110 hb => ?_))
        have hS := hS.keep hb
        have hO := hO.below hb
        refine WL_val (rn_move (v := (.tuple #[.bool y109.1, .int .i64 y109.2])) rfl) rfl ?_
        refine WL_val (rn_extract (v := (.bool y109.1)) rfl rfl) rfl ?_
        refine WL_val (rn_extract (v := (.int .i64 y109.2)) rfl rfl) rfl ?_
        refine WL_val (rn_assign (v := (.bool y109.1)) rfl) rfl ?_
        refine WL_val (rn_assign (v := (.int .i64 y109.2)) rfl) rfl ?_
        refine WL_nil ?_
        refine WC_seq ?_
        refine WC_region ?_
        refine WL_val (rn_loadA ag24 (cs := [.slice a1 n1 c1, .int .i64 x0.Limit]) rfl rfl (fun j v hj => (hS.sat.le l1_6).cell (hcb4.drop_take 0 2 j v hj))) rfl ?_
        refine WL_val (rn_move (v := (.slice a2 n2 c2)) rfl) rfl ?_
        refine WL_val (rn_move (v := (.slice aq41_0 nq41_0 cq41_0)) rfl) rfl ?_
        obtain ⟨y111, hy111, H⟩ := bnd H
        have l3_6 := (leG102.trans leG104).trans leG107
        obtain ⟨Gv112, leGv112, hSGv112, hOGv112, hvGv112⟩ := hO.freezeS hS RInt_mono (k := 0) rfl (hq41_0.mono RInt_mono l3_6) hnhq41_0
        refine WL_op rfl (OpP_callV cb41 (f41_ok (x0 := x0) (x1 := x1) (x2 := q41.1) hSGv112.sat ((h1.mono RTBaneFish_mono l0_6).mono RTBaneFish_mono leGv112) ((h2.mono RInt_mono l0_6).mono RInt_mono leGv112) hvGv112 hy111) rfl rfl (fun w113 hb => ?_))
        have hS := hS.keep hb
        have hO := hO.below hb
        refine WL_val (rn_move (v := (.tuple #[.bool y111.1, .int .i64 y111.2])) rfl) rfl ?_
        refine WL_val (rn_extract (v := (.bool y111.1)) rfl rfl) rfl ?_
        refine WL_val (rn_extract (v := (.int .i64 y111.2)) rfl rfl) rfl ?_
        refine WL_val (rn_assign (v := (.bool y111.1)) rfl) rfl ?_
        refine WL_val (rn_assign (v := (.int .i64 y111.2)) rfl) rfl ?_
        refine WL_nil ?_
        refine WC_seq ?_
        refine WC_seq ?_
        obtain ⟨q114, hq114, H⟩ := bnd H
        refine WC_cut (fun F w => ∃ (Fb : Fr), F = upds Fb [(18, .slice a103 n103 c103), (20, .slice a108 n108 c108), (204, .bool q114)] ∧ w113 = w) ?_ ?_
        · have Hoq114 := H
          have H := hq114
          refine WC_region ?_
          refine WL_val (rn_move (v := (.int .i64 y100.2)) rfl) rfl ?_
          refine WL_val (rn_neq rfl rfl) rfl ?_
          refine WL_val (rn_move (v := (.bool (y100.2 != 0))) rfl) rfl ?_
          rcases bcases (y100.2 != 0) with hb115 | hb115
          · have H := ifT hb115 H
            refine WL_guardN rfl hb115 rfl rfl rfl ?_
            refine WL_guardN rfl hb115 rfl rfl rfl ?_
            refine WL_val (rn_pickT (v := (.bool true)) rfl hb115 rfl) rfl ?_
            refine WL_val (rn_move (v := (.bool true)) rfl) rfl ?_
            refine WL_guardN rfl rfl rfl rfl rfl ?_
            refine WL_guardN rfl rfl rfl rfl rfl ?_
            refine WL_val (rn_pickT (v := (.bool true)) rfl rfl rfl) rfl ?_
            refine WL_val (rn_move (v := (.bool true)) rfl) rfl ?_
            refine WL_guardN rfl rfl rfl rfl rfl ?_
            refine WL_guardN rfl rfl rfl rfl rfl ?_
            refine WL_val (rn_pickT (v := (.bool true)) rfl rfl rfl) rfl ?_
            refine WL_val (rn_move (v := (.bool true)) rfl) rfl ?_
            refine WL_guardN rfl rfl rfl rfl rfl ?_
            refine WL_guardN rfl rfl rfl rfl rfl ?_
            refine WL_guardN rfl rfl rfl rfl rfl ?_
            refine WL_guardN rfl rfl rfl rfl rfl ?_
            refine WL_guardN rfl rfl rfl rfl rfl ?_
            refine WL_guardN rfl rfl rfl rfl rfl ?_
            refine WL_val (rn_pickT (v := (.bool true)) rfl rfl rfl) rfl ?_
            refine WL_val (rn_move (v := (.bool true)) rfl) rfl ?_
            refine WL_guardN rfl rfl rfl rfl rfl ?_
            refine WL_guardN rfl rfl rfl rfl rfl ?_
            refine WL_guardN rfl rfl rfl rfl rfl ?_
            refine WL_guardN rfl rfl rfl rfl rfl ?_
            refine WL_guardN rfl rfl rfl rfl rfl ?_
            refine WL_guardN rfl rfl rfl rfl rfl ?_
            refine WL_val (rn_pickT (v := (.bool true)) rfl rfl rfl) rfl ?_
            refine WL_val (rn_move (v := (.bool true)) rfl) rfl ?_
            refine WL_guardN rfl rfl rfl rfl rfl ?_
            refine WL_guardN rfl rfl rfl rfl rfl ?_
            refine WL_guardU rfl rfl rfl rfl ?_
            refine WL_guardU rfl rfl rfl rfl ?_
            refine WL_guardN rfl rfl rfl rfl rfl ?_
            refine WL_val (rn_pickT (v := (.bool true)) rfl rfl rfl) rfl ?_
            refine WL_nil ?_
            have H := Option.some.inj H
            subst H
            exact ⟨_, upds_self _ _ ⟨rfl, rfl, rfl, trivial⟩, rfl⟩
          · have H := ifF hb115 H
            refine WL_guardY rfl hb115 rfl rfl ?_
            refine WL_val (rn_move (v := (.int .i64 y105.2)) rfl) rfl ?_
            refine WL_guardY rfl hb115 rfl rfl ?_
            refine WL_val (rn_neq rfl rfl) rfl ?_
            refine WL_val (rn_pickF (v := (.bool (y105.2 != 0))) rfl hb115 rfl) rfl ?_
            refine WL_val (rn_move (v := (.bool (y105.2 != 0))) rfl) rfl ?_
            rcases bcases (y105.2 != 0) with hb116 | hb116
            · have H := ifT hb116 H
              refine WL_guardN rfl hb116 rfl rfl rfl ?_
              refine WL_guardN rfl hb116 rfl rfl rfl ?_
              refine WL_val (rn_pickT (v := (.bool true)) rfl hb116 rfl) rfl ?_
              refine WL_val (rn_move (v := (.bool true)) rfl) rfl ?_
              refine WL_guardN rfl rfl rfl rfl rfl ?_
              refine WL_guardN rfl rfl rfl rfl rfl ?_
              refine WL_val (rn_pickT (v := (.bool true)) rfl rfl rfl) rfl ?_
              refine WL_val (rn_move (v := (.bool true)) rfl) rfl ?_
              refine WL_guardN rfl rfl rfl rfl rfl ?_
              refine WL_guardN rfl rfl rfl rfl rfl ?_
              refine WL_guardN rfl rfl rfl rfl rfl ?_
              refine WL_guardN rfl rfl rfl rfl rfl ?_
              refine WL_guardN rfl rfl rfl rfl rfl ?_
              refine WL_guardN rfl rfl rfl rfl rfl ?_
              refine WL_val (rn_pickT (v := (.bool true)) rfl rfl rfl) rfl ?_
              refine WL_val (rn_move (v := (.bool true)) rfl) rfl ?_
              refine WL_guardN rfl rfl rfl rfl rfl ?_
              refine WL_guardN rfl rfl rfl rfl rfl ?_
              refine WL_guardN rfl rfl rfl rfl rfl ?_
              refine WL_guardN rfl rfl rfl rfl rfl ?_
              refine WL_guardN rfl rfl rfl rfl rfl ?_
              refine WL_guardN rfl rfl rfl rfl rfl ?_
              refine WL_val (rn_pickT (v := (.bool true)) rfl rfl rfl) rfl ?_
              refine WL_val (rn_move (v := (.bool true)) rfl) rfl ?_
              refine WL_guardN rfl rfl rfl rfl rfl ?_
              refine WL_guardN rfl rfl rfl rfl rfl ?_
              refine WL_guardU rfl rfl rfl rfl ?_
              refine WL_guardU rfl rfl rfl rfl ?_
              refine WL_guardN rfl rfl rfl rfl rfl ?_
              refine WL_val (rn_pickT (v := (.bool true)) rfl rfl rfl) rfl ?_
              refine WL_nil ?_
              have H := Option.some.inj H
              subst H
              exact ⟨_, upds_self _ _ ⟨rfl, rfl, rfl, trivial⟩, rfl⟩
            · have H := ifF hb116 H
              refine WL_guardY rfl hb116 rfl rfl ?_
              refine WL_val (rn_move (v := (.int .i64 y109.2)) rfl) rfl ?_
              refine WL_guardY rfl hb116 rfl rfl ?_
              refine WL_val (rn_neq rfl rfl) rfl ?_
              refine WL_val (rn_pickF (v := (.bool (y109.2 != 0))) rfl hb116 rfl) rfl ?_
              refine WL_val (rn_move (v := (.bool (y109.2 != 0))) rfl) rfl ?_
              rcases bcases (y109.2 != 0) with hb117 | hb117
              · have H := ifT hb117 H
                refine WL_guardN rfl hb117 rfl rfl rfl ?_
                refine WL_guardN rfl hb117 rfl rfl rfl ?_
                refine WL_val (rn_pickT (v := (.bool true)) rfl hb117 rfl) rfl ?_
                refine WL_val (rn_move (v := (.bool true)) rfl) rfl ?_
                refine WL_guardN rfl rfl rfl rfl rfl ?_
                refine WL_guardN rfl rfl rfl rfl rfl ?_
                refine WL_guardN rfl rfl rfl rfl rfl ?_
                refine WL_guardN rfl rfl rfl rfl rfl ?_
                refine WL_guardN rfl rfl rfl rfl rfl ?_
                refine WL_guardN rfl rfl rfl rfl rfl ?_
                refine WL_val (rn_pickT (v := (.bool true)) rfl rfl rfl) rfl ?_
                refine WL_val (rn_move (v := (.bool true)) rfl) rfl ?_
                refine WL_guardN rfl rfl rfl rfl rfl ?_
                refine WL_guardN rfl rfl rfl rfl rfl ?_
                refine WL_guardN rfl rfl rfl rfl rfl ?_
                refine WL_guardN rfl rfl rfl rfl rfl ?_
                refine WL_guardN rfl rfl rfl rfl rfl ?_
                refine WL_guardN rfl rfl rfl rfl rfl ?_
                refine WL_val (rn_pickT (v := (.bool true)) rfl rfl rfl) rfl ?_
                refine WL_val (rn_move (v := (.bool true)) rfl) rfl ?_
                refine WL_guardN rfl rfl rfl rfl rfl ?_
                refine WL_guardN rfl rfl rfl rfl rfl ?_
                refine WL_guardU rfl rfl rfl rfl ?_
                refine WL_guardU rfl rfl rfl rfl ?_
                refine WL_guardN rfl rfl rfl rfl rfl ?_
                refine WL_val (rn_pickT (v := (.bool true)) rfl rfl rfl) rfl ?_
                refine WL_nil ?_
                have H := Option.some.inj H
                subst H
                exact ⟨_, upds_self _ _ ⟨rfl, rfl, rfl, trivial⟩, rfl⟩
              · have H := ifF hb117 H
                refine WL_guardY rfl hb117 rfl rfl ?_
                refine WL_val (rn_move (v := (.int .i64 y111.2)) rfl) rfl ?_
                refine WL_guardY rfl hb117 rfl rfl ?_
                refine WL_val (rn_neq rfl rfl) rfl ?_
                refine WL_val (rn_pickF (v := (.bool (y111.2 != 0))) rfl hb117 rfl) rfl ?_
                refine WL_val (rn_move (v := (.bool (y111.2 != 0))) rfl) rfl ?_
                rcases bcases (y111.2 != 0) with hb118 | hb118
                · have H := ifT hb118 H
                  refine WL_guardN rfl hb118 rfl rfl rfl ?_
                  refine WL_guardN rfl hb118 rfl rfl rfl ?_
                  refine WL_guardN rfl hb118 rfl rfl rfl ?_
                  refine WL_guardN rfl hb118 rfl rfl rfl ?_
                  refine WL_guardN rfl hb118 rfl rfl rfl ?_
                  refine WL_guardN rfl hb118 rfl rfl rfl ?_
                  refine WL_val (rn_pickT (v := (.bool true)) rfl hb118 rfl) rfl ?_
                  refine WL_val (rn_move (v := (.bool true)) rfl) rfl ?_
                  refine WL_guardN rfl rfl rfl rfl rfl ?_
                  refine WL_guardN rfl rfl rfl rfl rfl ?_
                  refine WL_guardN rfl rfl rfl rfl rfl ?_
                  refine WL_guardN rfl rfl rfl rfl rfl ?_
                  refine WL_guardN rfl rfl rfl rfl rfl ?_
                  refine WL_guardN rfl rfl rfl rfl rfl ?_
                  refine WL_val (rn_pickT (v := (.bool true)) rfl rfl rfl) rfl ?_
                  refine WL_val (rn_move (v := (.bool true)) rfl) rfl ?_
                  refine WL_guardN rfl rfl rfl rfl rfl ?_
                  refine WL_guardN rfl rfl rfl rfl rfl ?_
                  refine WL_guardU rfl rfl rfl rfl ?_
                  refine WL_guardU rfl rfl rfl rfl ?_
                  refine WL_guardN rfl rfl rfl rfl rfl ?_
                  refine WL_val (rn_pickT (v := (.bool true)) rfl rfl rfl) rfl ?_
                  refine WL_nil ?_
                  have H := Option.some.inj H
                  subst H
                  exact ⟨_, upds_self _ _ ⟨rfl, rfl, rfl, trivial⟩, rfl⟩
                · have H := ifF hb118 H
                  refine WL_guardY rfl hb118 rfl rfl ?_
                  refine WL_val (rn_move (v := (.slice a103 n103 c103)) rfl) rfl ?_
                  refine WL_guardY rfl hb118 rfl rfl ?_
                  have l4_6 := leG104.trans leG107
                  refine WL_val (rn_len sl38 rfl rfl (h103.mono RTSpan_mono l4_6).1) rfl ?_
                  refine WL_guardY rfl hb118 rfl rfl ?_
                  refine WL_val (rn_fld fd24_0 rfl) rfl ?_
                  refine WL_guardY rfl hb118 rfl rfl ?_
                  refine WL_val (rn_load na22 rfl ((hS.sat.le l1_6).cell (hcb4 0 _ rfl))) rfl ?_
                  refine WL_guardY rfl hb118 rfl rfl ?_
                  refine WL_val (rn_len sl22 rfl rfl (h1.mono RTBaneFish_mono l0_6).1) rfl ?_
                  refine WL_guardY rfl hb118 rfl rfl ?_
                  refine WL_val (rn_neq rfl rfl) rfl ?_
                  refine WL_val (rn_pickF (v := (.bool ((y100.1.length : Int) != (x0.Fish.length : Int)))) rfl hb118 rfl) rfl ?_
                  refine WL_val (rn_move (v := (.bool ((y100.1.length : Int) != (x0.Fish.length : Int)))) rfl) rfl ?_
                  rcases bcases ((y100.1.length : Int) != (x0.Fish.length : Int)) with hb119 | hb119
                  · have H := ifT hb119 H
                    refine WL_guardN rfl hb119 rfl rfl rfl ?_
                    refine WL_guardN rfl hb119 rfl rfl rfl ?_
                    refine WL_guardN rfl hb119 rfl rfl rfl ?_
                    refine WL_guardN rfl hb119 rfl rfl rfl ?_
                    refine WL_guardN rfl hb119 rfl rfl rfl ?_
                    refine WL_guardN rfl hb119 rfl rfl rfl ?_
                    refine WL_val (rn_pickT (v := (.bool true)) rfl hb119 rfl) rfl ?_
                    refine WL_val (rn_move (v := (.bool true)) rfl) rfl ?_
                    refine WL_guardN rfl rfl rfl rfl rfl ?_
                    refine WL_guardN rfl rfl rfl rfl rfl ?_
                    refine WL_guardU rfl rfl rfl rfl ?_
                    refine WL_guardU rfl rfl rfl rfl ?_
                    refine WL_guardN rfl rfl rfl rfl rfl ?_
                    refine WL_val (rn_pickT (v := (.bool true)) rfl rfl rfl) rfl ?_
                    refine WL_nil ?_
                    have H := Option.some.inj H
                    subst H
                    exact ⟨_, upds_self _ _ ⟨rfl, rfl, rfl, trivial⟩, rfl⟩
                  · have H := ifF hb119 H
                    refine WL_guardY rfl hb119 rfl rfl ?_
                    refine WL_val (rn_move (v := (.slice a108 n108 c108)) rfl) rfl ?_
                    refine WL_guardY rfl hb119 rfl rfl ?_
                    refine WL_val (rn_len sl38 rfl rfl h108.1) rfl ?_
                    refine WL_guardY rfl hb119 rfl rfl ?_
                    refine WL_val (rn_fld fd24_0 rfl) rfl ?_
                    refine WL_guardY rfl hb119 rfl rfl ?_
                    refine WL_val (rn_load na22 rfl ((hS.sat.le l1_6).cell (hcb4 0 _ rfl))) rfl ?_
                    refine WL_guardY rfl hb119 rfl rfl ?_
                    refine WL_val (rn_len sl22 rfl rfl (h1.mono RTBaneFish_mono l0_6).1) rfl ?_
                    refine WL_guardY rfl hb119 rfl rfl ?_
                    refine WL_val (rn_neq rfl rfl) rfl ?_
                    refine WL_val (rn_pickF (v := (.bool ((y105.1.length : Int) != (x0.Fish.length : Int)))) rfl hb119 rfl) rfl ?_
                    refine WL_val (rn_move (v := (.bool ((y105.1.length : Int) != (x0.Fish.length : Int)))) rfl) rfl ?_
                    rcases bcases ((y105.1.length : Int) != (x0.Fish.length : Int)) with hb120 | hb120
                    · have H := ifT hb120 H
                      refine WL_guardN rfl hb120 rfl rfl rfl ?_
                      refine WL_guardN rfl hb120 rfl rfl rfl ?_
                      refine WL_guardU rfl rfl rfl rfl ?_
                      refine WL_guardU rfl rfl rfl rfl ?_
                      refine WL_guardN rfl hb120 rfl rfl rfl ?_
                      refine WL_val (rn_pickT (v := (.bool true)) rfl hb120 rfl) rfl ?_
                      refine WL_nil ?_
                      have H := Option.some.inj H
                      subst H
                      exact ⟨_, upds_self _ _ ⟨rfl, rfl, rfl, trivial⟩, rfl⟩
                    · have H := ifF hb120 H
                      refine WL_guardY rfl hb120 rfl rfl ?_
                      refine WL_val (rn_move (v := (.bool y109.1)) rfl) rfl ?_
                      refine WL_guardY rfl hb120 rfl rfl ?_
                      refine WL_val (rn_move (v := (.bool y109.1)) rfl) rfl ?_
                      rcases bcases y109.1 with hb121 | hb121
                      · have H := ifT hb121 H
                        refine WL_guardY rfl hb121 rfl rfl ?_
                        refine WL_val (rn_move (v := (.bool y111.1)) rfl) rfl ?_
                        refine WL_guardY rfl hb121 rfl rfl ?_
                        refine WL_val (rn_not rfl) rfl ?_
                        refine WL_guardY rfl hb120 rfl rfl ?_
                        refine WL_val (rn_pickT (v := (.bool (!y111.1))) rfl hb121 rfl) rfl ?_
                        refine WL_val (rn_pickF (v := (.bool (!y111.1))) rfl hb120 rfl) rfl ?_
                        refine WL_nil ?_
                        have H := Option.some.inj H
                        subst H
                        exact ⟨_, upds_self _ _ ⟨rfl, rfl, rfl, trivial⟩, rfl⟩
                      · have H := ifF hb121 H
                        refine WL_guardN rfl hb121 rfl rfl rfl ?_
                        refine WL_guardN rfl hb121 rfl rfl rfl ?_
                        refine WL_guardY rfl hb120 rfl rfl ?_
                        refine WL_val (rn_pickF (v := (.bool false)) rfl hb121 rfl) rfl ?_
                        refine WL_val (rn_pickF (v := (.bool false)) rfl hb120 rfl) rfl ?_
                        refine WL_nil ?_
                        have H := Option.some.inj H
                        subst H
                        exact ⟨_, upds_self _ _ ⟨rfl, rfl, rfl, trivial⟩, rfl⟩
        · rintro F wl ⟨Fb, rfl, rfl⟩
          refine WC_cond rfl (fun hb124 => ?_) (fun hb124 => ?_)
          · have H := ifT hb124 H
            refine WC_seq ?_
            refine WC_region ?_
            refine WL_val (rn_assign (v := (.bool false)) rfl) rfl ?_
            refine WL_nil ?_
            refine WC_ret ?_
            have H : some false = some r := H
            have H := Option.some.inj H
            subst H
            exact ⟨rfl, hS.below⟩
          · have H := ifF hb124 H
            refine WC_skip ?_
            refine WC_seq ?_
            refine WC_seq ?_
            refine WC_region ?_
            refine WL_val (rn_assign (v := (.int .i64 0)) rfl) rfl ?_
            refine WL_nil ?_
            obtain ⟨q127, hq127, H⟩ := bnd H
            refine WC_cut (fun F w => ∃ (p126 : TBaneWeb) (Fb : Fr) (G : Gm) (ap126_0 : Option Addr) (np126_0 cp126_0 : Nat), q127 = .inl p126 ∧ F = upds Fb [] ∧ Gle G107 G ∧ Since w0.heap.size G0 w0 G w ∧ Owns G w w0.heap.size [⟨3, 1, nq41_0, .slice aq41_0 nq41_0 cq41_0, claq41_0⟩, ⟨24, 2, 1, .slice (some ⟨b32, 0, none⟩) 1 1, [.slice ap126_0 np126_0 cp126_0, .int .i64 p126.Limit]⟩] ∧ RSl RTBaneFish 5 G ap126_0 np126_0 cp126_0 p126.Fish) ?_ ?_
            · refine WC_block (WC_loop hq127 (fun s125 F w => ∃ (Fb : Fr) (G : Gm) (as125_0 : Option Addr) (ns125_0 cs125_0 : Nat), F = upds Fb [(18, .slice a103 n103 c103), (20, .slice a108 n108 c108), (26, .int .i64 s125.1)] ∧ Gle G107 G ∧ Since w0.heap.size G0 w0 G w ∧ Owns G w w0.heap.size [⟨3, 1, nq41_0, .slice aq41_0 nq41_0 cq41_0, claq41_0⟩, ⟨24, 2, 1, .slice (some ⟨b32, 0, none⟩) 1 1, [.slice as125_0 ns125_0 cs125_0, .int .i64 s125.2.Limit]⟩] ∧ RSl RTBaneFish 5 G as125_0 ns125_0 cs125_0 s125.2.Fish) ?_ ?_)
              · have hO : Owns G107 w113 w0.heap.size ([⟨3, 1, nq41_0, .slice aq41_0 nq41_0 cq41_0, claq41_0⟩, ⟨24, 2, 1, .slice (some ⟨b32, 0, none⟩) 1 1, [.slice aq41_1 nq41_1 cq41_1, .int .i64 q41.2.Limit]⟩]) := hO
                exact ⟨_, G107, aq41_1, nq41_1, cq41_1, upds_self _ _ ⟨rfl, rfl, rfl, trivial⟩, Gle.refl _, hS, hO, (hfG104.mono RTBaneFish_mono leG107)⟩
              · rintro s125 F w129 t128 ⟨Fb, G130, as125_0, ns125_0, cs125_0, rfl, leG130, hS, hO, hs125_0⟩
                intro H1 hqq127
                have Hoq127 := H
                have H := H1
                unfold f11_b2 at H
                refine WC_seq ?_
                refine WC_seq ?_
                refine WC_region ?_
                refine WL_val (rn_move (v := (.int .i64 s125.1)) rfl) rfl ?_
                refine WL_val (rn_move (v := (.slice a103 n103 c103)) rfl) rfl ?_
                have l4_7 := (leG104.trans leG107).trans leG130
                refine WL_val (rn_len sl38 rfl rfl (h103.mono RTSpan_mono l4_7).1) rfl ?_
                refine WL_val (rn_lss rfl rfl) rfl ?_
                refine WL_nil ?_
                refine WC_cond rfl (fun hb131 => ?_) (fun hb131 => ?_)
                · have H := ifT hb131 H
                  refine WC_skip ?_
                  refine WC_seq ?_
                  refine WC_block ?_
                  refine WC_seq ?_
                  obtain ⟨q132, hq132, H⟩ := bnd H
                  refine WC_cut (fun F w => ∃ (Fb : Fr) (G : Gm), F = upds Fb [(18, .slice a103 n103 c103), (20, .slice a108 n108 c108), (26, .int .i64 s125.1), (234, .bool q132)] ∧ Gle G130 G ∧ Since w0.heap.size G0 w0 G w ∧ Owns G w w0.heap.size [⟨3, 1, nq41_0, .slice aq41_0 nq41_0 cq41_0, claq41_0⟩, ⟨24, 2, 1, .slice (some ⟨b32, 0, none⟩) 1 1, [.slice as125_0 ns125_0 cs125_0, .int .i64 s125.2.Limit]⟩]) ?_ ?_
                  · have Hoq132 := H
                    have H := hq132
                    have hS := hS.keep (below_drew _)
                    have hO := hO.below (below_drew _)
                    refine WC_regionD mixedO (fun w => Sat G130 w ∧ Owns G130 w w0.heap.size [⟨3, 1, nq41_0, .slice aq41_0 nq41_0 cq41_0, claq41_0⟩, ⟨24, 2, 1, .slice (some ⟨b32, 0, none⟩) 1 1, [.slice as125_0 ns125_0 cs125_0, .int .i64 s125.2.Limit]⟩]) (.fl 0 (.fl 1 (.fl 2 (.fl 3 (.fl 4 (.fl 5 (.on 6 (.on 7 (.on 8 (.on 9 (.on 10 (.on 11 (.fl 12 (.fl 13 (.fl 14 (.fl 15 (.fl 16 (.fl 17 (.on 18 (.on 19 (.on 20 (.on 21 (.on 22 (.on 23 .nil)))))))))))))))))))))))) (by kernel_rfl) rfl (by kernel_rfl) ⟨hS.sat, hO⟩ ?_
                    refine WD_val rfl (fun w hw => rn_move (v := (.slice a108 n108 c108)) rfl) rfl ?_
                    refine WD_val rfl (fun w hw => rn_move (v := (.int .i64 s125.1)) rfl) rfl ?_
                    obtain ⟨y133, hy133, H⟩ := bnd H
                    refine WD_idx rfl sl38 (h108.mono RTSpan_mono leG130) hy133 rfl rfl rfl ?_
                    rintro b134 o134 _ hcb134 _ ⟨⟩
                    refine WD_val rfl (fun w hw => rn_fld fd43_0 rfl) rfl ?_
                    refine WD_val rfl (fun w hw => rn_load na3 rfl (hw.1.cell (hcb134 0 _ rfl))) rfl ?_
                    refine WD_val rfl (fun w hw => rn_move (v := (.slice a103 n103 c103)) rfl) rfl ?_
                    refine WD_op rfl rfl (OpP_val (rn_move (v := (.int .i64 s125.1)) rfl) rfl ?_)
                    refine ⟨fun _ => ⟨hS.sat, hO⟩, ?_⟩
                    obtain ⟨y135, hy135, H⟩ := bnd H
                    refine WD_op rfl rfl (OpP_idx sl38 (h103.mono RTSpan_mono l4_7) hy135 rfl rfl rfl ?_)
                    rintro b136 o136 _ hcb136 _ ⟨⟩
                    refine ⟨fun _ => ⟨hS.sat, hO⟩, ?_⟩
                    refine WD_op rfl rfl (OpP_val (rn_fld fd43_0 rfl) rfl ?_)
                    refine ⟨fun _ => ⟨hS.sat, hO⟩, ?_⟩
                    refine WD_op rfl rfl (OpP_val (rn_load na3 rfl (hS.sat.cell (hcb136 0 _ rfl))) rfl ?_)
                    refine ⟨fun _ => ⟨hS.sat, hO⟩, ?_⟩
                    refine WD_op rfl rfl (OpP_val (rn_lss rfl rfl) rfl ?_)
                    refine ⟨fun _ => ⟨hS.sat, hO⟩, ?_⟩
                    refine WD_op rfl rfl (OpP_val (rn_move (v := (.bool (decide (y133.Low < y135.Low)))) rfl) rfl ?_)
                    refine ⟨fun _ => ⟨hS.sat, hO⟩, ?_⟩
                    rcases bcases (decide (y133.Low < y135.Low)) with hb137 | hb137
                    · have H := ifT hb137 H
                      refine WD_skip rfl rfl hb137 rfl rfl rfl ?_
                      refine WD_skip rfl rfl hb137 rfl rfl rfl ?_
                      refine WD_skip rfl rfl hb137 rfl rfl rfl ?_
                      refine WD_skip rfl rfl hb137 rfl rfl rfl ?_
                      refine WD_skip rfl rfl hb137 rfl rfl rfl ?_
                      refine WD_skip rfl rfl hb137 rfl rfl rfl ?_
                      refine WD_skipS rfl rfl hb137 rfl rfl rfl (fun _ => ⟨hS.sat, hO⟩) ?_
                      refine WD_skipS rfl rfl hb137 rfl rfl rfl (fun _ => ⟨hS.sat, hO⟩) ?_
                      refine WD_skipS rfl rfl hb137 rfl rfl rfl (fun _ => ⟨hS.sat, hO⟩) ?_
                      refine WD_skipS rfl rfl hb137 rfl rfl rfl (fun _ => ⟨hS.sat, hO⟩) ?_
                      refine WD_skipS rfl rfl hb137 rfl rfl rfl (fun h => nomore (by kernel_rfl) h) ?_
                      refine WD_op rfl rfl (OpP_val (rn_pickT (v := (.bool true)) rfl hb137 rfl) rfl ?_)
                      refine ⟨fun h => nomore (by kernel_rfl) h, ?_⟩
                      refine WD_nil ?_
                      have hO : Owns G130 w129.drew w0.heap.size ([⟨3, 1, nq41_0, .slice aq41_0 nq41_0 cq41_0, claq41_0⟩, ⟨24, 2, 1, .slice (some ⟨b32, 0, none⟩) 1 1, [.slice as125_0 ns125_0 cs125_0, .int .i64 s125.2.Limit]⟩]) := hO
                      have H := Option.some.inj H
                      subst H
                      exact ⟨_, G130, upds_self _ _ ⟨rfl, rfl, rfl, rfl, trivial⟩, Gle.refl _, hS, hO⟩
                    · have H := ifF hb137 H
                      refine WD_valY rfl rfl hb137 rfl rfl (fun w hw => rn_move (v := (.slice a108 n108 c108)) rfl) rfl ?_
                      refine WD_valY rfl rfl hb137 rfl rfl (fun w hw => rn_move (v := (.int .i64 s125.1)) rfl) rfl ?_
                      refine WD_idxY rfl rfl hb137 rfl rfl sl38 (h108.mono RTSpan_mono leG130) hy133 rfl rfl rfl ?_
                      rintro b138 o138 _ hcb138 _ ⟨⟩
                      refine WD_valY rfl rfl hb137 rfl rfl (fun w hw => rn_fld fd43_1 rfl) rfl ?_
                      refine WD_valY rfl rfl hb137 rfl rfl (fun w hw => rn_load na3 rfl (hw.1.cell (hcb138 1 _ rfl))) rfl ?_
                      refine WD_valY rfl rfl hb137 rfl rfl (fun w hw => rn_move (v := (.slice a103 n103 c103)) rfl) rfl ?_
                      refine WD_opY rfl rfl rfl hb137 rfl rfl (OpP_val (rn_move (v := (.int .i64 s125.1)) rfl) rfl ?_)
                      refine ⟨fun _ => ⟨hS.sat, hO⟩, ?_⟩
                      refine WD_opY rfl rfl rfl hb137 rfl rfl (OpP_idx sl38 (h103.mono RTSpan_mono l4_7) hy135 rfl rfl rfl ?_)
                      rintro b139 o139 _ hcb139 _ ⟨⟩
                      refine ⟨fun _ => ⟨hS.sat, hO⟩, ?_⟩
                      refine WD_opY rfl rfl rfl hb137 rfl rfl (OpP_val (rn_fld fd43_1 rfl) rfl ?_)
                      refine ⟨fun _ => ⟨hS.sat, hO⟩, ?_⟩
                      refine WD_opY rfl rfl rfl hb137 rfl rfl (OpP_val (rn_load na3 rfl (hS.sat.cell (hcb139 1 _ rfl))) rfl ?_)
                      refine ⟨fun _ => ⟨hS.sat, hO⟩, ?_⟩
                      refine WD_opY rfl rfl rfl hb137 rfl rfl (OpP_val (rn_gtr rfl rfl) rfl ?_)
                      refine ⟨fun h => nomore (by kernel_rfl) h, ?_⟩
                      refine WD_op rfl rfl (OpP_val (rn_pickF (v := (.bool (decide (y135.High < y133.High)))) rfl hb137 rfl) rfl ?_)
                      refine ⟨fun h => nomore (by kernel_rfl) h, ?_⟩
                      refine WD_nil ?_
                      have hO : Owns G130 w129.drew w0.heap.size ([⟨3, 1, nq41_0, .slice aq41_0 nq41_0 cq41_0, claq41_0⟩, ⟨24, 2, 1, .slice (some ⟨b32, 0, none⟩) 1 1, [.slice as125_0 ns125_0 cs125_0, .int .i64 s125.2.Limit]⟩]) := hO
                      have H := Option.some.inj H
                      subst H
                      exact ⟨_, G130, upds_self _ _ ⟨rfl, rfl, rfl, rfl, trivial⟩, Gle.refl _, hS, hO⟩
                  · rintro F w140 ⟨Fb, G141, rfl, leG141, hS, hO⟩
                    refine WC_cond rfl (fun hb142 => ?_) (fun hb142 => ?_)
                    · have H := ifT hb142 H
                      refine WC_seq ?_
                      refine WC_region ?_
                      refine WL_val (rn_assign (v := (.bool false)) rfl) rfl ?_
                      refine WL_nil ?_
                      refine WC_ret ?_
                      have H := Option.some.inj H
                      subst H
                      have hres := hqq127 _ rfl
                      subst hres
                      have H := Hoq127
                      have H : some false = some r := H
                      have H := Option.some.inj H
                      subst H
                      exact ⟨rfl, hS.below⟩
                    · have H := ifF hb142 H
                      refine WC_skip ?_
                      refine WC_region ?_
                      refine WL_val (rn_move (v := (.int .i64 s125.1)) rfl) rfl ?_
                      refine WL_val (rn_add rfl rfl) rfl ?_
                      refine WL_val (rn_assign (v := (.int .i64 (IntKind.i64.wrap (s125.1 + 1)))) rfl) rfl ?_
                      refine WL_nil ?_
                      have hO : Owns G141 w140 w0.heap.size ([⟨3, 1, nq41_0, .slice aq41_0 nq41_0 cq41_0, claq41_0⟩, ⟨24, 2, 1, .slice (some ⟨b32, 0, none⟩) 1 1, [.slice as125_0 ns125_0 cs125_0, .int .i64 s125.2.Limit]⟩]) := hO
                      have H := Option.some.inj H
                      subst H
                      refine ⟨_, rfl, ?_⟩
                      have l6_8 := leG130.trans leG141
                      exact ⟨_, G141, as125_0, ns125_0, cs125_0, upds_self _ _ ⟨rfl, rfl, rfl, trivial⟩, l6_8, hS, hO, (hs125_0.mono RTBaneFish_mono leG141)⟩
                · have H := ifF hb131 H
                  refine WC_exit rfl ?_
                  have hO : Owns G130 w129 w0.heap.size ([⟨3, 1, nq41_0, .slice aq41_0 nq41_0 cq41_0, claq41_0⟩, ⟨24, 2, 1, .slice (some ⟨b32, 0, none⟩) 1 1, [.slice as125_0 ns125_0 cs125_0, .int .i64 s125.2.Limit]⟩]) := hO
                  have H := Option.some.inj H
                  subst H
                  have hres := hqq127 _ rfl
                  subst hres
                  exact ⟨_, _, G130, as125_0, ns125_0, cs125_0, rfl, rfl, leG130, hS, hO, hs125_0⟩
            · rintro F w143 ⟨p126, Fb, G144, ap126_0, np126_0, cp126_0, rfl, rfl, leG144, hS, hO, hp126_0⟩
              refine WC_seq ?_
              refine WC_region ?_
              obtain ⟨y145, hy145, H⟩ := bnd H
              refine WL_op rfl (OpP_callV cb19 (f19_ok  hS.sat  hy145) rfl rfl (fun w146 hb => ?_))
              have hS := hS.keep hb
              have hO := hO.below hb
              refine WL_val (rn_assign (v := (.bool y145)) rfl) rfl ?_
              refine WL_nil ?_
              refine WC_ret ?_
              have H : some y145 = some r := H
              have H := Option.some.inj H
              subst H
              exact ⟨rfl, hS.below⟩
end Go.Proofs.Ytgplafckddpnkaa
