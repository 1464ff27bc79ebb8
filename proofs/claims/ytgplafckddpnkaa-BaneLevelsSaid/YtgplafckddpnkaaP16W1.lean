/-
  The walks: each Go function computes its plain function (printed by a program of ours).
-/
import Derived.Test.YtgplafckddpnkaaRd
import Derived.Test.YtgplafckddpnkaaIt
import Derived.Test.YtgplafckddpnkaaBaseL
namespace Go.Proofs.Ytgplafckddpnkaa
open Go.RowKit
set_option linter.unusedVariables false

set_option maxRecDepth 20000
set_option linter.unusedVariables false
set_option maxHeartbeats 1000000 in
theorem f17_ok {G0 : Gm} {w0 : World} (hS0 : Sat G0 w0) {x0 : TBaneWeb} {a1 : Option Addr} {n1 c1 : Nat} (h1 : RSl RTBaneFish 5 G0 a1 n1 c1 x0.Fish) {r : Bool} (H : f17 x0 = some r) :
  Calls Try.prog 17 #[.agg #[.slice a1 n1 c1, .int .i64 x0.Limit]] w0 (RetV w0 (.bool r)) := by
 have hS := Since.start hS0
 have hO : Owns G0 w0 w0.heap.size [] := Owns.nil (Nat.le_refl _)
 unfold f17 at H
 refine enter1 (N := 27) (shutV _ _) Try.func17 rfl rfl rfl rfl ?_; refine WC_seq ?_; refine WC_region ?_; refine WL_op rfl (OpP_newF (v := fun b => .pointer (some ⟨b, 0, none⟩)) (cs := [.slice a1 n1 c1, .int .i64 x0.Limit]) (e := 24) (rn_boxA rfl) hS.sat rfl (fun b2 G4 w3 hg hcb2 => ?_)); have hS := hS.grow hg; have hO := hO.grow hg
 have leG4 := hg.le
 refine WL_val (rn_assign (v := (.bool false)) rfl) rfl ?_; refine WL_nil ?_; refine WC_seq ?_; refine WC_seq ?_; refine WC_region ?_; refine WL_val (rn_assign (v := (.int .i64 0)) rfl) rfl ?_; refine WL_nil ?_; obtain ⟨q7, hq7, H⟩ := bnd H; refine WC_cut (fun F w => ∃ (p6 : Unit) (Fb : Fr), q7 = .inl p6 ∧ F = upds Fb [(1, .pointer (some ⟨b2, 0, none⟩))] ∧ w3 = w) ?_ ?_
 ·refine WC_block (WC_loop hq7 (fun s5 F w => ∃ (Fb : Fr), F = upds Fb [(1, .pointer (some ⟨b2, 0, none⟩)), (3, .int .i64 s5)] ∧ w3 = w) ?_ ?_)
  ·exact ⟨_, upds_self _ _ ⟨rfl, rfl, trivial⟩, rfl⟩
  ·rintro s5 F wl t8 ⟨Fb, rfl, rfl⟩
   intro H1 hqq7
   have Hoq7 := H; have H := H1
   unfold f17_b0 at H
   refine WC_seq ?_; refine WC_seq ?_; obtain ⟨q11, hq11, H⟩ := bnd H; refine WC_cut (fun F w => ∃ (Fb : Fr), F = upds Fb [(1, .pointer (some ⟨b2, 0, none⟩)), (3, .int .i64 s5), (12, .bool q11)] ∧ w3 = w) ?_ ?_
   ·have Hoq11 := H; have H := hq11; refine WC_region ?_; refine WL_val (rn_move (v := (.int .i64 s5)) rfl) rfl ?_; refine WL_val (rn_fld fd24_0 rfl) rfl ?_; refine WL_val (rn_load na22 rfl (hS.sat.cell (hcb2 0 _ rfl))) rfl ?_; refine WL_val (rn_len sl22 rfl rfl (h1.mono RTBaneFish_mono leG4).1) rfl ?_; refine WL_val (rn_lss rfl rfl) rfl ?_; refine WL_val (rn_move (v := (.bool (decide (s5 < (x0.Fish.length : Int))))) rfl) rfl ?_
    rcases bcases (decide (s5 < (x0.Fish.length : Int))) with hb12 | hb12
    ·have H := ifT hb12 H; refine WL_guardY rfl hb12 rfl rfl ?_; refine WL_val (rn_move (v := (.int .i64 s5)) rfl) rfl ?_; refine WL_guardY rfl hb12 rfl rfl ?_; refine WL_val (rn_lss rfl rfl) rfl ?_; refine WL_val (rn_pickT (v := (.bool (decide (s5 < 15)))) rfl hb12 rfl) rfl ?_; refine WL_nil ?_; have H := Option.some.inj H; subst H
     exact ⟨_, upds_self _ _ ⟨rfl, rfl, rfl, trivial⟩, rfl⟩
    ·have H := ifF hb12 H; refine WL_guardN rfl hb12 rfl rfl rfl ?_; refine WL_guardN rfl hb12 rfl rfl rfl ?_; refine WL_val (rn_pickF (v := (.bool false)) rfl hb12 rfl) rfl ?_; refine WL_nil ?_; have H := Option.some.inj H; subst H
     exact ⟨_, upds_self _ _ ⟨rfl, rfl, rfl, trivial⟩, rfl⟩
   ·rintro F wl ⟨Fb, rfl, rfl⟩
    refine WC_cond rfl (fun hb15 => ?_) (fun hb15 => ?_)
    ·have H := ifT hb15 H; refine WC_skip ?_; refine WC_seq ?_; refine WC_block ?_; refine WC_seq ?_; refine WC_region ?_; refine WL_val (rn_fld fd24_0 rfl) rfl ?_; refine WL_val (rn_load na22 rfl (hS.sat.cell (hcb2 0 _ rfl))) rfl ?_; refine WL_val (rn_move (v := (.int .i64 s5)) rfl) rfl ?_; obtain ⟨y16, hy16, H⟩ := bnd H; refine WL_idx sl22 (h1.mono RTBaneFish_mono leG4) hy16 rfl rfl rfl ?_
     rintro b17 o17 _ hcb17 _ ⟨a18, n18, c18, ⟨⟩, h18⟩
     refine WL_val (rn_fld fd72_1 rfl) rfl ?_; refine WL_val (rn_load na70 rfl (hS.sat.cell (hcb17 2 _ rfl))) rfl ?_; refine WL_val (rn_len sl70 rfl rfl h18.1) rfl ?_; refine WL_val (rn_gtr rfl rfl) rfl ?_; refine WL_nil ?_; refine WC_cond rfl (fun hb19 => ?_) (fun hb19 => ?_)
     ·have H := ifT hb19 H; refine WC_seq ?_; refine WC_region ?_; refine WL_val (rn_assign (v := (.bool false)) rfl) rfl ?_; refine WL_nil ?_; refine WC_ret ?_; have H := Option.some.inj H; subst H
      have hres := hqq7 _ rfl
      subst hres; have H := Hoq7
      have H : some false = some r := H
      have H := Option.some.inj H; subst H
      exact ⟨rfl, hS.below⟩
     ·have H := ifF hb19 H; refine WC_skip ?_; refine WC_region ?_; refine WL_val (rn_move (v := (.int .i64 s5)) rfl) rfl ?_; refine WL_val (rn_add rfl rfl) rfl ?_; refine WL_val (rn_assign (v := (.int .i64 (IntKind.i64.wrap (s5 + 1)))) rfl) rfl ?_; refine WL_nil ?_; have H := Option.some.inj H; subst H; refine ⟨_, rfl, ?_⟩
      exact ⟨_, upds_self _ _ ⟨rfl, rfl, trivial⟩, rfl⟩
    ·have H := ifF hb15 H; refine WC_exit rfl ?_; have H := Option.some.inj H; subst H
     have hres := hqq7 _ rfl
     subst hres
     exact ⟨_, _, rfl, upds_self _ _ ⟨rfl, trivial⟩, rfl⟩
 ·rintro F wl ⟨p6, Fb, rfl, rfl, rfl⟩
  refine WC_seq ?_; refine WC_region ?_; refine WL_val (rn_fld fd24_0 rfl) rfl ?_; refine WL_val (rn_load na22 rfl (hS.sat.cell (hcb2 0 _ rfl))) rfl ?_; refine WL_val (rn_len sl22 rfl rfl (h1.mono RTBaneFish_mono leG4).1) rfl ?_; refine WL_val (rn_leq rfl rfl) rfl ?_; refine WL_val (rn_assign (v := (.bool (decide ((x0.Fish.length : Int) ≤ 12)))) rfl) rfl ?_; refine WL_nil ?_; refine WC_ret ?_
  have H : some (decide ((x0.Fish.length : Int) ≤ 12)) = some r := H
  have H := Option.some.inj H; subst H
  exact ⟨rfl, hS.below⟩
set_option maxHeartbeats 1000000 in
theorem f66_ok {G0 : Gm} {w0 : World} (hS0 : Sat G0 w0) {x0 : Int} {x1 : Int} {x2 : Int}  {r : Bool} (H : f66 x0 x1 x2 = some r) :
  Calls Try.prog 66 #[.int .i64 x0, .int .i64 x1, .int .i64 x2] w0 (RetV w0 (.bool r)) := by
 have hS := Since.start hS0
 have hO : Owns G0 w0 w0.heap.size [] := Owns.nil (Nat.le_refl _)
 unfold f66 at H
 refine enter1 (N := 15) (shutV _ _) Try.func66 rfl rfl rfl rfl ?_; refine WC_seq ?_; refine WC_region ?_; refine WL_val (rn_assign (v := (.bool false)) rfl) rfl ?_; refine WL_nil ?_; refine WC_seq ?_; obtain ⟨q1, hq1, H⟩ := bnd H; refine WC_cut (fun F w => ∃ (Fb : Fr), F = upds Fb [(6, .bool q1)] ∧ w0 = w) ?_ ?_
 ·have Hoq1 := H; have H := hq1; refine WC_region ?_; refine WL_val (rn_move (v := (.int .i64 x0)) rfl) rfl ?_; refine WL_val (rn_move (v := (.int .i64 x1)) rfl) rfl ?_; refine WL_val (rn_geq rfl rfl) rfl ?_; refine WL_val (rn_move (v := (.bool (decide (x1 ≤ x0)))) rfl) rfl ?_
  rcases bcases (decide (x1 ≤ x0)) with hb2 | hb2
  ·have H := ifT hb2 H; refine WL_guardY rfl hb2 rfl rfl ?_; refine WL_val (rn_move (v := (.int .i64 x0)) rfl) rfl ?_; refine WL_guardY rfl hb2 rfl rfl ?_; refine WL_val (rn_move (v := (.int .i64 x2)) rfl) rfl ?_; refine WL_guardY rfl hb2 rfl rfl ?_; refine WL_val (rn_leq rfl rfl) rfl ?_; refine WL_val (rn_pickT (v := (.bool (decide (x0 ≤ x2)))) rfl hb2 rfl) rfl ?_; refine WL_val (rn_assign (v := (.bool (decide (x0 ≤ x2)))) rfl) rfl ?_; refine WL_nil ?_; have H := Option.some.inj H; subst H
   exact ⟨_, upds_self _ _ ⟨rfl, trivial⟩, rfl⟩
  ·have H := ifF hb2 H; refine WL_guardN rfl hb2 rfl rfl rfl ?_; refine WL_guardN rfl hb2 rfl rfl rfl ?_; refine WL_guardN rfl hb2 rfl rfl rfl ?_; refine WL_val (rn_pickF (v := (.bool false)) rfl hb2 rfl) rfl ?_; refine WL_val (rn_assign (v := (.bool false)) rfl) rfl ?_; refine WL_nil ?_; have H := Option.some.inj H; subst H
   exact ⟨_, upds_self _ _ ⟨rfl, trivial⟩, rfl⟩
 ·rintro F wl ⟨Fb, rfl, rfl⟩
  refine WC_ret ?_
  have H : some q1 = some r := H
  have H := Option.some.inj H; subst H
  exact ⟨rfl, hS.below⟩
set_option maxHeartbeats 1000000 in
theorem f99_ok {G0 : Gm} {w0 : World} (hS0 : Sat G0 w0) {x0 : (List Int)} {a1 : Option Addr} {n1 c1 : Nat} {x1 : Int} (h1 : RSl RInt 1 G0 a1 n1 c1 x0) {r : Int} (H : f99 x0 x1 = some r) :
  Calls Try.prog 99 #[.slice a1 n1 c1, .int .i64 x1] w0 (RetV w0 (.int .i64 r)) := by
 have hS := Since.start hS0
 have hO : Owns G0 w0 w0.heap.size [] := Owns.nil (Nat.le_refl _)
 unfold f99 at H
 refine enter1 (N := 19) (shutV _ _) Try.func99 rfl rfl rfl rfl ?_; refine WC_seq ?_; refine WC_region ?_; refine WL_val (rn_assign (v := (.int .i64 0)) rfl) rfl ?_; refine WL_nil ?_; refine WC_seq ?_; refine WC_seq ?_; refine WC_region ?_; refine WL_val (rn_move (v := (.slice a1 n1 c1)) rfl) rfl ?_; refine WL_val (rn_len sl25 rfl rfl h1.1) rfl ?_; refine WL_val (rn_move (v := (.int .i64 0)) rfl) rfl ?_; refine WL_nil ?_; obtain ⟨q4, hq4, H⟩ := bnd H; refine WC_cut (fun F w => ∃ (p3 : Unit) (Fb : Fr), q4 = .inl p3 ∧ F = upds Fb [] ∧ w0 = w) ?_ ?_
 ·refine WC_block (WC_loop hq4 (fun s2 F w => ∃ (Fb : Fr), F = upds Fb [(0, .slice a1 n1 c1), (1, .int .i64 x1), (7, .int .i64 (x0.length : Int)), (8, .int .i64 s2)] ∧ w0 = w) ?_ ?_)
  ·exact ⟨_, upds_self _ _ ⟨rfl, rfl, rfl, rfl, trivial⟩, rfl⟩
  ·rintro s2 F wl t5 ⟨Fb, rfl, rfl⟩
   intro H1 hqq4
   have Hoq4 := H; have H := H1
   unfold f99_b0 at H
   refine WC_seq ?_; refine WC_region ?_; refine WL_val (rn_lss rfl rfl) rfl ?_; refine WL_nil ?_; refine WC_seq ?_; refine WC_cond rfl (fun hb8 => ?_) (fun hb8 => ?_)
   ·have H := ifT hb8 H; refine WC_skip ?_; refine WC_seq ?_; refine WC_block ?_; refine WC_seq ?_; refine WC_region ?_; refine WL_val (rn_move (v := (.int .i64 s2)) rfl) rfl ?_; refine WL_val (rn_assign (v := (.int .i64 s2)) rfl) rfl ?_; refine WL_nil ?_; refine WC_seq ?_; refine WC_region ?_; refine WL_val (rn_move (v := (.int .i64 x1)) rfl) rfl ?_; refine WL_val (rn_move (v := (.slice a1 n1 c1)) rfl) rfl ?_; refine WL_val (rn_move (v := (.int .i64 s2)) rfl) rfl ?_; obtain ⟨y9, hy9, H⟩ := bnd H; refine WL_idx sl25 h1 hy9 rfl rfl rfl ?_
    rintro b10 o10 _ hcb10 _ ⟨⟩
    refine WL_val (rn_load na3 rfl (hS.sat.cell (hcb10 0 _ rfl))) rfl ?_; refine WL_val (rn_eql rfl rfl) rfl ?_; refine WL_nil ?_; refine WC_cond rfl (fun hb11 => ?_) (fun hb11 => ?_)
    ·have H := ifT hb11 H; refine WC_seq ?_; refine WC_region ?_; refine WL_val (rn_move (v := (.int .i64 s2)) rfl) rfl ?_; refine WL_val (rn_assign (v := (.int .i64 s2)) rfl) rfl ?_; refine WL_nil ?_; refine WC_ret ?_; have H := Option.some.inj H; subst H
     have hres := hqq4 _ rfl
     subst hres; have H := Hoq4
     have H : some s2 = some r := H
     have H := Option.some.inj H; subst H
     exact ⟨rfl, hS.below⟩
    ·have H := ifF hb11 H; refine WC_skip ?_; refine WC_region ?_; refine WL_val (rn_add rfl rfl) rfl ?_; refine WL_val (rn_move (v := (.int .i64 (IntKind.i64.wrap (s2 + 1)))) rfl) rfl ?_; refine WL_nil ?_; have H := Option.some.inj H; subst H; refine ⟨_, rfl, ?_⟩
     exact ⟨_, upds_self _ _ ⟨rfl, rfl, rfl, rfl, trivial⟩, rfl⟩
   ·have H := ifF hb8 H; refine WC_exit rfl ?_; have H := Option.some.inj H; subst H
    have hres := hqq4 _ rfl
    subst hres
    exact ⟨_, _, rfl, rfl, rfl⟩
 ·rintro F wl ⟨p3, Fb, rfl, rfl, rfl⟩
  refine WC_seq ?_; refine WC_region ?_; refine WL_val (rn_assign (v := (.int .i64 (-1))) rfl) rfl ?_; refine WL_nil ?_; refine WC_ret ?_
  have H : some (-1) = some r := H
  have H := Option.some.inj H; subst H
  exact ⟨rfl, hS.below⟩
set_option maxHeartbeats 1000000 in
theorem f74_ok {G0 : Gm} {w0 : World} (hS0 : Sat G0 w0) {x0 : (List Int)} {a1 : Option Addr} {n1 c1 : Nat} {x1 : Int} (h1 : RSl RInt 1 G0 a1 n1 c1 x0) {r : Bool} (H : f74 x0 x1 = some r) :
  Calls Try.prog 74 #[.slice a1 n1 c1, .int .i64 x1] w0 (RetV w0 (.bool r)) := by
 have hS := Since.start hS0
 have hO : Owns G0 w0 w0.heap.size [] := Owns.nil (Nat.le_refl _)
 unfold f74 at H
 refine enter1 (N := 9) (shutV _ _) Try.func74 rfl rfl rfl rfl ?_; refine WC_seq ?_; refine WC_region ?_; refine WL_val (rn_assign (v := (.bool false)) rfl) rfl ?_; refine WL_nil ?_; refine WC_seq ?_; refine WC_region ?_; refine WL_val (rn_move (v := (.slice a1 n1 c1)) rfl) rfl ?_; refine WL_val (rn_move (v := (.int .i64 x1)) rfl) rfl ?_; obtain ⟨y2, hy2, H⟩ := bnd H; refine WL_op rfl (OpP_callV cb99 (f99_ok (x0 := x0) (x1 := x1) hS.sat h1 hy2) rfl rfl (fun w3 hb => ?_)); have hS := hS.keep hb; have hO := hO.below hb; refine WL_val (rn_geq rfl rfl) rfl ?_; refine WL_val (rn_assign (v := (.bool (decide (0 ≤ y2)))) rfl) rfl ?_; refine WL_nil ?_; refine WC_ret ?_
 have H : some (decide (0 ≤ y2)) = some r := H
 have H := Option.some.inj H; subst H
 exact ⟨rfl, hS.below⟩
set_option maxHeartbeats 1000000 in
theorem f95_ok {G0 : Gm} {w0 : World} (hS0 : Sat G0 w0) {x0 : TSpan} {x1 : Int}  {r : Bool} (H : f95 x0 x1 = some r) :
  Calls Try.prog 95 #[.agg #[.int .i64 x0.Low, .int .i64 x0.High], .int .i64 x1] w0 (RetV w0 (.bool r)) := by
 have hS := Since.start hS0
 have hO : Owns G0 w0 w0.heap.size [] := Owns.nil (Nat.le_refl _)
 unfold f95 at H
 refine enter1 (N := 21) (shutV _ _) Try.func95 rfl rfl rfl rfl ?_; refine WC_seq ?_; refine WC_region ?_; refine WL_op rfl (OpP_newF (v := fun b => .pointer (some ⟨b, 0, none⟩)) (cs := [.int .i64 x0.Low, .int .i64 x0.High]) (e := 43) (rn_boxA rfl) hS.sat rfl (fun b1 G3 w2 hg hcb1 => ?_)); have hS := hS.grow hg; have hO := hO.grow hg
 have leG3 := hg.le
 refine WL_val (rn_assign (v := (.bool false)) rfl) rfl ?_; refine WL_nil ?_; refine WC_seq ?_; obtain ⟨q4, hq4, H⟩ := bnd H; refine WC_cut (fun F w => ∃ (Fb : Fr), F = upds Fb [(4, .bool q4)] ∧ w2 = w) ?_ ?_
 ·have Hoq4 := H; have H := hq4; refine WC_region ?_; refine WL_val (rn_fld fd43_0 rfl) rfl ?_; refine WL_val (rn_load na3 rfl (hS.sat.cell (hcb1 0 _ rfl))) rfl ?_; refine WL_val (rn_geq rfl rfl) rfl ?_; refine WL_val (rn_move (v := (.bool (decide (0 ≤ x0.Low)))) rfl) rfl ?_
  rcases bcases (decide (0 ≤ x0.Low)) with hb5 | hb5
  ·have H := ifT hb5 H; refine WL_guardY rfl hb5 rfl rfl ?_; refine WL_val (rn_fld fd43_0 rfl) rfl ?_; refine WL_guardY rfl hb5 rfl rfl ?_; refine WL_val (rn_load na3 rfl (hS.sat.cell (hcb1 0 _ rfl))) rfl ?_; refine WL_guardY rfl hb5 rfl rfl ?_; refine WL_val (rn_fld fd43_1 rfl) rfl ?_; refine WL_guardY rfl hb5 rfl rfl ?_; refine WL_val (rn_load na3 rfl (hS.sat.cell (hcb1 1 _ rfl))) rfl ?_; refine WL_guardY rfl hb5 rfl rfl ?_; refine WL_val (rn_leq rfl rfl) rfl ?_; refine WL_val (rn_pickT (v := (.bool (decide (x0.Low ≤ x0.High)))) rfl hb5 rfl) rfl ?_; refine WL_val (rn_move (v := (.bool (decide (x0.Low ≤ x0.High)))) rfl) rfl ?_
   rcases bcases (decide (x0.Low ≤ x0.High)) with hb6 | hb6
   ·have H := ifT hb6 H; refine WL_guardY rfl hb6 rfl rfl ?_; refine WL_val (rn_fld fd43_1 rfl) rfl ?_; refine WL_guardY rfl hb6 rfl rfl ?_; refine WL_val (rn_load na3 rfl (hS.sat.cell (hcb1 1 _ rfl))) rfl ?_; refine WL_guardY rfl hb6 rfl rfl ?_; refine WL_val (rn_move (v := (.int .i64 x1)) rfl) rfl ?_; refine WL_guardY rfl hb6 rfl rfl ?_; refine WL_val (rn_leq rfl rfl) rfl ?_; refine WL_val (rn_pickT (v := (.bool (decide (x0.High ≤ x1)))) rfl hb6 rfl) rfl ?_; refine WL_val (rn_assign (v := (.bool (decide (x0.High ≤ x1)))) rfl) rfl ?_; refine WL_nil ?_; have H := Option.some.inj H; subst H
    exact ⟨_, upds_self _ _ ⟨rfl, trivial⟩, rfl⟩
   ·have H := ifF hb6 H; refine WL_guardN rfl hb6 rfl rfl rfl ?_; refine WL_guardN rfl hb6 rfl rfl rfl ?_; refine WL_guardN rfl hb6 rfl rfl rfl ?_; refine WL_guardN rfl hb6 rfl rfl rfl ?_; refine WL_val (rn_pickF (v := (.bool false)) rfl hb6 rfl) rfl ?_; refine WL_val (rn_assign (v := (.bool false)) rfl) rfl ?_; refine WL_nil ?_; have H := Option.some.inj H; subst H
    exact ⟨_, upds_self _ _ ⟨rfl, trivial⟩, rfl⟩
  ·have H := ifF hb5 H; refine WL_guardN rfl hb5 rfl rfl rfl ?_; refine WL_guardN rfl hb5 rfl rfl rfl ?_; refine WL_guardN rfl hb5 rfl rfl rfl ?_; refine WL_guardN rfl hb5 rfl rfl rfl ?_; refine WL_guardN rfl hb5 rfl rfl rfl ?_; refine WL_val (rn_pickF (v := (.bool false)) rfl hb5 rfl) rfl ?_; refine WL_val (rn_move (v := (.bool false)) rfl) rfl ?_; refine WL_guardN rfl rfl rfl rfl rfl ?_; refine WL_guardN rfl rfl rfl rfl rfl ?_; refine WL_guardN rfl rfl rfl rfl rfl ?_; refine WL_guardN rfl rfl rfl rfl rfl ?_; refine WL_val (rn_pickF (v := (.bool false)) rfl rfl rfl) rfl ?_; refine WL_val (rn_assign (v := (.bool false)) rfl) rfl ?_; refine WL_nil ?_; have H := Option.some.inj H; subst H
   exact ⟨_, upds_self _ _ ⟨rfl, trivial⟩, rfl⟩
 ·rintro F wl ⟨Fb, rfl, rfl⟩
  refine WC_ret ?_
  have H : some q4 = some r := H
  have H := Option.some.inj H; subst H
  exact ⟨rfl, hS.below⟩
set_option maxHeartbeats 1000000 in
theorem f65_ok {G0 : Gm} {w0 : World} (hS0 : Sat G0 w0) {x0 : TBaneWeb} {a1 : Option Addr} {n1 c1 : Nat} (h1 : RSl RTBaneFish 5 G0 a1 n1 c1 x0.Fish) {r : Bool} (H : f65 x0 = some r) :
  Calls Try.prog 65 #[.agg #[.slice a1 n1 c1, .int .i64 x0.Limit]] w0 (RetV w0 (.bool r)) := by
 have hS := Since.start hS0
 have hO : Owns G0 w0 w0.heap.size [] := Owns.nil (Nat.le_refl _)
 unfold f65 at H
 refine enter1 (N := 79) (shutV _ _) Try.func65 rfl rfl rfl rfl ?_; refine WC_seq ?_; refine WC_region ?_; refine WL_op rfl (OpP_newF (v := fun b => .pointer (some ⟨b, 0, none⟩)) (cs := [.slice a1 n1 c1, .int .i64 x0.Limit]) (e := 24) (rn_boxA rfl) hS.sat rfl (fun b2 G4 w3 hg hcb2 => ?_)); have hS := hS.grow hg; have hO := hO.grow hg
 have leG4 := hg.le
 refine WL_val (rn_assign (v := (.bool false)) rfl) rfl ?_; refine WL_nil ?_; refine WC_seq ?_; refine WC_seq ?_; refine WC_region ?_; refine WL_val (rn_fld fd24_0 rfl) rfl ?_; refine WL_val (rn_load na22 rfl (hS.sat.cell (hcb2 0 _ rfl))) rfl ?_; refine WL_val (rn_len sl22 rfl rfl (h1.mono RTBaneFish_mono leG4).1) rfl ?_; refine WL_val (rn_move (v := (.int .i64 0)) rfl) rfl ?_; refine WL_nil ?_; obtain ⟨q7, hq7, H⟩ := bnd H; refine WC_cut (fun F w => ∃ (p6 : Unit) (Fb : Fr) (G : Gm), q7 = .inl p6 ∧ F = upds Fb [(1, .pointer (some ⟨b2, 0, none⟩))] ∧ Gle G4 G ∧ Since w0.heap.size G0 w0 G w ∧ Owns G w w0.heap.size []) ?_ ?_
 ·refine WC_block (WC_loop hq7 (fun s5 F w => ∃ (Fb : Fr) (G : Gm), F = upds Fb [(1, .pointer (some ⟨b2, 0, none⟩)), (9, .slice a1 n1 c1), (10, .int .i64 (x0.Fish.length : Int)), (11, .int .i64 s5)] ∧ Gle G4 G ∧ Since w0.heap.size G0 w0 G w ∧ Owns G w w0.heap.size []) ?_ ?_)
  ·have hO : Owns G4 w3 w0.heap.size ([]) := hO
   exact ⟨_, G4, upds_self _ _ ⟨rfl, rfl, rfl, rfl, trivial⟩, Gle.refl _, hS, hO⟩
  ·rintro s5 F w9 t8 ⟨Fb, G10, rfl, leG10, hS, hO⟩
   intro H1 hqq7
   have Hoq7 := H; have H := H1
   unfold f65_b0 at H
   refine WC_seq ?_; refine WC_region ?_; refine WL_val (rn_lss rfl rfl) rfl ?_; refine WL_nil ?_; refine WC_seq ?_; refine WC_cond rfl (fun hb11 => ?_) (fun hb11 => ?_)
   ·have H := ifT hb11 H; refine WC_skip ?_; refine WC_seq ?_; refine WC_block ?_; refine WC_seq ?_; refine WC_region ?_; refine WL_val (rn_move (v := (.int .i64 s5)) rfl) rfl ?_; obtain ⟨y12, hy12, H⟩ := bnd H
    have l0_2 := leG4.trans leG10
    refine WL_idx sl22 (h1.mono RTBaneFish_mono l0_2) hy12 rfl rfl rfl ?_
    rintro b13 o13 _ hcb13 _ ⟨a14, n14, c14, ⟨⟩, h14⟩
    refine WL_val (rn_loadA ag72 (cs := [.int .i64 y12.Base.Low, .int .i64 y12.Base.High, .slice a14 n14 c14, .int .i64 y12.Pass, .int .i64 y12.Cost]) rfl rfl (fun j v hj => hS.sat.cell (hcb13.drop_take 0 5 j v hj))) rfl ?_
    refine WL_op rfl (OpP_newO (v := fun b => .pointer (some ⟨b, 0, none⟩)) (cs := [.int .i64 0, .int .i64 0, .slice none 0 0, .int .i64 0, .int .i64 0]) (e := 72) (by kernel_rfl) hS.sat hO rfl 5 1 rfl (by decide) (fun b15 w16 hb hO => ?_))
    have hS := hS.keep hb; refine WL_val (rn_assign (v := (.int .i64 s5)) rfl) rfl ?_; refine WL_op rfl (OpP_store (vs := [.int .i64 y12.Base.Low, .int .i64 y12.Base.High, .slice a14 n14 c14, .int .i64 y12.Pass, .int .i64 y12.Cost]) sz72 hS hO (k := 0) rfl rfl rfl rfl rfl (one_all rfl) (Nat.le_of_ble_eq_true rfl) (fun w18 hS hO => ?_))
    have hO : Owns G10 w18 w0.heap.size ([⟨72, 5, 1, .slice (some ⟨b15, 0, none⟩) 1 1, [.int .i64 y12.Base.Low, .int .i64 y12.Base.High, .slice a14 n14 c14, .int .i64 y12.Pass, .int .i64 y12.Cost]⟩]) := hO
    obtain ⟨G19, leG19, hS, hO, hqG19, _⟩ := hO.freeze hS (k := 0) rfl
    have hcG19 : Cells G19 b15 0 [.int .i64 y12.Base.Low, .int .i64 y12.Base.High, .slice a14 n14 c14, .int .i64 y12.Pass, .int .i64 y12.Cost] := (hqG19 _ _ _ _ rfl)
    refine WL_nil ?_; refine WC_seq ?_; refine WC_seq ?_; obtain ⟨q20, hq20, H⟩ := bnd H; refine WC_cut (fun F w => ∃ (Fb : Fr) (G : Gm), F = upds Fb [(1, .pointer (some ⟨b2, 0, none⟩)), (3, .int .i64 s5), (4, .pointer (some ⟨b15, 0, none⟩)), (9, .slice a1 n1 c1), (10, .int .i64 (x0.Fish.length : Int)), (11, .int .i64 s5), (37, .bool q20)] ∧ Gle G19 G ∧ Since w0.heap.size G0 w0 G w ∧ Owns G w w0.heap.size []) ?_ ?_
    ·have Hoq20 := H; have H := hq20; refine WC_region ?_; refine WL_val (rn_fld fd72_0 rfl) rfl ?_; refine WL_val (rn_loadA ag43 (cs := [.int .i64 y12.Base.Low, .int .i64 y12.Base.High]) rfl rfl (fun j v hj => hS.sat.cell (hcG19.drop_take 0 2 j v hj))) rfl ?_; obtain ⟨y21, hy21, H⟩ := bnd H; refine WL_op rfl (OpP_callV cb95 (f95_ok (x0 := y12.Base) (x1 := 1000000) hS.sat  hy21) rfl rfl (fun w22 hb => ?_)); have hS := hS.keep hb; have hO := hO.below hb; refine WL_val (rn_not rfl) rfl ?_; refine WL_val (rn_move (v := (.bool (!y21))) rfl) rfl ?_
     rcases bcases (!y21) with hb23 | hb23
     ·have H := ifT hb23 H; refine WL_guardN rfl hb23 rfl rfl rfl ?_; refine WL_guardN rfl hb23 rfl rfl rfl ?_; refine WL_guardN rfl hb23 rfl rfl rfl ?_; refine WL_guardN rfl hb23 rfl rfl rfl ?_; refine WL_val (rn_pickT (v := (.bool true)) rfl hb23 rfl) rfl ?_; refine WL_val (rn_move (v := (.bool true)) rfl) rfl ?_; refine WL_guardN rfl rfl rfl rfl rfl ?_; refine WL_guardN rfl rfl rfl rfl rfl ?_; refine WL_guardN rfl rfl rfl rfl rfl ?_; refine WL_guardN rfl rfl rfl rfl rfl ?_; refine WL_val (rn_pickT (v := (.bool true)) rfl rfl rfl) rfl ?_; refine WL_val (rn_move (v := (.bool true)) rfl) rfl ?_; refine WL_guardN rfl rfl rfl rfl rfl ?_; refine WL_guardN rfl rfl rfl rfl rfl ?_; refine WL_guardN rfl rfl rfl rfl rfl ?_; refine WL_guardN rfl rfl rfl rfl rfl ?_; refine WL_val (rn_pickT (v := (.bool true)) rfl rfl rfl) rfl ?_; refine WL_nil ?_
      have hO : Owns G19 w22 w0.heap.size ([]) := hO
      have H := Option.some.inj H; subst H
      exact ⟨_, G19, upds_self _ _ ⟨rfl, rfl, rfl, rfl, rfl, rfl, rfl, trivial⟩, Gle.refl _, hS, hO⟩
     ·have H := ifF hb23 H; refine WL_guardY rfl hb23 rfl rfl ?_; refine WL_val (rn_fld fd72_1 rfl) rfl ?_; refine WL_guardY rfl hb23 rfl rfl ?_; refine WL_val (rn_load na70 rfl (hS.sat.cell (hcG19 2 _ rfl))) rfl ?_; refine WL_guardY rfl hb23 rfl rfl ?_; refine WL_val (rn_len sl70 rfl rfl (h14.mono RTBaneBite_mono leG19).1) rfl ?_; refine WL_guardY rfl hb23 rfl rfl ?_; refine WL_val (rn_gtr rfl rfl) rfl ?_; refine WL_val (rn_pickF (v := (.bool (decide (6 < (y12.Bites.length : Int))))) rfl hb23 rfl) rfl ?_; refine WL_val (rn_move (v := (.bool (decide (6 < (y12.Bites.length : Int))))) rfl) rfl ?_
      rcases bcases (decide (6 < (y12.Bites.length : Int))) with hb24 | hb24
      ·have H := ifT hb24 H; refine WL_guardN rfl hb24 rfl rfl rfl ?_; refine WL_guardN rfl hb24 rfl rfl rfl ?_; refine WL_guardN rfl hb24 rfl rfl rfl ?_; refine WL_guardN rfl hb24 rfl rfl rfl ?_; refine WL_val (rn_pickT (v := (.bool true)) rfl hb24 rfl) rfl ?_; refine WL_val (rn_move (v := (.bool true)) rfl) rfl ?_; refine WL_guardN rfl rfl rfl rfl rfl ?_; refine WL_guardN rfl rfl rfl rfl rfl ?_; refine WL_guardN rfl rfl rfl rfl rfl ?_; refine WL_guardN rfl rfl rfl rfl rfl ?_; refine WL_val (rn_pickT (v := (.bool true)) rfl rfl rfl) rfl ?_; refine WL_nil ?_
       have hO : Owns G19 w22 w0.heap.size ([]) := hO
       have H := Option.some.inj H; subst H
       exact ⟨_, G19, upds_self _ _ ⟨rfl, rfl, rfl, rfl, rfl, rfl, rfl, trivial⟩, Gle.refl _, hS, hO⟩
      ·have H := ifF hb24 H; refine WL_guardY rfl hb24 rfl rfl ?_; refine WL_val (rn_fld fd72_2 rfl) rfl ?_; refine WL_guardY rfl hb24 rfl rfl ?_; refine WL_val (rn_load na3 rfl (hS.sat.cell (hcG19 3 _ rfl))) rfl ?_; refine WL_guardY rfl hb24 rfl rfl ?_; obtain ⟨y25, hy25, H⟩ := bnd H; refine WL_op rfl (OpP_callV cb66 (f66_ok (x0 := y12.Pass) (x1 := 0) (x2 := 1000000) hS.sat  hy25) rfl rfl (fun w26 hb => ?_)); have hS := hS.keep hb; have hO := hO.below hb; refine WL_guardY rfl hb24 rfl rfl ?_; refine WL_val (rn_not rfl) rfl ?_; refine WL_val (rn_pickF (v := (.bool (!y25))) rfl hb24 rfl) rfl ?_; refine WL_val (rn_move (v := (.bool (!y25))) rfl) rfl ?_
       rcases bcases (!y25) with hb27 | hb27
       ·have H := ifT hb27 H; refine WL_guardN rfl hb27 rfl rfl rfl ?_; refine WL_guardN rfl hb27 rfl rfl rfl ?_; refine WL_guardN rfl hb27 rfl rfl rfl ?_; refine WL_guardN rfl hb27 rfl rfl rfl ?_; refine WL_val (rn_pickT (v := (.bool true)) rfl hb27 rfl) rfl ?_; refine WL_nil ?_
        have hO : Owns G19 w26 w0.heap.size ([]) := hO
        have H := Option.some.inj H; subst H
        exact ⟨_, G19, upds_self _ _ ⟨rfl, rfl, rfl, rfl, rfl, rfl, rfl, trivial⟩, Gle.refl _, hS, hO⟩
       ·have H := ifF hb27 H; refine WL_guardY rfl hb27 rfl rfl ?_; refine WL_val (rn_fld fd72_3 rfl) rfl ?_; refine WL_guardY rfl hb27 rfl rfl ?_; refine WL_val (rn_load na3 rfl (hS.sat.cell (hcG19 4 _ rfl))) rfl ?_; refine WL_guardY rfl hb27 rfl rfl ?_; obtain ⟨y28, hy28, H⟩ := bnd H; refine WL_op rfl (OpP_callV cb66 (f66_ok (x0 := y12.Cost) (x1 := 0) (x2 := 1000000) hS.sat  hy28) rfl rfl (fun w29 hb => ?_)); have hS := hS.keep hb; have hO := hO.below hb; refine WL_guardY rfl hb27 rfl rfl ?_; refine WL_val (rn_not rfl) rfl ?_; refine WL_val (rn_pickF (v := (.bool (!y28))) rfl hb27 rfl) rfl ?_; refine WL_nil ?_
        have hO : Owns G19 w29 w0.heap.size ([]) := hO
        have H := Option.some.inj H; subst H
        exact ⟨_, G19, upds_self _ _ ⟨rfl, rfl, rfl, rfl, rfl, rfl, rfl, trivial⟩, Gle.refl _, hS, hO⟩
    ·rintro F w30 ⟨Fb, G31, rfl, leG31, hS, hO⟩
     refine WC_cond rfl (fun hb32 => ?_) (fun hb32 => ?_)
     ·have H := ifT hb32 H; refine WC_seq ?_; refine WC_region ?_; refine WL_val (rn_assign (v := (.bool false)) rfl) rfl ?_; refine WL_nil ?_; refine WC_ret ?_; have H := Option.some.inj H; subst H
      have hres := hqq7 _ rfl
      subst hres; have H := Hoq7
      have H : some false = some r := H
      have H := Option.some.inj H; subst H
      exact ⟨rfl, hS.below⟩
     ·have H := ifF hb32 H; refine WC_skip ?_; refine WC_seq ?_; refine WC_region ?_; refine WL_val (rn_assign (v := (.slice none 0 0)) rfl) rfl ?_; refine WL_nil ?_; refine WC_seq ?_; refine WC_region ?_; refine WL_val (rn_fld fd72_1 rfl) rfl ?_; refine WL_val (rn_load na70 rfl ((hS.sat.le leG31).cell (hcG19 2 _ rfl))) rfl ?_
      have l2_4 := leG19.trans leG31
      refine WL_val (rn_len sl70 rfl rfl (h14.mono RTBaneBite_mono l2_4).1) rfl ?_; refine WL_val (rn_move (v := (.int .i64 0)) rfl) rfl ?_; refine WL_nil ?_; have hO := hO.cons_nil 3 1; obtain ⟨q36, hq36, H⟩ := bnd H; refine WC_cut (fun F w => ∃ (p35 : Unit) (Fb : Fr) (G : Gm), q36 = .inl p35 ∧ F = upds Fb [(1, .pointer (some ⟨b2, 0, none⟩)), (9, .slice a1 n1 c1), (10, .int .i64 (x0.Fish.length : Int)), (11, .int .i64 s5)] ∧ Gle G31 G ∧ Since w0.heap.size G0 w0 G w ∧ Owns G w w0.heap.size []) ?_ ?_
      ·refine WC_block (WC_loop hq36 (fun s34 F w => ∃ (Fb : Fr) (G : Gm) (as34_0 : Option Addr) (ns34_0 cs34_0 : Nat) (clas34_0 : List Value), F = upds Fb [(1, .pointer (some ⟨b2, 0, none⟩)), (3, .int .i64 s5), (5, .slice as34_0 ns34_0 cs34_0), (9, .slice a1 n1 c1), (10, .int .i64 (x0.Fish.length : Int)), (11, .int .i64 s5), (39, .slice a14 n14 c14), (40, .int .i64 (y12.Bites.length : Int)), (41, .int .i64 s34.2)] ∧ Gle G31 G ∧ Since w0.heap.size G0 w0 G w ∧ Owns G w w0.heap.size [⟨3, 1, ns34_0, .slice as34_0 ns34_0 cs34_0, clas34_0⟩] ∧ ns34_0 = s34.1.length ∧ Rd RInt 1 G clas34_0 s34.1) ?_ ?_)
       ·have hO : Owns G31 w30 w0.heap.size ([⟨3, 1, 0, .slice none 0 0, []⟩]) := hO
        exact ⟨_, G31, none, 0, 0, [], upds_self _ _ ⟨rfl, rfl, rfl, rfl, rfl, rfl, rfl, rfl, rfl, trivial⟩, Gle.refl _, hS, hO, rfl, (Rd.nil RInt 1 G31)⟩
       ·rintro s34 F w38 t37 ⟨Fb, G39, as34_0, ns34_0, cs34_0, clas34_0, rfl, leG39, hS, hO, hnhs34_0, hs34_0⟩
        intro H1 hqq36
        have Hoq36 := H; have H := H1
        unfold f65_b1 at H
        refine WC_seq ?_; refine WC_region ?_; refine WL_val (rn_lss rfl rfl) rfl ?_; refine WL_nil ?_; refine WC_seq ?_; refine WC_cond rfl (fun hb40 => ?_) (fun hb40 => ?_)
        ·have H := ifT hb40 H; refine WC_skip ?_; refine WC_seq ?_; refine WC_block ?_; refine WC_seq ?_; refine WC_region ?_; obtain ⟨y41, hy41, H⟩ := bnd H
         have l2_5 := l2_4.trans leG39
         refine WL_idx sl70 (h14.mono RTBaneBite_mono l2_5) hy41 rfl rfl rfl ?_
         rintro b42 o42 _ hcb42 _ ⟨⟩
         refine WL_val (rn_loadA ag77 (cs := [.int .i64 y41.Prey, .int .i64 y41.Share.Low, .int .i64 y41.Share.High]) rfl rfl (fun j v hj => hS.sat.cell (hcb42.drop_take 0 3 j v hj))) rfl ?_
         refine WL_op rfl (OpP_newO (v := fun b => .pointer (some ⟨b, 0, none⟩)) (cs := [.int .i64 0, .int .i64 0, .int .i64 0]) (e := 77) (by kernel_rfl) hS.sat hO rfl 3 1 rfl (by decide) (fun b43 w44 hb hO => ?_))
         have hS := hS.keep hb; refine WL_op rfl (OpP_store (vs := [.int .i64 y41.Prey, .int .i64 y41.Share.Low, .int .i64 y41.Share.High]) sz77 hS hO (k := 0) rfl rfl rfl rfl rfl (one_all rfl) (Nat.le_of_ble_eq_true rfl) (fun w46 hS hO => ?_))
         have hO : Owns G39 w46 w0.heap.size ([⟨77, 3, 1, .slice (some ⟨b43, 0, none⟩) 1 1, [.int .i64 y41.Prey, .int .i64 y41.Share.Low, .int .i64 y41.Share.High]⟩, ⟨3, 1, ns34_0, .slice as34_0 ns34_0 cs34_0, clas34_0⟩]) := hO
         obtain ⟨G47, leG47, hS, hO, hqG47, _⟩ := hO.freeze hS (k := 0) rfl
         have hcG47 : Cells G47 b43 0 [.int .i64 y41.Prey, .int .i64 y41.Share.Low, .int .i64 y41.Share.High] := (hqG47 _ _ _ _ rfl)
         refine WL_nil ?_; refine WC_seq ?_; refine WC_seq ?_; obtain ⟨q48, hq48, H⟩ := bnd H; refine WC_cut (fun F w => ∃ (Fb : Fr) (G : Gm), F = upds Fb [(1, .pointer (some ⟨b2, 0, none⟩)), (3, .int .i64 s5), (5, .slice as34_0 ns34_0 cs34_0), (7, .pointer (some ⟨b43, 0, none⟩)), (9, .slice a1 n1 c1), (10, .int .i64 (x0.Fish.length : Int)), (11, .int .i64 s5), (39, .slice a14 n14 c14), (40, .int .i64 (y12.Bites.length : Int)), (41, .int .i64 s34.2), (62, .bool q48)] ∧ Gle G47 G ∧ Since w0.heap.size G0 w0 G w ∧ Owns G w w0.heap.size [⟨3, 1, ns34_0, .slice as34_0 ns34_0 cs34_0, clas34_0⟩]) ?_ ?_
         ·have Hoq48 := H; have H := hq48; refine WC_region ?_; refine WL_val (rn_fld fd77_0 rfl) rfl ?_; refine WL_val (rn_load na3 rfl (hS.sat.cell (hcG47 0 _ rfl))) rfl ?_; refine WL_val (rn_move (v := (.int .i64 s5)) rfl) rfl ?_; refine WL_val (rn_sub rfl rfl) rfl ?_; obtain ⟨y49, hy49, H⟩ := bnd H; refine WL_op rfl (OpP_callV cb66 (f66_ok (x0 := y41.Prey) (x1 := 0) (x2 := IntKind.i64.wrap (s5 - 1)) hS.sat  hy49) rfl rfl (fun w50 hb => ?_)); have hS := hS.keep hb; have hO := hO.below hb; refine WL_val (rn_not rfl) rfl ?_; refine WL_val (rn_move (v := (.bool (!y49))) rfl) rfl ?_
          rcases bcases (!y49) with hb51 | hb51
          ·have H := ifT hb51 H; refine WL_guardN rfl hb51 rfl rfl rfl ?_; refine WL_guardN rfl hb51 rfl rfl rfl ?_; refine WL_guardN rfl hb51 rfl rfl rfl ?_; refine WL_guardN rfl hb51 rfl rfl rfl ?_; refine WL_val (rn_pickT (v := (.bool true)) rfl hb51 rfl) rfl ?_; refine WL_val (rn_move (v := (.bool true)) rfl) rfl ?_; refine WL_guardN rfl rfl rfl rfl rfl ?_; refine WL_guardN rfl rfl rfl rfl rfl ?_; refine WL_guardN rfl rfl rfl rfl rfl ?_; refine WL_guardN rfl rfl rfl rfl rfl ?_; refine WL_val (rn_pickT (v := (.bool true)) rfl rfl rfl) rfl ?_; refine WL_nil ?_
           have hO : Owns G47 w50 w0.heap.size ([⟨3, 1, ns34_0, .slice as34_0 ns34_0 cs34_0, clas34_0⟩]) := hO
           have H := Option.some.inj H; subst H
           exact ⟨_, G47, upds_self _ _ ⟨rfl, rfl, rfl, rfl, rfl, rfl, rfl, rfl, rfl, rfl, rfl, trivial⟩, Gle.refl _, hS, hO⟩
          ·have H := ifF hb51 H; refine WL_guardY rfl hb51 rfl rfl ?_; refine WL_val (rn_move (v := (.slice as34_0 ns34_0 cs34_0)) rfl) rfl ?_; refine WL_guardY rfl hb51 rfl rfl ?_; refine WL_val (rn_fld fd77_0 rfl) rfl ?_; refine WL_guardY rfl hb51 rfl rfl ?_; refine WL_val (rn_load na3 rfl (hS.sat.cell (hcG47 0 _ rfl))) rfl ?_; refine WL_guardY rfl hb51 rfl rfl ?_; obtain ⟨y52, hy52, H⟩ := bnd H; obtain ⟨Gv53, leGv53, hSGv53, hOGv53, hvGv53⟩ := hO.freezeS hS RInt_mono (k := 0) rfl (hs34_0.mono RInt_mono leG47) hnhs34_0; refine WL_op rfl (OpP_callV cb74 (f74_ok (x0 := s34.1) (x1 := y41.Prey) hSGv53.sat hvGv53 hy52) rfl rfl (fun w54 hb => ?_)); have hS := hS.keep hb; have hO := hO.below hb; refine WL_val (rn_pickF (v := (.bool y52)) rfl hb51 rfl) rfl ?_; refine WL_val (rn_move (v := (.bool y52)) rfl) rfl ?_
           rcases bcases y52 with hb55 | hb55
           ·have H := ifT hb55 H; refine WL_guardN rfl hb55 rfl rfl rfl ?_; refine WL_guardN rfl hb55 rfl rfl rfl ?_; refine WL_guardN rfl hb55 rfl rfl rfl ?_; refine WL_guardN rfl hb55 rfl rfl rfl ?_; refine WL_val (rn_pickT (v := (.bool true)) rfl hb55 rfl) rfl ?_; refine WL_nil ?_
            have hO : Owns G47 w54 w0.heap.size ([⟨3, 1, ns34_0, .slice as34_0 ns34_0 cs34_0, clas34_0⟩]) := hO
            have H := Option.some.inj H; subst H
            exact ⟨_, G47, upds_self _ _ ⟨rfl, rfl, rfl, rfl, rfl, rfl, rfl, rfl, rfl, rfl, rfl, trivial⟩, Gle.refl _, hS, hO⟩
           ·have H := ifF hb55 H; refine WL_guardY rfl hb55 rfl rfl ?_; refine WL_val (rn_fld fd77_1 rfl) rfl ?_; refine WL_guardY rfl hb55 rfl rfl ?_; refine WL_val (rn_loadA ag43 (cs := [.int .i64 y41.Share.Low, .int .i64 y41.Share.High]) rfl rfl (fun j v hj => hS.sat.cell (hcG47.drop_take 1 2 j v hj))) rfl ?_; refine WL_guardY rfl hb55 rfl rfl ?_; obtain ⟨y56, hy56, H⟩ := bnd H; refine WL_op rfl (OpP_callV cb95 (f95_ok (x0 := y41.Share) (x1 := 1000) hS.sat  hy56) rfl rfl (fun w57 hb => ?_)); have hS := hS.keep hb; have hO := hO.below hb; refine WL_guardY rfl hb55 rfl rfl ?_; refine WL_val (rn_not rfl) rfl ?_; refine WL_val (rn_pickF (v := (.bool (!y56))) rfl hb55 rfl) rfl ?_; refine WL_nil ?_
            have hO : Owns G47 w57 w0.heap.size ([⟨3, 1, ns34_0, .slice as34_0 ns34_0 cs34_0, clas34_0⟩]) := hO
            have H := Option.some.inj H; subst H
            exact ⟨_, G47, upds_self _ _ ⟨rfl, rfl, rfl, rfl, rfl, rfl, rfl, rfl, rfl, rfl, rfl, trivial⟩, Gle.refl _, hS, hO⟩
         ·rintro F w58 ⟨Fb, G59, rfl, leG59, hS, hO⟩
          refine WC_cond rfl (fun hb60 => ?_) (fun hb60 => ?_)
          ·have H := ifT hb60 H; refine WC_seq ?_; refine WC_region ?_; refine WL_val (rn_assign (v := (.bool false)) rfl) rfl ?_; refine WL_nil ?_; refine WC_ret ?_; have H := Option.some.inj H; subst H
           have hres := hqq36 _ rfl
           subst hres; have H := Hoq36; have H := Option.some.inj H; subst H
           have hres := hqq7 _ rfl
           subst hres; have H := Hoq7
           have H : some false = some r := H
           have H := Option.some.inj H; subst H
           exact ⟨rfl, hS.below⟩
          ·have H := ifF hb60 H; refine WC_skip ?_; refine WC_region ?_; refine WL_val (rn_move (v := (.slice as34_0 ns34_0 cs34_0)) rfl) rfl ?_; refine WL_val (rn_fld fd77_0 rfl) rfl ?_; refine WL_val (rn_load na3 rfl ((hS.sat.le leG59).cell (hcG47 0 _ rfl))) rfl ?_
           refine WL_op rfl (OpP_newF (v := fun b => .slice (some ⟨b, 0, none⟩) 1 1) (cs := [.int .i64 y41.Prey]) (e := 3) (by kernel_rfl) hS.sat rfl (fun b61 G63 w62 hg hcb61 => ?_))
           have hS := hS.grow hg; have hO := hO.grow hg
           have leG63 := hg.le
           have hfb61 : RSl RInt 1 G63 (some ⟨b61, 0, none⟩) 1 1 [y41.Prey] := RSl.of_rd hcb61 (Rd.cons (c := [.int .i64 y41.Prey]) rfl rfl (Rd.nil RInt 1 _)) rfl (by decide)
           obtain ⟨y64, hy64, H⟩ := bnd H
           have l5_8 := (leG47.trans leG59).trans leG63
           refine WL_op rfl (OpP_append (k := 0) sl25 RInt_one hS hO rfl hnhs34_0 (hs34_0.mono RInt_mono l5_8) hfb61 hy64 rfl rfl rfl rfl rfl (fun aw65 cw65 w65 clw65 hS hO hrw65 => ?_))
           have hO : Owns G63 w65 w0.heap.size ([⟨3, 1, y64.length, .slice aw65 y64.length cw65, clw65⟩]) := hO
           refine WL_val (rn_assign (v := (.slice aw65 y64.length cw65)) rfl) rfl ?_; refine WL_nil ?_; refine WC_region ?_; refine WL_val (rn_add rfl rfl) rfl ?_; refine WL_val (rn_move (v := (.int .i64 (IntKind.i64.wrap (s34.2 + 1)))) rfl) rfl ?_; refine WL_nil ?_
           have hO : Owns G63 w65 w0.heap.size ([⟨3, 1, y64.length, .slice aw65 y64.length cw65, clw65⟩]) := hO
           have H := Option.some.inj H; subst H; refine ⟨_, rfl, ?_⟩
           have l4_8 := leG39.trans l5_8
           exact ⟨_, G63, aw65, y64.length, cw65, clw65, upds_self _ _ ⟨rfl, rfl, rfl, rfl, rfl, rfl, rfl, rfl, rfl, trivial⟩, l4_8, hS, hO, rfl, hrw65⟩
        ·have H := ifF hb40 H; refine WC_exit rfl ?_; have hO := hO.drop 0
         have hO : Owns G39 w38 w0.heap.size ([]) := hO
         have H := Option.some.inj H; subst H
         have hres := hqq36 _ rfl
         subst hres
         exact ⟨_, _, G39, rfl, upds_self _ _ ⟨rfl, rfl, rfl, rfl, trivial⟩, leG39, hS, hO⟩
      ·rintro F w66 ⟨p35, Fb, G67, rfl, rfl, leG67, hS, hO⟩
       refine WC_region ?_; refine WL_val (rn_add rfl rfl) rfl ?_; refine WL_val (rn_move (v := (.int .i64 (IntKind.i64.wrap (s5 + 1)))) rfl) rfl ?_; refine WL_nil ?_
       have hO : Owns G67 w66 w0.heap.size ([]) := hO
       have H := Option.some.inj H; subst H; refine ⟨_, rfl, ?_⟩
       have l1_5 := (leG10.trans l2_4).trans leG67
       exact ⟨_, G67, upds_self _ _ ⟨rfl, rfl, rfl, rfl, trivial⟩, l1_5, hS, hO⟩
   ·have H := ifF hb11 H; refine WC_exit rfl ?_
    have hO : Owns G10 w9 w0.heap.size ([]) := hO
    have H := Option.some.inj H; subst H
    have hres := hqq7 _ rfl
    subst hres
    exact ⟨_, _, G10, rfl, upds_self _ _ ⟨rfl, trivial⟩, leG10, hS, hO⟩
 ·rintro F w69 ⟨p6, Fb, G70, rfl, rfl, leG70, hS, hO⟩
  refine WC_seq ?_; obtain ⟨q71, hq71, H⟩ := bnd H; refine WC_cut (fun F w => ∃ (Fb : Fr) (G : Gm), F = upds Fb [(2, .bool q71)] ∧ Gle G70 G ∧ Since w0.heap.size G0 w0 G w ∧ Owns G w w0.heap.size []) ?_ ?_
  ·have Hoq71 := H; have H := hq71; refine WC_region ?_; refine WL_val (rn_fld fd24_0 rfl) rfl ?_; refine WL_val (rn_load na22 rfl ((hS.sat.le leG70).cell (hcb2 0 _ rfl))) rfl ?_
   have l0_2 := leG4.trans leG70
   refine WL_val (rn_len sl22 rfl rfl (h1.mono RTBaneFish_mono l0_2).1) rfl ?_; obtain ⟨y72, hy72, H⟩ := bnd H; refine WL_op rfl (OpP_callV cb66 (f66_ok (x0 := (x0.Fish.length : Int)) (x1 := 1) (x2 := 7) hS.sat  hy72) rfl rfl (fun w73 hb => ?_)); have hS := hS.keep hb; have hO := hO.below hb; refine WL_val (rn_move (v := (.bool y72)) rfl) rfl ?_
   rcases bcases y72 with hb74 | hb74
   ·have H := ifT hb74 H; refine WL_guardY rfl hb74 rfl rfl ?_; refine WL_val (rn_fld fd24_1 rfl) rfl ?_; refine WL_guardY rfl hb74 rfl rfl ?_; refine WL_val (rn_load na3 rfl ((hS.sat.le leG70).cell (hcb2 1 _ rfl))) rfl ?_; refine WL_guardY rfl hb74 rfl rfl ?_; obtain ⟨y75, hy75, H⟩ := bnd H; refine WL_op rfl (OpP_callV cb66 (f66_ok (x0 := x0.Limit) (x1 := 0) (x2 := 1000000) hS.sat  hy75) rfl rfl (fun w76 hb => ?_)); have hS := hS.keep hb; have hO := hO.below hb; refine WL_val (rn_pickT (v := (.bool y75)) rfl hb74 rfl) rfl ?_; refine WL_val (rn_assign (v := (.bool y75)) rfl) rfl ?_; refine WL_nil ?_
    have hO : Owns G70 w76 w0.heap.size ([]) := hO
    have H := Option.some.inj H; subst H
    exact ⟨_, G70, upds_self _ _ ⟨rfl, trivial⟩, Gle.refl _, hS, hO⟩
   ·have H := ifF hb74 H; refine WL_guardN rfl hb74 rfl rfl rfl ?_; refine WL_guardN rfl hb74 rfl rfl rfl ?_; refine WL_guardN rfl hb74 rfl rfl rfl ?_; refine WL_val (rn_pickF (v := (.bool false)) rfl hb74 rfl) rfl ?_; refine WL_val (rn_assign (v := (.bool false)) rfl) rfl ?_; refine WL_nil ?_
    have hO : Owns G70 w73 w0.heap.size ([]) := hO
    have H := Option.some.inj H; subst H
    exact ⟨_, G70, upds_self _ _ ⟨rfl, trivial⟩, Gle.refl _, hS, hO⟩
  ·rintro F w77 ⟨Fb, G78, rfl, leG78, hS, hO⟩
   refine WC_ret ?_
   have H : some q71 = some r := H
   have H := Option.some.inj H; subst H
   exact ⟨rfl, hS.below⟩
set_option maxHeartbeats 1000000 in
theorem f96_ok {G0 : Gm} {w0 : World} (hS0 : Sat G0 w0) {x0 : (List Int)} {a1 : Option Addr} {n1 c1 : Nat} (h1 : RSl RInt 1 G0 a1 n1 c1 x0) {r : Int} (H : f96 x0 = some r) :
  Calls Try.prog 96 #[.slice a1 n1 c1] w0 (RetV w0 (.int .i64 r)) := by
 have hS := Since.start hS0
 have hO : Owns G0 w0 w0.heap.size [] := Owns.nil (Nat.le_refl _)
 unfold f96 at H
 refine enter1 (N := 17) (shutV _ _) Try.func96 rfl rfl rfl rfl ?_; refine WC_seq ?_; refine WC_region ?_; refine WL_val (rn_assign (v := (.int .i64 0)) rfl) rfl ?_; refine WL_nil ?_; refine WC_seq ?_; refine WC_region ?_; refine WL_val (rn_assign (v := (.int .i64 0)) rfl) rfl ?_; refine WL_nil ?_; refine WC_seq ?_; refine WC_seq ?_; refine WC_region ?_; refine WL_val (rn_move (v := (.slice a1 n1 c1)) rfl) rfl ?_; refine WL_val (rn_len sl25 rfl rfl h1.1) rfl ?_; refine WL_val (rn_move (v := (.int .i64 0)) rfl) rfl ?_; refine WL_nil ?_; obtain ⟨q4, hq4, H⟩ := bnd H; refine WC_cut (fun F w => ∃ (Fb : Fr), F = upds Fb [(3, .int .i64 q4)] ∧ w0 = w) ?_ ?_
 ·refine WC_block (WC_loop hq4 (fun s2 F w => ∃ (Fb : Fr), F = upds Fb [(3, .int .i64 s2.1), (6, .slice a1 n1 c1), (7, .int .i64 (x0.length : Int)), (8, .int .i64 s2.2)] ∧ w0 = w) ?_ ?_)
  ·exact ⟨_, upds_self _ _ ⟨rfl, rfl, rfl, rfl, trivial⟩, rfl⟩
  ·rintro s2 F wl t5 ⟨Fb, rfl, rfl⟩
   intro H1 hqq4
   have Hoq4 := H; have H := H1
   unfold f96_b0 at H
   refine WC_seq ?_; refine WC_region ?_; refine WL_val (rn_lss rfl rfl) rfl ?_; refine WL_nil ?_; refine WC_seq ?_; refine WC_cond rfl (fun hb8 => ?_) (fun hb8 => ?_)
   ·have H := ifT hb8 H; refine WC_skip ?_; refine WC_seq ?_; refine WC_block ?_; refine WC_seq ?_; refine WC_region ?_; obtain ⟨y9, hy9, H⟩ := bnd H; refine WL_idx sl25 h1 hy9 rfl rfl rfl ?_
    rintro b10 o10 _ hcb10 _ ⟨⟩
    refine WL_val (rn_load na3 rfl (hS.sat.cell (hcb10 0 _ rfl))) rfl ?_; refine WL_val (rn_assign (v := (.int .i64 y9)) rfl) rfl ?_; refine WL_nil ?_; refine WC_region ?_; refine WL_val (rn_move (v := (.int .i64 s2.1)) rfl) rfl ?_; refine WL_val (rn_move (v := (.int .i64 y9)) rfl) rfl ?_; refine WL_val (rn_add rfl rfl) rfl ?_; refine WL_val (rn_assign (v := (.int .i64 (IntKind.i64.wrap (s2.1 + y9)))) rfl) rfl ?_; refine WL_nil ?_; refine WC_region ?_; refine WL_val (rn_add rfl rfl) rfl ?_; refine WL_val (rn_move (v := (.int .i64 (IntKind.i64.wrap (s2.2 + 1)))) rfl) rfl ?_; refine WL_nil ?_; have H := Option.some.inj H; subst H; refine ⟨_, rfl, ?_⟩
    exact ⟨_, upds_self _ _ ⟨rfl, rfl, rfl, rfl, trivial⟩, rfl⟩
   ·have H := ifF hb8 H; refine WC_exit rfl ?_; have H := Option.some.inj H; subst H
    have hres := hqq4 _ rfl
    subst hres
    exact ⟨_, upds_self _ _ ⟨rfl, trivial⟩, rfl⟩
 ·rintro F wl ⟨Fb, rfl, rfl⟩
  refine WC_seq ?_; refine WC_region ?_; refine WL_val (rn_move (v := (.int .i64 q4)) rfl) rfl ?_; refine WL_val (rn_assign (v := (.int .i64 q4)) rfl) rfl ?_; refine WL_nil ?_; refine WC_ret ?_
  have H : some q4 = some r := H
  have H := Option.some.inj H; subst H
  exact ⟨rfl, hS.below⟩
set_option maxHeartbeats 1000000 in
theorem f67_ok {G0 : Gm} {w0 : World} (hS0 : Sat G0 w0) {x0 : TBaneFish} {a1 : Option Addr} {n1 c1 : Nat} {x1 : Int} {x2 : (List Int)} {a2 : Option Addr} {n2 c2 : Nat} {x3 : (Int → Option Int)} {k3 : Nat} {fi3 ca3 : List Value} (h1 : RSl RTBaneBite 3 G0 a1 n1 c1 x0.Bites) (h2 : RSl RInt 1 G0 a2 n2 c2 x2) (hf3 : FnOk101 G0 k3 fi3 ca3 x3) {r : Int} (H : f67 x0 x1 x2 x3 = some r) :
  Calls Try.prog 67 #[.agg #[.int .i64 x0.Base.Low, .int .i64 x0.Base.High, .slice a1 n1 c1, .int .i64 x0.Pass, .int .i64 x0.Cost], .int .i64 x1, .slice a2 n2 c2, .func (.func k3) (fi3).toArray (ca3).toArray] w0 (RetV w0 (.int .i64 r)) := by
 have hS := Since.start hS0
 have hO : Owns G0 w0 w0.heap.size [] := Owns.nil (Nat.le_refl _)
 unfold f67 at H
 refine enter1 (N := 38) (shutV _ _) Try.func67 rfl rfl rfl rfl ?_; refine WC_seq ?_; refine WC_region ?_; refine WL_op rfl (OpP_newF (v := fun b => .pointer (some ⟨b, 0, none⟩)) (cs := [.int .i64 x0.Base.Low, .int .i64 x0.Base.High, .slice a1 n1 c1, .int .i64 x0.Pass, .int .i64 x0.Cost]) (e := 72) (rn_boxA rfl) hS.sat rfl (fun b4 G6 w5 hg hcb4 => ?_)); have hS := hS.grow hg; have hO := hO.grow hg
 have leG6 := hg.le
 refine WL_val (rn_assign (v := (.int .i64 0)) rfl) rfl ?_; refine WL_nil ?_; refine WC_seq ?_; refine WC_region ?_; refine WL_val (rn_move (v := (.int .i64 x1)) rfl) rfl ?_
 refine WL_op rfl (OpP_newO (v := fun b => .slice (some ⟨b, 0, none⟩) 1 1) (cs := [.int .i64 x1]) (e := 3) (by kernel_rfl) hS.sat hO rfl 1 1 rfl (by decide) (fun b7 w8 hb hO => ?_))
 have hS := hS.keep hb
 have hrb7 : Rd RInt 1 G6 [.int .i64 x1] [x1] := (Rd.cons (c := [.int .i64 x1]) rfl rfl (Rd.nil RInt 1 _))
 refine WL_val (rn_assign (v := (.slice (some ⟨b7, 0, none⟩) 1 1)) rfl) rfl ?_; refine WL_nil ?_; refine WC_seq ?_; refine WC_seq ?_; refine WC_region ?_; refine WL_val (rn_fld fd72_1 rfl) rfl ?_; refine WL_val (rn_load na70 rfl (hS.sat.cell (hcb4 2 _ rfl))) rfl ?_; refine WL_val (rn_len sl70 rfl rfl (h1.mono RTBaneBite_mono leG6).1) rfl ?_; refine WL_val (rn_move (v := (.int .i64 0)) rfl) rfl ?_; refine WL_nil ?_; obtain ⟨q12, hq12, H⟩ := bnd H; refine WC_cut (fun F w => ∃ (Fb : Fr) (G : Gm) (aq12_0 : Option Addr) (nq12_0 cq12_0 : Nat) (claq12_0 : List Value), F = upds Fb [(9, .slice aq12_0 nq12_0 cq12_0)] ∧ Gle G6 G ∧ Since w0.heap.size G0 w0 G w ∧ Owns G w w0.heap.size [⟨3, 1, nq12_0, .slice aq12_0 nq12_0 cq12_0, claq12_0⟩] ∧ nq12_0 = q12.length ∧ Rd RInt 1 G claq12_0 q12) ?_ ?_
 ·refine WC_block (WC_loop hq12 (fun s10 F w => ∃ (Fb : Fr) (G : Gm) (as10_0 : Option Addr) (ns10_0 cs10_0 : Nat) (clas10_0 : List Value), F = upds Fb [(2, .slice a2 n2 c2), (3, .func (.func k3) (fi3).toArray (ca3).toArray), (9, .slice as10_0 ns10_0 cs10_0), (15, .slice a1 n1 c1), (16, .int .i64 (x0.Bites.length : Int)), (17, .int .i64 s10.2)] ∧ Gle G6 G ∧ Since w0.heap.size G0 w0 G w ∧ Owns G w w0.heap.size [⟨3, 1, ns10_0, .slice as10_0 ns10_0 cs10_0, clas10_0⟩] ∧ ns10_0 = s10.1.length ∧ Rd RInt 1 G clas10_0 s10.1) ?_ ?_)
  ·have hO : Owns G6 w8 w0.heap.size ([⟨3, 1, 1, .slice (some ⟨b7, 0, none⟩) 1 1, [.int .i64 x1]⟩]) := hO
   exact ⟨_, G6, (some ⟨b7, 0, none⟩), 1, 1, [.int .i64 x1], upds_self _ _ ⟨rfl, rfl, rfl, rfl, rfl, rfl, trivial⟩, Gle.refl _, hS, hO, rfl, hrb7⟩
  ·rintro s10 F w14 t13 ⟨Fb, G15, as10_0, ns10_0, cs10_0, clas10_0, rfl, leG15, hS, hO, hnhs10_0, hs10_0⟩
   intro H1 hqq12
   have Hoq12 := H; have H := H1
   unfold f67_b0 at H
   refine WC_seq ?_; refine WC_region ?_; refine WL_val (rn_lss rfl rfl) rfl ?_; refine WL_nil ?_; refine WC_seq ?_; refine WC_cond rfl (fun hb16 => ?_) (fun hb16 => ?_)
   ·have H := ifT hb16 H; refine WC_skip ?_; refine WC_seq ?_; refine WC_block ?_; refine WC_seq ?_; refine WC_region ?_; refine WL_val (rn_move (v := (.int .i64 s10.2)) rfl) rfl ?_; obtain ⟨y17, hy17, H⟩ := bnd H
    have l0_2 := leG6.trans leG15
    refine WL_idx sl70 (h1.mono RTBaneBite_mono l0_2) hy17 rfl rfl rfl ?_
    rintro b18 o18 _ hcb18 _ ⟨⟩
    refine WL_val (rn_loadA ag77 (cs := [.int .i64 y17.Prey, .int .i64 y17.Share.Low, .int .i64 y17.Share.High]) rfl rfl (fun j v hj => hS.sat.cell (hcb18.drop_take 0 3 j v hj))) rfl ?_
    refine WL_op rfl (OpP_newO (v := fun b => .pointer (some ⟨b, 0, none⟩)) (cs := [.int .i64 0, .int .i64 0, .int .i64 0]) (e := 77) (by kernel_rfl) hS.sat hO rfl 3 1 rfl (by decide) (fun b19 w20 hb hO => ?_))
    have hS := hS.keep hb; refine WL_val (rn_assign (v := (.int .i64 s10.2)) rfl) rfl ?_; refine WL_op rfl (OpP_store (vs := [.int .i64 y17.Prey, .int .i64 y17.Share.Low, .int .i64 y17.Share.High]) sz77 hS hO (k := 0) rfl rfl rfl rfl rfl (one_all rfl) (Nat.le_of_ble_eq_true rfl) (fun w22 hS hO => ?_))
    have hO : Owns G15 w22 w0.heap.size ([⟨77, 3, 1, .slice (some ⟨b19, 0, none⟩) 1 1, [.int .i64 y17.Prey, .int .i64 y17.Share.Low, .int .i64 y17.Share.High]⟩, ⟨3, 1, ns10_0, .slice as10_0 ns10_0 cs10_0, clas10_0⟩]) := hO
    obtain ⟨G23, leG23, hS, hO, hqG23, _⟩ := hO.freeze hS (k := 0) rfl
    have hcG23 : Cells G23 b19 0 [.int .i64 y17.Prey, .int .i64 y17.Share.Low, .int .i64 y17.Share.High] := (hqG23 _ _ _ _ rfl)
    refine WL_nil ?_; have hS := hS.keep (below_drew _); have hO := hO.below (below_drew _)
    refine WC_regionD mixedO (fun _ w => Sat G23 w ∧ Owns G23 w w0.heap.size [⟨3, 1, ns10_0, .slice as10_0 ns10_0 cs10_0, clas10_0⟩]) (.fl 0 (.fl 1 (.fl 2 (.fl 4 (.fl 5 (.fl 6 (.fl 7 (.fl 8 (.on 3 (.on 9 (.on 10 (.on 11 (.on 12 (.on 13 .nil)))))))))))))) (by kernel_rfl) rfl (by kernel_rfl) (fun _ => ⟨hS.sat, hO⟩) ?_
    refine WD_val rfl (fun w hw => rn_move (v := (.slice as10_0 ns10_0 cs10_0)) rfl) rfl ?_; refine WD_val rfl (fun w hw => rn_move (v := (.func (.func k3) (fi3).toArray (ca3).toArray)) rfl) rfl ?_; refine WD_val rfl (fun w hw => rn_move (v := (.int .i64 s10.2)) rfl) rfl ?_; refine WD_val rfl (fun w hw => rn_move (v := (.slice a2 n2 c2)) rfl) rfl ?_; refine WD_val rfl (fun w hw => rn_fld fd77_0 rfl) rfl ?_; refine WD_val rfl (fun w hw => rn_load na3 rfl (hw.1.cell (hcG23 0 _ rfl))) rfl ?_; obtain ⟨y24, hy24, H⟩ := bnd H
    have l0_3 := l0_2.trans leG23
    refine WD_idx rfl sl25 (h2.mono RInt_mono l0_3) hy24 rfl rfl rfl ?_
    rintro b25 o25 _ hcb25 _ ⟨⟩
    refine WD_val rfl (fun w hw => rn_load na3 rfl (hw.1.cell (hcb25 0 _ rfl))) rfl ?_; obtain ⟨y26, hy26, H⟩ := bnd H; refine WD_op rfl rfl (OpP_callVF hf3.1 (hf3.2 _ _ l0_3 hS.sat s10.2 _  hy26) rfl rfl rfl (fun w27 hb => ?_)); have hS := hS.keep hb; have hO := hO.below hb; refine ⟨fun _ _ => ⟨hS.sat, hO⟩, ?_⟩; refine WD_op rfl rfl (OpP_val (rn_mul rfl rfl) rfl ?_); refine ⟨fun _ _ => ⟨hS.sat, hO⟩, ?_⟩
    refine WD_op rfl rfl (OpP_val (rn_quo rfl rfl (by decide)) rfl ?_)
    refine ⟨fun _ _ => ⟨hS.sat, hO⟩, ?_⟩
    refine WD_op rfl rfl (OpP_newF (v := fun b => .slice (some ⟨b, 0, none⟩) 1 1) (cs := [.int .i64 (IntKind.i64.wrap ((IntKind.i64.wrap (y26 * y24)).tdiv 1000))]) (e := 3) (by kernel_rfl) hS.sat rfl (fun b28 G30 w29 hg hcb28 => ?_))
    have hS := hS.grow hg; have hO := hO.grow hg
    have leG30 := hg.le
    have hfb28 : RSl RInt 1 G30 (some ⟨b28, 0, none⟩) 1 1 [IntKind.i64.wrap ((IntKind.i64.wrap (y26 * y24)).tdiv 1000)] := RSl.of_rd hcb28 (Rd.cons (c := [.int .i64 (IntKind.i64.wrap ((IntKind.i64.wrap (y26 * y24)).tdiv 1000))]) rfl rfl (Rd.nil RInt 1 _)) rfl (by decide)
    refine ⟨fun _ _ => ⟨hS.sat.le leG30, hO.le leG30⟩, ?_⟩; obtain ⟨y31, hy31, H⟩ := bnd H
    have l2_4 := leG23.trans leG30
    refine WD_op rfl rfl (OpP_append (k := 0) sl25 RInt_one hS hO rfl hnhs10_0 (hs10_0.mono RInt_mono l2_4) hfb28 hy31 rfl rfl rfl rfl rfl (fun aw32 cw32 w32 clw32 hS hO hrw32 => ?_))
    have hO : Owns G30 w32 w0.heap.size ([⟨3, 1, y31.length, .slice aw32 y31.length cw32, clw32⟩]) := hO
    refine ⟨fun _ h => noneed (by kernel_rfl) h, ?_⟩
    refine WD_op rfl rfl (OpP_val (rn_assign (v := (.slice aw32 y31.length cw32)) rfl) rfl ?_)
    refine ⟨fun _ h => noneed (by kernel_rfl) h, ?_⟩
    refine WD_nil ?_; refine WC_region ?_; refine WL_val (rn_add rfl rfl) rfl ?_; refine WL_val (rn_move (v := (.int .i64 (IntKind.i64.wrap (s10.2 + 1)))) rfl) rfl ?_; refine WL_nil ?_
    have hO : Owns G30 w32 w0.heap.size ([⟨3, 1, y31.length, .slice aw32 y31.length cw32, clw32⟩]) := hO
    have H := Option.some.inj H; subst H; refine ⟨_, rfl, ?_⟩
    have l1_4 := leG15.trans l2_4
    exact ⟨_, G30, aw32, y31.length, cw32, clw32, upds_self _ _ ⟨rfl, rfl, rfl, rfl, rfl, rfl, trivial⟩, l1_4, hS, hO, rfl, hrw32⟩
   ·have H := ifF hb16 H; refine WC_exit rfl ?_
    have hO : Owns G15 w14 w0.heap.size ([⟨3, 1, ns10_0, .slice as10_0 ns10_0 cs10_0, clas10_0⟩]) := hO
    have H := Option.some.inj H; subst H
    have hres := hqq12 _ rfl
    subst hres
    exact ⟨_, G15, as10_0, ns10_0, cs10_0, clas10_0, upds_self _ _ ⟨rfl, trivial⟩, leG15, hS, hO, hnhs10_0, hs10_0⟩
 ·rintro F w33 ⟨Fb, G34, aq12_0, nq12_0, cq12_0, claq12_0, rfl, leG34, hS, hO, hnhq12_0, hq12_0⟩
  refine WC_seq ?_; refine WC_region ?_; refine WL_val (rn_move (v := (.slice aq12_0 nq12_0 cq12_0)) rfl) rfl ?_; obtain ⟨y35, hy35, H⟩ := bnd H; obtain ⟨Gv36, leGv36, hSGv36, hOGv36, hvGv36⟩ := hO.freezeS hS RInt_mono (k := 0) rfl hq12_0 hnhq12_0; refine WL_op rfl (OpP_callV cb96 (f96_ok (x0 := q12) hSGv36.sat hvGv36 hy35) rfl rfl (fun w37 hb => ?_)); have hS := hS.keep hb; have hO := hO.below hb; refine WL_val (rn_assign (v := (.int .i64 y35)) rfl) rfl ?_; refine WL_nil ?_; refine WC_ret ?_
  have H : some y35 = some r := H
  have H := Option.some.inj H; subst H
  exact ⟨rfl, hS.below⟩
set_option maxHeartbeats 1000000 in
theorem f68_ok {G0 : Gm} {w0 : World} (hS0 : Sat G0 w0) {x0 : Int} {x1 : TBaneTruth} {bq1 : Nat} {a1 : Option Addr} {n1 c1 : Nat} {a2 : Option Addr} {n2 c2 : Nat} {x2 : Int} {bq2 : Nat} (hcq1 : Cells G0 bq1 0 [.slice a1 n1 c1, .slice a2 n2 c2]) (h1 : RSl RInt 1 G0 a1 n1 c1 x1.Bases) (h2 : RSl (RSlice RInt 1) 1 G0 a2 n2 c2 x1.Shares) (hcq2 : Cells G0 bq2 0 [.int .i64 x2]) {r : Int} (H : f68 x0 x1 x2 = some r) :
  Calls Try.prog 68 #[.int .i64 x0, .pointer (some ⟨bq1, 0, none⟩), .pointer (some ⟨bq2, 0, none⟩)] w0 (RetV w0 (.int .i64 r)) := by
 have hS := Since.start hS0
 have hO : Owns G0 w0 w0.heap.size [] := Owns.nil (Nat.le_refl _)
 unfold f68 at H
 refine enter1 (N := 13) (shutV _ _) Try.func68 rfl rfl rfl rfl ?_; refine WC_seq ?_; refine WC_region ?_; refine WL_val (rn_assign (v := (.int .i64 0)) rfl) rfl ?_; refine WL_nil ?_; refine WC_seq ?_; refine WC_region ?_; refine WL_val (rn_fld fd28_1 rfl) rfl ?_; refine WL_val (rn_load na26 rfl (hS.sat.cell (hcq1 1 _ rfl))) rfl ?_; refine WL_val (rn_load na3 rfl (hS.sat.cell (hcq2 0 _ rfl))) rfl ?_; obtain ⟨y3, hy3, H⟩ := bnd H; refine WL_idx sl26 h2 hy3 rfl rfl rfl ?_
 rintro b4 o4 _ hcb4 _ ⟨a5, n5, c5, ⟨⟩, h5⟩
 refine WL_val (rn_load na25 rfl (hS.sat.cell (hcb4 0 _ rfl))) rfl ?_; refine WL_val (rn_move (v := (.int .i64 x0)) rfl) rfl ?_; obtain ⟨y6, hy6, H⟩ := bnd H; refine WL_idx sl25 h5 hy6 rfl rfl rfl ?_
 rintro b7 o7 _ hcb7 _ ⟨⟩
 refine WL_val (rn_load na3 rfl (hS.sat.cell (hcb7 0 _ rfl))) rfl ?_; refine WL_val (rn_assign (v := (.int .i64 y6)) rfl) rfl ?_; refine WL_nil ?_; refine WC_ret ?_
 have H : some y6 = some r := H
 have H := Option.some.inj H; subst H
 exact ⟨rfl, hS.below⟩
set_option maxHeartbeats 1000000 in
theorem f20_ok {G0 : Gm} {w0 : World} (hS0 : Sat G0 w0) {x0 : TBaneWeb} {a1 : Option Addr} {n1 c1 : Nat} {x1 : TBaneTruth} {a2 : Option Addr} {n2 c2 : Nat} {a3 : Option Addr} {n3 c3 : Nat} (h1 : RSl RTBaneFish 5 G0 a1 n1 c1 x0.Fish) (h2 : RSl RInt 1 G0 a2 n2 c2 x1.Bases) (h3 : RSl (RSlice RInt 1) 1 G0 a3 n3 c3 x1.Shares) {r : (List Int) × Int} (H : f20 x0 x1 = some r) :
  Calls Try.prog 20 #[.agg #[.slice a1 n1 c1, .int .i64 x0.Limit], .agg #[.slice a2 n2 c2, .slice a3 n3 c3]] w0 (RetG G0 w0 (fun G v => ∃ (ra0 : Option Addr) (rn0 rc0 : Nat), v = .tuple #[.slice ra0 rn0 rc0, .int .i64 r.2] ∧ RSl RInt 1 G ra0 rn0 rc0 r.1)) := by
 have hS := Since.start hS0
 have hO : Owns G0 w0 w0.heap.size [] := Owns.nil (Nat.le_refl _)
 unfold f20 at H
 refine enter2 (N := 106) (shutG _ _ _) Try.func20 rfl rfl rfl rfl ?_; refine WC_seq ?_; refine WC_region ?_; refine WL_op rfl (OpP_newF (v := fun b => .pointer (some ⟨b, 0, none⟩)) (cs := [.slice a1 n1 c1, .int .i64 x0.Limit]) (e := 24) (rn_boxA rfl) hS.sat rfl (fun b4 G6 w5 hg hcb4 => ?_)); have hS := hS.grow hg; have hO := hO.grow hg
 have leG6 := hg.le
 refine WL_op rfl (OpP_newF (v := fun b => .pointer (some ⟨b, 0, none⟩)) (cs := [.slice a2 n2 c2, .slice a3 n3 c3]) (e := 28) (rn_boxA rfl) hS.sat rfl (fun b7 G9 w8 hg hcb7 => ?_)); have hS := hS.grow hg; have hO := hO.grow hg
 have leG9 := hg.le
 refine WL_val (rn_assign (v := (.slice none 0 0)) rfl) rfl ?_; refine WL_val (rn_assign (v := (.int .i64 0)) rfl) rfl ?_; refine WL_nil ?_; refine WC_seq ?_; refine WC_seq ?_; obtain ⟨q10, hq10, H⟩ := bnd H; refine WC_cut (fun F w => ∃ (Fb : Fr) (G : Gm), F = upds Fb [(2, .pointer (some ⟨b4, 0, none⟩)), (3, .pointer (some ⟨b7, 0, none⟩)), (32, .bool q10)] ∧ Gle G9 G ∧ Since w0.heap.size G0 w0 G w ∧ Owns G w w0.heap.size []) ?_ ?_
 ·have Hoq10 := H; have H := hq10; refine WC_region ?_; refine WL_val (rn_loadA ag24 (cs := [.slice a1 n1 c1, .int .i64 x0.Limit]) rfl rfl (fun j v hj => (hS.sat.le leG9).cell (hcb4.drop_take 0 2 j v hj))) rfl ?_; obtain ⟨y11, hy11, H⟩ := bnd H
  have l0_2 := leG6.trans leG9
  refine WL_op rfl (OpP_callV cb65 (f65_ok (x0 := x0) hS.sat (h1.mono RTBaneFish_mono l0_2) hy11) rfl rfl (fun w12 hb => ?_)); have hS := hS.keep hb; have hO := hO.below hb; refine WL_val (rn_not rfl) rfl ?_; refine WL_val (rn_move (v := (.bool (!y11))) rfl) rfl ?_
  rcases bcases (!y11) with hb13 | hb13
  ·have H := ifT hb13 H; refine WL_guardN rfl hb13 rfl rfl rfl ?_; refine WL_guardN rfl hb13 rfl rfl rfl ?_; refine WL_guardN rfl hb13 rfl rfl rfl ?_; refine WL_guardN rfl hb13 rfl rfl rfl ?_; refine WL_guardN rfl hb13 rfl rfl rfl ?_; refine WL_guardN rfl hb13 rfl rfl rfl ?_; refine WL_guardN rfl hb13 rfl rfl rfl ?_; refine WL_val (rn_pickT (v := (.bool true)) rfl hb13 rfl) rfl ?_; refine WL_val (rn_move (v := (.bool true)) rfl) rfl ?_; refine WL_guardN rfl rfl rfl rfl rfl ?_; refine WL_guardN rfl rfl rfl rfl rfl ?_; refine WL_guardN rfl rfl rfl rfl rfl ?_; refine WL_guardN rfl rfl rfl rfl rfl ?_; refine WL_guardN rfl rfl rfl rfl rfl ?_; refine WL_guardN rfl rfl rfl rfl rfl ?_; refine WL_guardN rfl rfl rfl rfl rfl ?_; refine WL_val (rn_pickT (v := (.bool true)) rfl rfl rfl) rfl ?_; refine WL_nil ?_
   have hO : Owns G9 w12 w0.heap.size ([]) := hO
   have H := Option.some.inj H; subst H
   exact ⟨_, G9, upds_self _ _ ⟨rfl, rfl, rfl, trivial⟩, Gle.refl _, hS, hO⟩
  ·have H := ifF hb13 H; refine WL_guardY rfl hb13 rfl rfl ?_; refine WL_val (rn_fld fd28_0 rfl) rfl ?_; refine WL_guardY rfl hb13 rfl rfl ?_; refine WL_val (rn_load na25 rfl (hS.sat.cell (hcb7 0 _ rfl))) rfl ?_; refine WL_guardY rfl hb13 rfl rfl ?_; refine WL_val (rn_len sl25 rfl rfl (h2.mono RInt_mono l0_2).1) rfl ?_; refine WL_guardY rfl hb13 rfl rfl ?_; refine WL_val (rn_fld fd24_0 rfl) rfl ?_; refine WL_guardY rfl hb13 rfl rfl ?_; refine WL_val (rn_load na22 rfl ((hS.sat.le leG9).cell (hcb4 0 _ rfl))) rfl ?_; refine WL_guardY rfl hb13 rfl rfl ?_; refine WL_val (rn_len sl22 rfl rfl (h1.mono RTBaneFish_mono l0_2).1) rfl ?_; refine WL_guardY rfl hb13 rfl rfl ?_; refine WL_val (rn_neq rfl rfl) rfl ?_; refine WL_val (rn_pickF (v := (.bool ((x1.Bases.length : Int) != (x0.Fish.length : Int)))) rfl hb13 rfl) rfl ?_; refine WL_val (rn_move (v := (.bool ((x1.Bases.length : Int) != (x0.Fish.length : Int)))) rfl) rfl ?_
   rcases bcases ((x1.Bases.length : Int) != (x0.Fish.length : Int)) with hb14 | hb14
   ·have H := ifT hb14 H; refine WL_guardN rfl hb14 rfl rfl rfl ?_; refine WL_guardN rfl hb14 rfl rfl rfl ?_; refine WL_guardN rfl hb14 rfl rfl rfl ?_; refine WL_guardN rfl hb14 rfl rfl rfl ?_; refine WL_guardN rfl hb14 rfl rfl rfl ?_; refine WL_guardN rfl hb14 rfl rfl rfl ?_; refine WL_guardN rfl hb14 rfl rfl rfl ?_; refine WL_val (rn_pickT (v := (.bool true)) rfl hb14 rfl) rfl ?_; refine WL_nil ?_
    have hO : Owns G9 w12 w0.heap.size ([]) := hO
    have H := Option.some.inj H; subst H
    exact ⟨_, G9, upds_self _ _ ⟨rfl, rfl, rfl, trivial⟩, Gle.refl _, hS, hO⟩
   ·have H := ifF hb14 H; refine WL_guardY rfl hb14 rfl rfl ?_; refine WL_val (rn_fld fd28_1 rfl) rfl ?_; refine WL_guardY rfl hb14 rfl rfl ?_; refine WL_val (rn_load na26 rfl (hS.sat.cell (hcb7 1 _ rfl))) rfl ?_; refine WL_guardY rfl hb14 rfl rfl ?_; refine WL_val (rn_len sl26 rfl rfl (h3.mono (RSlice_mono RInt_mono) l0_2).1) rfl ?_; refine WL_guardY rfl hb14 rfl rfl ?_; refine WL_val (rn_fld fd24_0 rfl) rfl ?_; refine WL_guardY rfl hb14 rfl rfl ?_; refine WL_val (rn_load na22 rfl ((hS.sat.le leG9).cell (hcb4 0 _ rfl))) rfl ?_; refine WL_guardY rfl hb14 rfl rfl ?_; refine WL_val (rn_len sl22 rfl rfl (h1.mono RTBaneFish_mono l0_2).1) rfl ?_; refine WL_guardY rfl hb14 rfl rfl ?_; refine WL_val (rn_neq rfl rfl) rfl ?_; refine WL_val (rn_pickF (v := (.bool ((x1.Shares.length : Int) != (x0.Fish.length : Int)))) rfl hb14 rfl) rfl ?_; refine WL_nil ?_
    have hO : Owns G9 w12 w0.heap.size ([]) := hO
    have H := Option.some.inj H; subst H
    exact ⟨_, G9, upds_self _ _ ⟨rfl, rfl, rfl, trivial⟩, Gle.refl _, hS, hO⟩
 ·rintro F w15 ⟨Fb, G16, rfl, leG16, hS, hO⟩
  refine WC_cond rfl (fun hb17 => ?_) (fun hb17 => ?_)
  ·have H := ifT hb17 H; refine WC_seq ?_; refine WC_region ?_; refine WL_val (rn_assign (v := (.slice none 0 0)) rfl) rfl ?_; refine WL_val (rn_assign (v := (.int .i64 2)) rfl) rfl ?_; refine WL_nil ?_; refine WC_ret ?_
   have H : some ([], 2) = some r := H
   have H := Option.some.inj H; subst H
   exact ⟨_, _, rfl, hS.toGrow, _, _, _, rfl, (RSl.nil RInt 1 G16 none)⟩
  ·have H := ifF hb17 H; refine WC_skip ?_; refine WC_seq ?_; refine WC_region ?_; refine WL_val (rn_assign (v := (.slice none 0 0)) rfl) rfl ?_; refine WL_nil ?_; refine WC_seq ?_; refine WC_seq ?_; refine WC_region ?_; refine WL_val (rn_fld fd24_0 rfl) rfl ?_
   have l1_3 := leG9.trans leG16
   refine WL_val (rn_load na22 rfl ((hS.sat.le l1_3).cell (hcb4 0 _ rfl))) rfl ?_
   have l0_3 := leG6.trans l1_3
   refine WL_val (rn_len sl22 rfl rfl (h1.mono RTBaneFish_mono l0_3).1) rfl ?_; refine WL_val (rn_move (v := (.int .i64 0)) rfl) rfl ?_; refine WL_nil ?_; have hO := hO.cons_nil 3 1; obtain ⟨q21, hq21, H⟩ := bnd H; refine WC_cut (fun F w => ∃ (p20 : (List Int)) (Fb : Fr) (G : Gm) (ap20_0 : Option Addr) (np20_0 cp20_0 : Nat) (clap20_0 : List Value), q21 = .inl p20 ∧ F = upds Fb [(6, .slice ap20_0 np20_0 cp20_0)] ∧ Gle G16 G ∧ Since w0.heap.size G0 w0 G w ∧ Owns G w w0.heap.size [⟨3, 1, np20_0, .slice ap20_0 np20_0 cp20_0, clap20_0⟩] ∧ np20_0 = p20.length ∧ Rd RInt 1 G clap20_0 p20) ?_ ?_
   ·refine WC_block (WC_loop hq21 (fun s19 F w => ∃ (Fb : Fr) (G : Gm) (as19_0 : Option Addr) (ns19_0 cs19_0 : Nat) (clas19_0 : List Value), F = upds Fb [(3, .pointer (some ⟨b7, 0, none⟩)), (6, .slice as19_0 ns19_0 cs19_0), (34, .slice a1 n1 c1), (35, .int .i64 (x0.Fish.length : Int)), (36, .int .i64 s19.2)] ∧ Gle G16 G ∧ Since w0.heap.size G0 w0 G w ∧ Owns G w w0.heap.size [⟨3, 1, ns19_0, .slice as19_0 ns19_0 cs19_0, clas19_0⟩] ∧ ns19_0 = s19.1.length ∧ Rd RInt 1 G clas19_0 s19.1) ?_ ?_)
    ·have hO : Owns G16 w15 w0.heap.size ([⟨3, 1, 0, .slice none 0 0, []⟩]) := hO
     exact ⟨_, G16, none, 0, 0, [], upds_self _ _ ⟨rfl, rfl, rfl, rfl, rfl, trivial⟩, Gle.refl _, hS, hO, rfl, (Rd.nil RInt 1 G16)⟩
    ·rintro s19 F w23 t22 ⟨Fb, G24, as19_0, ns19_0, cs19_0, clas19_0, rfl, leG24, hS, hO, hnhs19_0, hs19_0⟩
     intro H1 hqq21
     have Hoq21 := H; have H := H1
     unfold f20_b0 at H
     refine WC_seq ?_; refine WC_region ?_; refine WL_val (rn_lss rfl rfl) rfl ?_; refine WL_nil ?_; refine WC_seq ?_; refine WC_cond rfl (fun hb25 => ?_) (fun hb25 => ?_)
     ·have H := ifT hb25 H; refine WC_skip ?_; refine WC_seq ?_; refine WC_block ?_; refine WC_seq ?_; refine WC_region ?_; refine WL_val (rn_move (v := (.int .i64 s19.2)) rfl) rfl ?_; obtain ⟨y26, hy26, H⟩ := bnd H
      have l0_4 := l0_3.trans leG24
      refine WL_idx sl22 (h1.mono RTBaneFish_mono l0_4) hy26 rfl rfl rfl ?_
      rintro b27 o27 _ hcb27 _ ⟨a28, n28, c28, ⟨⟩, h28⟩
      refine WL_val (rn_loadA ag72 (cs := [.int .i64 y26.Base.Low, .int .i64 y26.Base.High, .slice a28 n28 c28, .int .i64 y26.Pass, .int .i64 y26.Cost]) rfl rfl (fun j v hj => hS.sat.cell (hcb27.drop_take 0 5 j v hj))) rfl ?_
      refine WL_op rfl (OpP_newO (v := fun b => .pointer (some ⟨b, 0, none⟩)) (cs := [.int .i64 0]) (e := 3) (by kernel_rfl) hS.sat hO rfl 1 1 rfl (by decide) (fun b29 w30 hb hO => ?_))
      have hS := hS.keep hb
      refine WL_op rfl (OpP_newO (v := fun b => .pointer (some ⟨b, 0, none⟩)) (cs := [.int .i64 0, .int .i64 0, .slice none 0 0, .int .i64 0, .int .i64 0]) (e := 72) (by kernel_rfl) hS.sat hO rfl 5 1 rfl (by decide) (fun b32 w33 hb hO => ?_))
      have hS := hS.keep hb; refine WL_op rfl (OpP_store (vs := [.int .i64 s19.2]) sz3 hS hO (k := 1) rfl rfl rfl rfl rfl (one_all rfl) (Nat.le_of_ble_eq_true rfl) (fun w35 hS hO => ?_))
      have hO : Owns G24 w35 w0.heap.size ([⟨72, 5, 1, .slice (some ⟨b32, 0, none⟩) 1 1, [.int .i64 0, .int .i64 0, .slice none 0 0, .int .i64 0, .int .i64 0]⟩, ⟨3, 1, 1, .slice (some ⟨b29, 0, none⟩) 1 1, [.int .i64 s19.2]⟩, ⟨3, 1, ns19_0, .slice as19_0 ns19_0 cs19_0, clas19_0⟩]) := hO
      obtain ⟨G36, leG36, hS, hO, hqG36, _⟩ := hO.freeze hS (k := 1) rfl
      have hcG36 : Cells G36 b29 0 [.int .i64 s19.2] := (hqG36 _ _ _ _ rfl)
      refine WL_op rfl (OpP_store (vs := [.int .i64 y26.Base.Low, .int .i64 y26.Base.High, .slice a28 n28 c28, .int .i64 y26.Pass, .int .i64 y26.Cost]) sz72 hS hO (k := 0) rfl rfl rfl rfl rfl (one_all rfl) (Nat.le_of_ble_eq_true rfl) (fun w37 hS hO => ?_))
      have hO : Owns G36 w37 w0.heap.size ([⟨72, 5, 1, .slice (some ⟨b32, 0, none⟩) 1 1, [.int .i64 y26.Base.Low, .int .i64 y26.Base.High, .slice a28 n28 c28, .int .i64 y26.Pass, .int .i64 y26.Cost]⟩, ⟨3, 1, ns19_0, .slice as19_0 ns19_0 cs19_0, clas19_0⟩]) := hO
      obtain ⟨G38, leG38, hS, hO, hqG38, _⟩ := hO.freeze hS (k := 0) rfl
      have hcG38 : Cells G38 b32 0 [.int .i64 y26.Base.Low, .int .i64 y26.Base.High, .slice a28 n28 c28, .int .i64 y26.Pass, .int .i64 y26.Cost] := (hqG38 _ _ _ _ rfl)
      refine WL_nil ?_; refine WC_seq ?_; refine WC_seq ?_; obtain ⟨q39, hq39, H⟩ := bnd H; refine WC_cut (fun F w => ∃ (Fb : Fr) (G : Gm), F = upds Fb [(3, .pointer (some ⟨b7, 0, none⟩)), (6, .slice as19_0 ns19_0 cs19_0), (7, .pointer (some ⟨b29, 0, none⟩)), (8, .pointer (some ⟨b32, 0, none⟩)), (34, .slice a1 n1 c1), (35, .int .i64 (x0.Fish.length : Int)), (36, .int .i64 s19.2), (65, .bool q39)] ∧ Gle G38 G ∧ Since w0.heap.size G0 w0 G w ∧ Owns G w w0.heap.size [⟨3, 1, ns19_0, .slice as19_0 ns19_0 cs19_0, clas19_0⟩]) ?_ ?_
      ·have Hoq39 := H; have H := hq39; have hS := hS.keep (below_drew _); have hO := hO.below (below_drew _)
       refine WC_regionD mixedO (fun _ w => Sat G38 w ∧ Owns G38 w w0.heap.size [⟨3, 1, ns19_0, .slice as19_0 ns19_0 cs19_0, clas19_0⟩]) (.fl 0 (.fl 1 (.fl 2 (.fl 3 (.fl 4 (.fl 5 (.fl 6 (.fl 7 (.on 8 (.on 9 (.on 10 (.on 11 (.on 12 (.on 13 (.fl 14 (.fl 15 (.fl 16 (.fl 17 (.fl 18 (.fl 19 (.on 20 (.on 21 (.on 22 (.on 23 (.on 24 .nil))))))))))))))))))))))))) (by kernel_rfl) rfl (by kernel_rfl) (fun _ => ⟨hS.sat, hO⟩) ?_
       refine WD_val rfl (fun w hw => rn_fld fd28_0 rfl) rfl ?_; refine WD_val rfl (fun w hw => rn_load na25 rfl ((hw.1.le (((leG16.trans leG24).trans leG36).trans leG38)).cell (hcb7 0 _ rfl))) rfl ?_; refine WD_val rfl (fun w hw => rn_load na3 rfl ((hw.1.le leG38).cell (hcG36 0 _ rfl))) rfl ?_; obtain ⟨y40, hy40, H⟩ := bnd H
       have l0_6 := (l0_4.trans leG36).trans leG38
       refine WD_idx rfl sl25 (h2.mono RInt_mono l0_6) hy40 rfl rfl rfl ?_
       rintro b41 o41 _ hcb41 _ ⟨⟩
       refine WD_val rfl (fun w hw => rn_load na3 rfl (hw.1.cell (hcb41 0 _ rfl))) rfl ?_; refine WD_val rfl (fun w hw => rn_fld fd72_0 rfl) rfl ?_; refine WD_val rfl (fun w hw => rn_fld fd43_0 rfl) rfl ?_; refine WD_val rfl (fun w hw => rn_load na3 rfl (hw.1.cell (hcG38 0 _ rfl))) rfl ?_; refine WD_op rfl rfl (OpP_val (rn_fld fd72_0 rfl) rfl ?_); refine ⟨fun _ _ => ⟨hS.sat, hO⟩, ?_⟩; refine WD_op rfl rfl (OpP_val (rn_fld fd43_1 rfl) rfl ?_); refine ⟨fun _ _ => ⟨hS.sat, hO⟩, ?_⟩; refine WD_op rfl rfl (OpP_val (rn_load na3 rfl (hS.sat.cell (hcG38 1 _ rfl))) rfl ?_); refine ⟨fun _ _ => ⟨hS.sat, hO⟩, ?_⟩; obtain ⟨y42, hy42, H⟩ := bnd H; refine WD_op rfl rfl (OpP_callV cb66 (f66_ok (x0 := y40) (x1 := y26.Base.Low) (x2 := y26.Base.High) hS.sat  hy42) rfl rfl (fun w43 hb => ?_)); have hS := hS.keep hb; have hO := hO.below hb; refine ⟨fun _ _ => ⟨hS.sat, hO⟩, ?_⟩; refine WD_op rfl rfl (OpP_val (rn_not rfl) rfl ?_); refine ⟨fun _ _ => ⟨hS.sat, hO⟩, ?_⟩; refine WD_op rfl rfl (OpP_val (rn_move (v := (.bool (!y42))) rfl) rfl ?_); refine ⟨fun _ _ => ⟨hS.sat, hO⟩, ?_⟩
       rcases bcases (!y42) with hb44 | hb44
       ·have H := ifT hb44 H; refine WD_skip rfl rfl hb44 rfl rfl rfl ?_; refine WD_skip rfl rfl hb44 rfl rfl rfl ?_; refine WD_skip rfl rfl hb44 rfl rfl rfl ?_; refine WD_skip rfl rfl hb44 rfl rfl rfl ?_; refine WD_skip rfl rfl hb44 rfl rfl rfl ?_; refine WD_skip rfl rfl hb44 rfl rfl rfl ?_; refine WD_skipS rfl rfl hb44 rfl rfl rfl (fun _ _ => ⟨hS.sat, hO⟩) ?_; refine WD_skipS rfl rfl hb44 rfl rfl rfl (fun _ _ => ⟨hS.sat, hO⟩) ?_; refine WD_skipS rfl rfl hb44 rfl rfl rfl (fun _ _ => ⟨hS.sat, hO⟩) ?_
        refine WD_skipS rfl rfl hb44 rfl rfl rfl (fun _ h => noneed (by kernel_rfl) h) ?_
        refine WD_op rfl rfl (OpP_val (rn_pickT (v := (.bool true)) rfl hb44 rfl) rfl ?_)
        refine ⟨fun _ h => noneed (by kernel_rfl) h, ?_⟩
        refine WD_nil ?_
        have hO : Owns G38 w43 w0.heap.size ([⟨3, 1, ns19_0, .slice as19_0 ns19_0 cs19_0, clas19_0⟩]) := hO
        have H := Option.some.inj H; subst H
        exact ⟨_, G38, upds_self _ _ ⟨rfl, rfl, rfl, rfl, rfl, rfl, rfl, rfl, trivial⟩, Gle.refl _, hS, hO⟩
       ·have H := ifF hb44 H; refine WD_valY rfl rfl hb44 rfl rfl (fun w hw => rn_fld fd28_1 rfl) rfl ?_; refine WD_valY rfl rfl hb44 rfl rfl (fun w hw => rn_load na26 rfl ((hw.1.le (((leG16.trans leG24).trans leG36).trans leG38)).cell (hcb7 1 _ rfl))) rfl ?_; refine WD_valY rfl rfl hb44 rfl rfl (fun w hw => rn_load na3 rfl ((hw.1.le leG38).cell (hcG36 0 _ rfl))) rfl ?_; obtain ⟨y45, hy45, H⟩ := bnd H; refine WD_idxY rfl rfl hb44 rfl rfl sl26 (h3.mono (RSlice_mono RInt_mono) l0_6) hy45 rfl rfl rfl ?_
        rintro b46 o46 _ hcb46 _ ⟨a47, n47, c47, ⟨⟩, h47⟩
        refine WD_valY rfl rfl hb44 rfl rfl (fun w hw => rn_load na25 rfl (hw.1.cell (hcb46 0 _ rfl))) rfl ?_; refine WD_valY rfl rfl hb44 rfl rfl (fun w hw => rn_len sl25 rfl rfl h47.1) rfl ?_; refine WD_opY rfl rfl rfl hb44 rfl rfl (OpP_val (rn_fld fd72_1 rfl) rfl ?_); refine ⟨fun _ _ => ⟨hS.sat, hO⟩, ?_⟩; refine WD_opY rfl rfl rfl hb44 rfl rfl (OpP_val (rn_load na70 rfl (hS.sat.cell (hcG38 2 _ rfl))) rfl ?_); refine ⟨fun _ _ => ⟨hS.sat, hO⟩, ?_⟩
        have l4_6 := leG36.trans leG38
        refine WD_opY rfl rfl rfl hb44 rfl rfl (OpP_val (rn_len sl70 rfl rfl (h28.mono RTBaneBite_mono l4_6).1) rfl ?_); refine ⟨fun _ _ => ⟨hS.sat, hO⟩, ?_⟩; refine WD_opY rfl rfl rfl hb44 rfl rfl (OpP_val (rn_neq rfl rfl) rfl ?_)
        refine ⟨fun _ h => noneed (by kernel_rfl) h, ?_⟩
        refine WD_op rfl rfl (OpP_val (rn_pickF (v := (.bool ((y45.length : Int) != (y26.Bites.length : Int)))) rfl hb44 rfl) rfl ?_)
        refine ⟨fun _ h => noneed (by kernel_rfl) h, ?_⟩
        refine WD_nil ?_
        have hO : Owns G38 w43 w0.heap.size ([⟨3, 1, ns19_0, .slice as19_0 ns19_0 cs19_0, clas19_0⟩]) := hO
        have H := Option.some.inj H; subst H
        exact ⟨_, G38, upds_self _ _ ⟨rfl, rfl, rfl, rfl, rfl, rfl, rfl, rfl, trivial⟩, Gle.refl _, hS, hO⟩
      ·rintro F w48 ⟨Fb, G49, rfl, leG49, hS, hO⟩
       refine WC_cond rfl (fun hb50 => ?_) (fun hb50 => ?_)
       ·have H := ifT hb50 H; refine WC_seq ?_; refine WC_region ?_; refine WL_val (rn_assign (v := (.slice none 0 0)) rfl) rfl ?_; refine WL_val (rn_assign (v := (.int .i64 2)) rfl) rfl ?_; refine WL_nil ?_; refine WC_ret ?_; have H := Option.some.inj H; subst H
        have hres := hqq21 _ rfl
        subst hres; have H := Hoq21
        have H : some ([], 2) = some r := H
        have H := Option.some.inj H; subst H
        exact ⟨_, _, rfl, hS.toGrow, _, _, _, rfl, (RSl.nil RInt 1 G49 none)⟩
       ·have H := ifF hb50 H; refine WC_skip ?_; refine WC_seq ?_; refine WC_seq ?_; refine WC_region ?_; refine WL_val (rn_fld fd72_1 rfl) rfl ?_; refine WL_val (rn_load na70 rfl ((hS.sat.le leG49).cell (hcG38 2 _ rfl))) rfl ?_
        have l4_7 := (leG36.trans leG38).trans leG49
        refine WL_val (rn_len sl70 rfl rfl (h28.mono RTBaneBite_mono l4_7).1) rfl ?_; refine WL_val (rn_move (v := (.int .i64 0)) rfl) rfl ?_; refine WL_nil ?_; obtain ⟨q53, hq53, H⟩ := bnd H; refine WC_cut (fun F w => ∃ (p52 : Unit) (Fb : Fr) (G : Gm), q53 = .inl p52 ∧ F = upds Fb [(3, .pointer (some ⟨b7, 0, none⟩)), (6, .slice as19_0 ns19_0 cs19_0), (7, .pointer (some ⟨b29, 0, none⟩)), (8, .pointer (some ⟨b32, 0, none⟩)), (34, .slice a1 n1 c1), (35, .int .i64 (x0.Fish.length : Int)), (36, .int .i64 s19.2)] ∧ Gle G49 G ∧ Since w0.heap.size G0 w0 G w ∧ Owns G w w0.heap.size [⟨3, 1, ns19_0, .slice as19_0 ns19_0 cs19_0, clas19_0⟩]) ?_ ?_
        ·refine WC_block (WC_loop hq53 (fun s51 F w => ∃ (Fb : Fr) (G : Gm), F = upds Fb [(3, .pointer (some ⟨b7, 0, none⟩)), (6, .slice as19_0 ns19_0 cs19_0), (7, .pointer (some ⟨b29, 0, none⟩)), (8, .pointer (some ⟨b32, 0, none⟩)), (34, .slice a1 n1 c1), (35, .int .i64 (x0.Fish.length : Int)), (36, .int .i64 s19.2), (67, .slice a28 n28 c28), (68, .int .i64 (y26.Bites.length : Int)), (69, .int .i64 s51)] ∧ Gle G49 G ∧ Since w0.heap.size G0 w0 G w ∧ Owns G w w0.heap.size [⟨3, 1, ns19_0, .slice as19_0 ns19_0 cs19_0, clas19_0⟩]) ?_ ?_)
         ·have hO : Owns G49 w48 w0.heap.size ([⟨3, 1, ns19_0, .slice as19_0 ns19_0 cs19_0, clas19_0⟩]) := hO
          exact ⟨_, G49, upds_self _ _ ⟨rfl, rfl, rfl, rfl, rfl, rfl, rfl, rfl, rfl, rfl, trivial⟩, Gle.refl _, hS, hO⟩
         ·rintro s51 F w55 t54 ⟨Fb, G56, rfl, leG56, hS, hO⟩
          intro H1 hqq53
          have Hoq53 := H; have H := H1
          unfold f20_b1 at H
          refine WC_seq ?_; refine WC_region ?_; refine WL_val (rn_lss rfl rfl) rfl ?_; refine WL_nil ?_; refine WC_seq ?_; refine WC_cond rfl (fun hb57 => ?_) (fun hb57 => ?_)
          ·have H := ifT hb57 H; refine WC_skip ?_; refine WC_seq ?_; refine WC_block ?_; refine WC_seq ?_; refine WC_region ?_; refine WL_val (rn_move (v := (.int .i64 s51)) rfl) rfl ?_; obtain ⟨y58, hy58, H⟩ := bnd H
           have l4_8 := l4_7.trans leG56
           refine WL_idx sl70 (h28.mono RTBaneBite_mono l4_8) hy58 rfl rfl rfl ?_
           rintro b59 o59 _ hcb59 _ ⟨⟩
           refine WL_val (rn_loadA ag77 (cs := [.int .i64 y58.Prey, .int .i64 y58.Share.Low, .int .i64 y58.Share.High]) rfl rfl (fun j v hj => hS.sat.cell (hcb59.drop_take 0 3 j v hj))) rfl ?_
           refine WL_op rfl (OpP_newO (v := fun b => .pointer (some ⟨b, 0, none⟩)) (cs := [.int .i64 0, .int .i64 0, .int .i64 0]) (e := 77) (by kernel_rfl) hS.sat hO rfl 3 1 rfl (by decide) (fun b60 w61 hb hO => ?_))
           have hS := hS.keep hb; refine WL_val (rn_assign (v := (.int .i64 s51)) rfl) rfl ?_; refine WL_op rfl (OpP_store (vs := [.int .i64 y58.Prey, .int .i64 y58.Share.Low, .int .i64 y58.Share.High]) sz77 hS hO (k := 0) rfl rfl rfl rfl rfl (one_all rfl) (Nat.le_of_ble_eq_true rfl) (fun w63 hS hO => ?_))
           have hO : Owns G56 w63 w0.heap.size ([⟨77, 3, 1, .slice (some ⟨b60, 0, none⟩) 1 1, [.int .i64 y58.Prey, .int .i64 y58.Share.Low, .int .i64 y58.Share.High]⟩, ⟨3, 1, ns19_0, .slice as19_0 ns19_0 cs19_0, clas19_0⟩]) := hO
           obtain ⟨G64, leG64, hS, hO, hqG64, _⟩ := hO.freeze hS (k := 0) rfl
           have hcG64 : Cells G64 b60 0 [.int .i64 y58.Prey, .int .i64 y58.Share.Low, .int .i64 y58.Share.High] := (hqG64 _ _ _ _ rfl)
           refine WL_nil ?_; refine WC_seq ?_; have hS := hS.keep (below_drew _); have hO := hO.below (below_drew _)
           refine WC_regionD mixedO (fun _ w => Sat G64 w ∧ Owns G64 w w0.heap.size [⟨3, 1, ns19_0, .slice as19_0 ns19_0 cs19_0, clas19_0⟩]) (.fl 0 (.fl 1 (.fl 2 (.fl 3 (.fl 4 (.fl 5 (.fl 6 (.fl 7 (.fl 8 (.fl 9 (.fl 10 (.on 11 (.on 12 (.on 13 (.on 14 (.on 15 .nil)))))))))))))))) (by kernel_rfl) rfl (by kernel_rfl) (fun _ => ⟨hS.sat, hO⟩) ?_
           refine WD_val rfl (fun w hw => rn_fld fd28_1 rfl) rfl ?_; refine WD_val rfl (fun w hw => rn_load na26 rfl ((hw.1.le (((leG16.trans leG24).trans l4_8).trans leG64)).cell (hcb7 1 _ rfl))) rfl ?_; refine WD_val rfl (fun w hw => rn_load na3 rfl ((hw.1.le (((leG38.trans leG49).trans leG56).trans leG64)).cell (hcG36 0 _ rfl))) rfl ?_; obtain ⟨y65, hy65, H⟩ := bnd H
           have l0_9 := (l0_4.trans l4_8).trans leG64
           refine WD_idx rfl sl26 (h3.mono (RSlice_mono RInt_mono) l0_9) hy65 rfl rfl rfl ?_
           rintro b66 o66 _ hcb66 _ ⟨a67, n67, c67, ⟨⟩, h67⟩
           refine WD_val rfl (fun w hw => rn_load na25 rfl (hw.1.cell (hcb66 0 _ rfl))) rfl ?_; refine WD_val rfl (fun w hw => rn_move (v := (.int .i64 s51)) rfl) rfl ?_; obtain ⟨y68, hy68, H⟩ := bnd H; refine WD_idx rfl sl25 h67 hy68 rfl rfl rfl ?_
           rintro b69 o69 _ hcb69 _ ⟨⟩
           refine WD_val rfl (fun w hw => rn_load na3 rfl (hw.1.cell (hcb69 0 _ rfl))) rfl ?_; refine WD_val rfl (fun w hw => rn_fld fd77_1 rfl) rfl ?_; refine WD_val rfl (fun w hw => rn_fld fd43_0 rfl) rfl ?_; refine WD_val rfl (fun w hw => rn_load na3 rfl (hw.1.cell (hcG64 1 _ rfl))) rfl ?_; refine WD_op rfl rfl (OpP_val (rn_fld fd77_1 rfl) rfl ?_); refine ⟨fun _ _ => ⟨hS.sat, hO⟩, ?_⟩; refine WD_op rfl rfl (OpP_val (rn_fld fd43_1 rfl) rfl ?_); refine ⟨fun _ _ => ⟨hS.sat, hO⟩, ?_⟩; refine WD_op rfl rfl (OpP_val (rn_load na3 rfl (hS.sat.cell (hcG64 2 _ rfl))) rfl ?_); refine ⟨fun _ _ => ⟨hS.sat, hO⟩, ?_⟩; obtain ⟨y70, hy70, H⟩ := bnd H; refine WD_op rfl rfl (OpP_callV cb66 (f66_ok (x0 := y68) (x1 := y58.Share.Low) (x2 := y58.Share.High) hS.sat  hy70) rfl rfl (fun w71 hb => ?_)); have hS := hS.keep hb; have hO := hO.below hb
           refine ⟨fun _ h => noneed (by kernel_rfl) h, ?_⟩
           refine WD_op rfl rfl (OpP_val (rn_not rfl) rfl ?_)
           refine ⟨fun _ h => noneed (by kernel_rfl) h, ?_⟩
           refine WD_nil ?_; refine WC_cond rfl (fun hb72 => ?_) (fun hb72 => ?_)
           ·have H := ifT hb72 H; refine WC_seq ?_; refine WC_region ?_; refine WL_val (rn_assign (v := (.slice none 0 0)) rfl) rfl ?_; refine WL_val (rn_assign (v := (.int .i64 2)) rfl) rfl ?_; refine WL_nil ?_; refine WC_ret ?_; have H := Option.some.inj H; subst H
            have hres := hqq53 _ rfl
            subst hres; have H := Hoq53; have H := Option.some.inj H; subst H
            have hres := hqq21 _ rfl
            subst hres; have H := Hoq21
            have H : some ([], 2) = some r := H
            have H := Option.some.inj H; subst H
            exact ⟨_, _, rfl, hS.toGrow, _, _, _, rfl, (RSl.nil RInt 1 G64 none)⟩
           ·have H := ifF hb72 H; refine WC_skip ?_; refine WC_region ?_; refine WL_val (rn_add rfl rfl) rfl ?_; refine WL_val (rn_move (v := (.int .i64 (IntKind.i64.wrap (s51 + 1)))) rfl) rfl ?_; refine WL_nil ?_
            have hO : Owns G64 w71 w0.heap.size ([⟨3, 1, ns19_0, .slice as19_0 ns19_0 cs19_0, clas19_0⟩]) := hO
            have H := Option.some.inj H; subst H; refine ⟨_, rfl, ?_⟩
            have l7_9 := leG56.trans leG64
            exact ⟨_, G64, upds_self _ _ ⟨rfl, rfl, rfl, rfl, rfl, rfl, rfl, rfl, rfl, rfl, trivial⟩, l7_9, hS, hO⟩
          ·have H := ifF hb57 H; refine WC_exit rfl ?_
           have hO : Owns G56 w55 w0.heap.size ([⟨3, 1, ns19_0, .slice as19_0 ns19_0 cs19_0, clas19_0⟩]) := hO
           have H := Option.some.inj H; subst H
           have hres := hqq53 _ rfl
           subst hres
           exact ⟨_, _, G56, rfl, upds_self _ _ ⟨rfl, rfl, rfl, rfl, rfl, rfl, rfl, trivial⟩, leG56, hS, hO⟩
        ·rintro F w73 ⟨p52, Fb, G74, rfl, rfl, leG74, hS, hO⟩
         refine WC_seq ?_; have hS := hS.keep (below_drew _); have hO := hO.below (below_drew _)
         refine WC_regionD mixedO (fun _ w => Sat G74 w ∧ Owns G74 w w0.heap.size [⟨3, 1, ns19_0, .slice as19_0 ns19_0 cs19_0, clas19_0⟩]) (.fl 0 (.fl 1 (.fl 2 (.fl 3 (.fl 4 (.fl 5 (.fl 6 (.on 7 (.on 8 (.on 9 .nil)))))))))) (by kernel_rfl) rfl (by kernel_rfl) (fun _ => ⟨hS.sat, hO⟩) ?_
         refine WD_val rfl (fun w hw => rn_loadA ag72 (cs := [.int .i64 y26.Base.Low, .int .i64 y26.Base.High, .slice a28 n28 c28, .int .i64 y26.Pass, .int .i64 y26.Cost]) rfl rfl (fun j v hj => (hw.1.le (leG49.trans leG74)).cell (hcG38.drop_take 0 5 j v hj))) rfl ?_; refine WD_val rfl (fun w hw => rn_fld fd28_0 rfl) rfl ?_; refine WD_val rfl (fun w hw => rn_load na25 rfl ((hw.1.le (((leG16.trans leG24).trans l4_7).trans leG74)).cell (hcb7 0 _ rfl))) rfl ?_; refine WD_val rfl (fun w hw => rn_load na3 rfl ((hw.1.le ((leG38.trans leG49).trans leG74)).cell (hcG36 0 _ rfl))) rfl ?_; obtain ⟨y75, hy75, H⟩ := bnd H
         have l0_8 := (l0_4.trans l4_7).trans leG74
         refine WD_idx rfl sl25 (h2.mono RInt_mono l0_8) hy75 rfl rfl rfl ?_
         rintro b76 o76 _ hcb76 _ ⟨⟩
         refine WD_val rfl (fun w hw => rn_load na3 rfl (hw.1.cell (hcb76 0 _ rfl))) rfl ?_; refine WD_val rfl (fun w hw => rn_move (v := (.slice as19_0 ns19_0 cs19_0)) rfl) rfl ?_
         have l2_8 := ((leG16.trans leG24).trans l4_7).trans leG74
         have l5_8 := (leG38.trans leG49).trans leG74
         have hF77 : FnOk101 G74 68 [] [.pointer (some ⟨b7, 0, none⟩), .pointer (some ⟨b29, 0, none⟩)] (fun (z0 : Int) => f68 z0 x1 s19.2) := ⟨cb68, fun G1 W1 hl hw z0 r1 H1 => f68_ok (x0 := z0) (x1 := x1) (x2 := s19.2) hw ((hcb7.mono l2_8).mono hl) ((h2.mono RInt_mono l0_8).mono RInt_mono hl) ((h3.mono (RSlice_mono RInt_mono) l0_8).mono (RSlice_mono RInt_mono) hl) ((hcG36.mono l5_8).mono hl) H1⟩
         refine WD_op rfl rfl (OpP_val (rn_func (vs := []) (us := [.pointer (some ⟨b7, 0, none⟩), .pointer (some ⟨b29, 0, none⟩)]) rfl rfl) rfl ?_); refine ⟨fun _ _ => ⟨hS.sat, hO⟩, ?_⟩; obtain ⟨y78, hy78, H⟩ := bnd H
         have l4_8 := l4_7.trans leG74
         obtain ⟨Gv79, leGv79, hSGv79, hOGv79, hvGv79⟩ := hO.freezeS hS RInt_mono (k := 0) rfl (hs19_0.mono RInt_mono l4_8) hnhs19_0; refine WD_op rfl rfl (OpP_callV cb67 (f67_ok (x0 := y26) (x1 := y75) (x2 := s19.1) (x3 := (fun (z0 : Int) => f68 z0 x1 s19.2)) hSGv79.sat ((h28.mono RTBaneBite_mono l4_8).mono RTBaneBite_mono leGv79) hvGv79 (hF77.mono leGv79) hy78) rfl rfl (fun w80 hb => ?_)); have hS := hS.keep hb; have hO := hO.below hb
         refine ⟨fun _ h => noneed (by kernel_rfl) h, ?_⟩
         refine WD_op rfl rfl (OpP_val (rn_assign (v := (.int .i64 y78)) rfl) rfl ?_)
         refine ⟨fun _ h => noneed (by kernel_rfl) h, ?_⟩
         refine WD_nil ?_; refine WC_region ?_; refine WL_val (rn_move (v := (.slice as19_0 ns19_0 cs19_0)) rfl) rfl ?_; refine WL_val (rn_move (v := (.int .i64 y78)) rfl) rfl ?_
         refine WL_op rfl (OpP_newF (v := fun b => .slice (some ⟨b, 0, none⟩) 1 1) (cs := [.int .i64 y78]) (e := 3) (by kernel_rfl) hS.sat rfl (fun b81 G83 w82 hg hcb81 => ?_))
         have hS := hS.grow hg; have hO := hO.grow hg
         have leG83 := hg.le
         have hfb81 : RSl RInt 1 G83 (some ⟨b81, 0, none⟩) 1 1 [y78] := RSl.of_rd hcb81 (Rd.cons (c := [.int .i64 y78]) rfl rfl (Rd.nil RInt 1 _)) rfl (by decide)
         obtain ⟨y84, hy84, H⟩ := bnd H
         have l4_9 := l4_8.trans leG83
         refine WL_op rfl (OpP_append (k := 0) sl25 RInt_one hS hO rfl hnhs19_0 (hs19_0.mono RInt_mono l4_9) hfb81 hy84 rfl rfl rfl rfl rfl (fun aw85 cw85 w85 clw85 hS hO hrw85 => ?_))
         have hO : Owns G83 w85 w0.heap.size ([⟨3, 1, y84.length, .slice aw85 y84.length cw85, clw85⟩]) := hO
         refine WL_val (rn_assign (v := (.slice aw85 y84.length cw85)) rfl) rfl ?_; refine WL_nil ?_; refine WC_region ?_; refine WL_val (rn_add rfl rfl) rfl ?_; refine WL_val (rn_move (v := (.int .i64 (IntKind.i64.wrap (s19.2 + 1)))) rfl) rfl ?_; refine WL_nil ?_
         have hO : Owns G83 w85 w0.heap.size ([⟨3, 1, y84.length, .slice aw85 y84.length cw85, clw85⟩]) := hO
         have H := Option.some.inj H; subst H; refine ⟨_, rfl, ?_⟩
         have l3_9 := leG24.trans l4_9
         exact ⟨_, G83, aw85, y84.length, cw85, clw85, upds_self _ _ ⟨rfl, rfl, rfl, rfl, rfl, trivial⟩, l3_9, hS, hO, rfl, hrw85⟩
     ·have H := ifF hb25 H; refine WC_exit rfl ?_
      have hO : Owns G24 w23 w0.heap.size ([⟨3, 1, ns19_0, .slice as19_0 ns19_0 cs19_0, clas19_0⟩]) := hO
      have H := Option.some.inj H; subst H
      have hres := hqq21 _ rfl
      subst hres
      exact ⟨_, _, G24, as19_0, ns19_0, cs19_0, clas19_0, rfl, upds_self _ _ ⟨rfl, trivial⟩, leG24, hS, hO, hnhs19_0, hs19_0⟩
   ·rintro F w87 ⟨p20, Fb, G88, ap20_0, np20_0, cp20_0, clap20_0, rfl, rfl, leG88, hS, hO, hnhp20_0, hp20_0⟩
    refine WC_seq ?_; refine WC_region ?_; refine WL_val (rn_move (v := (.slice ap20_0 np20_0 cp20_0)) rfl) rfl ?_; refine WL_val (rn_assign (v := (.slice ap20_0 np20_0 cp20_0)) rfl) rfl ?_; refine WL_val (rn_assign (v := (.int .i64 0)) rfl) rfl ?_; refine WL_nil ?_; refine WC_ret ?_; obtain ⟨G89, leG89, hS, hO, hfG89⟩ := hO.freezeS hS RInt_mono (k := 0) rfl hp20_0 hnhp20_0
    have H : some (p20, 0) = some r := H
    have H := Option.some.inj H; subst H
    exact ⟨_, _, rfl, hS.toGrow, _, _, _, rfl, hfG89⟩
set_option maxHeartbeats 1000000 in
theorem f23_ok {G0 : Gm} {w0 : World} (hS0 : Sat G0 w0) {x0 : (List Int)} {a1 : Option Addr} {n1 c1 : Nat} {x1 : (List Int)} {a2 : Option Addr} {n2 c2 : Nat} (h1 : RSl RInt 1 G0 a1 n1 c1 x0) (h2 : RSl RInt 1 G0 a2 n2 c2 x1) {r : Bool} (H : f23 x0 x1 = some r) :
  Calls Try.prog 23 #[.slice a1 n1 c1, .slice a2 n2 c2] w0 (RetV w0 (.bool r)) := by
 have hS := Since.start hS0
 have hO : Owns G0 w0 w0.heap.size [] := Owns.nil (Nat.le_refl _)
 unfold f23 at H
 refine enter1 (N := 26) (shutV _ _) Try.func23 rfl rfl rfl rfl ?_; refine WC_seq ?_; refine WC_region ?_; refine WL_val (rn_assign (v := (.bool false)) rfl) rfl ?_; refine WL_nil ?_; refine WC_seq ?_; refine WC_seq ?_; refine WC_region ?_; refine WL_val (rn_move (v := (.slice a1 n1 c1)) rfl) rfl ?_; refine WL_val (rn_len sl25 rfl rfl h1.1) rfl ?_; refine WL_val (rn_move (v := (.slice a2 n2 c2)) rfl) rfl ?_; refine WL_val (rn_len sl25 rfl rfl h2.1) rfl ?_; refine WL_val (rn_neq rfl rfl) rfl ?_; refine WL_nil ?_; refine WC_cond rfl (fun hb3 => ?_) (fun hb3 => ?_)
 ·have H := ifT hb3 H; refine WC_seq ?_; refine WC_region ?_; refine WL_val (rn_assign (v := (.bool false)) rfl) rfl ?_; refine WL_nil ?_; refine WC_ret ?_
  have H : some false = some r := H
  have H := Option.some.inj H; subst H
  exact ⟨rfl, hS.below⟩
 ·have H := ifF hb3 H; refine WC_skip ?_; refine WC_seq ?_; refine WC_seq ?_; refine WC_region ?_; refine WL_val (rn_assign (v := (.int .i64 0)) rfl) rfl ?_; refine WL_nil ?_; obtain ⟨q6, hq6, H⟩ := bnd H; refine WC_cut (fun F w => ∃ (p5 : Unit) (Fb : Fr) (G : Gm), q6 = .inl p5 ∧ F = upds Fb [] ∧ Gle G0 G ∧ Since w0.heap.size G0 w0 G w ∧ Owns G w w0.heap.size []) ?_ ?_
  ·refine WC_block (WC_loop hq6 (fun s4 F w => ∃ (Fb : Fr) (G : Gm), F = upds Fb [(0, .slice a1 n1 c1), (1, .slice a2 n2 c2), (5, .int .i64 s4)] ∧ Gle G0 G ∧ Since w0.heap.size G0 w0 G w ∧ Owns G w w0.heap.size []) ?_ ?_)
   ·have hO : Owns G0 w0 w0.heap.size ([]) := hO
    exact ⟨_, G0, upds_self _ _ ⟨rfl, rfl, rfl, trivial⟩, Gle.refl _, hS, hO⟩
   ·rintro s4 F w8 t7 ⟨Fb, G9, rfl, leG9, hS, hO⟩
    intro H1 hqq6
    have Hoq6 := H; have H := H1
    unfold f23_b0 at H
    refine WC_seq ?_; refine WC_seq ?_; refine WC_region ?_; refine WL_val (rn_move (v := (.int .i64 s4)) rfl) rfl ?_; refine WL_val (rn_move (v := (.slice a1 n1 c1)) rfl) rfl ?_; refine WL_val (rn_len sl25 rfl rfl (h1.mono RInt_mono leG9).1) rfl ?_; refine WL_val (rn_lss rfl rfl) rfl ?_; refine WL_nil ?_; refine WC_cond rfl (fun hb10 => ?_) (fun hb10 => ?_)
    ·have H := ifT hb10 H; refine WC_skip ?_; refine WC_seq ?_; refine WC_block ?_; refine WC_seq ?_; have hS := hS.keep (below_drew _); have hO := hO.below (below_drew _)
     refine WC_regionD mixedO (fun _ w => Sat G9 w ∧ True) (.fl 0 (.fl 1 (.fl 2 (.fl 3 (.fl 4 (.on 5 (.on 6 (.on 7 (.on 8 .nil))))))))) (by kernel_rfl) rfl (by kernel_rfl) (fun _ => ⟨hS.sat, trivial⟩) ?_
     refine WD_val rfl (fun w hw => rn_move (v := (.slice a1 n1 c1)) rfl) rfl ?_; refine WD_val rfl (fun w hw => rn_move (v := (.int .i64 s4)) rfl) rfl ?_; obtain ⟨y11, hy11, H⟩ := bnd H; refine WD_idx rfl sl25 (h1.mono RInt_mono leG9) hy11 rfl rfl rfl ?_
     rintro b12 o12 _ hcb12 _ ⟨⟩
     refine WD_val rfl (fun w hw => rn_load na3 rfl (hw.1.cell (hcb12 0 _ rfl))) rfl ?_; refine WD_val rfl (fun w hw => rn_move (v := (.slice a2 n2 c2)) rfl) rfl ?_; refine WD_op rfl rfl (OpP_val (rn_move (v := (.int .i64 s4)) rfl) rfl ?_); refine ⟨fun _ _ => ⟨hS.sat, trivial⟩, ?_⟩; obtain ⟨y13, hy13, H⟩ := bnd H; refine WD_op rfl rfl (OpP_idx sl25 (h2.mono RInt_mono leG9) hy13 rfl rfl rfl ?_)
     rintro b14 o14 _ hcb14 _ ⟨⟩
     refine ⟨fun _ _ => ⟨hS.sat, trivial⟩, ?_⟩; refine WD_op rfl rfl (OpP_val (rn_load na3 rfl (hS.sat.cell (hcb14 0 _ rfl))) rfl ?_); refine ⟨fun _ _ => ⟨hS.sat, trivial⟩, ?_⟩; refine WD_op rfl rfl (OpP_val (rn_neq rfl rfl) rfl ?_)
     refine ⟨fun _ h => noneed (by kernel_rfl) h, ?_⟩
     refine WD_nil ?_; refine WC_cond rfl (fun hb15 => ?_) (fun hb15 => ?_)
     ·have H := ifT hb15 H; refine WC_seq ?_; refine WC_region ?_; refine WL_val (rn_assign (v := (.bool false)) rfl) rfl ?_; refine WL_nil ?_; refine WC_ret ?_; have H := Option.some.inj H; subst H
      have hres := hqq6 _ rfl
      subst hres; have H := Hoq6
      have H : some false = some r := H
      have H := Option.some.inj H; subst H
      exact ⟨rfl, hS.below⟩
     ·have H := ifF hb15 H; refine WC_skip ?_; refine WC_region ?_; refine WL_val (rn_move (v := (.int .i64 s4)) rfl) rfl ?_; refine WL_val (rn_add rfl rfl) rfl ?_; refine WL_val (rn_assign (v := (.int .i64 (IntKind.i64.wrap (s4 + 1)))) rfl) rfl ?_; refine WL_nil ?_
      have hO : Owns G9 w8.drew w0.heap.size ([]) := hO
      have H := Option.some.inj H; subst H; refine ⟨_, rfl, ?_⟩
      exact ⟨_, G9, upds_self _ _ ⟨rfl, rfl, rfl, trivial⟩, leG9, hS, hO⟩
    ·have H := ifF hb10 H; refine WC_exit rfl ?_
     have hO : Owns G9 w8 w0.heap.size ([]) := hO
     have H := Option.some.inj H; subst H
     have hres := hqq6 _ rfl
     subst hres
     exact ⟨_, _, G9, rfl, rfl, leG9, hS, hO⟩
  ·rintro F w16 ⟨p5, Fb, G17, rfl, rfl, leG17, hS, hO⟩
   refine WC_seq ?_; refine WC_region ?_; refine WL_val (rn_assign (v := (.bool true)) rfl) rfl ?_; refine WL_nil ?_; refine WC_ret ?_
   have H : some true = some r := H
   have H := Option.some.inj H; subst H
   exact ⟨rfl, hS.below⟩
set_option maxHeartbeats 1000000 in
theorem f97_ok {G0 : Gm} {w0 : World} (hS0 : Sat G0 w0) {x0 : Int} {x1 : TBaneFish} {bq1 : Nat} {a1 : Option Addr} {n1 c1 : Nat} (hcq1 : Cells G0 bq1 0 [.int .i64 x1.Base.Low, .int .i64 x1.Base.High, .slice a1 n1 c1, .int .i64 x1.Pass, .int .i64 x1.Cost]) (h1 : RSl RTBaneBite 3 G0 a1 n1 c1 x1.Bites) {r : Int} (H : f97 x0 x1 = some r) :
  Calls Try.prog 97 #[.int .i64 x0, .pointer (some ⟨bq1, 0, none⟩)] w0 (RetV w0 (.int .i64 r)) := by
 have hS := Since.start hS0
 have hO : Owns G0 w0 w0.heap.size [] := Owns.nil (Nat.le_refl _)
 unfold f97 at H
 refine enter1 (N := 11) (shutV _ _) Try.func97 rfl rfl rfl rfl ?_; refine WC_seq ?_; refine WC_region ?_; refine WL_val (rn_assign (v := (.int .i64 0)) rfl) rfl ?_; refine WL_nil ?_; refine WC_seq ?_; refine WC_region ?_; refine WL_val (rn_fld fd72_1 rfl) rfl ?_; refine WL_val (rn_load na70 rfl (hS.sat.cell (hcq1 2 _ rfl))) rfl ?_; refine WL_val (rn_move (v := (.int .i64 x0)) rfl) rfl ?_; obtain ⟨y2, hy2, H⟩ := bnd H; refine WL_idx sl70 h1 hy2 rfl rfl rfl ?_
 rintro b3 o3 _ hcb3 _ ⟨⟩
 refine WL_val (rn_fld fd77_1 rfl) rfl ?_; refine WL_val (rn_fld fd43_0 rfl) rfl ?_; refine WL_val (rn_load na3 rfl (hS.sat.cell (hcb3 1 _ rfl))) rfl ?_; refine WL_val (rn_assign (v := (.int .i64 y2.Share.Low)) rfl) rfl ?_; refine WL_nil ?_; refine WC_ret ?_
 have H : some y2.Share.Low = some r := H
 have H := Option.some.inj H; subst H
 exact ⟨rfl, hS.below⟩
set_option maxHeartbeats 1000000 in
theorem f71_ok {G0 : Gm} {w0 : World} (hS0 : Sat G0 w0) {x0 : TWeb} {a1 : Option Addr} {n1 c1 : Nat} (h1 : RSl RTBaneFish 5 G0 a1 n1 c1 x0.BaneWeb.Fish) {r : (List Int)} (H : f71 x0 = some r) :
  Calls Try.prog 71 #[.agg #[.slice a1 n1 c1, .int .i64 x0.BaneWeb.Limit, .int .i64 x0.tests]] w0 (RetG G0 w0 (fun G v => ∃ (ra0 : Option Addr) (rn0 rc0 : Nat), v = .slice ra0 rn0 rc0 ∧ RSl RInt 1 G ra0 rn0 rc0 r)) := by
 have hS := Since.start hS0
 have hO : Owns G0 w0 w0.heap.size [] := Owns.nil (Nat.le_refl _)
 unfold f71 at H
 refine enter1 (N := 28) (shutG _ _ _) Try.func71 rfl rfl rfl rfl ?_; refine WC_seq ?_; refine WC_region ?_; refine WL_op rfl (OpP_newF (v := fun b => .pointer (some ⟨b, 0, none⟩)) (cs := [.slice a1 n1 c1, .int .i64 x0.BaneWeb.Limit, .int .i64 x0.tests]) (e := 104) (rn_boxA rfl) hS.sat rfl (fun b2 G4 w3 hg hcb2 => ?_)); have hS := hS.grow hg; have hO := hO.grow hg
 have leG4 := hg.le
 refine WL_val (rn_assign (v := (.slice none 0 0)) rfl) rfl ?_; refine WL_nil ?_; refine WC_seq ?_; refine WC_region ?_; refine WL_val (rn_assign (v := (.slice none 0 0)) rfl) rfl ?_; refine WL_nil ?_; refine WC_seq ?_; refine WC_seq ?_; refine WC_region ?_; refine WL_val (rn_fld fd104_0 rfl) rfl ?_; refine WL_val (rn_fld fd24_0 rfl) rfl ?_; refine WL_val (rn_load na22 rfl (hS.sat.cell (hcb2 0 _ rfl))) rfl ?_; refine WL_val (rn_len sl22 rfl rfl (h1.mono RTBaneFish_mono leG4).1) rfl ?_; refine WL_val (rn_move (v := (.int .i64 0)) rfl) rfl ?_; refine WL_nil ?_; have hO := hO.cons_nil 3 1; obtain ⟨q8, hq8, H⟩ := bnd H; refine WC_cut (fun F w => ∃ (Fb : Fr) (G : Gm) (aq8_0 : Option Addr) (nq8_0 cq8_0 : Nat) (claq8_0 : List Value), F = upds Fb [(3, .slice aq8_0 nq8_0 cq8_0)] ∧ Gle G4 G ∧ Since w0.heap.size G0 w0 G w ∧ Owns G w w0.heap.size [⟨3, 1, nq8_0, .slice aq8_0 nq8_0 cq8_0, claq8_0⟩] ∧ nq8_0 = q8.length ∧ Rd RInt 1 G claq8_0 q8) ?_ ?_
 ·refine WC_block (WC_loop hq8 (fun s6 F w => ∃ (Fb : Fr) (G : Gm) (as6_0 : Option Addr) (ns6_0 cs6_0 : Nat) (clas6_0 : List Value), F = upds Fb [(3, .slice as6_0 ns6_0 cs6_0), (9, .slice a1 n1 c1), (10, .int .i64 (x0.BaneWeb.Fish.length : Int)), (11, .int .i64 s6.2)] ∧ Gle G4 G ∧ Since w0.heap.size G0 w0 G w ∧ Owns G w w0.heap.size [⟨3, 1, ns6_0, .slice as6_0 ns6_0 cs6_0, clas6_0⟩] ∧ ns6_0 = s6.1.length ∧ Rd RInt 1 G clas6_0 s6.1) ?_ ?_)
  ·have hO : Owns G4 w3 w0.heap.size ([⟨3, 1, 0, .slice none 0 0, []⟩]) := hO
   exact ⟨_, G4, none, 0, 0, [], upds_self _ _ ⟨rfl, rfl, rfl, rfl, trivial⟩, Gle.refl _, hS, hO, rfl, (Rd.nil RInt 1 G4)⟩
  ·rintro s6 F w10 t9 ⟨Fb, G11, as6_0, ns6_0, cs6_0, clas6_0, rfl, leG11, hS, hO, hnhs6_0, hs6_0⟩
   intro H1 hqq8
   have Hoq8 := H; have H := H1
   unfold f71_b0 at H
   refine WC_seq ?_; refine WC_region ?_; refine WL_val (rn_lss rfl rfl) rfl ?_; refine WL_nil ?_; refine WC_seq ?_; refine WC_cond rfl (fun hb12 => ?_) (fun hb12 => ?_)
   ·have H := ifT hb12 H; refine WC_skip ?_; refine WC_seq ?_; refine WC_block ?_; refine WC_seq ?_; refine WC_region ?_; obtain ⟨y13, hy13, H⟩ := bnd H
    have l0_2 := leG4.trans leG11
    refine WL_idx sl22 (h1.mono RTBaneFish_mono l0_2) hy13 rfl rfl rfl ?_
    rintro b14 o14 _ hcb14 _ ⟨a15, n15, c15, ⟨⟩, h15⟩
    refine WL_val (rn_loadA ag72 (cs := [.int .i64 y13.Base.Low, .int .i64 y13.Base.High, .slice a15 n15 c15, .int .i64 y13.Pass, .int .i64 y13.Cost]) rfl rfl (fun j v hj => hS.sat.cell (hcb14.drop_take 0 5 j v hj))) rfl ?_
    refine WL_op rfl (OpP_newO (v := fun b => .pointer (some ⟨b, 0, none⟩)) (cs := [.int .i64 0, .int .i64 0, .slice none 0 0, .int .i64 0, .int .i64 0]) (e := 72) (by kernel_rfl) hS.sat hO rfl 5 1 rfl (by decide) (fun b16 w17 hb hO => ?_))
    have hS := hS.keep hb; refine WL_op rfl (OpP_store (vs := [.int .i64 y13.Base.Low, .int .i64 y13.Base.High, .slice a15 n15 c15, .int .i64 y13.Pass, .int .i64 y13.Cost]) sz72 hS hO (k := 0) rfl rfl rfl rfl rfl (one_all rfl) (Nat.le_of_ble_eq_true rfl) (fun w19 hS hO => ?_))
    have hO : Owns G11 w19 w0.heap.size ([⟨72, 5, 1, .slice (some ⟨b16, 0, none⟩) 1 1, [.int .i64 y13.Base.Low, .int .i64 y13.Base.High, .slice a15 n15 c15, .int .i64 y13.Pass, .int .i64 y13.Cost]⟩, ⟨3, 1, ns6_0, .slice as6_0 ns6_0 cs6_0, clas6_0⟩]) := hO
    obtain ⟨G20, leG20, hS, hO, hqG20, _⟩ := hO.freeze hS (k := 0) rfl
    have hcG20 : Cells G20 b16 0 [.int .i64 y13.Base.Low, .int .i64 y13.Base.High, .slice a15 n15 c15, .int .i64 y13.Pass, .int .i64 y13.Cost] := (hqG20 _ _ _ _ rfl)
    refine WL_nil ?_; refine WC_seq ?_; refine WC_region ?_; refine WL_val (rn_loadA ag72 (cs := [.int .i64 y13.Base.Low, .int .i64 y13.Base.High, .slice a15 n15 c15, .int .i64 y13.Pass, .int .i64 y13.Cost]) rfl rfl (fun j v hj => hS.sat.cell (hcG20.drop_take 0 5 j v hj))) rfl ?_; refine WL_val (rn_fld fd72_0 rfl) rfl ?_; refine WL_val (rn_fld fd43_0 rfl) rfl ?_; refine WL_val (rn_load na3 rfl (hS.sat.cell (hcG20 0 _ rfl))) rfl ?_; refine WL_val (rn_move (v := (.slice as6_0 ns6_0 cs6_0)) rfl) rfl ?_
    have hF21 : FnOk101 G20 97 [] [.pointer (some ⟨b16, 0, none⟩)] (fun (z0 : Int) => f97 z0 y13) := ⟨cb97, fun G1 W1 hl hw z0 r1 H1 => f97_ok (x0 := z0) (x1 := y13) hw (hcG20.mono hl) ((h15.mono RTBaneBite_mono leG20).mono RTBaneBite_mono hl) H1⟩
    refine WL_val (rn_func (vs := []) (us := [.pointer (some ⟨b16, 0, none⟩)]) rfl rfl) rfl ?_; obtain ⟨y22, hy22, H⟩ := bnd H; obtain ⟨Gv23, leGv23, hSGv23, hOGv23, hvGv23⟩ := hO.freezeS hS RInt_mono (k := 0) rfl (hs6_0.mono RInt_mono leG20) hnhs6_0; refine WL_op rfl (OpP_callV cb67 (f67_ok (x0 := y13) (x1 := y13.Base.Low) (x2 := s6.1) (x3 := (fun (z0 : Int) => f97 z0 y13)) hSGv23.sat ((h15.mono RTBaneBite_mono leG20).mono RTBaneBite_mono leGv23) hvGv23 (hF21.mono leGv23) hy22) rfl rfl (fun w24 hb => ?_)); have hS := hS.keep hb; have hO := hO.below hb; refine WL_val (rn_assign (v := (.int .i64 y22)) rfl) rfl ?_; refine WL_nil ?_; refine WC_region ?_; refine WL_val (rn_move (v := (.slice as6_0 ns6_0 cs6_0)) rfl) rfl ?_; refine WL_val (rn_move (v := (.int .i64 y22)) rfl) rfl ?_
    refine WL_op rfl (OpP_newF (v := fun b => .slice (some ⟨b, 0, none⟩) 1 1) (cs := [.int .i64 y22]) (e := 3) (by kernel_rfl) hS.sat rfl (fun b25 G27 w26 hg hcb25 => ?_))
    have hS := hS.grow hg; have hO := hO.grow hg
    have leG27 := hg.le
    have hfb25 : RSl RInt 1 G27 (some ⟨b25, 0, none⟩) 1 1 [y22] := RSl.of_rd hcb25 (Rd.cons (c := [.int .i64 y22]) rfl rfl (Rd.nil RInt 1 _)) rfl (by decide)
    obtain ⟨y28, hy28, H⟩ := bnd H
    have l2_4 := leG20.trans leG27
    refine WL_op rfl (OpP_append (k := 0) sl25 RInt_one hS hO rfl hnhs6_0 (hs6_0.mono RInt_mono l2_4) hfb25 hy28 rfl rfl rfl rfl rfl (fun aw29 cw29 w29 clw29 hS hO hrw29 => ?_))
    have hO : Owns G27 w29 w0.heap.size ([⟨3, 1, y28.length, .slice aw29 y28.length cw29, clw29⟩]) := hO
    refine WL_val (rn_assign (v := (.slice aw29 y28.length cw29)) rfl) rfl ?_; refine WL_nil ?_; refine WC_region ?_; refine WL_val (rn_add rfl rfl) rfl ?_; refine WL_val (rn_move (v := (.int .i64 (IntKind.i64.wrap (s6.2 + 1)))) rfl) rfl ?_; refine WL_nil ?_
    have hO : Owns G27 w29 w0.heap.size ([⟨3, 1, y28.length, .slice aw29 y28.length cw29, clw29⟩]) := hO
    have H := Option.some.inj H; subst H; refine ⟨_, rfl, ?_⟩
    have l1_4 := leG11.trans l2_4
    exact ⟨_, G27, aw29, y28.length, cw29, clw29, upds_self _ _ ⟨rfl, rfl, rfl, rfl, trivial⟩, l1_4, hS, hO, rfl, hrw29⟩
   ·have H := ifF hb12 H; refine WC_exit rfl ?_
    have hO : Owns G11 w10 w0.heap.size ([⟨3, 1, ns6_0, .slice as6_0 ns6_0 cs6_0, clas6_0⟩]) := hO
    have H := Option.some.inj H; subst H
    have hres := hqq8 _ rfl
    subst hres
    exact ⟨_, G11, as6_0, ns6_0, cs6_0, clas6_0, upds_self _ _ ⟨rfl, trivial⟩, leG11, hS, hO, hnhs6_0, hs6_0⟩
 ·rintro F w30 ⟨Fb, G31, aq8_0, nq8_0, cq8_0, claq8_0, rfl, leG31, hS, hO, hnhq8_0, hq8_0⟩
  refine WC_seq ?_; refine WC_region ?_; refine WL_val (rn_move (v := (.slice aq8_0 nq8_0 cq8_0)) rfl) rfl ?_; refine WL_val (rn_assign (v := (.slice aq8_0 nq8_0 cq8_0)) rfl) rfl ?_; refine WL_nil ?_; refine WC_ret ?_; obtain ⟨G32, leG32, hS, hO, hfG32⟩ := hO.freezeS hS RInt_mono (k := 0) rfl hq8_0 hnhq8_0
  have H : some q8 = some r := H
  have H := Option.some.inj H; subst H
  exact ⟨_, _, rfl, hS.toGrow, _, _, _, rfl, hfG32⟩
set_option maxHeartbeats 1000000 in
theorem f98_ok {G0 : Gm} {w0 : World} (hS0 : Sat G0 w0) {x0 : Int} {x1 : TBaneFish} {bq1 : Nat} {a1 : Option Addr} {n1 c1 : Nat} (hcq1 : Cells G0 bq1 0 [.int .i64 x1.Base.Low, .int .i64 x1.Base.High, .slice a1 n1 c1, .int .i64 x1.Pass, .int .i64 x1.Cost]) (h1 : RSl RTBaneBite 3 G0 a1 n1 c1 x1.Bites) {r : Int} (H : f98 x0 x1 = some r) :
  Calls Try.prog 98 #[.int .i64 x0, .pointer (some ⟨bq1, 0, none⟩)] w0 (RetV w0 (.int .i64 r)) := by
 have hS := Since.start hS0
 have hO : Owns G0 w0 w0.heap.size [] := Owns.nil (Nat.le_refl _)
 unfold f98 at H
 refine enter1 (N := 11) (shutV _ _) Try.func98 rfl rfl rfl rfl ?_; refine WC_seq ?_; refine WC_region ?_; refine WL_val (rn_assign (v := (.int .i64 0)) rfl) rfl ?_; refine WL_nil ?_; refine WC_seq ?_; refine WC_region ?_; refine WL_val (rn_fld fd72_1 rfl) rfl ?_; refine WL_val (rn_load na70 rfl (hS.sat.cell (hcq1 2 _ rfl))) rfl ?_; refine WL_val (rn_move (v := (.int .i64 x0)) rfl) rfl ?_; obtain ⟨y2, hy2, H⟩ := bnd H; refine WL_idx sl70 h1 hy2 rfl rfl rfl ?_
 rintro b3 o3 _ hcb3 _ ⟨⟩
 refine WL_val (rn_fld fd77_1 rfl) rfl ?_; refine WL_val (rn_fld fd43_1 rfl) rfl ?_; refine WL_val (rn_load na3 rfl (hS.sat.cell (hcb3 2 _ rfl))) rfl ?_; refine WL_val (rn_assign (v := (.int .i64 y2.Share.High)) rfl) rfl ?_; refine WL_nil ?_; refine WC_ret ?_
 have H : some y2.Share.High = some r := H
 have H := Option.some.inj H; subst H
 exact ⟨rfl, hS.below⟩
set_option maxHeartbeats 1000000 in
theorem f72_ok {G0 : Gm} {w0 : World} (hS0 : Sat G0 w0) {x0 : TWeb} {a1 : Option Addr} {n1 c1 : Nat} (h1 : RSl RTBaneFish 5 G0 a1 n1 c1 x0.BaneWeb.Fish) {r : (List Int)} (H : f72 x0 = some r) :
  Calls Try.prog 72 #[.agg #[.slice a1 n1 c1, .int .i64 x0.BaneWeb.Limit, .int .i64 x0.tests]] w0 (RetG G0 w0 (fun G v => ∃ (ra0 : Option Addr) (rn0 rc0 : Nat), v = .slice ra0 rn0 rc0 ∧ RSl RInt 1 G ra0 rn0 rc0 r)) := by
 have hS := Since.start hS0
 have hO : Owns G0 w0 w0.heap.size [] := Owns.nil (Nat.le_refl _)
 unfold f72 at H
 refine enter1 (N := 39) (shutG _ _ _) Try.func72 rfl rfl rfl rfl ?_; refine WC_seq ?_; refine WC_region ?_; refine WL_op rfl (OpP_newF (v := fun b => .pointer (some ⟨b, 0, none⟩)) (cs := [.slice a1 n1 c1, .int .i64 x0.BaneWeb.Limit, .int .i64 x0.tests]) (e := 104) (rn_boxA rfl) hS.sat rfl (fun b2 G4 w3 hg hcb2 => ?_)); have hS := hS.grow hg; have hO := hO.grow hg
 have leG4 := hg.le
 refine WL_val (rn_assign (v := (.slice none 0 0)) rfl) rfl ?_; refine WL_nil ?_; refine WC_seq ?_; refine WC_region ?_; refine WL_val (rn_assign (v := (.slice none 0 0)) rfl) rfl ?_; refine WL_nil ?_; refine WC_seq ?_; refine WC_seq ?_; refine WC_region ?_; refine WL_val (rn_fld fd104_0 rfl) rfl ?_; refine WL_val (rn_fld fd24_0 rfl) rfl ?_; refine WL_val (rn_load na22 rfl (hS.sat.cell (hcb2 0 _ rfl))) rfl ?_; refine WL_val (rn_len sl22 rfl rfl (h1.mono RTBaneFish_mono leG4).1) rfl ?_; refine WL_val (rn_move (v := (.int .i64 0)) rfl) rfl ?_; refine WL_nil ?_; have hO := hO.cons_nil 3 1; obtain ⟨q8, hq8, H⟩ := bnd H; refine WC_cut (fun F w => ∃ (Fb : Fr) (G : Gm) (aq8_0 : Option Addr) (nq8_0 cq8_0 : Nat) (claq8_0 : List Value), F = upds Fb [(3, .slice aq8_0 nq8_0 cq8_0)] ∧ Gle G4 G ∧ Since w0.heap.size G0 w0 G w ∧ Owns G w w0.heap.size [⟨3, 1, nq8_0, .slice aq8_0 nq8_0 cq8_0, claq8_0⟩] ∧ nq8_0 = q8.length ∧ Rd RInt 1 G claq8_0 q8) ?_ ?_
 ·refine WC_block (WC_loop hq8 (fun s6 F w => ∃ (Fb : Fr) (G : Gm) (as6_0 : Option Addr) (ns6_0 cs6_0 : Nat) (clas6_0 : List Value), F = upds Fb [(1, .pointer (some ⟨b2, 0, none⟩)), (3, .slice as6_0 ns6_0 cs6_0), (9, .slice a1 n1 c1), (10, .int .i64 (x0.BaneWeb.Fish.length : Int)), (11, .int .i64 s6.2)] ∧ Gle G4 G ∧ Since w0.heap.size G0 w0 G w ∧ Owns G w w0.heap.size [⟨3, 1, ns6_0, .slice as6_0 ns6_0 cs6_0, clas6_0⟩] ∧ ns6_0 = s6.1.length ∧ Rd RInt 1 G clas6_0 s6.1) ?_ ?_)
  ·have hO : Owns G4 w3 w0.heap.size ([⟨3, 1, 0, .slice none 0 0, []⟩]) := hO
   exact ⟨_, G4, none, 0, 0, [], upds_self _ _ ⟨rfl, rfl, rfl, rfl, rfl, trivial⟩, Gle.refl _, hS, hO, rfl, (Rd.nil RInt 1 G4)⟩
  ·rintro s6 F w10 t9 ⟨Fb, G11, as6_0, ns6_0, cs6_0, clas6_0, rfl, leG11, hS, hO, hnhs6_0, hs6_0⟩
   intro H1 hqq8
   have Hoq8 := H; have H := H1
   unfold f72_b0 at H
   refine WC_seq ?_; refine WC_region ?_; refine WL_val (rn_lss rfl rfl) rfl ?_; refine WL_nil ?_; refine WC_seq ?_; refine WC_cond rfl (fun hb12 => ?_) (fun hb12 => ?_)
   ·have H := ifT hb12 H; refine WC_skip ?_; refine WC_seq ?_; refine WC_block ?_; refine WC_seq ?_; refine WC_region ?_; refine WL_val (rn_move (v := (.int .i64 s6.2)) rfl) rfl ?_; obtain ⟨y13, hy13, H⟩ := bnd H
    have l0_2 := leG4.trans leG11
    refine WL_idx sl22 (h1.mono RTBaneFish_mono l0_2) hy13 rfl rfl rfl ?_
    rintro b14 o14 _ hcb14 _ ⟨a15, n15, c15, ⟨⟩, h15⟩
    refine WL_val (rn_loadA ag72 (cs := [.int .i64 y13.Base.Low, .int .i64 y13.Base.High, .slice a15 n15 c15, .int .i64 y13.Pass, .int .i64 y13.Cost]) rfl rfl (fun j v hj => hS.sat.cell (hcb14.drop_take 0 5 j v hj))) rfl ?_
    refine WL_op rfl (OpP_newO (v := fun b => .pointer (some ⟨b, 0, none⟩)) (cs := [.int .i64 0, .int .i64 0, .slice none 0 0, .int .i64 0, .int .i64 0]) (e := 72) (by kernel_rfl) hS.sat hO rfl 5 1 rfl (by decide) (fun b16 w17 hb hO => ?_))
    have hS := hS.keep hb; refine WL_val (rn_assign (v := (.int .i64 s6.2)) rfl) rfl ?_; refine WL_op rfl (OpP_store (vs := [.int .i64 y13.Base.Low, .int .i64 y13.Base.High, .slice a15 n15 c15, .int .i64 y13.Pass, .int .i64 y13.Cost]) sz72 hS hO (k := 0) rfl rfl rfl rfl rfl (one_all rfl) (Nat.le_of_ble_eq_true rfl) (fun w19 hS hO => ?_))
    have hO : Owns G11 w19 w0.heap.size ([⟨72, 5, 1, .slice (some ⟨b16, 0, none⟩) 1 1, [.int .i64 y13.Base.Low, .int .i64 y13.Base.High, .slice a15 n15 c15, .int .i64 y13.Pass, .int .i64 y13.Cost]⟩, ⟨3, 1, ns6_0, .slice as6_0 ns6_0 cs6_0, clas6_0⟩]) := hO
    obtain ⟨G20, leG20, hS, hO, hqG20, _⟩ := hO.freeze hS (k := 0) rfl
    have hcG20 : Cells G20 b16 0 [.int .i64 y13.Base.Low, .int .i64 y13.Base.High, .slice a15 n15 c15, .int .i64 y13.Pass, .int .i64 y13.Cost] := (hqG20 _ _ _ _ rfl)
    refine WL_nil ?_; refine WC_seq ?_; refine WC_region ?_; refine WL_val (rn_loadA ag72 (cs := [.int .i64 y13.Base.Low, .int .i64 y13.Base.High, .slice a15 n15 c15, .int .i64 y13.Pass, .int .i64 y13.Cost]) rfl rfl (fun j v hj => hS.sat.cell (hcG20.drop_take 0 5 j v hj))) rfl ?_; refine WL_val (rn_fld fd72_0 rfl) rfl ?_; refine WL_val (rn_fld fd43_1 rfl) rfl ?_; refine WL_val (rn_load na3 rfl (hS.sat.cell (hcG20 1 _ rfl))) rfl ?_; refine WL_val (rn_move (v := (.slice as6_0 ns6_0 cs6_0)) rfl) rfl ?_
    have hF21 : FnOk101 G20 98 [] [.pointer (some ⟨b16, 0, none⟩)] (fun (z0 : Int) => f98 z0 y13) := ⟨cb98, fun G1 W1 hl hw z0 r1 H1 => f98_ok (x0 := z0) (x1 := y13) hw (hcG20.mono hl) ((h15.mono RTBaneBite_mono leG20).mono RTBaneBite_mono hl) H1⟩
    refine WL_val (rn_func (vs := []) (us := [.pointer (some ⟨b16, 0, none⟩)]) rfl rfl) rfl ?_; obtain ⟨y22, hy22, H⟩ := bnd H; obtain ⟨Gv23, leGv23, hSGv23, hOGv23, hvGv23⟩ := hO.freezeS hS RInt_mono (k := 0) rfl (hs6_0.mono RInt_mono leG20) hnhs6_0; refine WL_op rfl (OpP_callV cb67 (f67_ok (x0 := y13) (x1 := y13.Base.High) (x2 := s6.1) (x3 := (fun (z0 : Int) => f98 z0 y13)) hSGv23.sat ((h15.mono RTBaneBite_mono leG20).mono RTBaneBite_mono leGv23) hvGv23 (hF21.mono leGv23) hy22) rfl rfl (fun w24 hb => ?_)); have hS := hS.keep hb; have hO := hO.below hb; refine WL_val (rn_assign (v := (.int .i64 y22)) rfl) rfl ?_; refine WL_nil ?_; refine WC_seq ?_; obtain ⟨q25, hq25, H⟩ := bnd H; refine WC_cut (fun F w => ∃ (Fb : Fr), F = upds Fb [(1, .pointer (some ⟨b2, 0, none⟩)), (3, .slice as6_0 ns6_0 cs6_0), (6, .int .i64 q25), (9, .slice a1 n1 c1), (10, .int .i64 (x0.BaneWeb.Fish.length : Int)), (11, .int .i64 s6.2)] ∧ w24 = w) ?_ ?_
    ·have Hoq25 := H; have H := hq25; refine WC_seq ?_; refine WC_region ?_; refine WL_val (rn_fld fd104_1 rfl) rfl ?_
     have l1_3 := leG11.trans leG20
     refine WL_val (rn_load na3 rfl ((hS.sat.le l1_3).cell (hcb2 2 _ rfl))) rfl ?_; refine WL_val (rn_move (v := (.int .i64 s6.2)) rfl) rfl ?_; obtain ⟨y26, hy26, H⟩ := bnd H; refine WL_val (rn_shr rfl rfl hy26) rfl ?_; refine WL_val (rn_and rfl rfl) rfl ?_; refine WL_val (rn_eql rfl rfl) rfl ?_; refine WL_nil ?_; refine WC_cond rfl (fun hb27 => ?_) (fun hb27 => ?_)
     ·have H := ifT hb27 H; refine WC_region ?_; refine WL_val (rn_move (v := (.int .i64 y22)) rfl) rfl ?_; refine WL_val (rn_fld fd72_2 rfl) rfl ?_; refine WL_val (rn_load na3 rfl (hS.sat.cell (hcG20 3 _ rfl))) rfl ?_; refine WL_val (rn_min rfl rfl) rfl ?_; refine WL_val (rn_assign (v := (.int .i64 (if y13.Pass < y22 then y13.Pass else y22))) rfl) rfl ?_; refine WL_nil ?_; have H := Option.some.inj H; subst H
      exact ⟨_, upds_self _ _ ⟨rfl, rfl, rfl, rfl, rfl, rfl, trivial⟩, rfl⟩
     ·have H := ifF hb27 H; refine WC_skip ?_; have H := Option.some.inj H; subst H
      exact ⟨_, upds_self _ _ ⟨rfl, rfl, rfl, rfl, rfl, rfl, trivial⟩, rfl⟩
    ·rintro F wl ⟨Fb, rfl, rfl⟩
     refine WC_region ?_; refine WL_val (rn_move (v := (.slice as6_0 ns6_0 cs6_0)) rfl) rfl ?_; refine WL_val (rn_move (v := (.int .i64 q25)) rfl) rfl ?_
     refine WL_op rfl (OpP_newF (v := fun b => .slice (some ⟨b, 0, none⟩) 1 1) (cs := [.int .i64 q25]) (e := 3) (by kernel_rfl) hS.sat rfl (fun b30 G32 w31 hg hcb30 => ?_))
     have hS := hS.grow hg; have hO := hO.grow hg
     have leG32 := hg.le
     have hfb30 : RSl RInt 1 G32 (some ⟨b30, 0, none⟩) 1 1 [q25] := RSl.of_rd hcb30 (Rd.cons (c := [.int .i64 q25]) rfl rfl (Rd.nil RInt 1 _)) rfl (by decide)
     obtain ⟨y33, hy33, H⟩ := bnd H
     have l2_4 := leG20.trans leG32
     refine WL_op rfl (OpP_append (k := 0) sl25 RInt_one hS hO rfl hnhs6_0 (hs6_0.mono RInt_mono l2_4) hfb30 hy33 rfl rfl rfl rfl rfl (fun aw34 cw34 w34 clw34 hS hO hrw34 => ?_))
     have hO : Owns G32 w34 w0.heap.size ([⟨3, 1, y33.length, .slice aw34 y33.length cw34, clw34⟩]) := hO
     refine WL_val (rn_assign (v := (.slice aw34 y33.length cw34)) rfl) rfl ?_; refine WL_nil ?_; refine WC_region ?_; refine WL_val (rn_add rfl rfl) rfl ?_; refine WL_val (rn_move (v := (.int .i64 (IntKind.i64.wrap (s6.2 + 1)))) rfl) rfl ?_; refine WL_nil ?_
     have hO : Owns G32 w34 w0.heap.size ([⟨3, 1, y33.length, .slice aw34 y33.length cw34, clw34⟩]) := hO
     have H := Option.some.inj H; subst H; refine ⟨_, rfl, ?_⟩
     have l1_4 := leG11.trans l2_4
     exact ⟨_, G32, aw34, y33.length, cw34, clw34, upds_self _ _ ⟨rfl, rfl, rfl, rfl, rfl, trivial⟩, l1_4, hS, hO, rfl, hrw34⟩
   ·have H := ifF hb12 H; refine WC_exit rfl ?_
    have hO : Owns G11 w10 w0.heap.size ([⟨3, 1, ns6_0, .slice as6_0 ns6_0 cs6_0, clas6_0⟩]) := hO
    have H := Option.some.inj H; subst H
    have hres := hqq8 _ rfl
    subst hres
    exact ⟨_, G11, as6_0, ns6_0, cs6_0, clas6_0, upds_self _ _ ⟨rfl, trivial⟩, leG11, hS, hO, hnhs6_0, hs6_0⟩
 ·rintro F w35 ⟨Fb, G36, aq8_0, nq8_0, cq8_0, claq8_0, rfl, leG36, hS, hO, hnhq8_0, hq8_0⟩
  refine WC_seq ?_; refine WC_region ?_; refine WL_val (rn_move (v := (.slice aq8_0 nq8_0 cq8_0)) rfl) rfl ?_; refine WL_val (rn_assign (v := (.slice aq8_0 nq8_0 cq8_0)) rfl) rfl ?_; refine WL_nil ?_; refine WC_ret ?_; obtain ⟨G37, leG37, hS, hO, hfG37⟩ := hO.freezeS hS RInt_mono (k := 0) rfl hq8_0 hnhq8_0
  have H : some q8 = some r := H
  have H := Option.some.inj H; subst H
  exact ⟨_, _, rfl, hS.toGrow, _, _, _, rfl, hfG37⟩
set_option maxHeartbeats 1000000 in
theorem f25_ok {G0 : Gm} {w0 : World} (hS0 : Sat G0 w0) {x0 : TBaneWeb} {a1 : Option Addr} {n1 c1 : Nat} (h1 : RSl RTBaneFish 5 G0 a1 n1 c1 x0.Fish) {r : (List TSpan) × Int} (H : f25 x0 = some r) :
  Calls Try.prog 25 #[.agg #[.slice a1 n1 c1, .int .i64 x0.Limit]] w0 (RetG G0 w0 (fun G v => ∃ (ra0 : Option Addr) (rn0 rc0 : Nat), v = .tuple #[.slice ra0 rn0 rc0, .int .i64 r.2] ∧ RSl RTSpan 2 G ra0 rn0 rc0 r.1)) := by
 have hS := Since.start hS0
 have hO : Owns G0 w0 w0.heap.size [] := Owns.nil (Nat.le_refl _)
 unfold f25 at H
 refine enter2 (N := 51) (shutG _ _ _) Try.func25 rfl rfl rfl rfl ?_; refine WC_seq ?_; refine WC_region ?_; refine WL_op rfl (OpP_newF (v := fun b => .pointer (some ⟨b, 0, none⟩)) (cs := [.slice a1 n1 c1, .int .i64 x0.Limit]) (e := 24) (rn_boxA rfl) hS.sat rfl (fun b2 G4 w3 hg hcb2 => ?_)); have hS := hS.grow hg; have hO := hO.grow hg
 have leG4 := hg.le
 refine WL_val (rn_assign (v := (.slice none 0 0)) rfl) rfl ?_; refine WL_val (rn_assign (v := (.int .i64 0)) rfl) rfl ?_; refine WL_nil ?_; refine WC_seq ?_; refine WC_seq ?_; refine WC_region ?_; refine WL_val (rn_loadA ag24 (cs := [.slice a1 n1 c1, .int .i64 x0.Limit]) rfl rfl (fun j v hj => hS.sat.cell (hcb2.drop_take 0 2 j v hj))) rfl ?_; obtain ⟨y5, hy5, H⟩ := bnd H; refine WL_op rfl (OpP_callV cb65 (f65_ok (x0 := x0) hS.sat (h1.mono RTBaneFish_mono leG4) hy5) rfl rfl (fun w6 hb => ?_)); have hS := hS.keep hb; have hO := hO.below hb; refine WL_val (rn_not rfl) rfl ?_; refine WL_nil ?_; refine WC_cond rfl (fun hb7 => ?_) (fun hb7 => ?_)
 ·have H := ifT hb7 H; refine WC_seq ?_; refine WC_region ?_; refine WL_val (rn_assign (v := (.slice none 0 0)) rfl) rfl ?_; refine WL_val (rn_assign (v := (.int .i64 2)) rfl) rfl ?_; refine WL_nil ?_; refine WC_ret ?_
  have H : some ([], 2) = some r := H
  have H := Option.some.inj H; subst H
  exact ⟨_, _, rfl, hS.toGrow, _, _, _, rfl, (RSl.nil RTSpan 2 G4 none)⟩
 ·have H := ifF hb7 H; refine WC_skip ?_; refine WC_seq ?_; refine WC_region ?_; refine WL_val (rn_loadA ag24 (cs := [.slice a1 n1 c1, .int .i64 x0.Limit]) rfl rfl (fun j v hj => hS.sat.cell (hcb2.drop_take 0 2 j v hj))) rfl ?_
  refine WL_val (v := (.agg #[.slice a1 n1 c1, .int .i64 x0.Limit, .int .i64 0])) (by kernel_rfl) rfl ?_
  refine WL_op rfl (OpP_newO (v := fun b => .pointer (some ⟨b, 0, none⟩)) (cs := [.slice none 0 0, .int .i64 0, .int .i64 0]) (e := 104) (by kernel_rfl) hS.sat hO rfl 3 1 rfl (by decide) (fun b8 w9 hb hO => ?_))
  have hS := hS.keep hb; refine WL_op rfl (OpP_store (vs := [.slice a1 n1 c1, .int .i64 x0.Limit, .int .i64 0]) sz104 hS hO (k := 0) rfl rfl rfl rfl rfl (one_all rfl) (Nat.le_of_ble_eq_true rfl) (fun w11 hS hO => ?_))
  have hO : Owns G4 w11 w0.heap.size ([⟨104, 3, 1, .slice (some ⟨b8, 0, none⟩) 1 1, [.slice a1 n1 c1, .int .i64 x0.Limit, .int .i64 0]⟩]) := hO
  obtain ⟨G12, leG12, hS, hO, hqG12, _⟩ := hO.freeze hS (k := 0) rfl
  have hcG12 : Cells G12 b8 0 [.slice a1 n1 c1, .int .i64 x0.Limit, .int .i64 0] := (hqG12 _ _ _ _ rfl)
  refine WL_nil ?_; refine WC_seq ?_; refine WC_region ?_
  refine WL_op rfl (OpP_newO (v := fun b => .pointer (some ⟨b, 0, none⟩)) (cs := [.slice none 0 0, .slice none 0 0]) (e := 105) (by kernel_rfl) hS.sat hO rfl 2 1 rfl (by decide) (fun b13 w14 hb hO => ?_))
  have hS := hS.keep hb; refine WL_nil ?_; refine WC_seq ?_; refine WC_seq ?_; refine WC_region ?_; refine WL_val (rn_loadA ag104 (cs := [.slice a1 n1 c1, .int .i64 x0.Limit, .int .i64 0]) rfl rfl (fun j v hj => hS.sat.cell (hcG12.drop_take 0 3 j v hj))) rfl ?_
  have l0_2 := leG4.trans leG12
  have hF16 : FnOk106 G12 71 [.agg #[.slice a1 n1 c1, .int .i64 x0.Limit, .int .i64 0]] [] (f71 (⟨x0, 0⟩ : TWeb)) := ⟨cb71, fun G1 W1 hl hw r1 H1 => f71_ok (x0 := (⟨x0, 0⟩ : TWeb)) hw ((h1.mono RTBaneFish_mono l0_2).mono RTBaneFish_mono hl) H1⟩
  refine WL_val (rn_func (vs := [.agg #[.slice a1 n1 c1, .int .i64 x0.Limit, .int .i64 0]]) (us := []) rfl rfl) rfl ?_; refine WL_val (rn_loadA ag104 (cs := [.slice a1 n1 c1, .int .i64 x0.Limit, .int .i64 0]) rfl rfl (fun j v hj => hS.sat.cell (hcG12.drop_take 0 3 j v hj))) rfl ?_
  have hF17 : FnOk106 G12 72 [.agg #[.slice a1 n1 c1, .int .i64 x0.Limit, .int .i64 0]] [] (f72 (⟨x0, 0⟩ : TWeb)) := ⟨cb72, fun G1 W1 hl hw r1 H1 => f72_ok (x0 := (⟨x0, 0⟩ : TWeb)) hw ((h1.mono RTBaneFish_mono l0_2).mono RTBaneFish_mono hl) H1⟩
  refine WL_val (rn_func (vs := [.agg #[.slice a1 n1 c1, .int .i64 x0.Limit, .int .i64 0]]) (us := []) rfl rfl) rfl ?_
  refine WL_val (v := (.agg #[.func (.func 71) ([.agg #[.slice a1 n1 c1, .int .i64 x0.Limit, .int .i64 0]]).toArray ([]).toArray, .func (.func 72) ([.agg #[.slice a1 n1 c1, .int .i64 x0.Limit, .int .i64 0]]).toArray ([]).toArray])) (by kernel_rfl) rfl ?_
  refine WL_val (rn_move (v := (.int .i64 0)) rfl) rfl ?_; refine WL_nil ?_; refine WC_block (WC_loopI ?_); refine WI_step ?_; refine WC_seq ?_; refine WC_region ?_
  refine WL_val (v := (.bool true)) (by kernel_rfl) rfl ?_
  refine WL_nil ?_; refine WC_seq ?_; refine WC_condT _ rfl rfl ?_; refine WC_skip ?_; refine WC_seq ?_; refine WC_block ?_; refine WC_seq ?_; refine WC_region ?_; refine WL_val (rn_move (v := (.int .i64 0)) rfl) rfl ?_
  refine WL_val (v := (.func (.func 71) ([.agg #[.slice a1 n1 c1, .int .i64 x0.Limit, .int .i64 0]]).toArray ([]).toArray)) (by kernel_rfl) rfl ?_
  refine WL_val (rn_assign (v := (.int .i64 0)) rfl) rfl ?_; refine WL_val (rn_assign (v := (.func (.func 71) ([.agg #[.slice a1 n1 c1, .int .i64 x0.Limit, .int .i64 0]]).toArray ([]).toArray)) rfl) rfl ?_; refine WL_nil ?_; refine WC_region ?_; refine WL_val (rn_move (v := (.int .i64 0)) rfl) rfl ?_; refine WL_val (rn_move (v := (.func (.func 71) ([.agg #[.slice a1 n1 c1, .int .i64 x0.Limit, .int .i64 0]]).toArray ([]).toArray)) rfl) rfl ?_; obtain ⟨y18, hy18, H⟩ := bnd H; refine WL_op rfl (OpP_callGF hF16.1 (hF16.2 _ _ (Gle.refl _) hS.sat  _  hy18) rfl rfl rfl (fun vy18 G20 w19 hg hvy18 => ?_)); obtain ⟨a21, n21, c21, ⟨⟩, h21⟩ := hvy18; have hS := hS.grow hg; have hO := hO.grow hg
  have leG20 := hg.le
  refine WL_val (v := (.pointer (some ⟨b13, 0, none⟩))) (by kernel_rfl) rfl ?_
  refine WL_op rfl (OpP_store (vs := [.slice a21 n21 c21]) sz25 hS hO (k := 0) rfl rfl rfl rfl rfl (one_all rfl) (Nat.le_of_ble_eq_true rfl) (fun w22 hS hO => ?_))
  have hO : Owns G20 w22 w0.heap.size ([⟨105, 2, 1, .slice (some ⟨b13, 0, none⟩) 1 1, [.slice a21 n21 c21, .slice none 0 0]⟩]) := hO
  refine WL_nil ?_; refine WC_region ?_
  refine WL_val (v := (.int .i64 1)) (by kernel_rfl) rfl ?_
  refine WL_val (rn_move (v := (.int .i64 1)) rfl) rfl ?_; refine WL_nil ?_; refine WI_step ?_; refine WC_seq ?_; refine WC_region ?_
  refine WL_val (v := (.bool true)) (by kernel_rfl) rfl ?_
  refine WL_nil ?_; refine WC_seq ?_; refine WC_condT _ rfl rfl ?_; refine WC_skip ?_; refine WC_seq ?_; refine WC_block ?_; refine WC_seq ?_; refine WC_region ?_; refine WL_val (rn_move (v := (.int .i64 1)) rfl) rfl ?_
  refine WL_val (v := (.func (.func 72) ([.agg #[.slice a1 n1 c1, .int .i64 x0.Limit, .int .i64 0]]).toArray ([]).toArray)) (by kernel_rfl) rfl ?_
  refine WL_val (rn_assign (v := (.int .i64 1)) rfl) rfl ?_; refine WL_val (rn_assign (v := (.func (.func 72) ([.agg #[.slice a1 n1 c1, .int .i64 x0.Limit, .int .i64 0]]).toArray ([]).toArray)) rfl) rfl ?_; refine WL_nil ?_; refine WC_region ?_; refine WL_val (rn_move (v := (.int .i64 1)) rfl) rfl ?_; refine WL_val (rn_move (v := (.func (.func 72) ([.agg #[.slice a1 n1 c1, .int .i64 x0.Limit, .int .i64 0]]).toArray ([]).toArray)) rfl) rfl ?_; obtain ⟨y23, hy23, H⟩ := bnd H; refine WL_op rfl (OpP_callGF hF17.1 (hF17.2 _ _ leG20 hS.sat  _  hy23) rfl rfl rfl (fun vy23 G25 w24 hg hvy23 => ?_)); obtain ⟨a26, n26, c26, ⟨⟩, h26⟩ := hvy23; have hS := hS.grow hg; have hO := hO.grow hg
  have leG25 := hg.le
  refine WL_val (v := (.pointer (some ⟨b13, 0 + 1, none⟩))) (by kernel_rfl) rfl ?_
  refine WL_op rfl (OpP_store (vs := [.slice a26 n26 c26]) sz25 hS hO (k := 0) rfl rfl rfl rfl rfl (one_all rfl) (Nat.le_of_ble_eq_true rfl) (fun w27 hS hO => ?_))
  have hO : Owns G25 w27 w0.heap.size ([⟨105, 2, 1, .slice (some ⟨b13, 0, none⟩) 1 1, [.slice a21 n21 c21, .slice a26 n26 c26]⟩]) := hO
  refine WL_nil ?_; refine WC_region ?_
  refine WL_val (v := (.int .i64 2)) (by kernel_rfl) rfl ?_
  refine WL_val (rn_move (v := (.int .i64 2)) rfl) rfl ?_; refine WL_nil ?_; refine WI_step ?_; refine WC_seq ?_; refine WC_region ?_
  refine WL_val (v := (.bool false)) (by kernel_rfl) rfl ?_
  refine WL_nil ?_; refine WC_seq ?_; refine WC_condF _ rfl rfl ?_; refine WC_exit rfl ?_; refine WC_seq ?_; refine WC_region ?_; refine WL_val (rn_assign (v := (.slice none 0 0)) rfl) rfl ?_; refine WL_nil ?_; refine WC_seq ?_; refine WC_seq ?_; refine WC_region ?_; refine WL_val (rn_fld fd24_0 rfl) rfl ?_
  have l1_4 := (leG12.trans leG20).trans leG25
  refine WL_val (rn_load na22 rfl ((hS.sat.le l1_4).cell (hcb2 0 _ rfl))) rfl ?_
  have l0_4 := (l0_2.trans leG20).trans leG25
  refine WL_val (rn_len sl22 rfl rfl (h1.mono RTBaneFish_mono l0_4).1) rfl ?_; refine WL_val (rn_move (v := (.int .i64 0)) rfl) rfl ?_; refine WL_nil ?_; have hO := hO.cons_nil 43 2; obtain ⟨q31, hq31, H⟩ := bnd H; refine WC_cut (fun F w => ∃ (Fb : Fr) (G : Gm) (aq31_0 : Option Addr) (nq31_0 cq31_0 : Nat) (claq31_0 : List Value) (aq31_1 : Option Addr) (nq31_1 cq31_1 : Nat) (aq31_2 : Option Addr) (nq31_2 cq31_2 : Nat), F = upds Fb [(8, .slice aq31_0 nq31_0 cq31_0)] ∧ Gle G25 G ∧ Since w0.heap.size G0 w0 G w ∧ Owns G w w0.heap.size [⟨43, 2, nq31_0, .slice aq31_0 nq31_0 cq31_0, claq31_0⟩, ⟨105, 2, 1, .slice (some ⟨b13, 0, none⟩) 1 1, [.slice aq31_1 nq31_1 cq31_1, .slice aq31_2 nq31_2 cq31_2]⟩] ∧ nq31_0 = q31.1.length ∧ Rd RTSpan 2 G claq31_0 q31.1 ∧ RSl RInt 1 G aq31_1 nq31_1 cq31_1 q31.2.1 ∧ RSl RInt 1 G aq31_2 nq31_2 cq31_2 q31.2.2) ?_ ?_
  ·refine WC_block (WC_loop hq31 (fun s29 F w => ∃ (Fb : Fr) (G : Gm) (as29_0 : Option Addr) (ns29_0 cs29_0 : Nat) (clas29_0 : List Value) (as29_1 : Option Addr) (ns29_1 cs29_1 : Nat) (as29_2 : Option Addr) (ns29_2 cs29_2 : Nat), F = upds Fb [(5, .pointer (some ⟨b13, 0, none⟩)), (8, .slice as29_0 ns29_0 cs29_0), (31, .int .i64 (x0.Fish.length : Int)), (32, .int .i64 s29.2.1)] ∧ Gle G25 G ∧ Since w0.heap.size G0 w0 G w ∧ Owns G w w0.heap.size [⟨43, 2, ns29_0, .slice as29_0 ns29_0 cs29_0, clas29_0⟩, ⟨105, 2, 1, .slice (some ⟨b13, 0, none⟩) 1 1, [.slice as29_1 ns29_1 cs29_1, .slice as29_2 ns29_2 cs29_2]⟩] ∧ ns29_0 = s29.1.length ∧ Rd RTSpan 2 G clas29_0 s29.1 ∧ RSl RInt 1 G as29_1 ns29_1 cs29_1 s29.2.2.1 ∧ RSl RInt 1 G as29_2 ns29_2 cs29_2 s29.2.2.2) ?_ ?_)
   ·have hO : Owns G25 w27 w0.heap.size ([⟨43, 2, 0, .slice none 0 0, []⟩, ⟨105, 2, 1, .slice (some ⟨b13, 0, none⟩) 1 1, [.slice a21 n21 c21, .slice a26 n26 c26]⟩]) := hO
    exact ⟨_, G25, none, 0, 0, [], a21, n21, c21, a26, n26, c26, upds_self _ _ ⟨rfl, rfl, rfl, rfl, trivial⟩, Gle.refl _, hS, hO, rfl, (Rd.nil RTSpan 2 G25), (h21.mono RInt_mono leG25), h26⟩
   ·rintro s29 F w33 t32 ⟨Fb, G34, as29_0, ns29_0, cs29_0, clas29_0, as29_1, ns29_1, cs29_1, as29_2, ns29_2, cs29_2, rfl, leG34, hS, hO, hnhs29_0, hs29_0, hs29_1, hs29_2⟩
    intro H1 hqq31
    have Hoq31 := H; have H := H1
    unfold f25_b0 at H
    refine WC_seq ?_; refine WC_region ?_; refine WL_val (rn_lss rfl rfl) rfl ?_; refine WL_nil ?_; refine WC_seq ?_; refine WC_cond rfl (fun hb35 => ?_) (fun hb35 => ?_)
    ·have H := ifT hb35 H; refine WC_skip ?_; refine WC_seq ?_; refine WC_block ?_; refine WC_seq ?_; refine WC_region ?_; refine WL_val (rn_move (v := (.int .i64 s29.2.1)) rfl) rfl ?_; refine WL_val (rn_assign (v := (.int .i64 s29.2.1)) rfl) rfl ?_; refine WL_nil ?_; have hS := hS.keep (below_drew _); have hO := hO.below (below_drew _)
     refine WC_regionD mixedO (fun _ w => Sat G34 w ∧ Owns G34 w w0.heap.size [⟨43, 2, ns29_0, .slice as29_0 ns29_0 cs29_0, clas29_0⟩, ⟨105, 2, 1, .slice (some ⟨b13, 0, none⟩) 1 1, [.slice as29_1 ns29_1 cs29_1, .slice as29_2 ns29_2 cs29_2]⟩]) (.fl 0 (.fl 1 (.fl 2 (.fl 3 (.fl 4 (.fl 5 (.fl 6 (.fl 7 (.on 8 (.on 9 (.on 10 (.on 11 (.on 12 (.on 13 (.on 14 .nil))))))))))))))) (by kernel_rfl) rfl (by kernel_rfl) (fun _ => ⟨hS.sat, hO⟩) ?_
     refine WD_val rfl (fun w hw => rn_move (v := (.slice as29_0 ns29_0 cs29_0)) rfl) rfl ?_
     refine WD_val (v := (.pointer (some ⟨b13, 0, none⟩))) rfl (fun w hw => by kernel_rfl) rfl ?_
     refine WD_val rfl (fun w hw => rn_load na25 rfl (own_cell hw.2 (k := 1) rfl (j := 0) rfl)) rfl ?_; refine WD_val rfl (fun w hw => rn_move (v := (.int .i64 s29.2.1)) rfl) rfl ?_; obtain ⟨y36, hy36, H⟩ := bnd H; refine WD_idx rfl sl25 hs29_1 hy36 rfl rfl rfl ?_
     rintro b37 o37 _ hcb37 _ ⟨⟩
     refine WD_val rfl (fun w hw => rn_load na3 rfl (hw.1.cell (hcb37 0 _ rfl))) rfl ?_
     refine WD_val (v := (.pointer (some ⟨b13, 0 + 1, none⟩))) rfl (fun w hw => by kernel_rfl) rfl ?_
     refine WD_val rfl (fun w hw => rn_load na25 rfl (own_cell hw.2 (k := 1) rfl (j := 1) rfl)) rfl ?_; refine WD_op rfl rfl (OpP_val (rn_move (v := (.int .i64 s29.2.1)) rfl) rfl ?_); refine ⟨fun _ _ => ⟨hS.sat, hO⟩, ?_⟩; obtain ⟨y38, hy38, H⟩ := bnd H; refine WD_op rfl rfl (OpP_idx sl25 hs29_2 hy38 rfl rfl rfl ?_)
     rintro b39 o39 _ hcb39 _ ⟨⟩
     refine ⟨fun _ _ => ⟨hS.sat, hO⟩, ?_⟩; refine WD_op rfl rfl (OpP_val (rn_load na3 rfl (hS.sat.cell (hcb39 0 _ rfl))) rfl ?_); refine ⟨fun _ _ => ⟨hS.sat, hO⟩, ?_⟩
     refine WD_op rfl rfl (OpP_val (v := (.agg #[.int .i64 y36, .int .i64 y38])) (by kernel_rfl) rfl ?_)
     refine ⟨fun _ _ => ⟨hS.sat, hO⟩, ?_⟩
     refine WD_op rfl rfl (OpP_newF (v := fun b => .slice (some ⟨b, 0, none⟩) 1 1) (cs := [.int .i64 y36, .int .i64 y38]) (e := 43) (by kernel_rfl) hS.sat rfl (fun b40 G42 w41 hg hcb40 => ?_))
     have hS := hS.grow hg; have hO := hO.grow hg
     have leG42 := hg.le
     have hfb40 : RSl RTSpan 2 G42 (some ⟨b40, 0, none⟩) 1 1 [(⟨y36, y38⟩ : TSpan)] := RSl.of_rd hcb40 (Rd.cons (c := [.int .i64 y36, .int .i64 y38]) rfl rfl (Rd.nil RTSpan 2 _)) rfl (by decide)
     refine ⟨fun _ _ => ⟨hS.sat.le leG42, hO.le leG42⟩, ?_⟩; obtain ⟨y43, hy43, H⟩ := bnd H; refine WD_op rfl rfl (OpP_append (k := 0) sl38 RTSpan_one hS hO rfl hnhs29_0 (hs29_0.mono RTSpan_mono leG42) hfb40 hy43 rfl rfl rfl rfl rfl (fun aw44 cw44 w44 clw44 hS hO hrw44 => ?_))
     have hO : Owns G42 w44 w0.heap.size ([⟨43, 2, y43.length, .slice aw44 y43.length cw44, clw44⟩, ⟨105, 2, 1, .slice (some ⟨b13, 0, none⟩) 1 1, [.slice as29_1 ns29_1 cs29_1, .slice as29_2 ns29_2 cs29_2]⟩]) := hO
     refine ⟨fun _ h => noneed (by kernel_rfl) h, ?_⟩
     refine WD_op rfl rfl (OpP_val (rn_assign (v := (.slice aw44 y43.length cw44)) rfl) rfl ?_)
     refine ⟨fun _ h => noneed (by kernel_rfl) h, ?_⟩
     refine WD_nil ?_; refine WC_region ?_; refine WL_val (rn_add rfl rfl) rfl ?_; refine WL_val (rn_move (v := (.int .i64 (IntKind.i64.wrap (s29.2.1 + 1)))) rfl) rfl ?_; refine WL_nil ?_
     have hO : Owns G42 w44 w0.heap.size ([⟨43, 2, y43.length, .slice aw44 y43.length cw44, clw44⟩, ⟨105, 2, 1, .slice (some ⟨b13, 0, none⟩) 1 1, [.slice as29_1 ns29_1 cs29_1, .slice as29_2 ns29_2 cs29_2]⟩]) := hO
     have H := Option.some.inj H; subst H; refine ⟨_, rfl, ?_⟩
     have l4_6 := leG34.trans leG42
     exact ⟨_, G42, aw44, y43.length, cw44, clw44, as29_1, ns29_1, cs29_1, as29_2, ns29_2, cs29_2, upds_self _ _ ⟨rfl, rfl, rfl, rfl, trivial⟩, l4_6, hS, hO, rfl, hrw44, (hs29_1.mono RInt_mono leG42), (hs29_2.mono RInt_mono leG42)⟩
    ·have H := ifF hb35 H; refine WC_exit rfl ?_
     have hO : Owns G34 w33 w0.heap.size ([⟨43, 2, ns29_0, .slice as29_0 ns29_0 cs29_0, clas29_0⟩, ⟨105, 2, 1, .slice (some ⟨b13, 0, none⟩) 1 1, [.slice as29_1 ns29_1 cs29_1, .slice as29_2 ns29_2 cs29_2]⟩]) := hO
     have H := Option.some.inj H; subst H
     have hres := hqq31 _ rfl
     subst hres
     exact ⟨_, G34, as29_0, ns29_0, cs29_0, clas29_0, as29_1, ns29_1, cs29_1, as29_2, ns29_2, cs29_2, upds_self _ _ ⟨rfl, trivial⟩, leG34, hS, hO, hnhs29_0, hs29_0, hs29_1, hs29_2⟩
  ·rintro F w45 ⟨Fb, G46, aq31_0, nq31_0, cq31_0, claq31_0, aq31_1, nq31_1, cq31_1, aq31_2, nq31_2, cq31_2, rfl, leG46, hS, hO, hnhq31_0, hq31_0, hq31_1, hq31_2⟩
   refine WC_seq ?_; refine WC_region ?_; refine WL_val (rn_move (v := (.slice aq31_0 nq31_0 cq31_0)) rfl) rfl ?_; refine WL_val (rn_assign (v := (.slice aq31_0 nq31_0 cq31_0)) rfl) rfl ?_; refine WL_val (rn_assign (v := (.int .i64 0)) rfl) rfl ?_; refine WL_nil ?_; refine WC_ret ?_; obtain ⟨G47, leG47, hS, hO, hfG47⟩ := hO.freezeS hS RTSpan_mono (k := 0) rfl hq31_0 hnhq31_0
   have H : some (q31.1, 0) = some r := H
   have H := Option.some.inj H; subst H
   exact ⟨_, _, rfl, hS.toGrow, _, _, _, rfl, hfG47⟩
set_option maxHeartbeats 1000000 in
theorem f86_ok {G0 : Gm} {w0 : World} (hS0 : Sat G0 w0) {x0 : (List Int)} {a1 : Option Addr} {n1 c1 : Nat} {x1 : Int} (h1 : RSl RInt 1 G0 a1 n1 c1 x0) {r : Bool} (H : f86 x0 x1 = some r) :
  Calls Try.prog 86 #[.slice a1 n1 c1, .int .i64 x1] w0 (RetV w0 (.bool r)) := by
 have hS := Since.start hS0
 have hO : Owns G0 w0 w0.heap.size [] := Owns.nil (Nat.le_refl _)
 unfold f86 at H
 refine enter1 (N := 33) (shutV _ _) Try.func86 rfl rfl rfl rfl ?_; refine WC_seq ?_; refine WC_region ?_; refine WL_val (rn_assign (v := (.bool false)) rfl) rfl ?_; refine WL_nil ?_; refine WC_seq ?_; refine WC_seq ?_; refine WC_region ?_; refine WL_val (rn_move (v := (.slice a1 n1 c1)) rfl) rfl ?_; refine WL_val (rn_len sl25 rfl rfl h1.1) rfl ?_; refine WL_val (rn_move (v := (.int .i64 0)) rfl) rfl ?_; refine WL_nil ?_; obtain ⟨q4, hq4, H⟩ := bnd H; refine WC_cut (fun F w => ∃ (p3 : Unit) (Fb : Fr) (G : Gm), q4 = .inl p3 ∧ F = upds Fb [] ∧ Gle G0 G ∧ Since w0.heap.size G0 w0 G w ∧ Owns G w w0.heap.size []) ?_ ?_
 ·refine WC_block (WC_loop hq4 (fun s2 F w => ∃ (Fb : Fr) (G : Gm), F = upds Fb [(0, .slice a1 n1 c1), (1, .int .i64 x1), (7, .slice a1 n1 c1), (8, .int .i64 (x0.length : Int)), (9, .int .i64 s2)] ∧ Gle G0 G ∧ Since w0.heap.size G0 w0 G w ∧ Owns G w w0.heap.size []) ?_ ?_)
  ·have hO : Owns G0 w0 w0.heap.size ([]) := hO
   exact ⟨_, G0, upds_self _ _ ⟨rfl, rfl, rfl, rfl, rfl, trivial⟩, Gle.refl _, hS, hO⟩
  ·rintro s2 F w6 t5 ⟨Fb, G7, rfl, leG7, hS, hO⟩
   intro H1 hqq4
   have Hoq4 := H; have H := H1
   unfold f86_b0 at H
   refine WC_seq ?_; refine WC_region ?_; refine WL_val (rn_lss rfl rfl) rfl ?_; refine WL_nil ?_; refine WC_seq ?_; refine WC_cond rfl (fun hb8 => ?_) (fun hb8 => ?_)
   ·have H := ifT hb8 H; refine WC_skip ?_; refine WC_seq ?_; refine WC_block ?_; refine WC_seq ?_; refine WC_region ?_; refine WL_val (rn_move (v := (.int .i64 s2)) rfl) rfl ?_; obtain ⟨y9, hy9, H⟩ := bnd H; refine WL_idx sl25 (h1.mono RInt_mono leG7) hy9 rfl rfl rfl ?_
    rintro b10 o10 _ hcb10 _ ⟨⟩
    refine WL_val (rn_load na3 rfl (hS.sat.cell (hcb10 0 _ rfl))) rfl ?_; refine WL_val (rn_assign (v := (.int .i64 s2)) rfl) rfl ?_; refine WL_val (rn_assign (v := (.int .i64 y9)) rfl) rfl ?_; refine WL_nil ?_; refine WC_seq ?_; obtain ⟨q11, hq11, H⟩ := bnd H; refine WC_cut (fun F w => ∃ (Fb : Fr) (G : Gm), F = upds Fb [(0, .slice a1 n1 c1), (1, .int .i64 x1), (7, .slice a1 n1 c1), (8, .int .i64 (x0.length : Int)), (9, .int .i64 s2), (31, .bool q11)] ∧ Gle G7 G ∧ Since w0.heap.size G0 w0 G w ∧ Owns G w w0.heap.size []) ?_ ?_
    ·have Hoq11 := H; have H := hq11; refine WC_region ?_; refine WL_val (rn_move (v := (.int .i64 y9)) rfl) rfl ?_; refine WL_val (rn_move (v := (.int .i64 x1)) rfl) rfl ?_; refine WL_val (rn_sub rfl rfl) rfl ?_; obtain ⟨y12, hy12, H⟩ := bnd H; refine WL_op rfl (OpP_callV cb66 (f66_ok (x0 := y9) (x1 := 0) (x2 := IntKind.i64.wrap (x1 - 1)) hS.sat  hy12) rfl rfl (fun w13 hb => ?_)); have hS := hS.keep hb; have hO := hO.below hb; refine WL_val (rn_not rfl) rfl ?_; refine WL_val (rn_move (v := (.bool (!y12))) rfl) rfl ?_
     rcases bcases (!y12) with hb14 | hb14
     ·have H := ifT hb14 H; refine WL_guardN rfl hb14 rfl rfl rfl ?_; refine WL_guardN rfl hb14 rfl rfl rfl ?_; refine WL_guardN rfl hb14 rfl rfl rfl ?_; refine WL_guardU rfl rfl rfl rfl ?_; refine WL_guardU rfl rfl rfl rfl ?_; refine WL_guardU rfl rfl rfl rfl ?_; refine WL_guardU rfl rfl rfl rfl ?_; refine WL_guardU rfl rfl rfl rfl ?_; refine WL_guardU rfl rfl rfl rfl ?_; refine WL_guardU rfl rfl rfl rfl ?_; refine WL_guardN rfl hb14 rfl rfl rfl ?_; refine WL_val (rn_pickT (v := (.bool true)) rfl hb14 rfl) rfl ?_; refine WL_nil ?_
      have hO : Owns G7 w13 w0.heap.size ([]) := hO
      have H := Option.some.inj H; subst H
      exact ⟨_, G7, upds_self _ _ ⟨rfl, rfl, rfl, rfl, rfl, rfl, trivial⟩, Gle.refl _, hS, hO⟩
     ·have H := ifF hb14 H; refine WL_guardY rfl hb14 rfl rfl ?_; refine WL_val (rn_move (v := (.int .i64 s2)) rfl) rfl ?_; refine WL_guardY rfl hb14 rfl rfl ?_; refine WL_val (rn_gtr rfl rfl) rfl ?_; refine WL_guardY rfl hb14 rfl rfl ?_; refine WL_val (rn_move (v := (.bool (decide (0 < s2)))) rfl) rfl ?_
      rcases bcases (decide (0 < s2)) with hb15 | hb15
      ·have H := ifT hb15 H; refine WL_guardY rfl hb15 rfl rfl ?_; refine WL_val (rn_move (v := (.int .i64 y9)) rfl) rfl ?_; refine WL_guardY rfl hb15 rfl rfl ?_; refine WL_val (rn_move (v := (.slice a1 n1 c1)) rfl) rfl ?_; refine WL_guardY rfl hb15 rfl rfl ?_; refine WL_val (rn_move (v := (.int .i64 s2)) rfl) rfl ?_; refine WL_guardY rfl hb15 rfl rfl ?_; refine WL_val (rn_sub rfl rfl) rfl ?_; refine WL_guardY rfl hb15 rfl rfl ?_; obtain ⟨y16, hy16, H⟩ := bnd H; refine WL_idx sl25 (h1.mono RInt_mono leG7) hy16 rfl rfl rfl ?_
       rintro b17 o17 _ hcb17 _ ⟨⟩
       refine WL_guardY rfl hb15 rfl rfl ?_; refine WL_val (rn_load na3 rfl (hS.sat.cell (hcb17 0 _ rfl))) rfl ?_; refine WL_guardY rfl hb15 rfl rfl ?_; refine WL_val (rn_leq rfl rfl) rfl ?_; refine WL_guardY rfl hb14 rfl rfl ?_; refine WL_val (rn_pickT (v := (.bool (decide (y9 ≤ y16)))) rfl hb15 rfl) rfl ?_; refine WL_val (rn_pickF (v := (.bool (decide (y9 ≤ y16)))) rfl hb14 rfl) rfl ?_; refine WL_nil ?_
       have hO : Owns G7 w13 w0.heap.size ([]) := hO
       have H := Option.some.inj H; subst H
       exact ⟨_, G7, upds_self _ _ ⟨rfl, rfl, rfl, rfl, rfl, rfl, trivial⟩, Gle.refl _, hS, hO⟩
      ·have H := ifF hb15 H; refine WL_guardN rfl hb15 rfl rfl rfl ?_; refine WL_guardN rfl hb15 rfl rfl rfl ?_; refine WL_guardN rfl hb15 rfl rfl rfl ?_; refine WL_guardN rfl hb15 rfl rfl rfl ?_; refine WL_guardN rfl hb15 rfl rfl rfl ?_; refine WL_guardN rfl hb15 rfl rfl rfl ?_; refine WL_guardN rfl hb15 rfl rfl rfl ?_; refine WL_guardY rfl hb14 rfl rfl ?_; refine WL_val (rn_pickF (v := (.bool false)) rfl hb15 rfl) rfl ?_; refine WL_val (rn_pickF (v := (.bool false)) rfl hb14 rfl) rfl ?_; refine WL_nil ?_
       have hO : Owns G7 w13 w0.heap.size ([]) := hO
       have H := Option.some.inj H; subst H
       exact ⟨_, G7, upds_self _ _ ⟨rfl, rfl, rfl, rfl, rfl, rfl, trivial⟩, Gle.refl _, hS, hO⟩
    ·rintro F w18 ⟨Fb, G19, rfl, leG19, hS, hO⟩
     refine WC_cond rfl (fun hb20 => ?_) (fun hb20 => ?_)
     ·have H := ifT hb20 H; refine WC_seq ?_; refine WC_region ?_; refine WL_val (rn_assign (v := (.bool false)) rfl) rfl ?_; refine WL_nil ?_; refine WC_ret ?_; have H := Option.some.inj H; subst H
      have hres := hqq4 _ rfl
      subst hres; have H := Hoq4
      have H : some false = some r := H
      have H := Option.some.inj H; subst H
      exact ⟨rfl, hS.below⟩
     ·have H := ifF hb20 H; refine WC_skip ?_; refine WC_region ?_; refine WL_val (rn_add rfl rfl) rfl ?_; refine WL_val (rn_move (v := (.int .i64 (IntKind.i64.wrap (s2 + 1)))) rfl) rfl ?_; refine WL_nil ?_
      have hO : Owns G19 w18 w0.heap.size ([]) := hO
      have H := Option.some.inj H; subst H; refine ⟨_, rfl, ?_⟩
      have l0_2 := leG7.trans leG19
      exact ⟨_, G19, upds_self _ _ ⟨rfl, rfl, rfl, rfl, rfl, trivial⟩, l0_2, hS, hO⟩
   ·have H := ifF hb8 H; refine WC_exit rfl ?_
    have hO : Owns G7 w6 w0.heap.size ([]) := hO
    have H := Option.some.inj H; subst H
    have hres := hqq4 _ rfl
    subst hres
    exact ⟨_, _, G7, rfl, rfl, leG7, hS, hO⟩
 ·rintro F w21 ⟨p3, Fb, G22, rfl, rfl, leG22, hS, hO⟩
  refine WC_seq ?_; refine WC_region ?_; refine WL_val (rn_assign (v := (.bool true)) rfl) rfl ?_; refine WL_nil ?_; refine WC_ret ?_
  have H : some true = some r := H
  have H := Option.some.inj H; subst H
  exact ⟨rfl, hS.below⟩
set_option maxHeartbeats 1000000 in
theorem f112_ok {G0 : Gm} {w0 : World} (hS0 : Sat G0 w0) {x0 : (List TBaneTrip)} {a1 : Option Addr} {n1 c1 : Nat} {x1 : (TBaneTrip → Option Bool)} {k2 : Nat} {fi2 ca2 : List Value} (h1 : RSl RTBaneTrip 4 G0 a1 n1 c1 x0) (hf2 : FnOk146 G0 k2 fi2 ca2 x1) {r : Int} (H : f112 x0 x1 = some r) :
  Calls Try.prog 112 #[.slice a1 n1 c1, .func (.func k2) (fi2).toArray (ca2).toArray] w0 (RetV w0 (.int .i64 r)) := by
 have hS := Since.start hS0
 have hO : Owns G0 w0 w0.heap.size [] := Owns.nil (Nat.le_refl _)
 unfold f112 at H
 refine enter1 (N := 19) (shutV _ _) Try.func112 rfl rfl rfl rfl ?_; refine WC_seq ?_; refine WC_region ?_; refine WL_val (rn_assign (v := (.int .i64 0)) rfl) rfl ?_; refine WL_nil ?_; refine WC_seq ?_; refine WC_seq ?_; refine WC_region ?_; refine WL_val (rn_move (v := (.slice a1 n1 c1)) rfl) rfl ?_; refine WL_val (rn_len sl44 rfl rfl h1.1) rfl ?_; refine WL_val (rn_move (v := (.int .i64 0)) rfl) rfl ?_; refine WL_nil ?_; obtain ⟨q5, hq5, H⟩ := bnd H; refine WC_cut (fun F w => ∃ (p4 : Unit) (Fb : Fr) (G : Gm), q5 = .inl p4 ∧ F = upds Fb [] ∧ Gle G0 G ∧ Since w0.heap.size G0 w0 G w ∧ Owns G w w0.heap.size []) ?_ ?_
 ·refine WC_block (WC_loop hq5 (fun s3 F w => ∃ (Fb : Fr) (G : Gm), F = upds Fb [(0, .slice a1 n1 c1), (1, .func (.func k2) (fi2).toArray (ca2).toArray), (7, .int .i64 (x0.length : Int)), (8, .int .i64 s3)] ∧ Gle G0 G ∧ Since w0.heap.size G0 w0 G w ∧ Owns G w w0.heap.size []) ?_ ?_)
  ·have hO : Owns G0 w0 w0.heap.size ([]) := hO
   exact ⟨_, G0, upds_self _ _ ⟨rfl, rfl, rfl, rfl, trivial⟩, Gle.refl _, hS, hO⟩
  ·rintro s3 F w7 t6 ⟨Fb, G8, rfl, leG8, hS, hO⟩
   intro H1 hqq5
   have Hoq5 := H; have H := H1
   unfold f112_b0 at H
   refine WC_seq ?_; refine WC_region ?_; refine WL_val (rn_lss rfl rfl) rfl ?_; refine WL_nil ?_; refine WC_seq ?_; refine WC_cond rfl (fun hb9 => ?_) (fun hb9 => ?_)
   ·have H := ifT hb9 H; refine WC_skip ?_; refine WC_seq ?_; refine WC_block ?_; refine WC_seq ?_; refine WC_region ?_; refine WL_val (rn_move (v := (.int .i64 s3)) rfl) rfl ?_; refine WL_val (rn_assign (v := (.int .i64 s3)) rfl) rfl ?_; refine WL_nil ?_; refine WC_seq ?_; refine WC_region ?_; refine WL_val (rn_move (v := (.func (.func k2) (fi2).toArray (ca2).toArray)) rfl) rfl ?_; refine WL_val (rn_move (v := (.slice a1 n1 c1)) rfl) rfl ?_; refine WL_val (rn_move (v := (.int .i64 s3)) rfl) rfl ?_; obtain ⟨y10, hy10, H⟩ := bnd H; refine WL_idx sl44 (h1.mono RTBaneTrip_mono leG8) hy10 rfl rfl rfl ?_
    rintro b11 o11 _ hcb11 _ ⟨⟩
    refine WL_val (rn_loadA ag109 (cs := [.int .i64 y10.Day, .int .i64 y10.From, .int .i64 y10.To, .int .i64 y10.Cost]) rfl rfl (fun j v hj => hS.sat.cell (hcb11.drop_take 0 4 j v hj))) rfl ?_; obtain ⟨y12, hy12, H⟩ := bnd H; refine WL_op rfl (OpP_callVF hf2.1 (hf2.2 _ _ leG8 hS.sat y10 _  hy12) rfl rfl rfl (fun w13 hb => ?_)); have hS := hS.keep hb; have hO := hO.below hb; refine WL_nil ?_; refine WC_cond rfl (fun hb14 => ?_) (fun hb14 => ?_)
    ·have H := ifT hb14 H; refine WC_seq ?_; refine WC_region ?_; refine WL_val (rn_move (v := (.int .i64 s3)) rfl) rfl ?_; refine WL_val (rn_assign (v := (.int .i64 s3)) rfl) rfl ?_; refine WL_nil ?_; refine WC_ret ?_; have H := Option.some.inj H; subst H
     have hres := hqq5 _ rfl
     subst hres; have H := Hoq5
     have H : some s3 = some r := H
     have H := Option.some.inj H; subst H
     exact ⟨rfl, hS.below⟩
    ·have H := ifF hb14 H; refine WC_skip ?_; refine WC_region ?_; refine WL_val (rn_add rfl rfl) rfl ?_; refine WL_val (rn_move (v := (.int .i64 (IntKind.i64.wrap (s3 + 1)))) rfl) rfl ?_; refine WL_nil ?_
     have hO : Owns G8 w13 w0.heap.size ([]) := hO
     have H := Option.some.inj H; subst H; refine ⟨_, rfl, ?_⟩
     exact ⟨_, G8, upds_self _ _ ⟨rfl, rfl, rfl, rfl, trivial⟩, leG8, hS, hO⟩
   ·have H := ifF hb9 H; refine WC_exit rfl ?_
    have hO : Owns G8 w7 w0.heap.size ([]) := hO
    have H := Option.some.inj H; subst H
    have hres := hqq5 _ rfl
    subst hres
    exact ⟨_, _, G8, rfl, rfl, leG8, hS, hO⟩
 ·rintro F w15 ⟨p4, Fb, G16, rfl, rfl, leG16, hS, hO⟩
  refine WC_seq ?_; refine WC_region ?_; refine WL_val (rn_assign (v := (.int .i64 (-1))) rfl) rfl ?_; refine WL_nil ?_; refine WC_ret ?_
  have H : some (-1) = some r := H
  have H := Option.some.inj H; subst H
  exact ⟨rfl, hS.below⟩
set_option maxHeartbeats 1000000 in
theorem f103_ok {G0 : Gm} {w0 : World} (hS0 : Sat G0 w0) {x0 : (List TBaneTrip)} {a1 : Option Addr} {n1 c1 : Nat} {x1 : (TBaneTrip → Option Bool)} {k2 : Nat} {fi2 ca2 : List Value} (h1 : RSl RTBaneTrip 4 G0 a1 n1 c1 x0) (hf2 : FnOk146 G0 k2 fi2 ca2 x1) {r : Bool} (H : f103 x0 x1 = some r) :
  Calls Try.prog 103 #[.slice a1 n1 c1, .func (.func k2) (fi2).toArray (ca2).toArray] w0 (RetV w0 (.bool r)) := by
 have hS := Since.start hS0
 have hO : Owns G0 w0 w0.heap.size [] := Owns.nil (Nat.le_refl _)
 unfold f103 at H
 refine enter1 (N := 9) (shutV _ _) Try.func103 rfl rfl rfl rfl ?_; refine WC_seq ?_; refine WC_region ?_; refine WL_val (rn_assign (v := (.bool false)) rfl) rfl ?_; refine WL_nil ?_; refine WC_seq ?_; refine WC_region ?_; refine WL_val (rn_move (v := (.slice a1 n1 c1)) rfl) rfl ?_; refine WL_val (rn_move (v := (.func (.func k2) (fi2).toArray (ca2).toArray)) rfl) rfl ?_; obtain ⟨y3, hy3, H⟩ := bnd H; refine WL_op rfl (OpP_callV cb112 (f112_ok (x0 := x0) (x1 := x1) hS.sat h1 hf2 hy3) rfl rfl (fun w4 hb => ?_)); have hS := hS.keep hb; have hO := hO.below hb; refine WL_val (rn_geq rfl rfl) rfl ?_; refine WL_val (rn_assign (v := (.bool (decide (0 ≤ y3)))) rfl) rfl ?_; refine WL_nil ?_; refine WC_ret ?_
 have H : some (decide (0 ≤ y3)) = some r := H
 have H := Option.some.inj H; subst H
 exact ⟨rfl, hS.below⟩
set_option maxHeartbeats 1000000 in
theorem f104_ok {G0 : Gm} {w0 : World} (hS0 : Sat G0 w0) {x0 : TBaneTrip} {x1 : TBaneSea} {bq1 : Nat} {a1 : Option Addr} {n1 c1 : Nat} {a2 : Option Addr} {n2 c2 : Nat} {a3 : Option Addr} {n3 c3 : Nat} (hcq1 : Cells G0 bq1 0 [.int .i64 x1.Islets, .slice a1 n1 c1, .slice a2 n2 c2, .slice a3 n3 c3, .int .i64 x1.Wait]) (h1 : RSl RInt 1 G0 a1 n1 c1 x1.Infested) (h2 : RSl RInt 1 G0 a2 n2 c2 x1.Clean) (h3 : RSl RTBaneTrip 4 G0 a3 n3 c3 x1.Trips) {r : Bool} (H : f104 x0 x1 = some r) :
  Calls Try.prog 104 #[.agg #[.int .i64 x0.Day, .int .i64 x0.From, .int .i64 x0.To, .int .i64 x0.Cost], .pointer (some ⟨bq1, 0, none⟩)] w0 (RetV w0 (.bool r)) := by
 have hS := Since.start hS0
 have hO : Owns G0 w0 w0.heap.size [] := Owns.nil (Nat.le_refl _)
 unfold f104 at H
 refine enter1 (N := 39) (shutV _ _) Try.func104 rfl rfl rfl rfl ?_; refine WC_seq ?_; refine WC_region ?_; refine WL_op rfl (OpP_newF (v := fun b => .pointer (some ⟨b, 0, none⟩)) (cs := [.int .i64 x0.Day, .int .i64 x0.From, .int .i64 x0.To, .int .i64 x0.Cost]) (e := 109) (rn_boxA rfl) hS.sat rfl (fun b4 G6 w5 hg hcb4 => ?_)); have hS := hS.grow hg; have hO := hO.grow hg
 have leG6 := hg.le
 refine WL_val (rn_assign (v := (.bool false)) rfl) rfl ?_; refine WL_nil ?_; refine WC_seq ?_; obtain ⟨q7, hq7, H⟩ := bnd H; refine WC_cut (fun F w => ∃ (Fb : Fr) (G : Gm), F = upds Fb [(3, .bool q7)] ∧ Gle G6 G ∧ Since w0.heap.size G0 w0 G w ∧ Owns G w w0.heap.size []) ?_ ?_
 ·have Hoq7 := H; have H := hq7; refine WC_region ?_; refine WL_val (rn_fld fd109_0 rfl) rfl ?_; refine WL_val (rn_load na3 rfl (hS.sat.cell (hcb4 0 _ rfl))) rfl ?_; obtain ⟨y8, hy8, H⟩ := bnd H; refine WL_op rfl (OpP_callV cb66 (f66_ok (x0 := x0.Day) (x1 := 0) (x2 := 400) hS.sat  hy8) rfl rfl (fun w9 hb => ?_)); have hS := hS.keep hb; have hO := hO.below hb; refine WL_val (rn_not rfl) rfl ?_; refine WL_val (rn_move (v := (.bool (!y8))) rfl) rfl ?_
  rcases bcases (!y8) with hb10 | hb10
  ·have H := ifT hb10 H; refine WL_guardN rfl hb10 rfl rfl rfl ?_; refine WL_guardN rfl hb10 rfl rfl rfl ?_; refine WL_guardN rfl hb10 rfl rfl rfl ?_; refine WL_guardN rfl hb10 rfl rfl rfl ?_; refine WL_guardN rfl hb10 rfl rfl rfl ?_; refine WL_guardN rfl hb10 rfl rfl rfl ?_; refine WL_guardN rfl hb10 rfl rfl rfl ?_; refine WL_val (rn_pickT (v := (.bool true)) rfl hb10 rfl) rfl ?_; refine WL_val (rn_move (v := (.bool true)) rfl) rfl ?_; refine WL_guardN rfl rfl rfl rfl rfl ?_; refine WL_guardN rfl rfl rfl rfl rfl ?_; refine WL_guardN rfl rfl rfl rfl rfl ?_; refine WL_guardN rfl rfl rfl rfl rfl ?_; refine WL_guardN rfl rfl rfl rfl rfl ?_; refine WL_guardN rfl rfl rfl rfl rfl ?_; refine WL_guardN rfl rfl rfl rfl rfl ?_; refine WL_val (rn_pickT (v := (.bool true)) rfl rfl rfl) rfl ?_; refine WL_val (rn_move (v := (.bool true)) rfl) rfl ?_; refine WL_guardN rfl rfl rfl rfl rfl ?_; refine WL_guardN rfl rfl rfl rfl rfl ?_; refine WL_guardN rfl rfl rfl rfl rfl ?_; refine WL_guardN rfl rfl rfl rfl rfl ?_; refine WL_guardN rfl rfl rfl rfl rfl ?_; refine WL_val (rn_pickT (v := (.bool true)) rfl rfl rfl) rfl ?_; refine WL_val (rn_move (v := (.bool true)) rfl) rfl ?_; refine WL_guardN rfl rfl rfl rfl rfl ?_; refine WL_guardN rfl rfl rfl rfl rfl ?_; refine WL_guardN rfl rfl rfl rfl rfl ?_; refine WL_guardN rfl rfl rfl rfl rfl ?_; refine WL_val (rn_pickT (v := (.bool true)) rfl rfl rfl) rfl ?_; refine WL_val (rn_assign (v := (.bool true)) rfl) rfl ?_; refine WL_nil ?_
   have hO : Owns G6 w9 w0.heap.size ([]) := hO
   have H := Option.some.inj H; subst H
   exact ⟨_, G6, upds_self _ _ ⟨rfl, trivial⟩, Gle.refl _, hS, hO⟩
  ·have H := ifF hb10 H; refine WL_guardY rfl hb10 rfl rfl ?_; refine WL_val (rn_fld fd109_1 rfl) rfl ?_; refine WL_guardY rfl hb10 rfl rfl ?_; refine WL_val (rn_load na3 rfl (hS.sat.cell (hcb4 1 _ rfl))) rfl ?_; refine WL_guardY rfl hb10 rfl rfl ?_; refine WL_val (rn_fld fd46_0 rfl) rfl ?_; refine WL_guardY rfl hb10 rfl rfl ?_; refine WL_val (rn_load na3 rfl ((hS.sat.le leG6).cell (hcq1 0 _ rfl))) rfl ?_; refine WL_guardY rfl hb10 rfl rfl ?_; refine WL_val (rn_sub rfl rfl) rfl ?_; refine WL_guardY rfl hb10 rfl rfl ?_; obtain ⟨y11, hy11, H⟩ := bnd H; refine WL_op rfl (OpP_callV cb66 (f66_ok (x0 := x0.From) (x1 := 0) (x2 := IntKind.i64.wrap (x1.Islets - 1)) hS.sat  hy11) rfl rfl (fun w12 hb => ?_)); have hS := hS.keep hb; have hO := hO.below hb; refine WL_guardY rfl hb10 rfl rfl ?_; refine WL_val (rn_not rfl) rfl ?_; refine WL_val (rn_pickF (v := (.bool (!y11))) rfl hb10 rfl) rfl ?_; refine WL_val (rn_move (v := (.bool (!y11))) rfl) rfl ?_
   rcases bcases (!y11) with hb13 | hb13
   ·have H := ifT hb13 H; refine WL_guardN rfl hb13 rfl rfl rfl ?_; refine WL_guardN rfl hb13 rfl rfl rfl ?_; refine WL_guardN rfl hb13 rfl rfl rfl ?_; refine WL_guardN rfl hb13 rfl rfl rfl ?_; refine WL_guardN rfl hb13 rfl rfl rfl ?_; refine WL_guardN rfl hb13 rfl rfl rfl ?_; refine WL_guardN rfl hb13 rfl rfl rfl ?_; refine WL_val (rn_pickT (v := (.bool true)) rfl hb13 rfl) rfl ?_; refine WL_val (rn_move (v := (.bool true)) rfl) rfl ?_; refine WL_guardN rfl rfl rfl rfl rfl ?_; refine WL_guardN rfl rfl rfl rfl rfl ?_; refine WL_guardN rfl rfl rfl rfl rfl ?_; refine WL_guardN rfl rfl rfl rfl rfl ?_; refine WL_guardN rfl rfl rfl rfl rfl ?_; refine WL_val (rn_pickT (v := (.bool true)) rfl rfl rfl) rfl ?_; refine WL_val (rn_move (v := (.bool true)) rfl) rfl ?_; refine WL_guardN rfl rfl rfl rfl rfl ?_; refine WL_guardN rfl rfl rfl rfl rfl ?_; refine WL_guardN rfl rfl rfl rfl rfl ?_; refine WL_guardN rfl rfl rfl rfl rfl ?_; refine WL_val (rn_pickT (v := (.bool true)) rfl rfl rfl) rfl ?_; refine WL_val (rn_assign (v := (.bool true)) rfl) rfl ?_; refine WL_nil ?_
    have hO : Owns G6 w12 w0.heap.size ([]) := hO
    have H := Option.some.inj H; subst H
    exact ⟨_, G6, upds_self _ _ ⟨rfl, trivial⟩, Gle.refl _, hS, hO⟩
   ·have H := ifF hb13 H; refine WL_guardY rfl hb13 rfl rfl ?_; refine WL_val (rn_fld fd109_2 rfl) rfl ?_; refine WL_guardY rfl hb13 rfl rfl ?_; refine WL_val (rn_load na3 rfl (hS.sat.cell (hcb4 2 _ rfl))) rfl ?_; refine WL_guardY rfl hb13 rfl rfl ?_; refine WL_val (rn_fld fd46_0 rfl) rfl ?_; refine WL_guardY rfl hb13 rfl rfl ?_; refine WL_val (rn_load na3 rfl ((hS.sat.le leG6).cell (hcq1 0 _ rfl))) rfl ?_; refine WL_guardY rfl hb13 rfl rfl ?_; refine WL_val (rn_sub rfl rfl) rfl ?_; refine WL_guardY rfl hb13 rfl rfl ?_; obtain ⟨y14, hy14, H⟩ := bnd H; refine WL_op rfl (OpP_callV cb66 (f66_ok (x0 := x0.To) (x1 := 0) (x2 := IntKind.i64.wrap (x1.Islets - 1)) hS.sat  hy14) rfl rfl (fun w15 hb => ?_)); have hS := hS.keep hb; have hO := hO.below hb; refine WL_guardY rfl hb13 rfl rfl ?_; refine WL_val (rn_not rfl) rfl ?_; refine WL_val (rn_pickF (v := (.bool (!y14))) rfl hb13 rfl) rfl ?_; refine WL_val (rn_move (v := (.bool (!y14))) rfl) rfl ?_
    rcases bcases (!y14) with hb16 | hb16
    ·have H := ifT hb16 H; refine WL_guardN rfl hb16 rfl rfl rfl ?_; refine WL_guardN rfl hb16 rfl rfl rfl ?_; refine WL_guardN rfl hb16 rfl rfl rfl ?_; refine WL_guardN rfl hb16 rfl rfl rfl ?_; refine WL_guardN rfl hb16 rfl rfl rfl ?_; refine WL_val (rn_pickT (v := (.bool true)) rfl hb16 rfl) rfl ?_; refine WL_val (rn_move (v := (.bool true)) rfl) rfl ?_; refine WL_guardN rfl rfl rfl rfl rfl ?_; refine WL_guardN rfl rfl rfl rfl rfl ?_; refine WL_guardN rfl rfl rfl rfl rfl ?_; refine WL_guardN rfl rfl rfl rfl rfl ?_; refine WL_val (rn_pickT (v := (.bool true)) rfl rfl rfl) rfl ?_; refine WL_val (rn_assign (v := (.bool true)) rfl) rfl ?_; refine WL_nil ?_
     have hO : Owns G6 w15 w0.heap.size ([]) := hO
     have H := Option.some.inj H; subst H
     exact ⟨_, G6, upds_self _ _ ⟨rfl, trivial⟩, Gle.refl _, hS, hO⟩
    ·have H := ifF hb16 H; refine WL_guardY rfl hb16 rfl rfl ?_; refine WL_val (rn_fld fd109_1 rfl) rfl ?_; refine WL_guardY rfl hb16 rfl rfl ?_; refine WL_val (rn_load na3 rfl (hS.sat.cell (hcb4 1 _ rfl))) rfl ?_; refine WL_guardY rfl hb16 rfl rfl ?_; refine WL_val (rn_fld fd109_2 rfl) rfl ?_; refine WL_guardY rfl hb16 rfl rfl ?_; refine WL_val (rn_load na3 rfl (hS.sat.cell (hcb4 2 _ rfl))) rfl ?_; refine WL_guardY rfl hb16 rfl rfl ?_; refine WL_val (rn_eql rfl rfl) rfl ?_; refine WL_val (rn_pickF (v := (.bool (x0.From == x0.To))) rfl hb16 rfl) rfl ?_; refine WL_val (rn_move (v := (.bool (x0.From == x0.To))) rfl) rfl ?_
     rcases bcases (x0.From == x0.To) with hb17 | hb17
     ·have H := ifT hb17 H; refine WL_guardN rfl hb17 rfl rfl rfl ?_; refine WL_guardN rfl hb17 rfl rfl rfl ?_; refine WL_guardN rfl hb17 rfl rfl rfl ?_; refine WL_guardN rfl hb17 rfl rfl rfl ?_; refine WL_val (rn_pickT (v := (.bool true)) rfl hb17 rfl) rfl ?_; refine WL_val (rn_assign (v := (.bool true)) rfl) rfl ?_; refine WL_nil ?_
      have hO : Owns G6 w15 w0.heap.size ([]) := hO
      have H := Option.some.inj H; subst H
      exact ⟨_, G6, upds_self _ _ ⟨rfl, trivial⟩, Gle.refl _, hS, hO⟩
     ·have H := ifF hb17 H; refine WL_guardY rfl hb17 rfl rfl ?_; refine WL_val (rn_fld fd109_3 rfl) rfl ?_; refine WL_guardY rfl hb17 rfl rfl ?_; refine WL_val (rn_load na3 rfl (hS.sat.cell (hcb4 3 _ rfl))) rfl ?_; refine WL_guardY rfl hb17 rfl rfl ?_; obtain ⟨y18, hy18, H⟩ := bnd H; refine WL_op rfl (OpP_callV cb66 (f66_ok (x0 := x0.Cost) (x1 := 0) (x2 := 1000000) hS.sat  hy18) rfl rfl (fun w19 hb => ?_)); have hS := hS.keep hb; have hO := hO.below hb; refine WL_guardY rfl hb17 rfl rfl ?_; refine WL_val (rn_not rfl) rfl ?_; refine WL_val (rn_pickF (v := (.bool (!y18))) rfl hb17 rfl) rfl ?_; refine WL_val (rn_assign (v := (.bool (!y18))) rfl) rfl ?_; refine WL_nil ?_
      have hO : Owns G6 w19 w0.heap.size ([]) := hO
      have H := Option.some.inj H; subst H
      exact ⟨_, G6, upds_self _ _ ⟨rfl, trivial⟩, Gle.refl _, hS, hO⟩
 ·rintro F w20 ⟨Fb, G21, rfl, leG21, hS, hO⟩
  refine WC_ret ?_
  have H : some q7 = some r := H
  have H := Option.some.inj H; subst H
  exact ⟨rfl, hS.below⟩
set_option maxHeartbeats 1000000 in
theorem f79_ok {G0 : Gm} {w0 : World} (hS0 : Sat G0 w0) {x0 : TBaneSea} {a1 : Option Addr} {n1 c1 : Nat} {a2 : Option Addr} {n2 c2 : Nat} {a3 : Option Addr} {n3 c3 : Nat} (h1 : RSl RInt 1 G0 a1 n1 c1 x0.Infested) (h2 : RSl RInt 1 G0 a2 n2 c2 x0.Clean) (h3 : RSl RTBaneTrip 4 G0 a3 n3 c3 x0.Trips) {r : Bool} (H : f79 x0 = some r) :
  Calls Try.prog 79 #[.agg #[.int .i64 x0.Islets, .slice a1 n1 c1, .slice a2 n2 c2, .slice a3 n3 c3, .int .i64 x0.Wait]] w0 (RetV w0 (.bool r)) := by
 have hS := Since.start hS0
 have hO : Owns G0 w0 w0.heap.size [] := Owns.nil (Nat.le_refl _)
 unfold f79 at H
 refine enter1 (N := 38) (shutV _ _) Try.func79 rfl rfl rfl rfl ?_; refine WC_seq ?_; refine WC_region ?_; refine WL_op rfl (OpP_newF (v := fun b => .pointer (some ⟨b, 0, none⟩)) (cs := [.int .i64 x0.Islets, .slice a1 n1 c1, .slice a2 n2 c2, .slice a3 n3 c3, .int .i64 x0.Wait]) (e := 46) (rn_boxA rfl) hS.sat rfl (fun b4 G6 w5 hg hcb4 => ?_)); have hS := hS.grow hg; have hO := hO.grow hg
 have leG6 := hg.le
 refine WL_val (rn_assign (v := (.bool false)) rfl) rfl ?_; refine WL_nil ?_; refine WC_seq ?_; obtain ⟨q7, hq7, H⟩ := bnd H; refine WC_cut (fun F w => ∃ (Fb : Fr) (G : Gm), F = upds Fb [(2, .bool q7)] ∧ Gle G6 G ∧ Since w0.heap.size G0 w0 G w ∧ Owns G w w0.heap.size []) ?_ ?_
 ·have Hoq7 := H; have H := hq7; refine WC_region ?_; refine WL_val (rn_fld fd46_0 rfl) rfl ?_; refine WL_val (rn_load na3 rfl (hS.sat.cell (hcb4 0 _ rfl))) rfl ?_; obtain ⟨y8, hy8, H⟩ := bnd H; refine WL_op rfl (OpP_callV cb66 (f66_ok (x0 := x0.Islets) (x1 := 1) (x2 := 8) hS.sat  hy8) rfl rfl (fun w9 hb => ?_)); have hS := hS.keep hb; have hO := hO.below hb; refine WL_val (rn_move (v := (.bool y8)) rfl) rfl ?_
  rcases bcases y8 with hb10 | hb10
  ·have H := ifT hb10 H; refine WL_guardY rfl hb10 rfl rfl ?_; refine WL_val (rn_fld fd46_1 rfl) rfl ?_; refine WL_guardY rfl hb10 rfl rfl ?_; refine WL_val (rn_load na25 rfl (hS.sat.cell (hcb4 1 _ rfl))) rfl ?_; refine WL_guardY rfl hb10 rfl rfl ?_; refine WL_val (rn_fld fd46_0 rfl) rfl ?_; refine WL_guardY rfl hb10 rfl rfl ?_; refine WL_val (rn_load na3 rfl (hS.sat.cell (hcb4 0 _ rfl))) rfl ?_; refine WL_guardY rfl hb10 rfl rfl ?_; obtain ⟨y11, hy11, H⟩ := bnd H; refine WL_op rfl (OpP_callV cb86 (f86_ok (x0 := x0.Infested) (x1 := x0.Islets) hS.sat (h1.mono RInt_mono leG6) hy11) rfl rfl (fun w12 hb => ?_)); have hS := hS.keep hb; have hO := hO.below hb; refine WL_val (rn_pickT (v := (.bool y11)) rfl hb10 rfl) rfl ?_; refine WL_val (rn_move (v := (.bool y11)) rfl) rfl ?_
   rcases bcases y11 with hb13 | hb13
   ·have H := ifT hb13 H; refine WL_guardY rfl hb13 rfl rfl ?_; refine WL_val (rn_fld fd46_2 rfl) rfl ?_; refine WL_guardY rfl hb13 rfl rfl ?_; refine WL_val (rn_load na25 rfl (hS.sat.cell (hcb4 2 _ rfl))) rfl ?_; refine WL_guardY rfl hb13 rfl rfl ?_; refine WL_val (rn_fld fd46_0 rfl) rfl ?_; refine WL_guardY rfl hb13 rfl rfl ?_; refine WL_val (rn_load na3 rfl (hS.sat.cell (hcb4 0 _ rfl))) rfl ?_; refine WL_guardY rfl hb13 rfl rfl ?_; obtain ⟨y14, hy14, H⟩ := bnd H; refine WL_op rfl (OpP_callV cb86 (f86_ok (x0 := x0.Clean) (x1 := x0.Islets) hS.sat (h2.mono RInt_mono leG6) hy14) rfl rfl (fun w15 hb => ?_)); have hS := hS.keep hb; have hO := hO.below hb; refine WL_val (rn_pickT (v := (.bool y14)) rfl hb13 rfl) rfl ?_; refine WL_val (rn_move (v := (.bool y14)) rfl) rfl ?_
    rcases bcases y14 with hb16 | hb16
    ·have H := ifT hb16 H; refine WL_guardY rfl hb16 rfl rfl ?_; refine WL_val (rn_fld fd46_3 rfl) rfl ?_; refine WL_guardY rfl hb16 rfl rfl ?_; refine WL_val (rn_load na44 rfl (hS.sat.cell (hcb4 3 _ rfl))) rfl ?_; refine WL_guardY rfl hb16 rfl rfl ?_; refine WL_val (rn_len sl44 rfl rfl (h3.mono RTBaneTrip_mono leG6).1) rfl ?_; refine WL_guardY rfl hb16 rfl rfl ?_; refine WL_val (rn_leq rfl rfl) rfl ?_; refine WL_val (rn_pickT (v := (.bool (decide ((x0.Trips.length : Int) ≤ 9)))) rfl hb16 rfl) rfl ?_; refine WL_val (rn_move (v := (.bool (decide ((x0.Trips.length : Int) ≤ 9)))) rfl) rfl ?_
     rcases bcases (decide ((x0.Trips.length : Int) ≤ 9)) with hb17 | hb17
     ·have H := ifT hb17 H; refine WL_guardY rfl hb17 rfl rfl ?_; refine WL_val (rn_fld fd46_4 rfl) rfl ?_; refine WL_guardY rfl hb17 rfl rfl ?_; refine WL_val (rn_load na3 rfl (hS.sat.cell (hcb4 4 _ rfl))) rfl ?_; refine WL_guardY rfl hb17 rfl rfl ?_; obtain ⟨y18, hy18, H⟩ := bnd H; refine WL_op rfl (OpP_callV cb66 (f66_ok (x0 := x0.Wait) (x1 := 0) (x2 := 40) hS.sat  hy18) rfl rfl (fun w19 hb => ?_)); have hS := hS.keep hb; have hO := hO.below hb; refine WL_val (rn_pickT (v := (.bool y18)) rfl hb17 rfl) rfl ?_; refine WL_val (rn_move (v := (.bool y18)) rfl) rfl ?_
      rcases bcases y18 with hb20 | hb20
      ·have H := ifT hb20 H; refine WL_guardY rfl hb20 rfl rfl ?_; refine WL_val (rn_fld fd46_3 rfl) rfl ?_; refine WL_guardY rfl hb20 rfl rfl ?_; refine WL_val (rn_load na44 rfl (hS.sat.cell (hcb4 3 _ rfl))) rfl ?_; refine WL_guardY rfl hb20 rfl rfl ?_
       have hF21 : FnOk146 G6 104 [] [.pointer (some ⟨b4, 0, none⟩)] (fun (z0 : TBaneTrip) => f104 z0 x0) := ⟨cb104, fun G1 W1 hl hw z0 r1 H1 => f104_ok (x0 := z0) (x1 := x0) hw (hcb4.mono hl) ((h1.mono RInt_mono leG6).mono RInt_mono hl) ((h2.mono RInt_mono leG6).mono RInt_mono hl) ((h3.mono RTBaneTrip_mono leG6).mono RTBaneTrip_mono hl) H1⟩
       refine WL_val (rn_func (vs := []) (us := [.pointer (some ⟨b4, 0, none⟩)]) rfl rfl) rfl ?_; refine WL_guardY rfl hb20 rfl rfl ?_; obtain ⟨y22, hy22, H⟩ := bnd H; refine WL_op rfl (OpP_callV cb103 (f103_ok (x0 := x0.Trips) (x1 := (fun (z0 : TBaneTrip) => f104 z0 x0)) hS.sat (h3.mono RTBaneTrip_mono leG6) hF21 hy22) rfl rfl (fun w23 hb => ?_)); have hS := hS.keep hb; have hO := hO.below hb; refine WL_guardY rfl hb20 rfl rfl ?_; refine WL_val (rn_not rfl) rfl ?_; refine WL_val (rn_pickT (v := (.bool (!y22))) rfl hb20 rfl) rfl ?_; refine WL_val (rn_assign (v := (.bool (!y22))) rfl) rfl ?_; refine WL_nil ?_
       have hO : Owns G6 w23 w0.heap.size ([]) := hO
       have H := Option.some.inj H; subst H
       exact ⟨_, G6, upds_self _ _ ⟨rfl, trivial⟩, Gle.refl _, hS, hO⟩
      ·have H := ifF hb20 H; refine WL_guardN rfl hb20 rfl rfl rfl ?_; refine WL_guardN rfl hb20 rfl rfl rfl ?_; refine WL_guardN rfl hb20 rfl rfl rfl ?_; refine WL_guardN rfl hb20 rfl rfl rfl ?_; refine WL_guardN rfl hb20 rfl rfl rfl ?_; refine WL_val (rn_pickF (v := (.bool false)) rfl hb20 rfl) rfl ?_; refine WL_val (rn_assign (v := (.bool false)) rfl) rfl ?_; refine WL_nil ?_
       have hO : Owns G6 w19 w0.heap.size ([]) := hO
       have H := Option.some.inj H; subst H
       exact ⟨_, G6, upds_self _ _ ⟨rfl, trivial⟩, Gle.refl _, hS, hO⟩
     ·have H := ifF hb17 H; refine WL_guardN rfl hb17 rfl rfl rfl ?_; refine WL_guardN rfl hb17 rfl rfl rfl ?_; refine WL_guardN rfl hb17 rfl rfl rfl ?_; refine WL_val (rn_pickF (v := (.bool false)) rfl hb17 rfl) rfl ?_; refine WL_val (rn_move (v := (.bool false)) rfl) rfl ?_; refine WL_guardN rfl rfl rfl rfl rfl ?_; refine WL_guardN rfl rfl rfl rfl rfl ?_; refine WL_guardN rfl rfl rfl rfl rfl ?_; refine WL_guardN rfl rfl rfl rfl rfl ?_; refine WL_guardN rfl rfl rfl rfl rfl ?_; refine WL_val (rn_pickF (v := (.bool false)) rfl rfl rfl) rfl ?_; refine WL_val (rn_assign (v := (.bool false)) rfl) rfl ?_; refine WL_nil ?_
      have hO : Owns G6 w15 w0.heap.size ([]) := hO
      have H := Option.some.inj H; subst H
      exact ⟨_, G6, upds_self _ _ ⟨rfl, trivial⟩, Gle.refl _, hS, hO⟩
    ·have H := ifF hb16 H; refine WL_guardN rfl hb16 rfl rfl rfl ?_; refine WL_guardN rfl hb16 rfl rfl rfl ?_; refine WL_guardN rfl hb16 rfl rfl rfl ?_; refine WL_guardN rfl hb16 rfl rfl rfl ?_; refine WL_val (rn_pickF (v := (.bool false)) rfl hb16 rfl) rfl ?_; refine WL_val (rn_move (v := (.bool false)) rfl) rfl ?_; refine WL_guardN rfl rfl rfl rfl rfl ?_; refine WL_guardN rfl rfl rfl rfl rfl ?_; refine WL_guardN rfl rfl rfl rfl rfl ?_; refine WL_val (rn_pickF (v := (.bool false)) rfl rfl rfl) rfl ?_; refine WL_val (rn_move (v := (.bool false)) rfl) rfl ?_; refine WL_guardN rfl rfl rfl rfl rfl ?_; refine WL_guardN rfl rfl rfl rfl rfl ?_; refine WL_guardN rfl rfl rfl rfl rfl ?_; refine WL_guardN rfl rfl rfl rfl rfl ?_; refine WL_guardN rfl rfl rfl rfl rfl ?_; refine WL_val (rn_pickF (v := (.bool false)) rfl rfl rfl) rfl ?_; refine WL_val (rn_assign (v := (.bool false)) rfl) rfl ?_; refine WL_nil ?_
     have hO : Owns G6 w15 w0.heap.size ([]) := hO
     have H := Option.some.inj H; subst H
     exact ⟨_, G6, upds_self _ _ ⟨rfl, trivial⟩, Gle.refl _, hS, hO⟩
   ·have H := ifF hb13 H; refine WL_guardN rfl hb13 rfl rfl rfl ?_; refine WL_guardN rfl hb13 rfl rfl rfl ?_; refine WL_guardN rfl hb13 rfl rfl rfl ?_; refine WL_guardN rfl hb13 rfl rfl rfl ?_; refine WL_guardN rfl hb13 rfl rfl rfl ?_; refine WL_val (rn_pickF (v := (.bool false)) rfl hb13 rfl) rfl ?_; refine WL_val (rn_move (v := (.bool false)) rfl) rfl ?_; refine WL_guardN rfl rfl rfl rfl rfl ?_; refine WL_guardN rfl rfl rfl rfl rfl ?_; refine WL_guardN rfl rfl rfl rfl rfl ?_; refine WL_guardN rfl rfl rfl rfl rfl ?_; refine WL_val (rn_pickF (v := (.bool false)) rfl rfl rfl) rfl ?_; refine WL_val (rn_move (v := (.bool false)) rfl) rfl ?_; refine WL_guardN rfl rfl rfl rfl rfl ?_; refine WL_guardN rfl rfl rfl rfl rfl ?_; refine WL_guardN rfl rfl rfl rfl rfl ?_; refine WL_val (rn_pickF (v := (.bool false)) rfl rfl rfl) rfl ?_; refine WL_val (rn_move (v := (.bool false)) rfl) rfl ?_; refine WL_guardN rfl rfl rfl rfl rfl ?_; refine WL_guardN rfl rfl rfl rfl rfl ?_; refine WL_guardN rfl rfl rfl rfl rfl ?_; refine WL_guardN rfl rfl rfl rfl rfl ?_; refine WL_guardN rfl rfl rfl rfl rfl ?_; refine WL_val (rn_pickF (v := (.bool false)) rfl rfl rfl) rfl ?_; refine WL_val (rn_assign (v := (.bool false)) rfl) rfl ?_; refine WL_nil ?_
    have hO : Owns G6 w12 w0.heap.size ([]) := hO
    have H := Option.some.inj H; subst H
    exact ⟨_, G6, upds_self _ _ ⟨rfl, trivial⟩, Gle.refl _, hS, hO⟩
  ·have H := ifF hb10 H; refine WL_guardN rfl hb10 rfl rfl rfl ?_; refine WL_guardN rfl hb10 rfl rfl rfl ?_; refine WL_guardN rfl hb10 rfl rfl rfl ?_; refine WL_guardN rfl hb10 rfl rfl rfl ?_; refine WL_guardN rfl hb10 rfl rfl rfl ?_; refine WL_val (rn_pickF (v := (.bool false)) rfl hb10 rfl) rfl ?_; refine WL_val (rn_move (v := (.bool false)) rfl) rfl ?_; refine WL_guardN rfl rfl rfl rfl rfl ?_; refine WL_guardN rfl rfl rfl rfl rfl ?_; refine WL_guardN rfl rfl rfl rfl rfl ?_; refine WL_guardN rfl rfl rfl rfl rfl ?_; refine WL_guardN rfl rfl rfl rfl rfl ?_; refine WL_val (rn_pickF (v := (.bool false)) rfl rfl rfl) rfl ?_; refine WL_val (rn_move (v := (.bool false)) rfl) rfl ?_; refine WL_guardN rfl rfl rfl rfl rfl ?_; refine WL_guardN rfl rfl rfl rfl rfl ?_; refine WL_guardN rfl rfl rfl rfl rfl ?_; refine WL_guardN rfl rfl rfl rfl rfl ?_; refine WL_val (rn_pickF (v := (.bool false)) rfl rfl rfl) rfl ?_; refine WL_val (rn_move (v := (.bool false)) rfl) rfl ?_; refine WL_guardN rfl rfl rfl rfl rfl ?_; refine WL_guardN rfl rfl rfl rfl rfl ?_; refine WL_guardN rfl rfl rfl rfl rfl ?_; refine WL_val (rn_pickF (v := (.bool false)) rfl rfl rfl) rfl ?_; refine WL_val (rn_move (v := (.bool false)) rfl) rfl ?_; refine WL_guardN rfl rfl rfl rfl rfl ?_; refine WL_guardN rfl rfl rfl rfl rfl ?_; refine WL_guardN rfl rfl rfl rfl rfl ?_; refine WL_guardN rfl rfl rfl rfl rfl ?_; refine WL_guardN rfl rfl rfl rfl rfl ?_; refine WL_val (rn_pickF (v := (.bool false)) rfl rfl rfl) rfl ?_; refine WL_val (rn_assign (v := (.bool false)) rfl) rfl ?_; refine WL_nil ?_
   have hO : Owns G6 w9 w0.heap.size ([]) := hO
   have H := Option.some.inj H; subst H
   exact ⟨_, G6, upds_self _ _ ⟨rfl, trivial⟩, Gle.refl _, hS, hO⟩
 ·rintro F w24 ⟨Fb, G25, rfl, leG25, hS, hO⟩
  refine WC_ret ?_
  have H : some q7 = some r := H
  have H := Option.some.inj H; subst H
  exact ⟨rfl, hS.below⟩
set_option maxHeartbeats 1000000 in
theorem f87_ok {G0 : Gm} {w0 : World} (hS0 : Sat G0 w0) {x0 : (List Int)} {a1 : Option Addr} {n1 c1 : Nat} (h1 : RSl RInt 1 G0 a1 n1 c1 x0) {r : Int} (H : f87 x0 = some r) :
  Calls Try.prog 87 #[.slice a1 n1 c1] w0 (RetV w0 (.int .i64 r)) := by
 have hS := Since.start hS0
 have hO : Owns G0 w0 w0.heap.size [] := Owns.nil (Nat.le_refl _)
 unfold f87 at H
 refine enter1 (N := 18) (shutV _ _) Try.func87 rfl rfl rfl rfl ?_; refine WC_seq ?_; refine WC_region ?_; refine WL_val (rn_assign (v := (.int .i64 0)) rfl) rfl ?_; refine WL_nil ?_; refine WC_seq ?_; refine WC_region ?_; refine WL_val (rn_assign (v := (.int .i64 0)) rfl) rfl ?_; refine WL_nil ?_; refine WC_seq ?_; refine WC_seq ?_; refine WC_region ?_; refine WL_val (rn_move (v := (.slice a1 n1 c1)) rfl) rfl ?_; refine WL_val (rn_len sl25 rfl rfl h1.1) rfl ?_; refine WL_val (rn_move (v := (.int .i64 0)) rfl) rfl ?_; refine WL_nil ?_; obtain ⟨q4, hq4, H⟩ := bnd H; refine WC_cut (fun F w => ∃ (Fb : Fr), F = upds Fb [(3, .int .i64 q4)] ∧ w0 = w) ?_ ?_
 ·refine WC_block (WC_loop hq4 (fun s2 F w => ∃ (Fb : Fr), F = upds Fb [(3, .int .i64 s2.1), (6, .slice a1 n1 c1), (7, .int .i64 (x0.length : Int)), (8, .int .i64 s2.2)] ∧ w0 = w) ?_ ?_)
  ·exact ⟨_, upds_self _ _ ⟨rfl, rfl, rfl, rfl, trivial⟩, rfl⟩
  ·rintro s2 F wl t5 ⟨Fb, rfl, rfl⟩
   intro H1 hqq4
   have Hoq4 := H; have H := H1
   unfold f87_b0 at H
   refine WC_seq ?_; refine WC_region ?_; refine WL_val (rn_lss rfl rfl) rfl ?_; refine WL_nil ?_; refine WC_seq ?_; refine WC_cond rfl (fun hb8 => ?_) (fun hb8 => ?_)
   ·have H := ifT hb8 H; refine WC_skip ?_; refine WC_seq ?_; refine WC_block ?_; refine WC_seq ?_; refine WC_region ?_; obtain ⟨y9, hy9, H⟩ := bnd H; refine WL_idx sl25 h1 hy9 rfl rfl rfl ?_
    rintro b10 o10 _ hcb10 _ ⟨⟩
    refine WL_val (rn_load na3 rfl (hS.sat.cell (hcb10 0 _ rfl))) rfl ?_; refine WL_val (rn_assign (v := (.int .i64 y9)) rfl) rfl ?_; refine WL_nil ?_; refine WC_region ?_; refine WL_val (rn_move (v := (.int .i64 s2.1)) rfl) rfl ?_; refine WL_val (rn_move (v := (.int .i64 y9)) rfl) rfl ?_; obtain ⟨y11, hy11, H⟩ := bnd H; refine WL_val (rn_shl rfl rfl hy11) rfl ?_; refine WL_val (rn_or rfl rfl) rfl ?_; refine WL_val (rn_assign (v := (.int .i64 (orI .i64 s2.1 y11))) rfl) rfl ?_; refine WL_nil ?_; refine WC_region ?_; refine WL_val (rn_add rfl rfl) rfl ?_; refine WL_val (rn_move (v := (.int .i64 (IntKind.i64.wrap (s2.2 + 1)))) rfl) rfl ?_; refine WL_nil ?_; have H := Option.some.inj H; subst H; refine ⟨_, rfl, ?_⟩
    exact ⟨_, upds_self _ _ ⟨rfl, rfl, rfl, rfl, trivial⟩, rfl⟩
   ·have H := ifF hb8 H; refine WC_exit rfl ?_; have H := Option.some.inj H; subst H
    have hres := hqq4 _ rfl
    subst hres
    exact ⟨_, upds_self _ _ ⟨rfl, trivial⟩, rfl⟩
 ·rintro F wl ⟨Fb, rfl, rfl⟩
  refine WC_seq ?_; refine WC_region ?_; refine WL_val (rn_move (v := (.int .i64 q4)) rfl) rfl ?_; refine WL_val (rn_assign (v := (.int .i64 q4)) rfl) rfl ?_; refine WL_nil ?_; refine WC_ret ?_
  have H : some q4 = some r := H
  have H := Option.some.inj H; subst H
  exact ⟨rfl, hS.below⟩
set_option maxHeartbeats 1000000 in
theorem f73_ok {G0 : Gm} {w0 : World} (hS0 : Sat G0 w0) {x0 : TBaneSea} {a1 : Option Addr} {n1 c1 : Nat} {a2 : Option Addr} {n2 c2 : Nat} {a3 : Option Addr} {n3 c3 : Nat} {x1 : (List Int)} {a4 : Option Addr} {n4 c4 : Nat} (h1 : RSl RInt 1 G0 a1 n1 c1 x0.Infested) (h2 : RSl RInt 1 G0 a2 n2 c2 x0.Clean) (h3 : RSl RTBaneTrip 4 G0 a3 n3 c3 x0.Trips) (h4 : RSl RInt 1 G0 a4 n4 c4 x1) {r : TSea × Bool} (H : f73 x0 x1 = some r) :
  Calls Try.prog 73 #[.agg #[.int .i64 x0.Islets, .slice a1 n1 c1, .slice a2 n2 c2, .slice a3 n3 c3, .int .i64 x0.Wait], .slice a4 n4 c4] w0 (RetG G0 w0 (fun G v => ∃ (ra0 : Option Addr) (rn0 rc0 : Nat) (ra1 : Option Addr) (rn1 rc1 : Nat) (ra2 : Option Addr) (rn2 rc2 : Nat), v = .tuple #[.agg #[.int .i64 r.1.BaneSea.Islets, .slice ra0 rn0 rc0, .slice ra1 rn1 rc1, .slice ra2 rn2 rc2, .int .i64 r.1.BaneSea.Wait, .int .i64 r.1.shut], .bool r.2] ∧ RSl RInt 1 G ra0 rn0 rc0 r.1.BaneSea.Infested ∧ RSl RInt 1 G ra1 rn1 rc1 r.1.BaneSea.Clean ∧ RSl RTBaneTrip 4 G ra2 rn2 rc2 r.1.BaneSea.Trips)) := by
 have hS := Since.start hS0
 have hO : Owns G0 w0 w0.heap.size [] := Owns.nil (Nat.le_refl _)
 unfold f73 at H
 refine enterG (N := 22) (shutG _ _ _) [.cell 4 111, .tmp 5] Try.func73 rfl rfl rfl rfl ?_; refine WC_seq ?_; refine WC_region ?_; refine WL_op rfl (OpP_newF (v := fun b => .pointer (some ⟨b, 0, none⟩)) (cs := [.int .i64 x0.Islets, .slice a1 n1 c1, .slice a2 n2 c2, .slice a3 n3 c3, .int .i64 x0.Wait]) (e := 46) (rn_boxA rfl) hS.sat rfl (fun b5 G7 w6 hg hcb5 => ?_)); have hS := hS.grow hg; have hO := hO.grow hg
 have leG7 := hg.le
 refine WL_op rfl (OpP_newO (v := fun b => .pointer (some ⟨b, 0, none⟩)) (cs := [.int .i64 0, .slice none 0 0, .slice none 0 0, .slice none 0 0, .int .i64 0, .int .i64 0]) (e := 111) (by kernel_rfl) hS.sat hO rfl 6 1 rfl (by decide) (fun b8 w9 hb hO => ?_))
 have hS := hS.keep hb; refine WL_val (rn_assign (v := (.bool false)) rfl) rfl ?_; refine WL_nil ?_; refine WC_seq ?_; refine WC_seq ?_; obtain ⟨q11, hq11, H⟩ := bnd H; refine WC_cut (fun F w => ∃ (Fb : Fr) (G : Gm), F = upds Fb [(1, .slice a4 n4 c4), (2, .pointer (some ⟨b5, 0, none⟩)), (4, .pointer (some ⟨b8, 0, none⟩)), (16, .bool q11)] ∧ Gle G7 G ∧ Since w0.heap.size G0 w0 G w ∧ Owns G w w0.heap.size [⟨111, 6, 1, .slice (some ⟨b8, 0, none⟩) 1 1, [.int .i64 0, .slice none 0 0, .slice none 0 0, .slice none 0 0, .int .i64 0, .int .i64 0]⟩]) ?_ ?_
 ·have Hoq11 := H; have H := hq11; refine WC_region ?_; refine WL_val (rn_loadA ag46 (cs := [.int .i64 x0.Islets, .slice a1 n1 c1, .slice a2 n2 c2, .slice a3 n3 c3, .int .i64 x0.Wait]) rfl rfl (fun j v hj => hS.sat.cell (hcb5.drop_take 0 5 j v hj))) rfl ?_; obtain ⟨y12, hy12, H⟩ := bnd H; refine WL_op rfl (OpP_callV cb79 (f79_ok (x0 := x0) hS.sat (h1.mono RInt_mono leG7) (h2.mono RInt_mono leG7) (h3.mono RTBaneTrip_mono leG7) hy12) rfl rfl (fun w13 hb => ?_)); have hS := hS.keep hb; have hO := hO.below hb; refine WL_val (rn_not rfl) rfl ?_; refine WL_val (rn_move (v := (.bool (!y12))) rfl) rfl ?_
  rcases bcases (!y12) with hb14 | hb14
  ·have H := ifT hb14 H; refine WL_guardN rfl hb14 rfl rfl rfl ?_; refine WL_guardN rfl hb14 rfl rfl rfl ?_; refine WL_guardN rfl hb14 rfl rfl rfl ?_; refine WL_guardN rfl hb14 rfl rfl rfl ?_; refine WL_guardN rfl hb14 rfl rfl rfl ?_; refine WL_guardN rfl hb14 rfl rfl rfl ?_; refine WL_val (rn_pickT (v := (.bool true)) rfl hb14 rfl) rfl ?_; refine WL_nil ?_
   have hO : Owns G7 w13 w0.heap.size ([⟨111, 6, 1, .slice (some ⟨b8, 0, none⟩) 1 1, [.int .i64 0, .slice none 0 0, .slice none 0 0, .slice none 0 0, .int .i64 0, .int .i64 0]⟩]) := hO
   have H := Option.some.inj H; subst H
   exact ⟨_, G7, upds_self _ _ ⟨rfl, rfl, rfl, rfl, trivial⟩, Gle.refl _, hS, hO⟩
  ·have H := ifF hb14 H; refine WL_guardY rfl hb14 rfl rfl ?_; refine WL_val (rn_move (v := (.slice a4 n4 c4)) rfl) rfl ?_; refine WL_guardY rfl hb14 rfl rfl ?_; refine WL_val (rn_fld fd46_3 rfl) rfl ?_; refine WL_guardY rfl hb14 rfl rfl ?_; refine WL_val (rn_load na44 rfl (hS.sat.cell (hcb5 3 _ rfl))) rfl ?_; refine WL_guardY rfl hb14 rfl rfl ?_; refine WL_val (rn_len sl44 rfl rfl (h3.mono RTBaneTrip_mono leG7).1) rfl ?_; refine WL_guardY rfl hb14 rfl rfl ?_; obtain ⟨y15, hy15, H⟩ := bnd H; refine WL_op rfl (OpP_callV cb86 (f86_ok (x0 := x1) (x1 := (x0.Trips.length : Int)) hS.sat (h4.mono RInt_mono leG7) hy15) rfl rfl (fun w16 hb => ?_)); have hS := hS.keep hb; have hO := hO.below hb; refine WL_guardY rfl hb14 rfl rfl ?_; refine WL_val (rn_not rfl) rfl ?_; refine WL_val (rn_pickF (v := (.bool (!y15))) rfl hb14 rfl) rfl ?_; refine WL_nil ?_
   have hO : Owns G7 w16 w0.heap.size ([⟨111, 6, 1, .slice (some ⟨b8, 0, none⟩) 1 1, [.int .i64 0, .slice none 0 0, .slice none 0 0, .slice none 0 0, .int .i64 0, .int .i64 0]⟩]) := hO
   have H := Option.some.inj H; subst H
   exact ⟨_, G7, upds_self _ _ ⟨rfl, rfl, rfl, rfl, trivial⟩, Gle.refl _, hS, hO⟩
 ·rintro F w17 ⟨Fb, G18, rfl, leG18, hS, hO⟩
  refine WC_cond rfl (fun hb19 => ?_) (fun hb19 => ?_)
  ·have H := ifT hb19 H; refine WC_seq ?_; refine WC_region ?_
   refine WL_val (v := (.agg #[.int .i64 0, .slice none 0 0, .slice none 0 0, .slice none 0 0, .int .i64 0, .int .i64 0])) (by kernel_rfl) rfl ?_
   refine WL_op rfl (OpP_store (vs := [.int .i64 0, .slice none 0 0, .slice none 0 0, .slice none 0 0, .int .i64 0, .int .i64 0]) sz111 hS hO (k := 0) rfl rfl rfl rfl rfl (one_all rfl) (Nat.le_of_ble_eq_true rfl) (fun w20 hS hO => ?_))
   have hO : Owns G18 w20 w0.heap.size ([⟨111, 6, 1, .slice (some ⟨b8, 0, none⟩) 1 1, [.int .i64 0, .slice none 0 0, .slice none 0 0, .slice none 0 0, .int .i64 0, .int .i64 0]⟩]) := hO
   refine WL_val (rn_assign (v := (.bool false)) rfl) rfl ?_; refine WL_nil ?_; refine WC_ret ?_
   have H : some ((⟨(⟨0, [], [], [], 0⟩ : TBaneSea), 0⟩ : TSea), false) = some r := H
   have H := Option.some.inj H; subst H
   exact ⟨[.agg #[.int .i64 0, .slice none 0 0, .slice none 0 0, .slice none 0 0, .int .i64 0, .int .i64 0], .bool false], ⟨⟨_, rfl, ld_agg (cs := [.int .i64 0, .slice none 0 0, .slice none 0 0, .slice none 0 0, .int .i64 0, .int .i64 0]) ag111 rfl (fun j v hj => own_sub hO (k := 0) rfl 0 6 j v hj)⟩, rfl, trivial⟩, ⟨_, _, rfl, hS.toGrow, _, _, _, _, _, _, _, _, _, rfl, (RSl.nil RInt 1 G18 none), (RSl.nil RInt 1 G18 none), (RSl.nil RTBaneTrip 4 G18 none)⟩⟩
  ·have H := ifF hb19 H; refine WC_skip ?_; refine WC_seq ?_; have hS := hS.keep (below_drew _); have hO := hO.below (below_drew _)
   refine WC_regionD mixedO (fun _ w => Sat G18 w ∧ Owns G18 w w0.heap.size [⟨111, 6, 1, .slice (some ⟨b8, 0, none⟩) 1 1, [.int .i64 0, .slice none 0 0, .slice none 0 0, .slice none 0 0, .int .i64 0, .int .i64 0]⟩]) (.fl 0 (.on 1 (.on 2 (.on 3 (.on 4 (.on 5 .nil)))))) (by kernel_rfl) rfl (by kernel_rfl) (fun _ => ⟨hS.sat, hO⟩) ?_
   refine WD_val rfl (fun w hw => rn_loadA ag46 (cs := [.int .i64 x0.Islets, .slice a1 n1 c1, .slice a2 n2 c2, .slice a3 n3 c3, .int .i64 x0.Wait]) rfl rfl (fun j v hj => (hw.1.le leG18).cell (hcb5.drop_take 0 5 j v hj))) rfl ?_; refine WD_op rfl rfl (OpP_val (rn_move (v := (.slice a4 n4 c4)) rfl) rfl ?_); refine ⟨fun _ _ => ⟨hS.sat, hO⟩, ?_⟩; obtain ⟨y21, hy21, H⟩ := bnd H
   have l0_2 := leG7.trans leG18
   refine WD_op rfl rfl (OpP_callV cb87 (f87_ok (x0 := x1) hS.sat (h4.mono RInt_mono l0_2) hy21) rfl rfl (fun w22 hb => ?_)); have hS := hS.keep hb; have hO := hO.below hb; refine ⟨fun _ _ => ⟨hS.sat, hO⟩, ?_⟩
   refine WD_op rfl rfl (OpP_val (v := (.agg #[.int .i64 x0.Islets, .slice a1 n1 c1, .slice a2 n2 c2, .slice a3 n3 c3, .int .i64 x0.Wait, .int .i64 y21])) (by kernel_rfl) rfl ?_)
   refine ⟨fun _ h => noneed (by kernel_rfl) h, ?_⟩
   refine WD_op rfl rfl (OpP_store (vs := [.int .i64 x0.Islets, .slice a1 n1 c1, .slice a2 n2 c2, .slice a3 n3 c3, .int .i64 x0.Wait, .int .i64 y21]) sz111 hS hO (k := 0) rfl rfl rfl rfl rfl (one_all rfl) (Nat.le_of_ble_eq_true rfl) (fun w23 hS hO => ?_))
   have hO : Owns G18 w23 w0.heap.size ([⟨111, 6, 1, .slice (some ⟨b8, 0, none⟩) 1 1, [.int .i64 x0.Islets, .slice a1 n1 c1, .slice a2 n2 c2, .slice a3 n3 c3, .int .i64 x0.Wait, .int .i64 y21]⟩]) := hO
   refine ⟨fun _ h => noneed (by kernel_rfl) h, ?_⟩
   refine WD_op rfl rfl (OpP_val (rn_assign (v := (.bool true)) rfl) rfl ?_)
   refine ⟨fun _ h => noneed (by kernel_rfl) h, ?_⟩
   refine WD_nil ?_; refine WC_ret ?_
   have H : some ((⟨x0, y21⟩ : TSea), true) = some r := H
   have H := Option.some.inj H; subst H
   exact ⟨[.agg #[.int .i64 x0.Islets, .slice a1 n1 c1, .slice a2 n2 c2, .slice a3 n3 c3, .int .i64 x0.Wait, .int .i64 y21], .bool true], ⟨⟨_, rfl, ld_agg (cs := [.int .i64 x0.Islets, .slice a1 n1 c1, .slice a2 n2 c2, .slice a3 n3 c3, .int .i64 x0.Wait, .int .i64 y21]) ag111 rfl (fun j v hj => own_sub hO (k := 0) rfl 0 6 j v hj)⟩, rfl, trivial⟩, ⟨_, _, rfl, hS.toGrow, _, _, _, _, _, _, _, _, _, rfl, (h1.mono RInt_mono l0_2), (h2.mono RInt_mono l0_2), (h3.mono RTBaneTrip_mono l0_2)⟩⟩
end Go.Proofs.Ytgplafckddpnkaa
