/-
  The walks: each Go function computes its plain function (printed by a program of ours).
-/
import Derived.Test.YtcaflmilfhhikaaDoorFm
import Derived.Test.YtcaflmilfhhikaaDoorRd
import Derived.Test.YtcaflmilfhhikaaDoorBaseQ
import Derived.Test.YtcaflmilfhhikaaDoorIt
import Derived.Test.YtcaflmilfhhikaaDoorLib
import Derived.Test.YtcaflmilfhhikaaDoorBu
namespace Go.Proofs.YtcaflmilfhhikaaDoor
open Go.RowKit
set_option linter.unusedVariables false

set_option maxRecDepth 20000
set_option linter.unusedVariables false
set_option maxHeartbeats 1000000 in
theorem f14_ok {G0 : Gm} {w0 : World} (hS0 : Sat G0 w0) {x0 : TLandBook} {a1 : Option Addr} {n1 c1 : Nat} {a2 : Option Addr} {n2 c2 : Nat} {a3 : Option Addr} {n3 c3 : Nat} (h1 : RSl RTLandPerson 2 G0 a1 n1 c1 x0.People) (h2 : RSl RTLandEvent 2 G0 a2 n2 c2 x0.Events) (h3 : RSl RTLandMemory 4 G0 a3 n3 c3 x0.Memories) {r : Bool} (H : f14 x0 = some r) :
  Calls Tryd.prog 14 #[.agg #[.slice a1 n1 c1, .slice a2 n2 c2, .slice a3 n3 c3]] w0 (RetV w0 (.bool r)) := by
 have hS := Since.start hS0
 have hO : Owns G0 w0 w0.heap.size [] := Owns.nil (Nat.le_refl _)
 unfold f14 at H
 refine enter1 (N := 19) (shutV _ _) Tryd.func14 rfl rfl rfl rfl ?_; refine WC_seq ?_; refine WC_region ?_; refine WL_op rfl (OpP_newF (v := fun b => .pointer (some ⟨b, 0, none⟩)) (cs := [.slice a1 n1 c1, .slice a2 n2 c2, .slice a3 n3 c3]) (e := 26) (rn_boxA rfl) hS.sat rfl (fun b4 G6 w5 hg hcb4 => ?_)); have hS := hS.grow hg; have hO := hO.grow hg
 have leG6 := hg.le
 refine WL_val (rn_assign (v := (.bool false)) rfl) rfl ?_; refine WL_nil ?_; refine WC_seq ?_; obtain ⟨q7, hq7, H⟩ := bnd H; refine WC_cut (fun F w => ∃ (Fb : Fr), F = upds Fb [(2, .bool q7)] ∧ w5 = w) ?_ ?_
 ·have Hoq7 := H; have H := hq7; refine WC_region ?_; refine WL_val (rn_fld fd26_0 rfl) rfl ?_; refine WL_val (rn_load na22 rfl (hS.sat.cell (hcb4 0 _ rfl))) rfl ?_; refine WL_val (rn_len sl22 rfl rfl (h1.mono RTLandPerson_mono leG6).1) rfl ?_; refine WL_val (rn_leq rfl rfl) rfl ?_; refine WL_val (rn_move (v := (.bool (decide ((x0.People.length : Int) ≤ 15)))) rfl) rfl ?_
  rcases bcases (decide ((x0.People.length : Int) ≤ 15)) with hb8 | hb8
  ·have H := ifT hb8 H; refine WL_guardY rfl hb8 rfl rfl ?_; refine WL_val (rn_fld fd26_1 rfl) rfl ?_; refine WL_guardY rfl hb8 rfl rfl ?_; refine WL_val (rn_load na23 rfl (hS.sat.cell (hcb4 1 _ rfl))) rfl ?_; refine WL_guardY rfl hb8 rfl rfl ?_; refine WL_val (rn_len sl23 rfl rfl (h2.mono RTLandEvent_mono leG6).1) rfl ?_; refine WL_guardY rfl hb8 rfl rfl ?_; refine WL_val (rn_leq rfl rfl) rfl ?_; refine WL_val (rn_pickT (v := (.bool (decide ((x0.Events.length : Int) ≤ 12)))) rfl hb8 rfl) rfl ?_; refine WL_val (rn_move (v := (.bool (decide ((x0.Events.length : Int) ≤ 12)))) rfl) rfl ?_
   rcases bcases (decide ((x0.Events.length : Int) ≤ 12)) with hb9 | hb9
   ·have H := ifT hb9 H; refine WL_guardY rfl hb9 rfl rfl ?_; refine WL_val (rn_fld fd26_2 rfl) rfl ?_; refine WL_guardY rfl hb9 rfl rfl ?_; refine WL_val (rn_load na24 rfl (hS.sat.cell (hcb4 2 _ rfl))) rfl ?_; refine WL_guardY rfl hb9 rfl rfl ?_; refine WL_val (rn_len sl24 rfl rfl (h3.mono RTLandMemory_mono leG6).1) rfl ?_; refine WL_guardY rfl hb9 rfl rfl ?_; refine WL_val (rn_leq rfl rfl) rfl ?_; refine WL_val (rn_pickT (v := (.bool (decide ((x0.Memories.length : Int) ≤ 15)))) rfl hb9 rfl) rfl ?_; refine WL_val (rn_assign (v := (.bool (decide ((x0.Memories.length : Int) ≤ 15)))) rfl) rfl ?_; refine WL_nil ?_; have H := Option.some.inj H; subst H
    exact ⟨_, upds_self _ _ ⟨rfl, trivial⟩, rfl⟩
   ·have H := ifF hb9 H; refine WL_guardN rfl hb9 rfl rfl rfl ?_; refine WL_guardN rfl hb9 rfl rfl rfl ?_; refine WL_guardN rfl hb9 rfl rfl rfl ?_; refine WL_guardN rfl hb9 rfl rfl rfl ?_; refine WL_val (rn_pickF (v := (.bool false)) rfl hb9 rfl) rfl ?_; refine WL_val (rn_assign (v := (.bool false)) rfl) rfl ?_; refine WL_nil ?_; have H := Option.some.inj H; subst H
    exact ⟨_, upds_self _ _ ⟨rfl, trivial⟩, rfl⟩
  ·have H := ifF hb8 H; refine WL_guardN rfl hb8 rfl rfl rfl ?_; refine WL_guardN rfl hb8 rfl rfl rfl ?_; refine WL_guardN rfl hb8 rfl rfl rfl ?_; refine WL_guardN rfl hb8 rfl rfl rfl ?_; refine WL_val (rn_pickF (v := (.bool false)) rfl hb8 rfl) rfl ?_; refine WL_val (rn_move (v := (.bool false)) rfl) rfl ?_; refine WL_guardN rfl rfl rfl rfl rfl ?_; refine WL_guardN rfl rfl rfl rfl rfl ?_; refine WL_guardN rfl rfl rfl rfl rfl ?_; refine WL_guardN rfl rfl rfl rfl rfl ?_; refine WL_val (rn_pickF (v := (.bool false)) rfl rfl rfl) rfl ?_; refine WL_val (rn_assign (v := (.bool false)) rfl) rfl ?_; refine WL_nil ?_; have H := Option.some.inj H; subst H
   exact ⟨_, upds_self _ _ ⟨rfl, trivial⟩, rfl⟩
 ·rintro F wl ⟨Fb, rfl, rfl⟩
  refine WC_ret ?_
  have H : some q7 = some r := H
  have H := Option.some.inj H; subst H
  exact ⟨rfl, hS.below⟩
set_option maxHeartbeats 1000000 in
theorem f66_ok {G0 : Gm} {w0 : World} (hS0 : Sat G0 w0) {x0 : Int} {x1 : Int} {x2 : Int}  {r : Bool} (H : f66 x0 x1 x2 = some r) :
  Calls Tryd.prog 66 #[.int .i64 x0, .int .i64 x1, .int .i64 x2] w0 (RetV w0 (.bool r)) := by
 have hS := Since.start hS0
 have hO : Owns G0 w0 w0.heap.size [] := Owns.nil (Nat.le_refl _)
 unfold f66 at H
 refine enter1 (N := 15) (shutV _ _) Tryd.func66 rfl rfl rfl rfl ?_; refine WC_seq ?_; refine WC_region ?_; refine WL_val (rn_assign (v := (.bool false)) rfl) rfl ?_; refine WL_nil ?_; refine WC_seq ?_; obtain ⟨q1, hq1, H⟩ := bnd H; refine WC_cut (fun F w => ∃ (Fb : Fr), F = upds Fb [(6, .bool q1)] ∧ w0 = w) ?_ ?_
 ·have Hoq1 := H; have H := hq1; refine WC_region ?_; refine WL_val (rn_move (v := (.int .i64 x0)) rfl) rfl ?_; refine WL_val (rn_move (v := (.int .i64 x1)) rfl) rfl ?_; refine WL_val (rn_geq rfl rfl) rfl ?_; refine WL_val (rn_move (v := (.bool (decide (x1 ≤ x0)))) rfl) rfl ?_
  rcases bcases (decide (x1 ≤ x0)) with hb2 | hb2
  ·have H := ifT hb2 H; refine WL_guardY rfl hb2 rfl rfl ?_; refine WL_val (rn_move (v := (.int .i64 x0)) rfl) rfl ?_; refine WL_guardY rfl hb2 rfl rfl ?_; refine WL_val (rn_move (v := (.int .i64 x2)) rfl) rfl ?_; refine WL_guardY rfl hb2 rfl rfl ?_; refine WL_val (rn_leq rfl rfl) rfl ?_; refine WL_val (rn_pickT (v := (.bool (decide (x0 ≤ x2)))) rfl hb2 rfl) rfl ?_; refine WL_val (rn_assign (v := (.bool (decide (x0 ≤ x2)))) rfl) rfl ?_; refine WL_nil ?_; have H := Option.some.inj H; subst H
   exact ⟨_, upds_self _ _ ⟨rfl, trivial⟩, rfl⟩
  ·have H := ifF hb2 H; refine WL_guardN rfl hb2 rfl rfl rfl ?_; refine WL_guardN rfl hb2 rfl rfl rfl ?_; refine WL_guardN rfl hb2 rfl rfl rfl ?_; refine WL_val (rn_pickF (v := (.bool false)) rfl hb2 rfl) rfl ?_; refine WL_val (rn_assign (v := (.bool false)) rfl) rfl ?_; refine WL_nil ?_; have H := Option.some.inj H; subst H
   exact ⟨_, upds_self _ _ ⟨rfl, trivial⟩, rfl⟩
 ·rintro F wl ⟨Fb, rfl, rfl⟩
  refine WC_ret ?_
  have H : some q1 = some r := H
  have H := Option.some.inj H; subst H
  exact ⟨rfl, hS.below⟩
set_option maxHeartbeats 1000000 in
theorem f83_ok {G0 : Gm} {w0 : World} (hS0 : Sat G0 w0) {x0 : (List TLandMemory)} {a1 : Option Addr} {n1 c1 : Nat} {x1 : (TLandMemory → Option Bool)} {k2 : Nat} {fi2 ca2 : List Value} (h1 : RSl RTLandMemory 4 G0 a1 n1 c1 x0) (hf2 : FnOk92 G0 k2 fi2 ca2 x1) {r : Int} (H : f83 x0 x1 = some r) :
  Calls Tryd.prog 83 #[.slice a1 n1 c1, .func (.func k2) (fi2).toArray (ca2).toArray] w0 (RetV w0 (.int .i64 r)) := by
 have hS := Since.start hS0
 have hO : Owns G0 w0 w0.heap.size [] := Owns.nil (Nat.le_refl _)
 unfold f83 at H
 refine enter1 (N := 19) (shutV _ _) Tryd.func83 rfl rfl rfl rfl ?_; refine WC_seq ?_; refine WC_region ?_; refine WL_val (rn_assign (v := (.int .i64 0)) rfl) rfl ?_; refine WL_nil ?_; refine WC_seq ?_; refine WC_seq ?_; refine WC_region ?_; refine WL_val (rn_move (v := (.slice a1 n1 c1)) rfl) rfl ?_; refine WL_val (rn_len sl24 rfl rfl h1.1) rfl ?_; refine WL_val (rn_move (v := (.int .i64 0)) rfl) rfl ?_; refine WL_nil ?_; obtain ⟨q5, hq5, H⟩ := bnd H; refine WC_cut (fun F w => ∃ (p4 : Unit) (Fb : Fr) (G : Gm), q5 = .inl p4 ∧ F = upds Fb [] ∧ Gle G0 G ∧ Since w0.heap.size G0 w0 G w ∧ Owns G w w0.heap.size []) ?_ ?_
 ·refine WC_block (WC_loop hq5 (fun s3 F w => ∃ (Fb : Fr) (G : Gm), F = upds Fb [(0, .slice a1 n1 c1), (1, .func (.func k2) (fi2).toArray (ca2).toArray), (7, .int .i64 (x0.length : Int)), (8, .int .i64 s3)] ∧ Gle G0 G ∧ Since w0.heap.size G0 w0 G w ∧ Owns G w w0.heap.size []) ?_ ?_)
  ·have hO : Owns G0 w0 w0.heap.size ([]) := hO
   exact ⟨_, G0, upds_self _ _ ⟨rfl, rfl, rfl, rfl, trivial⟩, Gle.refl _, hS, hO⟩
  ·rintro s3 F w7 t6 ⟨Fb, G8, rfl, leG8, hS, hO⟩
   intro H1 hqq5
   have Hoq5 := H; have H := H1
   unfold f83_b0 at H
   refine WC_seq ?_; refine WC_region ?_; refine WL_val (rn_lss rfl rfl) rfl ?_; refine WL_nil ?_; refine WC_seq ?_; refine WC_cond rfl (fun hb9 => ?_) (fun hb9 => ?_)
   ·have H := ifT hb9 H; refine WC_skip ?_; refine WC_seq ?_; refine WC_block ?_; refine WC_seq ?_; refine WC_region ?_; refine WL_val (rn_move (v := (.int .i64 s3)) rfl) rfl ?_; refine WL_val (rn_assign (v := (.int .i64 s3)) rfl) rfl ?_; refine WL_nil ?_; refine WC_seq ?_; refine WC_region ?_; refine WL_val (rn_move (v := (.func (.func k2) (fi2).toArray (ca2).toArray)) rfl) rfl ?_; refine WL_val (rn_move (v := (.slice a1 n1 c1)) rfl) rfl ?_; refine WL_val (rn_move (v := (.int .i64 s3)) rfl) rfl ?_; obtain ⟨y10, hy10, H⟩ := bnd H; refine WL_idx sl24 (h1.mono RTLandMemory_mono leG8) hy10 rfl rfl rfl ?_
    rintro b11 o11 _ hcb11 _ ⟨⟩
    refine WL_val (rn_loadA ag46 (cs := [.int .i64 y10.From, .int .i64 y10.To, .int .i64 y10.Years.Low, .int .i64 y10.Years.High]) rfl rfl (fun j v hj => hS.sat.cell (hcb11.drop_take 0 4 j v hj))) rfl ?_; obtain ⟨y12, hy12, H⟩ := bnd H; refine WL_op rfl (OpP_callVF hf2.1 (hf2.2 _ _ leG8 hS.sat y10 _  hy12) rfl rfl rfl (fun w13 hb => ?_)); have hS := hS.keep hb; have hO := hO.below hb; refine WL_nil ?_; refine WC_cond rfl (fun hb14 => ?_) (fun hb14 => ?_)
    ·have H := ifT hb14 H; refine WC_seq ?_; refine WC_region ?_; refine WL_val (rn_move (v := (.int .i64 s3)) rfl) rfl ?_; refine WL_val (rn_assign (v := (.int .i64 s3)) rfl) rfl ?_; refine WL_nil ?_; refine WC_ret ?_; have H := Option.some.inj H; subst H
     have hres := hqq5 _ rfl
     subst hres; have H := Hoq5
     have H : some s3 = some r := H
     have H := Option.some.inj H; subst H
     exact ⟨rfl, hS.below⟩
    ·have H := ifF hb14 H; refine WC_skip ?_; refine WC_region ?_; refine WL_val (rn_add rfl rfl) rfl ?_; refine WL_val (rn_move (v := (.int .i64 (IntKind.i64.wrap (s3 + 1)))) rfl) rfl ?_; refine WL_nil ?_
     have hO : Owns G8 w13 w0.heap.size ([]) := hO
     have H := Option.some.inj H; subst H; refine ⟨_, rfl, ?_⟩
     exact ⟨_, G8, upds_self _ _ ⟨rfl, rfl, rfl, rfl, trivial⟩, leG8, hS, hO⟩
   ·have H := ifF hb9 H; refine WC_exit rfl ?_
    have hO : Owns G8 w7 w0.heap.size ([]) := hO
    have H := Option.some.inj H; subst H
    have hres := hqq5 _ rfl
    subst hres
    exact ⟨_, _, G8, rfl, rfl, leG8, hS, hO⟩
 ·rintro F w15 ⟨p4, Fb, G16, rfl, rfl, leG16, hS, hO⟩
  refine WC_seq ?_; refine WC_region ?_; refine WL_val (rn_assign (v := (.int .i64 (-1))) rfl) rfl ?_; refine WL_nil ?_; refine WC_ret ?_
  have H : some (-1) = some r := H
  have H := Option.some.inj H; subst H
  exact ⟨rfl, hS.below⟩
set_option maxHeartbeats 1000000 in
theorem f67_ok {G0 : Gm} {w0 : World} (hS0 : Sat G0 w0) {x0 : (List TLandMemory)} {a1 : Option Addr} {n1 c1 : Nat} {x1 : (TLandMemory → Option Bool)} {k2 : Nat} {fi2 ca2 : List Value} (h1 : RSl RTLandMemory 4 G0 a1 n1 c1 x0) (hf2 : FnOk92 G0 k2 fi2 ca2 x1) {r : Bool} (H : f67 x0 x1 = some r) :
  Calls Tryd.prog 67 #[.slice a1 n1 c1, .func (.func k2) (fi2).toArray (ca2).toArray] w0 (RetV w0 (.bool r)) := by
 have hS := Since.start hS0
 have hO : Owns G0 w0 w0.heap.size [] := Owns.nil (Nat.le_refl _)
 unfold f67 at H
 refine enter1 (N := 9) (shutV _ _) Tryd.func67 rfl rfl rfl rfl ?_; refine WC_seq ?_; refine WC_region ?_; refine WL_val (rn_assign (v := (.bool false)) rfl) rfl ?_; refine WL_nil ?_; refine WC_seq ?_; refine WC_region ?_; refine WL_val (rn_move (v := (.slice a1 n1 c1)) rfl) rfl ?_; refine WL_val (rn_move (v := (.func (.func k2) (fi2).toArray (ca2).toArray)) rfl) rfl ?_; obtain ⟨y3, hy3, H⟩ := bnd H; refine WL_op rfl (OpP_callV cb83 (f83_ok (x0 := x0) (x1 := x1) hS.sat h1 hf2 hy3) rfl rfl (fun w4 hb => ?_)); have hS := hS.keep hb; have hO := hO.below hb; refine WL_val (rn_geq rfl rfl) rfl ?_; refine WL_val (rn_assign (v := (.bool (decide (0 ≤ y3)))) rfl) rfl ?_; refine WL_nil ?_; refine WC_ret ?_
 have H : some (decide (0 ≤ y3)) = some r := H
 have H := Option.some.inj H; subst H
 exact ⟨rfl, hS.below⟩
set_option maxHeartbeats 1000000 in
theorem f94_ok {G0 : Gm} {w0 : World} (hS0 : Sat G0 w0) {x0 : (List TLandEvent)} {a1 : Option Addr} {n1 c1 : Nat} {x1 : (TLandEvent → Option Bool)} {k2 : Nat} {fi2 ca2 : List Value} (h1 : RSl RTLandEvent 2 G0 a1 n1 c1 x0) (hf2 : FnOk104 G0 k2 fi2 ca2 x1) {r : Int} (H : f94 x0 x1 = some r) :
  Calls Tryd.prog 94 #[.slice a1 n1 c1, .func (.func k2) (fi2).toArray (ca2).toArray] w0 (RetV w0 (.int .i64 r)) := by
 have hS := Since.start hS0
 have hO : Owns G0 w0 w0.heap.size [] := Owns.nil (Nat.le_refl _)
 unfold f94 at H
 refine enter1 (N := 19) (shutV _ _) Tryd.func94 rfl rfl rfl rfl ?_; refine WC_seq ?_; refine WC_region ?_; refine WL_val (rn_assign (v := (.int .i64 0)) rfl) rfl ?_; refine WL_nil ?_; refine WC_seq ?_; refine WC_seq ?_; refine WC_region ?_; refine WL_val (rn_move (v := (.slice a1 n1 c1)) rfl) rfl ?_; refine WL_val (rn_len sl23 rfl rfl h1.1) rfl ?_; refine WL_val (rn_move (v := (.int .i64 0)) rfl) rfl ?_; refine WL_nil ?_; obtain ⟨q5, hq5, H⟩ := bnd H; refine WC_cut (fun F w => ∃ (p4 : Unit) (Fb : Fr) (G : Gm), q5 = .inl p4 ∧ F = upds Fb [] ∧ Gle G0 G ∧ Since w0.heap.size G0 w0 G w ∧ Owns G w w0.heap.size []) ?_ ?_
 ·refine WC_block (WC_loop hq5 (fun s3 F w => ∃ (Fb : Fr) (G : Gm), F = upds Fb [(0, .slice a1 n1 c1), (1, .func (.func k2) (fi2).toArray (ca2).toArray), (7, .int .i64 (x0.length : Int)), (8, .int .i64 s3)] ∧ Gle G0 G ∧ Since w0.heap.size G0 w0 G w ∧ Owns G w w0.heap.size []) ?_ ?_)
  ·have hO : Owns G0 w0 w0.heap.size ([]) := hO
   exact ⟨_, G0, upds_self _ _ ⟨rfl, rfl, rfl, rfl, trivial⟩, Gle.refl _, hS, hO⟩
  ·rintro s3 F w7 t6 ⟨Fb, G8, rfl, leG8, hS, hO⟩
   intro H1 hqq5
   have Hoq5 := H; have H := H1
   unfold f94_b0 at H
   refine WC_seq ?_; refine WC_region ?_; refine WL_val (rn_lss rfl rfl) rfl ?_; refine WL_nil ?_; refine WC_seq ?_; refine WC_cond rfl (fun hb9 => ?_) (fun hb9 => ?_)
   ·have H := ifT hb9 H; refine WC_skip ?_; refine WC_seq ?_; refine WC_block ?_; refine WC_seq ?_; refine WC_region ?_; refine WL_val (rn_move (v := (.int .i64 s3)) rfl) rfl ?_; refine WL_val (rn_assign (v := (.int .i64 s3)) rfl) rfl ?_; refine WL_nil ?_; refine WC_seq ?_; refine WC_region ?_; refine WL_val (rn_move (v := (.func (.func k2) (fi2).toArray (ca2).toArray)) rfl) rfl ?_; refine WL_val (rn_move (v := (.slice a1 n1 c1)) rfl) rfl ?_; refine WL_val (rn_move (v := (.int .i64 s3)) rfl) rfl ?_; obtain ⟨y10, hy10, H⟩ := bnd H; refine WL_idx sl23 (h1.mono RTLandEvent_mono leG8) hy10 rfl rfl rfl ?_
    rintro b11 o11 _ hcb11 _ ⟨⟩
    refine WL_val (rn_loadA ag69 (cs := [.int .i64 y10.Strip, .int .i64 y10.Holder]) rfl rfl (fun j v hj => hS.sat.cell (hcb11.drop_take 0 2 j v hj))) rfl ?_; obtain ⟨y12, hy12, H⟩ := bnd H; refine WL_op rfl (OpP_callVF hf2.1 (hf2.2 _ _ leG8 hS.sat y10 _  hy12) rfl rfl rfl (fun w13 hb => ?_)); have hS := hS.keep hb; have hO := hO.below hb; refine WL_nil ?_; refine WC_cond rfl (fun hb14 => ?_) (fun hb14 => ?_)
    ·have H := ifT hb14 H; refine WC_seq ?_; refine WC_region ?_; refine WL_val (rn_move (v := (.int .i64 s3)) rfl) rfl ?_; refine WL_val (rn_assign (v := (.int .i64 s3)) rfl) rfl ?_; refine WL_nil ?_; refine WC_ret ?_; have H := Option.some.inj H; subst H
     have hres := hqq5 _ rfl
     subst hres; have H := Hoq5
     have H : some s3 = some r := H
     have H := Option.some.inj H; subst H
     exact ⟨rfl, hS.below⟩
    ·have H := ifF hb14 H; refine WC_skip ?_; refine WC_region ?_; refine WL_val (rn_add rfl rfl) rfl ?_; refine WL_val (rn_move (v := (.int .i64 (IntKind.i64.wrap (s3 + 1)))) rfl) rfl ?_; refine WL_nil ?_
     have hO : Owns G8 w13 w0.heap.size ([]) := hO
     have H := Option.some.inj H; subst H; refine ⟨_, rfl, ?_⟩
     exact ⟨_, G8, upds_self _ _ ⟨rfl, rfl, rfl, rfl, trivial⟩, leG8, hS, hO⟩
   ·have H := ifF hb9 H; refine WC_exit rfl ?_
    have hO : Owns G8 w7 w0.heap.size ([]) := hO
    have H := Option.some.inj H; subst H
    have hres := hqq5 _ rfl
    subst hres
    exact ⟨_, _, G8, rfl, rfl, leG8, hS, hO⟩
 ·rintro F w15 ⟨p4, Fb, G16, rfl, rfl, leG16, hS, hO⟩
  refine WC_seq ?_; refine WC_region ?_; refine WL_val (rn_assign (v := (.int .i64 (-1))) rfl) rfl ?_; refine WL_nil ?_; refine WC_ret ?_
  have H : some (-1) = some r := H
  have H := Option.some.inj H; subst H
  exact ⟨rfl, hS.below⟩
set_option maxHeartbeats 1000000 in
theorem f76_ok {G0 : Gm} {w0 : World} (hS0 : Sat G0 w0) {x0 : (List TLandEvent)} {a1 : Option Addr} {n1 c1 : Nat} {x1 : (TLandEvent → Option Bool)} {k2 : Nat} {fi2 ca2 : List Value} (h1 : RSl RTLandEvent 2 G0 a1 n1 c1 x0) (hf2 : FnOk104 G0 k2 fi2 ca2 x1) {r : Bool} (H : f76 x0 x1 = some r) :
  Calls Tryd.prog 76 #[.slice a1 n1 c1, .func (.func k2) (fi2).toArray (ca2).toArray] w0 (RetV w0 (.bool r)) := by
 have hS := Since.start hS0
 have hO : Owns G0 w0 w0.heap.size [] := Owns.nil (Nat.le_refl _)
 unfold f76 at H
 refine enter1 (N := 9) (shutV _ _) Tryd.func76 rfl rfl rfl rfl ?_; refine WC_seq ?_; refine WC_region ?_; refine WL_val (rn_assign (v := (.bool false)) rfl) rfl ?_; refine WL_nil ?_; refine WC_seq ?_; refine WC_region ?_; refine WL_val (rn_move (v := (.slice a1 n1 c1)) rfl) rfl ?_; refine WL_val (rn_move (v := (.func (.func k2) (fi2).toArray (ca2).toArray)) rfl) rfl ?_; obtain ⟨y3, hy3, H⟩ := bnd H; refine WL_op rfl (OpP_callV cb94 (f94_ok (x0 := x0) (x1 := x1) hS.sat h1 hf2 hy3) rfl rfl (fun w4 hb => ?_)); have hS := hS.keep hb; have hO := hO.below hb; refine WL_val (rn_geq rfl rfl) rfl ?_; refine WL_val (rn_assign (v := (.bool (decide (0 ≤ y3)))) rfl) rfl ?_; refine WL_nil ?_; refine WC_ret ?_
 have H : some (decide (0 ≤ y3)) = some r := H
 have H := Option.some.inj H; subst H
 exact ⟨rfl, hS.below⟩
set_option maxHeartbeats 1000000 in
theorem f77_ok {G0 : Gm} {w0 : World} (hS0 : Sat G0 w0) {x0 : TLandEvent} {x1 : TLandBook} {bq1 : Nat} {a1 : Option Addr} {n1 c1 : Nat} {a2 : Option Addr} {n2 c2 : Nat} {a3 : Option Addr} {n3 c3 : Nat} (hcq1 : Cells G0 bq1 0 [.slice a1 n1 c1, .slice a2 n2 c2, .slice a3 n3 c3]) (h1 : RSl RTLandPerson 2 G0 a1 n1 c1 x1.People) (h2 : RSl RTLandEvent 2 G0 a2 n2 c2 x1.Events) (h3 : RSl RTLandMemory 4 G0 a3 n3 c3 x1.Memories) {r : Bool} (H : f77 x0 x1 = some r) :
  Calls Tryd.prog 77 #[.agg #[.int .i64 x0.Strip, .int .i64 x0.Holder], .pointer (some ⟨bq1, 0, none⟩)] w0 (RetV w0 (.bool r)) := by
 have hS := Since.start hS0
 have hO : Owns G0 w0 w0.heap.size [] := Owns.nil (Nat.le_refl _)
 unfold f77 at H
 refine enter1 (N := 18) (shutV _ _) Tryd.func77 rfl rfl rfl rfl ?_; refine WC_seq ?_; refine WC_region ?_; refine WL_op rfl (OpP_newF (v := fun b => .pointer (some ⟨b, 0, none⟩)) (cs := [.int .i64 x0.Strip, .int .i64 x0.Holder]) (e := 69) (rn_boxA rfl) hS.sat rfl (fun b4 G6 w5 hg hcb4 => ?_)); have hS := hS.grow hg; have hO := hO.grow hg
 have leG6 := hg.le
 refine WL_val (rn_assign (v := (.bool false)) rfl) rfl ?_; refine WL_nil ?_; refine WC_seq ?_; obtain ⟨q7, hq7, H⟩ := bnd H; refine WC_cut (fun F w => ∃ (Fb : Fr) (G : Gm), F = upds Fb [(3, .bool q7)] ∧ Gle G6 G ∧ Since w0.heap.size G0 w0 G w ∧ Owns G w w0.heap.size []) ?_ ?_
 ·have Hoq7 := H; have H := hq7; refine WC_region ?_; refine WL_val (rn_fld fd69_0 rfl) rfl ?_; refine WL_val (rn_load na3 rfl (hS.sat.cell (hcb4 0 _ rfl))) rfl ?_; obtain ⟨y8, hy8, H⟩ := bnd H; refine WL_op rfl (OpP_callV cb66 (f66_ok (x0 := x0.Strip) (x1 := 0) (x2 := 5) hS.sat  hy8) rfl rfl (fun w9 hb => ?_)); have hS := hS.keep hb; have hO := hO.below hb; refine WL_val (rn_not rfl) rfl ?_; refine WL_val (rn_move (v := (.bool (!y8))) rfl) rfl ?_
  rcases bcases (!y8) with hb10 | hb10
  ·have H := ifT hb10 H; refine WL_guardN rfl hb10 rfl rfl rfl ?_; refine WL_guardN rfl hb10 rfl rfl rfl ?_; refine WL_guardN rfl hb10 rfl rfl rfl ?_; refine WL_guardN rfl hb10 rfl rfl rfl ?_; refine WL_guardN rfl hb10 rfl rfl rfl ?_; refine WL_guardN rfl hb10 rfl rfl rfl ?_; refine WL_guardN rfl hb10 rfl rfl rfl ?_; refine WL_guardN rfl hb10 rfl rfl rfl ?_; refine WL_val (rn_pickT (v := (.bool true)) rfl hb10 rfl) rfl ?_; refine WL_val (rn_assign (v := (.bool true)) rfl) rfl ?_; refine WL_nil ?_
   have hO : Owns G6 w9 w0.heap.size ([]) := hO
   have H := Option.some.inj H; subst H
   exact ⟨_, G6, upds_self _ _ ⟨rfl, trivial⟩, Gle.refl _, hS, hO⟩
  ·have H := ifF hb10 H; refine WL_guardY rfl hb10 rfl rfl ?_; refine WL_val (rn_fld fd69_1 rfl) rfl ?_; refine WL_guardY rfl hb10 rfl rfl ?_; refine WL_val (rn_load na3 rfl (hS.sat.cell (hcb4 1 _ rfl))) rfl ?_; refine WL_guardY rfl hb10 rfl rfl ?_; refine WL_val (rn_fld fd26_0 rfl) rfl ?_; refine WL_guardY rfl hb10 rfl rfl ?_; refine WL_val (rn_load na22 rfl ((hS.sat.le leG6).cell (hcq1 0 _ rfl))) rfl ?_; refine WL_guardY rfl hb10 rfl rfl ?_; refine WL_val (rn_len sl22 rfl rfl (h1.mono RTLandPerson_mono leG6).1) rfl ?_; refine WL_guardY rfl hb10 rfl rfl ?_; refine WL_val (rn_sub rfl rfl) rfl ?_; refine WL_guardY rfl hb10 rfl rfl ?_; obtain ⟨y11, hy11, H⟩ := bnd H; refine WL_op rfl (OpP_callV cb66 (f66_ok (x0 := x0.Holder) (x1 := 0) (x2 := IntKind.i64.wrap ((x1.People.length : Int) - 1)) hS.sat  hy11) rfl rfl (fun w12 hb => ?_)); have hS := hS.keep hb; have hO := hO.below hb; refine WL_guardY rfl hb10 rfl rfl ?_; refine WL_val (rn_not rfl) rfl ?_; refine WL_val (rn_pickF (v := (.bool (!y11))) rfl hb10 rfl) rfl ?_; refine WL_val (rn_assign (v := (.bool (!y11))) rfl) rfl ?_; refine WL_nil ?_
   have hO : Owns G6 w12 w0.heap.size ([]) := hO
   have H := Option.some.inj H; subst H
   exact ⟨_, G6, upds_self _ _ ⟨rfl, trivial⟩, Gle.refl _, hS, hO⟩
 ·rintro F w13 ⟨Fb, G14, rfl, leG14, hS, hO⟩
  refine WC_ret ?_
  have H : some q7 = some r := H
  have H := Option.some.inj H; subst H
  exact ⟨rfl, hS.below⟩
set_option maxHeartbeats 1000000 in
theorem f78_ok {G0 : Gm} {w0 : World} (hS0 : Sat G0 w0) {x0 : TLandMemory} {x1 : TLandBook} {bq1 : Nat} {a1 : Option Addr} {n1 c1 : Nat} {a2 : Option Addr} {n2 c2 : Nat} {a3 : Option Addr} {n3 c3 : Nat} (hcq1 : Cells G0 bq1 0 [.slice a1 n1 c1, .slice a2 n2 c2, .slice a3 n3 c3]) (h1 : RSl RTLandPerson 2 G0 a1 n1 c1 x1.People) (h2 : RSl RTLandEvent 2 G0 a2 n2 c2 x1.Events) (h3 : RSl RTLandMemory 4 G0 a3 n3 c3 x1.Memories) {r : Bool} (H : f78 x0 x1 = some r) :
  Calls Tryd.prog 78 #[.agg #[.int .i64 x0.From, .int .i64 x0.To, .int .i64 x0.Years.Low, .int .i64 x0.Years.High], .pointer (some ⟨bq1, 0, none⟩)] w0 (RetV w0 (.bool r)) := by
 have hS := Since.start hS0
 have hO : Owns G0 w0 w0.heap.size [] := Owns.nil (Nat.le_refl _)
 unfold f78 at H
 refine enter1 (N := 50) (shutV _ _) Tryd.func78 rfl rfl rfl rfl ?_; refine WC_seq ?_; refine WC_region ?_; refine WL_op rfl (OpP_newF (v := fun b => .pointer (some ⟨b, 0, none⟩)) (cs := [.int .i64 x0.From, .int .i64 x0.To, .int .i64 x0.Years.Low, .int .i64 x0.Years.High]) (e := 46) (rn_boxA rfl) hS.sat rfl (fun b4 G6 w5 hg hcb4 => ?_)); have hS := hS.grow hg; have hO := hO.grow hg
 have leG6 := hg.le
 refine WL_val (rn_assign (v := (.bool false)) rfl) rfl ?_; refine WL_nil ?_; refine WC_seq ?_; obtain ⟨q7, hq7, H⟩ := bnd H; refine WC_cut (fun F w => ∃ (Fb : Fr) (G : Gm), F = upds Fb [(3, .bool q7)] ∧ Gle G6 G ∧ Since w0.heap.size G0 w0 G w ∧ Owns G w w0.heap.size []) ?_ ?_
 ·have Hoq7 := H; have H := hq7; refine WC_region ?_; refine WL_val (rn_fld fd46_0 rfl) rfl ?_; refine WL_val (rn_load na3 rfl (hS.sat.cell (hcb4 0 _ rfl))) rfl ?_; refine WL_val (rn_fld fd26_1 rfl) rfl ?_; refine WL_val (rn_load na23 rfl ((hS.sat.le leG6).cell (hcq1 1 _ rfl))) rfl ?_; refine WL_val (rn_len sl23 rfl rfl (h2.mono RTLandEvent_mono leG6).1) rfl ?_; refine WL_val (rn_sub rfl rfl) rfl ?_; obtain ⟨y8, hy8, H⟩ := bnd H; refine WL_op rfl (OpP_callV cb66 (f66_ok (x0 := x0.From) (x1 := 0) (x2 := IntKind.i64.wrap ((x1.Events.length : Int) - 1)) hS.sat  hy8) rfl rfl (fun w9 hb => ?_)); have hS := hS.keep hb; have hO := hO.below hb; refine WL_val (rn_not rfl) rfl ?_; refine WL_val (rn_move (v := (.bool (!y8))) rfl) rfl ?_
  rcases bcases (!y8) with hb10 | hb10
  ·have H := ifT hb10 H; refine WL_guardN rfl hb10 rfl rfl rfl ?_; refine WL_guardN rfl hb10 rfl rfl rfl ?_; refine WL_guardN rfl hb10 rfl rfl rfl ?_; refine WL_guardN rfl hb10 rfl rfl rfl ?_; refine WL_guardN rfl hb10 rfl rfl rfl ?_; refine WL_guardN rfl hb10 rfl rfl rfl ?_; refine WL_guardN rfl hb10 rfl rfl rfl ?_; refine WL_guardN rfl hb10 rfl rfl rfl ?_; refine WL_val (rn_pickT (v := (.bool true)) rfl hb10 rfl) rfl ?_; refine WL_val (rn_move (v := (.bool true)) rfl) rfl ?_; refine WL_guardN rfl rfl rfl rfl rfl ?_; refine WL_guardN rfl rfl rfl rfl rfl ?_; refine WL_guardN rfl rfl rfl rfl rfl ?_; refine WL_guardN rfl rfl rfl rfl rfl ?_; refine WL_guardN rfl rfl rfl rfl rfl ?_; refine WL_val (rn_pickT (v := (.bool true)) rfl rfl rfl) rfl ?_; refine WL_val (rn_move (v := (.bool true)) rfl) rfl ?_; refine WL_guardN rfl rfl rfl rfl rfl ?_; refine WL_guardN rfl rfl rfl rfl rfl ?_; refine WL_guardN rfl rfl rfl rfl rfl ?_; refine WL_guardN rfl rfl rfl rfl rfl ?_; refine WL_val (rn_pickT (v := (.bool true)) rfl rfl rfl) rfl ?_; refine WL_val (rn_move (v := (.bool true)) rfl) rfl ?_; refine WL_guardN rfl rfl rfl rfl rfl ?_; refine WL_guardN rfl rfl rfl rfl rfl ?_; refine WL_guardN rfl rfl rfl rfl rfl ?_; refine WL_guardN rfl rfl rfl rfl rfl ?_; refine WL_guardN rfl rfl rfl rfl rfl ?_; refine WL_guardN rfl rfl rfl rfl rfl ?_; refine WL_guardN rfl rfl rfl rfl rfl ?_; refine WL_val (rn_pickT (v := (.bool true)) rfl rfl rfl) rfl ?_; refine WL_val (rn_move (v := (.bool true)) rfl) rfl ?_; refine WL_guardN rfl rfl rfl rfl rfl ?_; refine WL_guardN rfl rfl rfl rfl rfl ?_; refine WL_guardN rfl rfl rfl rfl rfl ?_; refine WL_guardN rfl rfl rfl rfl rfl ?_; refine WL_val (rn_pickT (v := (.bool true)) rfl rfl rfl) rfl ?_; refine WL_val (rn_assign (v := (.bool true)) rfl) rfl ?_; refine WL_nil ?_
   have hO : Owns G6 w9 w0.heap.size ([]) := hO
   have H := Option.some.inj H; subst H
   exact ⟨_, G6, upds_self _ _ ⟨rfl, trivial⟩, Gle.refl _, hS, hO⟩
  ·have H := ifF hb10 H; refine WL_guardY rfl hb10 rfl rfl ?_; refine WL_val (rn_fld fd46_1 rfl) rfl ?_; refine WL_guardY rfl hb10 rfl rfl ?_; refine WL_val (rn_load na3 rfl (hS.sat.cell (hcb4 1 _ rfl))) rfl ?_; refine WL_guardY rfl hb10 rfl rfl ?_; refine WL_val (rn_fld fd26_1 rfl) rfl ?_; refine WL_guardY rfl hb10 rfl rfl ?_; refine WL_val (rn_load na23 rfl ((hS.sat.le leG6).cell (hcq1 1 _ rfl))) rfl ?_; refine WL_guardY rfl hb10 rfl rfl ?_; refine WL_val (rn_len sl23 rfl rfl (h2.mono RTLandEvent_mono leG6).1) rfl ?_; refine WL_guardY rfl hb10 rfl rfl ?_; refine WL_val (rn_sub rfl rfl) rfl ?_; refine WL_guardY rfl hb10 rfl rfl ?_; obtain ⟨y11, hy11, H⟩ := bnd H; refine WL_op rfl (OpP_callV cb66 (f66_ok (x0 := x0.To) (x1 := 0) (x2 := IntKind.i64.wrap ((x1.Events.length : Int) - 1)) hS.sat  hy11) rfl rfl (fun w12 hb => ?_)); have hS := hS.keep hb; have hO := hO.below hb; refine WL_guardY rfl hb10 rfl rfl ?_; refine WL_val (rn_not rfl) rfl ?_; refine WL_val (rn_pickF (v := (.bool (!y11))) rfl hb10 rfl) rfl ?_; refine WL_val (rn_move (v := (.bool (!y11))) rfl) rfl ?_
   rcases bcases (!y11) with hb13 | hb13
   ·have H := ifT hb13 H; refine WL_guardN rfl hb13 rfl rfl rfl ?_; refine WL_guardN rfl hb13 rfl rfl rfl ?_; refine WL_guardN rfl hb13 rfl rfl rfl ?_; refine WL_guardN rfl hb13 rfl rfl rfl ?_; refine WL_guardN rfl hb13 rfl rfl rfl ?_; refine WL_val (rn_pickT (v := (.bool true)) rfl hb13 rfl) rfl ?_; refine WL_val (rn_move (v := (.bool true)) rfl) rfl ?_; refine WL_guardN rfl rfl rfl rfl rfl ?_; refine WL_guardN rfl rfl rfl rfl rfl ?_; refine WL_guardN rfl rfl rfl rfl rfl ?_; refine WL_guardN rfl rfl rfl rfl rfl ?_; refine WL_val (rn_pickT (v := (.bool true)) rfl rfl rfl) rfl ?_; refine WL_val (rn_move (v := (.bool true)) rfl) rfl ?_; refine WL_guardN rfl rfl rfl rfl rfl ?_; refine WL_guardN rfl rfl rfl rfl rfl ?_; refine WL_guardN rfl rfl rfl rfl rfl ?_; refine WL_guardN rfl rfl rfl rfl rfl ?_; refine WL_guardN rfl rfl rfl rfl rfl ?_; refine WL_guardN rfl rfl rfl rfl rfl ?_; refine WL_guardN rfl rfl rfl rfl rfl ?_; refine WL_val (rn_pickT (v := (.bool true)) rfl rfl rfl) rfl ?_; refine WL_val (rn_move (v := (.bool true)) rfl) rfl ?_; refine WL_guardN rfl rfl rfl rfl rfl ?_; refine WL_guardN rfl rfl rfl rfl rfl ?_; refine WL_guardN rfl rfl rfl rfl rfl ?_; refine WL_guardN rfl rfl rfl rfl rfl ?_; refine WL_val (rn_pickT (v := (.bool true)) rfl rfl rfl) rfl ?_; refine WL_val (rn_assign (v := (.bool true)) rfl) rfl ?_; refine WL_nil ?_
    have hO : Owns G6 w12 w0.heap.size ([]) := hO
    have H := Option.some.inj H; subst H
    exact ⟨_, G6, upds_self _ _ ⟨rfl, trivial⟩, Gle.refl _, hS, hO⟩
   ·have H := ifF hb13 H; refine WL_guardY rfl hb13 rfl rfl ?_; refine WL_val (rn_fld fd46_0 rfl) rfl ?_; refine WL_guardY rfl hb13 rfl rfl ?_; refine WL_val (rn_load na3 rfl (hS.sat.cell (hcb4 0 _ rfl))) rfl ?_; refine WL_guardY rfl hb13 rfl rfl ?_; refine WL_val (rn_fld fd46_1 rfl) rfl ?_; refine WL_guardY rfl hb13 rfl rfl ?_; refine WL_val (rn_load na3 rfl (hS.sat.cell (hcb4 1 _ rfl))) rfl ?_; refine WL_guardY rfl hb13 rfl rfl ?_; refine WL_val (rn_eql rfl rfl) rfl ?_; refine WL_val (rn_pickF (v := (.bool (x0.From == x0.To))) rfl hb13 rfl) rfl ?_; refine WL_val (rn_move (v := (.bool (x0.From == x0.To))) rfl) rfl ?_
    rcases bcases (x0.From == x0.To) with hb14 | hb14
    ·have H := ifT hb14 H; refine WL_guardN rfl hb14 rfl rfl rfl ?_; refine WL_guardN rfl hb14 rfl rfl rfl ?_; refine WL_guardN rfl hb14 rfl rfl rfl ?_; refine WL_guardN rfl hb14 rfl rfl rfl ?_; refine WL_val (rn_pickT (v := (.bool true)) rfl hb14 rfl) rfl ?_; refine WL_val (rn_move (v := (.bool true)) rfl) rfl ?_; refine WL_guardN rfl rfl rfl rfl rfl ?_; refine WL_guardN rfl rfl rfl rfl rfl ?_; refine WL_guardN rfl rfl rfl rfl rfl ?_; refine WL_guardN rfl rfl rfl rfl rfl ?_; refine WL_guardN rfl rfl rfl rfl rfl ?_; refine WL_guardN rfl rfl rfl rfl rfl ?_; refine WL_guardN rfl rfl rfl rfl rfl ?_; refine WL_val (rn_pickT (v := (.bool true)) rfl rfl rfl) rfl ?_; refine WL_val (rn_move (v := (.bool true)) rfl) rfl ?_; refine WL_guardN rfl rfl rfl rfl rfl ?_; refine WL_guardN rfl rfl rfl rfl rfl ?_; refine WL_guardN rfl rfl rfl rfl rfl ?_; refine WL_guardN rfl rfl rfl rfl rfl ?_; refine WL_val (rn_pickT (v := (.bool true)) rfl rfl rfl) rfl ?_; refine WL_val (rn_assign (v := (.bool true)) rfl) rfl ?_; refine WL_nil ?_
     have hO : Owns G6 w12 w0.heap.size ([]) := hO
     have H := Option.some.inj H; subst H
     exact ⟨_, G6, upds_self _ _ ⟨rfl, trivial⟩, Gle.refl _, hS, hO⟩
    ·have H := ifF hb14 H; refine WL_guardY rfl hb14 rfl rfl ?_; refine WL_val (rn_fld fd46_2 rfl) rfl ?_; refine WL_guardY rfl hb14 rfl rfl ?_; refine WL_val (rn_fld fd44_0 rfl) rfl ?_; refine WL_guardY rfl hb14 rfl rfl ?_; refine WL_val (rn_load na3 rfl (hS.sat.cell (hcb4 2 _ rfl))) rfl ?_; refine WL_guardY rfl hb14 rfl rfl ?_; refine WL_val (rn_lss rfl rfl) rfl ?_; refine WL_val (rn_pickF (v := (.bool (decide (x0.Years.Low < (-1000))))) rfl hb14 rfl) rfl ?_; refine WL_val (rn_move (v := (.bool (decide (x0.Years.Low < (-1000))))) rfl) rfl ?_
     rcases bcases (decide (x0.Years.Low < (-1000))) with hb15 | hb15
     ·have H := ifT hb15 H; refine WL_guardN rfl hb15 rfl rfl rfl ?_; refine WL_guardN rfl hb15 rfl rfl rfl ?_; refine WL_guardN rfl hb15 rfl rfl rfl ?_; refine WL_guardN rfl hb15 rfl rfl rfl ?_; refine WL_guardN rfl hb15 rfl rfl rfl ?_; refine WL_guardN rfl hb15 rfl rfl rfl ?_; refine WL_guardN rfl hb15 rfl rfl rfl ?_; refine WL_val (rn_pickT (v := (.bool true)) rfl hb15 rfl) rfl ?_; refine WL_val (rn_move (v := (.bool true)) rfl) rfl ?_; refine WL_guardN rfl rfl rfl rfl rfl ?_; refine WL_guardN rfl rfl rfl rfl rfl ?_; refine WL_guardN rfl rfl rfl rfl rfl ?_; refine WL_guardN rfl rfl rfl rfl rfl ?_; refine WL_val (rn_pickT (v := (.bool true)) rfl rfl rfl) rfl ?_; refine WL_val (rn_assign (v := (.bool true)) rfl) rfl ?_; refine WL_nil ?_
      have hO : Owns G6 w12 w0.heap.size ([]) := hO
      have H := Option.some.inj H; subst H
      exact ⟨_, G6, upds_self _ _ ⟨rfl, trivial⟩, Gle.refl _, hS, hO⟩
     ·have H := ifF hb15 H; refine WL_guardY rfl hb15 rfl rfl ?_; refine WL_val (rn_fld fd46_2 rfl) rfl ?_; refine WL_guardY rfl hb15 rfl rfl ?_; refine WL_val (rn_fld fd44_0 rfl) rfl ?_; refine WL_guardY rfl hb15 rfl rfl ?_; refine WL_val (rn_load na3 rfl (hS.sat.cell (hcb4 2 _ rfl))) rfl ?_; refine WL_guardY rfl hb15 rfl rfl ?_; refine WL_val (rn_fld fd46_2 rfl) rfl ?_; refine WL_guardY rfl hb15 rfl rfl ?_; refine WL_val (rn_fld fd44_1 rfl) rfl ?_; refine WL_guardY rfl hb15 rfl rfl ?_; refine WL_val (rn_load na3 rfl (hS.sat.cell (hcb4 3 _ rfl))) rfl ?_; refine WL_guardY rfl hb15 rfl rfl ?_; refine WL_val (rn_gtr rfl rfl) rfl ?_; refine WL_val (rn_pickF (v := (.bool (decide (x0.Years.High < x0.Years.Low)))) rfl hb15 rfl) rfl ?_; refine WL_val (rn_move (v := (.bool (decide (x0.Years.High < x0.Years.Low)))) rfl) rfl ?_
      rcases bcases (decide (x0.Years.High < x0.Years.Low)) with hb16 | hb16
      ·have H := ifT hb16 H; refine WL_guardN rfl hb16 rfl rfl rfl ?_; refine WL_guardN rfl hb16 rfl rfl rfl ?_; refine WL_guardN rfl hb16 rfl rfl rfl ?_; refine WL_guardN rfl hb16 rfl rfl rfl ?_; refine WL_val (rn_pickT (v := (.bool true)) rfl hb16 rfl) rfl ?_; refine WL_val (rn_assign (v := (.bool true)) rfl) rfl ?_; refine WL_nil ?_
       have hO : Owns G6 w12 w0.heap.size ([]) := hO
       have H := Option.some.inj H; subst H
       exact ⟨_, G6, upds_self _ _ ⟨rfl, trivial⟩, Gle.refl _, hS, hO⟩
      ·have H := ifF hb16 H; refine WL_guardY rfl hb16 rfl rfl ?_; refine WL_val (rn_fld fd46_2 rfl) rfl ?_; refine WL_guardY rfl hb16 rfl rfl ?_; refine WL_val (rn_fld fd44_1 rfl) rfl ?_; refine WL_guardY rfl hb16 rfl rfl ?_; refine WL_val (rn_load na3 rfl (hS.sat.cell (hcb4 3 _ rfl))) rfl ?_; refine WL_guardY rfl hb16 rfl rfl ?_; refine WL_val (rn_gtr rfl rfl) rfl ?_; refine WL_val (rn_pickF (v := (.bool (decide (1000 < x0.Years.High)))) rfl hb16 rfl) rfl ?_; refine WL_val (rn_assign (v := (.bool (decide (1000 < x0.Years.High)))) rfl) rfl ?_; refine WL_nil ?_
       have hO : Owns G6 w12 w0.heap.size ([]) := hO
       have H := Option.some.inj H; subst H
       exact ⟨_, G6, upds_self _ _ ⟨rfl, trivial⟩, Gle.refl _, hS, hO⟩
 ·rintro F w17 ⟨Fb, G18, rfl, leG18, hS, hO⟩
  refine WC_ret ?_
  have H : some q7 = some r := H
  have H := Option.some.inj H; subst H
  exact ⟨rfl, hS.below⟩
set_option maxHeartbeats 1000000 in
theorem f51_ok {G0 : Gm} {w0 : World} (hS0 : Sat G0 w0) {x0 : TLandBook} {a1 : Option Addr} {n1 c1 : Nat} {a2 : Option Addr} {n2 c2 : Nat} {a3 : Option Addr} {n3 c3 : Nat} (h1 : RSl RTLandPerson 2 G0 a1 n1 c1 x0.People) (h2 : RSl RTLandEvent 2 G0 a2 n2 c2 x0.Events) (h3 : RSl RTLandMemory 4 G0 a3 n3 c3 x0.Memories) {r : Bool} (H : f51 x0 = some r) :
  Calls Tryd.prog 51 #[.agg #[.slice a1 n1 c1, .slice a2 n2 c2, .slice a3 n3 c3]] w0 (RetV w0 (.bool r)) := by
 have hS := Since.start hS0
 have hO : Owns G0 w0 w0.heap.size [] := Owns.nil (Nat.le_refl _)
 unfold f51 at H
 refine enter1 (N := 58) (shutV _ _) Tryd.func51 rfl rfl rfl rfl ?_; refine WC_seq ?_; refine WC_region ?_; refine WL_op rfl (OpP_newF (v := fun b => .pointer (some ⟨b, 0, none⟩)) (cs := [.slice a1 n1 c1, .slice a2 n2 c2, .slice a3 n3 c3]) (e := 26) (rn_boxA rfl) hS.sat rfl (fun b4 G6 w5 hg hcb4 => ?_)); have hS := hS.grow hg; have hO := hO.grow hg
 have leG6 := hg.le
 refine WL_val (rn_assign (v := (.bool false)) rfl) rfl ?_; refine WL_nil ?_; refine WC_seq ?_; refine WC_seq ?_; refine WC_region ?_; refine WL_val (rn_fld fd26_0 rfl) rfl ?_; refine WL_val (rn_load na22 rfl (hS.sat.cell (hcb4 0 _ rfl))) rfl ?_; refine WL_val (rn_len sl22 rfl rfl (h1.mono RTLandPerson_mono leG6).1) rfl ?_; refine WL_val (rn_move (v := (.int .i64 0)) rfl) rfl ?_; refine WL_nil ?_; obtain ⟨q9, hq9, H⟩ := bnd H; refine WC_cut (fun F w => ∃ (p8 : Unit) (Fb : Fr) (G : Gm), q9 = .inl p8 ∧ F = upds Fb [(1, .pointer (some ⟨b4, 0, none⟩))] ∧ Gle G6 G ∧ Since w0.heap.size G0 w0 G w ∧ Owns G w w0.heap.size []) ?_ ?_
 ·refine WC_block (WC_loop hq9 (fun s7 F w => ∃ (Fb : Fr) (G : Gm), F = upds Fb [(1, .pointer (some ⟨b4, 0, none⟩)), (6, .slice a1 n1 c1), (7, .int .i64 (x0.People.length : Int)), (8, .int .i64 s7)] ∧ Gle G6 G ∧ Since w0.heap.size G0 w0 G w ∧ Owns G w w0.heap.size []) ?_ ?_)
  ·have hO : Owns G6 w5 w0.heap.size ([]) := hO
   exact ⟨_, G6, upds_self _ _ ⟨rfl, rfl, rfl, rfl, trivial⟩, Gle.refl _, hS, hO⟩
  ·rintro s7 F w11 t10 ⟨Fb, G12, rfl, leG12, hS, hO⟩
   intro H1 hqq9
   have Hoq9 := H; have H := H1
   unfold f51_b0 at H
   refine WC_seq ?_; refine WC_region ?_; refine WL_val (rn_lss rfl rfl) rfl ?_; refine WL_nil ?_; refine WC_seq ?_; refine WC_cond rfl (fun hb13 => ?_) (fun hb13 => ?_)
   ·have H := ifT hb13 H; refine WC_skip ?_; refine WC_seq ?_; refine WC_block ?_; refine WC_seq ?_; refine WC_region ?_; refine WL_val (rn_move (v := (.int .i64 s7)) rfl) rfl ?_; obtain ⟨y14, hy14, H⟩ := bnd H
    have l0_2 := leG6.trans leG12
    refine WL_idx sl22 (h1.mono RTLandPerson_mono l0_2) hy14 rfl rfl rfl ?_
    rintro b15 o15 _ hcb15 _ ⟨⟩
    refine WL_val (rn_loadA ag85 (cs := [.int .i64 y14.Mother, .int .i64 y14.Adopted]) rfl rfl (fun j v hj => hS.sat.cell (hcb15.drop_take 0 2 j v hj))) rfl ?_
    refine WL_op rfl (OpP_newO (v := fun b => .pointer (some ⟨b, 0, none⟩)) (cs := [.int .i64 0, .int .i64 0]) (e := 85) (by kernel_rfl) hS.sat hO rfl 2 1 rfl (by decide) (fun b16 w17 hb hO => ?_))
    have hS := hS.keep hb; refine WL_val (rn_assign (v := (.int .i64 s7)) rfl) rfl ?_; refine WL_op rfl (OpP_store (vs := [.int .i64 y14.Mother, .int .i64 y14.Adopted]) sz85 hS hO (k := 0) rfl rfl rfl rfl rfl (one_all rfl) (Nat.le_of_ble_eq_true rfl) (fun w19 hS hO => ?_))
    have hO : Owns G12 w19 w0.heap.size ([⟨85, 2, 1, .slice (some ⟨b16, 0, none⟩) 1 1, [.int .i64 y14.Mother, .int .i64 y14.Adopted]⟩]) := hO
    obtain ⟨G20, leG20, hS, hO, hqG20, _⟩ := hO.freeze hS (k := 0) rfl
    have hcG20 : Cells G20 b16 0 [.int .i64 y14.Mother, .int .i64 y14.Adopted] := (hqG20 _ _ _ _ rfl)
    refine WL_nil ?_; refine WC_seq ?_; obtain ⟨q21, hq21, H⟩ := bnd H; refine WC_cut (fun F w => ∃ (Fb : Fr) (G : Gm), F = upds Fb [(1, .pointer (some ⟨b4, 0, none⟩)), (6, .slice a1 n1 c1), (7, .int .i64 (x0.People.length : Int)), (8, .int .i64 s7), (26, .bool q21)] ∧ Gle G20 G ∧ Since w0.heap.size G0 w0 G w ∧ Owns G w w0.heap.size []) ?_ ?_
    ·have Hoq21 := H; have H := hq21; refine WC_region ?_; refine WL_val (rn_fld fd85_0 rfl) rfl ?_; refine WL_val (rn_load na3 rfl (hS.sat.cell (hcG20 0 _ rfl))) rfl ?_; refine WL_val (rn_move (v := (.int .i64 s7)) rfl) rfl ?_; refine WL_val (rn_sub rfl rfl) rfl ?_; obtain ⟨y22, hy22, H⟩ := bnd H; refine WL_op rfl (OpP_callV cb66 (f66_ok (x0 := y14.Mother) (x1 := (-1)) (x2 := IntKind.i64.wrap (s7 - 1)) hS.sat  hy22) rfl rfl (fun w23 hb => ?_)); have hS := hS.keep hb; have hO := hO.below hb; refine WL_val (rn_not rfl) rfl ?_; refine WL_val (rn_move (v := (.bool (!y22))) rfl) rfl ?_
     rcases bcases (!y22) with hb24 | hb24
     ·have H := ifT hb24 H; refine WL_guardN rfl hb24 rfl rfl rfl ?_; refine WL_guardN rfl hb24 rfl rfl rfl ?_; refine WL_guardN rfl hb24 rfl rfl rfl ?_; refine WL_guardN rfl hb24 rfl rfl rfl ?_; refine WL_guardN rfl hb24 rfl rfl rfl ?_; refine WL_guardN rfl hb24 rfl rfl rfl ?_; refine WL_val (rn_pickT (v := (.bool true)) rfl hb24 rfl) rfl ?_; refine WL_nil ?_
      have hO : Owns G20 w23 w0.heap.size ([]) := hO
      have H := Option.some.inj H; subst H
      exact ⟨_, G20, upds_self _ _ ⟨rfl, rfl, rfl, rfl, rfl, trivial⟩, Gle.refl _, hS, hO⟩
     ·have H := ifF hb24 H; refine WL_guardY rfl hb24 rfl rfl ?_; refine WL_val (rn_fld fd85_1 rfl) rfl ?_; refine WL_guardY rfl hb24 rfl rfl ?_; refine WL_val (rn_load na3 rfl (hS.sat.cell (hcG20 1 _ rfl))) rfl ?_; refine WL_guardY rfl hb24 rfl rfl ?_; refine WL_val (rn_move (v := (.int .i64 s7)) rfl) rfl ?_; refine WL_guardY rfl hb24 rfl rfl ?_; refine WL_val (rn_sub rfl rfl) rfl ?_; refine WL_guardY rfl hb24 rfl rfl ?_; obtain ⟨y25, hy25, H⟩ := bnd H; refine WL_op rfl (OpP_callV cb66 (f66_ok (x0 := y14.Adopted) (x1 := (-1)) (x2 := IntKind.i64.wrap (s7 - 1)) hS.sat  hy25) rfl rfl (fun w26 hb => ?_)); have hS := hS.keep hb; have hO := hO.below hb; refine WL_guardY rfl hb24 rfl rfl ?_; refine WL_val (rn_not rfl) rfl ?_; refine WL_val (rn_pickF (v := (.bool (!y25))) rfl hb24 rfl) rfl ?_; refine WL_nil ?_
      have hO : Owns G20 w26 w0.heap.size ([]) := hO
      have H := Option.some.inj H; subst H
      exact ⟨_, G20, upds_self _ _ ⟨rfl, rfl, rfl, rfl, rfl, trivial⟩, Gle.refl _, hS, hO⟩
    ·rintro F w27 ⟨Fb, G28, rfl, leG28, hS, hO⟩
     refine WC_cond rfl (fun hb29 => ?_) (fun hb29 => ?_)
     ·have H := ifT hb29 H; refine WC_seq ?_; refine WC_region ?_; refine WL_val (rn_assign (v := (.bool false)) rfl) rfl ?_; refine WL_nil ?_; refine WC_ret ?_; have H := Option.some.inj H; subst H
      have hres := hqq9 _ rfl
      subst hres; have H := Hoq9
      have H : some false = some r := H
      have H := Option.some.inj H; subst H
      exact ⟨rfl, hS.below⟩
     ·have H := ifF hb29 H; refine WC_skip ?_; refine WC_region ?_; refine WL_val (rn_add rfl rfl) rfl ?_; refine WL_val (rn_move (v := (.int .i64 (IntKind.i64.wrap (s7 + 1)))) rfl) rfl ?_; refine WL_nil ?_
      have hO : Owns G28 w27 w0.heap.size ([]) := hO
      have H := Option.some.inj H; subst H; refine ⟨_, rfl, ?_⟩
      have l1_4 := (leG12.trans leG20).trans leG28
      exact ⟨_, G28, upds_self _ _ ⟨rfl, rfl, rfl, rfl, trivial⟩, l1_4, hS, hO⟩
   ·have H := ifF hb13 H; refine WC_exit rfl ?_
    have hO : Owns G12 w11 w0.heap.size ([]) := hO
    have H := Option.some.inj H; subst H
    have hres := hqq9 _ rfl
    subst hres
    exact ⟨_, _, G12, rfl, upds_self _ _ ⟨rfl, trivial⟩, leG12, hS, hO⟩
 ·rintro F w30 ⟨p8, Fb, G31, rfl, rfl, leG31, hS, hO⟩
  refine WC_seq ?_; obtain ⟨q32, hq32, H⟩ := bnd H; refine WC_cut (fun F w => ∃ (Fb : Fr) (G : Gm), F = upds Fb [(2, .bool q32)] ∧ Gle G31 G ∧ Since w0.heap.size G0 w0 G w ∧ Owns G w w0.heap.size []) ?_ ?_
  ·have Hoq32 := H; have H := hq32; refine WC_region ?_; refine WL_val (rn_fld fd26_0 rfl) rfl ?_; refine WL_val (rn_load na22 rfl ((hS.sat.le leG31).cell (hcb4 0 _ rfl))) rfl ?_
   have l0_2 := leG6.trans leG31
   refine WL_val (rn_len sl22 rfl rfl (h1.mono RTLandPerson_mono l0_2).1) rfl ?_; obtain ⟨y33, hy33, H⟩ := bnd H; refine WL_op rfl (OpP_callV cb66 (f66_ok (x0 := (x0.People.length : Int)) (x1 := 1) (x2 := 10) hS.sat  hy33) rfl rfl (fun w34 hb => ?_)); have hS := hS.keep hb; have hO := hO.below hb; refine WL_val (rn_move (v := (.bool y33)) rfl) rfl ?_
   rcases bcases y33 with hb35 | hb35
   ·have H := ifT hb35 H; refine WL_guardY rfl hb35 rfl rfl ?_; refine WL_val (rn_fld fd26_1 rfl) rfl ?_; refine WL_guardY rfl hb35 rfl rfl ?_; refine WL_val (rn_load na23 rfl ((hS.sat.le leG31).cell (hcb4 1 _ rfl))) rfl ?_; refine WL_guardY rfl hb35 rfl rfl ?_; refine WL_val (rn_len sl23 rfl rfl (h2.mono RTLandEvent_mono l0_2).1) rfl ?_; refine WL_guardY rfl hb35 rfl rfl ?_; obtain ⟨y36, hy36, H⟩ := bnd H; refine WL_op rfl (OpP_callV cb66 (f66_ok (x0 := (x0.Events.length : Int)) (x1 := 1) (x2 := 7) hS.sat  hy36) rfl rfl (fun w37 hb => ?_)); have hS := hS.keep hb; have hO := hO.below hb; refine WL_val (rn_pickT (v := (.bool y36)) rfl hb35 rfl) rfl ?_; refine WL_val (rn_move (v := (.bool y36)) rfl) rfl ?_
    rcases bcases y36 with hb38 | hb38
    ·have H := ifT hb38 H; refine WL_guardY rfl hb38 rfl rfl ?_; refine WL_val (rn_fld fd26_2 rfl) rfl ?_; refine WL_guardY rfl hb38 rfl rfl ?_; refine WL_val (rn_load na24 rfl ((hS.sat.le leG31).cell (hcb4 2 _ rfl))) rfl ?_; refine WL_guardY rfl hb38 rfl rfl ?_; refine WL_val (rn_len sl24 rfl rfl (h3.mono RTLandMemory_mono l0_2).1) rfl ?_; refine WL_guardY rfl hb38 rfl rfl ?_; refine WL_val (rn_leq rfl rfl) rfl ?_; refine WL_val (rn_pickT (v := (.bool (decide ((x0.Memories.length : Int) ≤ 10)))) rfl hb38 rfl) rfl ?_; refine WL_val (rn_move (v := (.bool (decide ((x0.Memories.length : Int) ≤ 10)))) rfl) rfl ?_
     rcases bcases (decide ((x0.Memories.length : Int) ≤ 10)) with hb39 | hb39
     ·have H := ifT hb39 H; refine WL_guardY rfl hb39 rfl rfl ?_; refine WL_val (rn_fld fd26_1 rfl) rfl ?_; refine WL_guardY rfl hb39 rfl rfl ?_; refine WL_val (rn_load na23 rfl ((hS.sat.le leG31).cell (hcb4 1 _ rfl))) rfl ?_; refine WL_guardY rfl hb39 rfl rfl ?_
      have hF40 : FnOk104 G31 77 [] [.pointer (some ⟨b4, 0, none⟩)] (fun (z0 : TLandEvent) => f77 z0 x0) := ⟨cb77, fun G1 W1 hl hw z0 r1 H1 => f77_ok (x0 := z0) (x1 := x0) hw ((hcb4.mono leG31).mono hl) ((h1.mono RTLandPerson_mono l0_2).mono RTLandPerson_mono hl) ((h2.mono RTLandEvent_mono l0_2).mono RTLandEvent_mono hl) ((h3.mono RTLandMemory_mono l0_2).mono RTLandMemory_mono hl) H1⟩
      refine WL_val (rn_func (vs := []) (us := [.pointer (some ⟨b4, 0, none⟩)]) rfl rfl) rfl ?_; refine WL_guardY rfl hb39 rfl rfl ?_; obtain ⟨y41, hy41, H⟩ := bnd H; refine WL_op rfl (OpP_callV cb76 (f76_ok (x0 := x0.Events) (x1 := (fun (z0 : TLandEvent) => f77 z0 x0)) hS.sat (h2.mono RTLandEvent_mono l0_2) hF40 hy41) rfl rfl (fun w42 hb => ?_)); have hS := hS.keep hb; have hO := hO.below hb; refine WL_guardY rfl hb39 rfl rfl ?_; refine WL_val (rn_not rfl) rfl ?_; refine WL_val (rn_pickT (v := (.bool (!y41))) rfl hb39 rfl) rfl ?_; refine WL_val (rn_move (v := (.bool (!y41))) rfl) rfl ?_
      rcases bcases (!y41) with hb43 | hb43
      ·have H := ifT hb43 H; refine WL_guardY rfl hb43 rfl rfl ?_; refine WL_val (rn_fld fd26_2 rfl) rfl ?_; refine WL_guardY rfl hb43 rfl rfl ?_; refine WL_val (rn_load na24 rfl ((hS.sat.le leG31).cell (hcb4 2 _ rfl))) rfl ?_; refine WL_guardY rfl hb43 rfl rfl ?_
       have hF44 : FnOk92 G31 78 [] [.pointer (some ⟨b4, 0, none⟩)] (fun (z0 : TLandMemory) => f78 z0 x0) := ⟨cb78, fun G1 W1 hl hw z0 r1 H1 => f78_ok (x0 := z0) (x1 := x0) hw ((hcb4.mono leG31).mono hl) ((h1.mono RTLandPerson_mono l0_2).mono RTLandPerson_mono hl) ((h2.mono RTLandEvent_mono l0_2).mono RTLandEvent_mono hl) ((h3.mono RTLandMemory_mono l0_2).mono RTLandMemory_mono hl) H1⟩
       refine WL_val (rn_func (vs := []) (us := [.pointer (some ⟨b4, 0, none⟩)]) rfl rfl) rfl ?_; refine WL_guardY rfl hb43 rfl rfl ?_; obtain ⟨y45, hy45, H⟩ := bnd H; refine WL_op rfl (OpP_callV cb67 (f67_ok (x0 := x0.Memories) (x1 := (fun (z0 : TLandMemory) => f78 z0 x0)) hS.sat (h3.mono RTLandMemory_mono l0_2) hF44 hy45) rfl rfl (fun w46 hb => ?_)); have hS := hS.keep hb; have hO := hO.below hb; refine WL_guardY rfl hb43 rfl rfl ?_; refine WL_val (rn_not rfl) rfl ?_; refine WL_val (rn_pickT (v := (.bool (!y45))) rfl hb43 rfl) rfl ?_; refine WL_val (rn_assign (v := (.bool (!y45))) rfl) rfl ?_; refine WL_nil ?_
       have hO : Owns G31 w46 w0.heap.size ([]) := hO
       have H := Option.some.inj H; subst H
       exact ⟨_, G31, upds_self _ _ ⟨rfl, trivial⟩, Gle.refl _, hS, hO⟩
      ·have H := ifF hb43 H; refine WL_guardN rfl hb43 rfl rfl rfl ?_; refine WL_guardN rfl hb43 rfl rfl rfl ?_; refine WL_guardN rfl hb43 rfl rfl rfl ?_; refine WL_guardN rfl hb43 rfl rfl rfl ?_; refine WL_guardN rfl hb43 rfl rfl rfl ?_; refine WL_val (rn_pickF (v := (.bool false)) rfl hb43 rfl) rfl ?_; refine WL_val (rn_assign (v := (.bool false)) rfl) rfl ?_; refine WL_nil ?_
       have hO : Owns G31 w42 w0.heap.size ([]) := hO
       have H := Option.some.inj H; subst H
       exact ⟨_, G31, upds_self _ _ ⟨rfl, trivial⟩, Gle.refl _, hS, hO⟩
     ·have H := ifF hb39 H; refine WL_guardN rfl hb39 rfl rfl rfl ?_; refine WL_guardN rfl hb39 rfl rfl rfl ?_; refine WL_guardN rfl hb39 rfl rfl rfl ?_; refine WL_guardN rfl hb39 rfl rfl rfl ?_; refine WL_guardN rfl hb39 rfl rfl rfl ?_; refine WL_val (rn_pickF (v := (.bool false)) rfl hb39 rfl) rfl ?_; refine WL_val (rn_move (v := (.bool false)) rfl) rfl ?_; refine WL_guardN rfl rfl rfl rfl rfl ?_; refine WL_guardN rfl rfl rfl rfl rfl ?_; refine WL_guardN rfl rfl rfl rfl rfl ?_; refine WL_guardN rfl rfl rfl rfl rfl ?_; refine WL_guardN rfl rfl rfl rfl rfl ?_; refine WL_val (rn_pickF (v := (.bool false)) rfl rfl rfl) rfl ?_; refine WL_val (rn_assign (v := (.bool false)) rfl) rfl ?_; refine WL_nil ?_
      have hO : Owns G31 w37 w0.heap.size ([]) := hO
      have H := Option.some.inj H; subst H
      exact ⟨_, G31, upds_self _ _ ⟨rfl, trivial⟩, Gle.refl _, hS, hO⟩
    ·have H := ifF hb38 H; refine WL_guardN rfl hb38 rfl rfl rfl ?_; refine WL_guardN rfl hb38 rfl rfl rfl ?_; refine WL_guardN rfl hb38 rfl rfl rfl ?_; refine WL_guardN rfl hb38 rfl rfl rfl ?_; refine WL_val (rn_pickF (v := (.bool false)) rfl hb38 rfl) rfl ?_; refine WL_val (rn_move (v := (.bool false)) rfl) rfl ?_; refine WL_guardN rfl rfl rfl rfl rfl ?_; refine WL_guardN rfl rfl rfl rfl rfl ?_; refine WL_guardN rfl rfl rfl rfl rfl ?_; refine WL_guardN rfl rfl rfl rfl rfl ?_; refine WL_guardN rfl rfl rfl rfl rfl ?_; refine WL_val (rn_pickF (v := (.bool false)) rfl rfl rfl) rfl ?_; refine WL_val (rn_move (v := (.bool false)) rfl) rfl ?_; refine WL_guardN rfl rfl rfl rfl rfl ?_; refine WL_guardN rfl rfl rfl rfl rfl ?_; refine WL_guardN rfl rfl rfl rfl rfl ?_; refine WL_guardN rfl rfl rfl rfl rfl ?_; refine WL_guardN rfl rfl rfl rfl rfl ?_; refine WL_val (rn_pickF (v := (.bool false)) rfl rfl rfl) rfl ?_; refine WL_val (rn_assign (v := (.bool false)) rfl) rfl ?_; refine WL_nil ?_
     have hO : Owns G31 w37 w0.heap.size ([]) := hO
     have H := Option.some.inj H; subst H
     exact ⟨_, G31, upds_self _ _ ⟨rfl, trivial⟩, Gle.refl _, hS, hO⟩
   ·have H := ifF hb35 H; refine WL_guardN rfl hb35 rfl rfl rfl ?_; refine WL_guardN rfl hb35 rfl rfl rfl ?_; refine WL_guardN rfl hb35 rfl rfl rfl ?_; refine WL_guardN rfl hb35 rfl rfl rfl ?_; refine WL_val (rn_pickF (v := (.bool false)) rfl hb35 rfl) rfl ?_; refine WL_val (rn_move (v := (.bool false)) rfl) rfl ?_; refine WL_guardN rfl rfl rfl rfl rfl ?_; refine WL_guardN rfl rfl rfl rfl rfl ?_; refine WL_guardN rfl rfl rfl rfl rfl ?_; refine WL_guardN rfl rfl rfl rfl rfl ?_; refine WL_val (rn_pickF (v := (.bool false)) rfl rfl rfl) rfl ?_; refine WL_val (rn_move (v := (.bool false)) rfl) rfl ?_; refine WL_guardN rfl rfl rfl rfl rfl ?_; refine WL_guardN rfl rfl rfl rfl rfl ?_; refine WL_guardN rfl rfl rfl rfl rfl ?_; refine WL_guardN rfl rfl rfl rfl rfl ?_; refine WL_guardN rfl rfl rfl rfl rfl ?_; refine WL_val (rn_pickF (v := (.bool false)) rfl rfl rfl) rfl ?_; refine WL_val (rn_move (v := (.bool false)) rfl) rfl ?_; refine WL_guardN rfl rfl rfl rfl rfl ?_; refine WL_guardN rfl rfl rfl rfl rfl ?_; refine WL_guardN rfl rfl rfl rfl rfl ?_; refine WL_guardN rfl rfl rfl rfl rfl ?_; refine WL_guardN rfl rfl rfl rfl rfl ?_; refine WL_val (rn_pickF (v := (.bool false)) rfl rfl rfl) rfl ?_; refine WL_val (rn_assign (v := (.bool false)) rfl) rfl ?_; refine WL_nil ?_
    have hO : Owns G31 w34 w0.heap.size ([]) := hO
    have H := Option.some.inj H; subst H
    exact ⟨_, G31, upds_self _ _ ⟨rfl, trivial⟩, Gle.refl _, hS, hO⟩
  ·rintro F w47 ⟨Fb, G48, rfl, leG48, hS, hO⟩
   refine WC_ret ?_
   have H : some q32 = some r := H
   have H := Option.some.inj H; subst H
   exact ⟨rfl, hS.below⟩
set_option maxHeartbeats 1000000 in
theorem f81_ok {G0 : Gm} {w0 : World} (hS0 : Sat G0 w0) {x0 : Int} {x1 : Int}  {r : Bool} (H : f81 x0 x1 = some r) :
  Calls Tryd.prog 81 #[.int .i64 x0, .int .i64 x1] w0 (RetV w0 (.bool r)) := by
 have hS := Since.start hS0
 have hO : Owns G0 w0 w0.heap.size [] := Owns.nil (Nat.le_refl _)
 unfold f81 at H
 refine enter1 (N := 10) (shutV _ _) Tryd.func81 rfl rfl rfl rfl ?_; refine WC_seq ?_; refine WC_region ?_; refine WL_val (rn_assign (v := (.bool false)) rfl) rfl ?_; refine WL_nil ?_; refine WC_seq ?_; refine WC_region ?_; refine WL_val (rn_move (v := (.int .i64 x0)) rfl) rfl ?_; refine WL_val (rn_move (v := (.int .i64 x1)) rfl) rfl ?_; obtain ⟨y1, hy1, H⟩ := bnd H; refine WL_val (rn_shr rfl rfl hy1) rfl ?_; refine WL_val (rn_and rfl rfl) rfl ?_; refine WL_val (rn_eql rfl rfl) rfl ?_; refine WL_val (rn_assign (v := (.bool ((andI .i64 y1 1) == 1))) rfl) rfl ?_; refine WL_nil ?_; refine WC_ret ?_
 have H : some ((andI .i64 y1 1) == 1) = some r := H
 have H := Option.some.inj H; subst H
 exact ⟨rfl, hS.below⟩
set_option maxHeartbeats 1000000 in
theorem f79_ok {G0 : Gm} {w0 : World} (hS0 : Sat G0 w0) {x0 : TLandBook} {bq0 : Nat} {rm4 : Nat} {a1 : Option Addr} {n1 c1 : Nat} {a2 : Option Addr} {n2 c2 : Nat} {a3 : Option Addr} {n3 c3 : Nat} {x1 : Int} (hcq0 : Cells G0 bq0 0 [.slice a1 n1 c1, .slice a2 n2 c2, .slice a3 n3 c3, .map (some rm4)]) (h1 : RSl RTLandPerson 2 G0 a1 n1 c1 x0.People) (h2 : RSl RTLandEvent 2 G0 a2 n2 c2 x0.Events) (h3 : RSl RTLandMemory 4 G0 a3 n3 c3 x0.Memories) {r : (Tb 64) × Bool} (H : f79 x0 x1 = some r) :
  Calls Tryd.prog 79 #[.pointer (some ⟨bq0, 0, none⟩), .int .i64 x1] w0 (RetV w0 (.tuple #[.agg (cellsT r.1).toArray, .bool r.2])) := by
 have hS := Since.start hS0
 have hO : Owns G0 w0 w0.heap.size [] := Owns.nil (Nat.le_refl _)
 unfold f79 at H
 refine enterG (N := 175) (shutV _ _) [.cell 4 95, .tmp 5] Tryd.func79 rfl rfl rfl rfl ?_; refine WC_seq ?_; refine WC_region ?_
 refine WL_op rfl (OpP_newO (v := fun b => .pointer (some ⟨b, 0, none⟩)) (cs := (cellsT (Tb.zero 64))) (e := 95) (by kernel_rfl) hS.sat hO rfl 64 1 (cellsT_len _) (by decide) (fun b5 w6 hb hO => ?_))
 have hS := hS.keep hb; refine WL_val (rn_assign (v := (.bool false)) rfl) rfl ?_; refine WL_nil ?_; refine WC_scope ?_; refine WC_seq ?_; refine WC_region ?_
 refine WL_op rfl (OpP_newO (v := fun b => .pointer (some ⟨b, 0, none⟩)) (cs := (cellsT (Tb.zero 64))) (e := 95) (by kernel_rfl) hS.sat hO rfl 64 1 (cellsT_len _) (by decide) (fun b8 w9 hb hO => ?_))
 have hS := hS.keep hb; refine WL_nil ?_; refine WC_seq ?_; refine WC_seq ?_; refine WC_region ?_; refine WL_val (rn_move (v := (.int .i64 0)) rfl) rfl ?_; refine WL_nil ?_; obtain ⟨q13, hq13, H⟩ := bnd H; refine WC_cut (fun F w => ∃ (Fb : Fr) (G : Gm), F = upds Fb [(0, .pointer (some ⟨bq0, 0, none⟩)), (1, .int .i64 x1), (4, .pointer (some ⟨b5, 0, none⟩)), (6, .pointer (some ⟨b8, 0, none⟩))] ∧ Gle G0 G ∧ Since w0.heap.size G0 w0 G w ∧ Owns G w w0.heap.size [⟨95, 64, 1, .slice (some ⟨b8, 0, none⟩) 1 1, cellsT q13.1⟩, ⟨95, 64, 1, .slice (some ⟨b5, 0, none⟩) 1 1, cellsT q13.2⟩]) ?_ ?_
 ·refine WC_block (WC_loop hq13 (fun s11 F w => ∃ (Fb : Fr) (G : Gm), F = upds Fb [(0, .pointer (some ⟨bq0, 0, none⟩)), (1, .int .i64 x1), (4, .pointer (some ⟨b5, 0, none⟩)), (6, .pointer (some ⟨b8, 0, none⟩)), (25, .int .i64 s11.1)] ∧ Gle G0 G ∧ Since w0.heap.size G0 w0 G w ∧ Owns G w w0.heap.size [⟨95, 64, 1, .slice (some ⟨b8, 0, none⟩) 1 1, cellsT s11.2.1⟩, ⟨95, 64, 1, .slice (some ⟨b5, 0, none⟩) 1 1, cellsT s11.2.2⟩]) ?_ ?_)
  ·have hO : Owns G0 w9 w0.heap.size ([⟨95, 64, 1, .slice (some ⟨b8, 0, none⟩) 1 1, cellsT (Tb.zero 64)⟩, ⟨95, 64, 1, .slice (some ⟨b5, 0, none⟩) 1 1, cellsT (Tb.zero 64)⟩]) := hO
   exact ⟨_, G0, upds_self _ _ ⟨rfl, rfl, rfl, rfl, rfl, trivial⟩, Gle.refl _, hS, hO⟩
  ·rintro s11 F w15 t14 ⟨Fb, G16, rfl, leG16, hS, hO⟩
   intro H1 hqq13
   have Hoq13 := H; have H := H1
   unfold f79_b0 at H
   refine WC_seq ?_; refine WC_region ?_; refine WL_val (rn_lss rfl rfl) rfl ?_; refine WL_nil ?_; refine WC_seq ?_; refine WC_cond rfl (fun hb17 => ?_) (fun hb17 => ?_)
   ·have H := ifT hb17 H; refine WC_skip ?_; refine WC_seq ?_; refine WC_block ?_; refine WC_seq ?_; refine WC_region ?_; refine WL_val (rn_move (v := (.int .i64 s11.1)) rfl) rfl ?_; refine WL_val (rn_assign (v := (.int .i64 s11.1)) rfl) rfl ?_; refine WL_nil ?_; refine WC_seq ?_; refine WC_region ?_; refine WL_val (rn_move (v := (.int .i64 0)) rfl) rfl ?_; refine WL_nil ?_; obtain ⟨q20, hq20, H⟩ := bnd H; refine WC_cut (fun F w => ∃ (Fb : Fr) (G : Gm), F = upds Fb [(0, .pointer (some ⟨bq0, 0, none⟩)), (1, .int .i64 x1), (4, .pointer (some ⟨b5, 0, none⟩)), (6, .pointer (some ⟨b8, 0, none⟩)), (25, .int .i64 s11.1)] ∧ Gle G16 G ∧ Since w0.heap.size G0 w0 G w ∧ Owns G w w0.heap.size [⟨95, 64, 1, .slice (some ⟨b8, 0, none⟩) 1 1, cellsT q20.1⟩, ⟨95, 64, 1, .slice (some ⟨b5, 0, none⟩) 1 1, cellsT q20.2⟩]) ?_ ?_
    ·refine WC_block (WC_loop hq20 (fun s18 F w => ∃ (Fb : Fr) (G : Gm), F = upds Fb [(0, .pointer (some ⟨bq0, 0, none⟩)), (1, .int .i64 x1), (4, .pointer (some ⟨b5, 0, none⟩)), (6, .pointer (some ⟨b8, 0, none⟩)), (7, .int .i64 s11.1), (25, .int .i64 s11.1), (28, .int .i64 s18.1)] ∧ Gle G16 G ∧ Since w0.heap.size G0 w0 G w ∧ Owns G w w0.heap.size [⟨95, 64, 1, .slice (some ⟨b8, 0, none⟩) 1 1, cellsT s18.2.1⟩, ⟨95, 64, 1, .slice (some ⟨b5, 0, none⟩) 1 1, cellsT s18.2.2⟩]) ?_ ?_)
     ·have hO : Owns G16 w15 w0.heap.size ([⟨95, 64, 1, .slice (some ⟨b8, 0, none⟩) 1 1, cellsT s11.2.1⟩, ⟨95, 64, 1, .slice (some ⟨b5, 0, none⟩) 1 1, cellsT s11.2.2⟩]) := hO
      exact ⟨_, G16, upds_self _ _ ⟨rfl, rfl, rfl, rfl, rfl, rfl, rfl, trivial⟩, Gle.refl _, hS, hO⟩
     ·rintro s18 F w22 t21 ⟨Fb, G23, rfl, leG23, hS, hO⟩
      intro H1 hqq20
      have Hoq20 := H; have H := H1
      unfold f79_b1 at H
      refine WC_seq ?_; refine WC_region ?_; refine WL_val (rn_lss rfl rfl) rfl ?_; refine WL_nil ?_; refine WC_seq ?_; refine WC_cond rfl (fun hb24 => ?_) (fun hb24 => ?_)
      ·have H := ifT hb24 H; refine WC_skip ?_; refine WC_seq ?_; obtain ⟨q25, hq25, H⟩ := bnd H; refine WC_cut (fun F w => ∃ (Fb : Fr) (G : Gm), F = upds Fb [(0, .pointer (some ⟨bq0, 0, none⟩)), (1, .int .i64 x1), (4, .pointer (some ⟨b5, 0, none⟩)), (6, .pointer (some ⟨b8, 0, none⟩)), (7, .int .i64 s11.1), (25, .int .i64 s11.1), (28, .int .i64 s18.1)] ∧ Gle G23 G ∧ Since w0.heap.size G0 w0 G w ∧ Owns G w w0.heap.size [⟨95, 64, 1, .slice (some ⟨b8, 0, none⟩) 1 1, cellsT q25⟩, ⟨95, 64, 1, .slice (some ⟨b5, 0, none⟩) 1 1, cellsT s18.2.2⟩]) ?_ ?_
       ·have Hoq25 := H; have H := hq25; refine WC_block ?_; refine WC_seq ?_; refine WC_region ?_; refine WL_val (rn_move (v := (.int .i64 s18.1)) rfl) rfl ?_; refine WL_val (rn_assign (v := (.int .i64 s18.1)) rfl) rfl ?_; refine WL_nil ?_; refine WC_seq ?_; refine WC_region ?_; refine WL_val (rn_move (v := (.int .i64 s11.1)) rfl) rfl ?_; refine WL_val (rn_move (v := (.int .i64 s18.1)) rfl) rfl ?_; refine WL_val (rn_neq rfl rfl) rfl ?_; refine WL_nil ?_; refine WC_cond rfl (fun hb26 => ?_) (fun hb26 => ?_)
        ·have H := ifT hb26 H; refine WC_region ?_; refine WL_val (rn_move (v := (.int .i64 s11.1)) rfl) rfl ?_; refine WL_val (rn_move (v := (.int .i64 s18.1)) rfl) rfl ?_; obtain ⟨j27, hj27, H⟩ := bnd H; refine WL_val (rn_idxA ar95 rfl rfl hj27) rfl ?_; obtain ⟨j28, hj28, H⟩ := bnd H
         have hl29 : 0 + j27 * 8 + j28 * 1 < 64 := by have := (ckI_some hj27).2; have := (ckI_some hj28).2; omega
         refine WL_val (rn_idxA ar93 rfl rfl hj28) rfl ?_; refine WL_op rfl (OpP_storeT sz3 hS hO (k := 0) rfl rfl rfl hl29 (fun w30 hS hO => ?_))
         have hO : Owns G23 w30 w0.heap.size ([⟨95, 64, 1, .slice (some ⟨b8, 0, none⟩) 1 1, cellsT (tset s18.2.1 (0 + j27 * 8 + j28 * 1) 2000)⟩, ⟨95, 64, 1, .slice (some ⟨b5, 0, none⟩) 1 1, cellsT s18.2.2⟩]) := hO
         refine WL_nil ?_
         have hO : Owns G23 w30 w0.heap.size ([⟨95, 64, 1, .slice (some ⟨b8, 0, none⟩) 1 1, cellsT (tset s18.2.1 (0 + j27 * 8 + j28 * 1) 2000)⟩, ⟨95, 64, 1, .slice (some ⟨b5, 0, none⟩) 1 1, cellsT s18.2.2⟩]) := hO
         have H := Option.some.inj H; subst H
         exact ⟨_, G23, upds_self _ _ ⟨rfl, rfl, rfl, rfl, rfl, rfl, rfl, trivial⟩, Gle.refl _, hS, hO⟩
        ·have H := ifF hb26 H; refine WC_skip ?_
         have hO : Owns G23 w22 w0.heap.size ([⟨95, 64, 1, .slice (some ⟨b8, 0, none⟩) 1 1, cellsT s18.2.1⟩, ⟨95, 64, 1, .slice (some ⟨b5, 0, none⟩) 1 1, cellsT s18.2.2⟩]) := hO
         have H := Option.some.inj H; subst H
         exact ⟨_, G23, upds_self _ _ ⟨rfl, rfl, rfl, rfl, rfl, rfl, rfl, trivial⟩, Gle.refl _, hS, hO⟩
       ·rintro F w31 ⟨Fb, G32, rfl, leG32, hS, hO⟩
        refine WC_region ?_; refine WL_val (rn_add rfl rfl) rfl ?_; refine WL_val (rn_move (v := (.int .i64 (IntKind.i64.wrap (s18.1 + 1)))) rfl) rfl ?_; refine WL_nil ?_
        have hO : Owns G32 w31 w0.heap.size ([⟨95, 64, 1, .slice (some ⟨b8, 0, none⟩) 1 1, cellsT q25⟩, ⟨95, 64, 1, .slice (some ⟨b5, 0, none⟩) 1 1, cellsT s18.2.2⟩]) := hO
        have H := Option.some.inj H; subst H; refine ⟨_, rfl, ?_⟩
        have l1_3 := leG23.trans leG32
        exact ⟨_, G32, upds_self _ _ ⟨rfl, rfl, rfl, rfl, rfl, rfl, rfl, trivial⟩, l1_3, hS, hO⟩
      ·have H := ifF hb24 H; refine WC_exit rfl ?_
       have hO : Owns G23 w22 w0.heap.size ([⟨95, 64, 1, .slice (some ⟨b8, 0, none⟩) 1 1, cellsT s18.2.1⟩, ⟨95, 64, 1, .slice (some ⟨b5, 0, none⟩) 1 1, cellsT s18.2.2⟩]) := hO
       have H := Option.some.inj H; subst H
       have hres := hqq20 _ rfl
       subst hres
       exact ⟨_, G23, upds_self _ _ ⟨rfl, rfl, rfl, rfl, rfl, trivial⟩, leG23, hS, hO⟩
    ·rintro F w33 ⟨Fb, G34, rfl, leG34, hS, hO⟩
     refine WC_region ?_; refine WL_val (rn_add rfl rfl) rfl ?_; refine WL_val (rn_move (v := (.int .i64 (IntKind.i64.wrap (s11.1 + 1)))) rfl) rfl ?_; refine WL_nil ?_
     have hO : Owns G34 w33 w0.heap.size ([⟨95, 64, 1, .slice (some ⟨b8, 0, none⟩) 1 1, cellsT q20.1⟩, ⟨95, 64, 1, .slice (some ⟨b5, 0, none⟩) 1 1, cellsT q20.2⟩]) := hO
     have H := Option.some.inj H; subst H; refine ⟨_, rfl, ?_⟩
     have l0_2 := leG16.trans leG34
     exact ⟨_, G34, upds_self _ _ ⟨rfl, rfl, rfl, rfl, rfl, trivial⟩, l0_2, hS, hO⟩
   ·have H := ifF hb17 H; refine WC_exit rfl ?_
    have hO : Owns G16 w15 w0.heap.size ([⟨95, 64, 1, .slice (some ⟨b8, 0, none⟩) 1 1, cellsT s11.2.1⟩, ⟨95, 64, 1, .slice (some ⟨b5, 0, none⟩) 1 1, cellsT s11.2.2⟩]) := hO
    have H := Option.some.inj H; subst H
    have hres := hqq13 _ rfl
    subst hres
    exact ⟨_, G16, upds_self _ _ ⟨rfl, rfl, rfl, rfl, trivial⟩, leG16, hS, hO⟩
 ·rintro F w35 ⟨Fb, G36, rfl, leG36, hS, hO⟩
  refine WC_seq ?_; refine WC_region ?_; refine WL_val (v := (.func (.func 95) ([] : List Value).toArray ([.pointer (some ⟨b8, 0, none⟩)] : List Value).toArray)) (rn_func (vs := []) (us := [.pointer (some ⟨b8, 0, none⟩)]) rfl rfl) rfl ?_; refine WL_val (rn_assign (v := (.func (.func 95) ([] : List Value).toArray ([.pointer (some ⟨b8, 0, none⟩)] : List Value).toArray)) rfl) rfl ?_; refine WL_nil ?_; refine WC_seq ?_; refine WC_seq ?_; refine WC_region ?_; refine WL_val (rn_move (v := (.pointer (some ⟨bq0, 0, none⟩))) rfl) rfl ?_
  refine WL_val (v := (.pointer (some ⟨bq0, 0, none⟩))) (by kernel_rfl) rfl ?_
  refine WL_val (rn_fld fd107_0 rfl) rfl ?_; refine WL_val (rn_fld fd26_1 rfl) rfl ?_; refine WL_val (rn_load na23 rfl ((hS.sat.le leG36).cell (hcq0 1 _ rfl))) rfl ?_; refine WL_val (rn_len sl23 rfl rfl (h2.mono RTLandEvent_mono leG36).1) rfl ?_; refine WL_val (rn_move (v := (.int .i64 0)) rfl) rfl ?_; refine WL_nil ?_; obtain ⟨q39, hq39, H⟩ := bnd H; refine WC_cut (fun F w => ∃ (Fb : Fr) (G : Gm), F = upds Fb [(0, .pointer (some ⟨bq0, 0, none⟩)), (1, .int .i64 x1), (4, .pointer (some ⟨b5, 0, none⟩)), (6, .pointer (some ⟨b8, 0, none⟩)), (9, .func (.func 95) ([] : List Value).toArray ([.pointer (some ⟨b8, 0, none⟩)] : List Value).toArray)] ∧ Gle G36 G ∧ Since w0.heap.size G0 w0 G w ∧ Owns G w w0.heap.size [⟨95, 64, 1, .slice (some ⟨b8, 0, none⟩) 1 1, cellsT q39.1⟩, ⟨95, 64, 1, .slice (some ⟨b5, 0, none⟩) 1 1, cellsT q39.2⟩]) ?_ ?_
  ·refine WC_block (WC_loop hq39 (fun s37 F w => ∃ (Fb : Fr) (G : Gm), F = upds Fb [(0, .pointer (some ⟨bq0, 0, none⟩)), (1, .int .i64 x1), (4, .pointer (some ⟨b5, 0, none⟩)), (6, .pointer (some ⟨b8, 0, none⟩)), (9, .func (.func 95) ([] : List Value).toArray ([.pointer (some ⟨b8, 0, none⟩)] : List Value).toArray), (46, .int .i64 (x0.Events.length : Int)), (47, .int .i64 s37.1)] ∧ Gle G36 G ∧ Since w0.heap.size G0 w0 G w ∧ Owns G w w0.heap.size [⟨95, 64, 1, .slice (some ⟨b8, 0, none⟩) 1 1, cellsT s37.2.1⟩, ⟨95, 64, 1, .slice (some ⟨b5, 0, none⟩) 1 1, cellsT s37.2.2⟩]) ?_ ?_)
   ·have hO : Owns G36 w35 w0.heap.size ([⟨95, 64, 1, .slice (some ⟨b8, 0, none⟩) 1 1, cellsT q13.1⟩, ⟨95, 64, 1, .slice (some ⟨b5, 0, none⟩) 1 1, cellsT q13.2⟩]) := hO
    exact ⟨_, G36, upds_self _ _ ⟨rfl, rfl, rfl, rfl, rfl, rfl, rfl, trivial⟩, Gle.refl _, hS, hO⟩
   ·rintro s37 F w41 t40 ⟨Fb, G42, rfl, leG42, hS, hO⟩
    intro H1 hqq39
    have Hoq39 := H; have H := H1
    unfold f79_b2 at H
    refine WC_seq ?_; refine WC_region ?_; refine WL_val (rn_lss rfl rfl) rfl ?_; refine WL_nil ?_; refine WC_seq ?_; refine WC_cond rfl (fun hb43 => ?_) (fun hb43 => ?_)
    ·have H := ifT hb43 H; refine WC_skip ?_; refine WC_seq ?_; obtain ⟨q44, hq44, H⟩ := bnd H; refine WC_cut (fun F w => ∃ (Fb : Fr) (G : Gm), F = upds Fb [(0, .pointer (some ⟨bq0, 0, none⟩)), (1, .int .i64 x1), (4, .pointer (some ⟨b5, 0, none⟩)), (6, .pointer (some ⟨b8, 0, none⟩)), (9, .func (.func 95) ([] : List Value).toArray ([.pointer (some ⟨b8, 0, none⟩)] : List Value).toArray), (46, .int .i64 (x0.Events.length : Int)), (47, .int .i64 s37.1)] ∧ Gle G42 G ∧ Since w0.heap.size G0 w0 G w ∧ Owns G w w0.heap.size [⟨95, 64, 1, .slice (some ⟨b8, 0, none⟩) 1 1, cellsT q44⟩, ⟨95, 64, 1, .slice (some ⟨b5, 0, none⟩) 1 1, cellsT s37.2.2⟩]) ?_ ?_
     ·have Hoq44 := H; have H := hq44; refine WC_block ?_; refine WC_seq ?_; refine WC_region ?_; refine WL_val (rn_move (v := (.int .i64 s37.1)) rfl) rfl ?_; refine WL_val (rn_assign (v := (.int .i64 s37.1)) rfl) rfl ?_; refine WL_nil ?_; refine WC_seq ?_; obtain ⟨q45, hq45, H⟩ := bnd H; refine WC_cut (fun F w => ∃ (Fb : Fr) (G : Gm), F = upds Fb [(0, .pointer (some ⟨bq0, 0, none⟩)), (1, .int .i64 x1), (4, .pointer (some ⟨b5, 0, none⟩)), (6, .pointer (some ⟨b8, 0, none⟩)), (9, .func (.func 95) ([] : List Value).toArray ([.pointer (some ⟨b8, 0, none⟩)] : List Value).toArray), (10, .int .i64 s37.1), (46, .int .i64 (x0.Events.length : Int)), (47, .int .i64 s37.1)] ∧ Gle G42 G ∧ Since w0.heap.size G0 w0 G w ∧ Owns G w w0.heap.size [⟨95, 64, 1, .slice (some ⟨b8, 0, none⟩) 1 1, cellsT q45⟩, ⟨95, 64, 1, .slice (some ⟨b5, 0, none⟩) 1 1, cellsT s37.2.2⟩]) ?_ ?_
      ·have Hoq45 := H; have H := hq45; refine WC_region ?_; refine WL_val (rn_move (v := (.func (.func 95) ([] : List Value).toArray ([.pointer (some ⟨b8, 0, none⟩)] : List Value).toArray)) rfl) rfl ?_; refine WL_val (rn_move (v := (.int .i64 s37.1)) rfl) rfl ?_; refine WL_op rfl (OpP_inC1 (N' := 20) (fi := []) (al := [.int .i64 7, .int .i64 s37.1, .int .i64 1000]) (ca := [.pointer (some ⟨b8, 0, none⟩)]) cb95 Tryd.func95 rfl rfl rfl rfl rfl rfl rfl ?_); refine WC_seq ?_; refine WC_region ?_; refine WL_val (rn_assign (v := (.bool false)) rfl) rfl ?_; refine WL_nil ?_; refine WC_seq ?_; refine WC_seq ?_; refine WC_region ?_; refine WL_val (rn_move (v := (.int .i64 1000)) rfl) rfl ?_; refine WL_val (rn_move (v := (.int .i64 7)) rfl) rfl ?_; refine WL_val (rn_move (v := (.int .i64 s37.1)) rfl) rfl ?_
       refine WL_val (rn_idxA ar95 rfl rfl (show ckI 7 8 = some 7 by decide)) rfl ?_
       obtain ⟨j46, hj46, H⟩ := bnd H
       have hl47 : 0 + 7 * 8 + j46 * 1 < 64 := by have := (ckI_some hj46).2; omega
       refine WL_val (rn_idxA ar93 rfl rfl hj46) rfl ?_; refine WL_val (rn_load na3 rfl (tab_cell hO (k := 0) rfl hl47)) rfl ?_; refine WL_val (rn_geq rfl rfl) rfl ?_; refine WL_nil ?_; refine WC_cond rfl (fun hb48 => ?_) (fun hb48 => ?_)
       ·have H := ifT hb48 H; refine WC_seq ?_; refine WC_region ?_; refine WL_val (rn_assign (v := (.bool false)) rfl) rfl ?_; refine WL_nil ?_; refine WC_ret ?_; refine ⟨(.bool false), rfl, ?_⟩
        have hO : Owns G42 w41 w0.heap.size ([⟨95, 64, 1, .slice (some ⟨b8, 0, none⟩) 1 1, cellsT s37.2.1⟩, ⟨95, 64, 1, .slice (some ⟨b5, 0, none⟩) 1 1, cellsT s37.2.2⟩]) := hO
        refine WL_nil ?_
        have hO : Owns G42 w41 w0.heap.size ([⟨95, 64, 1, .slice (some ⟨b8, 0, none⟩) 1 1, cellsT s37.2.1⟩, ⟨95, 64, 1, .slice (some ⟨b5, 0, none⟩) 1 1, cellsT s37.2.2⟩]) := hO
        have H := Option.some.inj H; subst H
        exact ⟨_, G42, upds_self _ _ ⟨rfl, rfl, rfl, rfl, rfl, rfl, rfl, rfl, trivial⟩, Gle.refl _, hS, hO⟩
       ·have H := ifF hb48 H; refine WC_skip ?_; refine WC_seq ?_; refine WC_region ?_; refine WL_val (rn_move (v := (.int .i64 7)) rfl) rfl ?_; refine WL_val (rn_move (v := (.int .i64 s37.1)) rfl) rfl ?_; refine WL_val (rn_move (v := (.int .i64 1000)) rfl) rfl ?_
        refine WL_val (rn_idxA ar95 rfl rfl (show ckI 7 8 = some 7 by decide)) rfl ?_
        obtain ⟨j49, hj49, H⟩ := bnd H
        have hl50 : 0 + 7 * 8 + j49 * 1 < 64 := by have := (ckI_some hj49).2; omega
        refine WL_val (rn_idxA ar93 rfl rfl hj49) rfl ?_; refine WL_op rfl (OpP_storeT sz3 hS hO (k := 0) rfl rfl rfl hl50 (fun w51 hS hO => ?_))
        have hO : Owns G42 w51 w0.heap.size ([⟨95, 64, 1, .slice (some ⟨b8, 0, none⟩) 1 1, cellsT (tset s37.2.1 (0 + 7 * 8 + j49 * 1) 1000)⟩, ⟨95, 64, 1, .slice (some ⟨b5, 0, none⟩) 1 1, cellsT s37.2.2⟩]) := hO
        refine WL_nil ?_; refine WC_seq ?_; refine WC_region ?_; refine WL_val (rn_assign (v := (.bool true)) rfl) rfl ?_; refine WL_nil ?_; refine WC_ret ?_; refine ⟨(.bool true), rfl, ?_⟩
        have hO : Owns G42 w51 w0.heap.size ([⟨95, 64, 1, .slice (some ⟨b8, 0, none⟩) 1 1, cellsT (tset s37.2.1 (0 + 7 * 8 + j49 * 1) 1000)⟩, ⟨95, 64, 1, .slice (some ⟨b5, 0, none⟩) 1 1, cellsT s37.2.2⟩]) := hO
        refine WL_nil ?_
        have hO : Owns G42 w51 w0.heap.size ([⟨95, 64, 1, .slice (some ⟨b8, 0, none⟩) 1 1, cellsT (tset s37.2.1 (0 + 7 * 8 + j49 * 1) 1000)⟩, ⟨95, 64, 1, .slice (some ⟨b5, 0, none⟩) 1 1, cellsT s37.2.2⟩]) := hO
        have H := Option.some.inj H; subst H
        exact ⟨_, G42, upds_self _ _ ⟨rfl, rfl, rfl, rfl, rfl, rfl, rfl, rfl, trivial⟩, Gle.refl _, hS, hO⟩
      ·rintro F w52 ⟨Fb, G53, rfl, leG53, hS, hO⟩
       refine WC_region ?_; refine WL_val (rn_move (v := (.func (.func 95) ([] : List Value).toArray ([.pointer (some ⟨b8, 0, none⟩)] : List Value).toArray)) rfl) rfl ?_; refine WL_val (rn_move (v := (.int .i64 s37.1)) rfl) rfl ?_; refine WL_op rfl (OpP_inC1 (N' := 20) (fi := []) (al := [.int .i64 s37.1, .int .i64 7, .int .i64 0]) (ca := [.pointer (some ⟨b8, 0, none⟩)]) cb95 Tryd.func95 rfl rfl rfl rfl rfl rfl rfl ?_); refine WC_seq ?_; refine WC_region ?_; refine WL_val (rn_assign (v := (.bool false)) rfl) rfl ?_; refine WL_nil ?_; refine WC_seq ?_; refine WC_seq ?_; refine WC_region ?_; refine WL_val (rn_move (v := (.int .i64 0)) rfl) rfl ?_; refine WL_val (rn_move (v := (.int .i64 s37.1)) rfl) rfl ?_; refine WL_val (rn_move (v := (.int .i64 7)) rfl) rfl ?_; obtain ⟨j54, hj54, H⟩ := bnd H; refine WL_val (rn_idxA ar95 rfl rfl hj54) rfl ?_
       have hl55 : 0 + j54 * 8 + 7 * 1 < 64 := by have := (ckI_some hj54).2; omega
       refine WL_val (rn_idxA ar93 rfl rfl (show ckI 7 8 = some 7 by decide)) rfl ?_
       refine WL_val (rn_load na3 rfl (tab_cell hO (k := 0) rfl hl55)) rfl ?_; refine WL_val (rn_geq rfl rfl) rfl ?_; refine WL_nil ?_; refine WC_cond rfl (fun hb56 => ?_) (fun hb56 => ?_)
       ·have H := ifT hb56 H; refine WC_seq ?_; refine WC_region ?_; refine WL_val (rn_assign (v := (.bool false)) rfl) rfl ?_; refine WL_nil ?_; refine WC_ret ?_; refine ⟨(.bool false), rfl, ?_⟩
        have hO : Owns G53 w52 w0.heap.size ([⟨95, 64, 1, .slice (some ⟨b8, 0, none⟩) 1 1, cellsT q45⟩, ⟨95, 64, 1, .slice (some ⟨b5, 0, none⟩) 1 1, cellsT s37.2.2⟩]) := hO
        refine WL_nil ?_
        have hO : Owns G53 w52 w0.heap.size ([⟨95, 64, 1, .slice (some ⟨b8, 0, none⟩) 1 1, cellsT q45⟩, ⟨95, 64, 1, .slice (some ⟨b5, 0, none⟩) 1 1, cellsT s37.2.2⟩]) := hO
        have H := Option.some.inj H; subst H
        exact ⟨_, G53, upds_self _ _ ⟨rfl, rfl, rfl, rfl, rfl, rfl, rfl, trivial⟩, leG53, hS, hO⟩
       ·have H := ifF hb56 H; refine WC_skip ?_; refine WC_seq ?_; refine WC_region ?_; refine WL_val (rn_move (v := (.int .i64 s37.1)) rfl) rfl ?_; refine WL_val (rn_move (v := (.int .i64 7)) rfl) rfl ?_; refine WL_val (rn_move (v := (.int .i64 0)) rfl) rfl ?_; obtain ⟨j57, hj57, H⟩ := bnd H; refine WL_val (rn_idxA ar95 rfl rfl hj57) rfl ?_
        have hl58 : 0 + j57 * 8 + 7 * 1 < 64 := by have := (ckI_some hj57).2; omega
        refine WL_val (rn_idxA ar93 rfl rfl (show ckI 7 8 = some 7 by decide)) rfl ?_
        refine WL_op rfl (OpP_storeT sz3 hS hO (k := 0) rfl rfl rfl hl58 (fun w59 hS hO => ?_))
        have hO : Owns G53 w59 w0.heap.size ([⟨95, 64, 1, .slice (some ⟨b8, 0, none⟩) 1 1, cellsT (tset q45 (0 + j57 * 8 + 7 * 1) 0)⟩, ⟨95, 64, 1, .slice (some ⟨b5, 0, none⟩) 1 1, cellsT s37.2.2⟩]) := hO
        refine WL_nil ?_; refine WC_seq ?_; refine WC_region ?_; refine WL_val (rn_assign (v := (.bool true)) rfl) rfl ?_; refine WL_nil ?_; refine WC_ret ?_; refine ⟨(.bool true), rfl, ?_⟩
        have hO : Owns G53 w59 w0.heap.size ([⟨95, 64, 1, .slice (some ⟨b8, 0, none⟩) 1 1, cellsT (tset q45 (0 + j57 * 8 + 7 * 1) 0)⟩, ⟨95, 64, 1, .slice (some ⟨b5, 0, none⟩) 1 1, cellsT s37.2.2⟩]) := hO
        refine WL_nil ?_
        have hO : Owns G53 w59 w0.heap.size ([⟨95, 64, 1, .slice (some ⟨b8, 0, none⟩) 1 1, cellsT (tset q45 (0 + j57 * 8 + 7 * 1) 0)⟩, ⟨95, 64, 1, .slice (some ⟨b5, 0, none⟩) 1 1, cellsT s37.2.2⟩]) := hO
        have H := Option.some.inj H; subst H
        exact ⟨_, G53, upds_self _ _ ⟨rfl, rfl, rfl, rfl, rfl, rfl, rfl, trivial⟩, leG53, hS, hO⟩
     ·rintro F w60 ⟨Fb, G61, rfl, leG61, hS, hO⟩
      refine WC_region ?_; refine WL_val (rn_add rfl rfl) rfl ?_; refine WL_val (rn_move (v := (.int .i64 (IntKind.i64.wrap (s37.1 + 1)))) rfl) rfl ?_; refine WL_nil ?_
      have hO : Owns G61 w60 w0.heap.size ([⟨95, 64, 1, .slice (some ⟨b8, 0, none⟩) 1 1, cellsT q44⟩, ⟨95, 64, 1, .slice (some ⟨b5, 0, none⟩) 1 1, cellsT s37.2.2⟩]) := hO
      have H := Option.some.inj H; subst H; refine ⟨_, rfl, ?_⟩
      have l1_3 := leG42.trans leG61
      exact ⟨_, G61, upds_self _ _ ⟨rfl, rfl, rfl, rfl, rfl, rfl, rfl, trivial⟩, l1_3, hS, hO⟩
    ·have H := ifF hb43 H; refine WC_exit rfl ?_
     have hO : Owns G42 w41 w0.heap.size ([⟨95, 64, 1, .slice (some ⟨b8, 0, none⟩) 1 1, cellsT s37.2.1⟩, ⟨95, 64, 1, .slice (some ⟨b5, 0, none⟩) 1 1, cellsT s37.2.2⟩]) := hO
     have H := Option.some.inj H; subst H
     have hres := hqq39 _ rfl
     subst hres
     exact ⟨_, G42, upds_self _ _ ⟨rfl, rfl, rfl, rfl, rfl, trivial⟩, leG42, hS, hO⟩
  ·rintro F w62 ⟨Fb, G63, rfl, leG63, hS, hO⟩
   refine WC_seq ?_; refine WC_seq ?_; refine WC_region ?_; refine WL_val (rn_move (v := (.pointer (some ⟨bq0, 0, none⟩))) rfl) rfl ?_
   refine WL_val (v := (.pointer (some ⟨bq0, 0, none⟩))) (by kernel_rfl) rfl ?_
   refine WL_val (rn_fld fd107_0 rfl) rfl ?_; refine WL_val (rn_fld fd26_2 rfl) rfl ?_
   have l0_2 := leG36.trans leG63
   refine WL_val (rn_load na24 rfl ((hS.sat.le l0_2).cell (hcq0 2 _ rfl))) rfl ?_; refine WL_val (rn_len sl24 rfl rfl (h3.mono RTLandMemory_mono l0_2).1) rfl ?_; refine WL_val (rn_move (v := (.int .i64 0)) rfl) rfl ?_; refine WL_nil ?_; obtain ⟨q66, hq66, H⟩ := bnd H; refine WC_cut (fun F w => ∃ (Fb : Fr) (G : Gm), F = upds Fb [(0, .pointer (some ⟨bq0, 0, none⟩)), (4, .pointer (some ⟨b5, 0, none⟩)), (6, .pointer (some ⟨b8, 0, none⟩)), (9, .func (.func 95) ([] : List Value).toArray ([.pointer (some ⟨b8, 0, none⟩)] : List Value).toArray)] ∧ Gle G63 G ∧ Since w0.heap.size G0 w0 G w ∧ Owns G w w0.heap.size [⟨95, 64, 1, .slice (some ⟨b8, 0, none⟩) 1 1, cellsT q66.1⟩, ⟨95, 64, 1, .slice (some ⟨b5, 0, none⟩) 1 1, cellsT q66.2⟩]) ?_ ?_
   ·refine WC_block (WC_loop hq66 (fun s64 F w => ∃ (Fb : Fr) (G : Gm), F = upds Fb [(0, .pointer (some ⟨bq0, 0, none⟩)), (1, .int .i64 x1), (4, .pointer (some ⟨b5, 0, none⟩)), (6, .pointer (some ⟨b8, 0, none⟩)), (9, .func (.func 95) ([] : List Value).toArray ([.pointer (some ⟨b8, 0, none⟩)] : List Value).toArray), (61, .slice a3 n3 c3), (62, .int .i64 (x0.Memories.length : Int)), (63, .int .i64 s64.1)] ∧ Gle G63 G ∧ Since w0.heap.size G0 w0 G w ∧ Owns G w w0.heap.size [⟨95, 64, 1, .slice (some ⟨b8, 0, none⟩) 1 1, cellsT s64.2.1⟩, ⟨95, 64, 1, .slice (some ⟨b5, 0, none⟩) 1 1, cellsT s64.2.2⟩]) ?_ ?_)
    ·have hO : Owns G63 w62 w0.heap.size ([⟨95, 64, 1, .slice (some ⟨b8, 0, none⟩) 1 1, cellsT q39.1⟩, ⟨95, 64, 1, .slice (some ⟨b5, 0, none⟩) 1 1, cellsT q39.2⟩]) := hO
     exact ⟨_, G63, upds_self _ _ ⟨rfl, rfl, rfl, rfl, rfl, rfl, rfl, rfl, trivial⟩, Gle.refl _, hS, hO⟩
    ·rintro s64 F w68 t67 ⟨Fb, G69, rfl, leG69, hS, hO⟩
     intro H1 hqq66
     have Hoq66 := H; have H := H1
     unfold f79_b3 at H
     refine WC_seq ?_; refine WC_region ?_; refine WL_val (rn_lss rfl rfl) rfl ?_; refine WL_nil ?_; refine WC_seq ?_; refine WC_cond rfl (fun hb70 => ?_) (fun hb70 => ?_)
     ·have H := ifT hb70 H; refine WC_skip ?_; refine WC_seq ?_; obtain ⟨q71, hq71, H⟩ := bnd H; refine WC_cut (fun F w => ∃ (Fb : Fr) (G : Gm), F = upds Fb [(0, .pointer (some ⟨bq0, 0, none⟩)), (1, .int .i64 x1), (4, .pointer (some ⟨b5, 0, none⟩)), (6, .pointer (some ⟨b8, 0, none⟩)), (9, .func (.func 95) ([] : List Value).toArray ([.pointer (some ⟨b8, 0, none⟩)] : List Value).toArray), (61, .slice a3 n3 c3), (62, .int .i64 (x0.Memories.length : Int)), (63, .int .i64 s64.1)] ∧ Gle G69 G ∧ Since w0.heap.size G0 w0 G w ∧ Owns G w w0.heap.size [⟨95, 64, 1, .slice (some ⟨b8, 0, none⟩) 1 1, cellsT q71⟩, ⟨95, 64, 1, .slice (some ⟨b5, 0, none⟩) 1 1, cellsT s64.2.2⟩]) ?_ ?_
      ·have Hoq71 := H; have H := hq71; refine WC_block ?_; refine WC_seq ?_; refine WC_region ?_; refine WL_val (rn_move (v := (.int .i64 s64.1)) rfl) rfl ?_; obtain ⟨y72, hy72, H⟩ := bnd H
       have l0_3 := l0_2.trans leG69
       refine WL_idx sl24 (h3.mono RTLandMemory_mono l0_3) hy72 rfl rfl rfl ?_
       rintro b73 o73 _ hcb73 _ ⟨⟩
       refine WL_val (rn_loadA ag46 (cs := [.int .i64 y72.From, .int .i64 y72.To, .int .i64 y72.Years.Low, .int .i64 y72.Years.High]) rfl rfl (fun j v hj => hS.sat.cell (hcb73.drop_take 0 4 j v hj))) rfl ?_
       refine WL_op rfl (OpP_newO (v := fun b => .pointer (some ⟨b, 0, none⟩)) (cs := [.int .i64 0, .int .i64 0, .int .i64 0, .int .i64 0]) (e := 46) (by kernel_rfl) hS.sat hO rfl 4 1 rfl (by decide) (fun b74 w75 hb hO => ?_))
       have hS := hS.keep hb; refine WL_val (rn_assign (v := (.int .i64 s64.1)) rfl) rfl ?_; refine WL_op rfl (OpP_store (vs := [.int .i64 y72.From, .int .i64 y72.To, .int .i64 y72.Years.Low, .int .i64 y72.Years.High]) sz46 hS hO (k := 0) rfl rfl rfl rfl rfl (one_all rfl) (Nat.le_of_ble_eq_true rfl) (fun w77 hS hO => ?_))
       have hO : Owns G69 w77 w0.heap.size ([⟨46, 4, 1, .slice (some ⟨b74, 0, none⟩) 1 1, [.int .i64 y72.From, .int .i64 y72.To, .int .i64 y72.Years.Low, .int .i64 y72.Years.High]⟩, ⟨95, 64, 1, .slice (some ⟨b8, 0, none⟩) 1 1, cellsT s64.2.1⟩, ⟨95, 64, 1, .slice (some ⟨b5, 0, none⟩) 1 1, cellsT s64.2.2⟩]) := hO
       obtain ⟨G78, leG78, hS, hO, hqG78, _⟩ := hO.freeze hS (k := 0) rfl
       have hcG78 : Cells G78 b74 0 [.int .i64 y72.From, .int .i64 y72.To, .int .i64 y72.Years.Low, .int .i64 y72.Years.High] := (hqG78 _ _ _ _ rfl)
       refine WL_nil ?_; refine WC_seq ?_; refine WC_region ?_; refine WL_val (rn_move (v := (.int .i64 x1)) rfl) rfl ?_; refine WL_val (rn_move (v := (.int .i64 s64.1)) rfl) rfl ?_; obtain ⟨y79, hy79, H⟩ := bnd H; refine WL_op rfl (OpP_callV cb81 (f81_ok (x0 := x1) (x1 := s64.1) hS.sat  hy79) rfl rfl (fun w80 hb => ?_)); have hS := hS.keep hb; have hO := hO.below hb; refine WL_nil ?_; refine WC_cond rfl (fun hb81 => ?_) (fun hb81 => ?_)
       ·have H := ifT hb81 H; refine WC_seq ?_; obtain ⟨q82, hq82, H⟩ := bnd H; refine WC_cut (fun F w => ∃ (Fb : Fr) (G : Gm), F = upds Fb [(0, .pointer (some ⟨bq0, 0, none⟩)), (1, .int .i64 x1), (4, .pointer (some ⟨b5, 0, none⟩)), (6, .pointer (some ⟨b8, 0, none⟩)), (9, .func (.func 95) ([] : List Value).toArray ([.pointer (some ⟨b8, 0, none⟩)] : List Value).toArray), (12, .pointer (some ⟨b74, 0, none⟩)), (61, .slice a3 n3 c3), (62, .int .i64 (x0.Memories.length : Int)), (63, .int .i64 s64.1)] ∧ Gle G78 G ∧ Since w0.heap.size G0 w0 G w ∧ Owns G w w0.heap.size [⟨95, 64, 1, .slice (some ⟨b8, 0, none⟩) 1 1, cellsT q82⟩, ⟨95, 64, 1, .slice (some ⟨b5, 0, none⟩) 1 1, cellsT s64.2.2⟩]) ?_ ?_
        ·have Hoq82 := H; have H := hq82; refine WC_region ?_; refine WL_val (rn_move (v := (.func (.func 95) ([] : List Value).toArray ([.pointer (some ⟨b8, 0, none⟩)] : List Value).toArray)) rfl) rfl ?_; refine WL_val (rn_fld fd46_0 rfl) rfl ?_; refine WL_val (rn_load na3 rfl (hS.sat.cell (hcG78 0 _ rfl))) rfl ?_; refine WL_val (rn_fld fd46_1 rfl) rfl ?_; refine WL_val (rn_load na3 rfl (hS.sat.cell (hcG78 1 _ rfl))) rfl ?_; refine WL_val (rn_fld fd46_2 rfl) rfl ?_; refine WL_val (rn_fld fd44_1 rfl) rfl ?_; refine WL_val (rn_load na3 rfl (hS.sat.cell (hcG78 3 _ rfl))) rfl ?_; refine WL_op rfl (OpP_inC1 (N' := 20) (fi := []) (al := [.int .i64 y72.From, .int .i64 y72.To, .int .i64 y72.Years.High]) (ca := [.pointer (some ⟨b8, 0, none⟩)]) cb95 Tryd.func95 rfl rfl rfl rfl rfl rfl rfl ?_); refine WC_seq ?_; refine WC_region ?_; refine WL_val (rn_assign (v := (.bool false)) rfl) rfl ?_; refine WL_nil ?_; refine WC_seq ?_; refine WC_seq ?_; refine WC_region ?_; refine WL_val (rn_move (v := (.int .i64 y72.Years.High)) rfl) rfl ?_; refine WL_val (rn_move (v := (.int .i64 y72.From)) rfl) rfl ?_; refine WL_val (rn_move (v := (.int .i64 y72.To)) rfl) rfl ?_; obtain ⟨j83, hj83, H⟩ := bnd H; refine WL_val (rn_idxA ar95 rfl rfl hj83) rfl ?_; obtain ⟨j84, hj84, H⟩ := bnd H
         have hl85 : 0 + j83 * 8 + j84 * 1 < 64 := by have := (ckI_some hj83).2; have := (ckI_some hj84).2; omega
         refine WL_val (rn_idxA ar93 rfl rfl hj84) rfl ?_; refine WL_val (rn_load na3 rfl (tab_cell hO (k := 0) rfl hl85)) rfl ?_; refine WL_val (rn_geq rfl rfl) rfl ?_; refine WL_nil ?_; refine WC_cond rfl (fun hb86 => ?_) (fun hb86 => ?_)
         ·have H := ifT hb86 H; refine WC_seq ?_; refine WC_region ?_; refine WL_val (rn_assign (v := (.bool false)) rfl) rfl ?_; refine WL_nil ?_; refine WC_ret ?_; refine ⟨(.bool false), rfl, ?_⟩
          have hO : Owns G78 w80 w0.heap.size ([⟨95, 64, 1, .slice (some ⟨b8, 0, none⟩) 1 1, cellsT s64.2.1⟩, ⟨95, 64, 1, .slice (some ⟨b5, 0, none⟩) 1 1, cellsT s64.2.2⟩]) := hO
          refine WL_nil ?_
          have hO : Owns G78 w80 w0.heap.size ([⟨95, 64, 1, .slice (some ⟨b8, 0, none⟩) 1 1, cellsT s64.2.1⟩, ⟨95, 64, 1, .slice (some ⟨b5, 0, none⟩) 1 1, cellsT s64.2.2⟩]) := hO
          have H := Option.some.inj H; subst H
          exact ⟨_, G78, upds_self _ _ ⟨rfl, rfl, rfl, rfl, rfl, rfl, rfl, rfl, rfl, trivial⟩, Gle.refl _, hS, hO⟩
         ·have H := ifF hb86 H; refine WC_skip ?_; refine WC_seq ?_; refine WC_region ?_; refine WL_val (rn_move (v := (.int .i64 y72.From)) rfl) rfl ?_; refine WL_val (rn_move (v := (.int .i64 y72.To)) rfl) rfl ?_; refine WL_val (rn_move (v := (.int .i64 y72.Years.High)) rfl) rfl ?_; obtain ⟨j87, hj87, H⟩ := bnd H; refine WL_val (rn_idxA ar95 rfl rfl hj87) rfl ?_; obtain ⟨j88, hj88, H⟩ := bnd H
          have hl89 : 0 + j87 * 8 + j88 * 1 < 64 := by have := (ckI_some hj87).2; have := (ckI_some hj88).2; omega
          refine WL_val (rn_idxA ar93 rfl rfl hj88) rfl ?_; refine WL_op rfl (OpP_storeT sz3 hS hO (k := 0) rfl rfl rfl hl89 (fun w90 hS hO => ?_))
          have hO : Owns G78 w90 w0.heap.size ([⟨95, 64, 1, .slice (some ⟨b8, 0, none⟩) 1 1, cellsT (tset s64.2.1 (0 + j87 * 8 + j88 * 1) y72.Years.High)⟩, ⟨95, 64, 1, .slice (some ⟨b5, 0, none⟩) 1 1, cellsT s64.2.2⟩]) := hO
          refine WL_nil ?_; refine WC_seq ?_; refine WC_region ?_; refine WL_val (rn_assign (v := (.bool true)) rfl) rfl ?_; refine WL_nil ?_; refine WC_ret ?_; refine ⟨(.bool true), rfl, ?_⟩
          have hO : Owns G78 w90 w0.heap.size ([⟨95, 64, 1, .slice (some ⟨b8, 0, none⟩) 1 1, cellsT (tset s64.2.1 (0 + j87 * 8 + j88 * 1) y72.Years.High)⟩, ⟨95, 64, 1, .slice (some ⟨b5, 0, none⟩) 1 1, cellsT s64.2.2⟩]) := hO
          refine WL_nil ?_
          have hO : Owns G78 w90 w0.heap.size ([⟨95, 64, 1, .slice (some ⟨b8, 0, none⟩) 1 1, cellsT (tset s64.2.1 (0 + j87 * 8 + j88 * 1) y72.Years.High)⟩, ⟨95, 64, 1, .slice (some ⟨b5, 0, none⟩) 1 1, cellsT s64.2.2⟩]) := hO
          have H := Option.some.inj H; subst H
          exact ⟨_, G78, upds_self _ _ ⟨rfl, rfl, rfl, rfl, rfl, rfl, rfl, rfl, rfl, trivial⟩, Gle.refl _, hS, hO⟩
        ·rintro F w91 ⟨Fb, G92, rfl, leG92, hS, hO⟩
         refine WC_region ?_; refine WL_val (rn_move (v := (.func (.func 95) ([] : List Value).toArray ([.pointer (some ⟨b8, 0, none⟩)] : List Value).toArray)) rfl) rfl ?_; refine WL_val (rn_fld fd46_1 rfl) rfl ?_; refine WL_val (rn_load na3 rfl ((hS.sat.le leG92).cell (hcG78 1 _ rfl))) rfl ?_; refine WL_val (rn_fld fd46_0 rfl) rfl ?_; refine WL_val (rn_load na3 rfl ((hS.sat.le leG92).cell (hcG78 0 _ rfl))) rfl ?_; refine WL_val (rn_fld fd46_2 rfl) rfl ?_; refine WL_val (rn_fld fd44_0 rfl) rfl ?_; refine WL_val (rn_load na3 rfl ((hS.sat.le leG92).cell (hcG78 2 _ rfl))) rfl ?_; refine WL_val (rn_neg rfl) rfl ?_; refine WL_op rfl (OpP_inC1 (N' := 20) (fi := []) (al := [.int .i64 y72.To, .int .i64 y72.From, .int .i64 (IntKind.i64.wrap (0 - y72.Years.Low))]) (ca := [.pointer (some ⟨b8, 0, none⟩)]) cb95 Tryd.func95 rfl rfl rfl rfl rfl rfl rfl ?_); refine WC_seq ?_; refine WC_region ?_; refine WL_val (rn_assign (v := (.bool false)) rfl) rfl ?_; refine WL_nil ?_; refine WC_seq ?_; refine WC_seq ?_; refine WC_region ?_; refine WL_val (rn_move (v := (.int .i64 (IntKind.i64.wrap (0 - y72.Years.Low)))) rfl) rfl ?_; refine WL_val (rn_move (v := (.int .i64 y72.To)) rfl) rfl ?_; refine WL_val (rn_move (v := (.int .i64 y72.From)) rfl) rfl ?_; obtain ⟨j93, hj93, H⟩ := bnd H; refine WL_val (rn_idxA ar95 rfl rfl hj93) rfl ?_; obtain ⟨j94, hj94, H⟩ := bnd H
         have hl95 : 0 + j93 * 8 + j94 * 1 < 64 := by have := (ckI_some hj93).2; have := (ckI_some hj94).2; omega
         refine WL_val (rn_idxA ar93 rfl rfl hj94) rfl ?_; refine WL_val (rn_load na3 rfl (tab_cell hO (k := 0) rfl hl95)) rfl ?_; refine WL_val (rn_geq rfl rfl) rfl ?_; refine WL_nil ?_; refine WC_cond rfl (fun hb96 => ?_) (fun hb96 => ?_)
         ·have H := ifT hb96 H; refine WC_seq ?_; refine WC_region ?_; refine WL_val (rn_assign (v := (.bool false)) rfl) rfl ?_; refine WL_nil ?_; refine WC_ret ?_; refine ⟨(.bool false), rfl, ?_⟩
          have hO : Owns G92 w91 w0.heap.size ([⟨95, 64, 1, .slice (some ⟨b8, 0, none⟩) 1 1, cellsT q82⟩, ⟨95, 64, 1, .slice (some ⟨b5, 0, none⟩) 1 1, cellsT s64.2.2⟩]) := hO
          refine WL_nil ?_
          have hO : Owns G92 w91 w0.heap.size ([⟨95, 64, 1, .slice (some ⟨b8, 0, none⟩) 1 1, cellsT q82⟩, ⟨95, 64, 1, .slice (some ⟨b5, 0, none⟩) 1 1, cellsT s64.2.2⟩]) := hO
          have H := Option.some.inj H; subst H
          have l3_5 := leG78.trans leG92
          exact ⟨_, G92, upds_self _ _ ⟨rfl, rfl, rfl, rfl, rfl, rfl, rfl, rfl, trivial⟩, l3_5, hS, hO⟩
         ·have H := ifF hb96 H; refine WC_skip ?_; refine WC_seq ?_; refine WC_region ?_; refine WL_val (rn_move (v := (.int .i64 y72.To)) rfl) rfl ?_; refine WL_val (rn_move (v := (.int .i64 y72.From)) rfl) rfl ?_; refine WL_val (rn_move (v := (.int .i64 (IntKind.i64.wrap (0 - y72.Years.Low)))) rfl) rfl ?_; obtain ⟨j97, hj97, H⟩ := bnd H; refine WL_val (rn_idxA ar95 rfl rfl hj97) rfl ?_; obtain ⟨j98, hj98, H⟩ := bnd H
          have hl99 : 0 + j97 * 8 + j98 * 1 < 64 := by have := (ckI_some hj97).2; have := (ckI_some hj98).2; omega
          refine WL_val (rn_idxA ar93 rfl rfl hj98) rfl ?_; refine WL_op rfl (OpP_storeT sz3 hS hO (k := 0) rfl rfl rfl hl99 (fun w100 hS hO => ?_))
          have hO : Owns G92 w100 w0.heap.size ([⟨95, 64, 1, .slice (some ⟨b8, 0, none⟩) 1 1, cellsT (tset q82 (0 + j97 * 8 + j98 * 1) (IntKind.i64.wrap (0 - y72.Years.Low)))⟩, ⟨95, 64, 1, .slice (some ⟨b5, 0, none⟩) 1 1, cellsT s64.2.2⟩]) := hO
          refine WL_nil ?_; refine WC_seq ?_; refine WC_region ?_; refine WL_val (rn_assign (v := (.bool true)) rfl) rfl ?_; refine WL_nil ?_; refine WC_ret ?_; refine ⟨(.bool true), rfl, ?_⟩
          have hO : Owns G92 w100 w0.heap.size ([⟨95, 64, 1, .slice (some ⟨b8, 0, none⟩) 1 1, cellsT (tset q82 (0 + j97 * 8 + j98 * 1) (IntKind.i64.wrap (0 - y72.Years.Low)))⟩, ⟨95, 64, 1, .slice (some ⟨b5, 0, none⟩) 1 1, cellsT s64.2.2⟩]) := hO
          refine WL_nil ?_
          have hO : Owns G92 w100 w0.heap.size ([⟨95, 64, 1, .slice (some ⟨b8, 0, none⟩) 1 1, cellsT (tset q82 (0 + j97 * 8 + j98 * 1) (IntKind.i64.wrap (0 - y72.Years.Low)))⟩, ⟨95, 64, 1, .slice (some ⟨b5, 0, none⟩) 1 1, cellsT s64.2.2⟩]) := hO
          have H := Option.some.inj H; subst H
          have l3_5 := leG78.trans leG92
          exact ⟨_, G92, upds_self _ _ ⟨rfl, rfl, rfl, rfl, rfl, rfl, rfl, rfl, trivial⟩, l3_5, hS, hO⟩
       ·have H := ifF hb81 H; refine WC_skip ?_
        have hO : Owns G78 w80 w0.heap.size ([⟨95, 64, 1, .slice (some ⟨b8, 0, none⟩) 1 1, cellsT s64.2.1⟩, ⟨95, 64, 1, .slice (some ⟨b5, 0, none⟩) 1 1, cellsT s64.2.2⟩]) := hO
        have H := Option.some.inj H; subst H
        exact ⟨_, G78, upds_self _ _ ⟨rfl, rfl, rfl, rfl, rfl, rfl, rfl, rfl, trivial⟩, leG78, hS, hO⟩
      ·rintro F w101 ⟨Fb, G102, rfl, leG102, hS, hO⟩
       refine WC_region ?_; refine WL_val (rn_add rfl rfl) rfl ?_; refine WL_val (rn_move (v := (.int .i64 (IntKind.i64.wrap (s64.1 + 1)))) rfl) rfl ?_; refine WL_nil ?_
       have hO : Owns G102 w101 w0.heap.size ([⟨95, 64, 1, .slice (some ⟨b8, 0, none⟩) 1 1, cellsT q71⟩, ⟨95, 64, 1, .slice (some ⟨b5, 0, none⟩) 1 1, cellsT s64.2.2⟩]) := hO
       have H := Option.some.inj H; subst H; refine ⟨_, rfl, ?_⟩
       have l2_4 := leG69.trans leG102
       exact ⟨_, G102, upds_self _ _ ⟨rfl, rfl, rfl, rfl, rfl, rfl, rfl, rfl, trivial⟩, l2_4, hS, hO⟩
     ·have H := ifF hb70 H; refine WC_exit rfl ?_
      have hO : Owns G69 w68 w0.heap.size ([⟨95, 64, 1, .slice (some ⟨b8, 0, none⟩) 1 1, cellsT s64.2.1⟩, ⟨95, 64, 1, .slice (some ⟨b5, 0, none⟩) 1 1, cellsT s64.2.2⟩]) := hO
      have H := Option.some.inj H; subst H
      have hres := hqq66 _ rfl
      subst hres
      exact ⟨_, G69, upds_self _ _ ⟨rfl, rfl, rfl, rfl, trivial⟩, leG69, hS, hO⟩
   ·rintro F w103 ⟨Fb, G104, rfl, leG104, hS, hO⟩
    refine WC_seq ?_; refine WC_region ?_; refine WL_val (rn_move (v := (.pointer (some ⟨bq0, 0, none⟩))) rfl) rfl ?_
    refine WL_val (v := (.pointer (some ⟨bq0, 0, none⟩))) (by kernel_rfl) rfl ?_
    refine WL_val (rn_fld fd107_0 rfl) rfl ?_; refine WL_val (rn_fld fd26_1 rfl) rfl ?_
    have l0_3 := l0_2.trans leG104
    refine WL_val (rn_load na23 rfl ((hS.sat.le l0_3).cell (hcq0 1 _ rfl))) rfl ?_; refine WL_val (rn_len sl23 rfl rfl (h2.mono RTLandEvent_mono l0_3).1) rfl ?_; refine WL_val (rn_add rfl rfl) rfl ?_; refine WL_val (rn_assign (v := (.int .i64 (IntKind.i64.wrap ((x0.Events.length : Int) + 1)))) rfl) rfl ?_; refine WL_nil ?_; refine WC_seq ?_; refine WC_region ?_; refine WL_val (rn_move (v := (.int .i64 (IntKind.i64.wrap ((x0.Events.length : Int) + 1)))) rfl) rfl ?_; obtain ⟨_, hm108, H⟩ := bnd H; refine WL_op rfl (OpP_make0 sl29 hS hO hm108 rfl rfl rfl rfl (fun b105 w106 hS hO => ?_)); refine WL_val (rn_assign (v := (.slice (some ⟨b105, 0, none⟩) 0 ((IntKind.i64.wrap ((x0.Events.length : Int) + 1)).toNat))) rfl) rfl ?_; refine WL_nil ?_; refine WC_seq ?_; refine WC_seq ?_; refine WC_region ?_; refine WL_val (rn_move (v := (.pointer (some ⟨bq0, 0, none⟩))) rfl) rfl ?_
    refine WL_val (v := (.pointer (some ⟨bq0, 0, none⟩))) (by kernel_rfl) rfl ?_
    refine WL_val (rn_fld fd107_0 rfl) rfl ?_; refine WL_val (rn_fld fd26_1 rfl) rfl ?_; refine WL_val (rn_load na23 rfl ((hS.sat.le l0_3).cell (hcq0 1 _ rfl))) rfl ?_; refine WL_val (rn_len sl23 rfl rfl (h2.mono RTLandEvent_mono l0_3).1) rfl ?_; refine WL_val (rn_move (v := (.int .i64 0)) rfl) rfl ?_; refine WL_nil ?_; obtain ⟨q111, hq111, H⟩ := bnd H; refine WC_cut (fun F w => ∃ (Fb : Fr) (G : Gm) (aq111_0 : Option Addr) (nq111_0 cq111_0 : Nat) (claq111_0 : List Value), F = upds Fb [(4, .pointer (some ⟨b5, 0, none⟩)), (6, .pointer (some ⟨b8, 0, none⟩)), (9, .func (.func 95) ([] : List Value).toArray ([.pointer (some ⟨b8, 0, none⟩)] : List Value).toArray), (13, .int .i64 (IntKind.i64.wrap ((x0.Events.length : Int) + 1))), (14, .slice aq111_0 nq111_0 cq111_0)] ∧ Gle G104 G ∧ Since w0.heap.size G0 w0 G w ∧ Owns G w w0.heap.size [⟨3, 1, nq111_0, .slice aq111_0 nq111_0 cq111_0, claq111_0⟩, ⟨95, 64, 1, .slice (some ⟨b8, 0, none⟩) 1 1, cellsT q111.2.1⟩, ⟨95, 64, 1, .slice (some ⟨b5, 0, none⟩) 1 1, cellsT q111.2.2⟩] ∧ nq111_0 = q111.1.length ∧ Rd RInt 1 G claq111_0 q111.1) ?_ ?_
    ·refine WC_block (WC_loop hq111 (fun s109 F w => ∃ (Fb : Fr) (G : Gm) (as109_0 : Option Addr) (ns109_0 cs109_0 : Nat) (clas109_0 : List Value), F = upds Fb [(4, .pointer (some ⟨b5, 0, none⟩)), (6, .pointer (some ⟨b8, 0, none⟩)), (9, .func (.func 95) ([] : List Value).toArray ([.pointer (some ⟨b8, 0, none⟩)] : List Value).toArray), (13, .int .i64 (IntKind.i64.wrap ((x0.Events.length : Int) + 1))), (14, .slice as109_0 ns109_0 cs109_0), (105, .int .i64 (x0.Events.length : Int)), (106, .int .i64 s109.2.1)] ∧ Gle G104 G ∧ Since w0.heap.size G0 w0 G w ∧ Owns G w w0.heap.size [⟨3, 1, ns109_0, .slice as109_0 ns109_0 cs109_0, clas109_0⟩, ⟨95, 64, 1, .slice (some ⟨b8, 0, none⟩) 1 1, cellsT s109.2.2.1⟩, ⟨95, 64, 1, .slice (some ⟨b5, 0, none⟩) 1 1, cellsT s109.2.2.2⟩] ∧ ns109_0 = s109.1.length ∧ Rd RInt 1 G clas109_0 s109.1) ?_ ?_)
     ·have hO : Owns G104 w106 w0.heap.size ([⟨3, 1, 0, .slice (some ⟨b105, 0, none⟩) 0 ((IntKind.i64.wrap ((x0.Events.length : Int) + 1)).toNat), []⟩, ⟨95, 64, 1, .slice (some ⟨b8, 0, none⟩) 1 1, cellsT q66.1⟩, ⟨95, 64, 1, .slice (some ⟨b5, 0, none⟩) 1 1, cellsT q66.2⟩]) := hO
      exact ⟨_, G104, (some ⟨b105, 0, none⟩), 0, ((IntKind.i64.wrap ((x0.Events.length : Int) + 1)).toNat), [], upds_self _ _ ⟨rfl, rfl, rfl, rfl, rfl, rfl, rfl, trivial⟩, Gle.refl _, hS, hO, rfl, (Rd.nil RInt 1 G104)⟩
     ·rintro s109 F w113 t112 ⟨Fb, G114, as109_0, ns109_0, cs109_0, clas109_0, rfl, leG114, hS, hO, hnhs109_0, hs109_0⟩
      intro H1 hqq111
      have Hoq111 := H; have H := H1
      unfold f79_b4 at H
      refine WC_seq ?_; refine WC_region ?_; refine WL_val (rn_lss rfl rfl) rfl ?_; refine WL_nil ?_; refine WC_seq ?_; refine WC_cond rfl (fun hb115 => ?_) (fun hb115 => ?_)
      ·have H := ifT hb115 H; refine WC_skip ?_; refine WC_seq ?_; refine WC_block ?_; refine WC_seq ?_; refine WC_region ?_; refine WL_val (rn_move (v := (.int .i64 s109.2.1)) rfl) rfl ?_; refine WL_val (rn_assign (v := (.int .i64 s109.2.1)) rfl) rfl ?_; refine WL_nil ?_; refine WC_region ?_; refine WL_val (rn_move (v := (.slice as109_0 ns109_0 cs109_0)) rfl) rfl ?_; refine WL_val (rn_move (v := (.int .i64 s109.2.1)) rfl) rfl ?_
       refine WL_op rfl (OpP_newF (v := fun b => .slice (some ⟨b, 0, none⟩) 1 1) (cs := [.int .i64 s109.2.1]) (e := 3) (by kernel_rfl) hS.sat rfl (fun b116 G118 w117 hg hcb116 => ?_))
       have hS := hS.grow hg; have hO := hO.grow hg
       have leG118 := hg.le
       have hfb116 : RSl RInt 1 G118 (some ⟨b116, 0, none⟩) 1 1 [s109.2.1] := RSl.of_rd hcb116 (Rd.cons (c := [.int .i64 s109.2.1]) rfl rfl (Rd.nil RInt 1 _)) rfl (by decide)
       obtain ⟨y119, hy119, H⟩ := bnd H; refine WL_op rfl (OpP_append (k := 0) sl29 RInt_one hS hO rfl hnhs109_0 (hs109_0.mono RInt_mono leG118) hfb116 hy119 rfl rfl rfl rfl rfl (fun aw120 cw120 w120 clw120 hS hO hrw120 => ?_))
       have hO : Owns G118 w120 w0.heap.size ([⟨3, 1, y119.length, .slice aw120 y119.length cw120, clw120⟩, ⟨95, 64, 1, .slice (some ⟨b8, 0, none⟩) 1 1, cellsT s109.2.2.1⟩, ⟨95, 64, 1, .slice (some ⟨b5, 0, none⟩) 1 1, cellsT s109.2.2.2⟩]) := hO
       refine WL_val (rn_assign (v := (.slice aw120 y119.length cw120)) rfl) rfl ?_; refine WL_nil ?_; refine WC_region ?_; refine WL_val (rn_add rfl rfl) rfl ?_; refine WL_val (rn_move (v := (.int .i64 (IntKind.i64.wrap (s109.2.1 + 1)))) rfl) rfl ?_; refine WL_nil ?_
       have hO : Owns G118 w120 w0.heap.size ([⟨3, 1, y119.length, .slice aw120 y119.length cw120, clw120⟩, ⟨95, 64, 1, .slice (some ⟨b8, 0, none⟩) 1 1, cellsT s109.2.2.1⟩, ⟨95, 64, 1, .slice (some ⟨b5, 0, none⟩) 1 1, cellsT s109.2.2.2⟩]) := hO
       have H := Option.some.inj H; subst H; refine ⟨_, rfl, ?_⟩
       have l3_5 := leG114.trans leG118
       exact ⟨_, G118, aw120, y119.length, cw120, clw120, upds_self _ _ ⟨rfl, rfl, rfl, rfl, rfl, rfl, rfl, trivial⟩, l3_5, hS, hO, rfl, hrw120⟩
      ·have H := ifF hb115 H; refine WC_exit rfl ?_
       have hO : Owns G114 w113 w0.heap.size ([⟨3, 1, ns109_0, .slice as109_0 ns109_0 cs109_0, clas109_0⟩, ⟨95, 64, 1, .slice (some ⟨b8, 0, none⟩) 1 1, cellsT s109.2.2.1⟩, ⟨95, 64, 1, .slice (some ⟨b5, 0, none⟩) 1 1, cellsT s109.2.2.2⟩]) := hO
       have H := Option.some.inj H; subst H
       have hres := hqq111 _ rfl
       subst hres
       exact ⟨_, G114, as109_0, ns109_0, cs109_0, clas109_0, upds_self _ _ ⟨rfl, rfl, rfl, rfl, rfl, trivial⟩, leG114, hS, hO, hnhs109_0, hs109_0⟩
    ·rintro F w121 ⟨Fb, G122, aq111_0, nq111_0, cq111_0, claq111_0, rfl, leG122, hS, hO, hnhq111_0, hq111_0⟩
     refine WC_seq ?_; refine WC_region ?_; refine WL_val (rn_move (v := (.slice aq111_0 nq111_0 cq111_0)) rfl) rfl ?_
     refine WL_op rfl (OpP_newF (v := fun b => .slice (some ⟨b, 0, none⟩) 1 1) (cs := [.int .i64 7]) (e := 3) (by kernel_rfl) hS.sat rfl (fun b123 G125 w124 hg hcb123 => ?_))
     have hS := hS.grow hg; have hO := hO.grow hg
     have leG125 := hg.le
     have hfb123 : RSl RInt 1 G125 (some ⟨b123, 0, none⟩) 1 1 [7] := RSl.of_rd hcb123 (Rd.cons (c := [.int .i64 7]) rfl rfl (Rd.nil RInt 1 _)) rfl (by decide)
     obtain ⟨y126, hy126, H⟩ := bnd H; refine WL_op rfl (OpP_append (k := 0) sl29 RInt_one hS hO rfl hnhq111_0 (hq111_0.mono RInt_mono leG125) hfb123 hy126 rfl rfl rfl rfl rfl (fun aw127 cw127 w127 clw127 hS hO hrw127 => ?_))
     have hO : Owns G125 w127 w0.heap.size ([⟨3, 1, y126.length, .slice aw127 y126.length cw127, clw127⟩, ⟨95, 64, 1, .slice (some ⟨b8, 0, none⟩) 1 1, cellsT q111.2.1⟩, ⟨95, 64, 1, .slice (some ⟨b5, 0, none⟩) 1 1, cellsT q111.2.2⟩]) := hO
     refine WL_val (rn_assign (v := (.slice aw127 y126.length cw127)) rfl) rfl ?_; refine WL_nil ?_; refine WC_seq ?_; refine WC_label ?_; refine WC_seq ?_; refine WC_seq ?_; refine WC_region ?_; refine WL_val (rn_move (v := (.int .i64 (IntKind.i64.wrap ((x0.Events.length : Int) + 1)))) rfl) rfl ?_; refine WL_val (rn_add rfl rfl) rfl ?_; refine WL_val (rn_move (v := (.int .i64 0)) rfl) rfl ?_; refine WL_nil ?_; obtain ⟨q130, hq130, H⟩ := bnd H; refine WC_cut (fun F w => ∃ (p129 : (Tb 64) × (Tb 64)) (Fb : Fr) (G : Gm), q130 = .inl p129 ∧ F = upds Fb [(4, .pointer (some ⟨b5, 0, none⟩)), (6, .pointer (some ⟨b8, 0, none⟩))] ∧ Gle G125 G ∧ Since w0.heap.size G0 w0 G w ∧ Owns G w w0.heap.size [⟨3, 1, y126.length, .slice aw127 y126.length cw127, clw127⟩, ⟨95, 64, 1, .slice (some ⟨b8, 0, none⟩) 1 1, cellsT p129.1⟩, ⟨95, 64, 1, .slice (some ⟨b5, 0, none⟩) 1 1, cellsT p129.2⟩]) ?_ ?_
     ·refine WC_block (WC_loop hq130 (fun s128 F w => ∃ (Fb : Fr) (G : Gm), F = upds Fb [(4, .pointer (some ⟨b5, 0, none⟩)), (6, .pointer (some ⟨b8, 0, none⟩)), (9, .func (.func 95) ([] : List Value).toArray ([.pointer (some ⟨b8, 0, none⟩)] : List Value).toArray), (14, .slice aw127 y126.length cw127), (118, .int .i64 (IntKind.i64.wrap ((IntKind.i64.wrap ((x0.Events.length : Int) + 1)) + 1))), (119, .int .i64 s128.1)] ∧ Gle G125 G ∧ Since w0.heap.size G0 w0 G w ∧ Owns G w w0.heap.size [⟨3, 1, y126.length, .slice aw127 y126.length cw127, clw127⟩, ⟨95, 64, 1, .slice (some ⟨b8, 0, none⟩) 1 1, cellsT s128.2.1⟩, ⟨95, 64, 1, .slice (some ⟨b5, 0, none⟩) 1 1, cellsT s128.2.2⟩]) ?_ ?_)
      ·have hO : Owns G125 w127 w0.heap.size ([⟨3, 1, y126.length, .slice aw127 y126.length cw127, clw127⟩, ⟨95, 64, 1, .slice (some ⟨b8, 0, none⟩) 1 1, cellsT q111.2.1⟩, ⟨95, 64, 1, .slice (some ⟨b5, 0, none⟩) 1 1, cellsT q111.2.2⟩]) := hO
       exact ⟨_, G125, upds_self _ _ ⟨rfl, rfl, rfl, rfl, rfl, rfl, trivial⟩, Gle.refl _, hS, hO⟩
      ·rintro s128 F w132 t131 ⟨Fb, G133, rfl, leG133, hS, hO⟩
       intro H1 hqq130
       have Hoq130 := H; have H := H1
       unfold f79_b5 at H
       refine WC_seq ?_; refine WC_region ?_; refine WL_val (rn_lss rfl rfl) rfl ?_; refine WL_nil ?_; refine WC_seq ?_; refine WC_cond rfl (fun hb134 => ?_) (fun hb134 => ?_)
       ·have H := ifT hb134 H; refine WC_skip ?_; refine WC_seq ?_; refine WC_block ?_; refine WC_seq ?_; refine WC_region ?_; refine WL_val (rn_assign (v := (.bool false)) rfl) rfl ?_; refine WL_nil ?_; refine WC_seq ?_; refine WC_seq ?_; refine WC_region ?_; refine WL_val (rn_move (v := (.slice aw127 y126.length cw127)) rfl) rfl ?_; refine WL_val (rn_len (m := y126.length) sl29 rfl rfl rfl) rfl ?_; refine WL_val (rn_move (v := (.int .i64 0)) rfl) rfl ?_; refine WL_nil ?_; obtain ⟨q137, hq137, H⟩ := bnd H; refine WC_cut (fun F w => ∃ (Fb : Fr) (G : Gm), F = upds Fb [(4, .pointer (some ⟨b5, 0, none⟩)), (6, .pointer (some ⟨b8, 0, none⟩)), (9, .func (.func 95) ([] : List Value).toArray ([.pointer (some ⟨b8, 0, none⟩)] : List Value).toArray), (14, .slice aw127 y126.length cw127), (16, .bool q137.1), (118, .int .i64 (IntKind.i64.wrap ((IntKind.i64.wrap ((x0.Events.length : Int) + 1)) + 1))), (119, .int .i64 s128.1)] ∧ Gle G133 G ∧ Since w0.heap.size G0 w0 G w ∧ Owns G w w0.heap.size [⟨3, 1, y126.length, .slice aw127 y126.length cw127, clw127⟩, ⟨95, 64, 1, .slice (some ⟨b8, 0, none⟩) 1 1, cellsT q137.2.1⟩, ⟨95, 64, 1, .slice (some ⟨b5, 0, none⟩) 1 1, cellsT q137.2.2⟩]) ?_ ?_
        ·refine WC_block (WC_loop hq137 (fun s135 F w => ∃ (Fb : Fr) (G : Gm), F = upds Fb [(4, .pointer (some ⟨b5, 0, none⟩)), (6, .pointer (some ⟨b8, 0, none⟩)), (9, .func (.func 95) ([] : List Value).toArray ([.pointer (some ⟨b8, 0, none⟩)] : List Value).toArray), (14, .slice aw127 y126.length cw127), (16, .bool s135.1), (118, .int .i64 (IntKind.i64.wrap ((IntKind.i64.wrap ((x0.Events.length : Int) + 1)) + 1))), (119, .int .i64 s128.1), (121, .slice aw127 y126.length cw127), (122, .int .i64 (y126.length : Int)), (123, .int .i64 s135.2.1)] ∧ Gle G133 G ∧ Since w0.heap.size G0 w0 G w ∧ Owns G w w0.heap.size [⟨3, 1, y126.length, .slice aw127 y126.length cw127, clw127⟩, ⟨95, 64, 1, .slice (some ⟨b8, 0, none⟩) 1 1, cellsT s135.2.2.1⟩, ⟨95, 64, 1, .slice (some ⟨b5, 0, none⟩) 1 1, cellsT s135.2.2.2⟩]) ?_ ?_)
         ·have hO : Owns G133 w132 w0.heap.size ([⟨3, 1, y126.length, .slice aw127 y126.length cw127, clw127⟩, ⟨95, 64, 1, .slice (some ⟨b8, 0, none⟩) 1 1, cellsT s128.2.1⟩, ⟨95, 64, 1, .slice (some ⟨b5, 0, none⟩) 1 1, cellsT s128.2.2⟩]) := hO
          exact ⟨_, G133, upds_self _ _ ⟨rfl, rfl, rfl, rfl, rfl, rfl, rfl, rfl, rfl, rfl, trivial⟩, Gle.refl _, hS, hO⟩
         ·rintro s135 F w139 t138 ⟨Fb, G140, rfl, leG140, hS, hO⟩
          intro H1 hqq137
          have Hoq137 := H; have H := H1
          unfold f79_b6 at H
          refine WC_seq ?_; refine WC_region ?_; refine WL_val (rn_lss rfl rfl) rfl ?_; refine WL_nil ?_; refine WC_seq ?_; refine WC_cond rfl (fun hb141 => ?_) (fun hb141 => ?_)
          ·have H := ifT hb141 H; refine WC_skip ?_; refine WC_seq ?_; refine WC_block ?_; refine WC_seq ?_; refine WC_region ?_; obtain ⟨y142, hy142, H⟩ := bnd H
           have l5_7 := leG133.trans leG140
           refine WL_idxO sl29 hO (k := 0) rfl rfl (hrw127.mono RInt_mono l5_7) hy142 rfl rfl rfl ?_
           rintro b143 ob143 _ hb143 _ hcb143 ⟨⟩
           refine WL_val (rn_load na3 rfl (own_cellB hO (k := 0) rfl hb143 _ 0 (hcb143 0 _ rfl))) rfl ?_; refine WL_val (rn_assign (v := (.int .i64 y142)) rfl) rfl ?_; refine WL_nil ?_; refine WC_seq ?_; refine WC_region ?_; refine WL_val (rn_move (v := (.slice aw127 y126.length cw127)) rfl) rfl ?_; refine WL_val (rn_len (m := y126.length) sl29 rfl rfl rfl) rfl ?_; refine WL_val (rn_move (v := (.int .i64 0)) rfl) rfl ?_; refine WL_nil ?_; obtain ⟨q146, hq146, H⟩ := bnd H; refine WC_cut (fun F w => ∃ (Fb : Fr) (G : Gm), F = upds Fb [(4, .pointer (some ⟨b5, 0, none⟩)), (6, .pointer (some ⟨b8, 0, none⟩)), (9, .func (.func 95) ([] : List Value).toArray ([.pointer (some ⟨b8, 0, none⟩)] : List Value).toArray), (14, .slice aw127 y126.length cw127), (16, .bool q146.1), (118, .int .i64 (IntKind.i64.wrap ((IntKind.i64.wrap ((x0.Events.length : Int) + 1)) + 1))), (119, .int .i64 s128.1), (121, .slice aw127 y126.length cw127), (122, .int .i64 (y126.length : Int)), (123, .int .i64 s135.2.1)] ∧ Gle G140 G ∧ Since w0.heap.size G0 w0 G w ∧ Owns G w w0.heap.size [⟨3, 1, y126.length, .slice aw127 y126.length cw127, clw127⟩, ⟨95, 64, 1, .slice (some ⟨b8, 0, none⟩) 1 1, cellsT q146.2.1⟩, ⟨95, 64, 1, .slice (some ⟨b5, 0, none⟩) 1 1, cellsT q146.2.2⟩]) ?_ ?_
           ·refine WC_block (WC_loop hq146 (fun s144 F w => ∃ (Fb : Fr) (G : Gm), F = upds Fb [(4, .pointer (some ⟨b5, 0, none⟩)), (6, .pointer (some ⟨b8, 0, none⟩)), (9, .func (.func 95) ([] : List Value).toArray ([.pointer (some ⟨b8, 0, none⟩)] : List Value).toArray), (14, .slice aw127 y126.length cw127), (16, .bool s144.1), (18, .int .i64 y142), (118, .int .i64 (IntKind.i64.wrap ((IntKind.i64.wrap ((x0.Events.length : Int) + 1)) + 1))), (119, .int .i64 s128.1), (121, .slice aw127 y126.length cw127), (122, .int .i64 (y126.length : Int)), (123, .int .i64 s135.2.1), (127, .slice aw127 y126.length cw127), (128, .int .i64 (y126.length : Int)), (129, .int .i64 s144.2.1)] ∧ Gle G140 G ∧ Since w0.heap.size G0 w0 G w ∧ Owns G w w0.heap.size [⟨3, 1, y126.length, .slice aw127 y126.length cw127, clw127⟩, ⟨95, 64, 1, .slice (some ⟨b8, 0, none⟩) 1 1, cellsT s144.2.2.1⟩, ⟨95, 64, 1, .slice (some ⟨b5, 0, none⟩) 1 1, cellsT s144.2.2.2⟩]) ?_ ?_)
            ·have hO : Owns G140 w139 w0.heap.size ([⟨3, 1, y126.length, .slice aw127 y126.length cw127, clw127⟩, ⟨95, 64, 1, .slice (some ⟨b8, 0, none⟩) 1 1, cellsT s135.2.2.1⟩, ⟨95, 64, 1, .slice (some ⟨b5, 0, none⟩) 1 1, cellsT s135.2.2.2⟩]) := hO
             exact ⟨_, G140, upds_self _ _ ⟨rfl, rfl, rfl, rfl, rfl, rfl, rfl, rfl, rfl, rfl, rfl, rfl, rfl, rfl, trivial⟩, Gle.refl _, hS, hO⟩
            ·rintro s144 F w148 t147 ⟨Fb, G149, rfl, leG149, hS, hO⟩
             intro H1 hqq146
             have Hoq146 := H; have H := H1
             unfold f79_b7 at H
             refine WC_seq ?_; refine WC_region ?_; refine WL_val (rn_lss rfl rfl) rfl ?_; refine WL_nil ?_; refine WC_seq ?_; refine WC_cond rfl (fun hb150 => ?_) (fun hb150 => ?_)
             ·have H := ifT hb150 H; refine WC_skip ?_; refine WC_seq ?_; refine WC_block ?_; refine WC_seq ?_; refine WC_region ?_; obtain ⟨y151, hy151, H⟩ := bnd H
              have l5_8 := l5_7.trans leG149
              refine WL_idxO sl29 hO (k := 0) rfl rfl (hrw127.mono RInt_mono l5_8) hy151 rfl rfl rfl ?_
              rintro b152 ob152 _ hb152 _ hcb152 ⟨⟩
              refine WL_val (rn_load na3 rfl (own_cellB hO (k := 0) rfl hb152 _ 0 (hcb152 0 _ rfl))) rfl ?_; refine WL_val (rn_assign (v := (.int .i64 y151)) rfl) rfl ?_; refine WL_nil ?_; refine WC_seq ?_; refine WC_region ?_; refine WL_val (rn_move (v := (.slice aw127 y126.length cw127)) rfl) rfl ?_; refine WL_val (rn_len (m := y126.length) sl29 rfl rfl rfl) rfl ?_; refine WL_val (rn_move (v := (.int .i64 0)) rfl) rfl ?_; refine WL_nil ?_; obtain ⟨q155, hq155, H⟩ := bnd H; refine WC_cut (fun F w => ∃ (Fb : Fr) (G : Gm), F = upds Fb [(4, .pointer (some ⟨b5, 0, none⟩)), (6, .pointer (some ⟨b8, 0, none⟩)), (9, .func (.func 95) ([] : List Value).toArray ([.pointer (some ⟨b8, 0, none⟩)] : List Value).toArray), (14, .slice aw127 y126.length cw127), (16, .bool q155.1), (18, .int .i64 y142), (118, .int .i64 (IntKind.i64.wrap ((IntKind.i64.wrap ((x0.Events.length : Int) + 1)) + 1))), (119, .int .i64 s128.1), (121, .slice aw127 y126.length cw127), (122, .int .i64 (y126.length : Int)), (123, .int .i64 s135.2.1), (127, .slice aw127 y126.length cw127), (128, .int .i64 (y126.length : Int)), (129, .int .i64 s144.2.1)] ∧ Gle G149 G ∧ Since w0.heap.size G0 w0 G w ∧ Owns G w w0.heap.size [⟨3, 1, y126.length, .slice aw127 y126.length cw127, clw127⟩, ⟨95, 64, 1, .slice (some ⟨b8, 0, none⟩) 1 1, cellsT q155.2.1⟩, ⟨95, 64, 1, .slice (some ⟨b5, 0, none⟩) 1 1, cellsT q155.2.2⟩]) ?_ ?_
              ·refine WC_block (WC_loop hq155 (fun s153 F w => ∃ (Fb : Fr) (G : Gm), F = upds Fb [(4, .pointer (some ⟨b5, 0, none⟩)), (6, .pointer (some ⟨b8, 0, none⟩)), (9, .func (.func 95) ([] : List Value).toArray ([.pointer (some ⟨b8, 0, none⟩)] : List Value).toArray), (14, .slice aw127 y126.length cw127), (16, .bool s153.1), (18, .int .i64 y142), (20, .int .i64 y151), (118, .int .i64 (IntKind.i64.wrap ((IntKind.i64.wrap ((x0.Events.length : Int) + 1)) + 1))), (119, .int .i64 s128.1), (121, .slice aw127 y126.length cw127), (122, .int .i64 (y126.length : Int)), (123, .int .i64 s135.2.1), (127, .slice aw127 y126.length cw127), (128, .int .i64 (y126.length : Int)), (129, .int .i64 s144.2.1), (133, .slice aw127 y126.length cw127), (134, .int .i64 (y126.length : Int)), (135, .int .i64 s153.2.1)] ∧ Gle G149 G ∧ Since w0.heap.size G0 w0 G w ∧ Owns G w w0.heap.size [⟨3, 1, y126.length, .slice aw127 y126.length cw127, clw127⟩, ⟨95, 64, 1, .slice (some ⟨b8, 0, none⟩) 1 1, cellsT s153.2.2.1⟩, ⟨95, 64, 1, .slice (some ⟨b5, 0, none⟩) 1 1, cellsT s153.2.2.2⟩]) ?_ ?_)
               ·have hO : Owns G149 w148 w0.heap.size ([⟨3, 1, y126.length, .slice aw127 y126.length cw127, clw127⟩, ⟨95, 64, 1, .slice (some ⟨b8, 0, none⟩) 1 1, cellsT s144.2.2.1⟩, ⟨95, 64, 1, .slice (some ⟨b5, 0, none⟩) 1 1, cellsT s144.2.2.2⟩]) := hO
                exact ⟨_, G149, upds_self _ _ ⟨rfl, rfl, rfl, rfl, rfl, rfl, rfl, rfl, rfl, rfl, rfl, rfl, rfl, rfl, rfl, rfl, rfl, rfl, trivial⟩, Gle.refl _, hS, hO⟩
               ·rintro s153 F w157 t156 ⟨Fb, G158, rfl, leG158, hS, hO⟩
                intro H1 hqq155
                have Hoq155 := H; have H := H1
                unfold f79_b8 at H
                refine WC_seq ?_; refine WC_region ?_; refine WL_val (rn_lss rfl rfl) rfl ?_; refine WL_nil ?_; refine WC_seq ?_; refine WC_cond rfl (fun hb159 => ?_) (fun hb159 => ?_)
                ·have H := ifT hb159 H; refine WC_skip ?_; refine WC_seq ?_; obtain ⟨q160, hq160, H⟩ := bnd H; refine WC_cut (fun F w => ∃ (Fb : Fr) (G : Gm), F = upds Fb [(4, .pointer (some ⟨b5, 0, none⟩)), (6, .pointer (some ⟨b8, 0, none⟩)), (9, .func (.func 95) ([] : List Value).toArray ([.pointer (some ⟨b8, 0, none⟩)] : List Value).toArray), (14, .slice aw127 y126.length cw127), (16, .bool q160.1), (18, .int .i64 y142), (20, .int .i64 y151), (118, .int .i64 (IntKind.i64.wrap ((IntKind.i64.wrap ((x0.Events.length : Int) + 1)) + 1))), (119, .int .i64 s128.1), (121, .slice aw127 y126.length cw127), (122, .int .i64 (y126.length : Int)), (123, .int .i64 s135.2.1), (127, .slice aw127 y126.length cw127), (128, .int .i64 (y126.length : Int)), (129, .int .i64 s144.2.1), (133, .slice aw127 y126.length cw127), (134, .int .i64 (y126.length : Int)), (135, .int .i64 s153.2.1)] ∧ Gle G158 G ∧ Since w0.heap.size G0 w0 G w ∧ Owns G w w0.heap.size [⟨3, 1, y126.length, .slice aw127 y126.length cw127, clw127⟩, ⟨95, 64, 1, .slice (some ⟨b8, 0, none⟩) 1 1, cellsT q160.2⟩, ⟨95, 64, 1, .slice (some ⟨b5, 0, none⟩) 1 1, cellsT s153.2.2.2⟩]) ?_ ?_
                 ·have Hoq160 := H; have H := hq160; refine WC_block ?_; refine WC_seq ?_; refine WC_region ?_; obtain ⟨y161, hy161, H⟩ := bnd H
                  have l5_9 := l5_8.trans leG158
                  refine WL_idxO sl29 hO (k := 0) rfl rfl (hrw127.mono RInt_mono l5_9) hy161 rfl rfl rfl ?_
                  rintro b162 ob162 _ hb162 _ hcb162 ⟨⟩
                  refine WL_val (rn_load na3 rfl (own_cellB hO (k := 0) rfl hb162 _ 0 (hcb162 0 _ rfl))) rfl ?_; refine WL_val (rn_assign (v := (.int .i64 y161)) rfl) rfl ?_; refine WL_nil ?_; refine WC_seq ?_; obtain ⟨q163, hq163, H⟩ := bnd H; refine WC_cut (fun F w => ∃ (Fb : Fr) (G : Gm), F = upds Fb [(4, .pointer (some ⟨b5, 0, none⟩)), (6, .pointer (some ⟨b8, 0, none⟩)), (9, .func (.func 95) ([] : List Value).toArray ([.pointer (some ⟨b8, 0, none⟩)] : List Value).toArray), (14, .slice aw127 y126.length cw127), (16, .bool s153.1), (18, .int .i64 y142), (20, .int .i64 y151), (118, .int .i64 (IntKind.i64.wrap ((IntKind.i64.wrap ((x0.Events.length : Int) + 1)) + 1))), (119, .int .i64 s128.1), (121, .slice aw127 y126.length cw127), (122, .int .i64 (y126.length : Int)), (123, .int .i64 s135.2.1), (127, .slice aw127 y126.length cw127), (128, .int .i64 (y126.length : Int)), (129, .int .i64 s144.2.1), (133, .slice aw127 y126.length cw127), (134, .int .i64 (y126.length : Int)), (135, .int .i64 s153.2.1), (153, .bool q163.1)] ∧ Gle G158 G ∧ Since w0.heap.size G0 w0 G w ∧ Owns G w w0.heap.size [⟨3, 1, y126.length, .slice aw127 y126.length cw127, clw127⟩, ⟨95, 64, 1, .slice (some ⟨b8, 0, none⟩) 1 1, cellsT q163.2⟩, ⟨95, 64, 1, .slice (some ⟨b5, 0, none⟩) 1 1, cellsT s153.2.2.2⟩]) ?_ ?_
                  ·have Hoq163 := H; have H := hq163; have hS := hS.keep (below_drew _); have hO := hO.below (below_drew _)
                   refine WC_regionD mixedO (fun _ w => Sat G158 w ∧ Owns G158 w w0.heap.size [⟨3, 1, y126.length, .slice aw127 y126.length cw127, clw127⟩, ⟨95, 64, 1, .slice (some ⟨b8, 0, none⟩) 1 1, cellsT s153.2.2.1⟩, ⟨95, 64, 1, .slice (some ⟨b5, 0, none⟩) 1 1, cellsT s153.2.2.2⟩]) (.fl 0 (.fl 1 (.fl 2 (.fl 3 (.fl 4 (.fl 5 (.fl 6 (.fl 7 (.fl 8 (.fl 9 (.on 10 (.on 11 (.on 12 (.on 13 (.on 14 .nil))))))))))))))) (by kernel_rfl) rfl (by kernel_rfl) (fun _ => ⟨hS.sat, hO⟩) ?_
                   refine WD_val rfl (fun w hw => rn_move (v := (.func (.func 95) ([] : List Value).toArray ([.pointer (some ⟨b8, 0, none⟩)] : List Value).toArray)) rfl) rfl ?_; refine WD_val rfl (fun w hw => rn_move (v := (.int .i64 y151)) rfl) rfl ?_; refine WD_val rfl (fun w hw => rn_move (v := (.int .i64 y161)) rfl) rfl ?_; refine WD_val rfl (fun w hw => rn_move (v := (.int .i64 y151)) rfl) rfl ?_; refine WD_val rfl (fun w hw => rn_move (v := (.int .i64 y142)) rfl) rfl ?_; obtain ⟨j164, hj164, H⟩ := bnd H; refine WD_val rfl (fun w hw => rn_idxA ar95 rfl rfl hj164) rfl ?_; obtain ⟨j165, hj165, H⟩ := bnd H
                   have hl166 : 0 + j164 * 8 + j165 * 1 < 64 := by have := (ckI_some hj164).2; have := (ckI_some hj165).2; omega
                   refine WD_val rfl (fun w hw => rn_idxA ar93 rfl rfl hj165) rfl ?_; refine WD_val rfl (fun w hw => rn_load na3 rfl (tab_cell hw.2 (k := 1) rfl hl166)) rfl ?_; refine WD_val rfl (fun w hw => rn_move (v := (.int .i64 y142)) rfl) rfl ?_; refine WD_val rfl (fun w hw => rn_move (v := (.int .i64 y161)) rfl) rfl ?_; obtain ⟨j167, hj167, H⟩ := bnd H; refine WD_op rfl rfl (OpP_val (rn_idxA ar95 rfl rfl hj167) rfl ?_); refine ⟨fun _ _ => ⟨hS.sat, hO⟩, ?_⟩; obtain ⟨j168, hj168, H⟩ := bnd H
                   have hl169 : 0 + j167 * 8 + j168 * 1 < 64 := by have := (ckI_some hj167).2; have := (ckI_some hj168).2; omega
                   refine WD_op rfl rfl (OpP_val (rn_idxA ar93 rfl rfl hj168) rfl ?_); refine ⟨fun _ _ => ⟨hS.sat, hO⟩, ?_⟩; refine WD_op rfl rfl (OpP_val (rn_load na3 rfl (tab_cell hO (k := 1) rfl hl169)) rfl ?_); refine ⟨fun _ _ => ⟨hS.sat, hO⟩, ?_⟩; refine WD_op rfl rfl (OpP_val (rn_add rfl rfl) rfl ?_); refine ⟨fun _ _ => ⟨hS.sat, hO⟩, ?_⟩; refine WD_op rfl rfl (OpP_inC1 (N' := 20) (fi := []) (al := [.int .i64 y151, .int .i64 y161, .int .i64 (IntKind.i64.wrap ((tget s153.2.2.1 (0 + j164 * 8 + j165 * 1)) + (tget s153.2.2.1 (0 + j167 * 8 + j168 * 1))))]) (ca := [.pointer (some ⟨b8, 0, none⟩)]) cb95 Tryd.func95 rfl rfl rfl rfl rfl rfl rfl ?_); refine WC_seq ?_; refine WC_region ?_; refine WL_val (rn_assign (v := (.bool false)) rfl) rfl ?_; refine WL_nil ?_; refine WC_seq ?_; refine WC_seq ?_; refine WC_region ?_; refine WL_val (rn_move (v := (.int .i64 (IntKind.i64.wrap ((tget s153.2.2.1 (0 + j164 * 8 + j165 * 1)) + (tget s153.2.2.1 (0 + j167 * 8 + j168 * 1)))))) rfl) rfl ?_; refine WL_val (rn_move (v := (.int .i64 y151)) rfl) rfl ?_; refine WL_val (rn_move (v := (.int .i64 y161)) rfl) rfl ?_; obtain ⟨j170, hj170, H⟩ := bnd H; refine WL_val (rn_idxA ar95 rfl rfl hj170) rfl ?_; obtain ⟨j171, hj171, H⟩ := bnd H
                   have hl172 : 0 + j170 * 8 + j171 * 1 < 64 := by have := (ckI_some hj170).2; have := (ckI_some hj171).2; omega
                   refine WL_val (rn_idxA ar93 rfl rfl hj171) rfl ?_; refine WL_val (rn_load na3 rfl (tab_cell hO (k := 1) rfl hl172)) rfl ?_; refine WL_val (rn_geq rfl rfl) rfl ?_; refine WL_nil ?_; refine WC_cond rfl (fun hb173 => ?_) (fun hb173 => ?_)
                   ·have H := ifT hb173 H; refine WC_seq ?_; refine WC_region ?_; refine WL_val (rn_assign (v := (.bool false)) rfl) rfl ?_; refine WL_nil ?_; refine WC_ret ?_; refine ⟨(.bool false), rfl, ?_⟩
                    have hO : Owns G158 w157.drew w0.heap.size ([⟨3, 1, y126.length, .slice aw127 y126.length cw127, clw127⟩, ⟨95, 64, 1, .slice (some ⟨b8, 0, none⟩) 1 1, cellsT s153.2.2.1⟩, ⟨95, 64, 1, .slice (some ⟨b5, 0, none⟩) 1 1, cellsT s153.2.2.2⟩]) := hO
                    refine ⟨fun _ h => noneed (by kernel_rfl) h, ?_⟩
                    refine WD_nil ?_
                    have hO : Owns G158 w157.drew w0.heap.size ([⟨3, 1, y126.length, .slice aw127 y126.length cw127, clw127⟩, ⟨95, 64, 1, .slice (some ⟨b8, 0, none⟩) 1 1, cellsT s153.2.2.1⟩, ⟨95, 64, 1, .slice (some ⟨b5, 0, none⟩) 1 1, cellsT s153.2.2.2⟩]) := hO
                    have H := Option.some.inj H; subst H
                    exact ⟨_, G158, upds_self _ _ ⟨rfl, rfl, rfl, rfl, rfl, rfl, rfl, rfl, rfl, rfl, rfl, rfl, rfl, rfl, rfl, rfl, rfl, rfl, rfl, trivial⟩, Gle.refl _, hS, hO⟩
                   ·have H := ifF hb173 H; refine WC_skip ?_; refine WC_seq ?_; refine WC_region ?_; refine WL_val (rn_move (v := (.int .i64 y151)) rfl) rfl ?_; refine WL_val (rn_move (v := (.int .i64 y161)) rfl) rfl ?_; refine WL_val (rn_move (v := (.int .i64 (IntKind.i64.wrap ((tget s153.2.2.1 (0 + j164 * 8 + j165 * 1)) + (tget s153.2.2.1 (0 + j167 * 8 + j168 * 1)))))) rfl) rfl ?_; obtain ⟨j174, hj174, H⟩ := bnd H; refine WL_val (rn_idxA ar95 rfl rfl hj174) rfl ?_; obtain ⟨j175, hj175, H⟩ := bnd H
                    have hl176 : 0 + j174 * 8 + j175 * 1 < 64 := by have := (ckI_some hj174).2; have := (ckI_some hj175).2; omega
                    refine WL_val (rn_idxA ar93 rfl rfl hj175) rfl ?_; refine WL_op rfl (OpP_storeT sz3 hS hO (k := 1) rfl rfl rfl hl176 (fun w177 hS hO => ?_))
                    have hO : Owns G158 w177 w0.heap.size ([⟨3, 1, y126.length, .slice aw127 y126.length cw127, clw127⟩, ⟨95, 64, 1, .slice (some ⟨b8, 0, none⟩) 1 1, cellsT (tset s153.2.2.1 (0 + j174 * 8 + j175 * 1) (IntKind.i64.wrap ((tget s153.2.2.1 (0 + j164 * 8 + j165 * 1)) + (tget s153.2.2.1 (0 + j167 * 8 + j168 * 1)))))⟩, ⟨95, 64, 1, .slice (some ⟨b5, 0, none⟩) 1 1, cellsT s153.2.2.2⟩]) := hO
                    refine WL_nil ?_; refine WC_seq ?_; refine WC_region ?_; refine WL_val (rn_assign (v := (.bool true)) rfl) rfl ?_; refine WL_nil ?_; refine WC_ret ?_; refine ⟨(.bool true), rfl, ?_⟩
                    have hO : Owns G158 w177 w0.heap.size ([⟨3, 1, y126.length, .slice aw127 y126.length cw127, clw127⟩, ⟨95, 64, 1, .slice (some ⟨b8, 0, none⟩) 1 1, cellsT (tset s153.2.2.1 (0 + j174 * 8 + j175 * 1) (IntKind.i64.wrap ((tget s153.2.2.1 (0 + j164 * 8 + j165 * 1)) + (tget s153.2.2.1 (0 + j167 * 8 + j168 * 1)))))⟩, ⟨95, 64, 1, .slice (some ⟨b5, 0, none⟩) 1 1, cellsT s153.2.2.2⟩]) := hO
                    refine ⟨fun _ h => noneed (by kernel_rfl) h, ?_⟩
                    refine WD_nil ?_
                    have hO : Owns G158 w177 w0.heap.size ([⟨3, 1, y126.length, .slice aw127 y126.length cw127, clw127⟩, ⟨95, 64, 1, .slice (some ⟨b8, 0, none⟩) 1 1, cellsT (tset s153.2.2.1 (0 + j174 * 8 + j175 * 1) (IntKind.i64.wrap ((tget s153.2.2.1 (0 + j164 * 8 + j165 * 1)) + (tget s153.2.2.1 (0 + j167 * 8 + j168 * 1)))))⟩, ⟨95, 64, 1, .slice (some ⟨b5, 0, none⟩) 1 1, cellsT s153.2.2.2⟩]) := hO
                    have H := Option.some.inj H; subst H
                    exact ⟨_, G158, upds_self _ _ ⟨rfl, rfl, rfl, rfl, rfl, rfl, rfl, rfl, rfl, rfl, rfl, rfl, rfl, rfl, rfl, rfl, rfl, rfl, rfl, trivial⟩, Gle.refl _, hS, hO⟩
                  ·rintro F w178 ⟨Fb, G179, rfl, leG179, hS, hO⟩
                   refine WC_cond rfl (fun hb180 => ?_) (fun hb180 => ?_)
                   ·have H := ifT hb180 H; refine WC_region ?_; refine WL_val (rn_assign (v := (.bool true)) rfl) rfl ?_; refine WL_nil ?_
                    have hO : Owns G179 w178 w0.heap.size ([⟨3, 1, y126.length, .slice aw127 y126.length cw127, clw127⟩, ⟨95, 64, 1, .slice (some ⟨b8, 0, none⟩) 1 1, cellsT q163.2⟩, ⟨95, 64, 1, .slice (some ⟨b5, 0, none⟩) 1 1, cellsT s153.2.2.2⟩]) := hO
                    have H := Option.some.inj H; subst H
                    exact ⟨_, G179, upds_self _ _ ⟨rfl, rfl, rfl, rfl, rfl, rfl, rfl, rfl, rfl, rfl, rfl, rfl, rfl, rfl, rfl, rfl, rfl, rfl, trivial⟩, leG179, hS, hO⟩
                   ·have H := ifF hb180 H; refine WC_skip ?_
                    have hO : Owns G179 w178 w0.heap.size ([⟨3, 1, y126.length, .slice aw127 y126.length cw127, clw127⟩, ⟨95, 64, 1, .slice (some ⟨b8, 0, none⟩) 1 1, cellsT q163.2⟩, ⟨95, 64, 1, .slice (some ⟨b5, 0, none⟩) 1 1, cellsT s153.2.2.2⟩]) := hO
                    have H := Option.some.inj H; subst H
                    exact ⟨_, G179, upds_self _ _ ⟨rfl, rfl, rfl, rfl, rfl, rfl, rfl, rfl, rfl, rfl, rfl, rfl, rfl, rfl, rfl, rfl, rfl, rfl, trivial⟩, leG179, hS, hO⟩
                 ·rintro F w181 ⟨Fb, G182, rfl, leG182, hS, hO⟩
                  refine WC_region ?_; refine WL_val (rn_add rfl rfl) rfl ?_; refine WL_val (rn_move (v := (.int .i64 (IntKind.i64.wrap (s153.2.1 + 1)))) rfl) rfl ?_; refine WL_nil ?_
                  have hO : Owns G182 w181 w0.heap.size ([⟨3, 1, y126.length, .slice aw127 y126.length cw127, clw127⟩, ⟨95, 64, 1, .slice (some ⟨b8, 0, none⟩) 1 1, cellsT q160.2⟩, ⟨95, 64, 1, .slice (some ⟨b5, 0, none⟩) 1 1, cellsT s153.2.2.2⟩]) := hO
                  have H := Option.some.inj H; subst H; refine ⟨_, rfl, ?_⟩
                  have l8_10 := leG158.trans leG182
                  exact ⟨_, G182, upds_self _ _ ⟨rfl, rfl, rfl, rfl, rfl, rfl, rfl, rfl, rfl, rfl, rfl, rfl, rfl, rfl, rfl, rfl, rfl, rfl, trivial⟩, l8_10, hS, hO⟩
                ·have H := ifF hb159 H; refine WC_exit rfl ?_
                 have hO : Owns G158 w157 w0.heap.size ([⟨3, 1, y126.length, .slice aw127 y126.length cw127, clw127⟩, ⟨95, 64, 1, .slice (some ⟨b8, 0, none⟩) 1 1, cellsT s153.2.2.1⟩, ⟨95, 64, 1, .slice (some ⟨b5, 0, none⟩) 1 1, cellsT s153.2.2.2⟩]) := hO
                 have H := Option.some.inj H; subst H
                 have hres := hqq155 _ rfl
                 subst hres
                 exact ⟨_, G158, upds_self _ _ ⟨rfl, rfl, rfl, rfl, rfl, rfl, rfl, rfl, rfl, rfl, rfl, rfl, rfl, rfl, trivial⟩, leG158, hS, hO⟩
              ·rintro F w183 ⟨Fb, G184, rfl, leG184, hS, hO⟩
               refine WC_region ?_; refine WL_val (rn_add rfl rfl) rfl ?_; refine WL_val (rn_move (v := (.int .i64 (IntKind.i64.wrap (s144.2.1 + 1)))) rfl) rfl ?_; refine WL_nil ?_
               have hO : Owns G184 w183 w0.heap.size ([⟨3, 1, y126.length, .slice aw127 y126.length cw127, clw127⟩, ⟨95, 64, 1, .slice (some ⟨b8, 0, none⟩) 1 1, cellsT q155.2.1⟩, ⟨95, 64, 1, .slice (some ⟨b5, 0, none⟩) 1 1, cellsT q155.2.2⟩]) := hO
               have H := Option.some.inj H; subst H; refine ⟨_, rfl, ?_⟩
               have l7_9 := leG149.trans leG184
               exact ⟨_, G184, upds_self _ _ ⟨rfl, rfl, rfl, rfl, rfl, rfl, rfl, rfl, rfl, rfl, rfl, rfl, rfl, rfl, trivial⟩, l7_9, hS, hO⟩
             ·have H := ifF hb150 H; refine WC_exit rfl ?_
              have hO : Owns G149 w148 w0.heap.size ([⟨3, 1, y126.length, .slice aw127 y126.length cw127, clw127⟩, ⟨95, 64, 1, .slice (some ⟨b8, 0, none⟩) 1 1, cellsT s144.2.2.1⟩, ⟨95, 64, 1, .slice (some ⟨b5, 0, none⟩) 1 1, cellsT s144.2.2.2⟩]) := hO
              have H := Option.some.inj H; subst H
              have hres := hqq146 _ rfl
              subst hres
              exact ⟨_, G149, upds_self _ _ ⟨rfl, rfl, rfl, rfl, rfl, rfl, rfl, rfl, rfl, rfl, trivial⟩, leG149, hS, hO⟩
           ·rintro F w185 ⟨Fb, G186, rfl, leG186, hS, hO⟩
            refine WC_region ?_; refine WL_val (rn_add rfl rfl) rfl ?_; refine WL_val (rn_move (v := (.int .i64 (IntKind.i64.wrap (s135.2.1 + 1)))) rfl) rfl ?_; refine WL_nil ?_
            have hO : Owns G186 w185 w0.heap.size ([⟨3, 1, y126.length, .slice aw127 y126.length cw127, clw127⟩, ⟨95, 64, 1, .slice (some ⟨b8, 0, none⟩) 1 1, cellsT q146.2.1⟩, ⟨95, 64, 1, .slice (some ⟨b5, 0, none⟩) 1 1, cellsT q146.2.2⟩]) := hO
            have H := Option.some.inj H; subst H; refine ⟨_, rfl, ?_⟩
            have l6_8 := leG140.trans leG186
            exact ⟨_, G186, upds_self _ _ ⟨rfl, rfl, rfl, rfl, rfl, rfl, rfl, rfl, rfl, rfl, trivial⟩, l6_8, hS, hO⟩
          ·have H := ifF hb141 H; refine WC_exit rfl ?_
           have hO : Owns G140 w139 w0.heap.size ([⟨3, 1, y126.length, .slice aw127 y126.length cw127, clw127⟩, ⟨95, 64, 1, .slice (some ⟨b8, 0, none⟩) 1 1, cellsT s135.2.2.1⟩, ⟨95, 64, 1, .slice (some ⟨b5, 0, none⟩) 1 1, cellsT s135.2.2.2⟩]) := hO
           have H := Option.some.inj H; subst H
           have hres := hqq137 _ rfl
           subst hres
           exact ⟨_, G140, upds_self _ _ ⟨rfl, rfl, rfl, rfl, rfl, rfl, rfl, trivial⟩, leG140, hS, hO⟩
        ·rintro F w187 ⟨Fb, G188, rfl, leG188, hS, hO⟩
         refine WC_seq ?_; refine WC_seq ?_; refine WC_region ?_; refine WL_val (rn_move (v := (.slice aw127 y126.length cw127)) rfl) rfl ?_; refine WL_val (rn_len (m := y126.length) sl29 rfl rfl rfl) rfl ?_; refine WL_val (rn_move (v := (.int .i64 0)) rfl) rfl ?_; refine WL_nil ?_; obtain ⟨q191, hq191, H⟩ := bnd H; refine WC_cut (fun F w => ∃ (p190 : Unit) (Fb : Fr), q191 = .inl p190 ∧ F = upds Fb [(4, .pointer (some ⟨b5, 0, none⟩)), (6, .pointer (some ⟨b8, 0, none⟩)), (9, .func (.func 95) ([] : List Value).toArray ([.pointer (some ⟨b8, 0, none⟩)] : List Value).toArray), (14, .slice aw127 y126.length cw127), (16, .bool q137.1), (118, .int .i64 (IntKind.i64.wrap ((IntKind.i64.wrap ((x0.Events.length : Int) + 1)) + 1))), (119, .int .i64 s128.1)] ∧ w187 = w) ?_ ?_
         ·refine WC_block (WC_loop hq191 (fun s189 F w => ∃ (Fb : Fr), F = upds Fb [(4, .pointer (some ⟨b5, 0, none⟩)), (6, .pointer (some ⟨b8, 0, none⟩)), (9, .func (.func 95) ([] : List Value).toArray ([.pointer (some ⟨b8, 0, none⟩)] : List Value).toArray), (14, .slice aw127 y126.length cw127), (16, .bool q137.1), (118, .int .i64 (IntKind.i64.wrap ((IntKind.i64.wrap ((x0.Events.length : Int) + 1)) + 1))), (119, .int .i64 s128.1), (157, .slice aw127 y126.length cw127), (158, .int .i64 (y126.length : Int)), (159, .int .i64 s189)] ∧ w187 = w) ?_ ?_)
          ·exact ⟨_, upds_self _ _ ⟨rfl, rfl, rfl, rfl, rfl, rfl, rfl, rfl, rfl, rfl, trivial⟩, rfl⟩
          ·rintro s189 F wl t192 ⟨Fb, rfl, rfl⟩
           intro H1 hqq191
           have Hoq191 := H; have H := H1
           unfold f79_b9 at H
           refine WC_seq ?_; refine WC_region ?_; refine WL_val (rn_lss rfl rfl) rfl ?_; refine WL_nil ?_; refine WC_seq ?_; refine WC_cond rfl (fun hb195 => ?_) (fun hb195 => ?_)
           ·have H := ifT hb195 H; refine WC_skip ?_; refine WC_seq ?_; refine WC_block ?_; refine WC_seq ?_; refine WC_region ?_; obtain ⟨y196, hy196, H⟩ := bnd H
            have l5_7 := leG133.trans leG188
            refine WL_idxO sl29 hO (k := 0) rfl rfl (hrw127.mono RInt_mono l5_7) hy196 rfl rfl rfl ?_
            rintro b197 ob197 _ hb197 _ hcb197 ⟨⟩
            refine WL_val (rn_load na3 rfl (own_cellB hO (k := 0) rfl hb197 _ 0 (hcb197 0 _ rfl))) rfl ?_; refine WL_val (rn_assign (v := (.int .i64 y196)) rfl) rfl ?_; refine WL_nil ?_; refine WC_seq ?_; refine WC_region ?_; refine WL_val (rn_move (v := (.int .i64 y196)) rfl) rfl ?_; refine WL_val (rn_move (v := (.int .i64 y196)) rfl) rfl ?_; obtain ⟨j198, hj198, H⟩ := bnd H; refine WL_val (rn_idxA ar95 rfl rfl hj198) rfl ?_; obtain ⟨j199, hj199, H⟩ := bnd H
            have hl200 : 0 + j198 * 8 + j199 * 1 < 64 := by have := (ckI_some hj198).2; have := (ckI_some hj199).2; omega
            refine WL_val (rn_idxA ar93 rfl rfl hj199) rfl ?_; refine WL_val (rn_load na3 rfl (tab_cell hO (k := 1) rfl hl200)) rfl ?_; refine WL_val (rn_lss rfl rfl) rfl ?_; refine WL_nil ?_; refine WC_cond rfl (fun hb201 => ?_) (fun hb201 => ?_)
            ·have H := ifT hb201 H; refine WC_seq ?_; refine WC_region ?_
             refine WL_val (v := (.agg (cellsT (Tb.zero 64)).toArray)) (by kernel_rfl) rfl ?_
             refine WL_op rfl (OpP_storeTT sz95 hS hO (k := 2) rfl rfl rfl (fun w202 hS hO => ?_))
             have hO : Owns G188 w202 w0.heap.size ([⟨3, 1, y126.length, .slice aw127 y126.length cw127, clw127⟩, ⟨95, 64, 1, .slice (some ⟨b8, 0, none⟩) 1 1, cellsT q137.2.1⟩, ⟨95, 64, 1, .slice (some ⟨b5, 0, none⟩) 1 1, cellsT (Tb.zero 64)⟩]) := hO
             refine WL_val (rn_assign (v := (.bool false)) rfl) rfl ?_; refine WL_nil ?_; refine WC_ret ?_; have H := Option.some.inj H; subst H
             have hres := hqq191 _ rfl
             subst hres; have H := Hoq191; have H := Option.some.inj H; subst H
             have hres := hqq130 _ rfl
             subst hres; have H := Hoq130
             have H : some (Tb.zero 64, false) = some r := H
             have H := Option.some.inj H; subst H
             exact ⟨[.agg (cellsT (Tb.zero 64)).toArray, .bool false], ⟨⟨_, rfl, ld_agg (cs := (cellsT (Tb.zero 64))) ag95 (cellsT_len _) (fun j v hj => by rw [Nat.zero_add]; exact own_cell hO (k := 2) rfl hj)⟩, rfl, trivial⟩, ⟨rfl, hS.below⟩⟩
            ·have H := ifF hb201 H; refine WC_skip ?_; refine WC_region ?_; refine WL_val (rn_add rfl rfl) rfl ?_; refine WL_val (rn_move (v := (.int .i64 (IntKind.i64.wrap (s189 + 1)))) rfl) rfl ?_; refine WL_nil ?_; have H := Option.some.inj H; subst H; refine ⟨_, rfl, ?_⟩
             exact ⟨_, upds_self _ _ ⟨rfl, rfl, rfl, rfl, rfl, rfl, rfl, rfl, rfl, rfl, trivial⟩, rfl⟩
           ·have H := ifF hb195 H; refine WC_exit rfl ?_; have H := Option.some.inj H; subst H
            have hres := hqq191 _ rfl
            subst hres
            exact ⟨_, _, rfl, upds_self _ _ ⟨rfl, rfl, rfl, rfl, rfl, rfl, rfl, trivial⟩, rfl⟩
         ·rintro F wl ⟨p190, Fb, rfl, rfl, rfl⟩
          refine WC_seq ?_; refine WC_region ?_; refine WL_val (rn_move (v := (.bool q137.1)) rfl) rfl ?_; refine WL_val (rn_not rfl) rfl ?_; refine WL_nil ?_; refine WC_cond rfl (fun hb205 => ?_) (fun hb205 => ?_)
          ·have H := ifT hb205 H; refine WC_exit rfl ?_
           have hO : Owns G188 w187 w0.heap.size ([⟨3, 1, y126.length, .slice aw127 y126.length cw127, clw127⟩, ⟨95, 64, 1, .slice (some ⟨b8, 0, none⟩) 1 1, cellsT q137.2.1⟩, ⟨95, 64, 1, .slice (some ⟨b5, 0, none⟩) 1 1, cellsT q137.2.2⟩]) := hO
           have H := Option.some.inj H; subst H
           have hres := hqq130 _ rfl
           subst hres
           have l5_7 := leG133.trans leG188
           exact ⟨_, _, G188, rfl, upds_self _ _ ⟨rfl, rfl, trivial⟩, l5_7, hS, hO⟩
          ·have H := ifF hb205 H; refine WC_skip ?_; refine WC_region ?_; refine WL_val (rn_add rfl rfl) rfl ?_; refine WL_val (rn_move (v := (.int .i64 (IntKind.i64.wrap (s128.1 + 1)))) rfl) rfl ?_; refine WL_nil ?_
           have hO : Owns G188 w187 w0.heap.size ([⟨3, 1, y126.length, .slice aw127 y126.length cw127, clw127⟩, ⟨95, 64, 1, .slice (some ⟨b8, 0, none⟩) 1 1, cellsT q137.2.1⟩, ⟨95, 64, 1, .slice (some ⟨b5, 0, none⟩) 1 1, cellsT q137.2.2⟩]) := hO
           have H := Option.some.inj H; subst H; refine ⟨_, rfl, ?_⟩
           have l5_7 := leG133.trans leG188
           exact ⟨_, G188, upds_self _ _ ⟨rfl, rfl, rfl, rfl, rfl, rfl, trivial⟩, l5_7, hS, hO⟩
       ·have H := ifF hb134 H; refine WC_exit rfl ?_
        have hO : Owns G133 w132 w0.heap.size ([⟨3, 1, y126.length, .slice aw127 y126.length cw127, clw127⟩, ⟨95, 64, 1, .slice (some ⟨b8, 0, none⟩) 1 1, cellsT s128.2.1⟩, ⟨95, 64, 1, .slice (some ⟨b5, 0, none⟩) 1 1, cellsT s128.2.2⟩]) := hO
        have H := Option.some.inj H; subst H
        have hres := hqq130 _ rfl
        subst hres
        exact ⟨_, _, G133, rfl, upds_self _ _ ⟨rfl, rfl, trivial⟩, leG133, hS, hO⟩
     ·rintro F w207 ⟨p129, Fb, G208, rfl, rfl, leG208, hS, hO⟩
      refine WC_seq ?_; refine WC_region ?_; refine WL_val (rn_loadT ag95 hO (k := 1) rfl rfl) rfl ?_; refine WL_op rfl (OpP_storeTT sz95 hS hO (k := 2) rfl rfl rfl (fun w209 hS hO => ?_))
      have hO : Owns G208 w209 w0.heap.size ([⟨3, 1, y126.length, .slice aw127 y126.length cw127, clw127⟩, ⟨95, 64, 1, .slice (some ⟨b8, 0, none⟩) 1 1, cellsT p129.1⟩, ⟨95, 64, 1, .slice (some ⟨b5, 0, none⟩) 1 1, cellsT p129.1⟩]) := hO
      refine WL_val (rn_assign (v := (.bool true)) rfl) rfl ?_; refine WL_nil ?_; refine WC_ret ?_
      have H : some (p129.1, true) = some r := H
      have H := Option.some.inj H; subst H
      exact ⟨[.agg (cellsT p129.1).toArray, .bool true], ⟨⟨_, rfl, ld_agg (cs := (cellsT p129.1)) ag95 (cellsT_len _) (fun j v hj => by rw [Nat.zero_add]; exact own_cell hO (k := 2) rfl hj)⟩, rfl, trivial⟩, ⟨rfl, hS.below⟩⟩
set_option maxHeartbeats 1000000 in
theorem f53_ok {B : Nat} {G0 : Gm} {w0 : World} {Gc : Gm} {wc : World} {Lq : List Row} {x0 : TLandBook} {bb rm : Nat} {a1 : Option Addr} {n1 c1 : Nat} {a2 : Option Addr} {n2 c2 : Nat} {a3 : Option Addr} {n3 c3 : Nat} {m : List (Int × Bool)} {x1 : Int} (hS : Since B G0 w0 Gc wc) (hO : Owns Gc wc B (⟨77, 2, m.length, .map (some rm), kvs kvI vvB m⟩ :: Lq))
  (hcb : Cells Gc bb 0 [.slice a1 n1 c1, .slice a2 n2 c2, .slice a3 n3 c3, .map (some rm)]) (h1 : RSl RTLandPerson 2 Gc a1 n1 c1 x0.People) (h2 : RSl RTLandEvent 2 Gc a2 n2 c2 x0.Events) (h3 : RSl RTLandMemory 4 Gc a3 n3 c3 x0.Memories) {r : Bool × List (Int × Bool)} (H : f53 x0 m x1 = some r) :
  Calls Tryd.prog 53 [.pointer (some ⟨bb, 0, none⟩), .int .i64 x1].toArray wc (RetO B G0 w0 Gc wc (fun G L' v => v = .bool r.1 ∧ L' = ⟨77, 2, r.2.length, .map (some rm), kvs kvI vvB r.2⟩ :: Lq)) := by
 unfold f53 at H
 refine enterL (N := 31) (rs := [.tmp 4]) hO.base Tryd.func53 rfl rfl rfl rfl ?_; refine WC_seq ?_; refine WC_region ?_; refine WL_val (rn_assign (v := (.bool false)) rfl) rfl ?_; refine WL_nil ?_; refine WC_seq ?_; refine WC_region ?_; refine WL_val (rn_move (v := (.pointer (some ⟨bb, 0, none⟩))) rfl) rfl ?_
 refine WL_val (v := (.pointer (some ⟨bb, 0, none⟩))) (by kernel_rfl) rfl ?_
 refine WL_val (rn_fld fd107_1 rfl) rfl ?_; refine WL_val (rn_load na105 rfl (hS.sat.cell (hcb 3 _ rfl))) rfl ?_; refine WL_val (rn_move (v := (.int .i64 x1)) rfl) rfl ?_; refine WL_val (v := (.tuple #[.bool ((lookM m x1).getD false), .bool ((lookM m x1).isSome)])) (rn_lookup2 (k := 0) (vv := vvB) (z := false) (a := x1) mp105 (keyOk_I ui77) zi4 hO rfl rfl rfl) rfl ?_; refine WL_val (rn_move (v := (.tuple #[.bool ((lookM m x1).getD false), .bool ((lookM m x1).isSome)])) rfl) rfl ?_; refine WL_val (rn_extract (v := (.bool ((lookM m x1).getD false))) rfl rfl) rfl ?_; refine WL_val (rn_extract (v := (.bool ((lookM m x1).isSome))) rfl rfl) rfl ?_; refine WL_val (rn_assign (v := (.bool ((lookM m x1).getD false))) rfl) rfl ?_; refine WL_val (rn_assign (v := (.bool ((lookM m x1).isSome))) rfl) rfl ?_; refine WL_nil ?_; refine WC_seq ?_; obtain ⟨q10, hq10, H⟩ := bnd H; refine WC_cut (fun F w => ∃ (Fb : Fr) (G : Gm), F = upds Fb [(5, .bool q10.1)] ∧ Gle Gc G ∧ Since B G0 w0 G w ∧ Owns G w B (⟨77, 2, (q10.2).length, .map (some rm), kvs kvI vvB (q10.2)⟩ :: Lq)) ?_ ?_
 ·have Hoq10 := H; have H := hq10; refine WC_seq ?_; refine WC_region ?_; refine WL_val (rn_move (v := (.bool ((lookM m x1).isSome))) rfl) rfl ?_; refine WL_val (rn_not rfl) rfl ?_; refine WL_nil ?_; refine WC_cond rfl (fun hb11 => ?_) (fun hb11 => ?_)
  ·have H := ifT hb11 H; refine WC_seq ?_; refine WC_region ?_; refine WL_val (rn_move (v := (.pointer (some ⟨bb, 0, none⟩))) rfl) rfl ?_; refine WL_val (rn_move (v := (.int .i64 x1)) rfl) rfl ?_; obtain ⟨y12, hy12, H⟩ := bnd H
   have hx14 := f79_ok (x0 := x0) (x1 := x1) hS.sat hcb h1 h2 h3 hy12
   refine WL_op rfl (OpP_callV cb79 hx14 rfl rfl (fun w13 hb => ?_)); have hS := hS.keep hb; have hO := hO.below hb; refine WL_val (rn_move (v := (.tuple #[.agg (cellsT y12.1).toArray, .bool y12.2])) rfl) rfl ?_; refine WL_val (rn_extract (v := (.agg (cellsT y12.1).toArray)) rfl rfl) rfl ?_; refine WL_val (rn_extract (v := (.bool y12.2)) rfl rfl) rfl ?_; refine WL_val (rn_assign (v := (.bool y12.2)) rfl) rfl ?_; refine WL_nil ?_; refine WC_region ?_; refine WL_val (rn_move (v := (.pointer (some ⟨bb, 0, none⟩))) rfl) rfl ?_
   refine WL_val (v := (.pointer (some ⟨bb, 0, none⟩))) (by kernel_rfl) rfl ?_
   refine WL_val (rn_fld fd107_1 rfl) rfl ?_; refine WL_val (rn_load na105 rfl (hS.sat.cell (hcb 3 _ rfl))) rfl ?_; refine WL_val (rn_move (v := (.int .i64 x1)) rfl) rfl ?_; refine WL_val (rn_move (v := (.bool y12.2)) rfl) rfl ?_; refine WL_op rfl (OpP_mapUpdate (k := 0) (vv := vvB) (v := y12.2) (a := x1) mp105 (keyOk_I ui77) hS hO rfl rfl rfl rfl rfl (fun w15 hS hO => ?_))
   have hO : Owns Gc w15 B (⟨77, 2, (updM m x1 y12.2).length, .map (some rm), kvs kvI vvB (updM m x1 y12.2)⟩ :: Lq) := hO
   refine WL_nil ?_
   have hO : Owns Gc w15 B (⟨77, 2, (updM m x1 y12.2).length, .map (some rm), kvs kvI vvB (updM m x1 y12.2)⟩ :: Lq) := hO
   have H := Option.some.inj H; subst H
   exact ⟨_, Gc, upds_self _ _ ⟨rfl, trivial⟩, Gle.refl _, hS, hO⟩
  ·have H := ifF hb11 H; refine WC_skip ?_
   have hO : Owns Gc wc B (⟨77, 2, m.length, .map (some rm), kvs kvI vvB m⟩ :: Lq) := hO
   have H := Option.some.inj H; subst H
   exact ⟨_, Gc, upds_self _ _ ⟨rfl, trivial⟩, Gle.refl _, hS, hO⟩
 ·rintro F w16 ⟨Fb, G17, rfl, leG17, hS, hO⟩
  refine WC_seq ?_; refine WC_region ?_; refine WL_val (rn_move (v := (.bool q10.1)) rfl) rfl ?_; refine WL_val (rn_assign (v := (.bool q10.1)) rfl) rfl ?_; refine WL_nil ?_; refine WC_ret ?_
  have H : some q10 = some r := H
  have H := Option.some.inj H; subst H
  exact ⟨[.bool q10.1], ⟨rfl, trivial⟩, G17, _, leG17, hS, hO, rfl, rfl⟩
set_option maxHeartbeats 1000000 in
theorem f54_ok {G0 : Gm} {w0 : World} (hS0 : Sat G0 w0) {x0 : TLandBook} {bq0 : Nat} {rm4 : Nat} {a1 : Option Addr} {n1 c1 : Nat} {a2 : Option Addr} {n2 c2 : Nat} {a3 : Option Addr} {n3 c3 : Nat} (hcq0 : Cells G0 bq0 0 [.slice a1 n1 c1, .slice a2 n2 c2, .slice a3 n3 c3, .map (some rm4)]) (h1 : RSl RTLandPerson 2 G0 a1 n1 c1 x0.People) (h2 : RSl RTLandEvent 2 G0 a2 n2 c2 x0.Events) (h3 : RSl RTLandMemory 4 G0 a3 n3 c3 x0.Memories) {r : Int} (H : f54 x0 = some r) :
  Calls Tryd.prog 54 #[.pointer (some ⟨bq0, 0, none⟩)] w0 (RetV w0 (.int .i64 r)) := by
 have hS := Since.start hS0
 have hO : Owns G0 w0 w0.heap.size [] := Owns.nil (Nat.le_refl _)
 unfold f54 at H
 refine enter1 (N := 11) (shutV _ _) Tryd.func54 rfl rfl rfl rfl ?_; refine WC_seq ?_; refine WC_region ?_; refine WL_val (rn_assign (v := (.int .i64 0)) rfl) rfl ?_; refine WL_nil ?_; refine WC_seq ?_; refine WC_region ?_; refine WL_val (rn_move (v := (.pointer (some ⟨bq0, 0, none⟩))) rfl) rfl ?_
 refine WL_val (v := (.pointer (some ⟨bq0, 0, none⟩))) (by kernel_rfl) rfl ?_
 refine WL_val (rn_fld fd107_0 rfl) rfl ?_; refine WL_val (rn_fld fd26_2 rfl) rfl ?_; refine WL_val (rn_load na24 rfl (hS.sat.cell (hcq0 2 _ rfl))) rfl ?_; refine WL_val (rn_len sl24 rfl rfl h3.1) rfl ?_; obtain ⟨y5, hy5, H⟩ := bnd H; refine WL_val (rn_shl rfl rfl hy5) rfl ?_; refine WL_val (rn_sub rfl rfl) rfl ?_; refine WL_val (rn_assign (v := (.int .i64 (IntKind.i64.wrap (y5 - 1)))) rfl) rfl ?_; refine WL_nil ?_; refine WC_ret ?_
 have H : some (IntKind.i64.wrap (y5 - 1)) = some r := H
 have H := Option.some.inj H; subst H
 exact ⟨rfl, hS.below⟩
set_option maxHeartbeats 1000000 in
theorem f57_ok {B : Nat} {G0 : Gm} {w0 : World} {Gc : Gm} {wc : World} {Lq : List Row} {x0 : TLandBook} {bx bb rm : Nat} {a1 : Option Addr} {n1 c1 : Nat} {a2 : Option Addr} {n2 c2 : Nat} {a3 : Option Addr} {n3 c3 : Nat} {m : List (Int × Bool)} {x1 : Int} (hS : Since B G0 w0 Gc wc) (hO : Owns Gc wc B (⟨77, 2, m.length, .map (some rm), kvs kvI vvB m⟩ :: Lq))
  (hcx : Cells Gc bx 0 [.pointer (some ⟨bb, 0, none⟩)]) (hcb : Cells Gc bb 0 [.slice a1 n1 c1, .slice a2 n2 c2, .slice a3 n3 c3, .map (some rm)]) (h1 : RSl RTLandPerson 2 Gc a1 n1 c1 x0.People) (h2 : RSl RTLandEvent 2 Gc a2 n2 c2 x0.Events) (h3 : RSl RTLandMemory 4 Gc a3 n3 c3 x0.Memories) {r : Bool × List (Int × Bool)} (H : f53 x0 m x1 = some r) :
  Calls Tryd.prog 57 [.int .i64 x1, .pointer (some ⟨bx, 0, none⟩)].toArray wc (RetO B G0 w0 Gc wc (fun G L' v => v = .bool (!r.1) ∧ L' = ⟨77, 2, r.2.length, .map (some rm), kvs kvI vvB r.2⟩ :: Lq)) := by
 refine enterL (N := 8) (rs := [.tmp 3]) hO.base Tryd.func57 rfl rfl rfl rfl ?_; refine WC_seq ?_; refine WC_region ?_; refine WL_val (rn_assign (v := .bool false) rfl) rfl ?_; refine WL_nil ?_; refine WC_seq ?_; refine WC_region ?_; refine WL_val (rn_load na74 rfl (hS.sat.cell (hcx 0 _ rfl))) rfl ?_; refine WL_val (rn_move (v := .int .i64 x1) rfl) rfl ?_; refine WL_op rfl (OpP_enter (rn_call cb53 rfl) rfl (f53_ok hS hO hcb h1 h2 h3 H) ?_)
 rintro e w1 ⟨v, rfl, hk, G', L', le, hS, hO, rfl, rfl⟩
 refine ⟨_, rfl, hk.weak, ?_⟩; refine WL_val (rn_not rfl) rfl ?_; refine WL_val (rn_assign (v := .bool (!r.1)) rfl) rfl ?_; refine WL_nil ?_; refine WC_ret ?_
 exact ⟨[.bool (!r.1)], ⟨rfl, trivial⟩, G', _, le, hS, hO, rfl, rfl⟩
theorem f55_ok {B : Nat} {G0 : Gm} {w0 : World} {Gc : Gm} {wc : World} {Lq : List Row} {rm : Nat} {m : List (Int × Bool)} (hS : Since B G0 w0 Gc wc) (hO : Owns Gc wc B (⟨77, 2, m.length, .map (some rm), kvs kvI vvB m⟩ :: Lq))
  {ki kf : Nat} {fi ca cc : List Value} {xs : List Int} (hki : callB Tryd.prog ki = true) (it : IterOk Tryd.prog ki fi ca Gc encS xs) (hkf : callB Tryd.prog kf = true) (pred : List (Int × Bool) → Int → Option (Bool × List (Int × Bool)))
  (hpred : ∀ (G : Gm) (L : List Row) (m : List (Int × Bool)) (w : World) (x : Int) (r : Bool × List (Int × Bool)), Gle Gc G → Since B G0 w0 G w → Owns G w B (⟨77, 2, m.length, .map (some rm), kvs kvI vvB m⟩ :: L) → pred m x = some r →
   Calls Tryd.prog kf (([] : List Value) ++ [Value.int .i64 x] ++ cc).toArray w (RetO B G0 w0 G w (fun G' L' v => v = .bool r.1 ∧ L' = ⟨77, 2, r.2.length, .map (some rm), kvs kvI vvB r.2⟩ :: L)))
  {r : Int × Bool × List (Int × Bool)} (H : bestF pred xs m = some r) :
  Calls Tryd.prog 55 [.func (.func ki) fi.toArray ca.toArray, .func (.func kf) ([] : List Value).toArray cc.toArray].toArray wc (RetO B G0 w0 Gc wc (fun G L' v => v = .tuple #[.int .i64 r.1, .bool r.2.1] ∧ L' = ⟨77, 2, r.2.2.length, .map (some rm), kvs kvI vvB r.2.2⟩ :: Lq)) := by
 unfold bestF at H
 obtain ⟨q, hq, H⟩ := bnd H; refine enterL (N := 15) (rs := [.cell 4 77, .cell 5 4]) hO.base Tryd.func55 rfl rfl rfl rfl ?_; refine WC_seq ?_; refine WC_region ?_; refine WL_op rfl (OpP_newF (v := fun b => .pointer (some ⟨b, 0, none⟩)) (cs := [.func (.func kf) ([] : List Value).toArray cc.toArray]) (e := 76) (rn_box1 rfl rfl) hS.sat rfl (fun b3 G3 w3 hg hcb3 => ?_)); have hS := hS.grow hg; have hO := hO.grow hg
 have le3 := hg.le
 refine WL_op rfl (OpP_newO (v := fun b => .pointer (some ⟨b, 0, none⟩)) (cs := [.int .i64 0]) (e := 77) (by kernel_rfl) hS.sat hO rfl 1 1 rfl (by decide) (fun b4 w4 hb hO => ?_))
 have hS := hS.keep hb
 refine WL_op rfl (OpP_newO (v := fun b => .pointer (some ⟨b, 0, none⟩)) (cs := [.bool false]) (e := 4) (by kernel_rfl) hS.sat hO rfl 1 1 rfl (by decide) (fun b5 w5 hb hO => ?_))
 have hS := hS.keep hb; refine WL_nil ?_; obtain ⟨rows, hrows⟩ : ∃ rows : Bool → Int → List (Int × Bool) → List Row, rows = fun o x m => [⟨4, 1, 1, .slice (some ⟨b5, 0, none⟩) 1 1, [.bool o]⟩, ⟨77, 1, 1, .slice (some ⟨b4, 0, none⟩) 1 1, [.int .i64 x]⟩, ⟨77, 2, m.length, .map (some rm), kvs kvI vvB m⟩] := ⟨_, rfl⟩
 have hO : Owns G3 w5 B (rows false 0 m ++ Lq) := by rw [hrows]; exact hO
 refine WC_seq ?_; refine WC_cut (fun F w => ∃ (Fb : Fr) (G : Gm) (m' : List (Int × Bool)), q = .inl m' ∧ F = upds Fb [(4, .pointer (some ⟨b4, 0, none⟩)), (5, .pointer (some ⟨b5, 0, none⟩))] ∧ Gle G3 G ∧ Since B G0 w0 G w ∧ Owns G w B (rows false 0 m' ++ Lq)) ?_ ?_
 ·refine WC_seq ?_; refine WC_region ?_; refine WL_val (rn_move (v := .func (.func ki) fi.toArray ca.toArray) rfl) rfl ?_; refine WL_nil ?_; refine WC_block ?_; refine WC_range (xs := xs) (enc := encS) (bd := bestB pred) (fi := fi) (ca := ca) hki (it.mono le3) rfl (fun _ => rfl) rfl hq (fun m' G L => L = rows false 0 m' ++ Lq) (fun p c G L => c = .ret ∧ L = rows true p.1 p.2 ++ Lq) (fun _ _ _ _ _ h => h) hS hO rfl [] ?_ ?_ ?_
  ·rintro l y s t G' w' L' Lx hle hS hO rfl H1 hres
   unfold bestB at H1
   obtain ⟨u, hu, H1⟩ := bnd H1; refine WC_region ?_; refine WL_val (rn_assign (v := .int .i64 y) rfl) rfl ?_; refine WL_nil ?_
   intro w2 hfix
   have hS := hS.fix hfix; have hO := hO.fix hfix
   rw [hrows] at hO
   have hO := hO.front (k := 2) rfl
   have hO : Owns G' w2 B (⟨77, 2, s.length, .map (some rm), kvs kvI vvB s⟩ :: ⟨4, 1, 1, .slice (some ⟨b5, 0, none⟩) 1 1, [.bool false]⟩ :: ⟨77, 1, 1, .slice (some ⟨b4, 0, none⟩) 1 1, [.int .i64 0]⟩ :: (Lq ++ Lx)) := hO
   refine WC_block ?_; refine WC_seq ?_; refine WC_region ?_; refine WL_val (rn_load na76 rfl ((hS.sat.le hle).cell (hcb3 0 _ rfl))) rfl ?_; refine WL_val (rn_move (v := .int .i64 y) rfl) rfl ?_; refine WL_op rfl (OpP_enter (rn_callV (fi := []) (al := [.int .i64 y]) (ca := cc) hkf rfl rfl) rfl (hpred G' _ s w2 y u (le3.trans hle) hS hO hu) ?_)
   rintro e w3 ⟨v, rfl, hk, G4, L4, le4, hS, hO, rfl, rfl⟩
   refine ⟨_, rfl, hk.weak, ?_⟩; have hO := hO.front (k := 2) rfl; have hO := hO.front (k := 2) rfl
   have hO : Owns G4 w3 B (⟨4, 1, 1, .slice (some ⟨b5, 0, none⟩) 1 1, [.bool false]⟩ :: ⟨77, 1, 1, .slice (some ⟨b4, 0, none⟩) 1 1, [.int .i64 0]⟩ :: ⟨77, 2, u.2.length, .map (some rm), kvs kvI vvB u.2⟩ :: (Lq ++ Lx)) := hO
   refine WL_nil ?_; refine WC_cond rfl (fun hb => ?_) (fun hb => ?_)
   ·rw [if_pos hb] at H1
    have H1 := Option.some.inj H1
    subst H1; refine WC_seq ?_; refine WC_region ?_; refine WL_val (rn_move (v := .int .i64 y) rfl) rfl ?_; refine WL_op rfl (OpP_store (vs := [.int .i64 y]) sz77 hS hO (k := 1) rfl rfl rfl rfl rfl (one_all rfl) (Nat.le_of_ble_eq_true rfl) (fun w6 hS hO => ?_)); refine WL_op rfl (OpP_store (vs := [.bool true]) sz4 hS hO (k := 0) rfl rfl rfl rfl rfl (one_all rfl) (Nat.le_of_ble_eq_true rfl) (fun w7 hS hO => ?_)); refine WL_nil ?_; refine WC_ret ?_; refine ⟨(y, u.2), rfl, G4, rows true y u.2 ++ Lq, le4, hS, ?_, rfl, rfl⟩
    rw [hrows]
    exact hO
   ·rw [if_neg (by rw [hb]; decide)] at H1
    have H1 := Option.some.inj H1
    subst H1; refine WC_skip ?_; refine ⟨u.2, rfl, G4, rows false 0 u.2 ++ Lq, le4, hS, ?_, rfl⟩
    rw [hrows]
    exact hO
  ·rintro m' G' w' L' hr hle hS hO rfl
   exact ⟨_, G', m', hr, upds_self _ _ ⟨rfl, rfl, trivial⟩, hle, hS, hO⟩
  ·rintro p c G' w' L' hr hc hle hS hO ⟨rfl, rfl⟩
   refine WC_ret ?_; have H := Option.some.inj H
   rw [hr] at H
   subst H
   rw [hrows] at hO
   have hO : Owns G' w' B (⟨4, 1, 1, .slice (some ⟨b5, 0, none⟩) 1 1, [.bool true]⟩ :: ⟨77, 1, 1, .slice (some ⟨b4, 0, none⟩) 1 1, [.int .i64 p.1]⟩ :: ⟨77, 2, p.2.length, .map (some rm), kvs kvI vvB p.2⟩ :: Lq) := hO
   have hO2 := hO.drop 0
   have hO2 := hO2.drop 0
   exact ⟨[.int .i64 p.1, .bool true], ⟨⟨_, rfl, ld_one na77 (own_cell hO (k := 1) rfl (j := 0) rfl)⟩, ⟨_, rfl, ld_one na4 (own_cell hO (k := 0) rfl (j := 0) rfl)⟩, trivial⟩, G', _, le3.trans hle, hS, hO2, rfl, rfl⟩
 ·rintro F w6 ⟨Fb, G', m', rfl, rfl, hle, hS, hO⟩
  have H := Option.some.inj H; subst H
  rw [hrows] at hO
  have hO : Owns G' w6 B (⟨4, 1, 1, .slice (some ⟨b5, 0, none⟩) 1 1, [.bool false]⟩ :: ⟨77, 1, 1, .slice (some ⟨b4, 0, none⟩) 1 1, [.int .i64 0]⟩ :: ⟨77, 2, m'.length, .map (some rm), kvs kvI vvB m'⟩ :: Lq) := hO
  refine WC_seq ?_; refine WC_region ?_; refine WL_val (rn_assign (v := .int .i64 0) rfl) rfl ?_; refine WL_nil ?_; refine WC_seq ?_; refine WC_region ?_; refine WL_val (rn_move (v := .int .i64 0) rfl) rfl ?_; refine WL_op rfl (OpP_store (vs := [.int .i64 0]) sz77 hS hO (k := 1) rfl rfl rfl rfl rfl (one_all rfl) (Nat.le_of_ble_eq_true rfl) (fun w7 hS hO => ?_)); refine WL_op rfl (OpP_store (vs := [.bool false]) sz4 hS hO (k := 0) rfl rfl rfl rfl rfl (one_all rfl) (Nat.le_of_ble_eq_true rfl) (fun w8 hS hO => ?_)); refine WL_nil ?_; refine WC_ret ?_
  have hO : Owns G' w8 B (⟨4, 1, 1, .slice (some ⟨b5, 0, none⟩) 1 1, [.bool false]⟩ :: ⟨77, 1, 1, .slice (some ⟨b4, 0, none⟩) 1 1, [.int .i64 0]⟩ :: ⟨77, 2, m'.length, .map (some rm), kvs kvI vvB m'⟩ :: Lq) := hO
  have hO2 := hO.drop 0
  have hO2 := hO2.drop 0
  exact ⟨[.int .i64 0, .bool false], ⟨⟨_, rfl, ld_one na77 (own_cell hO (k := 1) rfl (j := 0) rfl)⟩, ⟨_, rfl, ld_one na4 (own_cell hO (k := 0) rfl (j := 0) rfl)⟩, trivial⟩, G', _, le3.trans hle, hS, hO2, rfl, rfl⟩
theorem pred57_ok {B : Nat} {G0 : Gm} {w0 : World} {Gc : Gm} {x0 : TLandBook} {bx bb rm : Nat} {a1 : Option Addr} {n1 c1 : Nat} {a2 : Option Addr} {n2 c2 : Nat} {a3 : Option Addr} {n3 c3 : Nat}
  (hcx : Cells Gc bx 0 [.pointer (some ⟨bb, 0, none⟩)]) (hcb : Cells Gc bb 0 [.slice a1 n1 c1, .slice a2 n2 c2, .slice a3 n3 c3, .map (some rm)]) (h1 : RSl RTLandPerson 2 Gc a1 n1 c1 x0.People) (h2 : RSl RTLandEvent 2 Gc a2 n2 c2 x0.Events) (h3 : RSl RTLandMemory 4 Gc a3 n3 c3 x0.Memories)
  (G : Gm) (L : List Row) (m : List (Int × Bool)) (w : World) (x : Int) (r : Bool × List (Int × Bool)) (hle : Gle Gc G) (hS : Since B G0 w0 G w) (hO : Owns G w B (⟨77, 2, m.length, .map (some rm), kvs kvI vvB m⟩ :: L)) (H : predN x0 m x = some r) :
  Calls Tryd.prog 57 (([] : List Value) ++ [Value.int .i64 x] ++ [Value.pointer (some ⟨bx, 0, none⟩)]).toArray w (RetO B G0 w0 G w (fun G' L' v => v = .bool r.1 ∧ L' = ⟨77, 2, r.2.length, .map (some rm), kvs kvI vvB r.2⟩ :: L)) := by
 unfold predN at H
 obtain ⟨u, hu, H⟩ := bnd H; have H := Option.some.inj H; subst H
 exact f57_ok hS hO (hcx.mono hle) (hcb.mono hle) (h1.mono RTLandPerson_mono hle) (h2.mono RTLandEvent_mono hle) (h3.mono RTLandMemory_mono hle) hu
set_option maxHeartbeats 1000000 in
theorem f58_ok {G0 : Gm} {w0 : World} (hS0 : Sat G0 w0) {x0 : Int} {x1 : Int}  {r : (List Int)} (H : f58 x0 x1 = some r) :
  Calls Tryd.prog 58 #[.int .i64 x0, .int .i64 x1] w0 (RetG G0 w0 (fun G v => ∃ (ra0 : Option Addr) (rn0 rc0 : Nat), v = .slice ra0 rn0 rc0 ∧ RSl RInt 1 G ra0 rn0 rc0 r)) := by
 have hS := Since.start hS0
 have hO : Owns G0 w0 w0.heap.size [] := Owns.nil (Nat.le_refl _)
 unfold f58 at H
 refine enter1 (N := 20) (shutG _ _ _) Tryd.func58 rfl rfl rfl rfl ?_; refine WC_seq ?_; refine WC_region ?_; refine WL_val (rn_assign (v := (.slice none 0 0)) rfl) rfl ?_; refine WL_nil ?_; refine WC_seq ?_; refine WC_region ?_; refine WL_val (rn_assign (v := (.slice none 0 0)) rfl) rfl ?_; refine WL_nil ?_; refine WC_seq ?_; refine WC_seq ?_; refine WC_region ?_; refine WL_val (rn_move (v := (.int .i64 x1)) rfl) rfl ?_; refine WL_val (rn_move (v := (.int .i64 0)) rfl) rfl ?_; refine WL_nil ?_; have hO := hO.cons_nil 3 1; obtain ⟨q4, hq4, H⟩ := bnd H; refine WC_cut (fun F w => ∃ (Fb : Fr) (G : Gm) (aq4_0 : Option Addr) (nq4_0 cq4_0 : Nat) (claq4_0 : List Value), F = upds Fb [(5, .slice aq4_0 nq4_0 cq4_0)] ∧ Gle G0 G ∧ Since w0.heap.size G0 w0 G w ∧ Owns G w w0.heap.size [⟨3, 1, nq4_0, .slice aq4_0 nq4_0 cq4_0, claq4_0⟩] ∧ nq4_0 = q4.length ∧ Rd RInt 1 G claq4_0 q4) ?_ ?_
 ·refine WC_block (WC_loop hq4 (fun s2 F w => ∃ (Fb : Fr) (G : Gm) (as2_0 : Option Addr) (ns2_0 cs2_0 : Nat) (clas2_0 : List Value), F = upds Fb [(0, .int .i64 x0), (5, .slice as2_0 ns2_0 cs2_0), (7, .int .i64 x1), (8, .int .i64 s2.2)] ∧ Gle G0 G ∧ Since w0.heap.size G0 w0 G w ∧ Owns G w w0.heap.size [⟨3, 1, ns2_0, .slice as2_0 ns2_0 cs2_0, clas2_0⟩] ∧ ns2_0 = s2.1.length ∧ Rd RInt 1 G clas2_0 s2.1) ?_ ?_)
  ·have hO : Owns G0 w0 w0.heap.size ([⟨3, 1, 0, .slice none 0 0, []⟩]) := hO
   exact ⟨_, G0, none, 0, 0, [], upds_self _ _ ⟨rfl, rfl, rfl, rfl, trivial⟩, Gle.refl _, hS, hO, rfl, (Rd.nil RInt 1 G0)⟩
  ·rintro s2 F w6 t5 ⟨Fb, G7, as2_0, ns2_0, cs2_0, clas2_0, rfl, leG7, hS, hO, hnhs2_0, hs2_0⟩
   intro H1 hqq4
   have Hoq4 := H; have H := H1
   unfold f58_b0 at H
   refine WC_seq ?_; refine WC_region ?_; refine WL_val (rn_lss rfl rfl) rfl ?_; refine WL_nil ?_; refine WC_seq ?_; refine WC_cond rfl (fun hb8 => ?_) (fun hb8 => ?_)
   ·have H := ifT hb8 H; refine WC_skip ?_; refine WC_seq ?_; obtain ⟨q9, hq9, H⟩ := bnd H; refine WC_cut (fun F w => ∃ (Fb : Fr) (G : Gm) (aq9_0 : Option Addr) (nq9_0 cq9_0 : Nat) (claq9_0 : List Value), F = upds Fb [(0, .int .i64 x0), (5, .slice aq9_0 nq9_0 cq9_0), (7, .int .i64 x1), (8, .int .i64 s2.2)] ∧ Gle G7 G ∧ Since w0.heap.size G0 w0 G w ∧ Owns G w w0.heap.size [⟨3, 1, nq9_0, .slice aq9_0 nq9_0 cq9_0, claq9_0⟩] ∧ nq9_0 = q9.length ∧ Rd RInt 1 G claq9_0 q9) ?_ ?_
    ·have Hoq9 := H; have H := hq9; refine WC_block ?_; refine WC_seq ?_; refine WC_region ?_; refine WL_val (rn_move (v := (.int .i64 s2.2)) rfl) rfl ?_; refine WL_val (rn_assign (v := (.int .i64 s2.2)) rfl) rfl ?_; refine WL_nil ?_; refine WC_seq ?_; refine WC_region ?_; refine WL_val (rn_move (v := (.int .i64 x0)) rfl) rfl ?_; refine WL_val (rn_move (v := (.int .i64 s2.2)) rfl) rfl ?_; obtain ⟨y10, hy10, H⟩ := bnd H; refine WL_op rfl (OpP_callV cb81 (f81_ok (x0 := x0) (x1 := s2.2) hS.sat  hy10) rfl rfl (fun w11 hb => ?_)); have hS := hS.keep hb; have hO := hO.below hb; refine WL_nil ?_; refine WC_cond rfl (fun hb12 => ?_) (fun hb12 => ?_)
     ·have H := ifT hb12 H; refine WC_region ?_; refine WL_val (rn_move (v := (.slice as2_0 ns2_0 cs2_0)) rfl) rfl ?_; refine WL_val (rn_move (v := (.int .i64 s2.2)) rfl) rfl ?_
      refine WL_op rfl (OpP_newF (v := fun b => .slice (some ⟨b, 0, none⟩) 1 1) (cs := [.int .i64 s2.2]) (e := 3) (by kernel_rfl) hS.sat rfl (fun b13 G15 w14 hg hcb13 => ?_))
      have hS := hS.grow hg; have hO := hO.grow hg
      have leG15 := hg.le
      have hfb13 : RSl RInt 1 G15 (some ⟨b13, 0, none⟩) 1 1 [s2.2] := RSl.of_rd hcb13 (Rd.cons (c := [.int .i64 s2.2]) rfl rfl (Rd.nil RInt 1 _)) rfl (by decide)
      obtain ⟨y16, hy16, H⟩ := bnd H; refine WL_op rfl (OpP_append (k := 0) sl29 RInt_one hS hO rfl hnhs2_0 (hs2_0.mono RInt_mono leG15) hfb13 hy16 rfl rfl rfl rfl rfl (fun aw17 cw17 w17 clw17 hS hO hrw17 => ?_))
      have hO : Owns G15 w17 w0.heap.size ([⟨3, 1, y16.length, .slice aw17 y16.length cw17, clw17⟩]) := hO
      refine WL_val (rn_assign (v := (.slice aw17 y16.length cw17)) rfl) rfl ?_; refine WL_nil ?_
      have hO : Owns G15 w17 w0.heap.size ([⟨3, 1, y16.length, .slice aw17 y16.length cw17, clw17⟩]) := hO
      have H := Option.some.inj H; subst H
      exact ⟨_, G15, aw17, y16.length, cw17, clw17, upds_self _ _ ⟨rfl, rfl, rfl, rfl, trivial⟩, leG15, hS, hO, rfl, hrw17⟩
     ·have H := ifF hb12 H; refine WC_skip ?_
      have hO : Owns G7 w11 w0.heap.size ([⟨3, 1, ns2_0, .slice as2_0 ns2_0 cs2_0, clas2_0⟩]) := hO
      have H := Option.some.inj H; subst H
      exact ⟨_, G7, as2_0, ns2_0, cs2_0, clas2_0, upds_self _ _ ⟨rfl, rfl, rfl, rfl, trivial⟩, Gle.refl _, hS, hO, hnhs2_0, hs2_0⟩
    ·rintro F w18 ⟨Fb, G19, aq9_0, nq9_0, cq9_0, claq9_0, rfl, leG19, hS, hO, hnhq9_0, hq9_0⟩
     refine WC_region ?_; refine WL_val (rn_add rfl rfl) rfl ?_; refine WL_val (rn_move (v := (.int .i64 (IntKind.i64.wrap (s2.2 + 1)))) rfl) rfl ?_; refine WL_nil ?_
     have hO : Owns G19 w18 w0.heap.size ([⟨3, 1, nq9_0, .slice aq9_0 nq9_0 cq9_0, claq9_0⟩]) := hO
     have H := Option.some.inj H; subst H; refine ⟨_, rfl, ?_⟩
     have l0_2 := leG7.trans leG19
     exact ⟨_, G19, aq9_0, nq9_0, cq9_0, claq9_0, upds_self _ _ ⟨rfl, rfl, rfl, rfl, trivial⟩, l0_2, hS, hO, hnhq9_0, hq9_0⟩
   ·have H := ifF hb8 H; refine WC_exit rfl ?_
    have hO : Owns G7 w6 w0.heap.size ([⟨3, 1, ns2_0, .slice as2_0 ns2_0 cs2_0, clas2_0⟩]) := hO
    have H := Option.some.inj H; subst H
    have hres := hqq4 _ rfl
    subst hres
    exact ⟨_, G7, as2_0, ns2_0, cs2_0, clas2_0, upds_self _ _ ⟨rfl, trivial⟩, leG7, hS, hO, hnhs2_0, hs2_0⟩
 ·rintro F w20 ⟨Fb, G21, aq4_0, nq4_0, cq4_0, claq4_0, rfl, leG21, hS, hO, hnhq4_0, hq4_0⟩
  refine WC_seq ?_; refine WC_region ?_; refine WL_val (rn_move (v := (.slice aq4_0 nq4_0 cq4_0)) rfl) rfl ?_; refine WL_val (rn_assign (v := (.slice aq4_0 nq4_0 cq4_0)) rfl) rfl ?_; refine WL_nil ?_; refine WC_ret ?_; obtain ⟨G22, leG22, hS, hO, hfG22⟩ := hO.freezeS hS RInt_mono (k := 0) rfl hq4_0 hnhq4_0
  have H : some q4 = some r := H
  have H := Option.some.inj H; subst H
  exact ⟨_, _, rfl, hS.toGrow, _, _, _, rfl, hfG22⟩
set_option maxHeartbeats 1000000 in
theorem f16_ok {G0 : Gm} {w0 : World} (hS0 : Sat G0 w0) {x0 : TLandBook} {a1 : Option Addr} {n1 c1 : Nat} {a2 : Option Addr} {n2 c2 : Nat} {a3 : Option Addr} {n3 c3 : Nat} (h1 : RSl RTLandPerson 2 G0 a1 n1 c1 x0.People) (h2 : RSl RTLandEvent 2 G0 a2 n2 c2 x0.Events) (h3 : RSl RTLandMemory 4 G0 a3 n3 c3 x0.Memories) {r : (List Int) × Int} (H : f16 x0 = some r) :
  Calls Tryd.prog 16 #[.agg #[.slice a1 n1 c1, .slice a2 n2 c2, .slice a3 n3 c3]] w0 (RetG G0 w0 (fun G v => ∃ (ra0 : Option Addr) (rn0 rc0 : Nat), v = .tuple #[.slice ra0 rn0 rc0, .int .i64 r.2] ∧ RSl RInt 1 G ra0 rn0 rc0 r.1)) := by
 have hS := Since.start hS0
 have hO : Owns G0 w0 w0.heap.size [] := Owns.nil (Nat.le_refl _)
 unfold f16 at H
 refine enter2 (N := 28) (shutG _ _ _) Tryd.func16 rfl rfl rfl rfl ?_; refine WC_seq ?_; refine WC_region ?_; refine WL_op rfl (OpP_newF (v := fun b => .pointer (some ⟨b, 0, none⟩)) (cs := [.slice a1 n1 c1, .slice a2 n2 c2, .slice a3 n3 c3]) (e := 26) (rn_boxA rfl) hS.sat rfl (fun b4 G6 w5 hg hcb4 => ?_)); have hS := hS.grow hg; have hO := hO.grow hg
 have leG6 := hg.le
 refine WL_val (rn_assign (v := (.slice none 0 0)) rfl) rfl ?_; refine WL_val (rn_assign (v := (.int .i64 0)) rfl) rfl ?_; refine WL_nil ?_; refine WC_seq ?_; refine WC_seq ?_; refine WC_region ?_; refine WL_val (rn_loadA ag26 (cs := [.slice a1 n1 c1, .slice a2 n2 c2, .slice a3 n3 c3]) rfl rfl (fun j v hj => hS.sat.cell (hcb4.drop_take 0 3 j v hj))) rfl ?_; obtain ⟨y7, hy7, H⟩ := bnd H; refine WL_op rfl (OpP_callV cb51 (f51_ok (x0 := x0) hS.sat (h1.mono RTLandPerson_mono leG6) (h2.mono RTLandEvent_mono leG6) (h3.mono RTLandMemory_mono leG6) hy7) rfl rfl (fun w8 hb => ?_)); have hS := hS.keep hb; have hO := hO.below hb; refine WL_val (rn_not rfl) rfl ?_; refine WL_nil ?_; refine WC_cond rfl (fun hb9 => ?_) (fun hb9 => ?_)
 ·have H := ifT hb9 H; refine WC_seq ?_; refine WC_region ?_; refine WL_val (rn_assign (v := (.slice none 0 0)) rfl) rfl ?_; refine WL_val (rn_assign (v := (.int .i64 2)) rfl) rfl ?_; refine WL_nil ?_; refine WC_ret ?_
  have H : some ([], 2) = some r := H
  have H := Option.some.inj H; subst H
  exact ⟨_, _, rfl, hS.toGrow, _, _, _, rfl, (RSl.nil RInt 1 G6 none)⟩
 ·have H := ifF hb9 H; refine WC_skip ?_; refine WC_seq ?_; refine WC_region ?_; refine WL_val (rn_loadA ag26 (cs := [.slice a1 n1 c1, .slice a2 n2 c2, .slice a3 n3 c3]) rfl rfl (fun j v hj => hS.sat.cell (hcb4.drop_take 0 3 j v hj))) rfl ?_; refine WL_op rfl (OpP_in1 (N' := 7) [.agg #[.slice a1 n1 c1, .slice a2 n2 c2, .slice a3 n3 c3]] cb52 Tryd.func52 rfl rfl rfl rfl rfl rfl ?_); refine WC_seq ?_; refine WC_region ?_; refine WL_op rfl (OpP_newF (v := fun b => .pointer (some ⟨b, 0, none⟩)) (cs := [.slice a1 n1 c1, .slice a2 n2 c2, .slice a3 n3 c3]) (e := 26) (rn_boxA rfl) hS.sat rfl (fun b10 G12 w11 hg hcb10 => ?_)); have hS := hS.grow hg; have hO := hO.grow hg
  have leG12 := hg.le
  refine WL_val (rn_assign (v := (.pointer none)) rfl) rfl ?_; refine WL_nil ?_; refine WC_seq ?_; refine WC_region ?_; refine WL_val (rn_loadA ag26 (cs := [.slice a1 n1 c1, .slice a2 n2 c2, .slice a3 n3 c3]) rfl rfl (fun j v hj => hS.sat.cell (hcb10.drop_take 0 3 j v hj))) rfl ?_; refine WL_op rfl (OpP_makeMap (e := 77) hS hO rfl (fun r13 w14 hS hO => ?_))
  have hO : Owns G12 w14 w0.heap.size ([⟨77, 2, ([] : (List (Int × Bool))).length, .map (some r13), kvs kvI vvB ([] : (List (Int × Bool)))⟩]) := hO
  refine WL_val (v := (.agg #[.slice a1 n1 c1, .slice a2 n2 c2, .slice a3 n3 c3, .map (some r13)])) (by kernel_rfl) rfl ?_
  refine WL_op rfl (OpP_newF (v := fun b => .pointer (some ⟨b, 0, none⟩)) (cs := [.slice a1 n1 c1, .slice a2 n2 c2, .slice a3 n3 c3, .map (some r13)]) (e := 107) (rn_boxA rfl) hS.sat rfl (fun b16 G18 w17 hg hcb16 => ?_)); have hS := hS.grow hg; have hO := hO.grow hg
  have leG18 := hg.le
  refine WL_val (rn_assign (v := (.pointer (some ⟨b16, 0, none⟩))) rfl) rfl ?_; refine WL_nil ?_; refine WC_ret ?_; refine ⟨(.pointer (some ⟨b16, 0, none⟩)), rfl, ?_⟩
  have hO : Owns G18 w17 w0.heap.size ([⟨77, 2, ([] : (List (Int × Bool))).length, .map (some r13), kvs kvI vvB ([] : (List (Int × Bool)))⟩]) := hO
  refine WL_op rfl (OpP_newO (v := fun b => .pointer (some ⟨b, 0, none⟩)) (cs := [.pointer none]) (e := 74) (by kernel_rfl) hS.sat hO rfl 1 1 rfl (by decide) (fun b19 w20 hb hO => ?_))
  have hS := hS.keep hb; refine WL_op rfl (OpP_store (vs := [.pointer (some ⟨b16, 0, none⟩)]) sz74 hS hO (k := 0) rfl rfl rfl rfl rfl (one_all rfl) (Nat.le_of_ble_eq_true rfl) (fun w22 hS hO => ?_))
  have hO : Owns G18 w22 w0.heap.size ([⟨74, 1, 1, .slice (some ⟨b19, 0, none⟩) 1 1, [.pointer (some ⟨b16, 0, none⟩)]⟩, ⟨77, 2, ([] : (List (Int × Bool))).length, .map (some r13), kvs kvI vvB ([] : (List (Int × Bool)))⟩]) := hO
  obtain ⟨G23, leG23, hS, hO, hqG23, _⟩ := hO.freeze hS (k := 0) rfl
  have hcG23 : Cells G23 b19 0 [.pointer (some ⟨b16, 0, none⟩)] := (hqG23 _ _ _ _ rfl)
  refine WL_nil ?_; refine WC_seq ?_; refine WC_seq ?_; have hS := hS.keep (below_drew _); have hO := hO.below (below_drew _)
  refine WC_regionD mixedO (fun _ w => Sat G23 w ∧ True) (.fl 0 (.on 1 (.on 2 (.on 3 .nil)))) (by kernel_rfl) rfl (by kernel_rfl) (fun _ => ⟨hS.sat, trivial⟩) ?_
  refine WD_val rfl (fun w hw => rn_load na74 rfl (hw.1.cell (hcG23 0 _ rfl))) rfl ?_; refine WD_op rfl rfl (OpP_val (rn_load na74 rfl (hS.sat.cell (hcG23 0 _ rfl))) rfl ?_); refine ⟨fun _ _ => ⟨hS.sat, trivial⟩, ?_⟩
  have l0_4 := ((leG6.trans leG12).trans leG18).trans leG23
  obtain ⟨y24, hy24, H⟩ := bnd H
  have hx26 := f54_ok (x0 := x0) hS.sat (hcb16.mono leG23) (h1.mono RTLandPerson_mono l0_4) (h2.mono RTLandEvent_mono l0_4) (h3.mono RTLandMemory_mono l0_4) hy24
  refine WD_op rfl rfl (OpP_callV cb54 hx26 rfl rfl (fun w25 hb => ?_)); have hS := hS.keep hb; have hO := hO.below hb; refine ⟨fun _ _ => ⟨hS.sat, trivial⟩, ?_⟩; obtain ⟨y27, hy27, H⟩ := bnd H; refine WD_op rfl rfl (OpP_lent (fi := []) (al := [.pointer (some ⟨b16, 0, none⟩), .int .i64 y24]) (ca := []) cb53 (f53_ok (x0 := x0) (m := ([] : (List (Int × Bool)))) (x1 := y24) hS hO (hcb16.mono leG23) (h1.mono RTLandPerson_mono l0_4) (h2.mono RTLandEvent_mono l0_4) (h3.mono RTLandMemory_mono l0_4) hy27) rfl rfl rfl (fun vG29 G29 w28 L30 leG29 hS hO hvG29 => ?_)); obtain ⟨rfl, rfl⟩ := hvG29
  have hO : Owns G29 w28 w0.heap.size ([⟨77, 2, (y27.2).length, .map (some r13), kvs kvI vvB (y27.2)⟩]) := hO
  refine ⟨fun _ h => noneed (by kernel_rfl) h, ?_⟩
  refine WD_nil ?_; refine WC_cond rfl (fun hb31 => ?_) (fun hb31 => ?_)
  ·have H := ifT hb31 H; refine WC_seq ?_; refine WC_region ?_; refine WL_val (rn_assign (v := (.slice none 0 0)) rfl) rfl ?_; refine WL_val (rn_assign (v := (.int .i64 5)) rfl) rfl ?_; refine WL_nil ?_; refine WC_ret ?_
   have H : some ([], 5) = some r := H
   have H := Option.some.inj H; subst H
   exact ⟨_, _, rfl, hS.toGrow, _, _, _, rfl, (RSl.nil RInt 1 G29 none)⟩
  ·have H := ifF hb31 H; refine WC_skip ?_; refine WC_seq ?_; refine WC_region ?_; refine WL_val (rn_load na74 rfl ((hS.sat.le leG29).cell (hcG23 0 _ rfl))) rfl ?_
   have l3_5 := leG23.trans leG29
   have l0_5 := l0_4.trans leG29
   obtain ⟨_, hm33, H⟩ := bnd H
   have hI32 := f56_it (x0 := x0) (hcb16.mono l3_5) (h3.mono RTLandMemory_mono l0_5) (ckM_some hm33)
   refine WL_val (rn_func (vs := [.pointer (some ⟨b16, 0, none⟩)]) (us := []) rfl rfl) rfl ?_; refine WL_val (v := (.func (.func 57) ([] : List Value).toArray ([.pointer (some ⟨b19, 0, none⟩)] : List Value).toArray)) (rn_func (vs := []) (us := [.pointer (some ⟨b19, 0, none⟩)]) rfl rfl) rfl ?_; obtain ⟨y34, hy34, H⟩ := bnd H
   have hp38 := pred57_ok (B := w0.heap.size) (G0 := G0) (w0 := w0) (x0 := x0) (bx := b19) (bb := b16) (rm := r13) (hcG23.mono leG29) (hcb16.mono l3_5) (h1.mono RTLandPerson_mono l0_5) (h2.mono RTLandEvent_mono l0_5) (h3.mono RTLandMemory_mono l0_5)
   have hx39 := f55_ok (m := (y27.2)) (rm := r13) (ki := 56) (kf := 57) (fi := [.pointer (some ⟨b16, 0, none⟩)]) (ca := []) (cc := [.pointer (some ⟨b19, 0, none⟩)]) (xs := setsAll x0.Memories.length) hS hO cb56 hI32 cb57 (predN x0) hp38 hy34
   refine WL_op rfl (OpP_lent (fi := []) (al := [.func (.func 56) ([.pointer (some ⟨b16, 0, none⟩)]).toArray ([]).toArray, .func (.func 57) ([] : List Value).toArray ([.pointer (some ⟨b19, 0, none⟩)] : List Value).toArray]) (ca := []) (B := w0.heap.size) (G0 := G0) (w0 := w0) (Gc := G29) (Φ := (fun G L v => v = Value.tuple #[Value.int IntKind.i64 y34.1, Value.bool y34.2.1] ∧ L = [⟨77, 2, (y34.2.2).length, .map (some r13), kvs kvI vvB (y34.2.2)⟩])) cb55 (by exact hx39) rfl rfl rfl (fun vG36 G36 w35 L37 leG36 hS hO hvG36 => ?_))
   obtain ⟨rfl, rfl⟩ := hvG36
   have hO : Owns G36 w35 w0.heap.size ([⟨77, 2, (y34.2.2).length, .map (some r13), kvs kvI vvB (y34.2.2)⟩]) := hO
   refine WL_val (rn_move (v := (.tuple #[.int .i64 y34.1, .bool y34.2.1])) rfl) rfl ?_; refine WL_val (rn_extract (v := (.int .i64 y34.1)) rfl rfl) rfl ?_; refine WL_val (rn_extract (v := (.bool y34.2.1)) rfl rfl) rfl ?_; refine WL_val (rn_assign (v := (.int .i64 y34.1)) rfl) rfl ?_; refine WL_val (rn_assign (v := (.bool y34.2.1)) rfl) rfl ?_; refine WL_nil ?_; refine WC_seq ?_; refine WC_region ?_; refine WL_val (rn_move (v := (.int .i64 y34.1)) rfl) rfl ?_; refine WL_val (rn_fld fd26_2 rfl) rfl ?_
   have l1_6 := ((leG12.trans leG18).trans l3_5).trans leG36
   refine WL_val (rn_load na24 rfl ((hS.sat.le l1_6).cell (hcb4 2 _ rfl))) rfl ?_
   have l0_6 := l0_5.trans leG36
   refine WL_val (rn_len sl24 rfl rfl (h3.mono RTLandMemory_mono l0_6).1) rfl ?_; obtain ⟨y40, hy40, H⟩ := bnd H; refine WL_op rfl (OpP_callG cb58 (f58_ok (x0 := y34.1) (x1 := (x0.Memories.length : Int)) hS.sat  hy40) rfl rfl (fun vy40 G42 w41 hg hvy40 => ?_)); obtain ⟨a43, n43, c43, ⟨⟩, h43⟩ := hvy40; have hS := hS.grow hg; have hO := hO.grow hg
   have leG42 := hg.le
   refine WL_val (rn_assign (v := (.slice a43 n43 c43)) rfl) rfl ?_; refine WL_val (rn_assign (v := (.int .i64 0)) rfl) rfl ?_; refine WL_nil ?_; refine WC_ret ?_
   have H : some (y40, 0) = some r := H
   have H := Option.some.inj H; subst H
   exact ⟨_, _, rfl, hS.toGrow, _, _, _, rfl, h43⟩
set_option maxHeartbeats 1000000 in
theorem f59_ok {B : Nat} {G0 : Gm} {w0 : World} {Gc : Gm} {wc : World} {Lq : List Row} {x0 : TLandBook} {bx bb rm : Nat} {a1 : Option Addr} {n1 c1 : Nat} {a2 : Option Addr} {n2 c2 : Nat} {a3 : Option Addr} {n3 c3 : Nat} {m : List (Int × Bool)} {x1 al : Int} (hS : Since B G0 w0 Gc wc) (hO : Owns Gc wc B (⟨77, 2, m.length, .map (some rm), kvs kvI vvB m⟩ :: Lq))
  (hcx : Cells Gc bx 0 [.pointer (some ⟨bb, 0, none⟩)]) (hcb : Cells Gc bb 0 [.slice a1 n1 c1, .slice a2 n2 c2, .slice a3 n3 c3, .map (some rm)]) (h1 : RSl RTLandPerson 2 Gc a1 n1 c1 x0.People) (h2 : RSl RTLandEvent 2 Gc a2 n2 c2 x0.Events) (h3 : RSl RTLandMemory 4 Gc a3 n3 c3 x0.Memories) (Hal : f54 x0 = some al) {r : Bool × List (Int × Bool)} (H : f53 x0 m (anI .i64 al x1) = some r) :
  Calls Tryd.prog 59 [.int .i64 x1, .pointer (some ⟨bx, 0, none⟩)].toArray wc (RetO B G0 w0 Gc wc (fun G L' v => v = .bool r.1 ∧ L' = ⟨77, 2, r.2.length, .map (some rm), kvs kvI vvB r.2⟩ :: Lq)) := by
 refine enterL (N := 10) (rs := [.tmp 3]) hO.base Tryd.func59 rfl rfl rfl rfl ?_; refine WC_seq ?_; refine WC_region ?_; refine WL_val (rn_assign (v := .bool false) rfl) rfl ?_; refine WL_nil ?_; refine WC_seq ?_; have hS := hS.keep (below_drew _); have hO := hO.below (below_drew _)
 refine WC_regionD mixedO (fun _ w => Sat Gc w) (.fl 0 (.fl 1 (.fl 3 (.on 2 (.on 4 (.on 5 (.on 6 .nil))))))) (by kernel_rfl) rfl (by kernel_rfl) (fun _ => hS.sat) ?_
 refine WD_val rfl (fun w hw => rn_load na74 rfl (hw.cell (hcx 0 _ rfl))) rfl ?_; refine WD_val rfl (fun w hw => rn_load na74 rfl (hw.cell (hcx 0 _ rfl))) rfl ?_; refine WD_val rfl (fun w hw => rn_move (v := .int .i64 x1) rfl) rfl ?_; refine WD_op rfl rfl (OpP_callV cb54 (f54_ok (x0 := x0) hS.sat hcb h1 h2 h3 Hal) rfl rfl (fun w2 hb => ?_)); have hS := hS.keep hb; have hO := hO.below hb; refine ⟨fun _ _ => hS.sat, ?_⟩; refine WD_op rfl rfl (OpP_val (rn_an rfl rfl) rfl ?_); refine ⟨fun _ _ => hS.sat, ?_⟩; refine WD_op rfl rfl (OpP_enter (rn_call cb53 rfl) rfl (f53_ok hS hO hcb h1 h2 h3 H) ?_)
 rintro e w1 ⟨v, rfl, hk, G', L', le, hS, hO, rfl, rfl⟩
 refine ⟨_, rfl, hk.weak, ?_⟩
 refine ⟨fun _ h => noneed (by kernel_rfl) h, ?_⟩
 refine WD_op rfl rfl (OpP_val (rn_assign (v := .bool r.1) rfl) rfl ?_)
 refine ⟨fun _ h => noneed (by kernel_rfl) h, ?_⟩
 refine WD_nil ?_; refine WC_ret ?_
 exact ⟨[.bool r.1], ⟨rfl, trivial⟩, G', _, le, hS, hO, rfl, rfl⟩
theorem pred59_ok {B : Nat} {G0 : Gm} {w0 : World} {Gc : Gm} {x0 : TLandBook} {bx bb rm : Nat} {a1 : Option Addr} {n1 c1 : Nat} {a2 : Option Addr} {n2 c2 : Nat} {a3 : Option Addr} {n3 c3 : Nat} {al : Int}
  (hcx : Cells Gc bx 0 [.pointer (some ⟨bb, 0, none⟩)]) (hcb : Cells Gc bb 0 [.slice a1 n1 c1, .slice a2 n2 c2, .slice a3 n3 c3, .map (some rm)]) (h1 : RSl RTLandPerson 2 Gc a1 n1 c1 x0.People) (h2 : RSl RTLandEvent 2 Gc a2 n2 c2 x0.Events) (h3 : RSl RTLandMemory 4 Gc a3 n3 c3 x0.Memories) (Hal : f54 x0 = some al)
  (G : Gm) (L : List Row) (m : List (Int × Bool)) (w : World) (x : Int) (r : Bool × List (Int × Bool)) (hle : Gle Gc G) (hS : Since B G0 w0 G w) (hO : Owns G w B (⟨77, 2, m.length, .map (some rm), kvs kvI vvB m⟩ :: L)) (H : predD x0 al m x = some r) :
  Calls Tryd.prog 59 (([] : List Value) ++ [Value.int .i64 x] ++ [Value.pointer (some ⟨bx, 0, none⟩)]).toArray w (RetO B G0 w0 G w (fun G' L' v => v = .bool r.1 ∧ L' = ⟨77, 2, r.2.length, .map (some rm), kvs kvI vvB r.2⟩ :: L)) :=
 f59_ok hS hO (hcx.mono hle) (hcb.mono hle) (h1.mono RTLandPerson_mono hle) (h2.mono RTLandEvent_mono hle) (h3.mono RTLandMemory_mono hle) Hal H
set_option maxHeartbeats 1000000 in
theorem f17_ok {G0 : Gm} {w0 : World} (hS0 : Sat G0 w0) {x0 : TLandBook} {a1 : Option Addr} {n1 c1 : Nat} {a2 : Option Addr} {n2 c2 : Nat} {a3 : Option Addr} {n3 c3 : Nat} (h1 : RSl RTLandPerson 2 G0 a1 n1 c1 x0.People) (h2 : RSl RTLandEvent 2 G0 a2 n2 c2 x0.Events) (h3 : RSl RTLandMemory 4 G0 a3 n3 c3 x0.Memories) {r : (List Int) × Int} (H : f17 x0 = some r) :
  Calls Tryd.prog 17 #[.agg #[.slice a1 n1 c1, .slice a2 n2 c2, .slice a3 n3 c3]] w0 (RetG G0 w0 (fun G v => ∃ (ra0 : Option Addr) (rn0 rc0 : Nat), v = .tuple #[.slice ra0 rn0 rc0, .int .i64 r.2] ∧ RSl RInt 1 G ra0 rn0 rc0 r.1)) := by
 have hS := Since.start hS0
 have hO : Owns G0 w0 w0.heap.size [] := Owns.nil (Nat.le_refl _)
 unfold f17 at H
 refine enter2 (N := 24) (shutG _ _ _) Tryd.func17 rfl rfl rfl rfl ?_; refine WC_seq ?_; refine WC_region ?_; refine WL_op rfl (OpP_newF (v := fun b => .pointer (some ⟨b, 0, none⟩)) (cs := [.slice a1 n1 c1, .slice a2 n2 c2, .slice a3 n3 c3]) (e := 26) (rn_boxA rfl) hS.sat rfl (fun b4 G6 w5 hg hcb4 => ?_)); have hS := hS.grow hg; have hO := hO.grow hg
 have leG6 := hg.le
 refine WL_val (rn_assign (v := (.slice none 0 0)) rfl) rfl ?_; refine WL_val (rn_assign (v := (.int .i64 0)) rfl) rfl ?_; refine WL_nil ?_; refine WC_seq ?_; refine WC_seq ?_; refine WC_region ?_; refine WL_val (rn_loadA ag26 (cs := [.slice a1 n1 c1, .slice a2 n2 c2, .slice a3 n3 c3]) rfl rfl (fun j v hj => hS.sat.cell (hcb4.drop_take 0 3 j v hj))) rfl ?_; obtain ⟨y7, hy7, H⟩ := bnd H; refine WL_op rfl (OpP_callV cb51 (f51_ok (x0 := x0) hS.sat (h1.mono RTLandPerson_mono leG6) (h2.mono RTLandEvent_mono leG6) (h3.mono RTLandMemory_mono leG6) hy7) rfl rfl (fun w8 hb => ?_)); have hS := hS.keep hb; have hO := hO.below hb; refine WL_val (rn_not rfl) rfl ?_; refine WL_nil ?_; refine WC_cond rfl (fun hb9 => ?_) (fun hb9 => ?_)
 ·have H := ifT hb9 H; refine WC_seq ?_; refine WC_region ?_; refine WL_val (rn_assign (v := (.slice none 0 0)) rfl) rfl ?_; refine WL_val (rn_assign (v := (.int .i64 2)) rfl) rfl ?_; refine WL_nil ?_; refine WC_ret ?_
  have H : some ([], 2) = some r := H
  have H := Option.some.inj H; subst H
  exact ⟨_, _, rfl, hS.toGrow, _, _, _, rfl, (RSl.nil RInt 1 G6 none)⟩
 ·have H := ifF hb9 H; refine WC_skip ?_; refine WC_seq ?_; refine WC_region ?_; refine WL_val (rn_loadA ag26 (cs := [.slice a1 n1 c1, .slice a2 n2 c2, .slice a3 n3 c3]) rfl rfl (fun j v hj => hS.sat.cell (hcb4.drop_take 0 3 j v hj))) rfl ?_; refine WL_op rfl (OpP_in1 (N' := 7) [.agg #[.slice a1 n1 c1, .slice a2 n2 c2, .slice a3 n3 c3]] cb52 Tryd.func52 rfl rfl rfl rfl rfl rfl ?_); refine WC_seq ?_; refine WC_region ?_; refine WL_op rfl (OpP_newF (v := fun b => .pointer (some ⟨b, 0, none⟩)) (cs := [.slice a1 n1 c1, .slice a2 n2 c2, .slice a3 n3 c3]) (e := 26) (rn_boxA rfl) hS.sat rfl (fun b10 G12 w11 hg hcb10 => ?_)); have hS := hS.grow hg; have hO := hO.grow hg
  have leG12 := hg.le
  refine WL_val (rn_assign (v := (.pointer none)) rfl) rfl ?_; refine WL_nil ?_; refine WC_seq ?_; refine WC_region ?_; refine WL_val (rn_loadA ag26 (cs := [.slice a1 n1 c1, .slice a2 n2 c2, .slice a3 n3 c3]) rfl rfl (fun j v hj => hS.sat.cell (hcb10.drop_take 0 3 j v hj))) rfl ?_; refine WL_op rfl (OpP_makeMap (e := 77) hS hO rfl (fun r13 w14 hS hO => ?_))
  have hO : Owns G12 w14 w0.heap.size ([⟨77, 2, ([] : (List (Int × Bool))).length, .map (some r13), kvs kvI vvB ([] : (List (Int × Bool)))⟩]) := hO
  refine WL_val (v := (.agg #[.slice a1 n1 c1, .slice a2 n2 c2, .slice a3 n3 c3, .map (some r13)])) (by kernel_rfl) rfl ?_
  refine WL_op rfl (OpP_newF (v := fun b => .pointer (some ⟨b, 0, none⟩)) (cs := [.slice a1 n1 c1, .slice a2 n2 c2, .slice a3 n3 c3, .map (some r13)]) (e := 107) (rn_boxA rfl) hS.sat rfl (fun b16 G18 w17 hg hcb16 => ?_)); have hS := hS.grow hg; have hO := hO.grow hg
  have leG18 := hg.le
  refine WL_val (rn_assign (v := (.pointer (some ⟨b16, 0, none⟩))) rfl) rfl ?_; refine WL_nil ?_; refine WC_ret ?_; refine ⟨(.pointer (some ⟨b16, 0, none⟩)), rfl, ?_⟩
  have hO : Owns G18 w17 w0.heap.size ([⟨77, 2, ([] : (List (Int × Bool))).length, .map (some r13), kvs kvI vvB ([] : (List (Int × Bool)))⟩]) := hO
  refine WL_op rfl (OpP_newO (v := fun b => .pointer (some ⟨b, 0, none⟩)) (cs := [.pointer none]) (e := 74) (by kernel_rfl) hS.sat hO rfl 1 1 rfl (by decide) (fun b19 w20 hb hO => ?_))
  have hS := hS.keep hb; refine WL_op rfl (OpP_store (vs := [.pointer (some ⟨b16, 0, none⟩)]) sz74 hS hO (k := 0) rfl rfl rfl rfl rfl (one_all rfl) (Nat.le_of_ble_eq_true rfl) (fun w22 hS hO => ?_))
  have hO : Owns G18 w22 w0.heap.size ([⟨74, 1, 1, .slice (some ⟨b19, 0, none⟩) 1 1, [.pointer (some ⟨b16, 0, none⟩)]⟩, ⟨77, 2, ([] : (List (Int × Bool))).length, .map (some r13), kvs kvI vvB ([] : (List (Int × Bool)))⟩]) := hO
  obtain ⟨G23, leG23, hS, hO, hqG23, _⟩ := hO.freeze hS (k := 0) rfl
  have hcG23 : Cells G23 b19 0 [.pointer (some ⟨b16, 0, none⟩)] := (hqG23 _ _ _ _ rfl)
  refine WL_nil ?_; refine WC_seq ?_; refine WC_region ?_; refine WL_val (rn_load na74 rfl (hS.sat.cell (hcG23 0 _ rfl))) rfl ?_
  have l0_4 := ((leG6.trans leG12).trans leG18).trans leG23
  obtain ⟨_, hm25, H⟩ := bnd H
  have hI24 := f56_it (x0 := x0) (hcb16.mono leG23) (h3.mono RTLandMemory_mono l0_4) (ckM_some hm25)
  refine WL_val (rn_func (vs := [.pointer (some ⟨b16, 0, none⟩)]) (us := []) rfl rfl) rfl ?_; refine WL_val (v := (.func (.func 59) ([] : List Value).toArray ([.pointer (some ⟨b19, 0, none⟩)] : List Value).toArray)) (rn_func (vs := []) (us := [.pointer (some ⟨b19, 0, none⟩)]) rfl rfl) rfl ?_; obtain ⟨y26, hy26, H⟩ := bnd H; obtain ⟨y27, hy27, H⟩ := bnd H
  have hp31 := pred59_ok (B := w0.heap.size) (G0 := G0) (w0 := w0) (x0 := x0) (bx := b19) (bb := b16) (rm := r13) (al := y26) hcG23 (hcb16.mono leG23) (h1.mono RTLandPerson_mono l0_4) (h2.mono RTLandEvent_mono l0_4) (h3.mono RTLandMemory_mono l0_4) hy26
  have hx32 := f55_ok (m := ([] : (List (Int × Bool)))) (rm := r13) (ki := 56) (kf := 59) (fi := [.pointer (some ⟨b16, 0, none⟩)]) (ca := []) (cc := [.pointer (some ⟨b19, 0, none⟩)]) (xs := setsAll x0.Memories.length) hS hO cb56 hI24 cb59 (predD x0 y26) hp31 hy27
  refine WL_op rfl (OpP_lent (fi := []) (al := [.func (.func 56) ([.pointer (some ⟨b16, 0, none⟩)]).toArray ([]).toArray, .func (.func 59) ([] : List Value).toArray ([.pointer (some ⟨b19, 0, none⟩)] : List Value).toArray]) (ca := []) (B := w0.heap.size) (G0 := G0) (w0 := w0) (Gc := G23) (Φ := (fun G L v => v = Value.tuple #[Value.int IntKind.i64 y27.1, Value.bool y27.2.1] ∧ L = [⟨77, 2, (y27.2.2).length, .map (some r13), kvs kvI vvB (y27.2.2)⟩])) cb55 (by exact hx32) rfl rfl rfl (fun vG29 G29 w28 L30 leG29 hS hO hvG29 => ?_))
  obtain ⟨rfl, rfl⟩ := hvG29
  have hO : Owns G29 w28 w0.heap.size ([⟨77, 2, (y27.2.2).length, .map (some r13), kvs kvI vvB (y27.2.2)⟩]) := hO
  refine WL_val (rn_move (v := (.tuple #[.int .i64 y27.1, .bool y27.2.1])) rfl) rfl ?_; refine WL_val (rn_extract (v := (.int .i64 y27.1)) rfl rfl) rfl ?_; refine WL_val (rn_extract (v := (.bool y27.2.1)) rfl rfl) rfl ?_; refine WL_val (rn_assign (v := (.int .i64 y27.1)) rfl) rfl ?_; refine WL_val (rn_assign (v := (.bool y27.2.1)) rfl) rfl ?_; refine WL_nil ?_; refine WC_seq ?_; refine WC_region ?_; refine WL_val (rn_move (v := (.int .i64 y27.1)) rfl) rfl ?_; refine WL_val (rn_fld fd26_2 rfl) rfl ?_
  have l1_5 := ((leG12.trans leG18).trans leG23).trans leG29
  refine WL_val (rn_load na24 rfl ((hS.sat.le l1_5).cell (hcb4 2 _ rfl))) rfl ?_
  have l0_5 := l0_4.trans leG29
  refine WL_val (rn_len sl24 rfl rfl (h3.mono RTLandMemory_mono l0_5).1) rfl ?_; obtain ⟨y33, hy33, H⟩ := bnd H; refine WL_op rfl (OpP_callG cb58 (f58_ok (x0 := y27.1) (x1 := (x0.Memories.length : Int)) hS.sat  hy33) rfl rfl (fun vy33 G35 w34 hg hvy33 => ?_)); obtain ⟨a36, n36, c36, ⟨⟩, h36⟩ := hvy33; have hS := hS.grow hg; have hO := hO.grow hg
  have leG35 := hg.le
  refine WL_val (rn_assign (v := (.slice a36 n36 c36)) rfl) rfl ?_; refine WL_val (rn_assign (v := (.int .i64 0)) rfl) rfl ?_; refine WL_nil ?_; refine WC_ret ?_
  have H : some (y33, 0) = some r := H
  have H := Option.some.inj H; subst H
  exact ⟨_, _, rfl, hS.toGrow, _, _, _, rfl, h36⟩
set_option maxHeartbeats 1000000 in
theorem f20_ok {G0 : Gm} {w0 : World} (hS0 : Sat G0 w0) {x0 : (List Int)} {a1 : Option Addr} {n1 c1 : Nat} {x1 : (List Int)} {a2 : Option Addr} {n2 c2 : Nat} (h1 : RSl RInt 1 G0 a1 n1 c1 x0) (h2 : RSl RInt 1 G0 a2 n2 c2 x1) {r : Bool} (H : f20 x0 x1 = some r) :
  Calls Tryd.prog 20 #[.slice a1 n1 c1, .slice a2 n2 c2] w0 (RetV w0 (.bool r)) := by
 have hS := Since.start hS0
 have hO : Owns G0 w0 w0.heap.size [] := Owns.nil (Nat.le_refl _)
 unfold f20 at H
 refine enter1 (N := 26) (shutV _ _) Tryd.func20 rfl rfl rfl rfl ?_; refine WC_seq ?_; refine WC_region ?_; refine WL_val (rn_assign (v := (.bool false)) rfl) rfl ?_; refine WL_nil ?_; refine WC_seq ?_; refine WC_seq ?_; refine WC_region ?_; refine WL_val (rn_move (v := (.slice a1 n1 c1)) rfl) rfl ?_; refine WL_val (rn_len sl29 rfl rfl h1.1) rfl ?_; refine WL_val (rn_move (v := (.slice a2 n2 c2)) rfl) rfl ?_; refine WL_val (rn_len sl29 rfl rfl h2.1) rfl ?_; refine WL_val (rn_neq rfl rfl) rfl ?_; refine WL_nil ?_; refine WC_cond rfl (fun hb3 => ?_) (fun hb3 => ?_)
 ·have H := ifT hb3 H; refine WC_seq ?_; refine WC_region ?_; refine WL_val (rn_assign (v := (.bool false)) rfl) rfl ?_; refine WL_nil ?_; refine WC_ret ?_
  have H : some false = some r := H
  have H := Option.some.inj H; subst H
  exact ⟨rfl, hS.below⟩
 ·have H := ifF hb3 H; refine WC_skip ?_; refine WC_seq ?_; refine WC_seq ?_; refine WC_region ?_; refine WL_val (rn_assign (v := (.int .i64 0)) rfl) rfl ?_; refine WL_nil ?_; obtain ⟨q6, hq6, H⟩ := bnd H; refine WC_cut (fun F w => ∃ (p5 : Unit) (Fb : Fr) (G : Gm), q6 = .inl p5 ∧ F = upds Fb [] ∧ Gle G0 G ∧ Since w0.heap.size G0 w0 G w ∧ Owns G w w0.heap.size []) ?_ ?_
  ·refine WC_block (WC_loop hq6 (fun s4 F w => ∃ (Fb : Fr) (G : Gm), F = upds Fb [(0, .slice a1 n1 c1), (1, .slice a2 n2 c2), (5, .int .i64 s4)] ∧ Gle G0 G ∧ Since w0.heap.size G0 w0 G w ∧ Owns G w w0.heap.size []) ?_ ?_)
   ·have hO : Owns G0 w0 w0.heap.size ([]) := hO
    exact ⟨_, G0, upds_self _ _ ⟨rfl, rfl, rfl, trivial⟩, Gle.refl _, hS, hO⟩
   ·rintro s4 F w8 t7 ⟨Fb, G9, rfl, leG9, hS, hO⟩
    intro H1 hqq6
    have Hoq6 := H; have H := H1
    unfold f20_b0 at H
    refine WC_seq ?_; refine WC_seq ?_; refine WC_region ?_; refine WL_val (rn_move (v := (.int .i64 s4)) rfl) rfl ?_; refine WL_val (rn_move (v := (.slice a1 n1 c1)) rfl) rfl ?_; refine WL_val (rn_len sl29 rfl rfl (h1.mono RInt_mono leG9).1) rfl ?_; refine WL_val (rn_lss rfl rfl) rfl ?_; refine WL_nil ?_; refine WC_cond rfl (fun hb10 => ?_) (fun hb10 => ?_)
    ·have H := ifT hb10 H; refine WC_skip ?_; refine WC_seq ?_; refine WC_block ?_; refine WC_seq ?_; have hS := hS.keep (below_drew _); have hO := hO.below (below_drew _)
     refine WC_regionD mixedO (fun _ w => Sat G9 w ∧ True) (.fl 0 (.fl 1 (.fl 2 (.fl 3 (.fl 4 (.on 5 (.on 6 (.on 7 (.on 8 .nil))))))))) (by kernel_rfl) rfl (by kernel_rfl) (fun _ => ⟨hS.sat, trivial⟩) ?_
     refine WD_val rfl (fun w hw => rn_move (v := (.slice a1 n1 c1)) rfl) rfl ?_; refine WD_val rfl (fun w hw => rn_move (v := (.int .i64 s4)) rfl) rfl ?_; obtain ⟨y11, hy11, H⟩ := bnd H; refine WD_idx rfl sl29 (h1.mono RInt_mono leG9) hy11 rfl rfl rfl ?_
     rintro b12 o12 _ hcb12 _ ⟨⟩
     refine WD_val rfl (fun w hw => rn_load na3 rfl (hw.1.cell (hcb12 0 _ rfl))) rfl ?_; refine WD_val rfl (fun w hw => rn_move (v := (.slice a2 n2 c2)) rfl) rfl ?_; refine WD_op rfl rfl (OpP_val (rn_move (v := (.int .i64 s4)) rfl) rfl ?_); refine ⟨fun _ _ => ⟨hS.sat, trivial⟩, ?_⟩; obtain ⟨y13, hy13, H⟩ := bnd H; refine WD_op rfl rfl (OpP_idx sl29 (h2.mono RInt_mono leG9) hy13 rfl rfl rfl ?_)
     rintro b14 o14 _ hcb14 _ ⟨⟩
     refine ⟨fun _ _ => ⟨hS.sat, trivial⟩, ?_⟩; refine WD_op rfl rfl (OpP_val (rn_load na3 rfl (hS.sat.cell (hcb14 0 _ rfl))) rfl ?_); refine ⟨fun _ _ => ⟨hS.sat, trivial⟩, ?_⟩; refine WD_op rfl rfl (OpP_val (rn_neq rfl rfl) rfl ?_)
     refine ⟨fun _ h => noneed (by kernel_rfl) h, ?_⟩
     refine WD_nil ?_; refine WC_cond rfl (fun hb15 => ?_) (fun hb15 => ?_)
     ·have H := ifT hb15 H; refine WC_seq ?_; refine WC_region ?_; refine WL_val (rn_assign (v := (.bool false)) rfl) rfl ?_; refine WL_nil ?_; refine WC_ret ?_; have H := Option.some.inj H; subst H
      have hres := hqq6 _ rfl
      subst hres; have H := Hoq6
      have H : some false = some r := H
      have H := Option.some.inj H; subst H
      exact ⟨rfl, hS.below⟩
     ·have H := ifF hb15 H; refine WC_skip ?_; refine WC_region ?_; refine WL_val (rn_move (v := (.int .i64 s4)) rfl) rfl ?_; refine WL_val (rn_add rfl rfl) rfl ?_; refine WL_val (rn_assign (v := (.int .i64 (IntKind.i64.wrap (s4 + 1)))) rfl) rfl ?_; refine WL_nil ?_
      have hO : Owns G9 w8.drew w0.heap.size ([]) := hO
      have H := Option.some.inj H; subst H; refine ⟨_, rfl, ?_⟩
      exact ⟨_, G9, upds_self _ _ ⟨rfl, rfl, rfl, trivial⟩, leG9, hS, hO⟩
    ·have H := ifF hb10 H; refine WC_exit rfl ?_
     have hO : Owns G9 w8 w0.heap.size ([]) := hO
     have H := Option.some.inj H; subst H
     have hres := hqq6 _ rfl
     subst hres
     exact ⟨_, _, G9, rfl, rfl, leG9, hS, hO⟩
  ·rintro F w16 ⟨p5, Fb, G17, rfl, rfl, leG17, hS, hO⟩
   refine WC_seq ?_; refine WC_region ?_; refine WL_val (rn_assign (v := (.bool true)) rfl) rfl ?_; refine WL_nil ?_; refine WC_ret ?_
   have H : some true = some r := H
   have H := Option.some.inj H; subst H
   exact ⟨rfl, hS.below⟩
end Go.Proofs.YtcaflmilfhhikaaDoor
