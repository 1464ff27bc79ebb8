/-
  The walks: each Go function computes its plain function (printed by a program of ours).
-/
import Derived.Test.YtcaflmilfhhikaaGreatDoorAl
import Derived.Test.YtcaflmilfhhikaaGreatDoorRd
import Derived.Test.YtcaflmilfhhikaaGreatDoorBaseQ
import Derived.Test.YtcaflmilfhhikaaGreatDoorBaseU
import Derived.Test.YtcaflmilfhhikaaGreatDoorIt
import Derived.Test.YtcaflmilfhhikaaGreatDoorLib
import Derived.Test.YtcaflmilfhhikaaGreatDoorBu
namespace Go.Proofs.YtcaflmilfhhikaaGreatDoor
open Go.RowKit
set_option linter.unusedVariables false

set_option maxRecDepth 20000
set_option linter.unusedVariables false
set_option maxHeartbeats 1000000 in
theorem f37_ok {G0 : Gm} {w0 : World} (hS0 : Sat G0 w0) {x0 : Int} {x1 : Int} {x2 : Int}  {r : Bool} (H : f37 x0 x1 x2 = some r) :
  Calls Tryz.prog 37 #[zi x0, zi x1, zi x2] w0 (RetV w0 (.bool r)) := by
 have hS := Since.start hS0
 have hO : Owns G0 w0 w0.heap.size [] := Owns.nil (Nat.le_refl _)
 unfold f37 at H
 refine enter1 (N := 15) (shutV _ _) Tryz.func37 rfl rfl rfl rfl ?_; refine zS ?_; refine zy (.bool false) rfl rfl ?_; refine zN ?_; refine zQ ?_; obtain ⟨q1, hq1, H⟩ := bnd H; refine zM (fun F w => ∃ (Fb : Fr), F = upds Fb [(6, .bool q1)] ∧ w0 = w) ?_ ?_
 ·have Hoq1 := H; have H := hq1; refine zR ?_; refine zx (zi x0) rfl rfl ?_; refine zx (zi x1) rfl rfl ?_; refine zV (rn_geq rfl rfl) rfl ?_; refine zx (.bool (decide (x1 ≤ x0))) rfl rfl ?_
  rcases bcases (decide (x1 ≤ x0)) with hb2 | hb2
  ·have H := ifT hb2 H; refine zY rfl hb2 rfl rfl ?_; refine zx (zi x0) rfl rfl ?_; refine zY rfl hb2 rfl rfl ?_; refine zx (zi x2) rfl rfl ?_; refine zY rfl hb2 rfl rfl ?_; refine zV (rn_leq rfl rfl) rfl ?_; refine zV (rn_pickT (v := (.bool (decide (x0 ≤ x2)))) rfl hb2 rfl) rfl ?_; refine zy (.bool (decide (x0 ≤ x2))) rfl rfl ?_; refine zN ?_; have H := oi H; subst H
   exact ⟨_, upds_self _ _ ⟨rfl, trivial⟩, rfl⟩
  ·have H := ifF hb2 H; refine zG rfl hb2 rfl rfl rfl ?_; refine zG rfl hb2 rfl rfl rfl ?_; refine zG rfl hb2 rfl rfl rfl ?_; refine zV (rn_pickF (v := (.bool false)) rfl hb2 rfl) rfl ?_; refine zy (.bool false) rfl rfl ?_; refine zN ?_; have H := oi H; subst H
   exact ⟨_, upds_self _ _ ⟨rfl, trivial⟩, rfl⟩
 ·rintro F wl ⟨Fb, rfl, rfl⟩
  refine WC_ret ?_
  have H : some q1 = some r := H
  have H := oi H; subst H
  exact ⟨rfl, hS.below⟩
set_option maxHeartbeats 1000000 in
theorem f71_ok {G0 : Gm} {w0 : World} (hS0 : Sat G0 w0) {x0 : (List TLandEvent)} {a1 : Option Addr} {n1 c1 : Nat} {x1 : (TLandEvent → Option Bool)} {k2 : Nat} {fi2 ca2 : List Value} (h1 : RSl RTLandEvent 2 G0 a1 n1 c1 x0) (hf2 : FnOk88 G0 k2 fi2 ca2 x1) {r : Int} (H : f71 x0 x1 = some r) :
  Calls Tryz.prog 71 #[zl a1 n1 c1, .func (.func k2) (fi2).toArray (ca2).toArray] w0 (RetV w0 (zi r)) := by
 have hS := Since.start hS0
 have hO : Owns G0 w0 w0.heap.size [] := Owns.nil (Nat.le_refl _)
 unfold f71 at H
 refine enter1 (N := 19) (shutV _ _) Tryz.func71 rfl rfl rfl rfl ?_; refine zS ?_; refine zy (zi 0) rfl rfl ?_; refine zN ?_; refine zQ ?_; refine zS ?_; refine zx (zl a1 n1 c1) rfl rfl ?_; refine zV (rn_len sl23 rfl rfl h1.1) rfl ?_; refine zx (zi 0) rfl rfl ?_; refine zN ?_; obtain ⟨q5, hq5, H⟩ := bnd H; refine zM (fun F w => ∃ (p4 : Unit) (Fb : Fr) (G : Gm), q5 = .inl p4 ∧ F = upds Fb [] ∧ Gle G0 G ∧ Since w0.heap.size G0 w0 G w ∧ Owns G w w0.heap.size []) ?_ ?_
 ·refine WC_block (WC_loop hq5 (fun s3 F w => ∃ (Fb : Fr) (G : Gm), F = upds Fb [(0, zl a1 n1 c1), (1, .func (.func k2) (fi2).toArray (ca2).toArray), (7, zi (x0.length : Int)), (8, zi s3)] ∧ Gle G0 G ∧ Since w0.heap.size G0 w0 G w ∧ Owns G w w0.heap.size []) ?_ ?_)
  ·have hO : Owns _ _ _ ([]) := hO
   exact ⟨_, G0, upds_self _ _ ⟨rfl, rfl, rfl, rfl, trivial⟩, Gle.refl _, hS, hO⟩
  ·rintro s3 F w7 t6 ⟨Fb, G8, rfl, leG8, hS, hO⟩
   intro H1 hqq5
   have Hoq5 := H; have H := H1
   unfold f71_b0 at H
   refine zS ?_; refine zV (rn_lss rfl rfl) rfl ?_; refine zN ?_; refine zQ ?_; refine zT rfl (fun hb9 => ?_) (fun hb9 => ?_)
   ·have H := ifT hb9 H; refine zP ?_; refine zQ ?_; refine WC_block ?_; refine zS ?_; refine zx (zi s3) rfl rfl ?_; refine zy (zi s3) rfl rfl ?_; refine zN ?_; refine zS ?_; refine zx (.func (.func k2) (fi2).toArray (ca2).toArray) rfl rfl ?_; refine zx (zl a1 n1 c1) rfl rfl ?_; refine zx (zi s3) rfl rfl ?_; obtain ⟨y10, hy10, H⟩ := bnd H; refine WL_idx sl23 (h1.mono RTLandEvent_mono leG8) hy10 rfl rfl rfl ?_
    rintro b11 o11 _ hcb11 _ ⟨⟩
    refine zV (rn_loadA ag57 (cs := [zi y10.Strip, zi y10.Holder]) rfl rfl (fun j v hj => hS.sat.cell (hcb11.drop_take 0 2 j v hj))) rfl ?_; obtain ⟨y12, hy12, H⟩ := bnd H; refine zO rfl (OpP_callVF hf2.1 (hf2.2 _ _ leG8 hS.sat y10 _  hy12) rfl rfl rfl (fun w13 hb => ?_)); have hS := hS.keep hb; have hO := hO.below hb; refine zN ?_; refine zT rfl (fun hb14 => ?_) (fun hb14 => ?_)
    ·have H := ifT hb14 H; refine zS ?_; refine zx (zi s3) rfl rfl ?_; refine zy (zi s3) rfl rfl ?_; refine zN ?_; refine WC_ret ?_; have H := oi H; subst H
     have hres := hqq5 _ rfl
     subst hres; have H := Hoq5
     have H : some s3 = some r := H
     have H := oi H; subst H
     exact ⟨rfl, hS.below⟩
    ·have H := ifF hb14 H; refine zP ?_; refine zR ?_; refine zV (rn_add rfl rfl) rfl ?_; refine zx (zi (IntKind.i64.wrap (s3 + 1))) rfl rfl ?_; refine zN ?_
     have hO : Owns _ _ _ ([]) := hO
     have H := oi H; subst H; refine ⟨_, rfl, ?_⟩
     exact ⟨_, G8, upds_self _ _ ⟨rfl, rfl, rfl, rfl, trivial⟩, leG8, hS, hO⟩
   ·have H := ifF hb9 H; refine WC_exit rfl ?_
    have hO : Owns _ _ _ ([]) := hO
    have H := oi H; subst H
    have hres := hqq5 _ rfl
    subst hres
    exact ⟨_, _, G8, rfl, rfl, leG8, hS, hO⟩
 ·rintro F w15 ⟨p4, Fb, G16, rfl, rfl, leG16, hS, hO⟩
  refine zS ?_; refine zy (zi (-1)) rfl rfl ?_; refine zN ?_; refine WC_ret ?_
  have H : some (-1) = some r := H
  have H := oi H; subst H
  exact ⟨rfl, hS.below⟩
set_option maxHeartbeats 1000000 in
theorem f48_ok {G0 : Gm} {w0 : World} (hS0 : Sat G0 w0) {x0 : (List TLandEvent)} {a1 : Option Addr} {n1 c1 : Nat} {x1 : (TLandEvent → Option Bool)} {k2 : Nat} {fi2 ca2 : List Value} (h1 : RSl RTLandEvent 2 G0 a1 n1 c1 x0) (hf2 : FnOk88 G0 k2 fi2 ca2 x1) {r : Bool} (H : f48 x0 x1 = some r) :
  Calls Tryz.prog 48 #[zl a1 n1 c1, .func (.func k2) (fi2).toArray (ca2).toArray] w0 (RetV w0 (.bool r)) := by
 have hS := Since.start hS0
 have hO : Owns G0 w0 w0.heap.size [] := Owns.nil (Nat.le_refl _)
 unfold f48 at H
 refine enter1 (N := 9) (shutV _ _) Tryz.func48 rfl rfl rfl rfl ?_; refine zS ?_; refine zy (.bool false) rfl rfl ?_; refine zN ?_; refine zS ?_; refine zx (zl a1 n1 c1) rfl rfl ?_; refine zx (.func (.func k2) (fi2).toArray (ca2).toArray) rfl rfl ?_; obtain ⟨y3, hy3, H⟩ := bnd H; refine zO rfl (zC cb71 (f71_ok (x0 := x0) (x1 := x1) hS.sat h1 hf2 hy3) rfl rfl (fun w4 hb => ?_)); have hS := hS.keep hb; have hO := hO.below hb; refine zV (rn_geq rfl rfl) rfl ?_; refine zy (.bool (decide (0 ≤ y3))) rfl rfl ?_; refine zN ?_; refine WC_ret ?_
 have H : some (decide (0 ≤ y3)) = some r := H
 have H := oi H; subst H
 exact ⟨rfl, hS.below⟩
set_option maxHeartbeats 1000000 in
theorem f49_ok {G0 : Gm} {w0 : World} (hS0 : Sat G0 w0) {x0 : TLandEvent} {x1 : TLandBook} {bq1 : Nat} {a1 : Option Addr} {n1 c1 : Nat} {a2 : Option Addr} {n2 c2 : Nat} {a3 : Option Addr} {n3 c3 : Nat} (hcq1 : Cells G0 bq1 0 [zl a1 n1 c1, zl a2 n2 c2, zl a3 n3 c3]) (h1 : RSl RTLandPerson 2 G0 a1 n1 c1 x1.People) (h2 : RSl RTLandEvent 2 G0 a2 n2 c2 x1.Events) (h3 : RSl RTLandMemory 4 G0 a3 n3 c3 x1.Memories) {r : Bool} (H : f49 x0 x1 = some r) :
  Calls Tryz.prog 49 #[.agg #[zi x0.Strip, zi x0.Holder], zp bq1] w0 (RetV w0 (.bool r)) := by
 have hS := Since.start hS0
 have hO : Owns G0 w0 w0.heap.size [] := Owns.nil (Nat.le_refl _)
 unfold f49 at H
 refine enter1 (N := 18) (shutV _ _) Tryz.func49 rfl rfl rfl rfl ?_; refine zS ?_; refine zO rfl (zW (v := fun b => zp b) (cs := [zi x0.Strip, zi x0.Holder]) (e := 57) (rn_boxA rfl) hS.sat rfl (fun b4 G6 w5 hg hcb4 => ?_)); have hS := hS.grow hg; have hO := hO.grow hg
 have leG6 := hg.le
 refine zy (.bool false) rfl rfl ?_; refine zN ?_; refine zQ ?_; obtain ⟨q7, hq7, H⟩ := bnd H; refine zM (fun F w => ∃ (Fb : Fr) (G : Gm), F = upds Fb [(3, .bool q7)] ∧ Gle G6 G ∧ Since w0.heap.size G0 w0 G w ∧ Owns G w w0.heap.size []) ?_ ?_
 ·have Hoq7 := H; have H := hq7; refine zR ?_; refine zV (zF fd57_0 rfl) rfl ?_; refine zV (zL na3 rfl (hS.sat.cell (hcb4 0 _ rfl))) rfl ?_; obtain ⟨y8, hy8, H⟩ := bnd H; refine zO rfl (zC cb37 (f37_ok (x0 := x0.Strip) (x1 := 0) (x2 := 5) hS.sat  hy8) rfl rfl (fun w9 hb => ?_)); have hS := hS.keep hb; have hO := hO.below hb; refine zV (rn_not rfl) rfl ?_; refine zx (.bool (!y8)) rfl rfl ?_
  rcases bcases (!y8) with hb10 | hb10
  ·have H := ifT hb10 H; refine zG rfl hb10 rfl rfl rfl ?_; refine zG rfl hb10 rfl rfl rfl ?_; refine zG rfl hb10 rfl rfl rfl ?_; refine zG rfl hb10 rfl rfl rfl ?_; refine zG rfl hb10 rfl rfl rfl ?_; refine zG rfl hb10 rfl rfl rfl ?_; refine zG rfl hb10 rfl rfl rfl ?_; refine zG rfl hb10 rfl rfl rfl ?_; refine zV (rn_pickT (v := (.bool true)) rfl hb10 rfl) rfl ?_; refine zy (.bool true) rfl rfl ?_; refine zN ?_
   have hO : Owns _ _ _ ([]) := hO
   have H := oi H; subst H
   exact ⟨_, G6, upds_self _ _ ⟨rfl, trivial⟩, Gle.refl _, hS, hO⟩
  ·have H := ifF hb10 H; refine zY rfl hb10 rfl rfl ?_; refine zV (zF fd57_1 rfl) rfl ?_; refine zY rfl hb10 rfl rfl ?_; refine zV (zL na3 rfl (hS.sat.cell (hcb4 1 _ rfl))) rfl ?_; refine zY rfl hb10 rfl rfl ?_; refine zV (zF fd26_0 rfl) rfl ?_; refine zY rfl hb10 rfl rfl ?_; refine zV (zL na22 rfl ((hS.sat.le leG6).cell (hcq1 0 _ rfl))) rfl ?_; refine zY rfl hb10 rfl rfl ?_; refine zV (rn_len sl22 rfl rfl (h1.mono RTLandPerson_mono leG6).1) rfl ?_; refine zY rfl hb10 rfl rfl ?_; refine zV (rn_sub rfl rfl) rfl ?_; refine zY rfl hb10 rfl rfl ?_; obtain ⟨y11, hy11, H⟩ := bnd H; refine zO rfl (zC cb37 (f37_ok (x0 := x0.Holder) (x1 := 0) (x2 := IntKind.i64.wrap ((x1.People.length : Int) - 1)) hS.sat  hy11) rfl rfl (fun w12 hb => ?_)); have hS := hS.keep hb; have hO := hO.below hb; refine zY rfl hb10 rfl rfl ?_; refine zV (rn_not rfl) rfl ?_; refine zV (rn_pickF (v := (.bool (!y11))) rfl hb10 rfl) rfl ?_; refine zy (.bool (!y11)) rfl rfl ?_; refine zN ?_
   have hO : Owns _ _ _ ([]) := hO
   have H := oi H; subst H
   exact ⟨_, G6, upds_self _ _ ⟨rfl, trivial⟩, Gle.refl _, hS, hO⟩
 ·rintro F w13 ⟨Fb, G14, rfl, leG14, hS, hO⟩
  refine WC_ret ?_
  have H : some q7 = some r := H
  have H := oi H; subst H
  exact ⟨rfl, hS.below⟩
set_option maxHeartbeats 1000000 in
theorem f72_ok {G0 : Gm} {w0 : World} (hS0 : Sat G0 w0) {x0 : (List TLandMemory)} {a1 : Option Addr} {n1 c1 : Nat} {x1 : (TLandMemory → Option Bool)} {k2 : Nat} {fi2 ca2 : List Value} (h1 : RSl RTLandMemory 4 G0 a1 n1 c1 x0) (hf2 : FnOk90 G0 k2 fi2 ca2 x1) {r : Int} (H : f72 x0 x1 = some r) :
  Calls Tryz.prog 72 #[zl a1 n1 c1, .func (.func k2) (fi2).toArray (ca2).toArray] w0 (RetV w0 (zi r)) := by
 have hS := Since.start hS0
 have hO : Owns G0 w0 w0.heap.size [] := Owns.nil (Nat.le_refl _)
 unfold f72 at H
 refine enter1 (N := 19) (shutV _ _) Tryz.func72 rfl rfl rfl rfl ?_; refine zS ?_; refine zy (zi 0) rfl rfl ?_; refine zN ?_; refine zQ ?_; refine zS ?_; refine zx (zl a1 n1 c1) rfl rfl ?_; refine zV (rn_len sl24 rfl rfl h1.1) rfl ?_; refine zx (zi 0) rfl rfl ?_; refine zN ?_; obtain ⟨q5, hq5, H⟩ := bnd H; refine zM (fun F w => ∃ (p4 : Unit) (Fb : Fr) (G : Gm), q5 = .inl p4 ∧ F = upds Fb [] ∧ Gle G0 G ∧ Since w0.heap.size G0 w0 G w ∧ Owns G w w0.heap.size []) ?_ ?_
 ·refine WC_block (WC_loop hq5 (fun s3 F w => ∃ (Fb : Fr) (G : Gm), F = upds Fb [(0, zl a1 n1 c1), (1, .func (.func k2) (fi2).toArray (ca2).toArray), (7, zi (x0.length : Int)), (8, zi s3)] ∧ Gle G0 G ∧ Since w0.heap.size G0 w0 G w ∧ Owns G w w0.heap.size []) ?_ ?_)
  ·have hO : Owns _ _ _ ([]) := hO
   exact ⟨_, G0, upds_self _ _ ⟨rfl, rfl, rfl, rfl, trivial⟩, Gle.refl _, hS, hO⟩
  ·rintro s3 F w7 t6 ⟨Fb, G8, rfl, leG8, hS, hO⟩
   intro H1 hqq5
   have Hoq5 := H; have H := H1
   unfold f72_b0 at H
   refine zS ?_; refine zV (rn_lss rfl rfl) rfl ?_; refine zN ?_; refine zQ ?_; refine zT rfl (fun hb9 => ?_) (fun hb9 => ?_)
   ·have H := ifT hb9 H; refine zP ?_; refine zQ ?_; refine WC_block ?_; refine zS ?_; refine zx (zi s3) rfl rfl ?_; refine zy (zi s3) rfl rfl ?_; refine zN ?_; refine zS ?_; refine zx (.func (.func k2) (fi2).toArray (ca2).toArray) rfl rfl ?_; refine zx (zl a1 n1 c1) rfl rfl ?_; refine zx (zi s3) rfl rfl ?_; obtain ⟨y10, hy10, H⟩ := bnd H; refine WL_idx sl24 (h1.mono RTLandMemory_mono leG8) hy10 rfl rfl rfl ?_
    rintro b11 o11 _ hcb11 _ ⟨⟩
    refine zV (rn_loadA ag60 (cs := [zi y10.From, zi y10.To, zi y10.Years.Low, zi y10.Years.High]) rfl rfl (fun j v hj => hS.sat.cell (hcb11.drop_take 0 4 j v hj))) rfl ?_; obtain ⟨y12, hy12, H⟩ := bnd H; refine zO rfl (OpP_callVF hf2.1 (hf2.2 _ _ leG8 hS.sat y10 _  hy12) rfl rfl rfl (fun w13 hb => ?_)); have hS := hS.keep hb; have hO := hO.below hb; refine zN ?_; refine zT rfl (fun hb14 => ?_) (fun hb14 => ?_)
    ·have H := ifT hb14 H; refine zS ?_; refine zx (zi s3) rfl rfl ?_; refine zy (zi s3) rfl rfl ?_; refine zN ?_; refine WC_ret ?_; have H := oi H; subst H
     have hres := hqq5 _ rfl
     subst hres; have H := Hoq5
     have H : some s3 = some r := H
     have H := oi H; subst H
     exact ⟨rfl, hS.below⟩
    ·have H := ifF hb14 H; refine zP ?_; refine zR ?_; refine zV (rn_add rfl rfl) rfl ?_; refine zx (zi (IntKind.i64.wrap (s3 + 1))) rfl rfl ?_; refine zN ?_
     have hO : Owns _ _ _ ([]) := hO
     have H := oi H; subst H; refine ⟨_, rfl, ?_⟩
     exact ⟨_, G8, upds_self _ _ ⟨rfl, rfl, rfl, rfl, trivial⟩, leG8, hS, hO⟩
   ·have H := ifF hb9 H; refine WC_exit rfl ?_
    have hO : Owns _ _ _ ([]) := hO
    have H := oi H; subst H
    have hres := hqq5 _ rfl
    subst hres
    exact ⟨_, _, G8, rfl, rfl, leG8, hS, hO⟩
 ·rintro F w15 ⟨p4, Fb, G16, rfl, rfl, leG16, hS, hO⟩
  refine zS ?_; refine zy (zi (-1)) rfl rfl ?_; refine zN ?_; refine WC_ret ?_
  have H : some (-1) = some r := H
  have H := oi H; subst H
  exact ⟨rfl, hS.below⟩
set_option maxHeartbeats 1000000 in
theorem f50_ok {G0 : Gm} {w0 : World} (hS0 : Sat G0 w0) {x0 : (List TLandMemory)} {a1 : Option Addr} {n1 c1 : Nat} {x1 : (TLandMemory → Option Bool)} {k2 : Nat} {fi2 ca2 : List Value} (h1 : RSl RTLandMemory 4 G0 a1 n1 c1 x0) (hf2 : FnOk90 G0 k2 fi2 ca2 x1) {r : Bool} (H : f50 x0 x1 = some r) :
  Calls Tryz.prog 50 #[zl a1 n1 c1, .func (.func k2) (fi2).toArray (ca2).toArray] w0 (RetV w0 (.bool r)) := by
 have hS := Since.start hS0
 have hO : Owns G0 w0 w0.heap.size [] := Owns.nil (Nat.le_refl _)
 unfold f50 at H
 refine enter1 (N := 9) (shutV _ _) Tryz.func50 rfl rfl rfl rfl ?_; refine zS ?_; refine zy (.bool false) rfl rfl ?_; refine zN ?_; refine zS ?_; refine zx (zl a1 n1 c1) rfl rfl ?_; refine zx (.func (.func k2) (fi2).toArray (ca2).toArray) rfl rfl ?_; obtain ⟨y3, hy3, H⟩ := bnd H; refine zO rfl (zC cb72 (f72_ok (x0 := x0) (x1 := x1) hS.sat h1 hf2 hy3) rfl rfl (fun w4 hb => ?_)); have hS := hS.keep hb; have hO := hO.below hb; refine zV (rn_geq rfl rfl) rfl ?_; refine zy (.bool (decide (0 ≤ y3))) rfl rfl ?_; refine zN ?_; refine WC_ret ?_
 have H : some (decide (0 ≤ y3)) = some r := H
 have H := oi H; subst H
 exact ⟨rfl, hS.below⟩
set_option maxHeartbeats 1000000 in
theorem f51_ok {G0 : Gm} {w0 : World} (hS0 : Sat G0 w0) {x0 : TLandMemory} {x1 : TLandBook} {bq1 : Nat} {a1 : Option Addr} {n1 c1 : Nat} {a2 : Option Addr} {n2 c2 : Nat} {a3 : Option Addr} {n3 c3 : Nat} (hcq1 : Cells G0 bq1 0 [zl a1 n1 c1, zl a2 n2 c2, zl a3 n3 c3]) (h1 : RSl RTLandPerson 2 G0 a1 n1 c1 x1.People) (h2 : RSl RTLandEvent 2 G0 a2 n2 c2 x1.Events) (h3 : RSl RTLandMemory 4 G0 a3 n3 c3 x1.Memories) {r : Bool} (H : f51 x0 x1 = some r) :
  Calls Tryz.prog 51 #[.agg #[zi x0.From, zi x0.To, zi x0.Years.Low, zi x0.Years.High], zp bq1] w0 (RetV w0 (.bool r)) := by
 have hS := Since.start hS0
 have hO : Owns G0 w0 w0.heap.size [] := Owns.nil (Nat.le_refl _)
 unfold f51 at H
 refine enter1 (N := 50) (shutV _ _) Tryz.func51 rfl rfl rfl rfl ?_; refine zS ?_; refine zO rfl (zW (v := fun b => zp b) (cs := [zi x0.From, zi x0.To, zi x0.Years.Low, zi x0.Years.High]) (e := 60) (rn_boxA rfl) hS.sat rfl (fun b4 G6 w5 hg hcb4 => ?_)); have hS := hS.grow hg; have hO := hO.grow hg
 have leG6 := hg.le
 refine zy (.bool false) rfl rfl ?_; refine zN ?_; refine zQ ?_; obtain ⟨q7, hq7, H⟩ := bnd H; refine zM (fun F w => ∃ (Fb : Fr) (G : Gm), F = upds Fb [(3, .bool q7)] ∧ Gle G6 G ∧ Since w0.heap.size G0 w0 G w ∧ Owns G w w0.heap.size []) ?_ ?_
 ·have Hoq7 := H; have H := hq7; refine zR ?_; refine zV (zF fd60_0 rfl) rfl ?_; refine zV (zL na3 rfl (hS.sat.cell (hcb4 0 _ rfl))) rfl ?_; refine zV (zF fd26_1 rfl) rfl ?_; refine zV (zL na23 rfl ((hS.sat.le leG6).cell (hcq1 1 _ rfl))) rfl ?_; refine zV (rn_len sl23 rfl rfl (h2.mono RTLandEvent_mono leG6).1) rfl ?_; refine zV (rn_sub rfl rfl) rfl ?_; obtain ⟨y8, hy8, H⟩ := bnd H; refine zO rfl (zC cb37 (f37_ok (x0 := x0.From) (x1 := 0) (x2 := IntKind.i64.wrap ((x1.Events.length : Int) - 1)) hS.sat  hy8) rfl rfl (fun w9 hb => ?_)); have hS := hS.keep hb; have hO := hO.below hb; refine zV (rn_not rfl) rfl ?_; refine zx (.bool (!y8)) rfl rfl ?_
  rcases bcases (!y8) with hb10 | hb10
  ·have H := ifT hb10 H; refine zG rfl hb10 rfl rfl rfl ?_; refine zG rfl hb10 rfl rfl rfl ?_; refine zG rfl hb10 rfl rfl rfl ?_; refine zG rfl hb10 rfl rfl rfl ?_; refine zG rfl hb10 rfl rfl rfl ?_; refine zG rfl hb10 rfl rfl rfl ?_; refine zG rfl hb10 rfl rfl rfl ?_; refine zG rfl hb10 rfl rfl rfl ?_; refine zV (rn_pickT (v := (.bool true)) rfl hb10 rfl) rfl ?_; refine zx (.bool true) rfl rfl ?_; refine zG rfl rfl rfl rfl rfl ?_; refine zG rfl rfl rfl rfl rfl ?_; refine zG rfl rfl rfl rfl rfl ?_; refine zG rfl rfl rfl rfl rfl ?_; refine zG rfl rfl rfl rfl rfl ?_; refine zV (rn_pickT (v := (.bool true)) rfl rfl rfl) rfl ?_; refine zx (.bool true) rfl rfl ?_; refine zG rfl rfl rfl rfl rfl ?_; refine zG rfl rfl rfl rfl rfl ?_; refine zG rfl rfl rfl rfl rfl ?_; refine zG rfl rfl rfl rfl rfl ?_; refine zV (rn_pickT (v := (.bool true)) rfl rfl rfl) rfl ?_; refine zx (.bool true) rfl rfl ?_; refine zG rfl rfl rfl rfl rfl ?_; refine zG rfl rfl rfl rfl rfl ?_; refine zG rfl rfl rfl rfl rfl ?_; refine zG rfl rfl rfl rfl rfl ?_; refine zG rfl rfl rfl rfl rfl ?_; refine zG rfl rfl rfl rfl rfl ?_; refine zG rfl rfl rfl rfl rfl ?_; refine zV (rn_pickT (v := (.bool true)) rfl rfl rfl) rfl ?_; refine zx (.bool true) rfl rfl ?_; refine zG rfl rfl rfl rfl rfl ?_; refine zG rfl rfl rfl rfl rfl ?_; refine zG rfl rfl rfl rfl rfl ?_; refine zG rfl rfl rfl rfl rfl ?_; refine zV (rn_pickT (v := (.bool true)) rfl rfl rfl) rfl ?_; refine zy (.bool true) rfl rfl ?_; refine zN ?_
   have hO : Owns _ _ _ ([]) := hO
   have H := oi H; subst H
   exact ⟨_, G6, upds_self _ _ ⟨rfl, trivial⟩, Gle.refl _, hS, hO⟩
  ·have H := ifF hb10 H; refine zY rfl hb10 rfl rfl ?_; refine zV (zF fd60_1 rfl) rfl ?_; refine zY rfl hb10 rfl rfl ?_; refine zV (zL na3 rfl (hS.sat.cell (hcb4 1 _ rfl))) rfl ?_; refine zY rfl hb10 rfl rfl ?_; refine zV (zF fd26_1 rfl) rfl ?_; refine zY rfl hb10 rfl rfl ?_; refine zV (zL na23 rfl ((hS.sat.le leG6).cell (hcq1 1 _ rfl))) rfl ?_; refine zY rfl hb10 rfl rfl ?_; refine zV (rn_len sl23 rfl rfl (h2.mono RTLandEvent_mono leG6).1) rfl ?_; refine zY rfl hb10 rfl rfl ?_; refine zV (rn_sub rfl rfl) rfl ?_; refine zY rfl hb10 rfl rfl ?_; obtain ⟨y11, hy11, H⟩ := bnd H; refine zO rfl (zC cb37 (f37_ok (x0 := x0.To) (x1 := 0) (x2 := IntKind.i64.wrap ((x1.Events.length : Int) - 1)) hS.sat  hy11) rfl rfl (fun w12 hb => ?_)); have hS := hS.keep hb; have hO := hO.below hb; refine zY rfl hb10 rfl rfl ?_; refine zV (rn_not rfl) rfl ?_; refine zV (rn_pickF (v := (.bool (!y11))) rfl hb10 rfl) rfl ?_; refine zx (.bool (!y11)) rfl rfl ?_
   rcases bcases (!y11) with hb13 | hb13
   ·have H := ifT hb13 H; refine zG rfl hb13 rfl rfl rfl ?_; refine zG rfl hb13 rfl rfl rfl ?_; refine zG rfl hb13 rfl rfl rfl ?_; refine zG rfl hb13 rfl rfl rfl ?_; refine zG rfl hb13 rfl rfl rfl ?_; refine zV (rn_pickT (v := (.bool true)) rfl hb13 rfl) rfl ?_; refine zx (.bool true) rfl rfl ?_; refine zG rfl rfl rfl rfl rfl ?_; refine zG rfl rfl rfl rfl rfl ?_; refine zG rfl rfl rfl rfl rfl ?_; refine zG rfl rfl rfl rfl rfl ?_; refine zV (rn_pickT (v := (.bool true)) rfl rfl rfl) rfl ?_; refine zx (.bool true) rfl rfl ?_; refine zG rfl rfl rfl rfl rfl ?_; refine zG rfl rfl rfl rfl rfl ?_; refine zG rfl rfl rfl rfl rfl ?_; refine zG rfl rfl rfl rfl rfl ?_; refine zG rfl rfl rfl rfl rfl ?_; refine zG rfl rfl rfl rfl rfl ?_; refine zG rfl rfl rfl rfl rfl ?_; refine zV (rn_pickT (v := (.bool true)) rfl rfl rfl) rfl ?_; refine zx (.bool true) rfl rfl ?_; refine zG rfl rfl rfl rfl rfl ?_; refine zG rfl rfl rfl rfl rfl ?_; refine zG rfl rfl rfl rfl rfl ?_; refine zG rfl rfl rfl rfl rfl ?_; refine zV (rn_pickT (v := (.bool true)) rfl rfl rfl) rfl ?_; refine zy (.bool true) rfl rfl ?_; refine zN ?_
    have hO : Owns _ _ _ ([]) := hO
    have H := oi H; subst H
    exact ⟨_, G6, upds_self _ _ ⟨rfl, trivial⟩, Gle.refl _, hS, hO⟩
   ·have H := ifF hb13 H; refine zY rfl hb13 rfl rfl ?_; refine zV (zF fd60_0 rfl) rfl ?_; refine zY rfl hb13 rfl rfl ?_; refine zV (zL na3 rfl (hS.sat.cell (hcb4 0 _ rfl))) rfl ?_; refine zY rfl hb13 rfl rfl ?_; refine zV (zF fd60_1 rfl) rfl ?_; refine zY rfl hb13 rfl rfl ?_; refine zV (zL na3 rfl (hS.sat.cell (hcb4 1 _ rfl))) rfl ?_; refine zY rfl hb13 rfl rfl ?_; refine zV (rn_eql rfl rfl) rfl ?_; refine zV (rn_pickF (v := (.bool (x0.From == x0.To))) rfl hb13 rfl) rfl ?_; refine zx (.bool (x0.From == x0.To)) rfl rfl ?_
    rcases bcases (x0.From == x0.To) with hb14 | hb14
    ·have H := ifT hb14 H; refine zG rfl hb14 rfl rfl rfl ?_; refine zG rfl hb14 rfl rfl rfl ?_; refine zG rfl hb14 rfl rfl rfl ?_; refine zG rfl hb14 rfl rfl rfl ?_; refine zV (rn_pickT (v := (.bool true)) rfl hb14 rfl) rfl ?_; refine zx (.bool true) rfl rfl ?_; refine zG rfl rfl rfl rfl rfl ?_; refine zG rfl rfl rfl rfl rfl ?_; refine zG rfl rfl rfl rfl rfl ?_; refine zG rfl rfl rfl rfl rfl ?_; refine zG rfl rfl rfl rfl rfl ?_; refine zG rfl rfl rfl rfl rfl ?_; refine zG rfl rfl rfl rfl rfl ?_; refine zV (rn_pickT (v := (.bool true)) rfl rfl rfl) rfl ?_; refine zx (.bool true) rfl rfl ?_; refine zG rfl rfl rfl rfl rfl ?_; refine zG rfl rfl rfl rfl rfl ?_; refine zG rfl rfl rfl rfl rfl ?_; refine zG rfl rfl rfl rfl rfl ?_; refine zV (rn_pickT (v := (.bool true)) rfl rfl rfl) rfl ?_; refine zy (.bool true) rfl rfl ?_; refine zN ?_
     have hO : Owns _ _ _ ([]) := hO
     have H := oi H; subst H
     exact ⟨_, G6, upds_self _ _ ⟨rfl, trivial⟩, Gle.refl _, hS, hO⟩
    ·have H := ifF hb14 H; refine zY rfl hb14 rfl rfl ?_; refine zV (zF fd60_2 rfl) rfl ?_; refine zY rfl hb14 rfl rfl ?_; refine zV (zF fd46_0 rfl) rfl ?_; refine zY rfl hb14 rfl rfl ?_; refine zV (zL na3 rfl (hS.sat.cell (hcb4 2 _ rfl))) rfl ?_; refine zY rfl hb14 rfl rfl ?_; refine zV (rn_lss rfl rfl) rfl ?_; refine zV (rn_pickF (v := (.bool (decide (x0.Years.Low < (-1000))))) rfl hb14 rfl) rfl ?_; refine zV (zm (v := (.bool (decide (x0.Years.Low < (-1000))))) rfl) rfl ?_
     rcases bcases (decide (x0.Years.Low < (-1000))) with hb15 | hb15
     ·have H := ifT hb15 H; refine zG rfl hb15 rfl rfl rfl ?_; refine zG rfl hb15 rfl rfl rfl ?_; refine zG rfl hb15 rfl rfl rfl ?_; refine zG rfl hb15 rfl rfl rfl ?_; refine zG rfl hb15 rfl rfl rfl ?_; refine zG rfl hb15 rfl rfl rfl ?_; refine zG rfl hb15 rfl rfl rfl ?_; refine zV (rn_pickT (v := (.bool true)) rfl hb15 rfl) rfl ?_; refine zx (.bool true) rfl rfl ?_; refine zG rfl rfl rfl rfl rfl ?_; refine zG rfl rfl rfl rfl rfl ?_; refine zG rfl rfl rfl rfl rfl ?_; refine zG rfl rfl rfl rfl rfl ?_; refine zV (rn_pickT (v := (.bool true)) rfl rfl rfl) rfl ?_; refine zy (.bool true) rfl rfl ?_; refine zN ?_
      have hO : Owns _ _ _ ([]) := hO
      have H := oi H; subst H
      exact ⟨_, G6, upds_self _ _ ⟨rfl, trivial⟩, Gle.refl _, hS, hO⟩
     ·have H := ifF hb15 H; refine zY rfl hb15 rfl rfl ?_; refine zV (zF fd60_2 rfl) rfl ?_; refine zY rfl hb15 rfl rfl ?_; refine zV (zF fd46_0 rfl) rfl ?_; refine zY rfl hb15 rfl rfl ?_; refine zV (zL na3 rfl (hS.sat.cell (hcb4 2 _ rfl))) rfl ?_; refine zY rfl hb15 rfl rfl ?_; refine zV (zF fd60_2 rfl) rfl ?_; refine zY rfl hb15 rfl rfl ?_; refine zV (zF fd46_1 rfl) rfl ?_; refine zY rfl hb15 rfl rfl ?_; refine zV (zL na3 rfl (hS.sat.cell (hcb4 3 _ rfl))) rfl ?_; refine zY rfl hb15 rfl rfl ?_; refine zV (rn_gtr rfl rfl) rfl ?_; refine zV (rn_pickF (v := (.bool (decide (x0.Years.High < x0.Years.Low)))) rfl hb15 rfl) rfl ?_; refine zx (.bool (decide (x0.Years.High < x0.Years.Low))) rfl rfl ?_
      rcases bcases (decide (x0.Years.High < x0.Years.Low)) with hb16 | hb16
      ·have H := ifT hb16 H; refine zG rfl hb16 rfl rfl rfl ?_; refine zG rfl hb16 rfl rfl rfl ?_; refine zG rfl hb16 rfl rfl rfl ?_; refine zG rfl hb16 rfl rfl rfl ?_; refine zV (rn_pickT (v := (.bool true)) rfl hb16 rfl) rfl ?_; refine zy (.bool true) rfl rfl ?_; refine zN ?_
       have hO : Owns _ _ _ ([]) := hO
       have H := oi H; subst H
       exact ⟨_, G6, upds_self _ _ ⟨rfl, trivial⟩, Gle.refl _, hS, hO⟩
      ·have H := ifF hb16 H; refine zY rfl hb16 rfl rfl ?_; refine zV (zF fd60_2 rfl) rfl ?_; refine zY rfl hb16 rfl rfl ?_; refine zV (zF fd46_1 rfl) rfl ?_; refine zY rfl hb16 rfl rfl ?_; refine zV (zL na3 rfl (hS.sat.cell (hcb4 3 _ rfl))) rfl ?_; refine zY rfl hb16 rfl rfl ?_; refine zV (rn_gtr rfl rfl) rfl ?_; refine zV (rn_pickF (v := (.bool (decide (1000 < x0.Years.High)))) rfl hb16 rfl) rfl ?_; refine zy (.bool (decide (1000 < x0.Years.High))) rfl rfl ?_; refine zN ?_
       have hO : Owns _ _ _ ([]) := hO
       have H := oi H; subst H
       exact ⟨_, G6, upds_self _ _ ⟨rfl, trivial⟩, Gle.refl _, hS, hO⟩
 ·rintro F w17 ⟨Fb, G18, rfl, leG18, hS, hO⟩
  refine WC_ret ?_
  have H : some q7 = some r := H
  have H := oi H; subst H
  exact ⟨rfl, hS.below⟩
set_option maxHeartbeats 1000000 in
theorem f22_ok {G0 : Gm} {w0 : World} (hS0 : Sat G0 w0) {x0 : TLandBook} {a1 : Option Addr} {n1 c1 : Nat} {a2 : Option Addr} {n2 c2 : Nat} {a3 : Option Addr} {n3 c3 : Nat} (h1 : RSl RTLandPerson 2 G0 a1 n1 c1 x0.People) (h2 : RSl RTLandEvent 2 G0 a2 n2 c2 x0.Events) (h3 : RSl RTLandMemory 4 G0 a3 n3 c3 x0.Memories) {r : Bool} (H : f22 x0 = some r) :
  Calls Tryz.prog 22 #[.agg #[zl a1 n1 c1, zl a2 n2 c2, zl a3 n3 c3]] w0 (RetV w0 (.bool r)) := by
 have hS := Since.start hS0
 have hO : Owns G0 w0 w0.heap.size [] := Owns.nil (Nat.le_refl _)
 unfold f22 at H
 refine enter1 (N := 58) (shutV _ _) Tryz.func22 rfl rfl rfl rfl ?_; refine zS ?_; refine zO rfl (zW (v := fun b => zp b) (cs := [zl a1 n1 c1, zl a2 n2 c2, zl a3 n3 c3]) (e := 26) (rn_boxA rfl) hS.sat rfl (fun b4 G6 w5 hg hcb4 => ?_)); have hS := hS.grow hg; have hO := hO.grow hg
 have leG6 := hg.le
 refine zy (.bool false) rfl rfl ?_; refine zN ?_; refine zQ ?_; refine zS ?_; refine zV (zF fd26_0 rfl) rfl ?_; refine zV (zL na22 rfl (hS.sat.cell (hcb4 0 _ rfl))) rfl ?_; refine zV (rn_len sl22 rfl rfl (h1.mono RTLandPerson_mono leG6).1) rfl ?_; refine zx (zi 0) rfl rfl ?_; refine zN ?_; obtain ⟨q9, hq9, H⟩ := bnd H; refine zM (fun F w => ∃ (p8 : Unit) (Fb : Fr) (G : Gm), q9 = .inl p8 ∧ F = upds Fb [(1, zp b4)] ∧ Gle G6 G ∧ Since w0.heap.size G0 w0 G w ∧ Owns G w w0.heap.size []) ?_ ?_
 ·refine WC_block (WC_loop hq9 (fun s7 F w => ∃ (Fb : Fr) (G : Gm), F = upds Fb [(1, zp b4), (6, zl a1 n1 c1), (7, zi (x0.People.length : Int)), (8, zi s7)] ∧ Gle G6 G ∧ Since w0.heap.size G0 w0 G w ∧ Owns G w w0.heap.size []) ?_ ?_)
  ·have hO : Owns _ _ _ ([]) := hO
   exact ⟨_, G6, upds_self _ _ ⟨rfl, rfl, rfl, rfl, trivial⟩, Gle.refl _, hS, hO⟩
  ·rintro s7 F w11 t10 ⟨Fb, G12, rfl, leG12, hS, hO⟩
   intro H1 hqq9
   have Hoq9 := H; have H := H1
   unfold f22_b0 at H
   refine zS ?_; refine zV (rn_lss rfl rfl) rfl ?_; refine zN ?_; refine zQ ?_; refine zT rfl (fun hb13 => ?_) (fun hb13 => ?_)
   ·have H := ifT hb13 H; refine zP ?_; refine zQ ?_; refine WC_block ?_; refine zS ?_; refine zx (zi s7) rfl rfl ?_; obtain ⟨y14, hy14, H⟩ := bnd H
    have l0_2 := leG6.trans leG12
    refine WL_idx sl22 (h1.mono RTLandPerson_mono l0_2) hy14 rfl rfl rfl ?_
    rintro b15 o15 _ hcb15 _ ⟨⟩
    refine zV (rn_loadA ag54 (cs := [zi y14.Mother, zi y14.Adopted]) rfl rfl (fun j v hj => hS.sat.cell (hcb15.drop_take 0 2 j v hj))) rfl ?_
    refine zO rfl (zU (v := fun b => zp b) (cs := [zi 0, zi 0]) (e := 54) (by kernel_rfl) hS.sat hO rfl 2 1 rfl (by decide) (fun b16 w17 hb hO => ?_))
    have hS := hS.keep hb; refine zy (zi s7) rfl rfl ?_; refine zO rfl (OpP_store (vs := [zi y14.Mother, zi y14.Adopted]) sz54 hS hO (k := 0) rfl rfl rfl rfl rfl (one_all rfl) (Nat.le_of_ble_eq_true rfl) (fun w19 hS hO => ?_))
    have hO : Owns _ _ _ ([zb 54 2 b16 [zi y14.Mother, zi y14.Adopted]]) := hO
    obtain ⟨G20, leG20, hS, hO, hqG20, _⟩ := hO.freeze hS (k := 0) rfl
    have hcG20 : Cells G20 b16 0 [zi y14.Mother, zi y14.Adopted] := (hqG20 _ _ _ _ rfl)
    refine zN ?_; refine zQ ?_; obtain ⟨q21, hq21, H⟩ := bnd H; refine zM (fun F w => ∃ (Fb : Fr) (G : Gm), F = upds Fb [(1, zp b4), (6, zl a1 n1 c1), (7, zi (x0.People.length : Int)), (8, zi s7), (26, .bool q21)] ∧ Gle G20 G ∧ Since w0.heap.size G0 w0 G w ∧ Owns G w w0.heap.size []) ?_ ?_
    ·have Hoq21 := H; have H := hq21; refine zR ?_; refine zV (zF fd54_0 rfl) rfl ?_; refine zV (zL na3 rfl (hS.sat.cell (hcG20 0 _ rfl))) rfl ?_; refine zx (zi s7) rfl rfl ?_; refine zV (rn_sub rfl rfl) rfl ?_; obtain ⟨y22, hy22, H⟩ := bnd H; refine zO rfl (zC cb37 (f37_ok (x0 := y14.Mother) (x1 := (-1)) (x2 := IntKind.i64.wrap (s7 - 1)) hS.sat  hy22) rfl rfl (fun w23 hb => ?_)); have hS := hS.keep hb; have hO := hO.below hb; refine zV (rn_not rfl) rfl ?_; refine zx (.bool (!y22)) rfl rfl ?_
     rcases bcases (!y22) with hb24 | hb24
     ·have H := ifT hb24 H; refine zG rfl hb24 rfl rfl rfl ?_; refine zG rfl hb24 rfl rfl rfl ?_; refine zG rfl hb24 rfl rfl rfl ?_; refine zG rfl hb24 rfl rfl rfl ?_; refine zG rfl hb24 rfl rfl rfl ?_; refine zG rfl hb24 rfl rfl rfl ?_; refine zV (rn_pickT (v := (.bool true)) rfl hb24 rfl) rfl ?_; refine zN ?_
      have hO : Owns _ _ _ ([]) := hO
      have H := oi H; subst H
      exact ⟨_, G20, upds_self _ _ ⟨rfl, rfl, rfl, rfl, rfl, trivial⟩, Gle.refl _, hS, hO⟩
     ·have H := ifF hb24 H; refine zY rfl hb24 rfl rfl ?_; refine zV (zF fd54_1 rfl) rfl ?_; refine zY rfl hb24 rfl rfl ?_; refine zV (zL na3 rfl (hS.sat.cell (hcG20 1 _ rfl))) rfl ?_; refine zY rfl hb24 rfl rfl ?_; refine zx (zi s7) rfl rfl ?_; refine zY rfl hb24 rfl rfl ?_; refine zV (rn_sub rfl rfl) rfl ?_; refine zY rfl hb24 rfl rfl ?_; obtain ⟨y25, hy25, H⟩ := bnd H; refine zO rfl (zC cb37 (f37_ok (x0 := y14.Adopted) (x1 := (-1)) (x2 := IntKind.i64.wrap (s7 - 1)) hS.sat  hy25) rfl rfl (fun w26 hb => ?_)); have hS := hS.keep hb; have hO := hO.below hb; refine zY rfl hb24 rfl rfl ?_; refine zV (rn_not rfl) rfl ?_; refine zV (rn_pickF (v := (.bool (!y25))) rfl hb24 rfl) rfl ?_; refine zN ?_
      have hO : Owns _ _ _ ([]) := hO
      have H := oi H; subst H
      exact ⟨_, G20, upds_self _ _ ⟨rfl, rfl, rfl, rfl, rfl, trivial⟩, Gle.refl _, hS, hO⟩
    ·rintro F w27 ⟨Fb, G28, rfl, leG28, hS, hO⟩
     refine zT rfl (fun hb29 => ?_) (fun hb29 => ?_)
     ·have H := ifT hb29 H; refine zS ?_; refine zy (.bool false) rfl rfl ?_; refine zN ?_; refine WC_ret ?_; have H := oi H; subst H
      have hres := hqq9 _ rfl
      subst hres; have H := Hoq9
      have H : some false = some r := H
      have H := oi H; subst H
      exact ⟨rfl, hS.below⟩
     ·have H := ifF hb29 H; refine zP ?_; refine zR ?_; refine zV (rn_add rfl rfl) rfl ?_; refine zx (zi (IntKind.i64.wrap (s7 + 1))) rfl rfl ?_; refine zN ?_
      have hO : Owns _ _ _ ([]) := hO
      have H := oi H; subst H; refine ⟨_, rfl, ?_⟩
      have l1_4 := (leG12.trans leG20).trans leG28
      exact ⟨_, G28, upds_self _ _ ⟨rfl, rfl, rfl, rfl, trivial⟩, l1_4, hS, hO⟩
   ·have H := ifF hb13 H; refine WC_exit rfl ?_
    have hO : Owns _ _ _ ([]) := hO
    have H := oi H; subst H
    have hres := hqq9 _ rfl
    subst hres
    exact ⟨_, _, G12, rfl, upds_self _ _ ⟨rfl, trivial⟩, leG12, hS, hO⟩
 ·rintro F w30 ⟨p8, Fb, G31, rfl, rfl, leG31, hS, hO⟩
  refine zQ ?_; obtain ⟨q32, hq32, H⟩ := bnd H; refine zM (fun F w => ∃ (Fb : Fr) (G : Gm), F = upds Fb [(2, .bool q32)] ∧ Gle G31 G ∧ Since w0.heap.size G0 w0 G w ∧ Owns G w w0.heap.size []) ?_ ?_
  ·have Hoq32 := H; have H := hq32; refine zR ?_; refine zV (zF fd26_0 rfl) rfl ?_; refine zV (zL na22 rfl ((hS.sat.le leG31).cell (hcb4 0 _ rfl))) rfl ?_
   have l0_2 := leG6.trans leG31
   refine zV (rn_len sl22 rfl rfl (h1.mono RTLandPerson_mono l0_2).1) rfl ?_; obtain ⟨y33, hy33, H⟩ := bnd H; refine zO rfl (zC cb37 (f37_ok (x0 := (x0.People.length : Int)) (x1 := 1) (x2 := 10) hS.sat  hy33) rfl rfl (fun w34 hb => ?_)); have hS := hS.keep hb; have hO := hO.below hb; refine zx (.bool y33) rfl rfl ?_
   rcases bcases y33 with hb35 | hb35
   ·have H := ifT hb35 H; refine zY rfl hb35 rfl rfl ?_; refine zV (zF fd26_1 rfl) rfl ?_; refine zY rfl hb35 rfl rfl ?_; refine zV (zL na23 rfl ((hS.sat.le leG31).cell (hcb4 1 _ rfl))) rfl ?_; refine zY rfl hb35 rfl rfl ?_; refine zV (rn_len sl23 rfl rfl (h2.mono RTLandEvent_mono l0_2).1) rfl ?_; refine zY rfl hb35 rfl rfl ?_; obtain ⟨y36, hy36, H⟩ := bnd H; refine zO rfl (zC cb37 (f37_ok (x0 := (x0.Events.length : Int)) (x1 := 1) (x2 := 7) hS.sat  hy36) rfl rfl (fun w37 hb => ?_)); have hS := hS.keep hb; have hO := hO.below hb; refine zV (rn_pickT (v := (.bool y36)) rfl hb35 rfl) rfl ?_; refine zx (.bool y36) rfl rfl ?_
    rcases bcases y36 with hb38 | hb38
    ·have H := ifT hb38 H; refine zY rfl hb38 rfl rfl ?_; refine zV (zF fd26_2 rfl) rfl ?_; refine zY rfl hb38 rfl rfl ?_; refine zV (zL na24 rfl ((hS.sat.le leG31).cell (hcb4 2 _ rfl))) rfl ?_; refine zY rfl hb38 rfl rfl ?_; refine zV (rn_len sl24 rfl rfl (h3.mono RTLandMemory_mono l0_2).1) rfl ?_; refine zY rfl hb38 rfl rfl ?_; refine zV (rn_leq rfl rfl) rfl ?_; refine zV (rn_pickT (v := (.bool (decide ((x0.Memories.length : Int) ≤ 10)))) rfl hb38 rfl) rfl ?_; refine zV (zm (v := (.bool (decide ((x0.Memories.length : Int) ≤ 10)))) rfl) rfl ?_
     rcases bcases (decide ((x0.Memories.length : Int) ≤ 10)) with hb39 | hb39
     ·have H := ifT hb39 H; refine zY rfl hb39 rfl rfl ?_; refine zV (zF fd26_1 rfl) rfl ?_; refine zY rfl hb39 rfl rfl ?_; refine zV (zL na23 rfl ((hS.sat.le leG31).cell (hcb4 1 _ rfl))) rfl ?_; refine zY rfl hb39 rfl rfl ?_
      have hF40 : FnOk88 G31 49 [] [zp b4] (fun (z0 : TLandEvent) => f49 z0 x0) := ⟨cb49, fun G1 W1 hl hw z0 r1 H1 => f49_ok (x0 := z0) (x1 := x0) hw ((hcb4.mono leG31).mono hl) ((h1.mono RTLandPerson_mono l0_2).mono RTLandPerson_mono hl) ((h2.mono RTLandEvent_mono l0_2).mono RTLandEvent_mono hl) ((h3.mono RTLandMemory_mono l0_2).mono RTLandMemory_mono hl) H1⟩
      refine zV (rn_func (vs := []) (us := [zp b4]) rfl rfl) rfl ?_; refine zY rfl hb39 rfl rfl ?_; obtain ⟨y41, hy41, H⟩ := bnd H; refine zO rfl (zC cb48 (f48_ok (x0 := x0.Events) (x1 := (fun (z0 : TLandEvent) => f49 z0 x0)) hS.sat (h2.mono RTLandEvent_mono l0_2) hF40 hy41) rfl rfl (fun w42 hb => ?_)); have hS := hS.keep hb; have hO := hO.below hb; refine zY rfl hb39 rfl rfl ?_; refine zV (rn_not rfl) rfl ?_; refine zV (rn_pickT (v := (.bool (!y41))) rfl hb39 rfl) rfl ?_; refine zx (.bool (!y41)) rfl rfl ?_
      rcases bcases (!y41) with hb43 | hb43
      ·have H := ifT hb43 H; refine zY rfl hb43 rfl rfl ?_; refine zV (zF fd26_2 rfl) rfl ?_; refine zY rfl hb43 rfl rfl ?_; refine zV (zL na24 rfl ((hS.sat.le leG31).cell (hcb4 2 _ rfl))) rfl ?_; refine zY rfl hb43 rfl rfl ?_
       have hF44 : FnOk90 G31 51 [] [zp b4] (fun (z0 : TLandMemory) => f51 z0 x0) := ⟨cb51, fun G1 W1 hl hw z0 r1 H1 => f51_ok (x0 := z0) (x1 := x0) hw ((hcb4.mono leG31).mono hl) ((h1.mono RTLandPerson_mono l0_2).mono RTLandPerson_mono hl) ((h2.mono RTLandEvent_mono l0_2).mono RTLandEvent_mono hl) ((h3.mono RTLandMemory_mono l0_2).mono RTLandMemory_mono hl) H1⟩
       refine zV (rn_func (vs := []) (us := [zp b4]) rfl rfl) rfl ?_; refine zY rfl hb43 rfl rfl ?_; obtain ⟨y45, hy45, H⟩ := bnd H; refine zO rfl (zC cb50 (f50_ok (x0 := x0.Memories) (x1 := (fun (z0 : TLandMemory) => f51 z0 x0)) hS.sat (h3.mono RTLandMemory_mono l0_2) hF44 hy45) rfl rfl (fun w46 hb => ?_)); have hS := hS.keep hb; have hO := hO.below hb; refine zY rfl hb43 rfl rfl ?_; refine zV (rn_not rfl) rfl ?_; refine zV (rn_pickT (v := (.bool (!y45))) rfl hb43 rfl) rfl ?_; refine zy (.bool (!y45)) rfl rfl ?_; refine zN ?_
       have hO : Owns _ _ _ ([]) := hO
       have H := oi H; subst H
       exact ⟨_, G31, upds_self _ _ ⟨rfl, trivial⟩, Gle.refl _, hS, hO⟩
      ·have H := ifF hb43 H; refine zG rfl hb43 rfl rfl rfl ?_; refine zG rfl hb43 rfl rfl rfl ?_; refine zG rfl hb43 rfl rfl rfl ?_; refine zG rfl hb43 rfl rfl rfl ?_; refine zG rfl hb43 rfl rfl rfl ?_; refine zV (rn_pickF (v := (.bool false)) rfl hb43 rfl) rfl ?_; refine zy (.bool false) rfl rfl ?_; refine zN ?_
       have hO : Owns _ _ _ ([]) := hO
       have H := oi H; subst H
       exact ⟨_, G31, upds_self _ _ ⟨rfl, trivial⟩, Gle.refl _, hS, hO⟩
     ·have H := ifF hb39 H; refine zG rfl hb39 rfl rfl rfl ?_; refine zG rfl hb39 rfl rfl rfl ?_; refine zG rfl hb39 rfl rfl rfl ?_; refine zG rfl hb39 rfl rfl rfl ?_; refine zG rfl hb39 rfl rfl rfl ?_; refine zV (rn_pickF (v := (.bool false)) rfl hb39 rfl) rfl ?_; refine zx (.bool false) rfl rfl ?_; refine zG rfl rfl rfl rfl rfl ?_; refine zG rfl rfl rfl rfl rfl ?_; refine zG rfl rfl rfl rfl rfl ?_; refine zG rfl rfl rfl rfl rfl ?_; refine zG rfl rfl rfl rfl rfl ?_; refine zV (rn_pickF (v := (.bool false)) rfl rfl rfl) rfl ?_; refine zy (.bool false) rfl rfl ?_; refine zN ?_
      have hO : Owns _ _ _ ([]) := hO
      have H := oi H; subst H
      exact ⟨_, G31, upds_self _ _ ⟨rfl, trivial⟩, Gle.refl _, hS, hO⟩
    ·have H := ifF hb38 H; refine zG rfl hb38 rfl rfl rfl ?_; refine zG rfl hb38 rfl rfl rfl ?_; refine zG rfl hb38 rfl rfl rfl ?_; refine zG rfl hb38 rfl rfl rfl ?_; refine zV (rn_pickF (v := (.bool false)) rfl hb38 rfl) rfl ?_; refine zx (.bool false) rfl rfl ?_; refine zG rfl rfl rfl rfl rfl ?_; refine zG rfl rfl rfl rfl rfl ?_; refine zG rfl rfl rfl rfl rfl ?_; refine zG rfl rfl rfl rfl rfl ?_; refine zG rfl rfl rfl rfl rfl ?_; refine zV (rn_pickF (v := (.bool false)) rfl rfl rfl) rfl ?_; refine zx (.bool false) rfl rfl ?_; refine zG rfl rfl rfl rfl rfl ?_; refine zG rfl rfl rfl rfl rfl ?_; refine zG rfl rfl rfl rfl rfl ?_; refine zG rfl rfl rfl rfl rfl ?_; refine zG rfl rfl rfl rfl rfl ?_; refine zV (rn_pickF (v := (.bool false)) rfl rfl rfl) rfl ?_; refine zy (.bool false) rfl rfl ?_; refine zN ?_
     have hO : Owns _ _ _ ([]) := hO
     have H := oi H; subst H
     exact ⟨_, G31, upds_self _ _ ⟨rfl, trivial⟩, Gle.refl _, hS, hO⟩
   ·have H := ifF hb35 H; refine zG rfl hb35 rfl rfl rfl ?_; refine zG rfl hb35 rfl rfl rfl ?_; refine zG rfl hb35 rfl rfl rfl ?_; refine zG rfl hb35 rfl rfl rfl ?_; refine zV (rn_pickF (v := (.bool false)) rfl hb35 rfl) rfl ?_; refine zx (.bool false) rfl rfl ?_; refine zG rfl rfl rfl rfl rfl ?_; refine zG rfl rfl rfl rfl rfl ?_; refine zG rfl rfl rfl rfl rfl ?_; refine zG rfl rfl rfl rfl rfl ?_; refine zV (rn_pickF (v := (.bool false)) rfl rfl rfl) rfl ?_; refine zx (.bool false) rfl rfl ?_; refine zG rfl rfl rfl rfl rfl ?_; refine zG rfl rfl rfl rfl rfl ?_; refine zG rfl rfl rfl rfl rfl ?_; refine zG rfl rfl rfl rfl rfl ?_; refine zG rfl rfl rfl rfl rfl ?_; refine zV (rn_pickF (v := (.bool false)) rfl rfl rfl) rfl ?_; refine zx (.bool false) rfl rfl ?_; refine zG rfl rfl rfl rfl rfl ?_; refine zG rfl rfl rfl rfl rfl ?_; refine zG rfl rfl rfl rfl rfl ?_; refine zG rfl rfl rfl rfl rfl ?_; refine zG rfl rfl rfl rfl rfl ?_; refine zV (rn_pickF (v := (.bool false)) rfl rfl rfl) rfl ?_; refine zy (.bool false) rfl rfl ?_; refine zN ?_
    have hO : Owns _ _ _ ([]) := hO
    have H := oi H; subst H
    exact ⟨_, G31, upds_self _ _ ⟨rfl, trivial⟩, Gle.refl _, hS, hO⟩
  ·rintro F w47 ⟨Fb, G48, rfl, leG48, hS, hO⟩
   refine WC_ret ?_
   have H : some q32 = some r := H
   have H := oi H; subst H
   exact ⟨rfl, hS.below⟩
set_option maxHeartbeats 1000000 in
theorem f53_ok {G0 : Gm} {w0 : World} (hS0 : Sat G0 w0) {x0 : (List UInt8)} {x1 : (List Int)} {a1 : Option Addr} {n1 c1 : Nat} (hT : TabZ Tryz.prog G0) (h1 : RSl RInt 1 G0 a1 n1 c1 x1) {r : (List UInt8)} (H : f53 x0 x1 = some r) :
  Calls Tryz.prog 53 #[zs x0, zl a1 n1 c1] w0 (RetV w0 (zs r)) := by
 have hS := Since.start hS0
 have hO : Owns G0 w0 w0.heap.size [] := Owns.nil (Nat.le_refl _)
 unfold f53 at H
 refine enter1 (N := 21) (shutV _ _) Tryz.func53 rfl rfl rfl rfl ?_; refine zS ?_; refine zy (.string ⟨([] : List UInt8).toArray⟩) rfl rfl ?_; refine zN ?_; refine zQ ?_; refine zS ?_; refine zx (zl a1 n1 c1) rfl rfl ?_; refine zV (rn_len sl41 rfl rfl h1.1) rfl ?_; refine zx (zi 0) rfl rfl ?_; refine zN ?_; obtain ⟨q4, hq4, H⟩ := bnd H; refine zM (fun F w => ∃ (Fb : Fr) (G : Gm), F = upds Fb [(0, zs q4)] ∧ Gle G0 G ∧ Since w0.heap.size G0 w0 G w ∧ Owns G w w0.heap.size []) ?_ ?_
 ·refine WC_block (WC_loop hq4 (fun s2 F w => ∃ (Fb : Fr) (G : Gm), F = upds Fb [(0, .string ⟨s2.1.toArray⟩), (7, zl a1 n1 c1), (8, zi (x1.length : Int)), (9, zi s2.2)] ∧ Gle G0 G ∧ Since w0.heap.size G0 w0 G w ∧ Owns G w w0.heap.size []) ?_ ?_)
  ·have hO : Owns _ _ _ ([]) := hO
   exact ⟨_, G0, upds_self _ _ ⟨rfl, rfl, rfl, rfl, trivial⟩, Gle.refl _, hS, hO⟩
  ·rintro s2 F w6 t5 ⟨Fb, G7, rfl, leG7, hS, hO⟩
   intro H1 hqq4
   have Hoq4 := H; have H := H1
   unfold f53_b0 at H
   refine zS ?_; refine zV (rn_lss rfl rfl) rfl ?_; refine zN ?_; refine zQ ?_; refine zT rfl (fun hb8 => ?_) (fun hb8 => ?_)
   ·have H := ifT hb8 H; refine zP ?_; refine zQ ?_; refine WC_block ?_; refine zS ?_; obtain ⟨y9, hy9, H⟩ := bnd H; refine WL_idx sl41 (h1.mono RInt_mono leG7) hy9 rfl rfl rfl ?_
    rintro b10 o10 _ hcb10 _ ⟨⟩
    refine zV (zL na3 rfl (hS.sat.cell (hcb10 0 _ rfl))) rfl ?_; refine zy (zi y9) rfl rfl ?_; refine zN ?_; refine zR ?_; refine zx (.string ⟨s2.1.toArray⟩) rfl rfl ?_; refine zx (zi y9) rfl rfl ?_; obtain ⟨y11, hy11, H⟩ := bnd H; refine zO rfl (zC cb74 (f74_ok (n := y9) hS.sat (hT.mono leG7).tab hy11) rfl rfl (fun w12 hb => ?_)); have hS := hS.keep hb; have hO := hO.below hb; obtain ⟨y13, hy13, H⟩ := bnd H; refine zV (rn_catS rfl rfl hy13) rfl ?_; obtain ⟨y14, hy14, H⟩ := bnd H; refine zV (rn_catS rfl rfl hy14) rfl ?_; refine zy (zs y14) rfl rfl ?_; refine zN ?_; refine zR ?_; refine zV (rn_add rfl rfl) rfl ?_; refine zx (zi (IntKind.i64.wrap (s2.2 + 1))) rfl rfl ?_; refine zN ?_
    have hO : Owns _ _ _ ([]) := hO
    have H := oi H; subst H; refine ⟨_, rfl, ?_⟩
    exact ⟨_, G7, upds_self _ _ ⟨rfl, rfl, rfl, rfl, trivial⟩, leG7, hS, hO⟩
   ·have H := ifF hb8 H; refine WC_exit rfl ?_
    have hO : Owns _ _ _ ([]) := hO
    have H := oi H; subst H
    have hres := hqq4 _ rfl
    subst hres
    exact ⟨_, G7, upds_self _ _ ⟨rfl, trivial⟩, leG7, hS, hO⟩
 ·rintro F w15 ⟨Fb, G16, rfl, leG16, hS, hO⟩
  refine zS ?_; refine zx (zs q4) rfl rfl ?_; obtain ⟨y17, hy17, H⟩ := bnd H; refine zV (rn_catS rfl rfl hy17) rfl ?_; refine zy (zs y17) rfl rfl ?_; refine zN ?_; refine WC_ret ?_
  have H : some y17 = some r := H
  have H := oi H; subst H
  exact ⟨rfl, hS.below⟩
set_option maxHeartbeats 1000000 in
theorem f54_ok {G0 : Gm} {w0 : World} (hS0 : Sat G0 w0) {x0 : TLandPerson} (hT : TabZ Tryz.prog G0) {r : (List UInt8)} (H : f54 x0 = some r) :
  Calls Tryz.prog 54 #[.agg #[zi x0.Mother, zi x0.Adopted]] w0 (RetV w0 (zs r)) := by
 have hS := Since.start hS0
 have hO : Owns G0 w0 w0.heap.size [] := Owns.nil (Nat.le_refl _)
 unfold f54 at H
 refine enter1 (N := 26) (shutV _ _) Tryz.func54 rfl rfl rfl rfl ?_; refine zS ?_; refine zO rfl (zW (v := fun b => zp b) (cs := [zi x0.Mother, zi x0.Adopted]) (e := 54) (rn_boxA rfl) hS.sat rfl (fun b1 G3 w2 hg hcb1 => ?_)); have hS := hS.grow hg; have hO := hO.grow hg
 have leG3 := hg.le
 refine zy (.string ⟨([] : List UInt8).toArray⟩) rfl rfl ?_; refine zN ?_; refine zS ?_; refine zy (.string ⟨([112, 101, 114, 115, 111, 110] : List UInt8).toArray⟩) rfl rfl ?_; refine zN ?_; refine zQ ?_; refine zS ?_; refine zV (zF fd54_0 rfl) rfl ?_; refine zV (zL na3 rfl (hS.sat.cell (hcb1 0 _ rfl))) rfl ?_; refine zV (zF fd54_1 rfl) rfl ?_; refine zV (zL na3 rfl (hS.sat.cell (hcb1 1 _ rfl))) rfl ?_
 refine zV (v := (.agg #[zi x0.Mother, zi x0.Adopted])) (by kernel_rfl) rfl ?_
 refine zx (zi 0) rfl rfl ?_; refine zN ?_; refine WC_block (WC_loopI ?_); refine WI_step ?_; refine zS ?_
 refine zV (v := (.bool true)) (by kernel_rfl) rfl ?_
 refine zN ?_; refine zQ ?_; refine WC_condT _ rfl rfl ?_; refine zP ?_; refine zQ ?_; refine WC_block ?_; refine zS ?_
 refine zV (v := (zi x0.Mother)) (by kernel_rfl) rfl ?_
 refine zy (zi x0.Mother) rfl rfl ?_; refine zN ?_; refine zS ?_; refine zx (zi x0.Mother) rfl rfl ?_; obtain ⟨y4, hy4, H⟩ := bnd H; refine zO rfl (zC cb74 (f74_ok (n := x0.Mother) hS.sat (hT.mono leG3).tab hy4) rfl rfl (fun w5 hb => ?_)); have hS := hS.keep hb; have hO := hO.below hb; refine zy (zs y4) rfl rfl ?_; refine zN ?_; refine zQ ?_; obtain ⟨q6, hq6, H⟩ := bnd H; refine zM (fun F w => ∃ (Fb : Fr), F = upds Fb [(3, .string ⟨([112, 101, 114, 115, 111, 110] : List UInt8).toArray⟩), (6, zs q6), (11, .agg #[zi x0.Mother, zi x0.Adopted]), (12, zi 0)] ∧ w5 = w) ?_ ?_
 ·have Hoq6 := H; have H := hq6; refine zS ?_; refine zx (zi x0.Mother) rfl rfl ?_; refine zV (rn_eql rfl rfl) rfl ?_; refine zN ?_; refine zT rfl (fun hb7 => ?_) (fun hb7 => ?_)
  ·have H := ifT hb7 H; refine zR ?_; refine zy (.string ⟨([45] : List UInt8).toArray⟩) rfl rfl ?_; refine zN ?_; have H := oi H; subst H
   exact ⟨_, upds_self _ _ ⟨rfl, rfl, rfl, rfl, trivial⟩, rfl⟩
  ·have H := ifF hb7 H; refine zP ?_; have H := oi H; subst H
   exact ⟨_, upds_self _ _ ⟨rfl, rfl, rfl, rfl, trivial⟩, rfl⟩
 ·rintro F wl ⟨Fb, rfl, rfl⟩
  refine zR ?_; refine zx (.string ⟨([112, 101, 114, 115, 111, 110] : List UInt8).toArray⟩) rfl rfl ?_; refine zx (zs q6) rfl rfl ?_; obtain ⟨y10, hy10, H⟩ := bnd H; refine zV (rn_catS rfl rfl hy10) rfl ?_; obtain ⟨y11, hy11, H⟩ := bnd H; refine zV (rn_catS rfl rfl hy11) rfl ?_; refine zy (zs y11) rfl rfl ?_; refine zN ?_; refine zR ?_
  refine zV (v := (zi 1)) (by kernel_rfl) rfl ?_
  refine zx (zi 1) rfl rfl ?_; refine zN ?_; refine WI_step ?_; refine zS ?_
  refine zV (v := (.bool true)) (by kernel_rfl) rfl ?_
  refine zN ?_; refine zQ ?_; refine WC_condT _ rfl rfl ?_; refine zP ?_; refine zQ ?_; refine WC_block ?_; refine zS ?_
  refine zV (v := (zi x0.Adopted)) (by kernel_rfl) rfl ?_
  refine zy (zi x0.Adopted) rfl rfl ?_; refine zN ?_; refine zS ?_; refine zx (zi x0.Adopted) rfl rfl ?_; obtain ⟨y12, hy12, H⟩ := bnd H; refine zO rfl (zC cb74 (f74_ok (n := x0.Adopted) hS.sat (hT.mono leG3).tab hy12) rfl rfl (fun w13 hb => ?_)); have hS := hS.keep hb; have hO := hO.below hb; refine zy (zs y12) rfl rfl ?_; refine zN ?_; refine zQ ?_; obtain ⟨q14, hq14, H⟩ := bnd H; refine zM (fun F w => ∃ (Fb : Fr), F = upds Fb [(3, zs y11), (6, zs q14), (11, .agg #[zi x0.Mother, zi x0.Adopted]), (12, zi 1)] ∧ w13 = w) ?_ ?_
  ·have Hoq14 := H; have H := hq14; refine zS ?_; refine zx (zi x0.Adopted) rfl rfl ?_; refine zV (rn_eql rfl rfl) rfl ?_; refine zN ?_; refine zT rfl (fun hb15 => ?_) (fun hb15 => ?_)
   ·have H := ifT hb15 H; refine zR ?_; refine zy (.string ⟨([45] : List UInt8).toArray⟩) rfl rfl ?_; refine zN ?_; have H := oi H; subst H
    exact ⟨_, upds_self _ _ ⟨rfl, rfl, rfl, rfl, trivial⟩, rfl⟩
   ·have H := ifF hb15 H; refine zP ?_; have H := oi H; subst H
    exact ⟨_, upds_self _ _ ⟨rfl, rfl, rfl, rfl, trivial⟩, rfl⟩
  ·rintro F wl ⟨Fb, rfl, rfl⟩
   refine zR ?_; refine zx (zs y11) rfl rfl ?_; refine zx (zs q14) rfl rfl ?_; obtain ⟨y18, hy18, H⟩ := bnd H; refine zV (rn_catS rfl rfl hy18) rfl ?_; obtain ⟨y19, hy19, H⟩ := bnd H; refine zV (rn_catS rfl rfl hy19) rfl ?_; refine zy (zs y19) rfl rfl ?_; refine zN ?_; refine zR ?_
   refine zV (v := (zi 2)) (by kernel_rfl) rfl ?_
   refine zx (zi 2) rfl rfl ?_; refine zN ?_; refine WI_step ?_; refine zS ?_
   refine zV (v := (.bool false)) (by kernel_rfl) rfl ?_
   refine zN ?_; refine zQ ?_; refine WC_condF _ rfl rfl ?_; refine WC_exit rfl ?_; refine zS ?_; refine zx (zs y19) rfl rfl ?_; obtain ⟨y20, hy20, H⟩ := bnd H; refine zV (rn_catS rfl rfl hy20) rfl ?_; refine zy (zs y20) rfl rfl ?_; refine zN ?_; refine WC_ret ?_
   have H : some y20 = some r := H
   have H := oi H; subst H
   exact ⟨rfl, hS.below⟩
set_option maxHeartbeats 1000000 in
theorem f56_ok {G0 : Gm} {w0 : World} (hS0 : Sat G0 w0) {x0 : (List UInt8)} (hT : TabZ Tryz.prog G0) {r : (List UInt8)} (H : f56 x0 = some r) :
  Calls Tryz.prog 56 #[zs x0] w0 (RetV w0 (zs r)) := by
 have hS := Since.start hS0
 have hO : Owns G0 w0 w0.heap.size [] := Owns.nil (Nat.le_refl _)
 unfold f56 at H
 refine enter1 (N := 38) (shutV _ _) Tryz.func56 rfl rfl rfl rfl ?_; refine zS ?_; refine zy (.string ⟨([] : List UInt8).toArray⟩) rfl rfl ?_; refine zN ?_; refine zS ?_; refine zy (zi 0) rfl rfl ?_; refine zy (zi 0) rfl rfl ?_; refine zN ?_; refine zQ ?_; refine zS ?_; refine zx (zs x0) rfl rfl ?_; refine zO rfl (OpP_rangeS Tryz.underlying9 hS hO rfl rfl (fun r1 w2 hS hO => ?_))
 have hO : Owns _ _ _ ([⟨0, 1, 2, .map (some r1), [zs x0, zi ((0 : Nat) : Int)]⟩]) := hO
 refine zN ?_; obtain ⟨q6, hq6, H⟩ := bnd H; refine zM (fun F w => ∃ (Fb : Fr) (G : Gm), F = upds Fb [(3, zi q6.1)] ∧ Gle G0 G ∧ Since w0.heap.size G0 w0 G w ∧ Owns G w w0.heap.size [⟨0, 1, 2, .map (some r1), [zs x0, zi ((q6.2 : Nat) : Int)]⟩]) ?_ ?_
 ·refine WC_block (WC_loop hq6 (fun s4 F w => ∃ (Fb : Fr) (G : Gm), F = upds Fb [(3, zi s4.1), (4, zi s4.2.1), (8, zp r1)] ∧ Gle G0 G ∧ Since w0.heap.size G0 w0 G w ∧ Owns G w w0.heap.size [⟨0, 1, 2, .map (some r1), [zs x0, zi ((s4.2.2 : Nat) : Int)]⟩]) ?_ ?_)
  ·have hO : Owns _ _ _ ([⟨0, 1, 2, .map (some r1), [zs x0, zi ((0 : Nat) : Int)]⟩]) := hO
   exact ⟨_, G0, upds_self _ _ ⟨rfl, rfl, rfl, trivial⟩, Gle.refl _, hS, hO⟩
  ·rintro s4 F w8 t7 ⟨Fb, G9, rfl, leG9, hS, hO⟩
   intro H1 hqq6
   have Hoq6 := H; have H := H1
   unfold f56_b0 at H
   refine zS ?_
   rcases bcases (decide (s4.2.2 < x0.length)) with hb10 | hb10
   ·have H := ifT hb10 H; refine zO rfl (OpP_nextN (k := 0) hS hO rfl rfl rfl hb10 (fun w11 hS hO => ?_))
    have hO : Owns _ _ _ ([⟨0, 1, 2, .map (some r1), [zs x0, zi (((s4.2.2 + (decN x0 s4.2.2).2) : Nat) : Int)]⟩]) := hO
    refine zV (zX (v := (.bool true)) rfl rfl) rfl ?_; refine zN ?_; refine zQ ?_; refine WC_condT _ rfl rfl ?_; refine zP ?_; refine WC_block ?_; refine zS ?_; refine zV (zX (v := (.int .i32 ((decN x0 s4.2.2).1))) rfl rfl) rfl ?_; refine zy (.int .i32 ((decN x0 s4.2.2).1)) rfl rfl ?_; refine zN ?_; refine zQ ?_; obtain ⟨q12, hq12, H⟩ := bnd H; refine zM (fun F w => ∃ (Fb : Fr), F = upds Fb [(3, zi s4.1), (4, zi s4.2.1), (6, .int .i32 ((decN x0 s4.2.2).1)), (8, zp r1), (17, .bool q12)] ∧ w11 = w) ?_ ?_
    ·have Hoq12 := H; have H := hq12; refine zR ?_; refine zx (.int .i32 ((decN x0 s4.2.2).1)) rfl rfl ?_; refine zV (rn_geq rfl rfl) rfl ?_; refine zV (zm (v := (.bool (decide (48 ≤ ((decN x0 s4.2.2).1))))) rfl) rfl ?_
     rcases bcases (decide (48 ≤ ((decN x0 s4.2.2).1))) with hb13 | hb13
     ·have H := ifT hb13 H; refine zY rfl hb13 rfl rfl ?_; refine zx (.int .i32 ((decN x0 s4.2.2).1)) rfl rfl ?_; refine zY rfl hb13 rfl rfl ?_; refine zV (rn_leq rfl rfl) rfl ?_; refine zV (rn_pickT (v := (.bool (decide (((decN x0 s4.2.2).1) ≤ 57)))) rfl hb13 rfl) rfl ?_; refine zN ?_; have H := oi H; subst H
      exact ⟨_, upds_self _ _ ⟨rfl, rfl, rfl, rfl, rfl, trivial⟩, rfl⟩
     ·have H := ifF hb13 H; refine zG rfl hb13 rfl rfl rfl ?_; refine zG rfl hb13 rfl rfl rfl ?_; refine zV (rn_pickF (v := (.bool false)) rfl hb13 rfl) rfl ?_; refine zN ?_; have H := oi H; subst H
      exact ⟨_, upds_self _ _ ⟨rfl, rfl, rfl, rfl, rfl, trivial⟩, rfl⟩
    ·rintro F wl ⟨Fb, rfl, rfl⟩
     refine zT rfl (fun hb16 => ?_) (fun hb16 => ?_)
     ·have H := ifT hb16 H; refine zS ?_; refine zx (zi s4.1) rfl rfl ?_; refine zx (.int .i32 ((decN x0 s4.2.2).1)) rfl rfl ?_; refine zV (rn_sub rfl rfl) rfl ?_; refine zV (rn_conv Tryz.underlying21 Tryz.underlying3 rfl) rfl ?_; refine zx (zi s4.2.1) rfl rfl ?_
      refine zV (rn_rem rfl rfl (by decide)) rfl ?_
      refine zV (rn_add rfl rfl) rfl ?_; refine zV (rn_mul rfl rfl) rfl ?_; refine zV (rn_add rfl rfl) rfl ?_; refine zV (zA (v := (zi (IntKind.i64.wrap (s4.1 + (IntKind.i64.wrap ((IntKind.i64.wrap (IntKind.i32.wrap (((decN x0 s4.2.2).1) - 48))) * (IntKind.i64.wrap (1 + (s4.2.1.tmod 9))))))))) rfl) rfl ?_; refine zN ?_; refine zR ?_; refine zx (zi s4.2.1) rfl rfl ?_; refine zV (rn_add rfl rfl) rfl ?_; refine zy (zi (IntKind.i64.wrap (s4.2.1 + 1))) rfl rfl ?_; refine zN ?_
      have hO : Owns _ _ _ ([⟨0, 1, 2, .map (some r1), [zs x0, zi (((s4.2.2 + (decN x0 s4.2.2).2) : Nat) : Int)]⟩]) := hO
      have H := oi H; subst H; refine ⟨_, rfl, ?_⟩
      exact ⟨_, G9, upds_self _ _ ⟨rfl, rfl, rfl, trivial⟩, leG9, hS, hO⟩
     ·have H := ifF hb16 H; refine zP ?_
      have hO : Owns _ _ _ ([⟨0, 1, 2, .map (some r1), [zs x0, zi (((s4.2.2 + (decN x0 s4.2.2).2) : Nat) : Int)]⟩]) := hO
      have H := oi H; subst H; refine ⟨_, rfl, ?_⟩
      exact ⟨_, G9, upds_self _ _ ⟨rfl, rfl, rfl, trivial⟩, leG9, hS, hO⟩
   ·have H := ifF hb10 H; refine zO rfl (OpP_overN (k := 0) hO rfl rfl rfl hb10 ?_); refine zV (zX (v := (.bool false)) rfl rfl) rfl ?_; refine zN ?_; refine zQ ?_; refine WC_condF _ rfl rfl ?_; refine WC_exit rfl ?_
    have hO : Owns _ _ _ ([⟨0, 1, 2, .map (some r1), [zs x0, zi ((s4.2.2 : Nat) : Int)]⟩]) := hO
    have H := oi H; subst H
    have hres := hqq6 _ rfl
    subst hres
    exact ⟨_, G9, upds_self _ _ ⟨rfl, trivial⟩, leG9, hS, hO⟩
 ·rintro F w17 ⟨Fb, G18, rfl, leG18, hS, hO⟩
  refine zS ?_; refine zx (zi q6.1) rfl rfl ?_
  refine zV (rn_rem rfl rfl (by decide)) rfl ?_
  refine zy (zi (q6.1.tmod 97)) rfl rfl ?_; refine zN ?_; refine zS ?_; refine zx (zi (q6.1.tmod 97)) rfl rfl ?_
  refine zV (rn_quo rfl rfl (by decide)) rfl ?_
  obtain ⟨y19, hy19, H⟩ := bnd H; refine zO rfl (zC cb74 (f74_ok (n := IntKind.i64.wrap ((q6.1.tmod 97).tdiv 10)) hS.sat (hT.mono leG18).tab hy19) rfl rfl (fun w20 hb => ?_)); have hS := hS.keep hb; have hO := hO.below hb; refine zx (zi (q6.1.tmod 97)) rfl rfl ?_
  refine zV (rn_rem rfl rfl (by decide)) rfl ?_
  obtain ⟨y21, hy21, H⟩ := bnd H; refine zO rfl (zC cb74 (f74_ok (n := (q6.1.tmod 97).tmod 10) hS.sat (hT.mono leG18).tab hy21) rfl rfl (fun w22 hb => ?_)); have hS := hS.keep hb; have hO := hO.below hb; obtain ⟨y23, hy23, H⟩ := bnd H; refine zV (rn_catS rfl rfl hy23) rfl ?_; refine zy (zs y23) rfl rfl ?_; refine zN ?_; refine WC_ret ?_
  have H : some y23 = some r := H
  have H := oi H; subst H
  exact ⟨rfl, hS.below⟩
set_option maxHeartbeats 1000000 in
theorem f23_ok {G0 : Gm} {w0 : World} (hS0 : Sat G0 w0) {x0 : TLandBook} {a1 : Option Addr} {n1 c1 : Nat} {a2 : Option Addr} {n2 c2 : Nat} {a3 : Option Addr} {n3 c3 : Nat} (hT : TabZ Tryz.prog G0) (h1 : RSl RTLandPerson 2 G0 a1 n1 c1 x0.People) (h2 : RSl RTLandEvent 2 G0 a2 n2 c2 x0.Events) (h3 : RSl RTLandMemory 4 G0 a3 n3 c3 x0.Memories) {r : (List UInt8)} (H : f23 x0 = some r) :
  Calls Tryz.prog 23 #[.agg #[zl a1 n1 c1, zl a2 n2 c2, zl a3 n3 c3]] w0 (RetV w0 (zs r)) := by
 have hS := Since.start hS0
 have hO : Owns G0 w0 w0.heap.size [] := Owns.nil (Nat.le_refl _)
 unfold f23 at H
 refine enter1 (N := 75) (shutV _ _) Tryz.func23 rfl rfl rfl rfl ?_; refine zS ?_; refine zO rfl (zW (v := fun b => zp b) (cs := [zl a1 n1 c1, zl a2 n2 c2, zl a3 n3 c3]) (e := 26) (rn_boxA rfl) hS.sat rfl (fun b4 G6 w5 hg hcb4 => ?_)); have hS := hS.grow hg; have hO := hO.grow hg
 have leG6 := hg.le
 refine zy (.string ⟨([] : List UInt8).toArray⟩) rfl rfl ?_; refine zN ?_; refine zS ?_
 refine zO rfl (OpP_newBx (e := 93) (v := fun b => zp b) (u1 := .pointer none) (u2 := zl none 0 0) (by kernel_rfl) hS hO rfl (fun b7 w8 hS hO => ?_))
 have hO := hO.cons_nil 5 1
 have hO : Owns _ _ _ ([⟨5, 1, 0, zl none 0 0, []⟩, bx 93 b7 (.pointer none) (zl none 0 0)]) := hO
 refine zN ?_; refine zS ?_; refine zV (zF fd26_0 rfl) rfl ?_; refine zV (zL na22 rfl (hS.sat.cell (hcb4 0 _ rfl))) rfl ?_; refine zV (rn_len sl22 rfl rfl (h1.mono RTLandPerson_mono leG6).1) rfl ?_; refine zV (zF fd26_1 rfl) rfl ?_; refine zV (zL na23 rfl (hS.sat.cell (hcb4 1 _ rfl))) rfl ?_; refine zV (rn_len sl23 rfl rfl (h2.mono RTLandEvent_mono leG6).1) rfl ?_; refine zV (zF fd26_2 rfl) rfl ?_; refine zV (zL na24 rfl (hS.sat.cell (hcb4 2 _ rfl))) rfl ?_; refine zV (rn_len sl24 rfl rfl (h3.mono RTLandMemory_mono leG6).1) rfl ?_
 refine zO rfl (zW (v := fun b => zl (some ⟨b, 0, none⟩) 3 3) (cs := [zi (x0.People.length : Int), zi (x0.Events.length : Int), zi (x0.Memories.length : Int)]) (e := 3) (by kernel_rfl) hS.sat rfl (fun b11 G13 w12 hg hcb11 => ?_))
 have hS := hS.grow hg; have hO := hO.grow hg
 have leG13 := hg.le
 have hfb11 : RSl RInt 1 G13 (some ⟨b11, 0, none⟩) 3 3 [(x0.People.length : Int), (x0.Events.length : Int), (x0.Memories.length : Int)] := RSl.of_rd hcb11 (Rd.cons (c := [zi (x0.People.length : Int)]) rfl rfl (Rd.cons (c := [zi (x0.Events.length : Int)]) rfl rfl (Rd.cons (c := [zi (x0.Memories.length : Int)]) rfl rfl (Rd.nil RInt 1 _)))) rfl (by decide)
 obtain ⟨y14, hy14, H⟩ := bnd H
 have l0_2 := leG6.trans leG13
 refine zO rfl (zC cb53 (f53_ok (x0 := ([108, 97, 110, 100] : List UInt8)) (x1 := [(x0.People.length : Int), (x0.Events.length : Int), (x0.Memories.length : Int)]) hS.sat (hT.mono l0_2) hfb11 hy14) rfl rfl (fun w15 hb => ?_)); have hS := hS.keep hb; have hO := hO.below hb; have hO := hO.front (k := 0) rfl; have hO := hO.front (k := 1) rfl
 have hO : Owns _ _ _ ([bx 93 b7 (.pointer none) (zl none 0 0), ⟨5, 1, 0, zl none 0 0, []⟩]) := hO
 obtain ⟨y16, hy16, H⟩ := bnd H; refine zO rfl (OpP_lent (fi := []) (al := [zp b7, zs y14]) (ca := []) cb52 (f52_ok (s := y14) hS hO (.inl rfl) rfl ((Rd.nil RU8 1 G6).mono RU8_mono leG13) hy16) rfl rfl rfl (fun vG18 G18 w17 L19 leG18 hS hO hvG18 => ?_)); obtain ⟨aw17, nw17, cw17, clw17, rfl, rfl, hnw17, hrw17⟩ := hvG18
 have hO : Owns _ _ _ ([bx 93 b7 (zp b7) (zl aw17 nw17 cw17), ⟨5, 1, nw17, zl aw17 nw17 cw17, clw17⟩]) := hO
 refine zN ?_; refine zQ ?_; refine zS ?_; refine zV (zF fd26_0 rfl) rfl ?_
 have l1_3 := leG13.trans leG18
 refine zV (zL na22 rfl ((hS.sat.le l1_3).cell (hcb4 0 _ rfl))) rfl ?_
 have l0_3 := l0_2.trans leG18
 refine zV (rn_len sl22 rfl rfl (h1.mono RTLandPerson_mono l0_3).1) rfl ?_; refine zx (zi 0) rfl rfl ?_; refine zN ?_; obtain ⟨q22, hq22, H⟩ := bnd H; refine zM (fun F w => ∃ (Fb : Fr) (G : Gm) (aq22_0 : Option Addr) (nq22_0 cq22_0 : Nat) (claq22_0 : List Value), F = upds Fb [(1, zp b4), (3, zp b7)] ∧ Gle G18 G ∧ Since w0.heap.size G0 w0 G w ∧ Owns G w w0.heap.size [bx 93 b7 (zp b7) (zl aq22_0 nq22_0 cq22_0), ⟨5, 1, nq22_0, zl aq22_0 nq22_0 cq22_0, claq22_0⟩] ∧ nq22_0 = q22.length ∧ Rd RU8 1 G claq22_0 q22) ?_ ?_
 ·refine WC_block (WC_loop hq22 (fun s20 F w => ∃ (Fb : Fr) (G : Gm) (as20_0 : Option Addr) (ns20_0 cs20_0 : Nat) (clas20_0 : List Value), F = upds Fb [(1, zp b4), (3, zp b7), (23, zl a1 n1 c1), (24, zi (x0.People.length : Int)), (25, zi s20.1)] ∧ Gle G18 G ∧ Since w0.heap.size G0 w0 G w ∧ Owns G w w0.heap.size [bx 93 b7 (zp b7) (zl as20_0 ns20_0 cs20_0), ⟨5, 1, ns20_0, zl as20_0 ns20_0 cs20_0, clas20_0⟩] ∧ ns20_0 = s20.2.length ∧ Rd RU8 1 G clas20_0 s20.2) ?_ ?_)
  ·have hO : Owns _ _ _ ([bx 93 b7 (zp b7) (zl aw17 nw17 cw17), ⟨5, 1, nw17, zl aw17 nw17 cw17, clw17⟩]) := hO
   exact ⟨_, G18, aw17, nw17, cw17, clw17, upds_self _ _ ⟨rfl, rfl, rfl, rfl, rfl, trivial⟩, Gle.refl _, hS, hO, hnw17, hrw17⟩
  ·rintro s20 F w24 t23 ⟨Fb, G25, as20_0, ns20_0, cs20_0, clas20_0, rfl, leG25, hS, hO, hnhs20_0, hs20_0⟩
   intro H1 hqq22
   have Hoq22 := H; have H := H1
   unfold f23_b0 at H
   refine zS ?_; refine zV (rn_lss rfl rfl) rfl ?_; refine zN ?_; refine zQ ?_; refine zT rfl (fun hb26 => ?_) (fun hb26 => ?_)
   ·have H := ifT hb26 H; refine zP ?_; refine zQ ?_; refine WC_block ?_; refine zS ?_; obtain ⟨y27, hy27, H⟩ := bnd H
    have l0_4 := l0_3.trans leG25
    refine WL_idx sl22 (h1.mono RTLandPerson_mono l0_4) hy27 rfl rfl rfl ?_
    rintro b28 o28 _ hcb28 _ ⟨⟩
    refine zV (rn_loadA ag54 (cs := [zi y27.Mother, zi y27.Adopted]) rfl rfl (fun j v hj => hS.sat.cell (hcb28.drop_take 0 2 j v hj))) rfl ?_
    refine zO rfl (zU (v := fun b => zp b) (cs := [zi 0, zi 0]) (e := 54) (by kernel_rfl) hS.sat hO rfl 2 1 rfl (by decide) (fun b29 w30 hb hO => ?_))
    have hS := hS.keep hb; refine zO rfl (OpP_store (vs := [zi y27.Mother, zi y27.Adopted]) sz54 hS hO (k := 0) rfl rfl rfl rfl rfl (one_all rfl) (Nat.le_of_ble_eq_true rfl) (fun w32 hS hO => ?_))
    have hO : Owns _ _ _ ([zb 54 2 b29 [zi y27.Mother, zi y27.Adopted], bx 93 b7 (zp b7) (zl as20_0 ns20_0 cs20_0), ⟨5, 1, ns20_0, zl as20_0 ns20_0 cs20_0, clas20_0⟩]) := hO
    obtain ⟨G33, leG33, hS, hO, hqG33, _⟩ := hO.freeze hS (k := 0) rfl
    have hcG33 : Cells G33 b29 0 [zi y27.Mother, zi y27.Adopted] := (hqG33 _ _ _ _ rfl)
    refine zN ?_; refine zR ?_; refine zV (rn_loadA ag54 (cs := [zi y27.Mother, zi y27.Adopted]) rfl rfl (fun j v hj => hS.sat.cell (hcG33.drop_take 0 2 j v hj))) rfl ?_; obtain ⟨y34, hy34, H⟩ := bnd H
    have l0_5 := l0_4.trans leG33
    refine zO rfl (zC cb54 (f54_ok (x0 := y27) hS.sat (hT.mono l0_5)  hy34) rfl rfl (fun w35 hb => ?_)); have hS := hS.keep hb; have hO := hO.below hb; obtain ⟨y36, hy36, H⟩ := bnd H; refine zO rfl (OpP_lent (fi := []) (al := [zp b7, zs y34]) (ca := []) cb52 (f52_ok (s := y34) hS hO (.inr rfl) hnhs20_0 (hs20_0.mono RU8_mono leG33) hy36) rfl rfl rfl (fun vG38 G38 w37 L39 leG38 hS hO hvG38 => ?_)); obtain ⟨aw37, nw37, cw37, clw37, rfl, rfl, hnw37, hrw37⟩ := hvG38
    have hO : Owns _ _ _ ([bx 93 b7 (zp b7) (zl aw37 nw37 cw37), ⟨5, 1, nw37, zl aw37 nw37 cw37, clw37⟩]) := hO
    refine zN ?_; refine zR ?_; refine zV (rn_add rfl rfl) rfl ?_; refine zx (zi (IntKind.i64.wrap (s20.1 + 1))) rfl rfl ?_; refine zN ?_
    have hO : Owns _ _ _ ([bx 93 b7 (zp b7) (zl aw37 nw37 cw37), ⟨5, 1, nw37, zl aw37 nw37 cw37, clw37⟩]) := hO
    have H := oi H; subst H; refine ⟨_, rfl, ?_⟩
    have l3_6 := (leG25.trans leG33).trans leG38
    exact ⟨_, G38, aw37, nw37, cw37, clw37, upds_self _ _ ⟨rfl, rfl, rfl, rfl, rfl, trivial⟩, l3_6, hS, hO, hnw37, hrw37⟩
   ·have H := ifF hb26 H; refine WC_exit rfl ?_
    have hO : Owns _ _ _ ([bx 93 b7 (zp b7) (zl as20_0 ns20_0 cs20_0), ⟨5, 1, ns20_0, zl as20_0 ns20_0 cs20_0, clas20_0⟩]) := hO
    have H := oi H; subst H
    have hres := hqq22 _ rfl
    subst hres
    exact ⟨_, G25, as20_0, ns20_0, cs20_0, clas20_0, upds_self _ _ ⟨rfl, rfl, trivial⟩, leG25, hS, hO, hnhs20_0, hs20_0⟩
 ·rintro F w40 ⟨Fb, G41, aq22_0, nq22_0, cq22_0, claq22_0, rfl, leG41, hS, hO, hnhq22_0, hq22_0⟩
  refine zQ ?_; refine zS ?_; refine zV (zF fd26_1 rfl) rfl ?_
  have l1_4 := l1_3.trans leG41
  refine zV (zL na23 rfl ((hS.sat.le l1_4).cell (hcb4 1 _ rfl))) rfl ?_
  have l0_4 := l0_3.trans leG41
  refine zV (rn_len sl23 rfl rfl (h2.mono RTLandEvent_mono l0_4).1) rfl ?_; refine zx (zi 0) rfl rfl ?_; refine zN ?_; obtain ⟨q44, hq44, H⟩ := bnd H; refine zM (fun F w => ∃ (Fb : Fr) (G : Gm) (aq44_0 : Option Addr) (nq44_0 cq44_0 : Nat) (claq44_0 : List Value), F = upds Fb [(1, zp b4), (3, zp b7)] ∧ Gle G41 G ∧ Since w0.heap.size G0 w0 G w ∧ Owns G w w0.heap.size [bx 93 b7 (zp b7) (zl aq44_0 nq44_0 cq44_0), ⟨5, 1, nq44_0, zl aq44_0 nq44_0 cq44_0, claq44_0⟩] ∧ nq44_0 = q44.length ∧ Rd RU8 1 G claq44_0 q44) ?_ ?_
  ·refine WC_block (WC_loop hq44 (fun s42 F w => ∃ (Fb : Fr) (G : Gm) (as42_0 : Option Addr) (ns42_0 cs42_0 : Nat) (clas42_0 : List Value), F = upds Fb [(1, zp b4), (3, zp b7), (34, zl a2 n2 c2), (35, zi (x0.Events.length : Int)), (36, zi s42.1)] ∧ Gle G41 G ∧ Since w0.heap.size G0 w0 G w ∧ Owns G w w0.heap.size [bx 93 b7 (zp b7) (zl as42_0 ns42_0 cs42_0), ⟨5, 1, ns42_0, zl as42_0 ns42_0 cs42_0, clas42_0⟩] ∧ ns42_0 = s42.2.length ∧ Rd RU8 1 G clas42_0 s42.2) ?_ ?_)
   ·have hO : Owns _ _ _ ([bx 93 b7 (zp b7) (zl aq22_0 nq22_0 cq22_0), ⟨5, 1, nq22_0, zl aq22_0 nq22_0 cq22_0, claq22_0⟩]) := hO
    exact ⟨_, G41, aq22_0, nq22_0, cq22_0, claq22_0, upds_self _ _ ⟨rfl, rfl, rfl, rfl, rfl, trivial⟩, Gle.refl _, hS, hO, hnhq22_0, hq22_0⟩
   ·rintro s42 F w46 t45 ⟨Fb, G47, as42_0, ns42_0, cs42_0, clas42_0, rfl, leG47, hS, hO, hnhs42_0, hs42_0⟩
    intro H1 hqq44
    have Hoq44 := H; have H := H1
    unfold f23_b1 at H
    refine zS ?_; refine zV (rn_lss rfl rfl) rfl ?_; refine zN ?_; refine zQ ?_; refine zT rfl (fun hb48 => ?_) (fun hb48 => ?_)
    ·have H := ifT hb48 H; refine zP ?_; refine zQ ?_; refine WC_block ?_; refine zS ?_; obtain ⟨y49, hy49, H⟩ := bnd H
     have l0_5 := l0_4.trans leG47
     refine WL_idx sl23 (h2.mono RTLandEvent_mono l0_5) hy49 rfl rfl rfl ?_
     rintro b50 o50 _ hcb50 _ ⟨⟩
     refine zV (rn_loadA ag57 (cs := [zi y49.Strip, zi y49.Holder]) rfl rfl (fun j v hj => hS.sat.cell (hcb50.drop_take 0 2 j v hj))) rfl ?_
     refine zO rfl (zU (v := fun b => zp b) (cs := [zi 0, zi 0]) (e := 57) (by kernel_rfl) hS.sat hO rfl 2 1 rfl (by decide) (fun b51 w52 hb hO => ?_))
     have hS := hS.keep hb; refine zO rfl (OpP_store (vs := [zi y49.Strip, zi y49.Holder]) sz57 hS hO (k := 0) rfl rfl rfl rfl rfl (one_all rfl) (Nat.le_of_ble_eq_true rfl) (fun w54 hS hO => ?_))
     have hO : Owns _ _ _ ([zb 57 2 b51 [zi y49.Strip, zi y49.Holder], bx 93 b7 (zp b7) (zl as42_0 ns42_0 cs42_0), ⟨5, 1, ns42_0, zl as42_0 ns42_0 cs42_0, clas42_0⟩]) := hO
     obtain ⟨G55, leG55, hS, hO, hqG55, _⟩ := hO.freeze hS (k := 0) rfl
     have hcG55 : Cells G55 b51 0 [zi y49.Strip, zi y49.Holder] := (hqG55 _ _ _ _ rfl)
     refine zN ?_; refine zR ?_; refine zV (zF fd57_0 rfl) rfl ?_; refine zV (zL na3 rfl (hS.sat.cell (hcG55 0 _ rfl))) rfl ?_; refine zV (zF fd57_1 rfl) rfl ?_; refine zV (zL na3 rfl (hS.sat.cell (hcG55 1 _ rfl))) rfl ?_
     refine zO rfl (zW (v := fun b => zl (some ⟨b, 0, none⟩) 2 2) (cs := [zi y49.Strip, zi y49.Holder]) (e := 3) (by kernel_rfl) hS.sat rfl (fun b56 G58 w57 hg hcb56 => ?_))
     have hS := hS.grow hg; have hO := hO.grow hg
     have leG58 := hg.le
     have hfb56 : RSl RInt 1 G58 (some ⟨b56, 0, none⟩) 2 2 [y49.Strip, y49.Holder] := RSl.of_rd hcb56 (Rd.cons (c := [zi y49.Strip]) rfl rfl (Rd.cons (c := [zi y49.Holder]) rfl rfl (Rd.nil RInt 1 _))) rfl (by decide)
     obtain ⟨y59, hy59, H⟩ := bnd H
     have l0_7 := (l0_5.trans leG55).trans leG58
     refine zO rfl (zC cb53 (f53_ok (x0 := ([101, 118, 101, 110, 116] : List UInt8)) (x1 := [y49.Strip, y49.Holder]) hS.sat (hT.mono l0_7) hfb56 hy59) rfl rfl (fun w60 hb => ?_)); have hS := hS.keep hb; have hO := hO.below hb; obtain ⟨y61, hy61, H⟩ := bnd H
     have l5_7 := leG55.trans leG58
     refine zO rfl (OpP_lent (fi := []) (al := [zp b7, zs y59]) (ca := []) cb52 (f52_ok (s := y59) hS hO (.inr rfl) hnhs42_0 (hs42_0.mono RU8_mono l5_7) hy61) rfl rfl rfl (fun vG63 G63 w62 L64 leG63 hS hO hvG63 => ?_)); obtain ⟨aw62, nw62, cw62, clw62, rfl, rfl, hnw62, hrw62⟩ := hvG63
     have hO : Owns _ _ _ ([bx 93 b7 (zp b7) (zl aw62 nw62 cw62), ⟨5, 1, nw62, zl aw62 nw62 cw62, clw62⟩]) := hO
     refine zN ?_; refine zR ?_; refine zV (rn_add rfl rfl) rfl ?_; refine zx (zi (IntKind.i64.wrap (s42.1 + 1))) rfl rfl ?_; refine zN ?_
     have hO : Owns _ _ _ ([bx 93 b7 (zp b7) (zl aw62 nw62 cw62), ⟨5, 1, nw62, zl aw62 nw62 cw62, clw62⟩]) := hO
     have H := oi H; subst H; refine ⟨_, rfl, ?_⟩
     have l4_8 := (leG47.trans l5_7).trans leG63
     exact ⟨_, G63, aw62, nw62, cw62, clw62, upds_self _ _ ⟨rfl, rfl, rfl, rfl, rfl, trivial⟩, l4_8, hS, hO, hnw62, hrw62⟩
    ·have H := ifF hb48 H; refine WC_exit rfl ?_
     have hO : Owns _ _ _ ([bx 93 b7 (zp b7) (zl as42_0 ns42_0 cs42_0), ⟨5, 1, ns42_0, zl as42_0 ns42_0 cs42_0, clas42_0⟩]) := hO
     have H := oi H; subst H
     have hres := hqq44 _ rfl
     subst hres
     exact ⟨_, G47, as42_0, ns42_0, cs42_0, clas42_0, upds_self _ _ ⟨rfl, rfl, trivial⟩, leG47, hS, hO, hnhs42_0, hs42_0⟩
  ·rintro F w65 ⟨Fb, G66, aq44_0, nq44_0, cq44_0, claq44_0, rfl, leG66, hS, hO, hnhq44_0, hq44_0⟩
   refine zQ ?_; refine zS ?_; refine zV (zF fd26_2 rfl) rfl ?_
   have l1_5 := l1_4.trans leG66
   refine zV (zL na24 rfl ((hS.sat.le l1_5).cell (hcb4 2 _ rfl))) rfl ?_
   have l0_5 := l0_4.trans leG66
   refine zV (rn_len sl24 rfl rfl (h3.mono RTLandMemory_mono l0_5).1) rfl ?_; refine zx (zi 0) rfl rfl ?_; refine zN ?_; obtain ⟨q69, hq69, H⟩ := bnd H; refine zM (fun F w => ∃ (Fb : Fr) (G : Gm) (aq69_0 : Option Addr) (nq69_0 cq69_0 : Nat) (claq69_0 : List Value), F = upds Fb [(3, zp b7)] ∧ Gle G66 G ∧ Since w0.heap.size G0 w0 G w ∧ Owns G w w0.heap.size [bx 93 b7 (zp b7) (zl aq69_0 nq69_0 cq69_0), ⟨5, 1, nq69_0, zl aq69_0 nq69_0 cq69_0, claq69_0⟩] ∧ nq69_0 = q69.length ∧ Rd RU8 1 G claq69_0 q69) ?_ ?_
   ·refine WC_block (WC_loop hq69 (fun s67 F w => ∃ (Fb : Fr) (G : Gm) (as67_0 : Option Addr) (ns67_0 cs67_0 : Nat) (clas67_0 : List Value), F = upds Fb [(3, zp b7), (49, zl a3 n3 c3), (50, zi (x0.Memories.length : Int)), (51, zi s67.1)] ∧ Gle G66 G ∧ Since w0.heap.size G0 w0 G w ∧ Owns G w w0.heap.size [bx 93 b7 (zp b7) (zl as67_0 ns67_0 cs67_0), ⟨5, 1, ns67_0, zl as67_0 ns67_0 cs67_0, clas67_0⟩] ∧ ns67_0 = s67.2.length ∧ Rd RU8 1 G clas67_0 s67.2) ?_ ?_)
    ·have hO : Owns _ _ _ ([bx 93 b7 (zp b7) (zl aq44_0 nq44_0 cq44_0), ⟨5, 1, nq44_0, zl aq44_0 nq44_0 cq44_0, claq44_0⟩]) := hO
     exact ⟨_, G66, aq44_0, nq44_0, cq44_0, claq44_0, upds_self _ _ ⟨rfl, rfl, rfl, rfl, trivial⟩, Gle.refl _, hS, hO, hnhq44_0, hq44_0⟩
    ·rintro s67 F w71 t70 ⟨Fb, G72, as67_0, ns67_0, cs67_0, clas67_0, rfl, leG72, hS, hO, hnhs67_0, hs67_0⟩
     intro H1 hqq69
     have Hoq69 := H; have H := H1
     unfold f23_b2 at H
     refine zS ?_; refine zV (rn_lss rfl rfl) rfl ?_; refine zN ?_; refine zQ ?_; refine zT rfl (fun hb73 => ?_) (fun hb73 => ?_)
     ·have H := ifT hb73 H; refine zP ?_; refine zQ ?_; refine WC_block ?_; refine zS ?_; obtain ⟨y74, hy74, H⟩ := bnd H
      have l0_6 := l0_5.trans leG72
      refine WL_idx sl24 (h3.mono RTLandMemory_mono l0_6) hy74 rfl rfl rfl ?_
      rintro b75 o75 _ hcb75 _ ⟨⟩
      refine zV (rn_loadA ag60 (cs := [zi y74.From, zi y74.To, zi y74.Years.Low, zi y74.Years.High]) rfl rfl (fun j v hj => hS.sat.cell (hcb75.drop_take 0 4 j v hj))) rfl ?_
      refine zO rfl (zU (v := fun b => zp b) (cs := [zi 0, zi 0, zi 0, zi 0]) (e := 60) (by kernel_rfl) hS.sat hO rfl 4 1 rfl (by decide) (fun b76 w77 hb hO => ?_))
      have hS := hS.keep hb; refine zO rfl (OpP_store (vs := [zi y74.From, zi y74.To, zi y74.Years.Low, zi y74.Years.High]) sz60 hS hO (k := 0) rfl rfl rfl rfl rfl (one_all rfl) (Nat.le_of_ble_eq_true rfl) (fun w79 hS hO => ?_))
      have hO : Owns _ _ _ ([zb 60 4 b76 [zi y74.From, zi y74.To, zi y74.Years.Low, zi y74.Years.High], bx 93 b7 (zp b7) (zl as67_0 ns67_0 cs67_0), ⟨5, 1, ns67_0, zl as67_0 ns67_0 cs67_0, clas67_0⟩]) := hO
      obtain ⟨G80, leG80, hS, hO, hqG80, _⟩ := hO.freeze hS (k := 0) rfl
      have hcG80 : Cells G80 b76 0 [zi y74.From, zi y74.To, zi y74.Years.Low, zi y74.Years.High] := (hqG80 _ _ _ _ rfl)
      refine zN ?_; refine zR ?_; refine zV (zF fd60_0 rfl) rfl ?_; refine zV (zL na3 rfl (hS.sat.cell (hcG80 0 _ rfl))) rfl ?_; refine zV (zF fd60_1 rfl) rfl ?_; refine zV (zL na3 rfl (hS.sat.cell (hcG80 1 _ rfl))) rfl ?_; refine zV (zF fd60_2 rfl) rfl ?_; refine zV (zF fd46_0 rfl) rfl ?_; refine zV (zL na3 rfl (hS.sat.cell (hcG80 2 _ rfl))) rfl ?_; refine zV (zF fd60_2 rfl) rfl ?_; refine zV (zF fd46_1 rfl) rfl ?_; refine zV (zL na3 rfl (hS.sat.cell (hcG80 3 _ rfl))) rfl ?_
      refine zO rfl (zW (v := fun b => zl (some ⟨b, 0, none⟩) 4 4) (cs := [zi y74.From, zi y74.To, zi y74.Years.Low, zi y74.Years.High]) (e := 3) (by kernel_rfl) hS.sat rfl (fun b81 G83 w82 hg hcb81 => ?_))
      have hS := hS.grow hg; have hO := hO.grow hg
      have leG83 := hg.le
      have hfb81 : RSl RInt 1 G83 (some ⟨b81, 0, none⟩) 4 4 [y74.From, y74.To, y74.Years.Low, y74.Years.High] := RSl.of_rd hcb81 (Rd.cons (c := [zi y74.From]) rfl rfl (Rd.cons (c := [zi y74.To]) rfl rfl (Rd.cons (c := [zi y74.Years.Low]) rfl rfl (Rd.cons (c := [zi y74.Years.High]) rfl rfl (Rd.nil RInt 1 _))))) rfl (by decide)
      obtain ⟨y84, hy84, H⟩ := bnd H
      have l0_8 := (l0_6.trans leG80).trans leG83
      refine zO rfl (zC cb53 (f53_ok (x0 := ([109, 101, 109, 111, 114, 121] : List UInt8)) (x1 := [y74.From, y74.To, y74.Years.Low, y74.Years.High]) hS.sat (hT.mono l0_8) hfb81 hy84) rfl rfl (fun w85 hb => ?_)); have hS := hS.keep hb; have hO := hO.below hb; obtain ⟨y86, hy86, H⟩ := bnd H
      have l6_8 := leG80.trans leG83
      refine zO rfl (OpP_lent (fi := []) (al := [zp b7, zs y84]) (ca := []) cb52 (f52_ok (s := y84) hS hO (.inr rfl) hnhs67_0 (hs67_0.mono RU8_mono l6_8) hy86) rfl rfl rfl (fun vG88 G88 w87 L89 leG88 hS hO hvG88 => ?_)); obtain ⟨aw87, nw87, cw87, clw87, rfl, rfl, hnw87, hrw87⟩ := hvG88
      have hO : Owns _ _ _ ([bx 93 b7 (zp b7) (zl aw87 nw87 cw87), ⟨5, 1, nw87, zl aw87 nw87 cw87, clw87⟩]) := hO
      refine zN ?_; refine zR ?_; refine zV (rn_add rfl rfl) rfl ?_; refine zx (zi (IntKind.i64.wrap (s67.1 + 1))) rfl rfl ?_; refine zN ?_
      have hO : Owns _ _ _ ([bx 93 b7 (zp b7) (zl aw87 nw87 cw87), ⟨5, 1, nw87, zl aw87 nw87 cw87, clw87⟩]) := hO
      have H := oi H; subst H; refine ⟨_, rfl, ?_⟩
      have l5_9 := (leG72.trans l6_8).trans leG88
      exact ⟨_, G88, aw87, nw87, cw87, clw87, upds_self _ _ ⟨rfl, rfl, rfl, rfl, trivial⟩, l5_9, hS, hO, hnw87, hrw87⟩
     ·have H := ifF hb73 H; refine WC_exit rfl ?_
      have hO : Owns _ _ _ ([bx 93 b7 (zp b7) (zl as67_0 ns67_0 cs67_0), ⟨5, 1, ns67_0, zl as67_0 ns67_0 cs67_0, clas67_0⟩]) := hO
      have H := oi H; subst H
      have hres := hqq69 _ rfl
      subst hres
      exact ⟨_, G72, as67_0, ns67_0, cs67_0, clas67_0, upds_self _ _ ⟨rfl, trivial⟩, leG72, hS, hO, hnhs67_0, hs67_0⟩
   ·rintro F w90 ⟨Fb, G91, aq69_0, nq69_0, cq69_0, claq69_0, rfl, leG91, hS, hO, hnhq69_0, hq69_0⟩
    refine zS ?_; obtain ⟨_, hz93, H⟩ := bnd H; refine zO rfl (OpP_lent (fi := []) (al := [zp b7]) (ca := []) cb55 (f55_own hS hO hnhq69_0 hq69_0 (neS_some hz93)) rfl rfl rfl (fun vG94 G94 w92 L95 leG94 hS hO hvG94 => ?_)); obtain ⟨rfl, rfl, hqw92, hfw92⟩ := hvG94
    have hO : Owns _ _ _ ([bx 93 b7 (zp b7) (zl aq69_0 nq69_0 cq69_0)]) := hO
    obtain ⟨y96, hy96, H⟩ := bnd H; refine zV (rn_catS rfl rfl hy96) rfl ?_; refine zO rfl (zC cb55 (f55_fz hS.sat (bx_cell1 hO (k := 0) rfl) hqw92 hfw92 (neS_some hz93)) rfl rfl (fun w97 hb => ?_)); have hS := hS.keep hb; have hO := hO.below hb; obtain ⟨y98, hy98, H⟩ := bnd H
    have l0_7 := (l0_5.trans leG91).trans leG94
    refine zO rfl (zC cb56 (f56_ok (x0 := q69) hS.sat (hT.mono l0_7)  hy98) rfl rfl (fun w99 hb => ?_)); have hS := hS.keep hb; have hO := hO.below hb; obtain ⟨y100, hy100, H⟩ := bnd H; refine zV (rn_catS rfl rfl hy100) rfl ?_; obtain ⟨y101, hy101, H⟩ := bnd H; refine zV (rn_catS rfl rfl hy101) rfl ?_; refine zy (zs y101) rfl rfl ?_; refine zN ?_; refine WC_ret ?_
    have H : some y101 = some r := H
    have H := oi H; subst H
    exact ⟨rfl, hS.below⟩
set_option maxHeartbeats 1000000 in
theorem f8_ok {G0 : Gm} {w0 : World} (hS0 : Sat G0 w0) {x0 : TLandBook} {a1 : Option Addr} {n1 c1 : Nat} {a2 : Option Addr} {n2 c2 : Nat} {a3 : Option Addr} {n3 c3 : Nat} (hT : TabZ Tryz.prog G0) (h1 : RSl RTLandPerson 2 G0 a1 n1 c1 x0.People) (h2 : RSl RTLandEvent 2 G0 a2 n2 c2 x0.Events) (h3 : RSl RTLandMemory 4 G0 a3 n3 c3 x0.Memories) {r : (List UInt8) × Int} (H : f8 x0 = some r) :
  Calls Tryz.prog 8 #[.agg #[zl a1 n1 c1, zl a2 n2 c2, zl a3 n3 c3]] w0 (RetV w0 (.tuple #[.string ⟨r.1.toArray⟩, zi r.2])) := by
 have hS := Since.start hS0
 have hO : Owns G0 w0 w0.heap.size [] := Owns.nil (Nat.le_refl _)
 unfold f8 at H
 refine enter2 (N := 9) (shutV _ _) Tryz.func8 rfl rfl rfl rfl ?_; refine zS ?_; refine zO rfl (zW (v := fun b => zp b) (cs := [zl a1 n1 c1, zl a2 n2 c2, zl a3 n3 c3]) (e := 26) (rn_boxA rfl) hS.sat rfl (fun b4 G6 w5 hg hcb4 => ?_)); have hS := hS.grow hg; have hO := hO.grow hg
 have leG6 := hg.le
 refine zy (.string ⟨([] : List UInt8).toArray⟩) rfl rfl ?_; refine zy (zi 0) rfl rfl ?_; refine zN ?_; refine zQ ?_; refine zS ?_; refine zV (rn_loadA ag26 (cs := [zl a1 n1 c1, zl a2 n2 c2, zl a3 n3 c3]) rfl rfl (fun j v hj => hS.sat.cell (hcb4.drop_take 0 3 j v hj))) rfl ?_; obtain ⟨y7, hy7, H⟩ := bnd H; refine zO rfl (zC cb22 (f22_ok (x0 := x0) hS.sat (h1.mono RTLandPerson_mono leG6) (h2.mono RTLandEvent_mono leG6) (h3.mono RTLandMemory_mono leG6) hy7) rfl rfl (fun w8 hb => ?_)); have hS := hS.keep hb; have hO := hO.below hb; refine zV (rn_not rfl) rfl ?_; refine zN ?_; refine zT rfl (fun hb9 => ?_) (fun hb9 => ?_)
 ·have H := ifT hb9 H; refine zS ?_; refine zy (.string ⟨([] : List UInt8).toArray⟩) rfl rfl ?_; refine zy (zi 2) rfl rfl ?_; refine zN ?_; refine WC_ret ?_
  have H : some (([] : List UInt8), 2) = some r := H
  have H := oi H; subst H
  exact ⟨rfl, hS.below⟩
 ·have H := ifF hb9 H; refine zP ?_; refine zS ?_; refine zV (rn_loadA ag26 (cs := [zl a1 n1 c1, zl a2 n2 c2, zl a3 n3 c3]) rfl rfl (fun j v hj => hS.sat.cell (hcb4.drop_take 0 3 j v hj))) rfl ?_; obtain ⟨y10, hy10, H⟩ := bnd H; refine zO rfl (zC cb23 (f23_ok (x0 := x0) hS.sat (hT.mono leG6) (h1.mono RTLandPerson_mono leG6) (h2.mono RTLandEvent_mono leG6) (h3.mono RTLandMemory_mono leG6) hy10) rfl rfl (fun w11 hb => ?_)); have hS := hS.keep hb; have hO := hO.below hb; refine zy (zs y10) rfl rfl ?_; refine zy (zi 0) rfl rfl ?_; refine zN ?_; refine WC_ret ?_
  have H : some (y10, 0) = some r := H
  have H := oi H; subst H
  exact ⟨rfl, hS.below⟩
set_option maxHeartbeats 1000000 in
theorem f40_ok {G0 : Gm} {w0 : World} (hS0 : Sat G0 w0) {x0 : TLandBook} {bq0 : Nat} {rm4 : Nat} {a1 : Option Addr} {n1 c1 : Nat} {a2 : Option Addr} {n2 c2 : Nat} {a3 : Option Addr} {n3 c3 : Nat} (hcq0 : Cells G0 bq0 0 [zl a1 n1 c1, zl a2 n2 c2, zl a3 n3 c3, .map (some rm4)]) (h1 : RSl RTLandPerson 2 G0 a1 n1 c1 x0.People) (h2 : RSl RTLandEvent 2 G0 a2 n2 c2 x0.Events) (h3 : RSl RTLandMemory 4 G0 a3 n3 c3 x0.Memories) {r : Int} (H : f40 x0 = some r) :
  Calls Tryz.prog 40 #[zp bq0] w0 (RetV w0 (zi r)) := by
 have hS := Since.start hS0
 have hO : Owns G0 w0 w0.heap.size [] := Owns.nil (Nat.le_refl _)
 unfold f40 at H
 refine enter1 (N := 11) (shutV _ _) Tryz.func40 rfl rfl rfl rfl ?_; refine zS ?_; refine zy (zi 0) rfl rfl ?_; refine zN ?_; refine zS ?_; refine zx (zp bq0) rfl rfl ?_
 refine zV (v := (zp bq0)) (by kernel_rfl) rfl ?_
 refine zV (zF fd119_0 rfl) rfl ?_; refine zV (zF fd26_2 rfl) rfl ?_; refine zV (zL na24 rfl (hS.sat.cell (hcq0 2 _ rfl))) rfl ?_; refine zV (rn_len sl24 rfl rfl h3.1) rfl ?_; obtain ⟨y5, hy5, H⟩ := bnd H; refine zV (rn_shl rfl rfl hy5) rfl ?_; refine zV (rn_sub rfl rfl) rfl ?_; refine zy (zi (IntKind.i64.wrap (y5 - 1))) rfl rfl ?_; refine zN ?_; refine WC_ret ?_
 have H : some (IntKind.i64.wrap (y5 - 1)) = some r := H
 have H := oi H; subst H
 exact ⟨rfl, hS.below⟩
set_option maxHeartbeats 1000000 in
theorem f65_ok {G0 : Gm} {w0 : World} (hS0 : Sat G0 w0) {x0 : Int} {x1 : Int}  {r : Bool} (H : f65 x0 x1 = some r) :
  Calls Tryz.prog 65 #[zi x0, zi x1] w0 (RetV w0 (.bool r)) := by
 have hS := Since.start hS0
 have hO : Owns G0 w0 w0.heap.size [] := Owns.nil (Nat.le_refl _)
 unfold f65 at H
 refine enter1 (N := 10) (shutV _ _) Tryz.func65 rfl rfl rfl rfl ?_; refine zS ?_; refine zy (.bool false) rfl rfl ?_; refine zN ?_; refine zS ?_; refine zx (zi x0) rfl rfl ?_; refine zx (zi x1) rfl rfl ?_; obtain ⟨y1, hy1, H⟩ := bnd H; refine zV (rn_shr rfl rfl hy1) rfl ?_; refine zV (rn_and rfl rfl) rfl ?_; refine zV (rn_eql rfl rfl) rfl ?_; refine zy (.bool ((andI .i64 y1 1) == 1)) rfl rfl ?_; refine zN ?_; refine WC_ret ?_
 have H : some ((andI .i64 y1 1) == 1) = some r := H
 have H := oi H; subst H
 exact ⟨rfl, hS.below⟩
set_option maxHeartbeats 1000000 in
theorem f63_ok {G0 : Gm} {w0 : World} (hS0 : Sat G0 w0) {x0 : TLandBook} {bq0 : Nat} {rm4 : Nat} {a1 : Option Addr} {n1 c1 : Nat} {a2 : Option Addr} {n2 c2 : Nat} {a3 : Option Addr} {n3 c3 : Nat} {x1 : Int} (hcq0 : Cells G0 bq0 0 [zl a1 n1 c1, zl a2 n2 c2, zl a3 n3 c3, .map (some rm4)]) (h1 : RSl RTLandPerson 2 G0 a1 n1 c1 x0.People) (h2 : RSl RTLandEvent 2 G0 a2 n2 c2 x0.Events) (h3 : RSl RTLandMemory 4 G0 a3 n3 c3 x0.Memories) {r : (Tb 64) × Bool} (H : f63 x0 x1 = some r) :
  Calls Tryz.prog 63 #[zp bq0, zi x1] w0 (RetV w0 (.tuple #[.agg (cellsT r.1).toArray, .bool r.2])) := by
 have hS := Since.start hS0
 have hO : Owns G0 w0 w0.heap.size [] := Owns.nil (Nat.le_refl _)
 unfold f63 at H
 refine enterG (N := 175) (shutV _ _) [.cell 4 72, .tmp 5] Tryz.func63 rfl rfl rfl rfl ?_; refine zS ?_
 refine zO rfl (zU (v := fun b => zp b) (cs := (cellsT (Tb.zero 64))) (e := 72) (by kernel_rfl) hS.sat hO rfl 64 1 (cellsT_len _) (by decide) (fun b5 w6 hb hO => ?_))
 have hS := hS.keep hb; refine zy (.bool false) rfl rfl ?_; refine zN ?_; refine WC_scope ?_; refine zS ?_
 refine zO rfl (zU (v := fun b => zp b) (cs := (cellsT (Tb.zero 64))) (e := 72) (by kernel_rfl) hS.sat hO rfl 64 1 (cellsT_len _) (by decide) (fun b8 w9 hb hO => ?_))
 have hS := hS.keep hb; refine zN ?_; refine zQ ?_; refine zS ?_; refine zx (zi 0) rfl rfl ?_; refine zN ?_; obtain ⟨q13, hq13, H⟩ := bnd H; refine zM (fun F w => ∃ (Fb : Fr) (G : Gm), F = upds Fb [(0, zp bq0), (1, zi x1), (4, zp b5), (6, zp b8)] ∧ Gle G0 G ∧ Since w0.heap.size G0 w0 G w ∧ Owns G w w0.heap.size [⟨72, 64, 1, zl (some ⟨b8, 0, none⟩) 1 1, cellsT q13.1⟩, ⟨72, 64, 1, zl (some ⟨b5, 0, none⟩) 1 1, cellsT q13.2⟩]) ?_ ?_
 ·refine WC_block (WC_loop hq13 (fun s11 F w => ∃ (Fb : Fr) (G : Gm), F = upds Fb [(0, zp bq0), (1, zi x1), (4, zp b5), (6, zp b8), (25, zi s11.1)] ∧ Gle G0 G ∧ Since w0.heap.size G0 w0 G w ∧ Owns G w w0.heap.size [⟨72, 64, 1, zl (some ⟨b8, 0, none⟩) 1 1, cellsT s11.2.1⟩, ⟨72, 64, 1, zl (some ⟨b5, 0, none⟩) 1 1, cellsT s11.2.2⟩]) ?_ ?_)
  ·have hO : Owns _ _ _ ([⟨72, 64, 1, zl (some ⟨b8, 0, none⟩) 1 1, cellsT (Tb.zero 64)⟩, ⟨72, 64, 1, zl (some ⟨b5, 0, none⟩) 1 1, cellsT (Tb.zero 64)⟩]) := hO
   exact ⟨_, G0, upds_self _ _ ⟨rfl, rfl, rfl, rfl, rfl, trivial⟩, Gle.refl _, hS, hO⟩
  ·rintro s11 F w15 t14 ⟨Fb, G16, rfl, leG16, hS, hO⟩
   intro H1 hqq13
   have Hoq13 := H; have H := H1
   unfold f63_b0 at H
   refine zS ?_; refine zV (rn_lss rfl rfl) rfl ?_; refine zN ?_; refine zQ ?_; refine zT rfl (fun hb17 => ?_) (fun hb17 => ?_)
   ·have H := ifT hb17 H; refine zP ?_; refine zQ ?_; refine WC_block ?_; refine zS ?_; refine zx (zi s11.1) rfl rfl ?_; refine zy (zi s11.1) rfl rfl ?_; refine zN ?_; refine zS ?_; refine zx (zi 0) rfl rfl ?_; refine zN ?_; obtain ⟨q20, hq20, H⟩ := bnd H; refine zM (fun F w => ∃ (Fb : Fr) (G : Gm), F = upds Fb [(0, zp bq0), (1, zi x1), (4, zp b5), (6, zp b8), (25, zi s11.1)] ∧ Gle G16 G ∧ Since w0.heap.size G0 w0 G w ∧ Owns G w w0.heap.size [⟨72, 64, 1, zl (some ⟨b8, 0, none⟩) 1 1, cellsT q20.1⟩, ⟨72, 64, 1, zl (some ⟨b5, 0, none⟩) 1 1, cellsT q20.2⟩]) ?_ ?_
    ·refine WC_block (WC_loop hq20 (fun s18 F w => ∃ (Fb : Fr) (G : Gm), F = upds Fb [(0, zp bq0), (1, zi x1), (4, zp b5), (6, zp b8), (7, zi s11.1), (25, zi s11.1), (28, zi s18.1)] ∧ Gle G16 G ∧ Since w0.heap.size G0 w0 G w ∧ Owns G w w0.heap.size [⟨72, 64, 1, zl (some ⟨b8, 0, none⟩) 1 1, cellsT s18.2.1⟩, ⟨72, 64, 1, zl (some ⟨b5, 0, none⟩) 1 1, cellsT s18.2.2⟩]) ?_ ?_)
     ·have hO : Owns _ _ _ ([⟨72, 64, 1, zl (some ⟨b8, 0, none⟩) 1 1, cellsT s11.2.1⟩, ⟨72, 64, 1, zl (some ⟨b5, 0, none⟩) 1 1, cellsT s11.2.2⟩]) := hO
      exact ⟨_, G16, upds_self _ _ ⟨rfl, rfl, rfl, rfl, rfl, rfl, rfl, trivial⟩, Gle.refl _, hS, hO⟩
     ·rintro s18 F w22 t21 ⟨Fb, G23, rfl, leG23, hS, hO⟩
      intro H1 hqq20
      have Hoq20 := H; have H := H1
      unfold f63_b1 at H
      refine zS ?_; refine zV (rn_lss rfl rfl) rfl ?_; refine zN ?_; refine zQ ?_; refine zT rfl (fun hb24 => ?_) (fun hb24 => ?_)
      ·have H := ifT hb24 H; refine zP ?_; refine zQ ?_; obtain ⟨q25, hq25, H⟩ := bnd H; refine zM (fun F w => ∃ (Fb : Fr) (G : Gm), F = upds Fb [(0, zp bq0), (1, zi x1), (4, zp b5), (6, zp b8), (7, zi s11.1), (25, zi s11.1), (28, zi s18.1)] ∧ Gle G23 G ∧ Since w0.heap.size G0 w0 G w ∧ Owns G w w0.heap.size [⟨72, 64, 1, zl (some ⟨b8, 0, none⟩) 1 1, cellsT q25⟩, ⟨72, 64, 1, zl (some ⟨b5, 0, none⟩) 1 1, cellsT s18.2.2⟩]) ?_ ?_
       ·have Hoq25 := H; have H := hq25; refine WC_block ?_; refine zS ?_; refine zx (zi s18.1) rfl rfl ?_; refine zy (zi s18.1) rfl rfl ?_; refine zN ?_; refine zS ?_; refine zx (zi s11.1) rfl rfl ?_; refine zx (zi s18.1) rfl rfl ?_; refine zV (rn_neq rfl rfl) rfl ?_; refine zN ?_; refine zT rfl (fun hb26 => ?_) (fun hb26 => ?_)
        ·have H := ifT hb26 H; refine zR ?_; refine zx (zi s11.1) rfl rfl ?_; refine zx (zi s18.1) rfl rfl ?_; obtain ⟨j27, hj27, H⟩ := bnd H; refine zV (rn_idxA ar72 rfl rfl hj27) rfl ?_; obtain ⟨j28, hj28, H⟩ := bnd H
         have hl29 : 0 + j27 * 8 + j28 * 1 < 64 := by have := (ckI_some hj27).2; have := (ckI_some hj28).2; omega
         refine zV (rn_idxA ar70 rfl rfl hj28) rfl ?_; refine zO rfl (OpP_storeT sz3 hS hO (k := 0) rfl rfl rfl hl29 (fun w30 hS hO => ?_))
         have hO : Owns _ _ _ ([⟨72, 64, 1, zl (some ⟨b8, 0, none⟩) 1 1, cellsT (tset s18.2.1 (0 + j27 * 8 + j28 * 1) 2000)⟩, ⟨72, 64, 1, zl (some ⟨b5, 0, none⟩) 1 1, cellsT s18.2.2⟩]) := hO
         refine zN ?_
         have hO : Owns _ _ _ ([⟨72, 64, 1, zl (some ⟨b8, 0, none⟩) 1 1, cellsT (tset s18.2.1 (0 + j27 * 8 + j28 * 1) 2000)⟩, ⟨72, 64, 1, zl (some ⟨b5, 0, none⟩) 1 1, cellsT s18.2.2⟩]) := hO
         have H := oi H; subst H
         exact ⟨_, G23, upds_self _ _ ⟨rfl, rfl, rfl, rfl, rfl, rfl, rfl, trivial⟩, Gle.refl _, hS, hO⟩
        ·have H := ifF hb26 H; refine zP ?_
         have hO : Owns _ _ _ ([⟨72, 64, 1, zl (some ⟨b8, 0, none⟩) 1 1, cellsT s18.2.1⟩, ⟨72, 64, 1, zl (some ⟨b5, 0, none⟩) 1 1, cellsT s18.2.2⟩]) := hO
         have H := oi H; subst H
         exact ⟨_, G23, upds_self _ _ ⟨rfl, rfl, rfl, rfl, rfl, rfl, rfl, trivial⟩, Gle.refl _, hS, hO⟩
       ·rintro F w31 ⟨Fb, G32, rfl, leG32, hS, hO⟩
        refine zR ?_; refine zV (rn_add rfl rfl) rfl ?_; refine zx (zi (IntKind.i64.wrap (s18.1 + 1))) rfl rfl ?_; refine zN ?_
        have hO : Owns _ _ _ ([⟨72, 64, 1, zl (some ⟨b8, 0, none⟩) 1 1, cellsT q25⟩, ⟨72, 64, 1, zl (some ⟨b5, 0, none⟩) 1 1, cellsT s18.2.2⟩]) := hO
        have H := oi H; subst H; refine ⟨_, rfl, ?_⟩
        have l1_3 := leG23.trans leG32
        exact ⟨_, G32, upds_self _ _ ⟨rfl, rfl, rfl, rfl, rfl, rfl, rfl, trivial⟩, l1_3, hS, hO⟩
      ·have H := ifF hb24 H; refine WC_exit rfl ?_
       have hO : Owns _ _ _ ([⟨72, 64, 1, zl (some ⟨b8, 0, none⟩) 1 1, cellsT s18.2.1⟩, ⟨72, 64, 1, zl (some ⟨b5, 0, none⟩) 1 1, cellsT s18.2.2⟩]) := hO
       have H := oi H; subst H
       have hres := hqq20 _ rfl
       subst hres
       exact ⟨_, G23, upds_self _ _ ⟨rfl, rfl, rfl, rfl, rfl, trivial⟩, leG23, hS, hO⟩
    ·rintro F w33 ⟨Fb, G34, rfl, leG34, hS, hO⟩
     refine zR ?_; refine zV (rn_add rfl rfl) rfl ?_; refine zx (zi (IntKind.i64.wrap (s11.1 + 1))) rfl rfl ?_; refine zN ?_
     have hO : Owns _ _ _ ([⟨72, 64, 1, zl (some ⟨b8, 0, none⟩) 1 1, cellsT q20.1⟩, ⟨72, 64, 1, zl (some ⟨b5, 0, none⟩) 1 1, cellsT q20.2⟩]) := hO
     have H := oi H; subst H; refine ⟨_, rfl, ?_⟩
     have l0_2 := leG16.trans leG34
     exact ⟨_, G34, upds_self _ _ ⟨rfl, rfl, rfl, rfl, rfl, trivial⟩, l0_2, hS, hO⟩
   ·have H := ifF hb17 H; refine WC_exit rfl ?_
    have hO : Owns _ _ _ ([⟨72, 64, 1, zl (some ⟨b8, 0, none⟩) 1 1, cellsT s11.2.1⟩, ⟨72, 64, 1, zl (some ⟨b5, 0, none⟩) 1 1, cellsT s11.2.2⟩]) := hO
    have H := oi H; subst H
    have hres := hqq13 _ rfl
    subst hres
    exact ⟨_, G16, upds_self _ _ ⟨rfl, rfl, rfl, rfl, trivial⟩, leG16, hS, hO⟩
 ·rintro F w35 ⟨Fb, G36, rfl, leG36, hS, hO⟩
  refine zS ?_; refine zV (v := (.func (.func 82) ([] : List Value).toArray ([zp b8] : List Value).toArray)) (rn_func (vs := []) (us := [zp b8]) rfl rfl) rfl ?_; refine zy (.func (.func 82) ([] : List Value).toArray ([zp b8] : List Value).toArray) rfl rfl ?_; refine zN ?_; refine zQ ?_; refine zS ?_; refine zx (zp bq0) rfl rfl ?_
  refine zV (v := (zp bq0)) (by kernel_rfl) rfl ?_
  refine zV (zF fd119_0 rfl) rfl ?_; refine zV (zF fd26_1 rfl) rfl ?_; refine zV (zL na23 rfl ((hS.sat.le leG36).cell (hcq0 1 _ rfl))) rfl ?_; refine zV (rn_len sl23 rfl rfl (h2.mono RTLandEvent_mono leG36).1) rfl ?_; refine zx (zi 0) rfl rfl ?_; refine zN ?_; obtain ⟨q39, hq39, H⟩ := bnd H; refine zM (fun F w => ∃ (Fb : Fr) (G : Gm), F = upds Fb [(0, zp bq0), (1, zi x1), (4, zp b5), (6, zp b8), (9, .func (.func 82) ([] : List Value).toArray ([zp b8] : List Value).toArray)] ∧ Gle G36 G ∧ Since w0.heap.size G0 w0 G w ∧ Owns G w w0.heap.size [⟨72, 64, 1, zl (some ⟨b8, 0, none⟩) 1 1, cellsT q39.1⟩, ⟨72, 64, 1, zl (some ⟨b5, 0, none⟩) 1 1, cellsT q39.2⟩]) ?_ ?_
  ·refine WC_block (WC_loop hq39 (fun s37 F w => ∃ (Fb : Fr) (G : Gm), F = upds Fb [(0, zp bq0), (1, zi x1), (4, zp b5), (6, zp b8), (9, .func (.func 82) ([] : List Value).toArray ([zp b8] : List Value).toArray), (46, zi (x0.Events.length : Int)), (47, zi s37.1)] ∧ Gle G36 G ∧ Since w0.heap.size G0 w0 G w ∧ Owns G w w0.heap.size [⟨72, 64, 1, zl (some ⟨b8, 0, none⟩) 1 1, cellsT s37.2.1⟩, ⟨72, 64, 1, zl (some ⟨b5, 0, none⟩) 1 1, cellsT s37.2.2⟩]) ?_ ?_)
   ·have hO : Owns _ _ _ ([⟨72, 64, 1, zl (some ⟨b8, 0, none⟩) 1 1, cellsT q13.1⟩, ⟨72, 64, 1, zl (some ⟨b5, 0, none⟩) 1 1, cellsT q13.2⟩]) := hO
    exact ⟨_, G36, upds_self _ _ ⟨rfl, rfl, rfl, rfl, rfl, rfl, rfl, trivial⟩, Gle.refl _, hS, hO⟩
   ·rintro s37 F w41 t40 ⟨Fb, G42, rfl, leG42, hS, hO⟩
    intro H1 hqq39
    have Hoq39 := H; have H := H1
    unfold f63_b2 at H
    refine zS ?_; refine zV (rn_lss rfl rfl) rfl ?_; refine zN ?_; refine zQ ?_; refine zT rfl (fun hb43 => ?_) (fun hb43 => ?_)
    ·have H := ifT hb43 H; refine zP ?_; refine zQ ?_; obtain ⟨q44, hq44, H⟩ := bnd H; refine zM (fun F w => ∃ (Fb : Fr) (G : Gm), F = upds Fb [(0, zp bq0), (1, zi x1), (4, zp b5), (6, zp b8), (9, .func (.func 82) ([] : List Value).toArray ([zp b8] : List Value).toArray), (46, zi (x0.Events.length : Int)), (47, zi s37.1)] ∧ Gle G42 G ∧ Since w0.heap.size G0 w0 G w ∧ Owns G w w0.heap.size [⟨72, 64, 1, zl (some ⟨b8, 0, none⟩) 1 1, cellsT q44⟩, ⟨72, 64, 1, zl (some ⟨b5, 0, none⟩) 1 1, cellsT s37.2.2⟩]) ?_ ?_
     ·have Hoq44 := H; have H := hq44; refine WC_block ?_; refine zS ?_; refine zx (zi s37.1) rfl rfl ?_; refine zy (zi s37.1) rfl rfl ?_; refine zN ?_; refine zQ ?_; obtain ⟨q45, hq45, H⟩ := bnd H; refine zM (fun F w => ∃ (Fb : Fr) (G : Gm), F = upds Fb [(0, zp bq0), (1, zi x1), (4, zp b5), (6, zp b8), (9, .func (.func 82) ([] : List Value).toArray ([zp b8] : List Value).toArray), (10, zi s37.1), (46, zi (x0.Events.length : Int)), (47, zi s37.1)] ∧ Gle G42 G ∧ Since w0.heap.size G0 w0 G w ∧ Owns G w w0.heap.size [⟨72, 64, 1, zl (some ⟨b8, 0, none⟩) 1 1, cellsT q45⟩, ⟨72, 64, 1, zl (some ⟨b5, 0, none⟩) 1 1, cellsT s37.2.2⟩]) ?_ ?_
      ·have Hoq45 := H; have H := hq45; refine zR ?_; refine zx (.func (.func 82) ([] : List Value).toArray ([zp b8] : List Value).toArray) rfl rfl ?_; refine zx (zi s37.1) rfl rfl ?_; refine zO rfl (OpP_inC1 (N' := 20) (fi := []) (al := [zi 7, zi s37.1, zi 1000]) (ca := [zp b8]) cb82 Tryz.func82 rfl rfl rfl rfl rfl rfl rfl ?_); refine zS ?_; refine zy (.bool false) rfl rfl ?_; refine zN ?_; refine zQ ?_; refine zS ?_; refine zx (zi 1000) rfl rfl ?_; refine zx (zi 7) rfl rfl ?_; refine zx (zi s37.1) rfl rfl ?_
       refine zV (rn_idxA ar72 rfl rfl (show ckI 7 8 = some 7 by decide)) rfl ?_
       obtain ⟨j46, hj46, H⟩ := bnd H
       have hl47 : 0 + 7 * 8 + j46 * 1 < 64 := by have := (ckI_some hj46).2; omega
       refine zV (rn_idxA ar70 rfl rfl hj46) rfl ?_; refine zV (zL na3 rfl (tab_cell hO (k := 0) rfl hl47)) rfl ?_; refine zV (rn_geq rfl rfl) rfl ?_; refine zN ?_; refine zT rfl (fun hb48 => ?_) (fun hb48 => ?_)
       ·have H := ifT hb48 H; refine zS ?_; refine zy (.bool false) rfl rfl ?_; refine zN ?_; refine WC_ret ?_; refine ⟨(.bool false), rfl, ?_⟩
        have hO : Owns _ _ _ ([⟨72, 64, 1, zl (some ⟨b8, 0, none⟩) 1 1, cellsT s37.2.1⟩, ⟨72, 64, 1, zl (some ⟨b5, 0, none⟩) 1 1, cellsT s37.2.2⟩]) := hO
        refine zN ?_
        have hO : Owns _ _ _ ([⟨72, 64, 1, zl (some ⟨b8, 0, none⟩) 1 1, cellsT s37.2.1⟩, ⟨72, 64, 1, zl (some ⟨b5, 0, none⟩) 1 1, cellsT s37.2.2⟩]) := hO
        have H := oi H; subst H
        exact ⟨_, G42, upds_self _ _ ⟨rfl, rfl, rfl, rfl, rfl, rfl, rfl, rfl, trivial⟩, Gle.refl _, hS, hO⟩
       ·have H := ifF hb48 H; refine zP ?_; refine zS ?_; refine zx (zi 7) rfl rfl ?_; refine zx (zi s37.1) rfl rfl ?_; refine zx (zi 1000) rfl rfl ?_
        refine zV (rn_idxA ar72 rfl rfl (show ckI 7 8 = some 7 by decide)) rfl ?_
        obtain ⟨j49, hj49, H⟩ := bnd H
        have hl50 : 0 + 7 * 8 + j49 * 1 < 64 := by have := (ckI_some hj49).2; omega
        refine zV (rn_idxA ar70 rfl rfl hj49) rfl ?_; refine zO rfl (OpP_storeT sz3 hS hO (k := 0) rfl rfl rfl hl50 (fun w51 hS hO => ?_))
        have hO : Owns _ _ _ ([⟨72, 64, 1, zl (some ⟨b8, 0, none⟩) 1 1, cellsT (tset s37.2.1 (0 + 7 * 8 + j49 * 1) 1000)⟩, ⟨72, 64, 1, zl (some ⟨b5, 0, none⟩) 1 1, cellsT s37.2.2⟩]) := hO
        refine zN ?_; refine zS ?_; refine zy (.bool true) rfl rfl ?_; refine zN ?_; refine WC_ret ?_; refine ⟨(.bool true), rfl, ?_⟩
        have hO : Owns _ _ _ ([⟨72, 64, 1, zl (some ⟨b8, 0, none⟩) 1 1, cellsT (tset s37.2.1 (0 + 7 * 8 + j49 * 1) 1000)⟩, ⟨72, 64, 1, zl (some ⟨b5, 0, none⟩) 1 1, cellsT s37.2.2⟩]) := hO
        refine zN ?_
        have hO : Owns _ _ _ ([⟨72, 64, 1, zl (some ⟨b8, 0, none⟩) 1 1, cellsT (tset s37.2.1 (0 + 7 * 8 + j49 * 1) 1000)⟩, ⟨72, 64, 1, zl (some ⟨b5, 0, none⟩) 1 1, cellsT s37.2.2⟩]) := hO
        have H := oi H; subst H
        exact ⟨_, G42, upds_self _ _ ⟨rfl, rfl, rfl, rfl, rfl, rfl, rfl, rfl, trivial⟩, Gle.refl _, hS, hO⟩
      ·rintro F w52 ⟨Fb, G53, rfl, leG53, hS, hO⟩
       refine zR ?_; refine zx (.func (.func 82) ([] : List Value).toArray ([zp b8] : List Value).toArray) rfl rfl ?_; refine zx (zi s37.1) rfl rfl ?_; refine zO rfl (OpP_inC1 (N' := 20) (fi := []) (al := [zi s37.1, zi 7, zi 0]) (ca := [zp b8]) cb82 Tryz.func82 rfl rfl rfl rfl rfl rfl rfl ?_); refine zS ?_; refine zy (.bool false) rfl rfl ?_; refine zN ?_; refine zQ ?_; refine zS ?_; refine zx (zi 0) rfl rfl ?_; refine zx (zi s37.1) rfl rfl ?_; refine zx (zi 7) rfl rfl ?_; obtain ⟨j54, hj54, H⟩ := bnd H; refine zV (rn_idxA ar72 rfl rfl hj54) rfl ?_
       have hl55 : 0 + j54 * 8 + 7 * 1 < 64 := by have := (ckI_some hj54).2; omega
       refine zV (rn_idxA ar70 rfl rfl (show ckI 7 8 = some 7 by decide)) rfl ?_
       refine zV (zL na3 rfl (tab_cell hO (k := 0) rfl hl55)) rfl ?_; refine zV (rn_geq rfl rfl) rfl ?_; refine zN ?_; refine zT rfl (fun hb56 => ?_) (fun hb56 => ?_)
       ·have H := ifT hb56 H; refine zS ?_; refine zy (.bool false) rfl rfl ?_; refine zN ?_; refine WC_ret ?_; refine ⟨(.bool false), rfl, ?_⟩
        have hO : Owns _ _ _ ([⟨72, 64, 1, zl (some ⟨b8, 0, none⟩) 1 1, cellsT q45⟩, ⟨72, 64, 1, zl (some ⟨b5, 0, none⟩) 1 1, cellsT s37.2.2⟩]) := hO
        refine zN ?_
        have hO : Owns _ _ _ ([⟨72, 64, 1, zl (some ⟨b8, 0, none⟩) 1 1, cellsT q45⟩, ⟨72, 64, 1, zl (some ⟨b5, 0, none⟩) 1 1, cellsT s37.2.2⟩]) := hO
        have H := oi H; subst H
        exact ⟨_, G53, upds_self _ _ ⟨rfl, rfl, rfl, rfl, rfl, rfl, rfl, trivial⟩, leG53, hS, hO⟩
       ·have H := ifF hb56 H; refine zP ?_; refine zS ?_; refine zx (zi s37.1) rfl rfl ?_; refine zx (zi 7) rfl rfl ?_; refine zx (zi 0) rfl rfl ?_; obtain ⟨j57, hj57, H⟩ := bnd H; refine zV (rn_idxA ar72 rfl rfl hj57) rfl ?_
        have hl58 : 0 + j57 * 8 + 7 * 1 < 64 := by have := (ckI_some hj57).2; omega
        refine zV (rn_idxA ar70 rfl rfl (show ckI 7 8 = some 7 by decide)) rfl ?_
        refine zO rfl (OpP_storeT sz3 hS hO (k := 0) rfl rfl rfl hl58 (fun w59 hS hO => ?_))
        have hO : Owns _ _ _ ([⟨72, 64, 1, zl (some ⟨b8, 0, none⟩) 1 1, cellsT (tset q45 (0 + j57 * 8 + 7 * 1) 0)⟩, ⟨72, 64, 1, zl (some ⟨b5, 0, none⟩) 1 1, cellsT s37.2.2⟩]) := hO
        refine zN ?_; refine zS ?_; refine zy (.bool true) rfl rfl ?_; refine zN ?_; refine WC_ret ?_; refine ⟨(.bool true), rfl, ?_⟩
        have hO : Owns _ _ _ ([⟨72, 64, 1, zl (some ⟨b8, 0, none⟩) 1 1, cellsT (tset q45 (0 + j57 * 8 + 7 * 1) 0)⟩, ⟨72, 64, 1, zl (some ⟨b5, 0, none⟩) 1 1, cellsT s37.2.2⟩]) := hO
        refine zN ?_
        have hO : Owns _ _ _ ([⟨72, 64, 1, zl (some ⟨b8, 0, none⟩) 1 1, cellsT (tset q45 (0 + j57 * 8 + 7 * 1) 0)⟩, ⟨72, 64, 1, zl (some ⟨b5, 0, none⟩) 1 1, cellsT s37.2.2⟩]) := hO
        have H := oi H; subst H
        exact ⟨_, G53, upds_self _ _ ⟨rfl, rfl, rfl, rfl, rfl, rfl, rfl, trivial⟩, leG53, hS, hO⟩
     ·rintro F w60 ⟨Fb, G61, rfl, leG61, hS, hO⟩
      refine zR ?_; refine zV (rn_add rfl rfl) rfl ?_; refine zx (zi (IntKind.i64.wrap (s37.1 + 1))) rfl rfl ?_; refine zN ?_
      have hO : Owns _ _ _ ([⟨72, 64, 1, zl (some ⟨b8, 0, none⟩) 1 1, cellsT q44⟩, ⟨72, 64, 1, zl (some ⟨b5, 0, none⟩) 1 1, cellsT s37.2.2⟩]) := hO
      have H := oi H; subst H; refine ⟨_, rfl, ?_⟩
      have l1_3 := leG42.trans leG61
      exact ⟨_, G61, upds_self _ _ ⟨rfl, rfl, rfl, rfl, rfl, rfl, rfl, trivial⟩, l1_3, hS, hO⟩
    ·have H := ifF hb43 H; refine WC_exit rfl ?_
     have hO : Owns _ _ _ ([⟨72, 64, 1, zl (some ⟨b8, 0, none⟩) 1 1, cellsT s37.2.1⟩, ⟨72, 64, 1, zl (some ⟨b5, 0, none⟩) 1 1, cellsT s37.2.2⟩]) := hO
     have H := oi H; subst H
     have hres := hqq39 _ rfl
     subst hres
     exact ⟨_, G42, upds_self _ _ ⟨rfl, rfl, rfl, rfl, rfl, trivial⟩, leG42, hS, hO⟩
  ·rintro F w62 ⟨Fb, G63, rfl, leG63, hS, hO⟩
   refine zQ ?_; refine zS ?_; refine zx (zp bq0) rfl rfl ?_
   refine zV (v := (zp bq0)) (by kernel_rfl) rfl ?_
   refine zV (zF fd119_0 rfl) rfl ?_; refine zV (zF fd26_2 rfl) rfl ?_
   have l0_2 := leG36.trans leG63
   refine zV (zL na24 rfl ((hS.sat.le l0_2).cell (hcq0 2 _ rfl))) rfl ?_; refine zV (rn_len sl24 rfl rfl (h3.mono RTLandMemory_mono l0_2).1) rfl ?_; refine zx (zi 0) rfl rfl ?_; refine zN ?_; obtain ⟨q66, hq66, H⟩ := bnd H; refine zM (fun F w => ∃ (Fb : Fr) (G : Gm), F = upds Fb [(0, zp bq0), (4, zp b5), (6, zp b8), (9, .func (.func 82) ([] : List Value).toArray ([zp b8] : List Value).toArray)] ∧ Gle G63 G ∧ Since w0.heap.size G0 w0 G w ∧ Owns G w w0.heap.size [⟨72, 64, 1, zl (some ⟨b8, 0, none⟩) 1 1, cellsT q66.1⟩, ⟨72, 64, 1, zl (some ⟨b5, 0, none⟩) 1 1, cellsT q66.2⟩]) ?_ ?_
   ·refine WC_block (WC_loop hq66 (fun s64 F w => ∃ (Fb : Fr) (G : Gm), F = upds Fb [(0, zp bq0), (1, zi x1), (4, zp b5), (6, zp b8), (9, .func (.func 82) ([] : List Value).toArray ([zp b8] : List Value).toArray), (61, zl a3 n3 c3), (62, zi (x0.Memories.length : Int)), (63, zi s64.1)] ∧ Gle G63 G ∧ Since w0.heap.size G0 w0 G w ∧ Owns G w w0.heap.size [⟨72, 64, 1, zl (some ⟨b8, 0, none⟩) 1 1, cellsT s64.2.1⟩, ⟨72, 64, 1, zl (some ⟨b5, 0, none⟩) 1 1, cellsT s64.2.2⟩]) ?_ ?_)
    ·have hO : Owns _ _ _ ([⟨72, 64, 1, zl (some ⟨b8, 0, none⟩) 1 1, cellsT q39.1⟩, ⟨72, 64, 1, zl (some ⟨b5, 0, none⟩) 1 1, cellsT q39.2⟩]) := hO
     exact ⟨_, G63, upds_self _ _ ⟨rfl, rfl, rfl, rfl, rfl, rfl, rfl, rfl, trivial⟩, Gle.refl _, hS, hO⟩
    ·rintro s64 F w68 t67 ⟨Fb, G69, rfl, leG69, hS, hO⟩
     intro H1 hqq66
     have Hoq66 := H; have H := H1
     unfold f63_b3 at H
     refine zS ?_; refine zV (rn_lss rfl rfl) rfl ?_; refine zN ?_; refine zQ ?_; refine zT rfl (fun hb70 => ?_) (fun hb70 => ?_)
     ·have H := ifT hb70 H; refine zP ?_; refine zQ ?_; obtain ⟨q71, hq71, H⟩ := bnd H; refine zM (fun F w => ∃ (Fb : Fr) (G : Gm), F = upds Fb [(0, zp bq0), (1, zi x1), (4, zp b5), (6, zp b8), (9, .func (.func 82) ([] : List Value).toArray ([zp b8] : List Value).toArray), (61, zl a3 n3 c3), (62, zi (x0.Memories.length : Int)), (63, zi s64.1)] ∧ Gle G69 G ∧ Since w0.heap.size G0 w0 G w ∧ Owns G w w0.heap.size [⟨72, 64, 1, zl (some ⟨b8, 0, none⟩) 1 1, cellsT q71⟩, ⟨72, 64, 1, zl (some ⟨b5, 0, none⟩) 1 1, cellsT s64.2.2⟩]) ?_ ?_
      ·have Hoq71 := H; have H := hq71; refine WC_block ?_; refine zS ?_; refine zx (zi s64.1) rfl rfl ?_; obtain ⟨y72, hy72, H⟩ := bnd H
       have l0_3 := l0_2.trans leG69
       refine WL_idx sl24 (h3.mono RTLandMemory_mono l0_3) hy72 rfl rfl rfl ?_
       rintro b73 o73 _ hcb73 _ ⟨⟩
       refine zV (rn_loadA ag60 (cs := [zi y72.From, zi y72.To, zi y72.Years.Low, zi y72.Years.High]) rfl rfl (fun j v hj => hS.sat.cell (hcb73.drop_take 0 4 j v hj))) rfl ?_
       refine zO rfl (zU (v := fun b => zp b) (cs := [zi 0, zi 0, zi 0, zi 0]) (e := 60) (by kernel_rfl) hS.sat hO rfl 4 1 rfl (by decide) (fun b74 w75 hb hO => ?_))
       have hS := hS.keep hb; refine zy (zi s64.1) rfl rfl ?_; refine zO rfl (OpP_store (vs := [zi y72.From, zi y72.To, zi y72.Years.Low, zi y72.Years.High]) sz60 hS hO (k := 0) rfl rfl rfl rfl rfl (one_all rfl) (Nat.le_of_ble_eq_true rfl) (fun w77 hS hO => ?_))
       have hO : Owns _ _ _ ([zb 60 4 b74 [zi y72.From, zi y72.To, zi y72.Years.Low, zi y72.Years.High], ⟨72, 64, 1, zl (some ⟨b8, 0, none⟩) 1 1, cellsT s64.2.1⟩, ⟨72, 64, 1, zl (some ⟨b5, 0, none⟩) 1 1, cellsT s64.2.2⟩]) := hO
       obtain ⟨G78, leG78, hS, hO, hqG78, _⟩ := hO.freeze hS (k := 0) rfl
       have hcG78 : Cells G78 b74 0 [zi y72.From, zi y72.To, zi y72.Years.Low, zi y72.Years.High] := (hqG78 _ _ _ _ rfl)
       refine zN ?_; refine zS ?_; refine zx (zi x1) rfl rfl ?_; refine zx (zi s64.1) rfl rfl ?_; obtain ⟨y79, hy79, H⟩ := bnd H; refine zO rfl (zC cb65 (f65_ok (x0 := x1) (x1 := s64.1) hS.sat  hy79) rfl rfl (fun w80 hb => ?_)); have hS := hS.keep hb; have hO := hO.below hb; refine zN ?_; refine zT rfl (fun hb81 => ?_) (fun hb81 => ?_)
       ·have H := ifT hb81 H; refine zQ ?_; obtain ⟨q82, hq82, H⟩ := bnd H; refine zM (fun F w => ∃ (Fb : Fr) (G : Gm), F = upds Fb [(0, zp bq0), (1, zi x1), (4, zp b5), (6, zp b8), (9, .func (.func 82) ([] : List Value).toArray ([zp b8] : List Value).toArray), (12, zp b74), (61, zl a3 n3 c3), (62, zi (x0.Memories.length : Int)), (63, zi s64.1)] ∧ Gle G78 G ∧ Since w0.heap.size G0 w0 G w ∧ Owns G w w0.heap.size [⟨72, 64, 1, zl (some ⟨b8, 0, none⟩) 1 1, cellsT q82⟩, ⟨72, 64, 1, zl (some ⟨b5, 0, none⟩) 1 1, cellsT s64.2.2⟩]) ?_ ?_
        ·have Hoq82 := H; have H := hq82; refine zR ?_; refine zx (.func (.func 82) ([] : List Value).toArray ([zp b8] : List Value).toArray) rfl rfl ?_; refine zV (zF fd60_0 rfl) rfl ?_; refine zV (zL na3 rfl (hS.sat.cell (hcG78 0 _ rfl))) rfl ?_; refine zV (zF fd60_1 rfl) rfl ?_; refine zV (zL na3 rfl (hS.sat.cell (hcG78 1 _ rfl))) rfl ?_; refine zV (zF fd60_2 rfl) rfl ?_; refine zV (zF fd46_1 rfl) rfl ?_; refine zV (zL na3 rfl (hS.sat.cell (hcG78 3 _ rfl))) rfl ?_; refine zO rfl (OpP_inC1 (N' := 20) (fi := []) (al := [zi y72.From, zi y72.To, zi y72.Years.High]) (ca := [zp b8]) cb82 Tryz.func82 rfl rfl rfl rfl rfl rfl rfl ?_); refine zS ?_; refine zy (.bool false) rfl rfl ?_; refine zN ?_; refine zQ ?_; refine zS ?_; refine zx (zi y72.Years.High) rfl rfl ?_; refine zx (zi y72.From) rfl rfl ?_; refine zx (zi y72.To) rfl rfl ?_; obtain ⟨j83, hj83, H⟩ := bnd H; refine zV (rn_idxA ar72 rfl rfl hj83) rfl ?_; obtain ⟨j84, hj84, H⟩ := bnd H
         have hl85 : 0 + j83 * 8 + j84 * 1 < 64 := by have := (ckI_some hj83).2; have := (ckI_some hj84).2; omega
         refine zV (rn_idxA ar70 rfl rfl hj84) rfl ?_; refine zV (zL na3 rfl (tab_cell hO (k := 0) rfl hl85)) rfl ?_; refine zV (rn_geq rfl rfl) rfl ?_; refine zN ?_; refine zT rfl (fun hb86 => ?_) (fun hb86 => ?_)
         ·have H := ifT hb86 H; refine zS ?_; refine zy (.bool false) rfl rfl ?_; refine zN ?_; refine WC_ret ?_; refine ⟨(.bool false), rfl, ?_⟩
          have hO : Owns _ _ _ ([⟨72, 64, 1, zl (some ⟨b8, 0, none⟩) 1 1, cellsT s64.2.1⟩, ⟨72, 64, 1, zl (some ⟨b5, 0, none⟩) 1 1, cellsT s64.2.2⟩]) := hO
          refine zN ?_
          have hO : Owns _ _ _ ([⟨72, 64, 1, zl (some ⟨b8, 0, none⟩) 1 1, cellsT s64.2.1⟩, ⟨72, 64, 1, zl (some ⟨b5, 0, none⟩) 1 1, cellsT s64.2.2⟩]) := hO
          have H := oi H; subst H
          exact ⟨_, G78, upds_self _ _ ⟨rfl, rfl, rfl, rfl, rfl, rfl, rfl, rfl, rfl, trivial⟩, Gle.refl _, hS, hO⟩
         ·have H := ifF hb86 H; refine zP ?_; refine zS ?_; refine zx (zi y72.From) rfl rfl ?_; refine zx (zi y72.To) rfl rfl ?_; refine zx (zi y72.Years.High) rfl rfl ?_; obtain ⟨j87, hj87, H⟩ := bnd H; refine zV (rn_idxA ar72 rfl rfl hj87) rfl ?_; obtain ⟨j88, hj88, H⟩ := bnd H
          have hl89 : 0 + j87 * 8 + j88 * 1 < 64 := by have := (ckI_some hj87).2; have := (ckI_some hj88).2; omega
          refine zV (rn_idxA ar70 rfl rfl hj88) rfl ?_; refine zO rfl (OpP_storeT sz3 hS hO (k := 0) rfl rfl rfl hl89 (fun w90 hS hO => ?_))
          have hO : Owns _ _ _ ([⟨72, 64, 1, zl (some ⟨b8, 0, none⟩) 1 1, cellsT (tset s64.2.1 (0 + j87 * 8 + j88 * 1) y72.Years.High)⟩, ⟨72, 64, 1, zl (some ⟨b5, 0, none⟩) 1 1, cellsT s64.2.2⟩]) := hO
          refine zN ?_; refine zS ?_; refine zy (.bool true) rfl rfl ?_; refine zN ?_; refine WC_ret ?_; refine ⟨(.bool true), rfl, ?_⟩
          have hO : Owns _ _ _ ([⟨72, 64, 1, zl (some ⟨b8, 0, none⟩) 1 1, cellsT (tset s64.2.1 (0 + j87 * 8 + j88 * 1) y72.Years.High)⟩, ⟨72, 64, 1, zl (some ⟨b5, 0, none⟩) 1 1, cellsT s64.2.2⟩]) := hO
          refine zN ?_
          have hO : Owns _ _ _ ([⟨72, 64, 1, zl (some ⟨b8, 0, none⟩) 1 1, cellsT (tset s64.2.1 (0 + j87 * 8 + j88 * 1) y72.Years.High)⟩, ⟨72, 64, 1, zl (some ⟨b5, 0, none⟩) 1 1, cellsT s64.2.2⟩]) := hO
          have H := oi H; subst H
          exact ⟨_, G78, upds_self _ _ ⟨rfl, rfl, rfl, rfl, rfl, rfl, rfl, rfl, rfl, trivial⟩, Gle.refl _, hS, hO⟩
        ·rintro F w91 ⟨Fb, G92, rfl, leG92, hS, hO⟩
         refine zR ?_; refine zx (.func (.func 82) ([] : List Value).toArray ([zp b8] : List Value).toArray) rfl rfl ?_; refine zV (zF fd60_1 rfl) rfl ?_; refine zV (zL na3 rfl ((hS.sat.le leG92).cell (hcG78 1 _ rfl))) rfl ?_; refine zV (zF fd60_0 rfl) rfl ?_; refine zV (zL na3 rfl ((hS.sat.le leG92).cell (hcG78 0 _ rfl))) rfl ?_; refine zV (zF fd60_2 rfl) rfl ?_; refine zV (zF fd46_0 rfl) rfl ?_; refine zV (zL na3 rfl ((hS.sat.le leG92).cell (hcG78 2 _ rfl))) rfl ?_; refine zV (rn_neg rfl) rfl ?_; refine zO rfl (OpP_inC1 (N' := 20) (fi := []) (al := [zi y72.To, zi y72.From, zi (IntKind.i64.wrap (0 - y72.Years.Low))]) (ca := [zp b8]) cb82 Tryz.func82 rfl rfl rfl rfl rfl rfl rfl ?_); refine zS ?_; refine zy (.bool false) rfl rfl ?_; refine zN ?_; refine zQ ?_; refine zS ?_; refine zx (zi (IntKind.i64.wrap (0 - y72.Years.Low))) rfl rfl ?_; refine zx (zi y72.To) rfl rfl ?_; refine zx (zi y72.From) rfl rfl ?_; obtain ⟨j93, hj93, H⟩ := bnd H; refine zV (rn_idxA ar72 rfl rfl hj93) rfl ?_; obtain ⟨j94, hj94, H⟩ := bnd H
         have hl95 : 0 + j93 * 8 + j94 * 1 < 64 := by have := (ckI_some hj93).2; have := (ckI_some hj94).2; omega
         refine zV (rn_idxA ar70 rfl rfl hj94) rfl ?_; refine zV (zL na3 rfl (tab_cell hO (k := 0) rfl hl95)) rfl ?_; refine zV (rn_geq rfl rfl) rfl ?_; refine zN ?_; refine zT rfl (fun hb96 => ?_) (fun hb96 => ?_)
         ·have H := ifT hb96 H; refine zS ?_; refine zy (.bool false) rfl rfl ?_; refine zN ?_; refine WC_ret ?_; refine ⟨(.bool false), rfl, ?_⟩
          have hO : Owns _ _ _ ([⟨72, 64, 1, zl (some ⟨b8, 0, none⟩) 1 1, cellsT q82⟩, ⟨72, 64, 1, zl (some ⟨b5, 0, none⟩) 1 1, cellsT s64.2.2⟩]) := hO
          refine zN ?_
          have hO : Owns _ _ _ ([⟨72, 64, 1, zl (some ⟨b8, 0, none⟩) 1 1, cellsT q82⟩, ⟨72, 64, 1, zl (some ⟨b5, 0, none⟩) 1 1, cellsT s64.2.2⟩]) := hO
          have H := oi H; subst H
          have l3_5 := leG78.trans leG92
          exact ⟨_, G92, upds_self _ _ ⟨rfl, rfl, rfl, rfl, rfl, rfl, rfl, rfl, trivial⟩, l3_5, hS, hO⟩
         ·have H := ifF hb96 H; refine zP ?_; refine zS ?_; refine zx (zi y72.To) rfl rfl ?_; refine zx (zi y72.From) rfl rfl ?_; refine zx (zi (IntKind.i64.wrap (0 - y72.Years.Low))) rfl rfl ?_; obtain ⟨j97, hj97, H⟩ := bnd H; refine zV (rn_idxA ar72 rfl rfl hj97) rfl ?_; obtain ⟨j98, hj98, H⟩ := bnd H
          have hl99 : 0 + j97 * 8 + j98 * 1 < 64 := by have := (ckI_some hj97).2; have := (ckI_some hj98).2; omega
          refine zV (rn_idxA ar70 rfl rfl hj98) rfl ?_; refine zO rfl (OpP_storeT sz3 hS hO (k := 0) rfl rfl rfl hl99 (fun w100 hS hO => ?_))
          have hO : Owns _ _ _ ([⟨72, 64, 1, zl (some ⟨b8, 0, none⟩) 1 1, cellsT (tset q82 (0 + j97 * 8 + j98 * 1) (IntKind.i64.wrap (0 - y72.Years.Low)))⟩, ⟨72, 64, 1, zl (some ⟨b5, 0, none⟩) 1 1, cellsT s64.2.2⟩]) := hO
          refine zN ?_; refine zS ?_; refine zy (.bool true) rfl rfl ?_; refine zN ?_; refine WC_ret ?_; refine ⟨(.bool true), rfl, ?_⟩
          have hO : Owns _ _ _ ([⟨72, 64, 1, zl (some ⟨b8, 0, none⟩) 1 1, cellsT (tset q82 (0 + j97 * 8 + j98 * 1) (IntKind.i64.wrap (0 - y72.Years.Low)))⟩, ⟨72, 64, 1, zl (some ⟨b5, 0, none⟩) 1 1, cellsT s64.2.2⟩]) := hO
          refine zN ?_
          have hO : Owns _ _ _ ([⟨72, 64, 1, zl (some ⟨b8, 0, none⟩) 1 1, cellsT (tset q82 (0 + j97 * 8 + j98 * 1) (IntKind.i64.wrap (0 - y72.Years.Low)))⟩, ⟨72, 64, 1, zl (some ⟨b5, 0, none⟩) 1 1, cellsT s64.2.2⟩]) := hO
          have H := oi H; subst H
          have l3_5 := leG78.trans leG92
          exact ⟨_, G92, upds_self _ _ ⟨rfl, rfl, rfl, rfl, rfl, rfl, rfl, rfl, trivial⟩, l3_5, hS, hO⟩
       ·have H := ifF hb81 H; refine zP ?_
        have hO : Owns _ _ _ ([⟨72, 64, 1, zl (some ⟨b8, 0, none⟩) 1 1, cellsT s64.2.1⟩, ⟨72, 64, 1, zl (some ⟨b5, 0, none⟩) 1 1, cellsT s64.2.2⟩]) := hO
        have H := oi H; subst H
        exact ⟨_, G78, upds_self _ _ ⟨rfl, rfl, rfl, rfl, rfl, rfl, rfl, rfl, trivial⟩, leG78, hS, hO⟩
      ·rintro F w101 ⟨Fb, G102, rfl, leG102, hS, hO⟩
       refine zR ?_; refine zV (rn_add rfl rfl) rfl ?_; refine zx (zi (IntKind.i64.wrap (s64.1 + 1))) rfl rfl ?_; refine zN ?_
       have hO : Owns _ _ _ ([⟨72, 64, 1, zl (some ⟨b8, 0, none⟩) 1 1, cellsT q71⟩, ⟨72, 64, 1, zl (some ⟨b5, 0, none⟩) 1 1, cellsT s64.2.2⟩]) := hO
       have H := oi H; subst H; refine ⟨_, rfl, ?_⟩
       have l2_4 := leG69.trans leG102
       exact ⟨_, G102, upds_self _ _ ⟨rfl, rfl, rfl, rfl, rfl, rfl, rfl, rfl, trivial⟩, l2_4, hS, hO⟩
     ·have H := ifF hb70 H; refine WC_exit rfl ?_
      have hO : Owns _ _ _ ([⟨72, 64, 1, zl (some ⟨b8, 0, none⟩) 1 1, cellsT s64.2.1⟩, ⟨72, 64, 1, zl (some ⟨b5, 0, none⟩) 1 1, cellsT s64.2.2⟩]) := hO
      have H := oi H; subst H
      have hres := hqq66 _ rfl
      subst hres
      exact ⟨_, G69, upds_self _ _ ⟨rfl, rfl, rfl, rfl, trivial⟩, leG69, hS, hO⟩
   ·rintro F w103 ⟨Fb, G104, rfl, leG104, hS, hO⟩
    refine zS ?_; refine zx (zp bq0) rfl rfl ?_
    refine zV (v := (zp bq0)) (by kernel_rfl) rfl ?_
    refine zV (zF fd119_0 rfl) rfl ?_; refine zV (zF fd26_1 rfl) rfl ?_
    have l0_3 := l0_2.trans leG104
    refine zV (zL na23 rfl ((hS.sat.le l0_3).cell (hcq0 1 _ rfl))) rfl ?_; refine zV (rn_len sl23 rfl rfl (h2.mono RTLandEvent_mono l0_3).1) rfl ?_; refine zV (rn_add rfl rfl) rfl ?_; refine zV (zA (v := (zi (IntKind.i64.wrap ((x0.Events.length : Int) + 1)))) rfl) rfl ?_; refine zN ?_; refine zS ?_; refine zV (zm (v := (zi (IntKind.i64.wrap ((x0.Events.length : Int) + 1)))) rfl) rfl ?_; obtain ⟨_, hm108, H⟩ := bnd H; refine zO rfl (OpP_make0 sl41 hS hO hm108 rfl rfl rfl rfl (fun b105 w106 hS hO => ?_)); refine zV (zA (v := (zl (some ⟨b105, 0, none⟩) 0 ((IntKind.i64.wrap ((x0.Events.length : Int) + 1)).toNat))) rfl) rfl ?_; refine zN ?_; refine zQ ?_; refine zS ?_; refine zx (zp bq0) rfl rfl ?_
    refine zV (v := (zp bq0)) (by kernel_rfl) rfl ?_
    refine zV (zF fd119_0 rfl) rfl ?_; refine zV (zF fd26_1 rfl) rfl ?_; refine zV (zL na23 rfl ((hS.sat.le l0_3).cell (hcq0 1 _ rfl))) rfl ?_; refine zV (rn_len sl23 rfl rfl (h2.mono RTLandEvent_mono l0_3).1) rfl ?_; refine zx (zi 0) rfl rfl ?_; refine zN ?_; obtain ⟨q111, hq111, H⟩ := bnd H; refine zM (fun F w => ∃ (Fb : Fr) (G : Gm) (aq111_0 : Option Addr) (nq111_0 cq111_0 : Nat) (claq111_0 : List Value), F = upds Fb [(4, zp b5), (6, zp b8), (9, .func (.func 82) ([] : List Value).toArray ([zp b8] : List Value).toArray), (13, zi (IntKind.i64.wrap ((x0.Events.length : Int) + 1))), (14, zl aq111_0 nq111_0 cq111_0)] ∧ Gle G104 G ∧ Since w0.heap.size G0 w0 G w ∧ Owns G w w0.heap.size [⟨3, 1, nq111_0, zl aq111_0 nq111_0 cq111_0, claq111_0⟩, ⟨72, 64, 1, zl (some ⟨b8, 0, none⟩) 1 1, cellsT q111.2.1⟩, ⟨72, 64, 1, zl (some ⟨b5, 0, none⟩) 1 1, cellsT q111.2.2⟩] ∧ nq111_0 = q111.1.length ∧ Rd RInt 1 G claq111_0 q111.1) ?_ ?_
    ·refine WC_block (WC_loop hq111 (fun s109 F w => ∃ (Fb : Fr) (G : Gm) (as109_0 : Option Addr) (ns109_0 cs109_0 : Nat) (clas109_0 : List Value), F = upds Fb [(4, zp b5), (6, zp b8), (9, .func (.func 82) ([] : List Value).toArray ([zp b8] : List Value).toArray), (13, zi (IntKind.i64.wrap ((x0.Events.length : Int) + 1))), (14, zl as109_0 ns109_0 cs109_0), (105, zi (x0.Events.length : Int)), (106, zi s109.2.1)] ∧ Gle G104 G ∧ Since w0.heap.size G0 w0 G w ∧ Owns G w w0.heap.size [⟨3, 1, ns109_0, zl as109_0 ns109_0 cs109_0, clas109_0⟩, ⟨72, 64, 1, zl (some ⟨b8, 0, none⟩) 1 1, cellsT s109.2.2.1⟩, ⟨72, 64, 1, zl (some ⟨b5, 0, none⟩) 1 1, cellsT s109.2.2.2⟩] ∧ ns109_0 = s109.1.length ∧ Rd RInt 1 G clas109_0 s109.1) ?_ ?_)
     ·have hO : Owns _ _ _ ([⟨3, 1, 0, zl (some ⟨b105, 0, none⟩) 0 ((IntKind.i64.wrap ((x0.Events.length : Int) + 1)).toNat), []⟩, ⟨72, 64, 1, zl (some ⟨b8, 0, none⟩) 1 1, cellsT q66.1⟩, ⟨72, 64, 1, zl (some ⟨b5, 0, none⟩) 1 1, cellsT q66.2⟩]) := hO
      exact ⟨_, G104, (some ⟨b105, 0, none⟩), 0, ((IntKind.i64.wrap ((x0.Events.length : Int) + 1)).toNat), [], upds_self _ _ ⟨rfl, rfl, rfl, rfl, rfl, rfl, rfl, trivial⟩, Gle.refl _, hS, hO, rfl, (Rd.nil RInt 1 G104)⟩
     ·rintro s109 F w113 t112 ⟨Fb, G114, as109_0, ns109_0, cs109_0, clas109_0, rfl, leG114, hS, hO, hnhs109_0, hs109_0⟩
      intro H1 hqq111
      have Hoq111 := H; have H := H1
      unfold f63_b4 at H
      refine zS ?_; refine zV (rn_lss rfl rfl) rfl ?_; refine zN ?_; refine zQ ?_; refine zT rfl (fun hb115 => ?_) (fun hb115 => ?_)
      ·have H := ifT hb115 H; refine zP ?_; refine zQ ?_; refine WC_block ?_; refine zS ?_; refine zx (zi s109.2.1) rfl rfl ?_; refine zy (zi s109.2.1) rfl rfl ?_; refine zN ?_; refine zR ?_; refine zx (zl as109_0 ns109_0 cs109_0) rfl rfl ?_; refine zx (zi s109.2.1) rfl rfl ?_
       refine zO rfl (zW (v := fun b => zl (some ⟨b, 0, none⟩) 1 1) (cs := [zi s109.2.1]) (e := 3) (by kernel_rfl) hS.sat rfl (fun b116 G118 w117 hg hcb116 => ?_))
       have hS := hS.grow hg; have hO := hO.grow hg
       have leG118 := hg.le
       have hfb116 : RSl RInt 1 G118 (some ⟨b116, 0, none⟩) 1 1 [s109.2.1] := RSl.of_rd hcb116 (Rd.cons (c := [zi s109.2.1]) rfl rfl (Rd.nil RInt 1 _)) rfl (by decide)
       obtain ⟨y119, hy119, H⟩ := bnd H; refine zO rfl (OpP_append (k := 0) sl41 RInt_one hS hO rfl hnhs109_0 (hs109_0.mono RInt_mono leG118) hfb116 hy119 rfl rfl rfl rfl rfl (fun aw120 cw120 w120 clw120 hS hO hrw120 => ?_))
       have hO : Owns _ _ _ ([⟨3, 1, y119.length, zl aw120 y119.length cw120, clw120⟩, ⟨72, 64, 1, zl (some ⟨b8, 0, none⟩) 1 1, cellsT s109.2.2.1⟩, ⟨72, 64, 1, zl (some ⟨b5, 0, none⟩) 1 1, cellsT s109.2.2.2⟩]) := hO
       refine zy (zl aw120 y119.length cw120) rfl rfl ?_; refine zN ?_; refine zR ?_; refine zV (rn_add rfl rfl) rfl ?_; refine zx (zi (IntKind.i64.wrap (s109.2.1 + 1))) rfl rfl ?_; refine zN ?_
       have hO : Owns _ _ _ ([⟨3, 1, y119.length, zl aw120 y119.length cw120, clw120⟩, ⟨72, 64, 1, zl (some ⟨b8, 0, none⟩) 1 1, cellsT s109.2.2.1⟩, ⟨72, 64, 1, zl (some ⟨b5, 0, none⟩) 1 1, cellsT s109.2.2.2⟩]) := hO
       have H := oi H; subst H; refine ⟨_, rfl, ?_⟩
       have l3_5 := leG114.trans leG118
       exact ⟨_, G118, aw120, y119.length, cw120, clw120, upds_self _ _ ⟨rfl, rfl, rfl, rfl, rfl, rfl, rfl, trivial⟩, l3_5, hS, hO, rfl, hrw120⟩
      ·have H := ifF hb115 H; refine WC_exit rfl ?_
       have hO : Owns _ _ _ ([⟨3, 1, ns109_0, zl as109_0 ns109_0 cs109_0, clas109_0⟩, ⟨72, 64, 1, zl (some ⟨b8, 0, none⟩) 1 1, cellsT s109.2.2.1⟩, ⟨72, 64, 1, zl (some ⟨b5, 0, none⟩) 1 1, cellsT s109.2.2.2⟩]) := hO
       have H := oi H; subst H
       have hres := hqq111 _ rfl
       subst hres
       exact ⟨_, G114, as109_0, ns109_0, cs109_0, clas109_0, upds_self _ _ ⟨rfl, rfl, rfl, rfl, rfl, trivial⟩, leG114, hS, hO, hnhs109_0, hs109_0⟩
    ·rintro F w121 ⟨Fb, G122, aq111_0, nq111_0, cq111_0, claq111_0, rfl, leG122, hS, hO, hnhq111_0, hq111_0⟩
     refine zS ?_; refine zx (zl aq111_0 nq111_0 cq111_0) rfl rfl ?_
     refine zO rfl (zW (v := fun b => zl (some ⟨b, 0, none⟩) 1 1) (cs := [zi 7]) (e := 3) (by kernel_rfl) hS.sat rfl (fun b123 G125 w124 hg hcb123 => ?_))
     have hS := hS.grow hg; have hO := hO.grow hg
     have leG125 := hg.le
     have hfb123 : RSl RInt 1 G125 (some ⟨b123, 0, none⟩) 1 1 [7] := RSl.of_rd hcb123 (Rd.cons (c := [zi 7]) rfl rfl (Rd.nil RInt 1 _)) rfl (by decide)
     obtain ⟨y126, hy126, H⟩ := bnd H; refine zO rfl (OpP_append (k := 0) sl41 RInt_one hS hO rfl hnhq111_0 (hq111_0.mono RInt_mono leG125) hfb123 hy126 rfl rfl rfl rfl rfl (fun aw127 cw127 w127 clw127 hS hO hrw127 => ?_))
     have hO : Owns _ _ _ ([⟨3, 1, y126.length, zl aw127 y126.length cw127, clw127⟩, ⟨72, 64, 1, zl (some ⟨b8, 0, none⟩) 1 1, cellsT q111.2.1⟩, ⟨72, 64, 1, zl (some ⟨b5, 0, none⟩) 1 1, cellsT q111.2.2⟩]) := hO
     refine zy (zl aw127 y126.length cw127) rfl rfl ?_; refine zN ?_; refine zQ ?_; refine WC_label ?_; refine zQ ?_; refine zS ?_; refine zV (zm (v := (zi (IntKind.i64.wrap ((x0.Events.length : Int) + 1)))) rfl) rfl ?_; refine zV (rn_add rfl rfl) rfl ?_; refine zx (zi 0) rfl rfl ?_; refine zN ?_; obtain ⟨q130, hq130, H⟩ := bnd H; refine zM (fun F w => ∃ (p129 : (Tb 64) × (Tb 64)) (Fb : Fr) (G : Gm), q130 = .inl p129 ∧ F = upds Fb [(4, zp b5), (6, zp b8)] ∧ Gle G125 G ∧ Since w0.heap.size G0 w0 G w ∧ Owns G w w0.heap.size [⟨3, 1, y126.length, zl aw127 y126.length cw127, clw127⟩, ⟨72, 64, 1, zl (some ⟨b8, 0, none⟩) 1 1, cellsT p129.1⟩, ⟨72, 64, 1, zl (some ⟨b5, 0, none⟩) 1 1, cellsT p129.2⟩]) ?_ ?_
     ·refine WC_block (WC_loop hq130 (fun s128 F w => ∃ (Fb : Fr) (G : Gm), F = upds Fb [(4, zp b5), (6, zp b8), (9, .func (.func 82) ([] : List Value).toArray ([zp b8] : List Value).toArray), (14, zl aw127 y126.length cw127), (118, zi (IntKind.i64.wrap ((IntKind.i64.wrap ((x0.Events.length : Int) + 1)) + 1))), (119, zi s128.1)] ∧ Gle G125 G ∧ Since w0.heap.size G0 w0 G w ∧ Owns G w w0.heap.size [⟨3, 1, y126.length, zl aw127 y126.length cw127, clw127⟩, ⟨72, 64, 1, zl (some ⟨b8, 0, none⟩) 1 1, cellsT s128.2.1⟩, ⟨72, 64, 1, zl (some ⟨b5, 0, none⟩) 1 1, cellsT s128.2.2⟩]) ?_ ?_)
      ·have hO : Owns _ _ _ ([⟨3, 1, y126.length, zl aw127 y126.length cw127, clw127⟩, ⟨72, 64, 1, zl (some ⟨b8, 0, none⟩) 1 1, cellsT q111.2.1⟩, ⟨72, 64, 1, zl (some ⟨b5, 0, none⟩) 1 1, cellsT q111.2.2⟩]) := hO
       exact ⟨_, G125, upds_self _ _ ⟨rfl, rfl, rfl, rfl, rfl, rfl, trivial⟩, Gle.refl _, hS, hO⟩
      ·rintro s128 F w132 t131 ⟨Fb, G133, rfl, leG133, hS, hO⟩
       intro H1 hqq130
       have Hoq130 := H; have H := H1
       unfold f63_b5 at H
       refine zS ?_; refine zV (rn_lss rfl rfl) rfl ?_; refine zN ?_; refine zQ ?_; refine zT rfl (fun hb134 => ?_) (fun hb134 => ?_)
       ·have H := ifT hb134 H; refine zP ?_; refine zQ ?_; refine WC_block ?_; refine zS ?_; refine zy (.bool false) rfl rfl ?_; refine zN ?_; refine zQ ?_; refine zS ?_; refine zx (zl aw127 y126.length cw127) rfl rfl ?_; refine zV (rn_len (m := y126.length) sl41 rfl rfl rfl) rfl ?_; refine zx (zi 0) rfl rfl ?_; refine zN ?_; obtain ⟨q137, hq137, H⟩ := bnd H; refine zM (fun F w => ∃ (Fb : Fr) (G : Gm), F = upds Fb [(4, zp b5), (6, zp b8), (9, .func (.func 82) ([] : List Value).toArray ([zp b8] : List Value).toArray), (14, zl aw127 y126.length cw127), (16, .bool q137.1), (118, zi (IntKind.i64.wrap ((IntKind.i64.wrap ((x0.Events.length : Int) + 1)) + 1))), (119, zi s128.1)] ∧ Gle G133 G ∧ Since w0.heap.size G0 w0 G w ∧ Owns G w w0.heap.size [⟨3, 1, y126.length, zl aw127 y126.length cw127, clw127⟩, ⟨72, 64, 1, zl (some ⟨b8, 0, none⟩) 1 1, cellsT q137.2.1⟩, ⟨72, 64, 1, zl (some ⟨b5, 0, none⟩) 1 1, cellsT q137.2.2⟩]) ?_ ?_
        ·refine WC_block (WC_loop hq137 (fun s135 F w => ∃ (Fb : Fr) (G : Gm), F = upds Fb [(4, zp b5), (6, zp b8), (9, .func (.func 82) ([] : List Value).toArray ([zp b8] : List Value).toArray), (14, zl aw127 y126.length cw127), (16, .bool s135.1), (118, zi (IntKind.i64.wrap ((IntKind.i64.wrap ((x0.Events.length : Int) + 1)) + 1))), (119, zi s128.1), (121, zl aw127 y126.length cw127), (122, zi (y126.length : Int)), (123, zi s135.2.1)] ∧ Gle G133 G ∧ Since w0.heap.size G0 w0 G w ∧ Owns G w w0.heap.size [⟨3, 1, y126.length, zl aw127 y126.length cw127, clw127⟩, ⟨72, 64, 1, zl (some ⟨b8, 0, none⟩) 1 1, cellsT s135.2.2.1⟩, ⟨72, 64, 1, zl (some ⟨b5, 0, none⟩) 1 1, cellsT s135.2.2.2⟩]) ?_ ?_)
         ·have hO : Owns _ _ _ ([⟨3, 1, y126.length, zl aw127 y126.length cw127, clw127⟩, ⟨72, 64, 1, zl (some ⟨b8, 0, none⟩) 1 1, cellsT s128.2.1⟩, ⟨72, 64, 1, zl (some ⟨b5, 0, none⟩) 1 1, cellsT s128.2.2⟩]) := hO
          exact ⟨_, G133, upds_self _ _ ⟨rfl, rfl, rfl, rfl, rfl, rfl, rfl, rfl, rfl, rfl, trivial⟩, Gle.refl _, hS, hO⟩
         ·rintro s135 F w139 t138 ⟨Fb, G140, rfl, leG140, hS, hO⟩
          intro H1 hqq137
          have Hoq137 := H; have H := H1
          unfold f63_b6 at H
          refine zS ?_; refine zV (rn_lss rfl rfl) rfl ?_; refine zN ?_; refine zQ ?_; refine zT rfl (fun hb141 => ?_) (fun hb141 => ?_)
          ·have H := ifT hb141 H; refine zP ?_; refine zQ ?_; refine WC_block ?_; refine zS ?_; obtain ⟨y142, hy142, H⟩ := bnd H
           have l5_7 := leG133.trans leG140
           refine WL_idxO sl41 hO (k := 0) rfl rfl (hrw127.mono RInt_mono l5_7) hy142 rfl rfl rfl ?_
           rintro b143 ob143 _ hb143 _ hcb143 ⟨⟩
           refine zV (zL na3 rfl (zH hO (k := 0) rfl hb143 _ 0 (hcb143 0 _ rfl))) rfl ?_; refine zy (zi y142) rfl rfl ?_; refine zN ?_; refine zS ?_; refine zx (zl aw127 y126.length cw127) rfl rfl ?_; refine zV (rn_len (m := y126.length) sl41 rfl rfl rfl) rfl ?_; refine zx (zi 0) rfl rfl ?_; refine zN ?_; obtain ⟨q146, hq146, H⟩ := bnd H; refine zM (fun F w => ∃ (Fb : Fr) (G : Gm), F = upds Fb [(4, zp b5), (6, zp b8), (9, .func (.func 82) ([] : List Value).toArray ([zp b8] : List Value).toArray), (14, zl aw127 y126.length cw127), (16, .bool q146.1), (118, zi (IntKind.i64.wrap ((IntKind.i64.wrap ((x0.Events.length : Int) + 1)) + 1))), (119, zi s128.1), (121, zl aw127 y126.length cw127), (122, zi (y126.length : Int)), (123, zi s135.2.1)] ∧ Gle G140 G ∧ Since w0.heap.size G0 w0 G w ∧ Owns G w w0.heap.size [⟨3, 1, y126.length, zl aw127 y126.length cw127, clw127⟩, ⟨72, 64, 1, zl (some ⟨b8, 0, none⟩) 1 1, cellsT q146.2.1⟩, ⟨72, 64, 1, zl (some ⟨b5, 0, none⟩) 1 1, cellsT q146.2.2⟩]) ?_ ?_
           ·refine WC_block (WC_loop hq146 (fun s144 F w => ∃ (Fb : Fr) (G : Gm), F = upds Fb [(4, zp b5), (6, zp b8), (9, .func (.func 82) ([] : List Value).toArray ([zp b8] : List Value).toArray), (14, zl aw127 y126.length cw127), (16, .bool s144.1), (18, zi y142), (118, zi (IntKind.i64.wrap ((IntKind.i64.wrap ((x0.Events.length : Int) + 1)) + 1))), (119, zi s128.1), (121, zl aw127 y126.length cw127), (122, zi (y126.length : Int)), (123, zi s135.2.1), (127, zl aw127 y126.length cw127), (128, zi (y126.length : Int)), (129, zi s144.2.1)] ∧ Gle G140 G ∧ Since w0.heap.size G0 w0 G w ∧ Owns G w w0.heap.size [⟨3, 1, y126.length, zl aw127 y126.length cw127, clw127⟩, ⟨72, 64, 1, zl (some ⟨b8, 0, none⟩) 1 1, cellsT s144.2.2.1⟩, ⟨72, 64, 1, zl (some ⟨b5, 0, none⟩) 1 1, cellsT s144.2.2.2⟩]) ?_ ?_)
            ·have hO : Owns _ _ _ ([⟨3, 1, y126.length, zl aw127 y126.length cw127, clw127⟩, ⟨72, 64, 1, zl (some ⟨b8, 0, none⟩) 1 1, cellsT s135.2.2.1⟩, ⟨72, 64, 1, zl (some ⟨b5, 0, none⟩) 1 1, cellsT s135.2.2.2⟩]) := hO
             exact ⟨_, G140, upds_self _ _ ⟨rfl, rfl, rfl, rfl, rfl, rfl, rfl, rfl, rfl, rfl, rfl, rfl, rfl, rfl, trivial⟩, Gle.refl _, hS, hO⟩
            ·rintro s144 F w148 t147 ⟨Fb, G149, rfl, leG149, hS, hO⟩
             intro H1 hqq146
             have Hoq146 := H; have H := H1
             unfold f63_b7 at H
             refine zS ?_; refine zV (rn_lss rfl rfl) rfl ?_; refine zN ?_; refine zQ ?_; refine zT rfl (fun hb150 => ?_) (fun hb150 => ?_)
             ·have H := ifT hb150 H; refine zP ?_; refine zQ ?_; refine WC_block ?_; refine zS ?_; obtain ⟨y151, hy151, H⟩ := bnd H
              have l5_8 := l5_7.trans leG149
              refine WL_idxO sl41 hO (k := 0) rfl rfl (hrw127.mono RInt_mono l5_8) hy151 rfl rfl rfl ?_
              rintro b152 ob152 _ hb152 _ hcb152 ⟨⟩
              refine zV (zL na3 rfl (zH hO (k := 0) rfl hb152 _ 0 (hcb152 0 _ rfl))) rfl ?_; refine zy (zi y151) rfl rfl ?_; refine zN ?_; refine zS ?_; refine zx (zl aw127 y126.length cw127) rfl rfl ?_; refine zV (rn_len (m := y126.length) sl41 rfl rfl rfl) rfl ?_; refine zx (zi 0) rfl rfl ?_; refine zN ?_; obtain ⟨q155, hq155, H⟩ := bnd H; refine zM (fun F w => ∃ (Fb : Fr) (G : Gm), F = upds Fb [(4, zp b5), (6, zp b8), (9, .func (.func 82) ([] : List Value).toArray ([zp b8] : List Value).toArray), (14, zl aw127 y126.length cw127), (16, .bool q155.1), (18, zi y142), (118, zi (IntKind.i64.wrap ((IntKind.i64.wrap ((x0.Events.length : Int) + 1)) + 1))), (119, zi s128.1), (121, zl aw127 y126.length cw127), (122, zi (y126.length : Int)), (123, zi s135.2.1), (127, zl aw127 y126.length cw127), (128, zi (y126.length : Int)), (129, zi s144.2.1)] ∧ Gle G149 G ∧ Since w0.heap.size G0 w0 G w ∧ Owns G w w0.heap.size [⟨3, 1, y126.length, zl aw127 y126.length cw127, clw127⟩, ⟨72, 64, 1, zl (some ⟨b8, 0, none⟩) 1 1, cellsT q155.2.1⟩, ⟨72, 64, 1, zl (some ⟨b5, 0, none⟩) 1 1, cellsT q155.2.2⟩]) ?_ ?_
              ·refine WC_block (WC_loop hq155 (fun s153 F w => ∃ (Fb : Fr) (G : Gm), F = upds Fb [(4, zp b5), (6, zp b8), (9, .func (.func 82) ([] : List Value).toArray ([zp b8] : List Value).toArray), (14, zl aw127 y126.length cw127), (16, .bool s153.1), (18, zi y142), (20, zi y151), (118, zi (IntKind.i64.wrap ((IntKind.i64.wrap ((x0.Events.length : Int) + 1)) + 1))), (119, zi s128.1), (121, zl aw127 y126.length cw127), (122, zi (y126.length : Int)), (123, zi s135.2.1), (127, zl aw127 y126.length cw127), (128, zi (y126.length : Int)), (129, zi s144.2.1), (133, zl aw127 y126.length cw127), (134, zi (y126.length : Int)), (135, zi s153.2.1)] ∧ Gle G149 G ∧ Since w0.heap.size G0 w0 G w ∧ Owns G w w0.heap.size [⟨3, 1, y126.length, zl aw127 y126.length cw127, clw127⟩, ⟨72, 64, 1, zl (some ⟨b8, 0, none⟩) 1 1, cellsT s153.2.2.1⟩, ⟨72, 64, 1, zl (some ⟨b5, 0, none⟩) 1 1, cellsT s153.2.2.2⟩]) ?_ ?_)
               ·have hO : Owns _ _ _ ([⟨3, 1, y126.length, zl aw127 y126.length cw127, clw127⟩, ⟨72, 64, 1, zl (some ⟨b8, 0, none⟩) 1 1, cellsT s144.2.2.1⟩, ⟨72, 64, 1, zl (some ⟨b5, 0, none⟩) 1 1, cellsT s144.2.2.2⟩]) := hO
                exact ⟨_, G149, upds_self _ _ ⟨rfl, rfl, rfl, rfl, rfl, rfl, rfl, rfl, rfl, rfl, rfl, rfl, rfl, rfl, rfl, rfl, rfl, rfl, trivial⟩, Gle.refl _, hS, hO⟩
               ·rintro s153 F w157 t156 ⟨Fb, G158, rfl, leG158, hS, hO⟩
                intro H1 hqq155
                have Hoq155 := H; have H := H1
                unfold f63_b8 at H
                refine zS ?_; refine zV (rn_lss rfl rfl) rfl ?_; refine zN ?_; refine zQ ?_; refine zT rfl (fun hb159 => ?_) (fun hb159 => ?_)
                ·have H := ifT hb159 H; refine zP ?_; refine zQ ?_; obtain ⟨q160, hq160, H⟩ := bnd H; refine zM (fun F w => ∃ (Fb : Fr) (G : Gm), F = upds Fb [(4, zp b5), (6, zp b8), (9, .func (.func 82) ([] : List Value).toArray ([zp b8] : List Value).toArray), (14, zl aw127 y126.length cw127), (16, .bool q160.1), (18, zi y142), (20, zi y151), (118, zi (IntKind.i64.wrap ((IntKind.i64.wrap ((x0.Events.length : Int) + 1)) + 1))), (119, zi s128.1), (121, zl aw127 y126.length cw127), (122, zi (y126.length : Int)), (123, zi s135.2.1), (127, zl aw127 y126.length cw127), (128, zi (y126.length : Int)), (129, zi s144.2.1), (133, zl aw127 y126.length cw127), (134, zi (y126.length : Int)), (135, zi s153.2.1)] ∧ Gle G158 G ∧ Since w0.heap.size G0 w0 G w ∧ Owns G w w0.heap.size [⟨3, 1, y126.length, zl aw127 y126.length cw127, clw127⟩, ⟨72, 64, 1, zl (some ⟨b8, 0, none⟩) 1 1, cellsT q160.2⟩, ⟨72, 64, 1, zl (some ⟨b5, 0, none⟩) 1 1, cellsT s153.2.2.2⟩]) ?_ ?_
                 ·have Hoq160 := H; have H := hq160; refine WC_block ?_; refine zS ?_; obtain ⟨y161, hy161, H⟩ := bnd H
                  have l5_9 := l5_8.trans leG158
                  refine WL_idxO sl41 hO (k := 0) rfl rfl (hrw127.mono RInt_mono l5_9) hy161 rfl rfl rfl ?_
                  rintro b162 ob162 _ hb162 _ hcb162 ⟨⟩
                  refine zV (zL na3 rfl (zH hO (k := 0) rfl hb162 _ 0 (hcb162 0 _ rfl))) rfl ?_; refine zy (zi y161) rfl rfl ?_; refine zN ?_; refine zQ ?_; obtain ⟨q163, hq163, H⟩ := bnd H; refine zM (fun F w => ∃ (Fb : Fr) (G : Gm), F = upds Fb [(4, zp b5), (6, zp b8), (9, .func (.func 82) ([] : List Value).toArray ([zp b8] : List Value).toArray), (14, zl aw127 y126.length cw127), (16, .bool s153.1), (18, zi y142), (20, zi y151), (118, zi (IntKind.i64.wrap ((IntKind.i64.wrap ((x0.Events.length : Int) + 1)) + 1))), (119, zi s128.1), (121, zl aw127 y126.length cw127), (122, zi (y126.length : Int)), (123, zi s135.2.1), (127, zl aw127 y126.length cw127), (128, zi (y126.length : Int)), (129, zi s144.2.1), (133, zl aw127 y126.length cw127), (134, zi (y126.length : Int)), (135, zi s153.2.1), (153, .bool q163.1)] ∧ Gle G158 G ∧ Since w0.heap.size G0 w0 G w ∧ Owns G w w0.heap.size [⟨3, 1, y126.length, zl aw127 y126.length cw127, clw127⟩, ⟨72, 64, 1, zl (some ⟨b8, 0, none⟩) 1 1, cellsT q163.2⟩, ⟨72, 64, 1, zl (some ⟨b5, 0, none⟩) 1 1, cellsT s153.2.2.2⟩]) ?_ ?_
                  ·have Hoq163 := H; have H := hq163; have hS := hS.keep (below_drew _); have hO := hO.below (below_drew _)
                   refine WC_regionD mixedO (fun _ w => Sat G158 w ∧ Owns G158 w w0.heap.size [⟨3, 1, y126.length, zl aw127 y126.length cw127, clw127⟩, ⟨72, 64, 1, zl (some ⟨b8, 0, none⟩) 1 1, cellsT s153.2.2.1⟩, ⟨72, 64, 1, zl (some ⟨b5, 0, none⟩) 1 1, cellsT s153.2.2.2⟩]) (.fl 0 (.fl 1 (.fl 2 (.fl 3 (.fl 4 (.fl 5 (.fl 6 (.fl 7 (.fl 8 (.fl 9 (.on 10 (.on 11 (.on 12 (.on 13 (.on 14 .nil))))))))))))))) (by kernel_rfl) rfl (by kernel_rfl) (fun _ => ⟨hS.sat, hO⟩) ?_
                   refine zD rfl (fun w hw => zm (v := (.func (.func 82) ([] : List Value).toArray ([zp b8] : List Value).toArray)) rfl) rfl ?_; refine zD rfl (fun w hw => zm (v := (zi y151)) rfl) rfl ?_; refine zD rfl (fun w hw => zm (v := (zi y161)) rfl) rfl ?_; refine zD rfl (fun w hw => zm (v := (zi y151)) rfl) rfl ?_; refine zD rfl (fun w hw => zm (v := (zi y142)) rfl) rfl ?_; obtain ⟨j164, hj164, H⟩ := bnd H; refine zD rfl (fun w hw => rn_idxA ar72 rfl rfl hj164) rfl ?_; obtain ⟨j165, hj165, H⟩ := bnd H
                   have hl166 : 0 + j164 * 8 + j165 * 1 < 64 := by have := (ckI_some hj164).2; have := (ckI_some hj165).2; omega
                   refine zD rfl (fun w hw => rn_idxA ar70 rfl rfl hj165) rfl ?_; refine zD rfl (fun w hw => zL na3 rfl (tab_cell hw.2 (k := 1) rfl hl166)) rfl ?_; refine zD rfl (fun w hw => zm (v := (zi y142)) rfl) rfl ?_; refine zD rfl (fun w hw => zm (v := (zi y161)) rfl) rfl ?_; obtain ⟨j167, hj167, H⟩ := bnd H; refine zE rfl rfl (OpP_val (rn_idxA ar72 rfl rfl hj167) rfl ?_); refine ⟨fun _ _ => ⟨hS.sat, hO⟩, ?_⟩; obtain ⟨j168, hj168, H⟩ := bnd H
                   have hl169 : 0 + j167 * 8 + j168 * 1 < 64 := by have := (ckI_some hj167).2; have := (ckI_some hj168).2; omega
                   refine zE rfl rfl (OpP_val (rn_idxA ar70 rfl rfl hj168) rfl ?_); refine ⟨fun _ _ => ⟨hS.sat, hO⟩, ?_⟩; refine zE rfl rfl (OpP_val (zL na3 rfl (tab_cell hO (k := 1) rfl hl169)) rfl ?_); refine ⟨fun _ _ => ⟨hS.sat, hO⟩, ?_⟩; refine zE rfl rfl (OpP_val (rn_add rfl rfl) rfl ?_); refine ⟨fun _ _ => ⟨hS.sat, hO⟩, ?_⟩; refine zE rfl rfl (OpP_inC1 (N' := 20) (fi := []) (al := [zi y151, zi y161, zi (IntKind.i64.wrap ((tget s153.2.2.1 (0 + j164 * 8 + j165 * 1)) + (tget s153.2.2.1 (0 + j167 * 8 + j168 * 1))))]) (ca := [zp b8]) cb82 Tryz.func82 rfl rfl rfl rfl rfl rfl rfl ?_); refine zS ?_; refine zy (.bool false) rfl rfl ?_; refine zN ?_; refine zQ ?_; refine zS ?_; refine zV (zm (v := (zi (IntKind.i64.wrap ((tget s153.2.2.1 (0 + j164 * 8 + j165 * 1)) + (tget s153.2.2.1 (0 + j167 * 8 + j168 * 1)))))) rfl) rfl ?_; refine zx (zi y151) rfl rfl ?_; refine zx (zi y161) rfl rfl ?_; obtain ⟨j170, hj170, H⟩ := bnd H; refine zV (rn_idxA ar72 rfl rfl hj170) rfl ?_; obtain ⟨j171, hj171, H⟩ := bnd H
                   have hl172 : 0 + j170 * 8 + j171 * 1 < 64 := by have := (ckI_some hj170).2; have := (ckI_some hj171).2; omega
                   refine zV (rn_idxA ar70 rfl rfl hj171) rfl ?_; refine zV (zL na3 rfl (tab_cell hO (k := 1) rfl hl172)) rfl ?_; refine zV (rn_geq rfl rfl) rfl ?_; refine zN ?_; refine zT rfl (fun hb173 => ?_) (fun hb173 => ?_)
                   ·have H := ifT hb173 H; refine zS ?_; refine zy (.bool false) rfl rfl ?_; refine zN ?_; refine WC_ret ?_; refine ⟨(.bool false), rfl, ?_⟩
                    have hO : Owns _ _ _ ([⟨3, 1, y126.length, zl aw127 y126.length cw127, clw127⟩, ⟨72, 64, 1, zl (some ⟨b8, 0, none⟩) 1 1, cellsT s153.2.2.1⟩, ⟨72, 64, 1, zl (some ⟨b5, 0, none⟩) 1 1, cellsT s153.2.2.2⟩]) := hO
                    refine ⟨fun _ h => noneed (by kernel_rfl) h, ?_⟩
                    refine zI ?_
                    have hO : Owns _ _ _ ([⟨3, 1, y126.length, zl aw127 y126.length cw127, clw127⟩, ⟨72, 64, 1, zl (some ⟨b8, 0, none⟩) 1 1, cellsT s153.2.2.1⟩, ⟨72, 64, 1, zl (some ⟨b5, 0, none⟩) 1 1, cellsT s153.2.2.2⟩]) := hO
                    have H := oi H; subst H
                    exact ⟨_, G158, upds_self _ _ ⟨rfl, rfl, rfl, rfl, rfl, rfl, rfl, rfl, rfl, rfl, rfl, rfl, rfl, rfl, rfl, rfl, rfl, rfl, rfl, trivial⟩, Gle.refl _, hS, hO⟩
                   ·have H := ifF hb173 H; refine zP ?_; refine zS ?_; refine zx (zi y151) rfl rfl ?_; refine zx (zi y161) rfl rfl ?_; refine zV (zm (v := (zi (IntKind.i64.wrap ((tget s153.2.2.1 (0 + j164 * 8 + j165 * 1)) + (tget s153.2.2.1 (0 + j167 * 8 + j168 * 1)))))) rfl) rfl ?_; obtain ⟨j174, hj174, H⟩ := bnd H; refine zV (rn_idxA ar72 rfl rfl hj174) rfl ?_; obtain ⟨j175, hj175, H⟩ := bnd H
                    have hl176 : 0 + j174 * 8 + j175 * 1 < 64 := by have := (ckI_some hj174).2; have := (ckI_some hj175).2; omega
                    refine zV (rn_idxA ar70 rfl rfl hj175) rfl ?_; refine zO rfl (OpP_storeT sz3 hS hO (k := 1) rfl rfl rfl hl176 (fun w177 hS hO => ?_))
                    have hO : Owns _ _ _ ([⟨3, 1, y126.length, zl aw127 y126.length cw127, clw127⟩, ⟨72, 64, 1, zl (some ⟨b8, 0, none⟩) 1 1, cellsT (tset s153.2.2.1 (0 + j174 * 8 + j175 * 1) (IntKind.i64.wrap ((tget s153.2.2.1 (0 + j164 * 8 + j165 * 1)) + (tget s153.2.2.1 (0 + j167 * 8 + j168 * 1)))))⟩, ⟨72, 64, 1, zl (some ⟨b5, 0, none⟩) 1 1, cellsT s153.2.2.2⟩]) := hO
                    refine zN ?_; refine zS ?_; refine zy (.bool true) rfl rfl ?_; refine zN ?_; refine WC_ret ?_; refine ⟨(.bool true), rfl, ?_⟩
                    have hO : Owns _ _ _ ([⟨3, 1, y126.length, zl aw127 y126.length cw127, clw127⟩, ⟨72, 64, 1, zl (some ⟨b8, 0, none⟩) 1 1, cellsT (tset s153.2.2.1 (0 + j174 * 8 + j175 * 1) (IntKind.i64.wrap ((tget s153.2.2.1 (0 + j164 * 8 + j165 * 1)) + (tget s153.2.2.1 (0 + j167 * 8 + j168 * 1)))))⟩, ⟨72, 64, 1, zl (some ⟨b5, 0, none⟩) 1 1, cellsT s153.2.2.2⟩]) := hO
                    refine ⟨fun _ h => noneed (by kernel_rfl) h, ?_⟩
                    refine zI ?_
                    have hO : Owns _ _ _ ([⟨3, 1, y126.length, zl aw127 y126.length cw127, clw127⟩, ⟨72, 64, 1, zl (some ⟨b8, 0, none⟩) 1 1, cellsT (tset s153.2.2.1 (0 + j174 * 8 + j175 * 1) (IntKind.i64.wrap ((tget s153.2.2.1 (0 + j164 * 8 + j165 * 1)) + (tget s153.2.2.1 (0 + j167 * 8 + j168 * 1)))))⟩, ⟨72, 64, 1, zl (some ⟨b5, 0, none⟩) 1 1, cellsT s153.2.2.2⟩]) := hO
                    have H := oi H; subst H
                    exact ⟨_, G158, upds_self _ _ ⟨rfl, rfl, rfl, rfl, rfl, rfl, rfl, rfl, rfl, rfl, rfl, rfl, rfl, rfl, rfl, rfl, rfl, rfl, rfl, trivial⟩, Gle.refl _, hS, hO⟩
                  ·rintro F w178 ⟨Fb, G179, rfl, leG179, hS, hO⟩
                   refine zT rfl (fun hb180 => ?_) (fun hb180 => ?_)
                   ·have H := ifT hb180 H; refine zR ?_; refine zy (.bool true) rfl rfl ?_; refine zN ?_
                    have hO : Owns _ _ _ ([⟨3, 1, y126.length, zl aw127 y126.length cw127, clw127⟩, ⟨72, 64, 1, zl (some ⟨b8, 0, none⟩) 1 1, cellsT q163.2⟩, ⟨72, 64, 1, zl (some ⟨b5, 0, none⟩) 1 1, cellsT s153.2.2.2⟩]) := hO
                    have H := oi H; subst H
                    exact ⟨_, G179, upds_self _ _ ⟨rfl, rfl, rfl, rfl, rfl, rfl, rfl, rfl, rfl, rfl, rfl, rfl, rfl, rfl, rfl, rfl, rfl, rfl, trivial⟩, leG179, hS, hO⟩
                   ·have H := ifF hb180 H; refine zP ?_
                    have hO : Owns _ _ _ ([⟨3, 1, y126.length, zl aw127 y126.length cw127, clw127⟩, ⟨72, 64, 1, zl (some ⟨b8, 0, none⟩) 1 1, cellsT q163.2⟩, ⟨72, 64, 1, zl (some ⟨b5, 0, none⟩) 1 1, cellsT s153.2.2.2⟩]) := hO
                    have H := oi H; subst H
                    exact ⟨_, G179, upds_self _ _ ⟨rfl, rfl, rfl, rfl, rfl, rfl, rfl, rfl, rfl, rfl, rfl, rfl, rfl, rfl, rfl, rfl, rfl, rfl, trivial⟩, leG179, hS, hO⟩
                 ·rintro F w181 ⟨Fb, G182, rfl, leG182, hS, hO⟩
                  refine zR ?_; refine zV (rn_add rfl rfl) rfl ?_; refine zx (zi (IntKind.i64.wrap (s153.2.1 + 1))) rfl rfl ?_; refine zN ?_
                  have hO : Owns _ _ _ ([⟨3, 1, y126.length, zl aw127 y126.length cw127, clw127⟩, ⟨72, 64, 1, zl (some ⟨b8, 0, none⟩) 1 1, cellsT q160.2⟩, ⟨72, 64, 1, zl (some ⟨b5, 0, none⟩) 1 1, cellsT s153.2.2.2⟩]) := hO
                  have H := oi H; subst H; refine ⟨_, rfl, ?_⟩
                  have l8_10 := leG158.trans leG182
                  exact ⟨_, G182, upds_self _ _ ⟨rfl, rfl, rfl, rfl, rfl, rfl, rfl, rfl, rfl, rfl, rfl, rfl, rfl, rfl, rfl, rfl, rfl, rfl, trivial⟩, l8_10, hS, hO⟩
                ·have H := ifF hb159 H; refine WC_exit rfl ?_
                 have hO : Owns _ _ _ ([⟨3, 1, y126.length, zl aw127 y126.length cw127, clw127⟩, ⟨72, 64, 1, zl (some ⟨b8, 0, none⟩) 1 1, cellsT s153.2.2.1⟩, ⟨72, 64, 1, zl (some ⟨b5, 0, none⟩) 1 1, cellsT s153.2.2.2⟩]) := hO
                 have H := oi H; subst H
                 have hres := hqq155 _ rfl
                 subst hres
                 exact ⟨_, G158, upds_self _ _ ⟨rfl, rfl, rfl, rfl, rfl, rfl, rfl, rfl, rfl, rfl, rfl, rfl, rfl, rfl, trivial⟩, leG158, hS, hO⟩
              ·rintro F w183 ⟨Fb, G184, rfl, leG184, hS, hO⟩
               refine zR ?_; refine zV (rn_add rfl rfl) rfl ?_; refine zx (zi (IntKind.i64.wrap (s144.2.1 + 1))) rfl rfl ?_; refine zN ?_
               have hO : Owns _ _ _ ([⟨3, 1, y126.length, zl aw127 y126.length cw127, clw127⟩, ⟨72, 64, 1, zl (some ⟨b8, 0, none⟩) 1 1, cellsT q155.2.1⟩, ⟨72, 64, 1, zl (some ⟨b5, 0, none⟩) 1 1, cellsT q155.2.2⟩]) := hO
               have H := oi H; subst H; refine ⟨_, rfl, ?_⟩
               have l7_9 := leG149.trans leG184
               exact ⟨_, G184, upds_self _ _ ⟨rfl, rfl, rfl, rfl, rfl, rfl, rfl, rfl, rfl, rfl, rfl, rfl, rfl, rfl, trivial⟩, l7_9, hS, hO⟩
             ·have H := ifF hb150 H; refine WC_exit rfl ?_
              have hO : Owns _ _ _ ([⟨3, 1, y126.length, zl aw127 y126.length cw127, clw127⟩, ⟨72, 64, 1, zl (some ⟨b8, 0, none⟩) 1 1, cellsT s144.2.2.1⟩, ⟨72, 64, 1, zl (some ⟨b5, 0, none⟩) 1 1, cellsT s144.2.2.2⟩]) := hO
              have H := oi H; subst H
              have hres := hqq146 _ rfl
              subst hres
              exact ⟨_, G149, upds_self _ _ ⟨rfl, rfl, rfl, rfl, rfl, rfl, rfl, rfl, rfl, rfl, trivial⟩, leG149, hS, hO⟩
           ·rintro F w185 ⟨Fb, G186, rfl, leG186, hS, hO⟩
            refine zR ?_; refine zV (rn_add rfl rfl) rfl ?_; refine zx (zi (IntKind.i64.wrap (s135.2.1 + 1))) rfl rfl ?_; refine zN ?_
            have hO : Owns _ _ _ ([⟨3, 1, y126.length, zl aw127 y126.length cw127, clw127⟩, ⟨72, 64, 1, zl (some ⟨b8, 0, none⟩) 1 1, cellsT q146.2.1⟩, ⟨72, 64, 1, zl (some ⟨b5, 0, none⟩) 1 1, cellsT q146.2.2⟩]) := hO
            have H := oi H; subst H; refine ⟨_, rfl, ?_⟩
            have l6_8 := leG140.trans leG186
            exact ⟨_, G186, upds_self _ _ ⟨rfl, rfl, rfl, rfl, rfl, rfl, rfl, rfl, rfl, rfl, trivial⟩, l6_8, hS, hO⟩
          ·have H := ifF hb141 H; refine WC_exit rfl ?_
           have hO : Owns _ _ _ ([⟨3, 1, y126.length, zl aw127 y126.length cw127, clw127⟩, ⟨72, 64, 1, zl (some ⟨b8, 0, none⟩) 1 1, cellsT s135.2.2.1⟩, ⟨72, 64, 1, zl (some ⟨b5, 0, none⟩) 1 1, cellsT s135.2.2.2⟩]) := hO
           have H := oi H; subst H
           have hres := hqq137 _ rfl
           subst hres
           exact ⟨_, G140, upds_self _ _ ⟨rfl, rfl, rfl, rfl, rfl, rfl, rfl, trivial⟩, leG140, hS, hO⟩
        ·rintro F w187 ⟨Fb, G188, rfl, leG188, hS, hO⟩
         refine zQ ?_; refine zS ?_; refine zx (zl aw127 y126.length cw127) rfl rfl ?_; refine zV (rn_len (m := y126.length) sl41 rfl rfl rfl) rfl ?_; refine zx (zi 0) rfl rfl ?_; refine zN ?_; obtain ⟨q191, hq191, H⟩ := bnd H; refine zM (fun F w => ∃ (p190 : Unit) (Fb : Fr), q191 = .inl p190 ∧ F = upds Fb [(4, zp b5), (6, zp b8), (9, .func (.func 82) ([] : List Value).toArray ([zp b8] : List Value).toArray), (14, zl aw127 y126.length cw127), (16, .bool q137.1), (118, zi (IntKind.i64.wrap ((IntKind.i64.wrap ((x0.Events.length : Int) + 1)) + 1))), (119, zi s128.1)] ∧ w187 = w) ?_ ?_
         ·refine WC_block (WC_loop hq191 (fun s189 F w => ∃ (Fb : Fr), F = upds Fb [(4, zp b5), (6, zp b8), (9, .func (.func 82) ([] : List Value).toArray ([zp b8] : List Value).toArray), (14, zl aw127 y126.length cw127), (16, .bool q137.1), (118, zi (IntKind.i64.wrap ((IntKind.i64.wrap ((x0.Events.length : Int) + 1)) + 1))), (119, zi s128.1), (157, zl aw127 y126.length cw127), (158, zi (y126.length : Int)), (159, zi s189)] ∧ w187 = w) ?_ ?_)
          ·exact ⟨_, upds_self _ _ ⟨rfl, rfl, rfl, rfl, rfl, rfl, rfl, rfl, rfl, rfl, trivial⟩, rfl⟩
          ·rintro s189 F wl t192 ⟨Fb, rfl, rfl⟩
           intro H1 hqq191
           have Hoq191 := H; have H := H1
           unfold f63_b9 at H
           refine zS ?_; refine zV (rn_lss rfl rfl) rfl ?_; refine zN ?_; refine zQ ?_; refine zT rfl (fun hb195 => ?_) (fun hb195 => ?_)
           ·have H := ifT hb195 H; refine zP ?_; refine zQ ?_; refine WC_block ?_; refine zS ?_; obtain ⟨y196, hy196, H⟩ := bnd H
            have l5_7 := leG133.trans leG188
            refine WL_idxO sl41 hO (k := 0) rfl rfl (hrw127.mono RInt_mono l5_7) hy196 rfl rfl rfl ?_
            rintro b197 ob197 _ hb197 _ hcb197 ⟨⟩
            refine zV (zL na3 rfl (zH hO (k := 0) rfl hb197 _ 0 (hcb197 0 _ rfl))) rfl ?_; refine zy (zi y196) rfl rfl ?_; refine zN ?_; refine zS ?_; refine zx (zi y196) rfl rfl ?_; refine zx (zi y196) rfl rfl ?_; obtain ⟨j198, hj198, H⟩ := bnd H; refine zV (rn_idxA ar72 rfl rfl hj198) rfl ?_; obtain ⟨j199, hj199, H⟩ := bnd H
            have hl200 : 0 + j198 * 8 + j199 * 1 < 64 := by have := (ckI_some hj198).2; have := (ckI_some hj199).2; omega
            refine zV (rn_idxA ar70 rfl rfl hj199) rfl ?_; refine zV (zL na3 rfl (tab_cell hO (k := 1) rfl hl200)) rfl ?_; refine zV (rn_lss rfl rfl) rfl ?_; refine zN ?_; refine zT rfl (fun hb201 => ?_) (fun hb201 => ?_)
            ·have H := ifT hb201 H; refine zS ?_
             refine zV (v := (.agg (cellsT (Tb.zero 64)).toArray)) (by kernel_rfl) rfl ?_
             refine zO rfl (OpP_storeTT sz72 hS hO (k := 2) rfl rfl rfl (fun w202 hS hO => ?_))
             have hO : Owns _ _ _ ([⟨3, 1, y126.length, zl aw127 y126.length cw127, clw127⟩, ⟨72, 64, 1, zl (some ⟨b8, 0, none⟩) 1 1, cellsT q137.2.1⟩, ⟨72, 64, 1, zl (some ⟨b5, 0, none⟩) 1 1, cellsT (Tb.zero 64)⟩]) := hO
             refine zy (.bool false) rfl rfl ?_; refine zN ?_; refine WC_ret ?_; have H := oi H; subst H
             have hres := hqq191 _ rfl
             subst hres; have H := Hoq191; have H := oi H; subst H
             have hres := hqq130 _ rfl
             subst hres; have H := Hoq130
             have H : some (Tb.zero 64, false) = some r := H
             have H := oi H; subst H
             exact ⟨[.agg (cellsT (Tb.zero 64)).toArray, .bool false], ⟨⟨_, rfl, ld_agg (cs := (cellsT (Tb.zero 64))) ag72 (cellsT_len _) (fun j v hj => by rw [Nat.zero_add]; exact own_cell hO (k := 2) rfl hj)⟩, rfl, trivial⟩, ⟨rfl, hS.below⟩⟩
            ·have H := ifF hb201 H; refine zP ?_; refine zR ?_; refine zV (rn_add rfl rfl) rfl ?_; refine zx (zi (IntKind.i64.wrap (s189 + 1))) rfl rfl ?_; refine zN ?_; have H := oi H; subst H; refine ⟨_, rfl, ?_⟩
             exact ⟨_, upds_self _ _ ⟨rfl, rfl, rfl, rfl, rfl, rfl, rfl, rfl, rfl, rfl, trivial⟩, rfl⟩
           ·have H := ifF hb195 H; refine WC_exit rfl ?_; have H := oi H; subst H
            have hres := hqq191 _ rfl
            subst hres
            exact ⟨_, _, rfl, upds_self _ _ ⟨rfl, rfl, rfl, rfl, rfl, rfl, rfl, trivial⟩, rfl⟩
         ·rintro F wl ⟨p190, Fb, rfl, rfl, rfl⟩
          refine zS ?_; refine zx (.bool q137.1) rfl rfl ?_; refine zV (rn_not rfl) rfl ?_; refine zN ?_; refine zT rfl (fun hb205 => ?_) (fun hb205 => ?_)
          ·have H := ifT hb205 H; refine WC_exit rfl ?_
           have hO : Owns _ _ _ ([⟨3, 1, y126.length, zl aw127 y126.length cw127, clw127⟩, ⟨72, 64, 1, zl (some ⟨b8, 0, none⟩) 1 1, cellsT q137.2.1⟩, ⟨72, 64, 1, zl (some ⟨b5, 0, none⟩) 1 1, cellsT q137.2.2⟩]) := hO
           have H := oi H; subst H
           have hres := hqq130 _ rfl
           subst hres
           have l5_7 := leG133.trans leG188
           exact ⟨_, _, G188, rfl, upds_self _ _ ⟨rfl, rfl, trivial⟩, l5_7, hS, hO⟩
          ·have H := ifF hb205 H; refine zP ?_; refine zR ?_; refine zV (rn_add rfl rfl) rfl ?_; refine zx (zi (IntKind.i64.wrap (s128.1 + 1))) rfl rfl ?_; refine zN ?_
           have hO : Owns _ _ _ ([⟨3, 1, y126.length, zl aw127 y126.length cw127, clw127⟩, ⟨72, 64, 1, zl (some ⟨b8, 0, none⟩) 1 1, cellsT q137.2.1⟩, ⟨72, 64, 1, zl (some ⟨b5, 0, none⟩) 1 1, cellsT q137.2.2⟩]) := hO
           have H := oi H; subst H; refine ⟨_, rfl, ?_⟩
           have l5_7 := leG133.trans leG188
           exact ⟨_, G188, upds_self _ _ ⟨rfl, rfl, rfl, rfl, rfl, rfl, trivial⟩, l5_7, hS, hO⟩
       ·have H := ifF hb134 H; refine WC_exit rfl ?_
        have hO : Owns _ _ _ ([⟨3, 1, y126.length, zl aw127 y126.length cw127, clw127⟩, ⟨72, 64, 1, zl (some ⟨b8, 0, none⟩) 1 1, cellsT s128.2.1⟩, ⟨72, 64, 1, zl (some ⟨b5, 0, none⟩) 1 1, cellsT s128.2.2⟩]) := hO
        have H := oi H; subst H
        have hres := hqq130 _ rfl
        subst hres
        exact ⟨_, _, G133, rfl, upds_self _ _ ⟨rfl, rfl, trivial⟩, leG133, hS, hO⟩
     ·rintro F w207 ⟨p129, Fb, G208, rfl, rfl, leG208, hS, hO⟩
      refine zS ?_; refine zV (rn_loadT ag72 hO (k := 1) rfl rfl) rfl ?_; refine zO rfl (OpP_storeTT sz72 hS hO (k := 2) rfl rfl rfl (fun w209 hS hO => ?_))
      have hO : Owns _ _ _ ([⟨3, 1, y126.length, zl aw127 y126.length cw127, clw127⟩, ⟨72, 64, 1, zl (some ⟨b8, 0, none⟩) 1 1, cellsT p129.1⟩, ⟨72, 64, 1, zl (some ⟨b5, 0, none⟩) 1 1, cellsT p129.1⟩]) := hO
      refine zy (.bool true) rfl rfl ?_; refine zN ?_; refine WC_ret ?_
      have H : some (p129.1, true) = some r := H
      have H := oi H; subst H
      exact ⟨[.agg (cellsT p129.1).toArray, .bool true], ⟨⟨_, rfl, ld_agg (cs := (cellsT p129.1)) ag72 (cellsT_len _) (fun j v hj => by rw [Nat.zero_add]; exact own_cell hO (k := 2) rfl hj)⟩, rfl, trivial⟩, ⟨rfl, hS.below⟩⟩
end Go.Proofs.YtcaflmilfhhikaaGreatDoor
