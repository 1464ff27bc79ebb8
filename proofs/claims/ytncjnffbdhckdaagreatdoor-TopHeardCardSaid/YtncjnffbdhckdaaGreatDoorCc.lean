/-
 slices.Concat of three and two functions, by the evaluator.
-/
import Derived.Test.YtncjnffbdhckdaaGreatDoorEvG5
import Derived.Test.YtncjnffbdhckdaaGreatDoorChecked
import Derived.KernelRfl
namespace Go.Proofs.YtncjnffbdhckdaaGreatDoor.Ev
open Go.RowKit
set_option linter.unusedVariables false
noncomputable def hpC (v1 v2 v3 u1 u2 : Value) : Hp := hset (.cells (.l [.lit u1, .lit u2]) true) (hset (.cells (.l [.lit v1, .lit v2, .lit v3]) true) (hset (.cells (.l [.asl 3 0 3 3, .asl 4 0 2 2]) true) (tnil 14) 2) 3) 4
noncomputable def outC (v1 v2 v3 u1 u2 : Value) : Out := evM Tryz.prog [] 100 78 [.asl 2 0 2 2] (hpC v1 v2 v3 u1 u2) 5
noncomputable def getC (o : Out) : Option (AV × Option AObj) := match o with
 | .ok .ret r m => match fget r 0 with
  | some v => some (v, hget m.hp 5)
  | none => none
 | _ => none
theorem concat_b (f1 f2 f3 f4 f5 : Fn) (a1 a2 a3 a4 a5 b1 b2 b3 b4 b5 : Array Value) :
  getC (outC (.func f1 a1 b1) (.func f2 a2 b2) (.func f3 a3 b3) (.func f4 a4 b4) (.func f5 a5 b5)) = some (.slc 5 0 5 5 1, some (.cells (.l [.lit (.func f1 a1 b1), .lit (.func f2 a2 b2), .lit (.func f3 a3 b3), .lit (.func f4 a4 b4), .lit (.func f5 a5 b5)]) false)) := by kernel_rfl
theorem none_okC (P : Program) : EntsS P [] := fun p hp => by cases hp
theorem block_of {w : World} {b : Nat} {l : List Value} (h : ∀ (j : Nat) v, l[j]? = some v → w.cell? ⟨b, 0 + j, none⟩ = some v) (h0 : l ≠ []) : ∃ (arr : Array Value) (el : TypeId) (fz : Nat × Nat), w.heap[b]? = some (.cells arr el fz) ∧ l.length ≤ arr.size ∧ ∀ (j : Nat) v, l[j]? = some v → arr[j]? = some v := by
 have key : ∀ (j : Nat) v, l[j]? = some v → ∃ (arr : Array Value) (el : TypeId) (fz : Nat × Nat), w.heap[b]? = some (.cells arr el fz) ∧ arr[j]? = some v := fun j v hj => by
  have := h j v hj
  unfold World.cell? at this
  split at this
  ·rename_i c el fz ho
   refine ⟨c, el, fz, ho, ?_⟩
   simpa using this
  ·cases this
 cases l with
 | nil => exact absurd rfl h0
 | cons x l =>
  obtain ⟨arr, el, fz, h1, h2⟩ := key 0 x rfl
  have all : ∀ (j : Nat) v, (x :: l)[j]? = some v → arr[j]? = some v := fun j v hj => by
   obtain ⟨arr', el', fz', h3, h4⟩ := key j v hj
   rw [h1] at h3
   cases h3
   exact h4
  refine ⟨arr, el, fz, h1, ?_, all⟩
  have hl : (x :: l)[l.length]? = some ((x :: l)[l.length]) := List.getElem?_eq_getElem (by simp)
  have := (Array.getElem?_eq_some_iff.1 (all _ _ hl)).1
  simp only [List.length_cons]
  omega
theorem f78_ok (f1 f2 f3 f4 f5 : Fn) (a1 a2 a3 a4 a5 b1 b2 b3 b4 b5 : Array Value) {w : World} {o a m : Nat} (h2 : 2 ≤ w.heap.size) (hoa : o ≠ a) (hom : o ≠ m) (ham : a ≠ m)
  (ho : ∀ (j : Nat) v, [Value.slice (some ⟨a, 0, none⟩) 3 3, Value.slice (some ⟨m, 0, none⟩) 2 2][j]? = some v → w.cell? ⟨o, 0 + j, none⟩ = some v)
  (ha : ∀ (j : Nat) v, [Value.func f1 a1 b1, Value.func f2 a2 b2, Value.func f3 a3 b3][j]? = some v → w.cell? ⟨a, 0 + j, none⟩ = some v)
  (hm : ∀ (j : Nat) v, [Value.func f4 a4 b4, Value.func f5 a5 b5][j]? = some v → w.cell? ⟨m, 0 + j, none⟩ = some v) :
  Calls Tryz.prog 78 #[.slice (some ⟨o, 0, none⟩) 2 2] w fun e w' => ∃ (b off cp : Nat), e = .returned (.slice (some ⟨b, off, none⟩) 5 cp) ∧ Below w.heap.size w w' ∧
   ∀ (j : Nat) v, [Value.func f1 a1 b1, Value.func f2 a2 b2, Value.func f3 a3 b3, Value.func f4 a4 b4, Value.func f5 a5 b5][j]? = some v → w'.cell? ⟨b, off + j, none⟩ = some v := by
 obtain ⟨oa, oe, of, o1, o2, o3⟩ := block_of ho (by simp)
 obtain ⟨aa, ae, af, q1, q2, q3⟩ := block_of ha (by simp)
 obtain ⟨ma, me, mf, m1, m2, m3⟩ := block_of hm (by simp)
 have ol := (Array.getElem?_eq_some_iff.1 o1).1
 have al := (Array.getElem?_eq_some_iff.1 q1).1
 have ml := (Array.getElem?_eq_some_iff.1 m1).1
 generalize hσ : (fun b => match b with | 0 => some ⟨0, 0, 0, 0, 0⟩ | 1 => some ⟨1, 0, 0, 0, 0⟩ | 2 => some ⟨o, 0, 0, 1, 2⟩ | 3 => some ⟨a, 0, 0, 1, 3⟩ | 4 => some ⟨m, 0, 0, 1, 2⟩ | _ => none : Sg) = σ
 have hb := concat_b f1 f2 f3 f4 f5 a1 a2 a3 a4 a5 b1 b2 b3 b4 b5
 have hg : ∀ b ob, hget (hpC (.func f1 a1 b1) (.func f2 a2 b2) (.func f3 a3 b3) (.func f4 a4 b4) (.func f5 a5 b5)) b = some ob →
   (b = 2 ∧ ob = .cells (.l [.asl 3 0 3 3, .asl 4 0 2 2]) true) ∨ (b = 3 ∧ ob = .cells (.l [.lit (.func f1 a1 b1), .lit (.func f2 a2 b2), .lit (.func f3 a3 b3)]) true) ∨ (b = 4 ∧ ob = .cells (.l [.lit (.func f4 a4 b4), .lit (.func f5 a5 b5)]) true) := fun b ob h => by
  unfold hpC at h
  rw [hget_set _ _ (by decide)] at h
  split at h
  ·rename_i e; exact .inr (.inr ⟨e, (Option.some.inj h).symm⟩)
  ·rw [hget_set _ _ (by decide)] at h
   split at h
   ·rename_i e; exact .inr (.inl ⟨e, (Option.some.inj h).symm⟩)
   ·rw [hget_set _ _ (by decide)] at h
    split at h
    ·rename_i e; exact .inl ⟨e, (Option.some.inj h).symm⟩
    ·rw [hget_nil] at h; cases h
 have hw : RelW ⟨fun k => w.heap.size ≤ k, fun _ => none, fun f => ∃ fn, Tryz.prog.funcs[f]? = some fn⟩ σ (hpC (.func f1 a1 b1) (.func f2 a2 b2) (.func f3 a3 b3) (.func f4 a4 b4) (.func f5 a5 b5)) 5 w := by
  subst hσ
  refine ⟨?_, ?_, ?_, ?_, ?_, fun k hk => hk, ?_, fun b o h1 => by cases h1⟩
  ·intro b ob e h1 h2
   rcases hg b ob h1 with ⟨rfl, rfl⟩ | ⟨rfl, rfl⟩ | ⟨rfl, rfl⟩
   ·cases h2
    refine ⟨oa, oe, of, o1, ⟨fun e => (by cases e), tyR_l _ _, fun h => (by cases h)⟩, by simpa using o2, fun i v hv => ?_⟩
    match i, hv with
    | 0, hv => cases hv; exact ⟨(show (0 : Nat) < 2 by decide), _, rfl, o3 0 _ rfl⟩
    | 1, hv => cases hv; exact ⟨(show (1 : Nat) < 2 by decide), _, rfl, o3 1 _ rfl⟩
    | i + 2, hv => cases hv
   ·cases h2
    refine ⟨aa, ae, af, q1, ⟨fun e => (by cases e), tyR_l _ _, fun h => (by cases h)⟩, by simpa using q2, fun i v hv => ?_⟩
    match i, hv with
    | 0, hv => cases hv; exact ⟨(show (0 : Nat) < 3 by decide), _, rfl, q3 0 _ rfl⟩
    | 1, hv => cases hv; exact ⟨(show (1 : Nat) < 3 by decide), _, rfl, q3 1 _ rfl⟩
    | 2, hv => cases hv; exact ⟨(show (2 : Nat) < 3 by decide), _, rfl, q3 2 _ rfl⟩
    | i + 3, hv => cases hv
   ·cases h2
    refine ⟨ma, me, mf, m1, ⟨fun e => (by cases e), tyR_l _ _, fun h => (by cases h)⟩, by simpa using m2, fun i v hv => ?_⟩
    match i, hv with
    | 0, hv => cases hv; exact ⟨(show (0 : Nat) < 2 by decide), _, rfl, m3 0 _ rfl⟩
    | 1, hv => cases hv; exact ⟨(show (1 : Nat) < 2 by decide), _, rfl, m3 1 _ rfl⟩
    | i + 2, hv => cases hv
  ·intro b b' ob ob' e e' h1 h2 _ _ s1 s2 hbl
   rcases hg b ob h1 with ⟨rfl, _⟩ | ⟨rfl, _⟩ | ⟨rfl, _⟩ <;> rcases hg b' ob' h2 with ⟨rfl, _⟩ | ⟨rfl, _⟩ | ⟨rfl, _⟩ <;> cases s1 <;> cases s2 <;> first | rfl | exact absurd hbl hoa | exact absurd hbl hom | exact absurd hbl ham | exact absurd hbl.symm hoa | exact absurd hbl.symm hom | exact absurd hbl.symm ham
  ·intro b ob e h1 hm
   rcases hg b ob h1 with ⟨_, rfl⟩ | ⟨_, rfl⟩ | ⟨_, rfl⟩ <;> cases hm
  ·intro b hb
   match b, hb with
   | 0, hb => exact absurd hb (by decide)
   | 1, hb => exact absurd hb (by decide)
   | 2, hb => exact absurd hb (by decide)
   | 3, hb => exact absurd hb (by decide)
   | 4, hb => exact absurd hb (by decide)
   | b + 5, _ => rfl
  ·intro b e h1
   match b, h1 with
   | 0, h1 => cases h1; show 0 < _; omega
   | 1, h1 => cases h1; show 1 < _; omega
   | 2, h1 => cases h1; exact ol
   | 3, h1 => cases h1; exact al
   | 4, h1 => cases h1; exact ml
   | b + 5, h1 => cases h1
  ·intro g hg'
   have hg' : g < 2 := hg'
   match g, hg' with
   | 0, _ => exact ⟨_, rfl, rfl, rfl⟩
   | 1, _ => exact ⟨_, rfl, rfl, rfl⟩
   | g + 2, h => omega
 have hx : concL σ [.asl 2 0 2 2] = some [.slice (some ⟨o, 0, none⟩) 2 2] := by subst hσ; rfl
 generalize hout : outC (.func f1 a1 b1) (.func f2 a2 b2) (.func f3 a3 b3) (.func f4 a4 b4) (.func f5 a5 b5) = out at hb
 unfold getC at hb
 split at hb
 ·rename_i r mm
  split at hb
  ·rename_i v hv
   simp only [Option.some.injEq, Prod.mk.injEq] at hb
   obtain ⟨rfl, hb⟩ := hb
   have he : evM Tryz.prog [] 100 78 [.asl 2 0 2 2] (hpC (.func f1 a1 b1) (.func f2 a2 b2) (.func f3 a3 b3) (.func f4 a4 b4) (.func f5 a5 b5)) 5 = .ok .ret r mm := hout
   have hc := evM_ok (none_okC Tryz.prog) 100 _ (fun f => Iff.rfl) σ w 78 [.asl 2 0 2 2] _ _ _ hw hx (by rw [he]; simp)
   rw [he] at hc
   have hc' : Calls Tryz.prog 78 #[.slice (some ⟨o, 0, none⟩) 2 2] w (CallPost ⟨fun k => w.heap.size ≤ k, fun _ => none, fun f => ∃ fn, Tryz.prog.funcs[f]? = some fn⟩ σ w (.ok .ret r mm)) := fun cs => by
    obtain ⟨e, w', fr, r1, s, x⟩ := hc.2 cs (fun d hd => by simp [FV] at hd)
    exact ⟨e, w', fr, r1, s.comes, x⟩
   refine hc'.mono fun e w' hp => ?_
   obtain ⟨σ', v', c, _, k2, k3, rfl, k4, k5⟩ := hp
   rw [hv] at k2
   cases k2
   obtain ⟨ee, e1, e2, rfl⟩ := conc_slcN k3 (.inl (by decide))
   obtain ⟨arr, el, fz, r1, r2, r3⟩ := k4.obj 5 _ ee hb e1
   refine ⟨_, _, _, rfl, ⟨k5.os, k5.tape, k5.output, k5.size, fun k hk => k5.block k (fun h6 => by have h6 : w.heap.size ≤ k := h6; omega)⟩, fun j v hj => ?_⟩
   have hcg : cget (.l [.lit (.func f1 a1 b1), .lit (.func f2 a2 b2), .lit (.func f3 a3 b3), .lit (.func f4 a4 b4), .lit (.func f5 a5 b5)]) j = some (.lit v) := by
    match j, hj with
    | 0, hj => cases hj; rfl
    | 1, hj => cases hj; rfl
    | 2, hj => cases hj; rfl
    | 3, hj => cases hj; rfl
    | 4, hj => cases hj; rfl
    | j + 5, hj => cases hj
   obtain ⟨_, cv, s1, s2⟩ := r3.2 j _ hcg
   cases s1
   have : arr[0 + ee.dl + j]? = some v := by rw [show 0 + ee.dl + j = j + ee.dl by omega]; exact s2
   unfold World.cell?
   rw [r1]
   simpa using this
  ·cases hb
 ·cases hb
end Go.Proofs.YtncjnffbdhckdaaGreatDoor.Ev
