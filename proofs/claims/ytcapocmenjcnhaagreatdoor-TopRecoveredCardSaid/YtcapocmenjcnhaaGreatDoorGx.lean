/-
 slices.Concat of three and one or two more functions, by the evaluator.
-/
import Derived.Test.YtcapocmenjcnhaaGreatDoorEvG5
import Derived.Test.YtcapocmenjcnhaaGreatDoorProg
import Derived.KernelRfl
import Derived.Test.YtcapocmenjcnhaaGreatDoorRy
set_option linter.unusedVariables false
set_option linter.unusedSimpArgs false
namespace Go.Proofs.YtcapocmenjcnhaaGreatDoor.Ev
open Go.RowKit
noncomputable def hpC (k : Nat) (vs us : List Value) : Hp := hset (.cells (.l (us.map .lit)) true) (hset (.cells (.l (vs.map .lit)) true) (hset (.cells (.l [.asl 3 0 3 3, .asl 4 0 k k]) true) (jb 14) 2) 3) 4
noncomputable def outC (k : Nat) (vs us : List Value) : Out := evM Tryz.prog [] 100 171 [.asl 2 0 2 2] (hpC k vs us) 5
noncomputable def getC (o : Out) : Option (AV × Option xV) := match o with
 | .ok .ret r m => match qF r 0 with
  | some v => some (v, hget m.hp 5)
  | none => none
 | _ => none
theorem concat_b2 (f1 f2 f3 f4 f6 : Fn) (a1 a2 a3 a4 a5 b1 b2 b3 b4 b5 : Array Value) :
  getC (outC 2 [.func f1 a1 b1, .func f2 a2 b2, .func f3 a3 b3] [.func f4 a4 b4, .func f6 a5 b5]) = some (.slc 5 0 5 5 1, some (.cells (.l [.lit (.func f1 a1 b1), .lit (.func f2 a2 b2), .lit (.func f3 a3 b3), .lit (.func f4 a4 b4), .lit (.func f6 a5 b5)]) false)) := by kernel_rfl
theorem zs6 (P : Program) : zdi P [] := fun p hp => by cases hp
theorem zfY {w : World} {b : Nat} {l : List Value} (h : ∀ (j : Nat) v, l[j]? = some v → w.cell? ⟨b, 0 + j, none⟩ = some v) (h0 : l ≠ []) : ∃ (arr : Array Value) (el : TypeId) (fz : Nat × Nat), w.heap[b]? = some (.cells arr el fz) ∧ l.length ≤ arr.size ∧ ∀ (j : Nat) v, l[j]? = some v → arr[j]? = some v := by
 have key : ∀ (j : Nat) v, l[j]? = some v → ∃ (arr : Array Value) (el : TypeId) (fz : Nat × Nat), w.heap[b]? = some (.cells arr el fz) ∧ arr[j]? = some v := fun j v hj => by
  have := h j v hj
  unfold World.cell? at this
  split at this
  ·rename_i c el fz ho
   refine ⟨c, el, fz, ho, ?_⟩
   simpa using this
  ·cases this
 cases l with
 | nil => exact absurd rfl h0
 | cons x l =>
  obtain ⟨arr, el, fz, h1, h2⟩ := key 0 x rfl
  have all : ∀ (j : Nat) v, (x :: l)[j]? = some v → arr[j]? = some v := fun j v hj => by
   obtain ⟨arr', el', fz', h3, h4⟩ := key j v hj
   rw [h1] at h3
   cases h3
   exact h4
  refine ⟨arr, el, fz, h1, ?_, all⟩
  have hl : (x :: l)[l.length]? = some ((x :: l)[l.length]) := List.getElem?_eq_getElem (by simp)
  have := (Array.getElem?_eq_some_iff.1 (all _ _ hl)).1
  simp only [List.length_cons]
  omega
theorem zkz {us : List Value} {i : Nat} {v : AV} (h : jl (.l (us.map .lit)) i = some v) : ∃ u, us[i]? = some u ∧ v = .lit u := by
 have h2 : nth (us.map AV.lit) i = some v := h
 rw [nth_eq, List.getElem?_map] at h2
 cases hu : us[i]? with
 | none => rw [hu] at h2; cases h2
 | some u => rw [hu] at h2; exact ⟨u, rfl, (Option.some.inj h2).symm⟩
theorem f171_gen (vs us : List Value) (k : Nat) (hv3 : vs.length = 3) (hk : us.length = k) (hk0 : us ≠ []) (hb : getC (outC k vs us) = some (.slc 5 0 (3 + k) (3 + k) 1, some (.cells (.l ((vs ++ us).map .lit)) false))) {w : World} {o a m : Nat} (h2 : 2 ≤ w.heap.size) (hoa : o ≠ a) (hom : o ≠ m) (ham : a ≠ m)
  (ho : ∀ (j : Nat) v, [Value.slice (some ⟨a, 0, none⟩) 3 3, Value.slice (some ⟨m, 0, none⟩) k k][j]? = some v → w.cell? ⟨o, 0 + j, none⟩ = some v)
  (ha : ∀ (j : Nat) v, vs[j]? = some v → w.cell? ⟨a, 0 + j, none⟩ = some v)
  (hm : ∀ (j : Nat) v, us[j]? = some v → w.cell? ⟨m, 0 + j, none⟩ = some v) :
  Calls Tryz.prog 171 #[.slice (some ⟨o, 0, none⟩) 2 2] w fun e w' => ∃ (b off cp : Nat), e = .returned (.slice (some ⟨b, off, none⟩) (3 + k) cp) ∧ Below w.heap.size w w' ∧
   ∀ (j : Nat) v, (vs ++ us)[j]? = some v → w'.cell? ⟨b, off + j, none⟩ = some v := by
 obtain ⟨oa, oe, of, o1, o2, o3⟩ := zfY ho (by simp)
 obtain ⟨aa, ae, af, q1, q2, q3⟩ := zfY ha (by intro e; rw [e] at hv3; cases hv3)
 obtain ⟨ma, me, mf, m1, m2, m3⟩ := zfY hm hk0
 rw [hv3] at q2
 rw [hk] at m2
 have ol := (Array.getElem?_eq_some_iff.1 o1).1
 have al := (Array.getElem?_eq_some_iff.1 q1).1
 have ml := (Array.getElem?_eq_some_iff.1 m1).1
 generalize hσ : (fun b => match b with | 0 => some ⟨0, 0, 0, 0, 0⟩ | 1 => some ⟨1, 0, 0, 0, 0⟩ | 2 => some ⟨o, 0, 0, 1, 2⟩ | 3 => some ⟨a, 0, 0, 1, 3⟩ | 4 => some ⟨m, 0, 0, 1, k⟩ | _ => none : Sg) = σ
 have hg : ∀ b ob, hget (hpC k vs us) b = some ob →
   (b = 2 ∧ ob = .cells (.l [.asl 3 0 3 3, .asl 4 0 k k]) true) ∨ (b = 3 ∧ ob = .cells (.l (vs.map .lit)) true) ∨ (b = 4 ∧ ob = .cells (.l (us.map .lit)) true) := fun b ob h => by
  unfold hpC at h
  rw [qg _ _ (by decide)] at h
  split at h
  ·rename_i e; exact .inr (.inr ⟨e, (Option.some.inj h).symm⟩)
  ·rw [qg _ _ (by decide)] at h
   split at h
   ·rename_i e; exact .inr (.inl ⟨e, (Option.some.inj h).symm⟩)
   ·rw [qg _ _ (by decide)] at h
    split at h
    ·rename_i e; exact .inl ⟨e, (Option.some.inj h).symm⟩
    ·rw [zfs] at h; cases h
 have hw : RelW ⟨fun k => w.heap.size ≤ k, fun _ => none, fun f => ∃ fn, Tryz.prog.funcs[f]? = some fn⟩ σ (hpC k vs us) 5 w := by
  subst hσ
  refine ⟨?_, ?_, ?_, ?_, ?_, fun k hk => hk, ?_, fun b o h1 => by cases h1⟩
  ·intro b ob e h1 h2
   rcases hg b ob h1 with ⟨rfl, rfl⟩ | ⟨rfl, rfl⟩ | ⟨rfl, rfl⟩
   ·cases h2
    refine ⟨oa, oe, of, o1, ⟨fun e => (by cases e), zgd _ _, fun h => (by cases h)⟩, by simpa using o2, fun i v hv => ?_⟩
    match i, hv with
    | 0, hv => cases hv; exact ⟨(show (0 : Nat) < 2 by decide), _, rfl, o3 0 _ rfl⟩
    | 1, hv => cases hv; exact ⟨(show (1 : Nat) < 2 by decide), _, rfl, o3 1 _ rfl⟩
    | i + 2, hv => cases hv
   ·cases h2
    refine ⟨aa, ae, af, q1, ⟨fun e => (by cases e), zgd _ _, fun h => (by cases h)⟩, by simpa using q2, fun i v hv => ?_⟩
    obtain ⟨u, hu, rfl⟩ := zkz hv
    exact ⟨by have := (List.getElem?_eq_some_iff.1 hu).1; show i < 3; omega, u, rfl, q3 i u hu⟩
   ·cases h2
    refine ⟨ma, me, mf, m1, ⟨fun e => (by cases e), zgd _ _, fun h => (by cases h)⟩, by simpa using m2, fun i v hv => ?_⟩
    obtain ⟨u, hu, rfl⟩ := zkz hv
    exact ⟨by have := (List.getElem?_eq_some_iff.1 hu).1; show i < k; omega, u, rfl, m3 i u hu⟩
  ·intro b b' ob ob' e e' h1 h2 _ _ s1 s2 hbl
   rcases hg b ob h1 with ⟨rfl, _⟩ | ⟨rfl, _⟩ | ⟨rfl, _⟩ <;> rcases hg b' ob' h2 with ⟨rfl, _⟩ | ⟨rfl, _⟩ | ⟨rfl, _⟩ <;> cases s1 <;> cases s2 <;> first | rfl | exact absurd hbl hoa | exact absurd hbl hom | exact absurd hbl ham | exact absurd hbl.symm hoa | exact absurd hbl.symm hom | exact absurd hbl.symm ham
  ·intro b ob e h1 hm
   rcases hg b ob h1 with ⟨_, rfl⟩ | ⟨_, rfl⟩ | ⟨_, rfl⟩ <;> cases hm
  ·intro b hb
   match b, hb with
   | 0, hb => exact absurd hb (by decide)
   | 1, hb => exact absurd hb (by decide)
   | 2, hb => exact absurd hb (by decide)
   | 3, hb => exact absurd hb (by decide)
   | 4, hb => exact absurd hb (by decide)
   | b + 5, _ => rfl
  ·intro b e h1
   match b, h1 with
   | 0, h1 => cases h1; show 0 < _; omega
   | 1, h1 => cases h1; show 1 < _; omega
   | 2, h1 => cases h1; exact ol
   | 3, h1 => cases h1; exact al
   | 4, h1 => cases h1; exact ml
   | b + 5, h1 => cases h1
  ·intro g hg'
   have hg' : g < 2 := hg'
   match g, hg' with
   | 0, _ => exact ⟨_, rfl, rfl, rfl⟩
   | 1, _ => exact ⟨_, rfl, rfl, rfl⟩
   | g + 2, h => omega
 have hx : zF σ [.asl 2 0 2 2] = some [.slice (some ⟨o, 0, none⟩) 2 2] := by subst hσ; rfl
 generalize hout : outC k vs us = out at hb
 unfold getC at hb
 split at hb
 ·rename_i r mm
  split at hb
  ·rename_i v hv
   simp only [Option.some.injEq, Prod.mk.injEq] at hb
   obtain ⟨rfl, hb⟩ := hb
   have he : evM Tryz.prog [] 100 171 [.asl 2 0 2 2] (hpC k vs us) 5 = .ok .ret r mm := hout
   have hc := zfF (zs6 Tryz.prog) 100 _ (fun f => Iff.rfl) σ w 171 [.asl 2 0 2 2] _ _ _ hw hx (by rw [he]; simp)
   rw [he] at hc
   have hc' : Calls Tryz.prog 171 #[.slice (some ⟨o, 0, none⟩) 2 2] w (xz ⟨fun k => w.heap.size ≤ k, fun _ => none, fun f => ∃ fn, Tryz.prog.funcs[f]? = some fn⟩ σ w (.ok .ret r mm)) := fun cs => by
    obtain ⟨e, w', fr, r1, s, x⟩ := hc.2 cs (fun d hd => by simp [FV] at hd)
    exact ⟨e, w', fr, r1, s.comes, x⟩
   refine hc'.mono fun e w' hp => ?_
   obtain ⟨σ', v', c, _, k2, k3, rfl, k4, k5⟩ := hp
   rw [hv] at k2
   cases k2
   obtain ⟨ee, e1, e2, rfl⟩ := vT k3 (.inl (by omega))
   obtain ⟨arr, el, fz, r1, r2, r3⟩ := k4.obj 5 _ ee hb e1
   refine ⟨_, _, _, rfl, ⟨k5.os, k5.tape, k5.output, k5.size, fun k hk => k5.block k (fun h6 => by have h6 : w.heap.size ≤ k := h6; omega)⟩, fun j v hj => ?_⟩
   have hcg : jl (.l ((vs ++ us).map .lit)) j = some (.lit v) := by
    show nth _ j = _
    rw [nth_eq, List.getElem?_map, hj]
    rfl
   obtain ⟨_, cv, s1, s2⟩ := r3.2 j _ hcg
   cases s1
   have : arr[0 + ee.dl + j]? = some v := by rw [show 0 + ee.dl + j = j + ee.dl by omega]; exact s2
   unfold World.cell?
   rw [r1]
   simpa using this
  ·cases hb
 ·cases hb
end Go.Proofs.YtcapocmenjcnhaaGreatDoor.Ev
/-
 The council: the functions that only read it; an act is tried.
-/
namespace Go.Proofs.YtcapocmenjcnhaaGreatDoor
open Go.RowKit
set_option maxRecDepth 20000
theorem zas : qB Tryz.prog 121 0 = some 0 := by kernel_rfl
theorem zfz : qB Tryz.prog 121 10 = some 60 := by kernel_rfl
theorem ztk : qB Tryz.prog 121 11 = some 61 := by kernel_rfl
theorem zcf : qB Tryz.prog 49 8 = some 50 := by kernel_rfl
theorem vn : naB Tryz.prog 53 = true := by kernel_rfl
theorem xP : qB Tryz.prog 49 3 = some 20 := by kernel_rfl
theorem zer : qB Tryz.prog 121 4 = some 54 := by kernel_rfl
theorem znL : naB Tryz.prog 3 = true := by kernel_rfl
theorem zzJ : naB Tryz.prog 4 = true := by kernel_rfl
theorem zom : naB Tryz.prog 119 = true := by kernel_rfl
theorem zyj : naB Tryz.prog 92 = true := by kernel_rfl
theorem zon : naB Tryz.prog 56 = true := by kernel_rfl
theorem zyi : naB Tryz.prog 179 = true := by kernel_rfl
theorem zx2 : ∃ e sz by', slB Tryz.prog 119 = some (e, sz, by') := by
 have h : (slB Tryz.prog 119).isSome = true := by kernel_rfl
 obtain ⟨⟨e, sz, b⟩, h⟩ := Option.isSome_iff_exists.1 h
 exact ⟨e, sz, b, h⟩
theorem zoI : zN Tryz.prog 87 = true := by kernel_rfl
theorem ziS : zN Tryz.prog 168 = true := by kernel_rfl
theorem zyO : zN Tryz.prog 171 = true := by kernel_rfl
theorem zyS : zN Tryz.prog 167 = true := by kernel_rfl
theorem zyQ : zN Tryz.prog 169 = true := by kernel_rfl
theorem zyP : zN Tryz.prog 170 = true := by kernel_rfl
theorem zyN : zN Tryz.prog 173 = true := by kernel_rfl
theorem zyM : zN Tryz.prog 174 = true := by kernel_rfl
structure CoW (w : World) (b : Nat) (a : Value) : Prop where
 ac : w.cell? ⟨b, 60, none⟩ = some a
 op : w.cell? ⟨b, 61, none⟩ = some (.bool true)
theorem CoW.below {w w' : World} {b : Nat} {a : Value} (h : CoW w b a) (hb : Below w.heap.size w w') : CoW w' b a := ⟨zU hb h.ac, zU hb h.op⟩
section
variable {P : Program} {F : Fr} {w : World} {od : Option Nat} {ty t u e : TypeId} {pos : String} {af : Array Edge} {gd : Option (Nat × Bool)} {X Y I : Operand} {a : Addr}
theorem zdq (hT : P.underlying t = some (.pointer e)) (hx : ev F X = .pointer (some a)) (hy : ev F Y = .pointer none) : (execOp (ev F) ⟨od, .binOp .eql t X Y u, ty, pos, af, gd⟩).run P w = .ok (.value (.bool false)) w := by
 have h : ∀ d : Nat, (Op.equalIn (d + 1) t (.pointer (some a)) (.pointer none)).run P w = .ok false w := fun d => by simp [Op.equalIn, run_underlying hT]
 simp [execOp, hx, hy, eqGuard, binOp, Op.equal, Op.maxDepth, h 9999]
theorem zkg {T e sz by' b o n cp j : Nat} {k : IntKind} (hT : slB P T = some (e, sz, by')) (hx : ev F X = .slice (some ⟨b, o, none⟩) n cp) (hi : ev F I = .int k (j : Int)) (hj : j < n) :
  (execOp (ev F) ⟨od, .indexAddr T X I, ty, pos, af, gd⟩).run P w = .ok (.value (.pointer (some ⟨b, o + j * sz, none⟩))) w := by
 obtain ⟨h1, i, z, h2, h3, h4, h5, h6, h7⟩ := jZ hT
 have hs : (sizeOf e).run P w = .ok sz w := by simp [sizeOf, typeInfo, h2, h4]
 simp [execOp, hx, hi, Instr.indexAt, asIntOf, run_underlying h1, hs, hj, Addr.add]
end
theorem zjP {w0 : World} {b : Nat} {a : Value} (h : CoW w0 b a) : Calls Tryz.prog 87 #[pV b] w0 (qQ w0 (.bool false)) := by
 refine z8 (N := 12) (qS _ _) Tryz.func87 rfl rfl rfl rfl (zc (zb (za (ze (v := .bool false) rfl) rfl (zd (zc (zb (za (zf (v := pV b) rfl) rfl (za (zdq Tryz.underlying53 rfl rfl) rfl (za (zf (v := .bool false) rfl) rfl ?_)))))))))
 refine zo rfl rfl rfl rfl (za (zf (v := pV b) rfl) rfl ?_)
 refine zo rfl rfl rfl rfl (za (v := pV b) (by kernel_rfl) rfl ?_)
 refine zo rfl rfl rfl rfl (za (zj ztk rfl) rfl ?_)
 refine zo rfl rfl rfl rfl (za (zk zzJ rfl h.op) rfl ?_)
 refine zo rfl rfl rfl rfl (za (qI rfl) rfl ?_)
 refine za (xg (v := .bool false) rfl rfl rfl) rfl (za (ze (v := .bool false) rfl) rfl (zd (zH ?_)))
 exact ⟨rfl, Below.refl _ _⟩
theorem za9 (is : Bool) (x : Int) (w0 : World) : Calls Tryz.prog 168 #[.bool is, iV x] w0 (qQ w0 (iV (cond is 0 x))) := by
 refine z8 (N := 7) (qS _ _) Tryz.func168 rfl rfl rfl rfl (zc (zb (za (ze (v := iV 0) rfl) rfl (zd (zc (zc (zb (za (zf (v := .bool is) rfl) rfl (zd (z7 rfl (fun hb => ?_) (fun hb => ?_)))))))))))
 ·subst hb
  refine zc (zb (za (ze (v := iV 0) rfl) rfl (zd (zH ?_))))
  exact ⟨rfl, Below.refl _ _⟩
 ·subst hb
  refine zD (zc (zb (wr 2 rfl (zd (zH ?_)))))
  exact ⟨rfl, Below.refl _ _⟩
theorem zu7 {w0 : World} {b c : Nat} {a : Value} (h : CoW w0 b a) (hc : w0.cell? ⟨c, 0, none⟩ = some (pV b)) : Calls Tryz.prog 167 #[pV c] w0 (qQ w0 (iV 0)) := by
 refine z8 (N := 6) (qS _ _) Tryz.func167 rfl rfl rfl rfl (zc (zb (za (ze (v := iV 0) rfl) rfl (zd (zc (zb (za (zk vn rfl hc) rfl ?_)))))))
 refine zp rfl (zu zoI (zjP h) rfl rfl fun w1 h1 => ?_)
 refine za (qI rfl) rfl (zp rfl (zu ziS (za9 true 1 w1) rfl rfl fun w2 h2 => ?_))
 refine za (ze (v := iV 0) rfl) rfl (zd (zH ?_))
 exact ⟨rfl, h1.trans (h2.mono h1.size)⟩
theorem zu6 {w0 : World} {b c : Nat} {ad : Option Addr} {n cp : Nat} (h : CoW w0 b (.slice ad n cp)) (hc : w0.cell? ⟨c, 0, none⟩ = some (pV b)) : Calls Tryz.prog 170 #[pV c] w0 (qQ w0 (iV (cond (decide ((n : Int) < 100)) 0 6))) := by
 obtain ⟨e', sz, by', hs⟩ := zx2
 refine z8 (N := 9) (qS _ _) Tryz.func170 rfl rfl rfl rfl (zc (zb (za (ze (v := iV 0) rfl) rfl (zd (zc (zb (za (zk vn rfl hc) rfl (za (v := pV b) (by kernel_rfl) rfl (za (zj zfz rfl) rfl (za (zk zom rfl h.ac) rfl (za (qu hs rfl rfl rfl) rfl (za (qa rfl rfl) rfl ?_))))))))))))
 refine zp rfl (zu ziS (za9 _ 6 w0) rfl rfl fun w2 h2 => ?_)
 refine za (ze (v := iV (cond (decide ((n : Int) < 100)) 0 6)) rfl) rfl (zd (zH ?_))
 exact ⟨rfl, h2⟩
theorem zvL : ∃ e by', slB Tryz.prog 272 = some (e, 1, by') := by
 have h : (match slB Tryz.prog 272 with | some (_, s, _) => s == 1 | none => false) = true := by kernel_rfl
 revert h
 cases slB Tryz.prog 272 with
 | none => intro h; cases h
 | some q =>
  obtain ⟨e, s, b⟩ := q
  intro h
  have : s = 1 := by simpa using h
  subst this
  exact ⟨e, b, rfl⟩
theorem ztn {w0 : World} {c k : Nat} {ca : List Value} {is : Bool} (hc : w0.cell? ⟨c, 0, none⟩ = some (.func (.func k) #[] ca.toArray)) (hk : zN Tryz.prog k = true) (h : Calls Tryz.prog k ca.toArray w0 (qQ w0 (.bool is))) :
  Calls Tryz.prog 169 #[pV c] w0 (qQ w0 (iV (cond is 0 2))) := by
 refine z8 (N := 5) (qS _ _) Tryz.func169 rfl rfl rfl rfl (zc (zb (za (ze (v := iV 0) rfl) rfl (zd (zc (zb (za (zk zon rfl hc) rfl ?_)))))))
 refine zp rfl (yN (fi := []) (al := []) (ca := ca) hk h rfl rfl rfl fun w1 h1 => ?_)
 refine zp rfl (zu ziS (za9 is 2 w1) rfl rfl fun w2 h2 => ?_)
 refine za (ze (v := iV (cond is 0 2)) rfl) rfl (zd (zH ?_))
 exact ⟨rfl, h1.trans (h2.mono h1.size)⟩
theorem ztm {w0 : World} {c k : Nat} {ca : List Value} {is : Bool} (hc : w0.cell? ⟨c, 0, none⟩ = some (.func (.func k) #[] ca.toArray)) (hk : zN Tryz.prog k = true) (h : Calls Tryz.prog k ca.toArray w0 (qQ w0 (.bool is))) :
  Calls Tryz.prog 173 #[pV c] w0 (qQ w0 (iV (cond is 0 6))) := by
 refine z8 (N := 5) (qS _ _) Tryz.func173 rfl rfl rfl rfl (zc (zb (za (ze (v := iV 0) rfl) rfl (zd (zc (zb (za (zk zon rfl hc) rfl ?_)))))))
 refine zp rfl (yN (fi := []) (al := []) (ca := ca) hk h rfl rfl rfl fun w1 h1 => ?_)
 refine zp rfl (zu ziS (za9 is 6 w1) rfl rfl fun w2 h2 => ?_)
 refine za (ze (v := iV (cond is 0 6)) rfl) rfl (zd (zH ?_))
 exact ⟨rfl, h1.trans (h2.mono h1.size)⟩
theorem zxk {G0 : Gm} {w0 : World} (hS0 : Sat G0 w0) {f : Fn} {a b : Array Value} : Calls Tryz.prog 82 #[.func f a b] w0 (yP G0 w0 (fun G r => ∃ c, r = .func (.func 173) #[] #[pV c] ∧ Cells G c 0 [.func f a b])) := by
 have hS := Since.start hS0
 refine z8 (N := 4) (xN _ _ _) Tryz.func82 rfl rfl rfl rfl (zc (zb ?_))
 refine zp rfl (zI (v := fun b => pV b) (cs := [.func f a b]) (e := 56) (by kernel_rfl) hS.sat rfl fun c G1 w1 hg hc => ?_)
 have hS := hS.grow hg
 refine za (ze (v := .nilFunc) rfl) rfl (zd (zc (zb (za (yO (vs := []) (us := [pV c]) rfl rfl) rfl (za (ze (v := .func (.func 173) #[] #[pV c]) rfl) rfl (zd (zH ?_)))))))
 exact ⟨_, _, rfl, hS.toGrow, _, rfl, hc⟩
theorem zxh {G0 : Gm} {w0 : World} (hS0 : Sat G0 w0) {b : Nat} {f : Fn} {x y : Array Value} : Calls Tryz.prog 85 #[pV b, .func f x y] w0 (yP G0 w0 (fun G r => ∃ c d, r = .func (.func 174) #[] #[pV d, pV c] ∧ Cells G c 0 [pV b] ∧ Cells G d 0 [.func f x y])) := by
 have hS := Since.start hS0
 refine z8 (N := 6) (xN _ _ _) Tryz.func85 rfl rfl rfl rfl (zc (zb ?_))
 refine zp rfl (zI (v := fun b => pV b) (cs := [pV b]) (e := 53) (by kernel_rfl) hS.sat rfl fun c G1 w1 hg hc => ?_)
 have hS := hS.grow hg
 refine zp rfl (zI (v := fun b => pV b) (cs := [.func f x y]) (e := 92) (by kernel_rfl) hS.sat rfl fun d G2 w2 hg2 hd => ?_)
 have hS := hS.grow hg2
 refine za (ze (v := .nilFunc) rfl) rfl (zd (zc (zb (za (yO (vs := []) (us := [pV d, pV c]) rfl rfl) rfl (za (ze (v := .func (.func 174) #[] #[pV d, pV c]) rfl) rfl (zd (zH ?_)))))))
 exact ⟨_, _, rfl, hS.toGrow, _, _, rfl, hc.mono hg2.le, hd⟩
end Go.Proofs.YtcapocmenjcnhaaGreatDoor
/-
 The council: its money.
-/
namespace Go.Proofs.YtcapocmenjcnhaaGreatDoor
open Go.RowKit
set_option maxRecDepth 20000
theorem zy0 : zN Tryz.prog 31 = true := by kernel_rfl
theorem zzt : szB Tryz.prog 3 = some 1 := by kernel_rfl
abbrev rowC (b : Nat) (cc : List Value) : Row := ⟨121, 62, 1, .slice (some ⟨b, 0, none⟩) 1 1, cc⟩
abbrev jG (n : Nat) (v : Value) (ac : List Value) : Row := ⟨271, 1, n, v, ac⟩
section
variable {w0 : World} {b c d : Nat} {n : Int} {G0 : Gm}
theorem zu4 {k : Nat} {ca : List Value} {x mo : Int} (hd : w0.cell? ⟨d, 0, none⟩ = some (.func (.func k) #[] ca.toArray)) (hc : w0.cell? ⟨c, 0, none⟩ = some (pV b)) (h50 : w0.cell? ⟨b, 50, none⟩ = some (iV mo)) (hk : zN Tryz.prog k = true) (h : ∀ w, Below w0.heap.size w0 w → Calls Tryz.prog k ca.toArray w (qQ w (iV x))) (hx : x ≤ mo) :
  Calls Tryz.prog 174 #[pV d, pV c] w0 (qQ w0 (iV 0)) := by
 refine z8 (N := 12) (qS _ _) Tryz.func174 rfl rfl rfl rfl (zc (zb (za (ze (v := iV 0) rfl) rfl (zd (zc ?_)))))
 refine zQ qA (fun _ w => w.cell? ⟨c, 0, none⟩ = some (pV b) ∧ w.cell? ⟨d, 0, none⟩ = some (.func (.func k) #[] ca.toArray) ∧ w.cell? ⟨b, 50, none⟩ = some (iV mo)) (.fl 0 (.fl 2 (.fl 3 (.fl 4 (.fl 5 (.fl 6 (.on 1 (.on 7 (.on 8 (.on 9 .nil)))))))))) (by kernel_rfl) rfl (by kernel_rfl) (fun _ => ⟨zU (zn _) hc, zU (zn _) hd, zU (zn _) h50⟩) ?_
 refine zh rfl (fun w hw => zk zyj rfl hw.2.1) rfl (zh rfl (fun w hw => zk vn rfl hw.1) rfl (zh (v := pV b) rfl (fun w hw => by kernel_rfl) rfl (zh rfl (fun w hw => zj zas rfl) rfl (zh rfl (fun w hw => zj zcf rfl) rfl (zh rfl (fun w hw => zk znL rfl hw.2.2) rfl ?_)))))
 refine zt rfl rfl (yN (fi := []) (al := []) (ca := ca) hk (h _ (zn w0)) rfl rfl rfl fun w1 h1 => ⟨fun _ _ => ⟨zU h1 (zU (zn _) hc), zU h1 (zU (zn _) hd), zU h1 (zU (zn _) h50)⟩, ?_⟩)
 refine zt rfl rfl (zA (zdo rfl rfl) rfl ⟨fun _ h => zK (by kernel_rfl) h, ?_⟩)
 rw [show decide (x ≤ mo) = true by simpa using hx]
 refine zt rfl rfl (zu ziS (za9 true 7 w1) rfl rfl fun w2 h2 => ⟨fun _ h => zK (by kernel_rfl) h, ?_⟩)
 refine zt rfl rfl (zA (ze (v := iV 0) rfl) rfl ⟨fun _ h => zK (by kernel_rfl) h, qk (zH ?_)⟩)
 exact ⟨rfl, ((zn w0).trans h1).trans (h2.mono ((zn w0).trans h1).size)⟩
theorem zxw {mo : Int} {a : Value} (h : CoW w0 b a) (h50 : w0.cell? ⟨b, 50, none⟩ = some (iV mo)) : Calls Tryz.prog 31 #[pV b] w0 (qQ w0 (.tuple #[iV mo, iV 0])) := by
 refine zxJ (N := 11) (qS _ _) Tryz.func31 rfl rfl rfl rfl (zc (zb (za (ze (v := iV 0) rfl) rfl (za (ze (v := iV 0) rfl) rfl (zd (zc (zc (zb (za (zf (v := pV b) rfl) rfl ?_)))))))))
 refine zp rfl (zu zoI (zjP h) rfl rfl fun w1 hb => ?_)
 refine zd (z7 rfl (fun h => by cases h) (fun _ => zD (zc (zb (za (zf (v := pV b) rfl) rfl (za (v := pV b) (by kernel_rfl) rfl (za (zj zas rfl) rfl (za (zj zcf rfl) rfl (za (zk znL rfl (zU hb h50)) rfl (za (ze (v := iV mo) rfl) rfl (za (ze (v := iV 0) rfl) rfl (zd (zH ?_)))))))))))))
 exact ⟨rfl, hb⟩
end
section
variable {B : Nat} {G0 : Gm} {w0 : World} {Gc : Gm} {wc : World} {b n : Nat} {cc : List Value} {mo mo' : Int}
theorem zxg {L : List Row} (hS : Since B G0 w0 Gc wc) (hO : Owns Gc wc B (rowC b cc :: L)) (hl : cc.length = 62) (h50 : cc[50]? = some (iV mo)) {x : Int} (hw : IntKind.i64.wrap (mo - x) = mo') :
  Calls Tryz.prog 86 [pV b, iV x].toArray wc (zdX B G0 w0 Gc wc (fun G' L' _ => G' = Gc ∧ L' = rowC b (qX cc 50 [iV mo']) :: L)) := by
 refine ve (N := 14) (rs := []) hO.base Tryz.func86 rfl rfl rfl rfl (zb (za (zf (v := pV b) rfl) rfl (za (v := pV b) (by kernel_rfl) rfl (za (zj zas rfl) rfl (za (zj zcf rfl) rfl (za (zk znL rfl (zx hO (k := 0) rfl h50)) rfl (za (zf (v := iV x) rfl) rfl (za (xE rfl rfl) rfl (za (v := pV b) (by kernel_rfl) rfl (za (zj zas rfl) rfl (za (zj zcf rfl) rfl ?_)))))))))))
 rw [hw]
 refine zp rfl (zM (vs := [iV mo']) zzt hS hO (k := 0) rfl rfl rfl rfl rfl (zR rfl) (by simp [hl]) fun w1 hS hO => ?_)
 exact zd ⟨[], trivial, Gc, _, Gle.refl _, hS, hO, rfl, rfl⟩
end
theorem zjV {G0 : Gm} {w0 : World} (hS0 : Sat G0 w0) {b : Nat} {mo x y : Int} {a : Value} {cA : List Value} (h : CoW w0 b a) (h50 : w0.cell? ⟨b, 50, none⟩ = some (iV mo)) (hA : cA[50]? = some (iV x)) (hw : IntKind.i64.wrap (x - y) = mo) :
  Calls Tryz.prog 10 #[pV b, .agg cA.toArray, iV y] w0 (qQ w0 (.bool true)) := by
 have hS := Since.start hS0
 refine z8 (N := 24) (qS _ _) Tryz.func10 rfl rfl rfl rfl (zc (zb ?_))
 refine zp rfl (zI (v := fun b => pV b) (cs := cA) (e := 49) (z6 rfl) hS.sat rfl fun b1 G1 w1 hg1 hc1 => ?_)
 have hS := hS.grow hg1
 refine za (ze (v := .bool false) rfl) rfl (zd (zc (zb (wr 1 rfl ?_))))
 refine zp rfl (zu zy0 (zxw (h.below hS.below) (zU hS.below h50)) rfl rfl fun w2 hb => ?_)
 have hS := hS.keep hb
 refine za (zf (v := .tuple #[iV mo, iV 0]) rfl) rfl (za (zT rfl rfl) rfl (za (zT rfl rfl) rfl (za (ze (v := iV mo) rfl) rfl (za (ze (v := iV 0) rfl) rfl (zd (zc (zb ?_)))))))
 refine wr 1 rfl (za (zb6 rfl rfl) rfl (za (zf (v := .bool true) rfl) rfl ?_))
 refine zo rfl rfl rfl rfl (za (zf (v := iV mo) rfl) rfl ?_)
 refine zo rfl rfl rfl rfl (za (zj zcf rfl) rfl ?_)
 refine zo rfl rfl rfl rfl (za (zk znL rfl (hS.sat.cell (hc1 50 _ hA))) rfl ?_)
 refine zo rfl rfl rfl rfl (za (zf (v := iV y) rfl) rfl ?_)
 refine zo rfl rfl rfl rfl (za (xE rfl rfl) rfl ?_)
 rw [hw]
 refine zo rfl rfl rfl rfl (za (zb6 rfl rfl) rfl ?_)
 refine za (yH (v := .bool (mo == mo)) rfl rfl rfl) rfl (za (ze (v := .bool (mo == mo)) rfl) rfl (zd (zH ?_)))
 exact ⟨by rw [show (mo == mo) = true by simp]; rfl, hS.below⟩
end Go.Proofs.YtcapocmenjcnhaaGreatDoor
/-
  The council: an act is tried, and noted (where nothing stands against it).
-/
namespace Go.Proofs.YtcapocmenjcnhaaGreatDoor
open Go.RowKit
set_option maxRecDepth 20000
theorem zx1 : slB Tryz.prog 119 = some (271, 1, 16) := by kernel_rfl
theorem zx0 : szB Tryz.prog 119 = some 1 := by kernel_rfl
theorem zvK : szB Tryz.prog 274 = some 3 := by kernel_rfl
def zhV : Gm → List Value → Value → Prop := fun _ cs x => cs = [x] ∧ x.oneCell' = true
theorem vY : zaE zhV := fun _ _ _ _ _ h => h
theorem ztJ : One zhV := fun _ _ _ h u hu => by obtain ⟨rfl, h⟩ := h; simp at hu; subst hu; exact h
abbrev fP (p : Nat × List Value) : Value := .func (.func p.1) #[] p.2.toArray
set_option maxHeartbeats 1000000 in
theorem zxm {B : Nat} {G0 : Gm} {w0 : World} {Gc : Gm} {wc : World} {Lq : List Row} {b n bm : Nat} {cc ac : List Value} {ta : TypeId} {xa : Value} {xs : List Value} {ad : Option Addr} {cp0 : Nat} {kr : Nat} {cr : List Value} {ms : List (Nat × List Value)} {mn : Nat}
    (hS : Since B G0 w0 Gc wc) (hO : Owns Gc wc B (rowC b cc :: jG n (.slice ad n cp0) ac :: Lq)) (h2 : 2 ≤ B) (hmn : ms.length = mn) (hm2 : mn ≤ 2) (hk1 : ∀ p, ms[0]? = some p → p.1 ≠ 167) (hm : Cells Gc bm 0 (ms.map fP)) (hm0 : ms ≠ [])
    (hcat : ∀ v1 v2 v3 : Nat × List Value, Ev.getC (Ev.outC mn [fP v1, fP v2, fP v3] (ms.map fP)) = some (.slc 5 0 (3 + mn) (3 + mn) 1, some (.cells (.l (([fP v1, fP v2, fP v3] ++ ms.map fP).map .lit)) false)))
    (hr : zN Tryz.prog kr = true ∧ ∀ G w, Gle Gc G → Since B G0 w0 G w → Owns G w B (rowC b cc :: jG n (.slice ad n cp0) ac :: Lq) → Calls Tryz.prog kr cr.toArray w (qQ w (.bool true)))
    (h61 : cc[61]? = some (.bool true)) (hn : n < 100) (hxs : n = xs.length) (hrd : Rd zhV 1 Gc ac xs) (h60 : cc[60]? = some (.slice ad n cp0)) (hcl62 : cc.length = 62)
    (hd : ∀ p ∈ ms, zN Tryz.prog p.1 = true ∧ ∀ G w, Gle Gc G → Since B G0 w0 G w → Owns G w B (rowC b cc :: jG n (.slice ad n cp0) ac :: Lq) → Calls Tryz.prog p.1 p.2.toArray w (qQ w (iV 0))) :
    Calls Tryz.prog 80 [pV b, .iface ta xa, .func (.func kr) #[] cr.toArray, .slice (some ⟨bm, 0, none⟩) mn mn].toArray wc (zdX B G0 w0 Gc wc (fun G' L' v => v = iV 0 ∧ ∃ ad' cp' ac', L' = rowC b (qX cc 60 [.slice ad' (n + 1) cp']) :: jG (n + 1) (.slice ad' (n + 1) cp') ac' :: Lq ∧ Rd zhV 1 G' ac' (xs ++ [.iface ta xa]))) := by
  refine ve (N := 42) (rs := [.tmp 8]) hO.base Tryz.func80 rfl rfl rfl rfl (zc (zb ?_))
  refine zp rfl (zI (v := fun b => pV b) (cs := [pV b]) (e := 53) (by kernel_rfl) hS.sat rfl fun b4 G1 w1 hg hc4 => ?_)
  have hS := hS.grow hg
  have hO := hO.grow hg
  refine zp rfl (zI (v := fun b => pV b) (cs := [.func (.func kr) #[] cr.toArray]) (e := 56) (by kernel_rfl) hS.sat rfl fun b6 G2 w2 hg2 hc6 => ?_)
  have hS := hS.grow hg2
  have hO := hO.grow hg2
  refine za (ze (v := iV 0) rfl) rfl (zd (zc (zb ?_)))
  refine za (yO (vs := []) (us := [pV b4]) rfl rfl) rfl (za (yO (vs := []) (us := [pV b6]) rfl rfl) rfl (za (yO (vs := []) (us := [pV b4]) rfl rfl) rfl ?_))
  refine za (v := .agg #[fP (167, [pV b4]), fP (169, [pV b6]), fP (170, [pV b4])]) (by kernel_rfl) rfl ?_
  refine zp rfl (zY (v := fun b => pV b) (cs := [.nilFunc, .nilFunc, .nilFunc]) (e := 274) (by kernel_rfl) hS.sat hO rfl 3 1 rfl (by decide) fun b9 w3 hb hO => ?_)
  have hS := hS.keep hb
  refine zp rfl (zM (vs := [fP (167, [pV b4]), fP (169, [pV b6]), fP (170, [pV b4])]) zvK hS hO (k := 0) rfl rfl rfl rfl rfl (zR rfl) (Nat.le_of_ble_eq_true rfl) fun w4 hS hO => ?_)
  obtain ⟨G3, le3, hS, hO, hq, _⟩ := hO.freeze hS (k := 0) rfl
  have hc9 : Cells G3 b9 0 [fP (167, [pV b4]), fP (169, [pV b6]), fP (170, [pV b4])] := hq _ _ _ _ rfl
  have hO : Owns G3 w4 B (rowC b cc :: jG n (.slice ad n cp0) ac :: Lq) := hO
  refine zd (zc (zc (zb (za (v := .slice (some ⟨b9, 0, none⟩) 3 3) (by kernel_rfl) rfl (za (zf (v := .slice (some ⟨bm, 0, none⟩) mn mn) rfl) rfl ?_)))))
  refine zp rfl (zI (v := fun b => .slice (some ⟨b, 0, none⟩) 2 2) (cs := [.slice (some ⟨b9, 0, none⟩) 3 3, .slice (some ⟨bm, 0, none⟩) mn mn]) (e := 272) (by kernel_rfl) hS.sat rfl fun bo G4 w5 hg4 hcb => ?_)
  have hS := hS.grow hg4
  have hO := hO.grow hg4
  have le4 : Gle Gc G4 := ((hg.le.trans hg2.le).trans le3).trans hg4.le
  have hc9 := hc9.mono hg4.le
  have hm4 := hm.mono le4
  have hc4 := hc4.mono ((hg2.le.trans le3).trans hg4.le)
  have hc6 := hc6.mono (le3.trans hg4.le)
  obtain ⟨p0, hp0⟩ : ∃ p, ms[0]? = some p := by
    cases ms with
    | nil => exact absurd rfl hm0
    | cons p l => exact ⟨p, rfl⟩
  have hm40 := hm4 0 (fP p0) (by rw [List.getElem?_map, hp0]; rfl)
  have n1 : bo ≠ b9 := fun e => by subst e; have h1 := hcb 0 _ rfl; have h2 := hc9 0 _ rfl; rw [h1] at h2; cases h2
  have n2 : bo ≠ bm := fun e => by subst e; have h1 := hcb 0 _ rfl; have h2 := hm40; rw [h1] at h2; cases h2
  have n3 : b9 ≠ bm := fun e => by
    subst e
    have h1 := hc9 0 _ rfl
    have h2 := hm40
    rw [h1] at h2
    simp only [Option.some.injEq, Value.func.injEq, Fn.func.injEq] at h2
    exact hk1 p0 hp0 h2.1.symm
  refine zp rfl (jU (zcF (al := [.slice (some ⟨bo, 0, none⟩) 2 2]) zyO rfl) rfl (Ev.f171_gen [fP (167, [pV b4]), fP (169, [pV b6]), fP (170, [pV b4])] (ms.map fP) mn rfl (by rw [List.length_map, hmn]) (by simpa using hm0) (hcat _ _ _) (Nat.le_trans h2 hS.base) n1 n2 n3 (fun j v hj => hS.sat.cell (hcb j v hj)) (fun j v hj => hS.sat.cell (hc9 j v hj)) (fun j v hj => hS.sat.cell (hm4 j v hj))) fun e w6 hR => ?_)
  obtain ⟨b', off, cp, rfl, hb, hcell⟩ := hR
  refine ⟨_, rfl, .below hb, ?_⟩
  have hS := hS.keep hb
  have hO := hO.below hb
  obtain ⟨e174, by174, hs⟩ := zvL
  refine za (qu (m := 3 + mn) hs rfl rfl rfl) rfl (za (zf (v := iV 0) rfl) rfl (zd ?_))
  refine zB (qZ (qJ (3 + mn) (fun i F w => ∃ Fb, F = qC Fb [(1, .iface ta xa), (4, pV b4), (20, .slice (some ⟨b', off, none⟩) (3 + mn) cp), (21, iV ((3 + mn : Nat) : Int)), (22, iV i)] ∧ Since B G0 w0 G4 w ∧ Owns G4 w B (rowC b cc :: jG n (.slice ad n cp0) ac :: Lq) ∧
    ∀ (j : Nat) v, ([fP (167, [pV b4]), fP (169, [pV b6]), fP (170, [pV b4])] ++ ms.map fP)[j]? = some v → w.cell? ⟨b', off + j, none⟩ = some v) ?_ ?_ (3 + mn) 0 _ _ (by omega) ⟨_, zi _ _ ⟨rfl, rfl, rfl, rfl, rfl, trivial⟩, hS, hO, hcell⟩))
  · rintro i F w hi ⟨Fb, rfl, hS, hO, hcell⟩
    have spec : ∃ k ca, ([fP (167, [pV b4]), fP (169, [pV b6]), fP (170, [pV b4])] ++ ms.map fP)[i]? = some (.func (.func k) #[] (ca : List Value).toArray) ∧ zN Tryz.prog k = true ∧ Calls Tryz.prog k ca.toArray w (qQ w (iV 0)) := by
      have hc : CoW w b (.slice ad n cp0) := ⟨zx hO (k := 0) rfl h60, zx hO (k := 0) rfl h61⟩
      match i, hi with
      | 0, _ => exact ⟨167, [pV b4], rfl, zyS, zu7 hc (hS.sat.cell (hc4 0 _ rfl))⟩
      | 1, _ => exact ⟨169, [pV b6], rfl, zyQ, ztn (is := true) (hS.sat.cell (hc6 0 _ rfl)) hr.1 (hr.2 G4 w le4 hS hO)⟩
      | 2, _ => refine ⟨170, [pV b4], rfl, zyP, ?_⟩
                have := zu6 hc (hS.sat.cell (hc4 0 _ rfl))
                rw [show decide ((n : Int) < 100) = true by simp; omega] at this
                exact this
      | i + 3, hi =>
        obtain ⟨p, hp⟩ : ∃ p, ms[i]? = some p := ⟨ms[i]'(by omega), List.getElem?_eq_getElem (by omega)⟩
        obtain ⟨q1, q2⟩ := hd p (List.mem_of_getElem? hp)
        exact ⟨p.1, p.2, by rw [List.getElem?_append_right (by simp)]; simp [hp], q1, q2 G4 w le4 hS hO⟩
    obtain ⟨k, ca, hcl, hk, hcall⟩ := spec
    have hcl' := hcell i _ hcl
    refine zc (zb (za (qa rfl rfl) rfl (zd (zc (qf (decide ((i : Int) < ((3 + mn : Nat) : Int))) (by simp; omega) rfl (zD ?_))))))
    refine zc (zB (zc (zb (za (zkg hs rfl rfl (by omega)) rfl (za (zk zyi rfl (by rw [Nat.mul_one]; exact hcl')) rfl (za (ze (v := .func (.func k) #[] ca.toArray) rfl) rfl (zd (zc (zb (za (zf (v := .func (.func k) #[] ca.toArray) rfl) rfl ?_))))))))))
    refine zp rfl (yN (fi := []) (al := []) (ca := ca) hk hcall rfl rfl rfl fun w7 hb => ?_)
    refine za (ze (v := iV 0) rfl) rfl (zd (zc (zb (za (zf (v := iV 0) rfl) rfl (za (kw rfl rfl) rfl (zd (zV false rfl rfl (zD ?_))))))))
    refine zb (za (qO rfl rfl) rfl (za (zf (v := iV (IntKind.i64.wrap ((i : Int) + 1))) rfl) rfl (zd ?_)))
    exact ⟨_, zi _ _ ⟨rfl, rfl, rfl, rfl, congrArg iV (yQ (by omega)), trivial⟩, hS.keep hb, hO.below hb, fun j v hj => zU hb (hcell j v hj)⟩
  · rintro F w7 ⟨Fb, rfl, hS, hO, hcell⟩
    refine qP (zc (zb (za (qa rfl rfl) rfl (zd (zc (zV (decide (((3 + mn : Nat) : Int) < ((3 + mn : Nat) : Int))) (by simp) rfl (ql rfl ?_)))))))
    have hrd := hrd.mono vY le4
    have hv60 : w7.cell? ⟨b, 60, none⟩ = some (.slice ad n cp0) := zx hO (k := 0) rfl h60
    refine zc (zQ qA (fun _ w => Sat G4 w ∧ w.cell? ⟨b, 60, none⟩ = some (.slice ad n cp0)) (.fl 0 (.fl 1 (.fl 2 (.fl 3 (.fl 4 (.fl 5 (.on 6 (.on 7 (.on 8 (.on 9 (.on 10 .nil))))))))))) (by kernel_rfl) rfl (by kernel_rfl) (fun _ => ⟨(hS.keep (zn _)).sat, zU (zn _) hv60⟩) ?_)
    have hS := hS.keep (zn w7)
    have hO := hO.below (zn w7)
    refine zh rfl (fun w hw => zk vn rfl (hw.1.cell (hc4 0 _ rfl))) rfl (zh rfl (fun w hw => zk vn rfl (hw.1.cell (hc4 0 _ rfl))) rfl (zh (v := pV b) rfl (fun w hw => by kernel_rfl) rfl (zh rfl (fun w hw => zj zfz rfl) rfl (zh rfl (fun w hw => zk zom rfl hw.2) rfl (zh (v := .iface ta xa) rfl (fun w hw => zf rfl) rfl ?_)))))
    refine zt rfl rfl (zI (v := fun b => .slice (some ⟨b, 0, none⟩) 1 1) (cs := [.iface ta xa]) (e := 271) (by kernel_rfl) hS.sat rfl fun b11 G6 w8 hg hc11 => ?_)
    have hS := hS.grow hg
    have hO := hO.grow hg
    refine ⟨fun _ _ => ⟨hS.sat.le hg.le, zx hO (k := 0) rfl h60⟩, ?_⟩
    refine zt rfl rfl (qM (k := 1) zx1 ztJ hS hO rfl hxs (hrd.mono vY hg.le) (RSl.of_rd hc11 (Rd.cons (c := [.iface ta xa]) rfl ⟨rfl, rfl⟩ (Rd.nil _ _ _)) rfl (show 1 ≤ maxLen by decide)) (kq xs [.iface ta xa] (by simp; omega)) rfl rfl rfl rfl rfl fun a9 c9 w9 ac9 hS hO hr9 => ?_)
    have hzl : (xs ++ [Value.iface ta xa]).length = n + 1 := by simp [hxs]
    rw [hzl] at hO ⊢
    have hO : Owns G6 w9 B (rowC b cc :: jG (n + 1) (.slice a9 (n + 1) c9) ac9 :: Lq) := hO
    refine ⟨fun _ _ => ⟨hS.sat.le hg.le, zx hO (k := 0) rfl h60⟩, ?_⟩
    refine zt rfl rfl (zA (v := pV b) (by kernel_rfl) rfl ⟨fun _ h => zK (by kernel_rfl) h, ?_⟩)
    refine zt rfl rfl (zA (zj zfz rfl) rfl ⟨fun _ h => zK (by kernel_rfl) h, ?_⟩)
    refine zt rfl rfl (zM (vs := [.slice a9 (n + 1) c9]) zx0 hS hO (k := 0) rfl rfl rfl rfl rfl (zR rfl) (by simp [hcl62]) fun w10 hS hO => ⟨fun _ h => zK (by kernel_rfl) h, ?_⟩)
    have hO : Owns G6 w10 B (rowC b (qX cc 60 [.slice a9 (n + 1) c9]) :: jG (n + 1) (.slice a9 (n + 1) c9) ac9 :: Lq) := hO
    refine qk (zc (zb (za (ze (v := iV 0) rfl) rfl (zd (zH ?_)))))
    exact ⟨[iV 0], ⟨rfl, trivial⟩, G6, _, le4.trans hg.le, hS, hO, rfl, _, _, _, rfl, hr9⟩
end Go.Proofs.YtcapocmenjcnhaaGreatDoor
/-
 The council: a place of the reef is closed.
-/
namespace Go.Proofs.YtcapocmenjcnhaaGreatDoor
open Go.RowKit
set_option maxRecDepth 20000
theorem zpW : zN Tryz.prog 114 = true := by kernel_rfl
theorem cb29r : zN Tryz.prog 29 = true := by kernel_rfl
theorem cb30r : zN Tryz.prog 30 = true := by kernel_rfl
theorem zoH : zN Tryz.prog 79 = true := by kernel_rfl
theorem zyZ : zN Tryz.prog 80 = true := by kernel_rfl
theorem zyY : zN Tryz.prog 81 = true := by kernel_rfl
theorem zyX : zN Tryz.prog 82 = true := by kernel_rfl
theorem zyW : zN Tryz.prog 83 = true := by kernel_rfl
theorem zyV : zN Tryz.prog 84 = true := by kernel_rfl
theorem zyU : zN Tryz.prog 85 = true := by kernel_rfl
theorem zyT : zN Tryz.prog 86 = true := by kernel_rfl
theorem zyR : zN Tryz.prog 87 = true := by kernel_rfl
theorem zxT : zN Tryz.prog 172 = true := by kernel_rfl
theorem zx7 : qB Tryz.prog 70 8 = some 11 := by kernel_rfl
section
variable {G0 : Gm} {w0 : World} {b c d e : Nat} {i s q : Nat} {pl : List Int} {a1 : Option Addr} {n1 c1 : Nat} {ps : List zr}
theorem zmX {p : zr} (hS0 : Sat G0 w0) (hc : w0.cell? ⟨c, 0, none⟩ = some (pV b)) (hd : w0.cell? ⟨d, 0, none⟩ = some (iV (i : Int))) (h20 : w0.cell? ⟨b, 20, none⟩ = some (.slice a1 n1 c1)) (h1 : RSl zE 12 G0 a1 n1 c1 ps) (hp : ps[i]? = some p) :
  Calls Tryz.prog 79 [pV c, pV d].toArray w0 (qQ w0 (iV p.Worth)) := by
 have hpx : ix ps (i : Int) = some p := (qm _ _).trans hp
 have hS := (Since.start hS0).keep (zn w0)
 refine z8 (N := 13) (qS _ _) Tryz.func79 rfl rfl rfl rfl (zc (zb (za (ze (v := iV 0) rfl) rfl (zd (zc ?_)))))
 refine zQ qA (fun _ w => Sat G0 w ∧ Below w0.heap.size w0 w) (.fl 0 (.fl 1 (.fl 2 (.fl 3 (.fl 4 (.fl 5 (.fl 6 (.fl 7 (.fl 8 (.fl 9 (.on 10 .nil))))))))))) (by kernel_rfl) rfl (by kernel_rfl) (fun _ => ⟨hS.sat, hS.below⟩) ?_
 refine zh rfl (fun w hw => zk vn rfl (zU hw.2 hc)) rfl (zh (v := pV b) rfl (fun w hw => by kernel_rfl) rfl (zh rfl (fun w hw => zj zas rfl) rfl (zh rfl (fun w hw => zj xP rfl) rfl (zh rfl (fun w hw => zj jL rfl) rfl (zh rfl (fun w hw => zk n33 rfl (zU hw.2 h20)) rfl (zh rfl (fun w hw => zk n3 rfl (zU hw.2 hd)) rfl (xH rfl s33 h1 hpx rfl rfl rfl ?_)))))))
 rintro bp op _ hcp _ ⟨⟩
 refine zh rfl (fun w hw => zj zx7 rfl) rfl (zh rfl (fun w hw => zk n3 rfl (hw.1.cell (hcp 11 _ rfl))) rfl ?_)
 refine zt rfl rfl (zA (ze (v := iV p.Worth) rfl) rfl ⟨fun _ h => zK (by kernel_rfl) h, qk (zH ?_)⟩)
 exact ⟨rfl, hS.below⟩
theorem zxl (hS0 : Sat G0 w0) : Calls Tryz.prog 81 [pV b, iV (i : Int), iV (s : Int)].toArray w0 (yP G0 w0 (fun G r => ∃ c d e, r = .func (.func 172) #[] #[pV d, pV c, pV e] ∧ Cells G c 0 [pV b] ∧ Cells G d 0 [iV (i : Int)] ∧ Cells G e 0 [iV (s : Int)])) := by
 have hS := Since.start hS0
 refine z8 (N := 8) (xN _ _ _) Tryz.func81 rfl rfl rfl rfl (zc (zb ?_))
 refine zp rfl (zI (v := fun b => pV b) (cs := [pV b]) (e := 53) (by kernel_rfl) hS.sat rfl fun c G1 w1 hg hc => ?_)
 have hS := hS.grow hg
 refine zp rfl (zI (v := fun b => pV b) (cs := [iV (i : Int)]) (e := 3) (by kernel_rfl) hS.sat rfl fun d G2 w2 hg2 hd => ?_)
 have hS := hS.grow hg2
 refine zp rfl (zI (v := fun b => pV b) (cs := [iV (s : Int)]) (e := 3) (by kernel_rfl) hS.sat rfl fun e G3 w3 hg3 he => ?_)
 have hS := hS.grow hg3
 refine za (ze (v := .nilFunc) rfl) rfl (zd (zc (zb (za (yO (vs := []) (us := [pV d, pV c, pV e]) rfl rfl) rfl (za (ze (v := .func (.func 172) #[] #[pV d, pV c, pV e]) rfl) rfl (zd (zH ?_)))))))
 exact ⟨_, _, rfl, hS.toGrow, _, _, _, rfl, (hc.mono hg2.le).mono hg3.le, hd.mono hg3.le, he⟩
theorem zu5 {ap : Option Addr} {S cpp : Nat} (hS0 : Sat G0 w0) (hc : w0.cell? ⟨c, 0, none⟩ = some (pV b)) (hd : w0.cell? ⟨d, 0, none⟩ = some (iV (i : Int))) (he : w0.cell? ⟨e, 0, none⟩ = some (iV (s : Int))) (h20 : w0.cell? ⟨b, 20, none⟩ = some (.slice a1 n1 c1)) (h54 : w0.cell? ⟨b, 54, none⟩ = some (.slice ap S cpp))
  (hi : i < n1) (hn : n1 ≤ 1000) (hs : s < S) (hSn : S ≤ 1000) : Calls Tryz.prog 172 [pV d, pV c, pV e].toArray w0 (qQ w0 (.bool true)) := by
 have hS := (Since.start hS0).keep (zn w0)
 have hw1 : IntKind.i64.wrap ((n1 : Int) - 1) = (n1 : Int) - 1 := xu ⟨by omega, by omega⟩
 have hw2 : IntKind.i64.wrap ((S : Int) - 1) = (S : Int) - 1 := xu ⟨by omega, by omega⟩
 have g1 : ziM (i : Int) 0 ((n1 : Int) - 1) = some true := by unfold ziM; rw [if_pos (by simp)]; simp; omega
 have g2 : ziM (s : Int) 0 ((S : Int) - 1) = some true := by unfold ziM; rw [if_pos (by simp)]; simp; omega
 refine z8 (N := 24) (qS _ _) Tryz.func172 rfl rfl rfl rfl (zc (zb (za (ze (v := .bool false) rfl) rfl (zd (zc ?_)))))
 refine zQ qA (fun _ w => Below w0.heap.size w0 w) (.fl 0 (.fl 1 (.fl 2 (.fl 3 (.fl 4 (.fl 5 (.fl 6 (.fl 7 (.fl 8 (.on 9 (.fl 10 (.fl 11 (.fl 12 (.fl 13 (.fl 14 (.fl 15 (.fl 16 (.fl 17 (.on 18 (.fl 19 (.on 20 .nil))))))))))))))))))))) (by kernel_rfl) rfl (by kernel_rfl) (fun _ => hS.below) ?_
 refine zh rfl (fun w hw => zk n3 rfl (zU hw hd)) rfl (zh rfl (fun w hw => zk vn rfl (zU hw hc)) rfl (zh (v := pV b) rfl (fun w hw => by kernel_rfl) rfl (zh rfl (fun w hw => zj zas rfl) rfl (zh rfl (fun w hw => zj xP rfl) rfl (zh rfl (fun w hw => zj jL rfl) rfl (zh rfl (fun w hw => zk n33 rfl (zU hw h20)) rfl (zh rfl (fun w hw => qu (m := n1) s33 rfl rfl rfl) rfl (zh rfl (fun w hw => xE rfl rfl) rfl ?_))))))))
 rw [hw1]
 refine zt rfl rfl (zu zpW (zes hS.sat g1) rfl rfl fun w1 hb => ⟨fun _ _ => (hS.keep hb).below, ?_⟩)
 have hS := hS.keep hb
 refine zh rfl (fun w hw => zf (v := .bool true) rfl) rfl ?_
 refine zX rfl rfl (b := true) rfl rfl rfl (fun w hw => zk n3 rfl (zU hw he)) rfl (zX rfl rfl (b := true) rfl rfl rfl (fun w hw => zk vn rfl (zU hw hc)) rfl (zX (v := pV b) rfl rfl (b := true) rfl rfl rfl (fun w hw => by kernel_rfl) rfl (zX rfl rfl (b := true) rfl rfl rfl (fun w hw => zj zer rfl) rfl (zX rfl rfl (b := true) rfl rfl rfl (fun w hw => zk n24 rfl (zU hw h54)) rfl (zX rfl rfl (b := true) rfl rfl rfl (fun w hw => qu (m := S) s24 rfl rfl rfl) rfl (zX rfl rfl (b := true) rfl rfl rfl (fun w hw => xE rfl rfl) rfl ?_))))))
 rw [hw2]
 refine kB rfl rfl rfl (b := true) rfl rfl rfl (zu zpW (zes hS.sat g2) rfl rfl fun w2 hb => ⟨fun _ _ => (hS.keep hb).below, ?_⟩)
 have hS := hS.keep hb
 refine zh rfl (fun w hw => yH (v := .bool true) rfl rfl rfl) rfl ?_
 refine zt rfl rfl (zA (ze (v := .bool true) rfl) rfl ⟨fun _ h => zK (by kernel_rfl) h, qk (zH ?_)⟩)
 exact ⟨rfl, hS.below⟩
theorem zxi {bp op S cpp : Nat} (h54 : w0.cell? ⟨b, 54, none⟩ = some (.slice (some ⟨bp, op, none⟩) S cpp)) (hq : w0.cell? ⟨bp, op + s, none⟩ = some (iV (q : Int))) (hs : s < S) (hi : i ≤ 6) (hq64 : q < 64) (hbit : q / 2 ^ i % 2 = 0) :
  Calls Tryz.prog 84 [pV b, iV (i : Int), iV (s : Int)].toArray w0 (qQ w0 (.bool false)) := by
 refine z8 (N := 18) (qS _ _) Tryz.func84 rfl rfl rfl rfl (zc (zb (za (ze (v := .bool false) rfl) rfl (zd (zc (zb (za (zf (v := pV b) rfl) rfl (za (v := pV b) (by kernel_rfl) rfl (za (zj zer rfl) rfl (za (zk n24 rfl h54) rfl (za (zf (v := iV (s : Int)) rfl) rfl (za (zkg s24 rfl rfl hs) rfl (za (zk n3 rfl (by rw [Nat.mul_one]; exact hq)) rfl (za (zf (v := iV (i : Int)) rfl) rfl (za (zji rfl rfl (zlN hi)) rfl (za (zjj rfl rfl) rfl ?_))))))))))))))))
 have ha := zj0 (P := 1) ⟨by decide, by decide⟩ (Nat.lt_of_le_of_lt (Nat.div_le_self q (2 ^ i)) hq64)
 rw [show IntKind.i64.wrap (((2 ^ 1 : Nat) : Int) - 1) = 1 by decide, Nat.pow_one, hbit] at ha
 rw [ha]
 refine za (zb6 rfl rfl) rfl (za (ze (v := .bool false) rfl) rfl (zd (zH ?_)))
 exact ⟨rfl, Below.refl _ _⟩
theorem zxj {bp op S cpp : Nat} (hc : w0.cell? ⟨c, 0, none⟩ = some (pV b)) (hd : w0.cell? ⟨d, 0, none⟩ = some (iV (i : Int))) (he : w0.cell? ⟨e, 0, none⟩ = some (iV (s : Int))) (h54 : w0.cell? ⟨b, 54, none⟩ = some (.slice (some ⟨bp, op, none⟩) S cpp)) (hq : w0.cell? ⟨bp, op + s, none⟩ = some (iV (q : Int))) (hs : s < S) (hi : i ≤ 6) (hq64 : q < 64) (hbit : q / 2 ^ i % 2 = 0) :
  Calls Tryz.prog 83 [pV c, pV d, pV e].toArray w0 (qQ w0 (.bool true)) := by
 refine z8 (N := 9) (qS _ _) Tryz.func83 rfl rfl rfl rfl (zc (zb (za (ze (v := .bool false) rfl) rfl (zd (zc (zb (za (zk vn rfl hc) rfl (za (zk n3 rfl hd) rfl (za (zk n3 rfl he) rfl ?_)))))))))
 refine zp rfl (zu zyV (zxi h54 hq hs hi hq64 hbit) rfl rfl fun w1 hb => ?_)
 refine za (v := .bool (!false)) (qI rfl) rfl (za (ze (v := .bool true) rfl) rfl (zd (zH ?_)))
 exact ⟨rfl, hb⟩
end
end Go.Proofs.YtcapocmenjcnhaaGreatDoor
/-
 The council: Close.
-/
namespace Go.Proofs.YtcapocmenjcnhaaGreatDoor
open Go.RowKit
set_option maxRecDepth 20000
structure CoR (G : Gm) (cc : List Value) (va vp : Value) (r : qz) (mo : Int) : Prop where
 len : cc.length = 62
 c60 : cc[60]? = some va
 c61 : cc[61]? = some (.bool true)
 c50 : cc[50]? = some (iV mo)
 c54 : cc[54]? = some vp
 rf : ∃ (a : Option Addr) (n c : Nat), cc[20]? = some (.slice a n c) ∧ cc[21]? = some (iV r.Miss) ∧ cc[22]? = some (iV r.Seasons) ∧ RSl zE 12 G a n c r.Places
section
variable {G G' : Gm} {cc : List Value} {va vp : Value} {r : qz} {mo : Int}
theorem CoR.grow (h : CoR G cc va vp r mo) (le : Gle G G') : CoR G' cc va vp r mo := by
 obtain ⟨a, n, c, q1, q2, q3, hq⟩ := h.rf
 exact ⟨h.len, h.c60, h.c61, h.c50, h.c54, a, n, c, q1, q2, q3, hq.mono zl le⟩
theorem zlX {cc : List Value} (hl : cc.length = 62) {k : Nat} (hk : k < 62) (v : Value) (j : Nat) : (qX cc k [v])[j]? = if j = k then some v else cc[j]? := by
 rw [kN (by simp; omega)]
 by_cases h : j = k
 ·subst h; simp
 ·rw [if_neg (by simp; omega), if_neg h]
theorem zkm {cc : List Value} (hl : cc.length = 62) {k : Nat} (hk : k < 62) (v : Value) : (qX cc k [v]).length = 62 := by rw [jV (by simp; omega), hl]
theorem CoR.acts (h : CoR G cc va vp r mo) (v : Value) : CoR G (qX cc 60 [v]) v vp r mo := by
 have p := zlX h.len (k := 60) (by decide) v
 obtain ⟨a, n, c, q1, q2, q3, hq⟩ := h.rf
 exact ⟨zkm h.len (by decide) v, by rw [p]; rfl, by rw [p]; exact h.c61, by rw [p]; exact h.c50, by rw [p]; exact h.c54, a, n, c, by rw [p]; exact q1, by rw [p]; exact q2, by rw [p]; exact q3, hq⟩
theorem CoR.money (h : CoR G cc va vp r mo) (m' : Int) : CoR G (qX cc 50 [iV m']) va vp r m' := by
 have p := zlX h.len (k := 50) (by decide) (iV m')
 obtain ⟨a, n, c, q1, q2, q3, hq⟩ := h.rf
 exact ⟨zkm h.len (by decide) _, by rw [p]; exact h.c60, by rw [p]; exact h.c61, by rw [p]; rfl, by rw [p]; exact h.c54, a, n, c, by rw [p]; exact q1, by rw [p]; exact q2, by rw [p]; exact q3, hq⟩
end
theorem zye {i q : Nat} (hi : i < 4) (hq : q < 64) (hb : q / 2 ^ i % 2 = 0) : orI .i64 (q : Int) ((2 ^ i : Nat) : Int) = ((q + 2 ^ i : Nat) : Int) := by
 have h : ∀ i : Nat, i < 4 → ∀ q : Nat, q < 64 → q / 2 ^ i % 2 = 0 → orI .i64 (q : Int) ((2 ^ i : Nat) : Int) = ((q + 2 ^ i : Nat) : Int) := by decide
 exact h i hi q hq hb
abbrev zhM (i s : Nat) : Value := .iface 177 (.agg #[iV (i : Int), iV (s : Int)])
section
variable {B : Nat} {G0 : Gm} {w0 : World} {Gc : Gm} {wc : World} {Lq : List Row} {b n : Nat} {cc ac pc : List Value} {xs : List Value} {ad ap : Option Addr} {cp0 cpp : Nat} {r : qz} {mo mo' : Int} {pl : List Int}
set_option maxHeartbeats 2000000 in
theorem f29_ok {i s q : Nat} {p : zr} (hS : Since B G0 w0 Gc wc) (hO : Owns Gc wc B (rowC b cc :: jG n (.slice ad n cp0) ac :: yt ap pl.length cpp pc :: Lq)) (h2B : 2 ≤ B) (hcs : CoR Gc cc (.slice ad n cp0) (.slice ap pl.length cpp) r mo) (hn : n < 100) (hxs : n = xs.length) (hrd : Rd zhV 1 Gc ac xs) (hpc : Rd zW 1 Gc pc pl)
  (hp : r.Places[i]? = some p) (h4 : r.Places.length ≤ 4) (hpl4 : pl.length ≤ 4) (hq : pl[s]? = some (q : Int)) (hq64 : q < 64) (hbit : q / 2 ^ i % 2 = 0) (hc : p.Worth ≤ mo) (hw : IntKind.i64.wrap (mo - p.Worth) = mo') :
  Calls Tryz.prog 29 [pV b, iV (i : Int), iV (s : Int)].toArray wc (zdX B G0 w0 Gc wc (fun G' L' v => v = iV 0 ∧ ∃ cc' ad' cp' ac' xs' pc', L' = rowC b cc' :: jG (n + 1) (.slice ad' (n + 1) cp') ac' :: yt ap pl.length cpp pc' :: Lq ∧ CoR G' cc' (.slice ad' (n + 1) cp') (.slice ap pl.length cpp) r mo' ∧ n + 1 = xs'.length ∧ Rd zhV 1 G' ac' xs' ∧ Rd zW 1 G' pc' (pl.set s ((q + 2 ^ i : Nat) : Int)))) := by
 obtain ⟨a1, n1, c1, h20, h21, h22, h1⟩ := hcs.rf
 have hi : i < r.Places.length := (List.getElem?_eq_some_iff.1 hp).1
 have hsl : s < pl.length := (List.getElem?_eq_some_iff.1 hq).1
 have hn1 : n1 = r.Places.length := h1.1
 have hpx : ix pl (s : Int) = some (q : Int) := (qm _ _).trans hq
 obtain ⟨bp, op, cs, hap, hcp, hcl, rfl⟩ : ∃ bp op cs, ap = some ⟨bp, op, none⟩ ∧ (∀ j u, cs[j]? = some u → pc[s * 1 + j]? = some u) ∧ cs.length = 1 ∧ cs = [iV (q : Int)] := by
  obtain ⟨G', le, hS', _, hs⟩ := hO.freezeS hS zm (k := 2) rfl hpc rfl
  obtain ⟨_, _, hh⟩ := hs
  obtain ⟨bp, op, cs, e, _⟩ := hh s _ hq
  obtain ⟨cs', hl', hc', hR'⟩ := hpc.2 s _ hq
  exact ⟨bp, op, cs', e, hc', hl', hR'⟩
 have hpcs : pc[s]? = some (iV (q : Int)) := by simpa using hcp 0 _ rfl
 refine ve (N := 44) (rs := [.tmp 6]) hO.base Tryz.func29 rfl rfl rfl rfl (zc (zb ?_))
 refine zp rfl (zI (v := fun b => pV b) (cs := [pV b]) (e := 53) (by kernel_rfl) hS.sat rfl fun bC G1 w1 hg1 hcC => ?_)
 have hS := hS.grow hg1
 have hO := hO.grow hg1
 refine zp rfl (zI (v := fun b => pV b) (cs := [iV (i : Int)]) (e := 3) (by kernel_rfl) hS.sat rfl fun bN G2 w2 hg2 hcN => ?_)
 have hS := hS.grow hg2
 have hO := hO.grow hg2
 refine zp rfl (zI (v := fun b => pV b) (cs := [iV (s : Int)]) (e := 3) (by kernel_rfl) hS.sat rfl fun bE G3 w3 hg3 hcE => ?_)
 have hS := hS.grow hg3
 have hO := hO.grow hg3
 have le3 : Gle Gc G3 := (hg1.le.trans hg2.le).trans hg3.le
 have hcC := hcC.mono (hg2.le.trans hg3.le)
 have hcN := hcN.mono hg3.le
 refine za (ze (v := iV 0) rfl) rfl (zd (zc (zb (za (yO (vs := []) (us := [pV bC, pV bN]) rfl rfl) rfl (za (ze (v := .func (.func 79) #[] #[pV bC, pV bN]) rfl) rfl (zd (zc (zc ?_))))))))
 refine zQ qA (fun _ w => Sat G3 w) (.fl 0 (.fl 1 (.fl 2 (.fl 3 (.fl 4 (.fl 5 (.fl 6 (.fl 7 (.fl 9 (.fl 11 (.fl 12 (.on 8 (.on 10 (.on 13 (.on 14 (.on 15 (.on 16 .nil))))))))))))))))) (by kernel_rfl) rfl (by kernel_rfl) (fun _ => (hS.keep (zn _)).sat) ?_
 have hS := hS.keep (zn w3)
 have hO := hO.below (zn w3)
 refine zh rfl (fun w hw => zk vn rfl (hw.cell (hcC 0 _ rfl))) rfl (zh rfl (fun w hw => zk n3 rfl (hw.cell (hcN 0 _ rfl))) rfl (zh rfl (fun w hw => zk n3 rfl (hw.cell (hcE 0 _ rfl))) rfl (zh (v := .agg #[iV (i : Int), iV (s : Int)]) rfl (fun w hw => by kernel_rfl) rfl (zh (v := zhM i s) rfl (fun w hw => by kernel_rfl) rfl
  (zh rfl (fun w hw => zk vn rfl (hw.cell (hcC 0 _ rfl))) rfl (zh rfl (fun w hw => zk n3 rfl (hw.cell (hcN 0 _ rfl))) rfl (zh rfl (fun w hw => zk n3 rfl (hw.cell (hcE 0 _ rfl))) rfl (zh rfl (fun w hw => yO (vs := []) (us := [pV bC, pV bN, pV bE]) rfl rfl) rfl (zh rfl (fun w hw => zk vn rfl (hw.cell (hcC 0 _ rfl))) rfl (zh (v := .func (.func 79) #[] #[pV bC, pV bN]) rfl (fun w hw => zf rfl) rfl ?_))))))))))
 refine zt rfl rfl (zS zyY (zxl hS.sat) rfl rfl fun v G4 w4 hg4 hv => ?_)
 obtain ⟨d0, d1, d2, rfl, hd0, hd1, hd2⟩ := hv
 have hS := hS.grow hg4
 have hO := hO.grow hg4
 refine ⟨fun _ _ => hS.sat.le hg4.le, ?_⟩
 refine zt rfl rfl (zS zyX (zxk hS.sat (f := .func 83) (a := #[]) (b := #[pV bC, pV bN, pV bE])) rfl rfl fun v G5 w5 hg5 hv => ?_)
 obtain ⟨bS, rfl, hcS⟩ := hv
 have hS := hS.grow hg5
 have hO := hO.grow hg5
 refine ⟨fun _ _ => hS.sat.le (hg4.le.trans hg5.le), ?_⟩
 refine zt rfl rfl (zS zyU (zxh hS.sat (f := .func 79) (x := #[]) (y := #[pV bC, pV bN])) rfl rfl fun v G6 w6 hg6 hv => ?_)
 obtain ⟨d3, d4, rfl, hd3, hd4⟩ := hv
 have hS := hS.grow hg6
 have hO := hO.grow hg6
 refine ⟨fun _ _ => hS.sat.le ((hg4.le.trans hg5.le).trans hg6.le), ?_⟩
 refine zt rfl rfl (zI (v := fun b => .slice (some ⟨b, 0, none⟩) 2 2) (cs := [.func (.func 173) #[] #[pV bS], .func (.func 174) #[] #[pV d4, pV d3]]) (e := 179) (by kernel_rfl) hS.sat rfl fun bm G7 w7 hg7 hcm => ?_)
 have hS := hS.grow hg7
 have hO := hO.grow hg7
 have le37 : Gle G3 G7 := ((hg4.le.trans hg5.le).trans hg6.le).trans hg7.le
 refine ⟨fun _ _ => hS.sat.le le37, ?_⟩
 have le7 : Gle Gc G7 := le3.trans le37
 have hcC := hcC.mono le37
 have hcN := hcN.mono le37
 have hcE := hcE.mono le37
 have hd0 := hd0.mono ((hg5.le.trans hg6.le).trans hg7.le)
 have hd1 := hd1.mono ((hg5.le.trans hg6.le).trans hg7.le)
 have hd2 := hd2.mono ((hg5.le.trans hg6.le).trans hg7.le)
 have hcS := hcS.mono (hg6.le.trans hg7.le)
 have hd3 := hd3.mono hg7.le
 have hd4 := hd4.mono hg7.le
 have h1 := h1.mono zl le7
 have hpc := hpc.mono zm le7
 have hc54 : cc[54]? = some (.slice (some ⟨bp, op, none⟩) pl.length cpp) := by rw [← hap]; exact hcs.c54
 refine zt rfl rfl (yq (fi := []) (al := [pV b, zhM i s, .func (.func 172) #[] #[pV d1, pV d0, pV d2], .slice (some ⟨bm, 0, none⟩) 2 2]) (ca := []) zyZ
  (zxm (kr := 172) (cr := [pV d1, pV d0, pV d2]) (ms := [(173, [pV bS]), (174, [pV d4, pV d3])]) (mn := 2) hS hO h2B rfl (by decide) (fun p hp => by cases hp; show (173 : Nat) ≠ 167; decide) hcm (by simp) (fun v1 v2 v3 => Ev.concat_b2 _ _ _ _ _ _ _ _ _ _ _ _ _ _ _)
   ⟨zxT, fun G w hle hS hO => zu5 hS.sat (hS.sat.cell ((hd0.mono hle) 0 _ rfl)) (hS.sat.cell ((hd1.mono hle) 0 _ rfl)) (hS.sat.cell ((hd2.mono hle) 0 _ rfl)) (zx hO (k := 0) rfl h20) (zx hO (k := 0) rfl hcs.c54) (by omega) (by omega) hsl (by omega)⟩
   hcs.c61 hn hxs (hrd.mono vY le7) hcs.c60 hcs.len (fun p hp' => by
    rcases List.mem_cons.1 hp' with rfl | hp'
    ·exact ⟨zyN, fun G w hle hS hO => ztm (is := true) (ca := [pV bC, pV bN, pV bE]) (hS.sat.cell ((hcS.mono hle) 0 _ rfl)) zyW (zxj (hS.sat.cell ((hcC.mono hle) 0 _ rfl)) (hS.sat.cell ((hcN.mono hle) 0 _ rfl)) (hS.sat.cell ((hcE.mono hle) 0 _ rfl)) (zx hO (k := 0) rfl hc54) (zgo hO (k := 2) rfl hap hpcs) hsl (by omega) hq64 hbit)⟩
    ·obtain rfl := List.mem_singleton.1 hp'
     exact ⟨zyM, fun G w hle hS hO => zu4 (k := 79) (ca := [pV bC, pV bN]) (x := p.Worth) (mo := mo) (hS.sat.cell ((hd4.mono hle) 0 _ rfl)) (hS.sat.cell ((hd3.mono hle) 0 _ rfl)) (zx hO (k := 0) rfl hcs.c50) zoH (fun w' hb => zmX (hS.keep hb).sat (zU hb (hS.sat.cell ((hcC.mono hle) 0 _ rfl))) (zU hb (hS.sat.cell ((hcN.mono hle) 0 _ rfl))) (zU hb (zx hO (k := 0) rfl h20)) (h1.mono zl hle) hp) hc⟩))
  rfl rfl rfl fun v G8 w8 L8 le8 hS hO hv => ?_)
 obtain ⟨rfl, ad', cp', ac', rfl, hrd8⟩ := hv
 refine ⟨fun _ h => zK (by kernel_rfl) h, ?_⟩
 refine zt rfl rfl (zA (ze (v := iV 0) rfl) rfl ⟨fun _ h => zK (by kernel_rfl) h, qk ?_⟩)
 refine zc (zb (za (zf (v := iV 0) rfl) rfl (za (kw rfl rfl) rfl (zd (zV false rfl rfl (zD ?_))))))
 have hcs8 := (hcs.grow (le7.trans le8)).acts (.slice ad' (n + 1) cp')
 have hcC := hcC.mono le8
 have hcN := hcN.mono le8
 have hcE := hcE.mono le8
 have hpc := hpc.mono zm le8
 have hxs8 : n + 1 = (xs ++ [zhM i s]).length := by simp [hxs]
 generalize qX cc 60 [.slice ad' (n + 1) cp'] = cc8 at hcs8 hO
 refine zc (zQ qA (fun _ w => Sat G8 w ∧ Owns G8 w B (rowC b cc8 :: jG (n + 1) (.slice ad' (n + 1) cp') ac' :: yt ap pl.length cpp pc :: Lq)) (.fl 0 (.fl 1 (.fl 2 (.fl 3 (.fl 4 (.fl 5 (.fl 6 (.fl 7 (.fl 8 (.fl 9 (.fl 10 (.on 11 .nil)))))))))))) (by kernel_rfl) rfl (by kernel_rfl) (fun _ => ⟨(hS.keep (zn _)).sat, hO.below (zn _)⟩) ?_)
 have hS := hS.keep (zn w8)
 have hO := hO.below (zn w8)
 refine zh rfl (fun w hw => zk vn rfl (hw.1.cell (hcC 0 _ rfl))) rfl (zh (v := pV b) rfl (fun w hw => by kernel_rfl) rfl (zh rfl (fun w hw => zj zer rfl) rfl (zh rfl (fun w hw => zk n24 rfl (zx hw.2 (k := 0) rfl hcs8.c54)) rfl (zh rfl (fun w hw => zk n3 rfl (hw.1.cell (hcE 0 _ rfl))) rfl (zbL rfl s24 hO (k := 2) rfl rfl hpc hpx rfl rfl rfl ?_)))))
 rintro bt ot _ hbt _ hct ⟨⟩
 refine zh rfl (fun w hw => zk n3 rfl (jQ hw.2 (k := 2) rfl hbt _ 0 (hct 0 _ rfl))) rfl (zh rfl (fun w hw => zk n3 rfl (hw.1.cell (hcN 0 _ rfl))) rfl (zh rfl (fun w hw => zeL rfl rfl (zhd (by omega))) rfl (zh rfl (fun w hw => zx6 rfl rfl) rfl ?_)))
 rw [zye (by omega) hq64 hbit]
 refine zbL rfl s24 hO (k := 2) rfl rfl hpc hpx rfl rfl rfl ?_
 rintro bu ou _ hbu _ hcu ⟨⟩
 have hset : jK pl (s : Int) ((q + 2 ^ i : Nat) : Int) = some (pl.set s ((q + 2 ^ i : Nat) : Int)) := by
  unfold jK
  rw [if_pos ⟨by omega, by omega⟩]
  rfl
 refine zt rfl rfl (jp (vs := [iV ((q + 2 ^ i : Nat) : Int)]) (cs := [iV (q : Int)]) (j := 0) (y := ((q + 2 ^ i : Nat) : Int)) z3 hS hO (k := 2) rfl rfl rfl hpc hbu rfl hcu hset rfl rfl rfl rfl rfl (zR rfl) (Nat.le_of_ble_eq_true rfl) (fun w9 pc9 hS hO hpc => ⟨fun _ h => zK (by kernel_rfl) h, qk ?_⟩))
 have hO : Owns G8 w9 B (rowC b cc8 :: jG (n + 1) (.slice ad' (n + 1) cp') ac' :: yt ap pl.length cpp pc9 :: Lq) := hO
 obtain ⟨b1, m1, k1, p20, p21, p22, r1⟩ := hcs8.rf
 refine zc (zQ qA (fun _ w => Sat G8 w) (.fl 0 (.fl 1 (.on 2 (.on 3 .nil)))) (by kernel_rfl) rfl (by kernel_rfl) (fun _ => (hS.keep (zn _)).sat) ?_)
 have hS := hS.keep (zn w9)
 have hO := hO.below (zn w9)
 refine zh rfl (fun w hw => zk vn rfl (hw.cell (hcC 0 _ rfl))) rfl (zh (v := .func (.func 79) #[] #[pV bC, pV bN]) rfl (fun w hw => zf rfl) rfl ?_)
 refine zt rfl rfl (yN (fi := []) (al := []) (ca := [pV bC, pV bN]) zoH (zmX hS.sat (hS.sat.cell (hcC 0 _ rfl)) (hS.sat.cell (hcN 0 _ rfl)) (zx hO (k := 0) rfl p20) r1 hp) rfl rfl rfl fun w10 hb => ⟨fun _ _ => (hS.keep hb).sat, ?_⟩)
 have hS := hS.keep hb
 have hO := hO.below hb
 refine zt rfl rfl (yq (fi := []) (al := [pV b, iV p.Worth]) (ca := []) zyT (zxg hS hO hcs8.len hcs8.c50 hw) rfl rfl rfl fun v G11 w11 L11 le11 hS hO hv => ⟨fun _ h => zK (by kernel_rfl) h, qk ?_⟩)
 obtain ⟨_, e2⟩ := hv
 refine zc (zb (za (ze (v := iV 0) rfl) rfl (zd (zH ?_))))
 exact ⟨[iV 0], ⟨rfl, trivial⟩, G11, L11, (le7.trans le8).trans le11, hS, hO, rfl, _, ad', cp', ac', xs ++ [zhM i s], pc9, e2, (hcs8.grow le11).money mo', hxs8, hrd8.mono vY le11, hpc.mono zm le11⟩
end
end Go.Proofs.YtcapocmenjcnhaaGreatDoor
/-
  The council: Short; the places of a plan are closed.
-/
namespace Go.Proofs.YtcapocmenjcnhaaGreatDoor
open Go.RowKit
set_option maxRecDepth 20000
theorem cb28r : zN Tryz.prog 28 = true := by kernel_rfl
theorem zec : agB Tryz.prog 35 = some 3 := by kernel_rfl
section
variable {w0 : World} {b : Nat}
theorem f30_ok {a : Value} {a1 ap : Option Addr} {n1 c1 np cpp : Nat} {miss seas v0 v1 v2 : Int} (h : CoW w0 b a) (hrf : ∀ (j : Nat) v, [Value.slice a1 n1 c1, iV miss, iV seas][j]? = some v → w0.cell? ⟨b, 20 + j, none⟩ = some v) (h54 : w0.cell? ⟨b, 54, none⟩ = some (.slice ap np cpp))
    (h88 : ∀ w, Below w0.heap.size w0 w → Calls Tryz.prog 88 [.agg #[.slice a1 n1 c1, iV miss, iV seas], .slice ap np cpp].toArray w (qQ w (.tuple #[iV v0, iV v1, iV v2]))) :
    Calls Tryz.prog 30 [pV b].toArray w0 (qQ w0 (.tuple #[iV v0, iV v1, iV v2])) := by
  refine vf (N := 20) (qS _ _) [.tmp 2, .tmp 3, .tmp 4] Tryz.func30 rfl rfl rfl rfl (zc (zb (za (ze (v := iV 0) rfl) rfl (za (ze (v := iV 0) rfl) rfl (za (ze (v := iV 0) rfl) rfl (zd ?_))))))
  refine zc (zc (zb (za (zf (v := pV b) rfl) rfl (zp rfl (zu zyR (zjP h) rfl rfl fun w1 hb => zd (zV false rfl rfl (zD (zc ?_))))))))
  have hb1 := hb.trans ((zn w1).mono hb.size)
  refine zQ qA (fun _ w => Below w0.heap.size w0 w) (.fl 0 (.fl 1 (.fl 2 (.fl 3 (.fl 4 (.fl 5 (.fl 6 (.fl 7 (.fl 8 (.on 9 (.fl 10 (.fl 11 (.fl 12 (.on 13 (.on 14 (.on 15 .nil)))))))))))))))) (by kernel_rfl) rfl (by kernel_rfl) (fun _ => hb1) ?_
  refine zh rfl (fun w hw => zf (v := pV b) rfl) rfl (zh (v := pV b) rfl (fun w hw => by kernel_rfl) rfl (zh rfl (fun w hw => zj zas rfl) rfl (zh rfl (fun w hw => zj xP rfl) rfl (zh rfl (fun w hw => zw zec (cs := [.slice a1 n1 c1, iV miss, iV seas]) rfl rfl fun j v hj => zU hw (hrf j v hj)) rfl (zh rfl (fun w hw => zf (v := pV b) rfl) rfl (zh (v := pV b) rfl (fun w hw => by kernel_rfl) rfl (zh rfl (fun w hw => zj zer rfl) rfl (zh rfl (fun w hw => zk n24 rfl (zU hw h54)) rfl ?_))))))))
  refine zt rfl rfl (zu c88 (h88 _ hb1) rfl rfl fun w2 hb2 => ?_)
  have hb3 := hb1.trans (hb2.mono hb1.size)
  refine ⟨fun _ _ => hb3, ?_⟩
  refine zh rfl (fun w hw => zT (v := iV v0) rfl rfl) rfl (zh rfl (fun w hw => zT (v := iV v1) rfl rfl) rfl (zh rfl (fun w hw => zT (v := iV v2) rfl rfl) rfl ?_))
  refine zt rfl rfl (zA (ze (v := iV v0) rfl) rfl ⟨fun _ _ => hb3, ?_⟩)
  refine zt rfl rfl (zA (ze (v := iV v1) rfl) rfl ⟨fun _ _ => hb3, ?_⟩)
  refine zt rfl rfl (zA (ze (v := iV v2) rfl) rfl ⟨fun _ _ => hb3, qk (zH ?_)⟩)
  exact ⟨[iV v0, iV v1, iV v2], ⟨rfl, rfl, rfl, trivial⟩, rfl, hb3⟩
end
def yZ (q i : Nat) : Bool := decide (q / 2 ^ i % 2 = 1)
theorem zii (q i : Nat) : q % 2 ^ (i + 1) = q % 2 ^ i + 2 ^ i * (q / 2 ^ i % 2) := by rw [Nat.pow_succ, Nat.mod_mul]
theorem zt7 {q i : Nat} (h : yZ q i = true) : q % 2 ^ (i + 1) = q % 2 ^ i + 2 ^ i := by
  have h : q / 2 ^ i % 2 = 1 := of_decide_eq_true h
  rw [zii, h, Nat.mul_one]
theorem zr6 {q i : Nat} (h : yZ q i = false) : q % 2 ^ (i + 1) = q % 2 ^ i := by
  have h : ¬ q / 2 ^ i % 2 = 1 := of_decide_eq_false h
  have : q / 2 ^ i % 2 = 0 := by omega
  rw [zii, this, Nat.mul_zero, Nat.add_zero]
theorem mod_clear (q i : Nat) : q % 2 ^ i / 2 ^ i % 2 = 0 := by
  rw [Nat.div_eq_of_lt (Nat.mod_lt _ (Nat.pos_of_ne_zero (by simp)))]
def yi (ps : List zr) (q : Nat) : Nat → Int
  | 0 => 0
  | i + 1 => yi ps q i + if yZ q i then (ps[i]?.map (·.Worth)).getD 0 else 0
def z9 (ps : List zr) (l : List Nat) : Nat → Int
  | 0 => 0
  | s + 1 => z9 ps l s + yi ps (l.getD s 0) ps.length
def vJ (l : List Nat) (s i : Nat) : List Int := (List.range l.length).map fun j => if j < s then ((l.getD j 0 : Nat) : Int) else if j = s then ((l.getD j 0 % 2 ^ i : Nat) : Int) else 0
theorem vH (l : List Nat) (s i : Nat) : (vJ l s i).length = l.length := by simp [vJ]
theorem zaT {l : List Nat} {s i j : Nat} (hj : j < l.length) : (vJ l s i)[j]? = some (if j < s then ((l.getD j 0 : Nat) : Int) else if j = s then ((l.getD j 0 % 2 ^ i : Nat) : Int) else 0) := by
  unfold vJ
  rw [List.getElem?_map, List.getElem?_range hj]
  rfl
theorem zeW {l : List Nat} {A B : List Int} (hA : A.length = l.length) (hB : B.length = l.length) (h : ∀ j, j < l.length → A[j]? = B[j]?) : A = B := by
  refine List.ext_getElem? fun j => ?_
  by_cases hj : j < l.length
  · exact h j hj
  · rw [List.getElem?_eq_none (by omega), List.getElem?_eq_none (by omega)]
theorem plAt_set {l : List Nat} {s i : Nat} (hs : s < l.length) (hb : yZ (l.getD s 0) i = true) : (vJ l s i).set s ((l.getD s 0 % 2 ^ i + 2 ^ i : Nat) : Int) = vJ l s (i + 1) := by
  refine zeW (l := l) (by rw [List.length_set, vH]) (vH _ _ _) fun j hj => ?_
  rw [zaT hj]
  by_cases h : j = s
  · subst h
    rw [List.getElem?_set_self (by rw [vH]; exact hj), if_neg (by omega), if_pos rfl, zt7 hb]
  · rw [List.getElem?_set_ne (fun e => h e.symm), zaT hj, if_neg h, if_neg h]
theorem plAt_keep {l : List Nat} {s i : Nat} (hb : yZ (l.getD s 0) i = false) : vJ l s i = vJ l s (i + 1) := by
  unfold vJ
  refine List.map_congr_left fun j _ => ?_
  by_cases h : j = s
  · subst h; rw [zr6 hb]
  · simp only [if_neg h]
theorem plAt_next {l : List Nat} {s P : Nat} (hq : l.getD s 0 < 2 ^ P) : vJ l s P = vJ l (s + 1) 0 := by
  unfold vJ
  refine List.map_congr_left fun j _ => ?_
  by_cases h : j < s
  · rw [if_pos h, if_pos (by omega)]
  · by_cases h2 : j = s
    · subst h2
      rw [if_neg h, if_pos rfl, if_pos (by omega), Nat.mod_eq_of_lt hq]
    · rw [if_neg h, if_neg h2, if_neg (by omega)]
      split
      · rw [Nat.pow_zero, Nat.mod_one]; rfl
      · rfl
theorem plAt_zero (l : List Nat) : vJ l 0 0 = List.replicate l.length 0 := by
  refine zeW (l := l) (vH _ _ _) (by simp) fun j hj => ?_
  rw [zaT hj, List.getElem?_replicate, if_pos hj, if_neg (by omega), Nat.pow_zero, Nat.mod_one]
  split <;> rfl
theorem plAt_all (l : List Nat) : vJ l l.length 0 = l.map fun q : Nat => (q : Int) := by
  refine zeW (l := l) (vH _ _ _) (by simp) fun j hj => ?_
  rw [zaT hj, if_pos hj, List.getElem?_map, List.getElem?_eq_getElem hj, List.getD_eq_getElem?_getD, List.getElem?_eq_getElem hj]
  rfl
theorem kJ {ps : List zr} (h : ∀ p ∈ ps, 0 ≤ p.Worth) (q : Nat) : ∀ i, 0 ≤ yi ps q i
  | 0 => Int.le_refl _
  | i + 1 => by
    have ih := kJ h q i
    unfold yi
    split
    · cases hp : ps[i]? with
      | none => simpa using ih
      | some p => have := h p (List.mem_of_getElem? hp); simp; omega
    · omega
theorem costS_mono {ps : List zr} (h : ∀ p ∈ ps, 0 ≤ p.Worth) (q : Nat) {i j : Nat} (hij : i ≤ j) : yi ps q i ≤ yi ps q j := by
  induction j with
  | zero => obtain rfl : i = 0 := by omega
            exact Int.le_refl _
  | succ j ih =>
    by_cases hi : i = j + 1
    · subst hi; exact Int.le_refl _
    · have := ih (by omega)
      have h2 : yi ps q j ≤ yi ps q (j + 1) := by
        conv => rhs; unfold yi
        split
        · cases hp : ps[j]? with
          | none => simp
          | some p => have := h p (List.mem_of_getElem? hp); simp; omega
        · omega
      omega
theorem zb0 {ps : List zr} (h : ∀ p ∈ ps, 0 ≤ p.Worth) (l : List Nat) : ∀ s, 0 ≤ z9 ps l s
  | 0 => Int.le_refl _
  | s + 1 => by
    have := zb0 h l s
    have := kJ h (l.getD s 0) ps.length
    unfold z9
    omega
theorem costTo_mono {ps : List zr} (h : ∀ p ∈ ps, 0 ≤ p.Worth) (l : List Nat) {s t : Nat} (hst : s ≤ t) : z9 ps l s ≤ z9 ps l t := by
  induction t with
  | zero => obtain rfl : s = 0 := by omega
            exact Int.le_refl _
  | succ t ih =>
    by_cases hs : s = t + 1
    · subst hs; exact Int.le_refl _
    · have := ih (by omega)
      have := kJ h (l.getD t 0) ps.length
      have e : z9 ps l (t + 1) = z9 ps l t + yi ps (l.getD t 0) ps.length := rfl
      omega
theorem wrap_in {n : Int} (h : -9223372036854775808 ≤ n ∧ n ≤ 9223372036854775807) : IntKind.i64.wrap n = n := by rw [IntKind.wrap_i64]; omega
end Go.Proofs.YtcapocmenjcnhaaGreatDoor
