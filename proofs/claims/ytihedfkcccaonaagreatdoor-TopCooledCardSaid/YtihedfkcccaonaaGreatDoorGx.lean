/-
 slices.Concat of three and one or two more functions, by the evaluator.
-/
import Derived.Test.YtihedfkcccaonaaGreatDoorEvG5
import Derived.Test.YtihedfkcccaonaaGreatDoorProg
import Derived.KernelRfl
import Derived.Test.YtihedfkcccaonaaGreatDoorXy
namespace Go.Proofs.YtihedfkcccaonaaGreatDoor.Ev
open Go.RowKit
noncomputable def hpC (k : Nat) (vs us : List Value) : Hp := hset (.cells (.l (us.map .lit)) true) (hset (.cells (.l (vs.map .lit)) true) (hset (.cells (.l [.asl 3 0 3 3, .asl 4 0 k k]) true) (xL 14) 2) 3) 4
noncomputable def outC (k : Nat) (vs us : List Value) : Out := evM Tryz.prog [] 100 171 [.asl 2 0 2 2] (hpC k vs us) 5
noncomputable def getC (o : Out) : Option (AV × Option xD) := match o with
 | .ok .ret r m => match qA r 0 with
  | some v => some (v, qz m.hp 5)
  | none => none
 | _ => none
theorem concat_b2 (f1 f2 f3 f4 f6 : Fn) (a1 a2 a3 a4 a5 b1 b2 b3 b4 b5 : Array Value) :
  getC (outC 2 [.func f1 a1 b1, .func f2 a2 b2, .func f3 a3 b3] [.func f4 a4 b4, .func f6 a5 b5]) = some (.slc 5 0 5 5 1, some (.cells (.l [.lit (.func f1 a1 b1), .lit (.func f2 a2 b2), .lit (.func f3 a3 b3), .lit (.func f4 a4 b4), .lit (.func f6 a5 b5)]) false)) := by kernel_rfl
theorem zon (P : Program) : zcX P [] := fun p hp => by cases hp
theorem zfB {w : World} {b : Nat} {l : List Value} (h : ∀ (j : Nat) v, l[j]? = some v → w.cell? ⟨b, 0 + j, none⟩ = some v) (h0 : l ≠ []) : ∃ (arr : Array Value) (el : TypeId) (fz : Nat × Nat), w.heap[b]? = some (.cells arr el fz) ∧ l.length ≤ arr.size ∧ ∀ (j : Nat) v, l[j]? = some v → arr[j]? = some v := by
 have key : ∀ (j : Nat) v, l[j]? = some v → ∃ (arr : Array Value) (el : TypeId) (fz : Nat × Nat), w.heap[b]? = some (.cells arr el fz) ∧ arr[j]? = some v := fun j v hj => by
  have := h j v hj
  unfold World.cell? at this
  split at this
  ·rename_i c el fz ho
   refine ⟨c, el, fz, ho, ?_⟩
   simpa using this
  ·cases this
 cases l with
 | nil => exact absurd rfl h0
 | cons x l =>
  obtain ⟨arr, el, fz, h1, h2⟩ := key 0 x rfl
  have all : ∀ (j : Nat) v, (x :: l)[j]? = some v → arr[j]? = some v := fun j v hj => by
   obtain ⟨arr', el', fz', h3, h4⟩ := key j v hj
   rw [h1] at h3
   cases h3
   exact h4
  refine ⟨arr, el, fz, h1, ?_, all⟩
  have hl : (x :: l)[l.length]? = some ((x :: l)[l.length]) := List.getElem?_eq_getElem (by simp)
  have := (Array.getElem?_eq_some_iff.1 (all _ _ hl)).1
  simp only [List.length_cons]
  omega
theorem zlk {us : List Value} {i : Nat} {v : AV} (h : xW (.l (us.map .lit)) i = some v) : ∃ u, us[i]? = some u ∧ v = .lit u := by
 have h2 : nth (us.map AV.lit) i = some v := h
 rw [nth_eq, List.getElem?_map] at h2
 cases hu : us[i]? with
 | none => rw [hu] at h2; cases h2
 | some u => rw [hu] at h2; exact ⟨u, rfl, (nQs h2).symm⟩
theorem f171_gen (vs us : List Value) (k : Nat) (hv3 : vs.length = 3) (hk : us.length = k) (hk0 : us ≠ []) (hb : getC (outC k vs us) = some (.slc 5 0 (3 + k) (3 + k) 1, some (.cells (.l ((vs ++ us).map .lit)) false))) {w : World} {o a m : Nat} (h2 : 2 ≤ w.heap.size) (hoa : o ≠ a) (hom : o ≠ m) (ham : a ≠ m)
  (ho : ∀ (j : Nat) v, [Value.slice (some ⟨a, 0, none⟩) 3 3, Value.slice (some ⟨m, 0, none⟩) k k][j]? = some v → w.cell? ⟨o, 0 + j, none⟩ = some v)
  (ha : ∀ (j : Nat) v, vs[j]? = some v → w.cell? ⟨a, 0 + j, none⟩ = some v)
  (hm : ∀ (j : Nat) v, us[j]? = some v → w.cell? ⟨m, 0 + j, none⟩ = some v) :
  Calls Tryz.prog 171 #[.slice (some ⟨o, 0, none⟩) 2 2] w fun e w' => ∃ (b off cp : Nat), e = .returned (.slice (some ⟨b, off, none⟩) (3 + k) cp) ∧ Below w.heap.size w w' ∧
   ∀ (j : Nat) v, (vs ++ us)[j]? = some v → w'.cell? ⟨b, off + j, none⟩ = some v := by
 obtain ⟨oa, oe, of, o1, o2, o3⟩ := zfB ho (by simp)
 obtain ⟨aa, ae, af, q1, q2, q3⟩ := zfB ha (by intro e; rw [e] at hv3; cases hv3)
 obtain ⟨ma, me, mf, m1, m2, m3⟩ := zfB hm hk0
 rw [hv3] at q2
 rw [hk] at m2
 have ol := (Array.getElem?_eq_some_iff.1 o1).1
 have al := (Array.getElem?_eq_some_iff.1 q1).1
 have ml := (Array.getElem?_eq_some_iff.1 m1).1
 generalize hσ : (fun b => match b with | 0 => some ⟨0, 0, 0, 0, 0⟩ | 1 => some ⟨1, 0, 0, 0, 0⟩ | 2 => some ⟨o, 0, 0, 1, 2⟩ | 3 => some ⟨a, 0, 0, 1, 3⟩ | 4 => some ⟨m, 0, 0, 1, k⟩ | _ => none : Sg) = σ
 have hg : ∀ b ob, qz (hpC k vs us) b = some ob →
   (b = 2 ∧ ob = .cells (.l [.asl 3 0 3 3, .asl 4 0 k k]) true) ∨ (b = 3 ∧ ob = .cells (.l (vs.map .lit)) true) ∨ (b = 4 ∧ ob = .cells (.l (us.map .lit)) true) := fun b ob h => by
  unfold hpC at h
  rw [qa _ _ (by decide)] at h
  split at h
  ·rename_i e; exact .inr (.inr ⟨e, (nQs h).symm⟩)
  ·rw [qa _ _ (by decide)] at h
   split at h
   ·rename_i e; exact .inr (.inl ⟨e, (nQs h).symm⟩)
   ·rw [qa _ _ (by decide)] at h
    split at h
    ·rename_i e; exact .inl ⟨e, (nQs h).symm⟩
    ·rw [zfa] at h; cases h
 have hw : RelW ⟨fun k => w.heap.size ≤ k, fun _ => none, fun f => ∃ fn, Tryz.prog.funcs[f]? = some fn⟩ σ (hpC k vs us) 5 w := by
  subst hσ
  refine ⟨?_, ?_, ?_, ?_, ?_, fun k hk => hk, ?_, fun b o h1 => by cases h1⟩
  ·intro b ob e h1 h2
   rcases hg b ob h1 with ⟨rfl, rfl⟩ | ⟨rfl, rfl⟩ | ⟨rfl, rfl⟩
   ·cases h2
    refine ⟨oa, oe, of, o1, ⟨fun e => (by cases e), zfZ _ _, fun h => (by cases h)⟩, by simpa using o2, fun i v hv => ?_⟩
    match i, hv with
    | 0, hv => cases hv; exact ⟨(show (0 : Nat) < 2 by decide), _, rfl, o3 0 _ rfl⟩
    | 1, hv => cases hv; exact ⟨(show (1 : Nat) < 2 by decide), _, rfl, o3 1 _ rfl⟩
    | i + 2, hv => cases hv
   ·cases h2
    refine ⟨aa, ae, af, q1, ⟨fun e => (by cases e), zfZ _ _, fun h => (by cases h)⟩, by simpa using q2, fun i v hv => ?_⟩
    obtain ⟨u, hu, rfl⟩ := zlk hv
    exact ⟨by have := (List.getElem?_eq_some_iff.1 hu).1; show i < 3; omega, u, rfl, q3 i u hu⟩
   ·cases h2
    refine ⟨ma, me, mf, m1, ⟨fun e => (by cases e), zfZ _ _, fun h => (by cases h)⟩, by simpa using m2, fun i v hv => ?_⟩
    obtain ⟨u, hu, rfl⟩ := zlk hv
    exact ⟨by have := (List.getElem?_eq_some_iff.1 hu).1; show i < k; omega, u, rfl, m3 i u hu⟩
  ·intro b b' ob ob' e e' h1 h2 _ _ s1 s2 hbl
   rcases hg b ob h1 with ⟨rfl, _⟩ | ⟨rfl, _⟩ | ⟨rfl, _⟩ <;> rcases hg b' ob' h2 with ⟨rfl, _⟩ | ⟨rfl, _⟩ | ⟨rfl, _⟩ <;> cases s1 <;> cases s2 <;> first | rfl | exact absurd hbl hoa | exact absurd hbl hom | exact absurd hbl ham | exact absurd hbl.symm hoa | exact absurd hbl.symm hom | exact absurd hbl.symm ham
  ·intro b ob e h1 hm
   rcases hg b ob h1 with ⟨_, rfl⟩ | ⟨_, rfl⟩ | ⟨_, rfl⟩ <;> cases hm
  ·intro b hb
   match b, hb with
   | 0, hb => exact absurd hb (by decide)
   | 1, hb => exact absurd hb (by decide)
   | 2, hb => exact absurd hb (by decide)
   | 3, hb => exact absurd hb (by decide)
   | 4, hb => exact absurd hb (by decide)
   | b + 5, _ => rfl
  ·intro b e h1
   match b, h1 with
   | 0, h1 => cases h1; show 0 < _; omega
   | 1, h1 => cases h1; show 1 < _; omega
   | 2, h1 => cases h1; exact ol
   | 3, h1 => cases h1; exact al
   | 4, h1 => cases h1; exact ml
   | b + 5, h1 => cases h1
  ·intro g hg'
   have hg' : g < 2 := hg'
   match g, hg' with
   | 0, _ => exact ⟨_, rfl, rfl, rfl⟩
   | 1, _ => exact ⟨_, rfl, rfl, rfl⟩
   | g + 2, h => omega
 have hx : zA σ [.asl 2 0 2 2] = some [.slice (some ⟨o, 0, none⟩) 2 2] := by subst hσ; rfl
 generalize hout : outC k vs us = out at hb
 unfold getC at hb
 split at hb
 ·rename_i r mm
  split at hb
  ·rename_i v hv
   simp only [Option.some.injEq, Prod.mk.injEq] at hb
   obtain ⟨rfl, hb⟩ := hb
   have he : evM Tryz.prog [] 100 171 [.asl 2 0 2 2] (hpC k vs us) 5 = .ok .ret r mm := hout
   have hc := zfk (zon Tryz.prog) 100 _ (fun f => Iff.rfl) σ w 171 [.asl 2 0 2 2] _ _ _ hw hx (by rw [he]; simp)
   rw [he] at hc
   have hc' : Calls Tryz.prog 171 #[.slice (some ⟨o, 0, none⟩) 2 2] w (xg ⟨fun k => w.heap.size ≤ k, fun _ => none, fun f => ∃ fn, Tryz.prog.funcs[f]? = some fn⟩ σ w (.ok .ret r mm)) := fun cs => by
    obtain ⟨e, w', fr, r1, s, x⟩ := hc.2 cs (fun d hd => by simp [FV] at hd)
    exact ⟨e, w', fr, r1, s.comes, x⟩
   refine hc'.mono fun e w' hp => ?_
   obtain ⟨σ', v', c, _, k2, k3, rfl, k4, k5⟩ := hp
   rw [hv] at k2
   cases k2
   obtain ⟨ee, e1, e2, rfl⟩ := vu k3 (.inl (by omega))
   obtain ⟨arr, el, fz, r1, r2, r3⟩ := k4.obj 5 _ ee hb e1
   refine ⟨_, _, _, rfl, ⟨k5.os, k5.tape, k5.output, k5.size, fun k hk => k5.block k (fun h6 => by have h6 : w.heap.size ≤ k := h6; omega)⟩, fun j v hj => ?_⟩
   have hcg : xW (.l ((vs ++ us).map .lit)) j = some (.lit v) := by
    show nth _ j = _
    rw [nth_eq, List.getElem?_map, hj]
    rfl
   obtain ⟨_, cv, s1, s2⟩ := r3.2 j _ hcg
   cases s1
   have : arr[0 + ee.dl + j]? = some v := by rw [show 0 + ee.dl + j = j + ee.dl by omega]; exact s2
   unfold World.cell?
   rw [r1]
   simpa using this
  ·cases hb
 ·cases hb
end Go.Proofs.YtihedfkcccaonaaGreatDoor.Ev
namespace Go.Proofs.YtihedfkcccaonaaGreatDoor
open Go.RowKit
set_option maxRecDepth 20000
theorem vW : qx Tryz.prog 106 0 = some 0 := by kernel_rfl
theorem zfh : qx Tryz.prog 106 10 = some 60 := by kernel_rfl
theorem zpm : qx Tryz.prog 106 11 = some 61 := by kernel_rfl
theorem gd49_8 : qx Tryz.prog 49 8 = some 50 := by kernel_rfl
theorem jJ : naB Tryz.prog 50 = true := by kernel_rfl
theorem gd49_6 : qx Tryz.prog 49 6 = some 34 := by kernel_rfl
theorem zef : qx Tryz.prog 106 2 = some 52 := by kernel_rfl
theorem zee : qx Tryz.prog 106 3 = some 53 := by kernel_rfl
theorem zrm : naB Tryz.prog 3 = true := by kernel_rfl
theorem zzC : naB Tryz.prog 4 = true := by kernel_rfl
theorem ztq : naB Tryz.prog 104 = true := by kernel_rfl
theorem zxs : naB Tryz.prog 146 = true := by kernel_rfl
theorem ztr : naB Tryz.prog 53 = true := by kernel_rfl
theorem zxr : naB Tryz.prog 99 = true := by kernel_rfl
theorem zxa : ∃ e sz by', slB Tryz.prog 104 = some (e, sz, by') := by
 have h : (slB Tryz.prog 104).isSome = true := by kernel_rfl
 obtain ⟨⟨e, sz, b⟩, h⟩ := Option.isSome_iff_exists.1 h
 exact ⟨e, sz, b, h⟩
theorem qk {w w' : World} (h : Below w.heap.size w w') {a : Addr} {v : Value} (hc : w.cell? a = some v) : w'.cell? a = some v := by
 unfold World.cell? at hc ⊢
 cases ho : w.heap[a.block]? with
 | none => rw [ho] at hc; cases hc
 | some o => rw [ho] at hc; rw [h.block _ (Array.getElem?_eq_some_iff.1 ho).1, ho]; exact hc
theorem zqb : zJ Tryz.prog 35 = true := by kernel_rfl
theorem zi7 : zJ Tryz.prog 168 = true := by kernel_rfl
theorem zyl : zJ Tryz.prog 171 = true := by kernel_rfl
theorem zyq : zJ Tryz.prog 167 = true := by kernel_rfl
theorem zyp : zJ Tryz.prog 169 = true := by kernel_rfl
theorem zyo : zJ Tryz.prog 170 = true := by kernel_rfl
theorem ztM : zJ Tryz.prog 172 = true := by kernel_rfl
theorem ztL : zJ Tryz.prog 173 = true := by kernel_rfl
structure CoW (w : World) (b : Nat) (a : Value) : Prop where
 ac : w.cell? ⟨b, 60, none⟩ = some a
 op : w.cell? ⟨b, 61, none⟩ = some (.bool true)
theorem CoW.below {w w' : World} {b : Nat} {a : Value} (h : CoW w b a) (hb : Below w.heap.size w w') : CoW w' b a := ⟨qk hb h.ac, qk hb h.op⟩
section
variable {P : Program} {F : Fr} {w : World} {od : Option Nat} {ty t u e : TypeId} {pos : String} {af : Array Edge} {gd : Option (Nat × Bool)} {X Y I : Operand} {a : Addr}
theorem rn_eqlSNc (hT : P.underlying t = some (.pointer e)) (hx : ev F X = .pointer (some a)) (hy : ev F Y = .pointer none) : (execOp (ev F) ⟨od, .binOp .eql t X Y u, ty, pos, af, gd⟩).run P w = .ok (.value (.bool false)) w := by
 have h : ∀ d : Nat, (Op.equalIn (d + 1) t (.pointer (some a)) (.pointer none)).run P w = .ok false w := fun d => by simp [Op.equalIn, run_underlying hT]
 simp [execOp, hx, hy, eqGuard, binOp, Op.equal, Op.maxDepth, h 9999]
theorem zq4 {T e sz by' b o n cp j : Nat} {k : IntKind} (hT : slB P T = some (e, sz, by')) (hx : ev F X = .slice (some ⟨b, o, none⟩) n cp) (hi : ev F I = .int k (j : Int)) (hj : j < n) :
  (execOp (ev F) ⟨od, .indexAddr T X I, ty, pos, af, gd⟩).run P w = .ok (.value (.pointer (some ⟨b, o + j * sz, none⟩))) w := by
 obtain ⟨h1, i, z, h2, h3, h4, h5, h6, h7⟩ := kG hT
 have hs : (sizeOf e).run P w = .ok sz w := by simp [sizeOf, typeInfo, h2, h4]
 simp [execOp, hx, hi, Instr.indexAt, asIntOf, run_underlying h1, hs, hj, Addr.add]
end
theorem zkq {w0 : World} {b : Nat} {a : Value} (h : CoW w0 b a) : Calls Tryz.prog 35 #[pV b] w0 (qW w0 (.bool false)) := by
 refine qb (N := 12) (yd _ _) Tryz.func35 rfl rfl rfl rfl (zd (zb (za (zf (v := .bool false) rfl) rfl (ze (zd (zb (za (zc (v := pV b) rfl) rfl (za (rn_eqlSNc Tryz.underlying50 rfl rfl) rfl (za (zc (v := .bool false) rfl) rfl ?_)))))))))
 refine zl rfl rfl rfl rfl (za (zc (v := pV b) rfl) rfl ?_)
 refine zl rfl rfl rfl rfl (za (v := pV b) (by kernel_rfl) rfl ?_)
 refine zl rfl rfl rfl rfl (za (zk zpm rfl) rfl ?_)
 refine zl rfl rfl rfl rfl (za (zo zzC rfl h.op) rfl ?_)
 refine zl rfl rfl rfl rfl (za (qE rfl) rfl ?_)
 refine za (xc (v := .bool false) rfl rfl rfl) rfl (za (zf (v := .bool false) rfl) rfl (ze (zF ?_)))
 exact ⟨rfl, Below.refl _ _⟩
theorem zaQ (is : Bool) (x : Int) (w0 : World) : Calls Tryz.prog 168 #[.bool is, iV x] w0 (qW w0 (iV (cond is 0 x))) := by
 refine qb (N := 7) (yd _ _) Tryz.func168 rfl rfl rfl rfl (zd (zb (za (zf (v := iV 0) rfl) rfl (ze (zd (zd (zb (za (zc (v := .bool is) rfl) rfl (ze (zV rfl (fun hb => ?_) (fun hb => ?_)))))))))))
 ·subst hb
  refine zd (zb (za (zf (v := iV 0) rfl) rfl (ze (zF ?_))))
  exact ⟨rfl, Below.refl _ _⟩
 ·subst hb
  refine zq (zd (zb (wr 2 rfl (ze (zF ?_)))))
  exact ⟨rfl, Below.refl _ _⟩
theorem zss {w0 : World} {b c : Nat} {a : Value} (h : CoW w0 b a) (hc : w0.cell? ⟨c, 0, none⟩ = some (pV b)) : Calls Tryz.prog 167 #[pV c] w0 (qW w0 (iV 0)) := by
 refine qb (N := 6) (yd _ _) Tryz.func167 rfl rfl rfl rfl (zd (zb (za (zf (v := iV 0) rfl) rfl (ze (zd (zb (za (zo jJ rfl hc) rfl ?_)))))))
 refine zm rfl (zy zqb (zkq h) rfl rfl fun w1 h1 => ?_)
 refine za (qE rfl) rfl (zm rfl (zy zi7 (zaQ true 1 w1) rfl rfl fun w2 h2 => ?_))
 refine za (zf (v := iV 0) rfl) rfl (ze (zF ?_))
 exact ⟨rfl, h1.trans (h2.mono h1.size)⟩
theorem zsr {w0 : World} {b c : Nat} {ad : Option Addr} {n cp : Nat} (h : CoW w0 b (.slice ad n cp)) (hc : w0.cell? ⟨c, 0, none⟩ = some (pV b)) : Calls Tryz.prog 170 #[pV c] w0 (qW w0 (iV (cond (decide ((n : Int) < 100)) 0 6))) := by
 obtain ⟨e', sz, by', hs⟩ := zxa
 refine qb (N := 9) (yd _ _) Tryz.func170 rfl rfl rfl rfl (zd (zb (za (zf (v := iV 0) rfl) rfl (ze (zd (zb (za (zo jJ rfl hc) rfl (za (v := pV b) (by kernel_rfl) rfl (za (zk zfh rfl) rfl (za (zo ztq rfl h.ac) rfl (za (ji hs rfl rfl rfl) rfl (za (zN rfl rfl) rfl ?_))))))))))))
 refine zm rfl (zy zi7 (zaQ _ 6 w0) rfl rfl fun w2 h2 => ?_)
 refine za (zf (v := iV (cond (decide ((n : Int) < 100)) 0 6)) rfl) rfl (ze (zF ?_))
 exact ⟨rfl, h2⟩
theorem zuh : ∃ e by', slB Tryz.prog 267 = some (e, 1, by') := by
 have h : (match slB Tryz.prog 267 with | some (_, s, _) => s == 1 | none => false) = true := by kernel_rfl
 revert h
 cases slB Tryz.prog 267 with
 | none => intro h; cases h
 | some q =>
  obtain ⟨e, s, b⟩ := q
  intro h
  have : s = 1 := by simpa using h
  subst this
  exact ⟨e, b, rfl⟩
theorem zpG {w0 : World} {c k : Nat} {ca : List Value} {is : Bool} (hc : w0.cell? ⟨c, 0, none⟩ = some (.func (.func k) #[] ca.toArray)) (hk : zJ Tryz.prog k = true) (h : Calls Tryz.prog k ca.toArray w0 (qW w0 (.bool is))) :
  Calls Tryz.prog 169 #[pV c] w0 (qW w0 (iV (cond is 0 2))) := by
 refine qb (N := 5) (yd _ _) Tryz.func169 rfl rfl rfl rfl (zd (zb (za (zf (v := iV 0) rfl) rfl (ze (zd (zb (za (zo ztr rfl hc) rfl ?_)))))))
 refine zm rfl (ym (fi := []) (al := []) (ca := ca) hk h rfl rfl rfl fun w1 h1 => ?_)
 refine zm rfl (zy zi7 (zaQ is 2 w1) rfl rfl fun w2 h2 => ?_)
 refine za (zf (v := iV (cond is 0 2)) rfl) rfl (ze (zF ?_))
 exact ⟨rfl, h1.trans (h2.mono h1.size)⟩
theorem ziT {w0 : World} {c k : Nat} {ca : List Value} {is : Bool} (hc : w0.cell? ⟨c, 0, none⟩ = some (.func (.func k) #[] ca.toArray)) (hk : zJ Tryz.prog k = true) (h : Calls Tryz.prog k ca.toArray w0 (qW w0 (.bool is))) :
  Calls Tryz.prog 172 #[pV c] w0 (qW w0 (iV (cond is 0 6))) := by
 refine qb (N := 5) (yd _ _) Tryz.func172 rfl rfl rfl rfl (zd (zb (za (zf (v := iV 0) rfl) rfl (ze (zd (zb (za (zo ztr rfl hc) rfl ?_)))))))
 refine zm rfl (ym (fi := []) (al := []) (ca := ca) hk h rfl rfl rfl fun w1 h1 => ?_)
 refine zm rfl (zy zi7 (zaQ is 6 w1) rfl rfl fun w2 h2 => ?_)
 refine za (zf (v := iV (cond is 0 6)) rfl) rfl (ze (zF ?_))
 exact ⟨rfl, h1.trans (h2.mono h1.size)⟩
theorem zpr {G0 : Gm} {w0 : World} (hS0 : Sat G0 w0) {f : Fn} {a b : Array Value} : Calls Tryz.prog 85 #[.func f a b] w0 (yL G0 w0 (fun G r => ∃ c, r = .func (.func 172) #[] #[pV c] ∧ Cells G c 0 [.func f a b])) := by
 have hS := Since.start hS0
 refine qb (N := 4) (xZ _ _ _) Tryz.func85 rfl rfl rfl rfl (zd (zb ?_))
 refine zm rfl (zP (v := fun b => pV b) (cs := [.func f a b]) (e := 53) (by kernel_rfl) hS.sat rfl fun c G1 w1 hg hc => ?_)
 have hS := hS.grow hg
 refine za (zf (v := .nilFunc) rfl) rfl (ze (zd (zb (za (yu (vs := []) (us := [pV c]) rfl rfl) rfl (za (zf (v := .func (.func 172) #[] #[pV c]) rfl) rfl (ze (zF ?_)))))))
 exact ⟨_, _, rfl, hS.toGrow, _, rfl, hc⟩
theorem zpq {G0 : Gm} {w0 : World} (hS0 : Sat G0 w0) {b : Nat} {f : Fn} {x y : Array Value} : Calls Tryz.prog 87 #[pV b, .func f x y] w0 (yL G0 w0 (fun G r => ∃ c d, r = .func (.func 173) #[] #[pV d, pV c] ∧ Cells G c 0 [pV b] ∧ Cells G d 0 [.func f x y])) := by
 have hS := Since.start hS0
 refine qb (N := 6) (xZ _ _ _) Tryz.func87 rfl rfl rfl rfl (zd (zb ?_))
 refine zm rfl (zP (v := fun b => pV b) (cs := [pV b]) (e := 50) (by kernel_rfl) hS.sat rfl fun c G1 w1 hg hc => ?_)
 have hS := hS.grow hg
 refine zm rfl (zP (v := fun b => pV b) (cs := [.func f x y]) (e := 146) (by kernel_rfl) hS.sat rfl fun d G2 w2 hg2 hd => ?_)
 have hS := hS.grow hg2
 refine za (zf (v := .nilFunc) rfl) rfl (ze (zd (zb (za (yu (vs := []) (us := [pV d, pV c]) rfl rfl) rfl (za (zf (v := .func (.func 173) #[] #[pV d, pV c]) rfl) rfl (ze (zF ?_)))))))
 exact ⟨_, _, rfl, hS.toGrow, _, _, rfl, hc.mono hg2.le, hd⟩
theorem ztX : zJ Tryz.prog 85 = true := by kernel_rfl
theorem zyv : zJ Tryz.prog 34 = true := by kernel_rfl
theorem ztV : zJ Tryz.prog 87 = true := by kernel_rfl
theorem ztU : zJ Tryz.prog 88 = true := by kernel_rfl
theorem zzk : szB Tryz.prog 3 = some 1 := by kernel_rfl
abbrev rowC (b : Nat) (cc : List Value) : Row := ⟨106, 62, 1, .slice (some ⟨b, 0, none⟩) 1 1, cc⟩
abbrev rowA (n : Nat) (v : Value) (ac : List Value) : Row := ⟨266, 1, n, v, ac⟩
section
variable {w0 : World} {b c d : Nat} {n : Int} {G0 : Gm}
theorem zlT {k : Nat} {ca : List Value} {x mo : Int} (hd : w0.cell? ⟨d, 0, none⟩ = some (.func (.func k) #[] ca.toArray)) (hc : w0.cell? ⟨c, 0, none⟩ = some (pV b)) (h50 : w0.cell? ⟨b, 50, none⟩ = some (iV mo)) (hk : zJ Tryz.prog k = true) (h : ∀ w, Below w0.heap.size w0 w → Calls Tryz.prog k ca.toArray w (qW w (iV x))) (hx : x ≤ mo) :
  Calls Tryz.prog 173 #[pV d, pV c] w0 (qW w0 (iV 0)) := by
 refine qb (N := 12) (yd _ _) Tryz.func173 rfl rfl rfl rfl (zd (zb (za (zf (v := iV 0) rfl) rfl (ze (zd ?_)))))
 refine zM qw (fun _ w => w.cell? ⟨c, 0, none⟩ = some (pV b) ∧ w.cell? ⟨d, 0, none⟩ = some (.func (.func k) #[] ca.toArray) ∧ w.cell? ⟨b, 50, none⟩ = some (iV mo)) (.fl 0 (.fl 2 (.fl 3 (.fl 4 (.fl 5 (.fl 6 (.on 1 (.on 7 (.on 8 (.on 9 .nil)))))))))) (by kernel_rfl) rfl (by kernel_rfl) (fun _ => ⟨qk (zj _) hc, qk (zj _) hd, qk (zj _) h50⟩) ?_
 refine zh rfl (fun w hw => zo zxs rfl hw.2.1) rfl (zh rfl (fun w hw => zo jJ rfl hw.1) rfl (zh (v := pV b) rfl (fun w hw => by kernel_rfl) rfl (zh rfl (fun w hw => zk vW rfl) rfl (zh rfl (fun w hw => zk gd49_8 rfl) rfl (zh rfl (fun w hw => zo zrm rfl hw.2.2) rfl ?_)))))
 refine zD rfl rfl (ym (fi := []) (al := []) (ca := ca) hk (h _ (zj w0)) rfl rfl rfl fun w1 h1 => ⟨fun _ _ => ⟨qk h1 (qk (zj _) hc), qk h1 (qk (zj _) hd), qk h1 (qk (zj _) h50)⟩, ?_⟩)
 refine zD rfl rfl (zY (yW rfl rfl) rfl ⟨fun _ h => zR (by kernel_rfl) h, ?_⟩)
 rw [show decide (x ≤ mo) = true by simpa using hx]
 refine zD rfl rfl (zy zi7 (zaQ true 7 w1) rfl rfl fun w2 h2 => ⟨fun _ h => zR (by kernel_rfl) h, ?_⟩)
 refine zD rfl rfl (zY (zf (v := iV 0) rfl) rfl ⟨fun _ h => zR (by kernel_rfl) h, qp (zF ?_)⟩)
 exact ⟨rfl, ((zj w0).trans h1).trans (h2.mono ((zj w0).trans h1).size)⟩
theorem zv5 {mo : Int} {a : Value} (h : CoW w0 b a) (h50 : w0.cell? ⟨b, 50, none⟩ = some (iV mo)) : Calls Tryz.prog 34 #[pV b] w0 (qW w0 (.tuple #[iV mo, iV 0])) := by
 refine zww (N := 11) (yd _ _) Tryz.func34 rfl rfl rfl rfl (zd (zb (za (zf (v := iV 0) rfl) rfl (za (zf (v := iV 0) rfl) rfl (ze (zd (zd (zb (za (zc (v := pV b) rfl) rfl ?_)))))))))
 refine zm rfl (zy zqb (zkq h) rfl rfl fun w1 hb => ?_)
 refine ze (zV rfl (fun h => by cases h) (fun _ => zq (zd (zb (za (zc (v := pV b) rfl) rfl (za (v := pV b) (by kernel_rfl) rfl (za (zk vW rfl) rfl (za (zk gd49_8 rfl) rfl (za (zo zrm rfl (qk hb h50)) rfl (za (zf (v := iV mo) rfl) rfl (za (zf (v := iV 0) rfl) rfl (ze (zF ?_)))))))))))))
 exact ⟨rfl, hb⟩
end
section
variable {B : Nat} {G0 : Gm} {w0 : World} {Gc : Gm} {wc : World} {b n : Nat} {cc : List Value} {mo mo' : Int}
theorem zpp {L : List Row} (hS : Since B G0 w0 Gc wc) (hO : Owns Gc wc B (rowC b cc :: L)) (hl : cc.length = 62) (h50 : cc[50]? = some (iV mo)) {x : Int} (hw : IntKind.i64.wrap (mo - x) = mo') :
  Calls Tryz.prog 88 [pV b, iV x].toArray wc (jP B G0 w0 Gc wc (fun G' L' _ => G' = Gc ∧ L' = rowC b (qD cc 50 [iV mo']) :: L)) := by
 refine yP (N := 14) (rs := []) hO.base Tryz.func88 rfl rfl rfl rfl (zb (za (zc (v := pV b) rfl) rfl (za (v := pV b) (by kernel_rfl) rfl (za (zk vW rfl) rfl (za (zk gd49_8 rfl) rfl (za (zo zrm rfl (zr hO (k := 0) rfl h50)) rfl (za (zc (v := iV x) rfl) rfl (za (vd rfl rfl) rfl (za (v := pV b) (by kernel_rfl) rfl (za (zk vW rfl) rfl (za (zk gd49_8 rfl) rfl ?_)))))))))))
 rw [hw]
 refine zm rfl (zG (vs := [iV mo']) zzk hS hO (k := 0) rfl rfl rfl rfl rfl (zU rfl) (by simp [hl]) fun w1 hS hO => ?_)
 exact ze ⟨[], trivial, Gc, _, Gle.refl _, hS, hO, rfl, rfl⟩
end
theorem f10_ok {G0 : Gm} {w0 : World} (hS0 : Sat G0 w0) {b : Nat} {mo x y : Int} {a : Value} {cA : List Value} (h : CoW w0 b a) (h50 : w0.cell? ⟨b, 50, none⟩ = some (iV mo)) (hA : cA[50]? = some (iV x)) (hw : IntKind.i64.wrap (x - y) = mo) :
  Calls Tryz.prog 10 #[pV b, .agg cA.toArray, iV y] w0 (qW w0 (.bool true)) := by
 have hS := Since.start hS0
 refine qb (N := 24) (yd _ _) Tryz.func10 rfl rfl rfl rfl (zd (zb ?_))
 refine zm rfl (zP (v := fun b => pV b) (cs := cA) (e := 49) (qu rfl) hS.sat rfl fun b1 G1 w1 hg1 hc1 => ?_)
 have hS := hS.grow hg1
 refine za (zf (v := .bool false) rfl) rfl (ze (zd (zb (wr 1 rfl ?_))))
 refine zm rfl (zy zyv (zv5 (h.below hS.below) (qk hS.below h50)) rfl rfl fun w2 hb => ?_)
 have hS := hS.keep hb
 refine za (zc (v := .tuple #[iV mo, iV 0]) rfl) rfl (za (zL rfl rfl) rfl (za (zL rfl rfl) rfl (za (zf (v := iV mo) rfl) rfl (za (zf (v := iV 0) rfl) rfl (ze (zd (zb ?_)))))))
 refine wr 1 rfl (za (xu rfl rfl) rfl (za (zc (v := .bool true) rfl) rfl ?_))
 refine zl rfl rfl rfl rfl (za (zc (v := iV mo) rfl) rfl ?_)
 refine zl rfl rfl rfl rfl (za (zk gd49_8 rfl) rfl ?_)
 refine zl rfl rfl rfl rfl (za (zo zrm rfl (hS.sat.cell (hc1 50 _ hA))) rfl ?_)
 refine zl rfl rfl rfl rfl (za (zc (v := iV y) rfl) rfl ?_)
 refine zl rfl rfl rfl rfl (za (vd rfl rfl) rfl ?_)
 rw [hw]
 refine zl rfl rfl rfl rfl (za (xu rfl rfl) rfl ?_)
 refine za (yy (v := .bool (mo == mo)) rfl rfl rfl) rfl (za (zf (v := .bool (mo == mo)) rfl) rfl (ze (zF ?_)))
 exact ⟨by rw [show (mo == mo) = true by simp]; rfl, hS.below⟩
theorem zw9 : slB Tryz.prog 104 = some (266, 1, 16) := by kernel_rfl
theorem zw7 : szB Tryz.prog 104 = some 1 := by kernel_rfl
theorem zud : szB Tryz.prog 269 = some 3 := by kernel_rfl
def zhU : Gm → List Value → Value → Prop := fun _ cs x => cs = [x] ∧ x.oneCell' = true
theorem kC : zam zhU := fun _ _ _ _ _ h => h
theorem zqJ : One zhU := fun _ _ _ h u hu => by obtain ⟨rfl, h⟩ := h; simp at hu; subst hu; exact h
abbrev fP (p : Nat × List Value) : Value := .func (.func p.1) #[] p.2.toArray
set_option maxHeartbeats 1000000 in
theorem zpt {B : Nat} {G0 : Gm} {w0 : World} {Gc : Gm} {wc : World} {Lq : List Row} {b n bm : Nat} {cc ac : List Value} {ta : TypeId} {xa : Value} {xs : List Value} {ad : Option Addr} {cp0 : Nat} {kr : Nat} {cr : List Value} {ms : List (Nat × List Value)} {mn : Nat}
    (hS : Since B G0 w0 Gc wc) (hO : Owns Gc wc B (rowC b cc :: rowA n (.slice ad n cp0) ac :: Lq)) (h2 : 2 ≤ B) (hmn : ms.length = mn) (hm2 : mn ≤ 2) (hk1 : ∀ p, ms[0]? = some p → p.1 ≠ 167) (hm : Cells Gc bm 0 (ms.map fP)) (hm0 : ms ≠ [])
    (hcat : ∀ v1 v2 v3 : Nat × List Value, Ev.getC (Ev.outC mn [fP v1, fP v2, fP v3] (ms.map fP)) = some (.slc 5 0 (3 + mn) (3 + mn) 1, some (.cells (.l (([fP v1, fP v2, fP v3] ++ ms.map fP).map .lit)) false)))
    (hr : zJ Tryz.prog kr = true ∧ ∀ G w, Gle Gc G → Since B G0 w0 G w → Owns G w B (rowC b cc :: rowA n (.slice ad n cp0) ac :: Lq) → Calls Tryz.prog kr cr.toArray w (qW w (.bool true)))
    (h61 : cc[61]? = some (.bool true)) (hn : n < 100) (hxs : n = xs.length) (hrd : Rd zhU 1 Gc ac xs) (h60 : cc[60]? = some (.slice ad n cp0)) (hcl62 : cc.length = 62)
    (hd : ∀ p ∈ ms, zJ Tryz.prog p.1 = true ∧ ∀ G w, Gle Gc G → Since B G0 w0 G w → Owns G w B (rowC b cc :: rowA n (.slice ad n cp0) ac :: Lq) → Calls Tryz.prog p.1 p.2.toArray w (qW w (iV 0))) :
    Calls Tryz.prog 83 [pV b, .iface ta xa, .func (.func kr) #[] cr.toArray, .slice (some ⟨bm, 0, none⟩) mn mn].toArray wc (jP B G0 w0 Gc wc (fun G' L' v => v = iV 0 ∧ ∃ ad' cp' ac', L' = rowC b (qD cc 60 [.slice ad' (n + 1) cp']) :: rowA (n + 1) (.slice ad' (n + 1) cp') ac' :: Lq ∧ Rd zhU 1 G' ac' (xs ++ [.iface ta xa]))) := by
  refine yP (N := 42) (rs := [.tmp 8]) hO.base Tryz.func83 rfl rfl rfl rfl (zd (zb ?_))
  refine zm rfl (zP (v := fun b => pV b) (cs := [pV b]) (e := 50) (by kernel_rfl) hS.sat rfl fun b4 G1 w1 hg hc4 => ?_)
  have hS := hS.grow hg
  have hO := hO.grow hg
  refine zm rfl (zP (v := fun b => pV b) (cs := [.func (.func kr) #[] cr.toArray]) (e := 53) (by kernel_rfl) hS.sat rfl fun b6 G2 w2 hg2 hc6 => ?_)
  have hS := hS.grow hg2
  have hO := hO.grow hg2
  refine za (zf (v := iV 0) rfl) rfl (ze (zd (zb ?_)))
  refine za (yu (vs := []) (us := [pV b4]) rfl rfl) rfl (za (yu (vs := []) (us := [pV b6]) rfl rfl) rfl (za (yu (vs := []) (us := [pV b4]) rfl rfl) rfl ?_))
  refine za (v := .agg #[fP (167, [pV b4]), fP (169, [pV b6]), fP (170, [pV b4])]) (by kernel_rfl) rfl ?_
  refine zm rfl (z7 (v := fun b => pV b) (cs := [.nilFunc, .nilFunc, .nilFunc]) (e := 269) (by kernel_rfl) hS.sat hO rfl 3 1 rfl (by decide) fun b9 w3 hb hO => ?_)
  have hS := hS.keep hb
  refine zm rfl (zG (vs := [fP (167, [pV b4]), fP (169, [pV b6]), fP (170, [pV b4])]) zud hS hO (k := 0) rfl rfl rfl rfl rfl (zU rfl) (nQl rfl) fun w4 hS hO => ?_)
  obtain ⟨G3, le3, hS, hO, hq, _⟩ := hO.freeze hS (k := 0) rfl
  have hc9 : Cells G3 b9 0 [fP (167, [pV b4]), fP (169, [pV b6]), fP (170, [pV b4])] := hq _ _ _ _ rfl
  have hO : Owns G3 w4 B (rowC b cc :: rowA n (.slice ad n cp0) ac :: Lq) := hO
  refine ze (zd (zd (zb (za (v := .slice (some ⟨b9, 0, none⟩) 3 3) (by kernel_rfl) rfl (za (zc (v := .slice (some ⟨bm, 0, none⟩) mn mn) rfl) rfl ?_)))))
  refine zm rfl (zP (v := fun b => .slice (some ⟨b, 0, none⟩) 2 2) (cs := [.slice (some ⟨b9, 0, none⟩) 3 3, .slice (some ⟨bm, 0, none⟩) mn mn]) (e := 267) (by kernel_rfl) hS.sat rfl fun bo G4 w5 hg4 hcb => ?_)
  have hS := hS.grow hg4
  have hO := hO.grow hg4
  have le4 : Gle Gc G4 := ((hg.le.trans hg2.le).trans le3).trans hg4.le
  have hc9 := hc9.mono hg4.le
  have hm4 := hm.mono le4
  have hc4 := hc4.mono ((hg2.le.trans le3).trans hg4.le)
  have hc6 := hc6.mono (le3.trans hg4.le)
  obtain ⟨p0, hp0⟩ : ∃ p, ms[0]? = some p := by
    cases ms with
    | nil => exact absurd rfl hm0
    | cons p l => exact ⟨p, rfl⟩
  have hm40 := hm4 0 (fP p0) (by rw [List.getElem?_map, hp0]; rfl)
  have n1 : bo ≠ b9 := fun e => by subst e; have h1 := hcb 0 _ rfl; have h2 := hc9 0 _ rfl; rw [h1] at h2; cases h2
  have n2 : bo ≠ bm := fun e => by subst e; have h1 := hcb 0 _ rfl; have h2 := hm40; rw [h1] at h2; cases h2
  have n3 : b9 ≠ bm := fun e => by
    subst e
    have h1 := hc9 0 _ rfl
    have h2 := hm40
    rw [h1] at h2
    simp only [Option.some.injEq, Value.func.injEq, Fn.func.injEq] at h2
    exact hk1 p0 hp0 h2.1.symm
  refine zm rfl (jd (zcj (al := [.slice (some ⟨bo, 0, none⟩) 2 2]) zyl rfl) rfl (Ev.f171_gen [fP (167, [pV b4]), fP (169, [pV b6]), fP (170, [pV b4])] (ms.map fP) mn rfl (by rw [List.length_map, hmn]) (by simpa using hm0) (hcat _ _ _) (Nat.le_trans h2 hS.base) n1 n2 n3 (fun j v hj => hS.sat.cell (hcb j v hj)) (fun j v hj => hS.sat.cell (hc9 j v hj)) (fun j v hj => hS.sat.cell (hm4 j v hj))) fun e w6 hR => ?_)
  obtain ⟨b', off, cp, rfl, hb, hcell⟩ := hR
  refine ⟨_, rfl, .below hb, ?_⟩
  have hS := hS.keep hb
  have hO := hO.below hb
  obtain ⟨e174, by174, hs⟩ := zuh
  refine za (ji (m := 3 + mn) hs rfl rfl rfl) rfl (za (zc (v := iV 0) rfl) rfl (ze ?_))
  refine zp (qh (qN (3 + mn) (fun i F w => ∃ Fb, F = qi Fb [(1, .iface ta xa), (4, pV b4), (20, .slice (some ⟨b', off, none⟩) (3 + mn) cp), (21, iV ((3 + mn : Nat) : Int)), (22, iV i)] ∧ Since B G0 w0 G4 w ∧ Owns G4 w B (rowC b cc :: rowA n (.slice ad n cp0) ac :: Lq) ∧
    ∀ (j : Nat) v, ([fP (167, [pV b4]), fP (169, [pV b6]), fP (170, [pV b4])] ++ ms.map fP)[j]? = some v → w.cell? ⟨b', off + j, none⟩ = some v) ?_ ?_ (3 + mn) 0 _ _ (by omega) ⟨_, zi _ _ ⟨rfl, rfl, rfl, rfl, rfl, trivial⟩, hS, hO, hcell⟩))
  · rintro i F w hi ⟨Fb, rfl, hS, hO, hcell⟩
    have spec : ∃ k ca, ([fP (167, [pV b4]), fP (169, [pV b6]), fP (170, [pV b4])] ++ ms.map fP)[i]? = some (.func (.func k) #[] (ca : List Value).toArray) ∧ zJ Tryz.prog k = true ∧ Calls Tryz.prog k ca.toArray w (qW w (iV 0)) := by
      have hc : CoW w b (.slice ad n cp0) := ⟨zr hO (k := 0) rfl h60, zr hO (k := 0) rfl h61⟩
      match i, hi with
      | 0, _ => exact ⟨167, [pV b4], rfl, zyq, zss hc (hS.sat.cell (hc4 0 _ rfl))⟩
      | 1, _ => exact ⟨169, [pV b6], rfl, zyp, zpG (is := true) (hS.sat.cell (hc6 0 _ rfl)) hr.1 (hr.2 G4 w le4 hS hO)⟩
      | 2, _ => refine ⟨170, [pV b4], rfl, zyo, ?_⟩
                have := zsr hc (hS.sat.cell (hc4 0 _ rfl))
                rw [show decide ((n : Int) < 100) = true by simp; omega] at this
                exact this
      | i + 3, hi =>
        obtain ⟨p, hp⟩ : ∃ p, ms[i]? = some p := ⟨ms[i]'(by omega), List.getElem?_eq_getElem (by omega)⟩
        obtain ⟨q1, q2⟩ := hd p (List.mem_of_getElem? hp)
        exact ⟨p.1, p.2, by rw [List.getElem?_append_right (by simp)]; simp [hp], q1, q2 G4 w le4 hS hO⟩
    obtain ⟨k, ca, hcl, hk, hcall⟩ := spec
    have hcl' := hcell i _ hcl
    refine zd (zb (za (zN rfl rfl) rfl (ze (zd (zQ (decide ((i : Int) < ((3 + mn : Nat) : Int))) (by simp; omega) rfl (zq ?_))))))
    refine zd (zp (zd (zb (za (zq4 hs rfl rfl (by omega)) rfl (za (zo zxr rfl (by rw [Nat.mul_one]; exact hcl')) rfl (za (zf (v := .func (.func k) #[] ca.toArray) rfl) rfl (ze (zd (zb (za (zc (v := .func (.func k) #[] ca.toArray) rfl) rfl ?_))))))))))
    refine zm rfl (ym (fi := []) (al := []) (ca := ca) hk hcall rfl rfl rfl fun w7 hb => ?_)
    refine za (zf (v := iV 0) rfl) rfl (ze (zd (zb (za (zc (v := iV 0) rfl) rfl (za (jy rfl rfl) rfl (ze (zH false rfl rfl (zq ?_))))))))
    refine zb (za (jz rfl rfl) rfl (za (zc (v := iV (IntKind.i64.wrap ((i : Int) + 1))) rfl) rfl (ze ?_)))
    exact ⟨_, zi _ _ ⟨rfl, rfl, rfl, rfl, congrArg iV (xS (by omega)), trivial⟩, hS.keep hb, hO.below hb, fun j v hj => qk hb (hcell j v hj)⟩
  · rintro F w7 ⟨Fb, rfl, hS, hO, hcell⟩
    refine qg (zd (zb (za (zN rfl rfl) rfl (ze (zd (zH (decide (((3 + mn : Nat) : Int) < ((3 + mn : Nat) : Int))) (by simp) rfl (zW rfl ?_)))))))
    have hrd := hrd.mono kC le4
    have hv60 : w7.cell? ⟨b, 60, none⟩ = some (.slice ad n cp0) := zr hO (k := 0) rfl h60
    refine zd (zM qw (fun _ w => Sat G4 w ∧ w.cell? ⟨b, 60, none⟩ = some (.slice ad n cp0)) (.fl 0 (.fl 1 (.fl 2 (.fl 3 (.fl 4 (.fl 5 (.on 6 (.on 7 (.on 8 (.on 9 (.on 10 .nil))))))))))) (by kernel_rfl) rfl (by kernel_rfl) (fun _ => ⟨(hS.keep (zj _)).sat, qk (zj _) hv60⟩) ?_)
    have hS := hS.keep (zj w7)
    have hO := hO.below (zj w7)
    refine zh rfl (fun w hw => zo jJ rfl (hw.1.cell (hc4 0 _ rfl))) rfl (zh rfl (fun w hw => zo jJ rfl (hw.1.cell (hc4 0 _ rfl))) rfl (zh (v := pV b) rfl (fun w hw => by kernel_rfl) rfl (zh rfl (fun w hw => zk zfh rfl) rfl (zh rfl (fun w hw => zo ztq rfl hw.2) rfl (zh (v := .iface ta xa) rfl (fun w hw => zc rfl) rfl ?_)))))
    refine zD rfl rfl (zP (v := fun b => .slice (some ⟨b, 0, none⟩) 1 1) (cs := [.iface ta xa]) (e := 266) (by kernel_rfl) hS.sat rfl fun b11 G6 w8 hg hc11 => ?_)
    have hS := hS.grow hg
    have hO := hO.grow hg
    refine ⟨fun _ _ => ⟨hS.sat.le hg.le, zr hO (k := 0) rfl h60⟩, ?_⟩
    refine zD rfl rfl (yc (k := 1) zw9 zqJ hS hO rfl hxs (hrd.mono kC hg.le) (RSl.of_rd hc11 (Rd.cons (c := [.iface ta xa]) rfl ⟨rfl, rfl⟩ (Rd.nil _ _ _)) rfl (show 1 ≤ maxLen by decide)) (kX xs [.iface ta xa] (by simp; omega)) rfl rfl rfl rfl rfl fun a9 c9 w9 ac9 hS hO hr9 => ?_)
    have hzl : (xs ++ [Value.iface ta xa]).length = n + 1 := by simp [hxs]
    rw [hzl] at hO ⊢
    have hO : Owns G6 w9 B (rowC b cc :: rowA (n + 1) (.slice a9 (n + 1) c9) ac9 :: Lq) := hO
    refine ⟨fun _ _ => ⟨hS.sat.le hg.le, zr hO (k := 0) rfl h60⟩, ?_⟩
    refine zD rfl rfl (zY (v := pV b) (by kernel_rfl) rfl ⟨fun _ h => zR (by kernel_rfl) h, ?_⟩)
    refine zD rfl rfl (zY (zk zfh rfl) rfl ⟨fun _ h => zR (by kernel_rfl) h, ?_⟩)
    refine zD rfl rfl (zG (vs := [.slice a9 (n + 1) c9]) zw7 hS hO (k := 0) rfl rfl rfl rfl rfl (zU rfl) (by simp [hcl62]) fun w10 hS hO => ⟨fun _ h => zR (by kernel_rfl) h, ?_⟩)
    have hO : Owns G6 w10 B (rowC b (qD cc 60 [.slice a9 (n + 1) c9]) :: rowA (n + 1) (.slice a9 (n + 1) c9) ac9 :: Lq) := hO
    refine qp (zd (zb (za (zf (v := iV 0) rfl) rfl (ze (zF ?_)))))
    exact ⟨[iV 0], ⟨rfl, trivial⟩, G6, _, le4.trans hg.le, hS, hO, rfl, _, _, _, rfl, hr9⟩
structure CoP (G : Gm) (cc : List Value) (va : Value) (x : zn) (np nb mo : Int) : Prop where
 len : cc.length = 62
 c60 : cc[60]? = some va
 c61 : cc[61]? = some (.bool true)
 c50 : cc[50]? = some (iV mo)
 c52 : cc[52]? = some (iV np)
 c53 : cc[53]? = some (iV nb)
 sy : ∃ (a : Option Addr) (n c : Nat), (∀ (j : Nat) v, (xq x a n c)[j]? = some v → cc[34 + j]? = some v) ∧ RSl zO 3 G a n c x.Loads
section
variable {G G' : Gm} {cc : List Value} {va : Value} {x : zn} {np nb mo : Int}
theorem CoP.grow (h : CoP G cc va x np nb mo) (le : Gle G G') : CoP G' cc va x np nb mo := by
 obtain ⟨a, n, c, q, hq⟩ := h.sy
 exact ⟨h.len, h.c60, h.c61, h.c50, h.c52, h.c53, a, n, c, q, hq.mono zx le⟩
theorem zeD {cc : List Value} (hl : cc.length = 62) {k : Nat} (hk : k < 62) (v : Value) (j : Nat) : (qD cc k [v])[j]? = if j = k then some v else cc[j]? := by
 rw [ku (by simp; omega)]
 by_cases h : j = k
 ·subst h; simp
 ·rw [if_neg (by simp; omega), if_neg h]
theorem zd4 {cc : List Value} (hl : cc.length = 62) {k : Nat} (hk : k < 62) (v : Value) : (qD cc k [v]).length = 62 := by rw [jE (by simp; omega), hl]
theorem CoP.put (h : CoP G cc va x np nb mo) {k : Nat} (hk : k < 62) (v : Value) : ∃ (a : Option Addr) (n c : Nat), (∀ (j : Nat) u, (xq x a n c)[j]? = some u → 34 + j ≠ k → (qD cc k [v])[34 + j]? = some u) ∧ RSl zO 3 G a n c x.Loads := by
 obtain ⟨a, n, c, q, hq⟩ := h.sy
 exact ⟨a, n, c, fun j u hj hne => by rw [zeD h.len hk, if_neg hne]; exact q j u hj, hq⟩
theorem zd2 {a : Option Addr} {n c j : Nat} {u : Value} (h : (xq x a n c)[j]? = some u) : j < 11 := (List.getElem?_eq_some_iff.1 h).1
theorem CoP.acts (h : CoP G cc va x np nb mo) (v : Value) : CoP G (qD cc 60 [v]) v x np nb mo := by
 have p := zeD h.len (k := 60) (by decide) v
 obtain ⟨a, n, c, q, hq⟩ := h.put (k := 60) (by decide) v
 exact ⟨zd4 h.len (by decide) v, by rw [p]; rfl, by rw [p]; exact h.c61, by rw [p]; exact h.c50, by rw [p]; exact h.c52, by rw [p]; exact h.c53, a, n, c, fun j u hj => q j u hj (by have := zd2 hj; omega), hq⟩
theorem CoP.money (h : CoP G cc va x np nb mo) (m' : Int) : CoP G (qD cc 50 [iV m']) va x np nb m' := by
 have p := zeD h.len (k := 50) (by decide) (iV m')
 obtain ⟨a, n, c, q, hq⟩ := h.put (k := 50) (by decide) (iV m')
 exact ⟨zd4 h.len (by decide) _, by rw [p]; exact h.c60, by rw [p]; exact h.c61, by rw [p]; rfl, by rw [p]; exact h.c52, by rw [p]; exact h.c53, a, n, c, fun j u hj => q j u hj (by have := zd2 hj; omega), hq⟩
theorem CoP.panel (h : CoP G cc va x np nb mo) (m' : Int) : CoP G (qD cc 52 [iV m']) va x m' nb mo := by
 have p := zeD h.len (k := 52) (by decide) (iV m')
 obtain ⟨a, n, c, q, hq⟩ := h.put (k := 52) (by decide) (iV m')
 exact ⟨zd4 h.len (by decide) _, by rw [p]; exact h.c60, by rw [p]; exact h.c61, by rw [p]; exact h.c50, by rw [p]; rfl, by rw [p]; exact h.c53, a, n, c, fun j u hj => q j u hj (by have := zd2 hj; omega), hq⟩
theorem CoP.battery (h : CoP G cc va x np nb mo) (m' : Int) : CoP G (qD cc 53 [iV m']) va x np m' mo := by
 have p := zeD h.len (k := 53) (by decide) (iV m')
 obtain ⟨a, n, c, q, hq⟩ := h.put (k := 53) (by decide) (iV m')
 exact ⟨zd4 h.len (by decide) _, by rw [p]; exact h.c60, by rw [p]; exact h.c61, by rw [p]; exact h.c50, by rw [p]; exact h.c52, by rw [p]; rfl, a, n, c, fun j u hj => q j u hj (by have := zd2 hj; omega), hq⟩
end
theorem ztP : zJ Tryz.prog 83 = true := by kernel_rfl
theorem ztO : zJ Tryz.prog 84 = true := by kernel_rfl
theorem zps (w0 : World) : Calls Tryz.prog 84 ([] : List Value).toArray w0 (qW w0 (.bool true)) := by
 refine qb (N := 1) (yd _ _) Tryz.func84 rfl rfl rfl rfl (zd (zb (za (zf (v := .bool false) rfl) rfl (ze (zd (zb (za (zf (v := .bool true) rfl) rfl (ze (zF ?_)))))))))
 exact ⟨rfl, Below.refl _ _⟩
section
variable {B : Nat} {G0 : Gm} {w0 : World} {Gc : Gm} {wc : World} {Lq : List Row} {b n bC : Nat} {cc ac : List Value} {xs : List Value} {ad : Option Addr} {cp0 : Nat} {x : zn} {np nb mo mo' : Int}
theorem ztQ : zJ Tryz.prog 82 = true := by kernel_rfl
theorem zyr : zJ Tryz.prog 86 = true := by kernel_rfl
theorem zpu (hc : w0.cell? ⟨bC, 0, none⟩ = some (pV b)) (h : w0.cell? ⟨b, 43, none⟩ = some (iV x.Panel)) : Calls Tryz.prog 82 [pV bC].toArray w0 (qW w0 (iV x.Panel)) := by
 refine qb (N := 8) (yd _ _) Tryz.func82 rfl rfl rfl rfl (zd (zb (za (zf (v := iV 0) rfl) rfl (ze (zd (zb (za (zo jJ rfl hc) rfl (za (v := pV b) (by kernel_rfl) rfl (za (zk vW rfl) rfl (za (zk gd49_6 rfl) rfl (za (zk ztl rfl) rfl (za (zo n3 rfl h) rfl (za (zf (v := iV x.Panel) rfl) rfl (ze (zF ?_)))))))))))))))
 exact ⟨rfl, Below.refl _ _⟩
theorem zvT (hc : w0.cell? ⟨bC, 0, none⟩ = some (pV b)) (h : w0.cell? ⟨b, 52, none⟩ = some (iV np)) (hlt : np < 12) : Calls Tryz.prog 86 [pV bC].toArray w0 (qW w0 (.bool true)) := by
 refine qb (N := 7) (yd _ _) Tryz.func86 rfl rfl rfl rfl (zd (zb (za (zf (v := .bool false) rfl) rfl (ze (zd (zb (za (zo jJ rfl hc) rfl (za (v := pV b) (by kernel_rfl) rfl (za (zk zef rfl) rfl (za (zo n3 rfl h) rfl (za (zN rfl rfl) rfl (za (zf (v := .bool (decide (np < 12))) rfl) rfl (ze (zF ?_))))))))))))))
 exact ⟨by rw [decide_eq_true hlt]; rfl, Below.refl _ _⟩
set_option maxHeartbeats 2000000 in
theorem zv7 (hS : Since B G0 w0 Gc wc) (hO : Owns Gc wc B (rowC b cc :: rowA n (.slice ad n cp0) ac :: Lq)) (h2B : 2 ≤ B) (hcs : CoP Gc cc (.slice ad n cp0) x np nb mo) (hn : n < 100) (hxs : n = xs.length) (hrd : Rd zhU 1 Gc ac xs) (h0 : 0 ≤ np) (hlt : np < 12) (hc : x.Panel ≤ mo) (hw : IntKind.i64.wrap (mo - x.Panel) = mo') :
  Calls Tryz.prog 32 [pV b].toArray wc (jP B G0 w0 Gc wc (fun G' L' v => v = iV 0 ∧ ∃ cc' ad' cp' ac' xs', L' = rowC b cc' :: rowA (n + 1) (.slice ad' (n + 1) cp') ac' :: Lq ∧ CoP G' cc' (.slice ad' (n + 1) cp') x (np + 1) nb mo' ∧ n + 1 = xs'.length ∧ Rd zhU 1 G' ac' xs')) := by
 obtain ⟨sa, sn, sc, hsy, hsl⟩ := hcs.sy
 have hco : cc[43]? = some (iV x.Panel) := hsy 9 _ rfl
 refine yP (N := 30) (rs := [.tmp 2]) hO.base Tryz.func32 rfl rfl rfl rfl (zd (zb ?_))
 refine zm rfl (zP (v := fun b => pV b) (cs := [pV b]) (e := 50) (by kernel_rfl) hS.sat rfl fun bC G3 w3 hg3 hcC => ?_)
 have hS := hS.grow hg3
 have hO := hO.grow hg3
 have le3 := hg3.le
 refine za (zf (v := iV 0) rfl) rfl (ze (zd (zb (za (yu (vs := []) (us := [pV bC]) rfl rfl) rfl (za (zf (v := .func (.func 82) #[] #[pV bC]) rfl) rfl (ze (zd (zd ?_))))))))
 refine zM qw (fun _ w => Sat G3 w) (.fl 0 (.fl 1 (.fl 2 (.fl 3 (.fl 5 (.fl 6 (.on 4 (.on 7 (.on 8 (.on 9 (.on 10 .nil))))))))))) (by kernel_rfl) rfl (by kernel_rfl) (fun _ => (hS.keep (zj _)).sat) ?_
 have hS := hS.keep (zj w3)
 have hO := hO.below (zj w3)
 refine zh rfl (fun w hw => zo jJ rfl (hw.cell (hcC 0 _ rfl))) rfl (zh (v := .agg #[]) rfl (fun w hw => by kernel_rfl) rfl (zh (v := .iface 184 (.agg #[])) rfl (fun w hw => by kernel_rfl) rfl (zh rfl (fun w hw => yu (vs := []) (us := [pV bC]) rfl rfl) rfl (zh rfl (fun w hw => zo jJ rfl (hw.cell (hcC 0 _ rfl))) rfl (zh (v := .func (.func 82) #[] #[pV bC]) rfl (fun w hw => zc rfl) rfl ?_)))))
 refine zD rfl rfl (zS ztX (zpr hS.sat (f := .func 86) (a := #[]) (b := #[pV bC])) rfl rfl fun v G5 w5 hg5 hv => ?_)
 obtain ⟨bS, rfl, hcS⟩ := hv
 have hS := hS.grow hg5
 have hO := hO.grow hg5
 refine ⟨fun _ _ => hS.sat.le hg5.le, ?_⟩
 refine zD rfl rfl (zS ztV (zpq hS.sat (f := .func 82) (x := #[]) (y := #[pV bC])) rfl rfl fun v G6 w6 hg6 hv => ?_)
 obtain ⟨d3, d4, rfl, hd3, hd4⟩ := hv
 have hS := hS.grow hg6
 have hO := hO.grow hg6
 refine ⟨fun _ _ => hS.sat.le (hg5.le.trans hg6.le), ?_⟩
 refine zD rfl rfl (zP (v := fun b => .slice (some ⟨b, 0, none⟩) 2 2) (cs := [.func (.func 172) #[] #[pV bS], .func (.func 173) #[] #[pV d4, pV d3]]) (e := 99) (by kernel_rfl) hS.sat rfl fun bm G7 w7 hg7 hcm => ?_)
 have hS := hS.grow hg7
 have hO := hO.grow hg7
 have le37 : Gle G3 G7 := (hg5.le.trans hg6.le).trans hg7.le
 refine ⟨fun _ _ => hS.sat.le le37, ?_⟩
 have le7 : Gle Gc G7 := le3.trans le37
 have hcC := hcC.mono le37
 have hcS := hcS.mono (hg6.le.trans hg7.le)
 have hd3 := hd3.mono hg7.le
 have hd4 := hd4.mono hg7.le
 refine zD rfl rfl (z9 (fi := []) (al := [pV b, .iface 184 (.agg #[]), .func (.func 84) #[] #[], .slice (some ⟨bm, 0, none⟩) 2 2]) (ca := []) ztP
  (zpt (kr := 84) (cr := []) (ms := [(172, [pV bS]), (173, [pV d4, pV d3])]) (mn := 2) hS hO h2B rfl (by decide) (fun p hp => by cases hp; show (172 : Nat) ≠ 167; decide) hcm (by simp) (fun v1 v2 v3 => Ev.concat_b2 _ _ _ _ _ _ _ _ _ _ _ _ _ _ _)
   ⟨ztO, fun G w hle hS hO => zps w⟩
   hcs.c61 hn hxs (hrd.mono kC le7) hcs.c60 hcs.len (fun p hp' => by
    rcases List.mem_cons.1 hp' with rfl | hp'
    ·exact ⟨ztM, fun G w hle hS hO => ziT (is := true) (ca := [pV bC]) (hS.sat.cell ((hcS.mono hle) 0 _ rfl)) zyr (zvT (hS.sat.cell ((hcC.mono hle) 0 _ rfl)) (zr hO (k := 0) rfl hcs.c52) hlt)⟩
    ·obtain rfl := List.mem_singleton.1 hp'
     exact ⟨ztL, fun G w hle hS hO => zlT (k := 82) (ca := [pV bC]) (x := x.Panel) (mo := mo) (hS.sat.cell ((hd4.mono hle) 0 _ rfl)) (hS.sat.cell ((hd3.mono hle) 0 _ rfl)) (zr hO (k := 0) rfl hcs.c50) ztQ (fun w' hb => zpu (qk hb (hS.sat.cell ((hcC.mono hle) 0 _ rfl))) (qk hb (zr hO (k := 0) rfl hco))) hc⟩))
  rfl rfl rfl fun v G8 w8 L8 le8 hS hO hv => ?_)
 obtain ⟨rfl, ad', cp', ac', rfl, hrd8⟩ := hv
 refine ⟨fun _ h => zR (by kernel_rfl) h, ?_⟩
 refine zD rfl rfl (zY (zf (v := iV 0) rfl) rfl ⟨fun _ h => zR (by kernel_rfl) h, qp ?_⟩)
 refine zd (zb (za (zc (v := iV 0) rfl) rfl (za (jy rfl rfl) rfl (ze (zH false rfl rfl (zq ?_))))))
 have hcs8 := (hcs.grow (le7.trans le8)).acts (.slice ad' (n + 1) cp')
 have hcC := hcC.mono le8
 have hxs8 : n + 1 = (xs ++ [Value.iface 184 (.agg #[])]).length := by simp [hxs]
 generalize qD cc 60 [.slice ad' (n + 1) cp'] = cc8 at hcs8 hO
 refine zd (zb (za (zo jJ rfl (hS.sat.cell (hcC 0 _ rfl))) rfl (za (v := pV b) (by kernel_rfl) rfl (za (zk zef rfl) rfl (za (zo n3 rfl (zr hO (k := 0) rfl hcs8.c52)) rfl (za (jz rfl rfl) rfl ?_))))))
 rw [show IntKind.i64.wrap (np + 1) = np + 1 from qt ⟨by omega, by omega⟩]
 refine za (v := pV b) (by kernel_rfl) rfl (za (zk zef rfl) rfl ?_)
 refine zm rfl (zG (vs := [iV (np + 1)]) z3 hS hO (k := 0) rfl rfl rfl rfl rfl (zU rfl) (by simp [hcs8.len]) fun w9 hS hO => ze ?_)
 have hcs9 := hcs8.panel (np + 1)
 have hO : Owns G8 w9 B (rowC b (qD cc8 52 [iV (np + 1)]) :: rowA (n + 1) (.slice ad' (n + 1) cp') ac' :: Lq) := hO
 generalize qD cc8 52 [iV (np + 1)] = cc9 at hcs9 hO
 obtain ⟨ta, tn, tc, hty, _⟩ := hcs9.sy
 have hco9 : cc9[43]? = some (iV x.Panel) := hty 9 _ rfl
 refine zd (zM qw (fun _ w => Sat G8 w) (.fl 0 (.fl 1 (.on 2 (.on 3 .nil)))) (by kernel_rfl) rfl (by kernel_rfl) (fun _ => (hS.keep (zj _)).sat) ?_)
 have hS := hS.keep (zj w9)
 have hO := hO.below (zj w9)
 refine zh rfl (fun w hw => zo jJ rfl (hw.cell (hcC 0 _ rfl))) rfl (zh (v := .func (.func 82) #[] #[pV bC]) rfl (fun w hw => zc rfl) rfl ?_)
 refine zD rfl rfl (ym (fi := []) (al := []) (ca := [pV bC]) ztQ (zpu (hS.sat.cell (hcC 0 _ rfl)) (zr hO (k := 0) rfl hco9)) rfl rfl rfl fun w10 hb => ⟨fun _ _ => (hS.keep hb).sat, ?_⟩)
 have hS := hS.keep hb
 have hO := hO.below hb
 refine zD rfl rfl (z9 (fi := []) (al := [pV b, iV x.Panel]) (ca := []) ztU (zpp hS hO hcs9.len hcs9.c50 hw) rfl rfl rfl fun v G11 w11 L11 le11 hS hO hv => ⟨fun _ h => zR (by kernel_rfl) h, qp ?_⟩)
 obtain ⟨_, e2⟩ := hv
 refine zd (zb (za (zf (v := iV 0) rfl) rfl (ze (zF ?_))))
 exact ⟨[iV 0], ⟨rfl, trivial⟩, G11, L11, (le7.trans le8).trans le11, hS, hO, rfl, _, ad', cp', ac', xs ++ [.iface 184 (.agg #[])], e2, (hcs9.grow le11).money mo', hxs8, hrd8.mono kC le11⟩
end
section
variable {B : Nat} {G0 : Gm} {w0 : World} {Gc : Gm} {wc : World} {Lq : List Row} {b n bC : Nat} {cc ac : List Value} {xs : List Value} {ad : Option Addr} {cp0 : Nat} {x : zn} {np nb mo mo' : Int}
theorem ztN : zJ Tryz.prog 89 = true := by kernel_rfl
theorem zyn : zJ Tryz.prog 90 = true := by kernel_rfl
theorem zpo (hc : w0.cell? ⟨bC, 0, none⟩ = some (pV b)) (h : w0.cell? ⟨b, 44, none⟩ = some (iV x.Battery)) : Calls Tryz.prog 89 [pV bC].toArray w0 (qW w0 (iV x.Battery)) := by
 refine qb (N := 8) (yd _ _) Tryz.func89 rfl rfl rfl rfl (zd (zb (za (zf (v := iV 0) rfl) rfl (ze (zd (zb (za (zo jJ rfl hc) rfl (za (v := pV b) (by kernel_rfl) rfl (za (zk vW rfl) rfl (za (zk gd49_6 rfl) rfl (za (zk znS rfl) rfl (za (zo n3 rfl h) rfl (za (zf (v := iV x.Battery) rfl) rfl (ze (zF ?_)))))))))))))))
 exact ⟨rfl, Below.refl _ _⟩
theorem zvS (hc : w0.cell? ⟨bC, 0, none⟩ = some (pV b)) (h : w0.cell? ⟨b, 53, none⟩ = some (iV nb)) (hlt : nb < 8) : Calls Tryz.prog 90 [pV bC].toArray w0 (qW w0 (.bool true)) := by
 refine qb (N := 7) (yd _ _) Tryz.func90 rfl rfl rfl rfl (zd (zb (za (zf (v := .bool false) rfl) rfl (ze (zd (zb (za (zo jJ rfl hc) rfl (za (v := pV b) (by kernel_rfl) rfl (za (zk zee rfl) rfl (za (zo n3 rfl h) rfl (za (zN rfl rfl) rfl (za (zf (v := .bool (decide (nb < 8))) rfl) rfl (ze (zF ?_))))))))))))))
 exact ⟨by rw [decide_eq_true hlt]; rfl, Below.refl _ _⟩
set_option maxHeartbeats 2000000 in
theorem zv6 (hS : Since B G0 w0 Gc wc) (hO : Owns Gc wc B (rowC b cc :: rowA n (.slice ad n cp0) ac :: Lq)) (h2B : 2 ≤ B) (hcs : CoP Gc cc (.slice ad n cp0) x np nb mo) (hn : n < 100) (hxs : n = xs.length) (hrd : Rd zhU 1 Gc ac xs) (h0 : 0 ≤ nb) (hlt : nb < 8) (hc : x.Battery ≤ mo) (hw : IntKind.i64.wrap (mo - x.Battery) = mo') :
  Calls Tryz.prog 33 [pV b].toArray wc (jP B G0 w0 Gc wc (fun G' L' v => v = iV 0 ∧ ∃ cc' ad' cp' ac' xs', L' = rowC b cc' :: rowA (n + 1) (.slice ad' (n + 1) cp') ac' :: Lq ∧ CoP G' cc' (.slice ad' (n + 1) cp') x np (nb + 1) mo' ∧ n + 1 = xs'.length ∧ Rd zhU 1 G' ac' xs')) := by
 obtain ⟨sa, sn, sc, hsy, hsl⟩ := hcs.sy
 have hco : cc[44]? = some (iV x.Battery) := hsy 10 _ rfl
 refine yP (N := 30) (rs := [.tmp 2]) hO.base Tryz.func33 rfl rfl rfl rfl (zd (zb ?_))
 refine zm rfl (zP (v := fun b => pV b) (cs := [pV b]) (e := 50) (by kernel_rfl) hS.sat rfl fun bC G3 w3 hg3 hcC => ?_)
 have hS := hS.grow hg3
 have hO := hO.grow hg3
 have le3 := hg3.le
 refine za (zf (v := iV 0) rfl) rfl (ze (zd (zb (za (yu (vs := []) (us := [pV bC]) rfl rfl) rfl (za (zf (v := .func (.func 89) #[] #[pV bC]) rfl) rfl (ze (zd (zd ?_))))))))
 refine zM qw (fun _ w => Sat G3 w) (.fl 0 (.fl 1 (.fl 2 (.fl 3 (.fl 5 (.fl 6 (.on 4 (.on 7 (.on 8 (.on 9 (.on 10 .nil))))))))))) (by kernel_rfl) rfl (by kernel_rfl) (fun _ => (hS.keep (zj _)).sat) ?_
 have hS := hS.keep (zj w3)
 have hO := hO.below (zj w3)
 refine zh rfl (fun w hw => zo jJ rfl (hw.cell (hcC 0 _ rfl))) rfl (zh (v := .agg #[]) rfl (fun w hw => by kernel_rfl) rfl (zh (v := .iface 188 (.agg #[])) rfl (fun w hw => by kernel_rfl) rfl (zh rfl (fun w hw => yu (vs := []) (us := [pV bC]) rfl rfl) rfl (zh rfl (fun w hw => zo jJ rfl (hw.cell (hcC 0 _ rfl))) rfl (zh (v := .func (.func 89) #[] #[pV bC]) rfl (fun w hw => zc rfl) rfl ?_)))))
 refine zD rfl rfl (zS ztX (zpr hS.sat (f := .func 90) (a := #[]) (b := #[pV bC])) rfl rfl fun v G5 w5 hg5 hv => ?_)
 obtain ⟨bS, rfl, hcS⟩ := hv
 have hS := hS.grow hg5
 have hO := hO.grow hg5
 refine ⟨fun _ _ => hS.sat.le hg5.le, ?_⟩
 refine zD rfl rfl (zS ztV (zpq hS.sat (f := .func 89) (x := #[]) (y := #[pV bC])) rfl rfl fun v G6 w6 hg6 hv => ?_)
 obtain ⟨d3, d4, rfl, hd3, hd4⟩ := hv
 have hS := hS.grow hg6
 have hO := hO.grow hg6
 refine ⟨fun _ _ => hS.sat.le (hg5.le.trans hg6.le), ?_⟩
 refine zD rfl rfl (zP (v := fun b => .slice (some ⟨b, 0, none⟩) 2 2) (cs := [.func (.func 172) #[] #[pV bS], .func (.func 173) #[] #[pV d4, pV d3]]) (e := 99) (by kernel_rfl) hS.sat rfl fun bm G7 w7 hg7 hcm => ?_)
 have hS := hS.grow hg7
 have hO := hO.grow hg7
 have le37 : Gle G3 G7 := (hg5.le.trans hg6.le).trans hg7.le
 refine ⟨fun _ _ => hS.sat.le le37, ?_⟩
 have le7 : Gle Gc G7 := le3.trans le37
 have hcC := hcC.mono le37
 have hcS := hcS.mono (hg6.le.trans hg7.le)
 have hd3 := hd3.mono hg7.le
 have hd4 := hd4.mono hg7.le
 refine zD rfl rfl (z9 (fi := []) (al := [pV b, .iface 188 (.agg #[]), .func (.func 84) #[] #[], .slice (some ⟨bm, 0, none⟩) 2 2]) (ca := []) ztP
  (zpt (kr := 84) (cr := []) (ms := [(172, [pV bS]), (173, [pV d4, pV d3])]) (mn := 2) hS hO h2B rfl (by decide) (fun p hp => by cases hp; show (172 : Nat) ≠ 167; decide) hcm (by simp) (fun v1 v2 v3 => Ev.concat_b2 _ _ _ _ _ _ _ _ _ _ _ _ _ _ _)
   ⟨ztO, fun G w hle hS hO => zps w⟩
   hcs.c61 hn hxs (hrd.mono kC le7) hcs.c60 hcs.len (fun p hp' => by
    rcases List.mem_cons.1 hp' with rfl | hp'
    ·exact ⟨ztM, fun G w hle hS hO => ziT (is := true) (ca := [pV bC]) (hS.sat.cell ((hcS.mono hle) 0 _ rfl)) zyn (zvS (hS.sat.cell ((hcC.mono hle) 0 _ rfl)) (zr hO (k := 0) rfl hcs.c53) hlt)⟩
    ·obtain rfl := List.mem_singleton.1 hp'
     exact ⟨ztL, fun G w hle hS hO => zlT (k := 89) (ca := [pV bC]) (x := x.Battery) (mo := mo) (hS.sat.cell ((hd4.mono hle) 0 _ rfl)) (hS.sat.cell ((hd3.mono hle) 0 _ rfl)) (zr hO (k := 0) rfl hcs.c50) ztN (fun w' hb => zpo (qk hb (hS.sat.cell ((hcC.mono hle) 0 _ rfl))) (qk hb (zr hO (k := 0) rfl hco))) hc⟩))
  rfl rfl rfl fun v G8 w8 L8 le8 hS hO hv => ?_)
 obtain ⟨rfl, ad', cp', ac', rfl, hrd8⟩ := hv
 refine ⟨fun _ h => zR (by kernel_rfl) h, ?_⟩
 refine zD rfl rfl (zY (zf (v := iV 0) rfl) rfl ⟨fun _ h => zR (by kernel_rfl) h, qp ?_⟩)
 refine zd (zb (za (zc (v := iV 0) rfl) rfl (za (jy rfl rfl) rfl (ze (zH false rfl rfl (zq ?_))))))
 have hcs8 := (hcs.grow (le7.trans le8)).acts (.slice ad' (n + 1) cp')
 have hcC := hcC.mono le8
 have hxs8 : n + 1 = (xs ++ [Value.iface 188 (.agg #[])]).length := by simp [hxs]
 generalize qD cc 60 [.slice ad' (n + 1) cp'] = cc8 at hcs8 hO
 refine zd (zb (za (zo jJ rfl (hS.sat.cell (hcC 0 _ rfl))) rfl (za (v := pV b) (by kernel_rfl) rfl (za (zk zee rfl) rfl (za (zo n3 rfl (zr hO (k := 0) rfl hcs8.c53)) rfl (za (jz rfl rfl) rfl ?_))))))
 rw [show IntKind.i64.wrap (nb + 1) = nb + 1 from qt ⟨by omega, by omega⟩]
 refine za (v := pV b) (by kernel_rfl) rfl (za (zk zee rfl) rfl ?_)
 refine zm rfl (zG (vs := [iV (nb + 1)]) z3 hS hO (k := 0) rfl rfl rfl rfl rfl (zU rfl) (by simp [hcs8.len]) fun w9 hS hO => ze ?_)
 have hcs9 := hcs8.battery (nb + 1)
 have hO : Owns G8 w9 B (rowC b (qD cc8 53 [iV (nb + 1)]) :: rowA (n + 1) (.slice ad' (n + 1) cp') ac' :: Lq) := hO
 generalize qD cc8 53 [iV (nb + 1)] = cc9 at hcs9 hO
 obtain ⟨ta, tn, tc, hty, _⟩ := hcs9.sy
 have hco9 : cc9[44]? = some (iV x.Battery) := hty 10 _ rfl
 refine zd (zM qw (fun _ w => Sat G8 w) (.fl 0 (.fl 1 (.on 2 (.on 3 .nil)))) (by kernel_rfl) rfl (by kernel_rfl) (fun _ => (hS.keep (zj _)).sat) ?_)
 have hS := hS.keep (zj w9)
 have hO := hO.below (zj w9)
 refine zh rfl (fun w hw => zo jJ rfl (hw.cell (hcC 0 _ rfl))) rfl (zh (v := .func (.func 89) #[] #[pV bC]) rfl (fun w hw => zc rfl) rfl ?_)
 refine zD rfl rfl (ym (fi := []) (al := []) (ca := [pV bC]) ztN (zpo (hS.sat.cell (hcC 0 _ rfl)) (zr hO (k := 0) rfl hco9)) rfl rfl rfl fun w10 hb => ⟨fun _ _ => (hS.keep hb).sat, ?_⟩)
 have hS := hS.keep hb
 have hO := hO.below hb
 refine zD rfl rfl (z9 (fi := []) (al := [pV b, iV x.Battery]) (ca := []) ztU (zpp hS hO hcs9.len hcs9.c50 hw) rfl rfl rfl fun v G11 w11 L11 le11 hS hO hv => ⟨fun _ h => zR (by kernel_rfl) h, qp ?_⟩)
 obtain ⟨_, e2⟩ := hv
 refine zd (zb (za (zf (v := iV 0) rfl) rfl (ze (zF ?_))))
 exact ⟨[iV 0], ⟨rfl, trivial⟩, G11, L11, (le7.trans le8).trans le11, hS, hO, rfl, _, ad', cp', ac', xs ++ [.iface 188 (.agg #[])], e2, (hcs9.grow le11).money mo', hxs8, hrd8.mono kC le11⟩
end
theorem zyx : zJ Tryz.prog 36 = true := by kernel_rfl
theorem zyz : zJ Tryz.prog 32 = true := by kernel_rfl
theorem zyy : zJ Tryz.prog 33 = true := by kernel_rfl
def FaultV (x : zn) (p q : Int) (v : Value) : Prop := ∃ (u : List UInt8) (d i : Int), v = .tuple #[.agg #[.string ⟨u.toArray⟩, iV d, iV i], iV (if qI x p q = true then 0 else 5)]
set_option maxHeartbeats 2000000 in
theorem zv4 {G0 : Gm} {w0 : World} (hS0 : Sat G0 w0) {x : zn} {a : Option Addr} {n c : Nat} (h1 : RSl zO 3 G0 a n c x.Loads) (hx : CellOk x) {p q : Int} (hp : 0 ≤ p ∧ p ≤ 12) (hq : 0 ≤ q ∧ q ≤ 8) (H : f37 x ⟨p, q⟩ 0 = some true) :
  Calls Tryz.prog 36 [.agg (xq x a n c).toArray, iV p, iV q, iV 0].toArray w0 (yL G0 w0 fun _ v => FaultV x p q v) := by
 have hS := Since.start hS0
 have hO : Owns G0 w0 w0.heap.size [] := Owns.nil (Nat.le_refl _)
 refine zdo (N := 33) (xZ _ _ _) [.cell 8 61, .tmp 9] Tryz.func36 rfl rfl rfl rfl (zd (zb ?_))
 refine zm rfl (zP (v := fun b => pV b) (cs := xq x a n c) (e := 45) (qu rfl) hS.sat rfl fun b4 G1 w1 hg1 hc4 => ?_)
 have hS := hS.grow hg1
 have hO := hO.grow hg1
 have h1 := h1.mono zx hg1.le
 refine zm rfl (z7 (v := fun b => pV b) (cs := [.string ⟨#[]⟩, iV 0, iV 0]) (e := 61) (by kernel_rfl) hS.sat hO rfl 3 1 rfl (by decide) fun b8 w2 hb hO => ?_)
 have hS := hS.keep hb
 refine za (zf (v := iV 0) rfl) rfl (ze (zd (zb (za (zc (v := iV p) rfl) rfl (za (zc (v := iV q) rfl) rfl (za (v := .agg #[iV p, iV q]) (by kernel_rfl) rfl ?_))))))
 refine zm rfl (z7 (v := fun b => pV b) (cs := [iV 0, iV 0]) (e := 91) (by kernel_rfl) hS.sat hO rfl 2 1 rfl (by decide) fun b10 w3 hb hO => ?_)
 have hS := hS.keep hb
 refine zm rfl (zG (vs := [iV p, iV q]) zbq hS hO (k := 0) rfl rfl rfl rfl rfl (yt rfl rfl) (nQl rfl) fun w4 hS hO => ze (zd (zd (zb ?_))))
 have hO : Owns G1 w4 w0.heap.size [jT b10 p q, zaj b8 [] 0 0] := hO
 refine za (zu jZ (cs := xq x a n c) rfl rfl fun j v hj => hS.sat.cell (hc4 j v hj)) rfl (za (zu xH (cs := [iV p, iV q]) rfl rfl (qX hO (k := 0) rfl 0 2)) rfl (za (zc (v := iV 0) rfl) rfl ?_))
 refine zm rfl (zy ztT (zpB (x1 := ⟨p, q⟩) hS.sat h1 H) rfl rfl fun w5 hb => ?_)
 have hS := hS.keep hb
 have hO := hO.below hb
 refine za (qE (b := true) rfl) rfl (ze (zH false rfl rfl (zq (zd (zb ?_)))))
 refine za (zu jZ (cs := xq x a n c) rfl rfl fun j v hj => hS.sat.cell (hc4 j v hj)) rfl (za (zu xH (cs := [iV p, iV q]) rfl rfl (qX hO (k := 0) rfl 0 2)) rfl (za (zc (v := iV 0) rfl) rfl ?_))
 refine zm rfl (zS ztW (zpC hS.sat h1 hx hp hq) rfl rfl fun v G2 w6 hg2 hv => ?_)
 obtain ⟨u, d, i, rfl⟩ := hv
 have hS := hS.grow hg2
 have hO := hO.grow hg2
 unfold FaultV
 generalize qI x p q = fb
 refine za (zc (v := .tuple #[.agg #[.string ⟨u.toArray⟩, iV d, iV i], .bool fb]) rfl) rfl (za (v := .agg #[.string ⟨u.toArray⟩, iV d, iV i]) (zL (vs := #[.agg #[.string ⟨u.toArray⟩, iV d, iV i], .bool fb]) rfl rfl) rfl (za (v := .bool fb) (zL (vs := #[.agg #[.string ⟨u.toArray⟩, iV d, iV i], .bool fb]) rfl rfl) rfl ?_))
 refine zm rfl (z7 (v := fun b => pV b) (cs := [.string ⟨#[]⟩, iV 0, iV 0]) (e := 61) (by kernel_rfl) hS.sat hO rfl 3 1 rfl (by decide) fun b11 w7 hb hO => ?_)
 have hS := hS.keep hb
 refine zm rfl (zG (vs := [.string ⟨u.toArray⟩, iV d, iV i]) z61 hS hO (k := 0) rfl rfl rfl rfl rfl (zU rfl) (nQl rfl) fun w8 hS hO => ?_)
 have hO : Owns G2 w8 w0.heap.size [zaj b11 u d i, jT b10 p q, zaj b8 [] 0 0] := hO
 refine za (zf (v := .bool fb) rfl) rfl (ze (zd (zd (zb (za (zc (v := .bool fb) rfl) rfl (za (qE (b := fb) rfl) rfl (ze (zV rfl (fun hb => ?_) (fun hb => zq ?_)))))))))
 ·have hf : fb = false := by simpa using hb
  subst hf
  refine zd (zb (za (v := .agg #[.string ⟨#[]⟩, iV 0, iV 0]) (by kernel_rfl) rfl ?_))
  refine zm rfl (zG (vs := [.string ⟨#[]⟩, iV 0, iV 0]) z61 hS hO (k := 2) rfl rfl rfl rfl rfl (zU rfl) (nQl rfl) fun w9 hS hO => ?_)
  refine za (zf (v := iV 5) rfl) rfl (ze (zF ?_))
  exact ⟨[.agg #[.string ⟨#[]⟩, iV 0, iV 0], iV 5], ⟨⟨_, rfl, vi (cs := [.string ⟨#[]⟩, iV 0, iV 0]) zni rfl (qX hO (k := 2) rfl 0 3)⟩, rfl, trivial⟩, _, _, rfl, hS.toGrow, [], 0, 0, rfl⟩
 ·have hf : fb = true := by simpa using hb
  subst hf
  refine zd (zb (za (zu zni (cs := [.string ⟨u.toArray⟩, iV d, iV i]) rfl rfl (qX hO (k := 0) rfl 0 3)) rfl ?_))
  refine zm rfl (zG (vs := [.string ⟨u.toArray⟩, iV d, iV i]) z61 hS hO (k := 2) rfl rfl rfl rfl rfl (zU rfl) (nQl rfl) fun w9 hS hO => ?_)
  refine za (zf (v := iV 0) rfl) rfl (ze (zF ?_))
  exact ⟨[.agg #[.string ⟨u.toArray⟩, iV d, iV i], iV 0], ⟨⟨_, rfl, vi (cs := [.string ⟨u.toArray⟩, iV d, iV i]) zni rfl (qX hO (k := 2) rfl 0 3)⟩, rfl, trivial⟩, _, _, rfl, hS.toGrow, u, d, i, rfl⟩
set_option maxHeartbeats 2000000 in
theorem f11_ok {G0 : Gm} {w0 : World} (hS0 : Sat G0 w0) {b : Nat} {va : Value} {x : zn} {a : Option Addr} {n c : Nat} {p q : Int} (h : CoW w0 b va) (hsy : ∀ (j : Nat) v, (xq x a n c)[j]? = some v → w0.cell? ⟨b, 34 + j, none⟩ = some v) (h52 : w0.cell? ⟨b, 52, none⟩ = some (iV p)) (h53 : w0.cell? ⟨b, 53, none⟩ = some (iV q))
  (h1 : RSl zO 3 G0 a n c x.Loads) (hx : CellOk x) (hp : 0 ≤ p ∧ p ≤ 12) (hq : 0 ≤ q ∧ q ≤ 8) (H : f37 x ⟨p, q⟩ 0 = some true) :
  Calls Tryz.prog 11 [pV b].toArray w0 (yL G0 w0 fun _ v => FaultV x p q v) := by
 have hS := Since.start hS0
 have hO : Owns G0 w0 w0.heap.size [] := Owns.nil (Nat.le_refl _)
 refine zdo (N := 23) (xZ _ _ _) [.cell 2 61, .tmp 3] Tryz.func11 rfl rfl rfl rfl (zd (zb ?_))
 refine zm rfl (z7 (v := fun b => pV b) (cs := [.string ⟨#[]⟩, iV 0, iV 0]) (e := 61) (by kernel_rfl) hS.sat hO rfl 3 1 rfl (by decide) fun b2 w1 hb hO => ?_)
 have hS := hS.keep hb
 refine za (zf (v := iV 0) rfl) rfl (ze (zd (zd (zb (za (zc (v := pV b) rfl) rfl ?_)))))
 refine zm rfl (zy zqb (zkq (h.below hS.below)) rfl rfl fun w2 hb => ze (zH false rfl rfl (zq (zd ?_))))
 have hS := hS.keep hb
 have hO := hO.below hb
 have hS := hS.keep (zj w2)
 have hO := hO.below (zj w2)
 refine zM qw (fun _ w => Below w0.heap.size w0 w) (.fl 0 (.fl 1 (.fl 2 (.fl 3 (.fl 4 (.fl 5 (.fl 6 (.fl 7 (.fl 8 (.fl 9 (.fl 10 (.fl 11 (.fl 12 (.on 13 (.fl 14 (.fl 15 (.on 16 (.on 17 .nil)))))))))))))))))) (by kernel_rfl) rfl (by kernel_rfl) (fun _ => hS.below) ?_
 refine zh rfl (fun w hw => zc (v := pV b) rfl) rfl (zh (v := pV b) rfl (fun w hw => by kernel_rfl) rfl (zh rfl (fun w hw => zk vW rfl) rfl (zh rfl (fun w hw => zk gd49_6 rfl) rfl (zh rfl (fun w hw => zu jZ (cs := xq x a n c) rfl rfl fun j v hj => qk hw (hsy j v hj)) rfl ?_))))
 refine zh rfl (fun w hw => zc (v := pV b) rfl) rfl (zh (v := pV b) rfl (fun w hw => by kernel_rfl) rfl (zh rfl (fun w hw => zk zef rfl) rfl (zh rfl (fun w hw => zo n3 rfl (qk hw h52)) rfl ?_)))
 refine zh rfl (fun w hw => zc (v := pV b) rfl) rfl (zh (v := pV b) rfl (fun w hw => by kernel_rfl) rfl (zh rfl (fun w hw => zk zee rfl) rfl (zh rfl (fun w hw => zo n3 rfl (qk hw h53)) rfl ?_)))
 refine zD rfl rfl (zS zyx (zv4 hS.sat h1 hx hp hq H) rfl rfl fun v G2 w3 hg2 hv => ?_)
 obtain ⟨u, d, i, rfl⟩ := hv
 have hS := hS.grow hg2
 have hO := hO.grow hg2
 refine ⟨fun _ _ => hS.below, ?_⟩
 unfold FaultV
 generalize (if qI x p q = true then (0 : Int) else 5) = e
 refine zh rfl (fun w hw => zL (v := .agg #[.string ⟨u.toArray⟩, iV d, iV i]) (vs := #[.agg #[.string ⟨u.toArray⟩, iV d, iV i], iV e]) rfl rfl) rfl (zh rfl (fun w hw => zL (v := iV e) (vs := #[.agg #[.string ⟨u.toArray⟩, iV d, iV i], iV e]) rfl rfl) rfl ?_)
 refine zD rfl rfl (zG (vs := [.string ⟨u.toArray⟩, iV d, iV i]) z61 hS hO (k := 0) rfl rfl rfl rfl rfl (zU rfl) (nQl rfl) fun w9 hS hO => ⟨fun _ _ => hS.below, ?_⟩)
 refine zD rfl rfl (zY (zf (v := iV e) rfl) rfl ⟨fun _ _ => hS.below, qp (zF ?_)⟩)
 exact ⟨[.agg #[.string ⟨u.toArray⟩, iV d, iV i], iV e], ⟨⟨_, rfl, vi (cs := [.string ⟨u.toArray⟩, iV d, iV i]) zni rfl (qX hO (k := 0) rfl 0 3)⟩, rfl, trivial⟩, _, _, rfl, hS.toGrow, u, d, i, rfl⟩
section
variable {B : Nat} {G0 : Gm} {w0 : World} {Gc : Gm} {wc : World} {Lq : List Row} {b : Nat} {cc : List Value} {x : zn} {mo : Int}
theorem zxx (a : Nat) (c : Int) : ((a + 1 : Nat) : Int) * c = (a : Int) * c + c := by rw [Int.natCast_succ, Int.add_mul, Int.one_mul]
theorem zxy {a b : Nat} {c : Int} (hc : 0 ≤ c) (h : a ≤ b) : (a : Int) * c ≤ (b : Int) * c := Int.mul_le_mul_of_nonneg_right (by omega) hc
set_option maxHeartbeats 2000000 in
theorem f9_ok {p q : Nat} (hS : Since B G0 w0 Gc wc) (hO : Owns Gc wc B (rowC b cc :: rowA 0 (.slice none 0 0) [] :: Lq)) (h2B : 2 ≤ B) (hcs : CoP Gc cc (.slice none 0 0) x 0 0 mo) (hp : p ≤ 12) (hq : q ≤ 8) (hcost : CostOk x) (hm : (p : Int) * x.Panel + (q : Int) * x.Battery ≤ mo) (hm2 : mo ≤ 1000000000) :
  Calls Tryz.prog 9 [pV b, iV (p : Int), iV (q : Int)].toArray wc (jP B G0 w0 Gc wc (fun G' L' v => v = .bool true ∧ ∃ cc' ad' cp' ac' n', L' = rowC b cc' :: rowA n' (.slice ad' n' cp') ac' :: Lq ∧ CoP G' cc' (.slice ad' n' cp') x p q (mo - (p : Int) * x.Panel - (q : Int) * x.Battery))) := by
 have hpn := hcost.pn
 have hbt := hcost.bt
 have pos : ∀ (a : Nat) (c : Int), 0 ≤ c → 0 ≤ (a : Int) * c := fun a c h => Int.mul_nonneg (by omega) h
 let J : Nat → Nat → Fr → World → Prop := fun i j F w => ∃ Fb G cc' ad cp ac xs, F = qi Fb [(0, pV b), (1, iV (p : Int)), (2, iV (q : Int))] ∧ Gle Gc G ∧ Since B G0 w0 G w ∧ Owns G w B (rowC b cc' :: rowA (i + j) (.slice ad (i + j) cp) ac :: Lq) ∧ CoP G cc' (.slice ad (i + j) cp) x i j (mo - (i : Int) * x.Panel - (j : Int) * x.Battery) ∧ i + j = xs.length ∧ Rd zhU 1 G ac xs
 refine yP (N := 25) (rs := [.tmp 6]) hO.base Tryz.func9 rfl rfl rfl rfl (zd (zb (za (zf (v := .bool false) rfl) rfl (ze (zd (zZ (J p 0) ?_ ?_))))))
 ·refine zd (zb (za (zf (v := iV 0) rfl) rfl (ze ?_)))
  refine zp (qh (qN p (fun i F w => J i 0 F w ∧ F 7 = iV (i : Int)) ?_ ?_ p 0 _ _ (by omega) ⟨⟨_, Gc, cc, none, 0, [], [], zi _ _ ⟨rfl, rfl, rfl, trivial⟩, Gle.refl _, hS, hO, by simpa using hcs, rfl, Rd.nil _ _ _⟩, rfl⟩))
  ·rintro i F w hi ⟨⟨Fb, G, cc', ad, cp, ac, xs, hF, le, hS, hO, hcs, hxs, hrd⟩, h7⟩
   obtain ⟨Fb, rfl⟩ : ∃ Fb, F = qi Fb [(0, pV b), (1, iV (p : Int)), (2, iV (q : Int)), (7, iV (i : Int))] := ⟨F, zi _ _ ⟨by rw [hF]; rfl, by rw [hF]; rfl, by rw [hF]; rfl, h7, trivial⟩⟩
   have e1 := zxx i x.Panel
   have e2 := zxy hpn.1 (show i + 1 ≤ p from hi)
   have e3 := pos q x.Battery hbt.1
   have e4 := pos i x.Panel hpn.1
   refine zd (zd (zb (za (zc (v := iV (i : Int)) rfl) rfl (za (zc (v := iV (p : Int)) rfl) rfl (za (zN rfl rfl) rfl (ze (zQ (decide ((i : Int) < (p : Int))) (decide_eq_true (by omega)) rfl (zq ?_))))))))
   refine zd (zp (zd (zb (za (zc (v := pV b) rfl) rfl ?_))))
   refine zm rfl (z9 (fi := []) (al := [pV b]) (ca := []) zyz (zv7 (mo' := mo - ((i + 1 : Nat) : Int) * x.Panel - ((0 : Nat) : Int) * x.Battery) hS hO h2B hcs (by omega) hxs hrd (by omega) (by omega) (by omega) (by rw [qt ⟨by omega, by omega⟩]; omega)) rfl rfl rfl fun v G2 w2 L2 le2 hS hO hv => ?_)
   obtain ⟨rfl, cc2, ad2, cp2, ac2, xs2, rfl, hcs2, hxs2, hrd2⟩ := hv
   refine za (jy rfl rfl) rfl (ze (zH false rfl rfl (zq ?_)))
   refine zb (za (zc (v := iV (i : Int)) rfl) rfl (za (v := iV ((i + 1 : Nat) : Int)) (zX (m := i) (n := 1) rfl rfl (by omega)) rfl (za (zf (v := iV ((i + 1 : Nat) : Int)) rfl) rfl (ze ?_))))
   exact ⟨⟨_, G2, cc2, ad2, cp2, ac2, xs2, zi _ _ ⟨rfl, rfl, rfl, trivial⟩, le.trans le2, hS, hO, hcs2, hxs2, hrd2⟩, rfl⟩
  ·rintro F w ⟨⟨Fb, G, cc', ad, cp, ac, xs, hF, h⟩, h7⟩
   obtain ⟨Fb, rfl⟩ : ∃ Fb, F = qi Fb [(0, pV b), (1, iV (p : Int)), (2, iV (q : Int)), (7, iV (p : Int))] := ⟨F, zi _ _ ⟨by rw [hF]; rfl, by rw [hF]; rfl, by rw [hF]; rfl, h7, trivial⟩⟩
   refine qg (zd (zd (zb (za (zc (v := iV (p : Int)) rfl) rfl (za (zc (v := iV (p : Int)) rfl) rfl (za (zN rfl rfl) rfl (ze (zH (decide ((p : Int) < (p : Int))) (decide_eq_false (by omega)) rfl (zW rfl ?_)))))))))
   exact ⟨_, G, cc', ad, cp, ac, xs, zi _ _ ⟨rfl, rfl, rfl, trivial⟩, h⟩
 rintro F w ⟨Fb, G, cc', ad, cp, ac, xs, rfl, le, hS, hO, hcs, hxs, hrd⟩
 refine zd (zZ (J p q) ?_ ?_)
 ·refine zd (zb (za (zf (v := iV 0) rfl) rfl (ze ?_)))
  refine zp (qh (qN q (fun i F w => J p i F w ∧ F 8 = iV (i : Int)) ?_ ?_ q 0 _ _ (by omega) ⟨⟨_, G, cc', ad, cp, ac, xs, zi _ _ ⟨rfl, rfl, rfl, trivial⟩, le, hS, hO, hcs, hxs, hrd⟩, rfl⟩))
  ·rintro i F w hi ⟨⟨Fb, G, cc', ad, cp, ac, xs, hF, le, hS, hO, hcs, hxs, hrd⟩, h7⟩
   obtain ⟨Fb, rfl⟩ : ∃ Fb, F = qi Fb [(0, pV b), (1, iV (p : Int)), (2, iV (q : Int)), (8, iV (i : Int))] := ⟨F, zi _ _ ⟨by rw [hF]; rfl, by rw [hF]; rfl, by rw [hF]; rfl, h7, trivial⟩⟩
   have e1 := zxx i x.Battery
   have e2 := zxy hbt.1 (show i + 1 ≤ q from hi)
   have e3 := pos p x.Panel hpn.1
   have e4 := pos i x.Battery hbt.1
   refine zd (zd (zb (za (zc (v := iV (i : Int)) rfl) rfl (za (zc (v := iV (q : Int)) rfl) rfl (za (zN rfl rfl) rfl (ze (zQ (decide ((i : Int) < (q : Int))) (decide_eq_true (by omega)) rfl (zq ?_))))))))
   refine zd (zp (zd (zb (za (zc (v := pV b) rfl) rfl ?_))))
   refine zm rfl (z9 (fi := []) (al := [pV b]) (ca := []) zyy (zv6 (mo' := mo - (p : Int) * x.Panel - ((i + 1 : Nat) : Int) * x.Battery) hS hO h2B hcs (by omega) hxs hrd (by omega) (by omega) (by omega) (by rw [qt ⟨by omega, by omega⟩]; omega)) rfl rfl rfl fun v G2 w2 L2 le2 hS hO hv => ?_)
   obtain ⟨rfl, cc2, ad2, cp2, ac2, xs2, rfl, hcs2, hxs2, hrd2⟩ := hv
   refine za (jy rfl rfl) rfl (ze (zH false rfl rfl (zq ?_)))
   refine zb (za (zc (v := iV (i : Int)) rfl) rfl (za (v := iV ((i + 1 : Nat) : Int)) (zX (m := i) (n := 1) rfl rfl (by omega)) rfl (za (zf (v := iV ((i + 1 : Nat) : Int)) rfl) rfl (ze ?_))))
   exact ⟨⟨_, G2, cc2, ad2, cp2, ac2, xs2, zi _ _ ⟨rfl, rfl, rfl, trivial⟩, le.trans le2, hS, hO, hcs2, hxs2, hrd2⟩, rfl⟩
  ·rintro F w ⟨⟨Fb, G, cc', ad, cp, ac, xs, hF, h⟩, h7⟩
   obtain ⟨Fb, rfl⟩ : ∃ Fb, F = qi Fb [(0, pV b), (1, iV (p : Int)), (2, iV (q : Int)), (8, iV (q : Int))] := ⟨F, zi _ _ ⟨by rw [hF]; rfl, by rw [hF]; rfl, by rw [hF]; rfl, h7, trivial⟩⟩
   refine qg (zd (zd (zb (za (zc (v := iV (q : Int)) rfl) rfl (za (zc (v := iV (q : Int)) rfl) rfl (za (zN rfl rfl) rfl (ze (zH (decide ((q : Int) < (q : Int))) (decide_eq_false (by omega)) rfl (zW rfl ?_)))))))))
   exact ⟨_, G, cc', ad, cp, ac, xs, zi _ _ ⟨rfl, rfl, rfl, trivial⟩, h⟩
 rintro F w ⟨Fb, G, cc', ad, cp, ac, xs, rfl, le, hS, hO, hcs, hxs, hrd⟩
 refine zd (zb (za (zf (v := .bool true) rfl) rfl (ze (zF ?_))))
 exact ⟨[.bool true], ⟨rfl, trivial⟩, G, _, le, hS, hO, rfl, cc', ad, cp, ac, p + q, rfl, hcs⟩
end
end Go.Proofs.YtihedfkcccaonaaGreatDoor
