/-
  slices.Concat of three and one or two more functions, by the evaluator.
-/
import Derived.Test.YtdgkjgljkgjjiaaGreatDoorEvG5
import Derived.Test.YtdgkjgljkgjjiaaGreatDoorProg
import Derived.KernelRfl
import Derived.Test.YtdgkjgljkgjjiaaGreatDoorW2
namespace Go.Proofs.YtdgkjgljkgjjiaaGreatDoor.Ev
open Go.RowKit
set_option linter.unusedVariables false

noncomputable def hpC (k : Nat) (vs us : List Value) : Hp := hset (.cells (.l (us.map .lit)) true) (hset (.cells (.l (vs.map .lit)) true) (hset (.cells (.l [.asl 3 0 3 3, .asl 4 0 k k]) true) (tnil 14) 2) 3) 4
noncomputable def outC (k : Nat) (vs us : List Value) : Out := evM Tryz.prog [] 100 91 [.asl 2 0 2 2] (hpC k vs us) 5
noncomputable def getC (o : Out) : Option (AV × Option AObj) := match o with
  | .ok .ret r m => match fget r 0 with
    | some v => some (v, hget m.hp 5)
    | none => none
  | _ => none
theorem concat_b2 (f1 f2 f3 f4 f5 : Fn) (a1 a2 a3 a4 a5 b1 b2 b3 b4 b5 : Array Value) :
    getC (outC 2 [.func f1 a1 b1, .func f2 a2 b2, .func f3 a3 b3] [.func f4 a4 b4, .func f5 a5 b5]) = some (.slc 5 0 5 5 1, some (.cells (.l [.lit (.func f1 a1 b1), .lit (.func f2 a2 b2), .lit (.func f3 a3 b3), .lit (.func f4 a4 b4), .lit (.func f5 a5 b5)]) false)) := by kernel_rfl
theorem concat_b1 (f1 f2 f3 f4 : Fn) (a1 a2 a3 a4 b1 b2 b3 b4 : Array Value) :
    getC (outC 1 [.func f1 a1 b1, .func f2 a2 b2, .func f3 a3 b3] [.func f4 a4 b4]) = some (.slc 5 0 4 4 1, some (.cells (.l [.lit (.func f1 a1 b1), .lit (.func f2 a2 b2), .lit (.func f3 a3 b3), .lit (.func f4 a4 b4)]) false)) := by kernel_rfl
theorem none_okC (P : Program) : EntsS P [] := fun p hp => by cases hp
theorem block_of {w : World} {b : Nat} {l : List Value} (h : ∀ (j : Nat) v, l[j]? = some v → w.cell? ⟨b, 0 + j, none⟩ = some v) (h0 : l ≠ []) : ∃ (arr : Array Value) (el : TypeId) (fz : Nat × Nat), w.heap[b]? = some (.cells arr el fz) ∧ l.length ≤ arr.size ∧ ∀ (j : Nat) v, l[j]? = some v → arr[j]? = some v := by
  have key : ∀ (j : Nat) v, l[j]? = some v → ∃ (arr : Array Value) (el : TypeId) (fz : Nat × Nat), w.heap[b]? = some (.cells arr el fz) ∧ arr[j]? = some v := fun j v hj => by
    have := h j v hj
    unfold World.cell? at this
    split at this
    · rename_i c el fz ho
      refine ⟨c, el, fz, ho, ?_⟩
      simpa using this
    · cases this
  cases l with
  | nil => exact absurd rfl h0
  | cons x l =>
    obtain ⟨arr, el, fz, h1, h2⟩ := key 0 x rfl
    have all : ∀ (j : Nat) v, (x :: l)[j]? = some v → arr[j]? = some v := fun j v hj => by
      obtain ⟨arr', el', fz', h3, h4⟩ := key j v hj
      rw [h1] at h3
      cases h3
      exact h4
    refine ⟨arr, el, fz, h1, ?_, all⟩
    have hl : (x :: l)[l.length]? = some ((x :: l)[l.length]) := List.getElem?_eq_getElem (by simp)
    have := (Array.getElem?_eq_some_iff.1 (all _ _ hl)).1
    simp only [List.length_cons]
    omega
theorem lits_at {us : List Value} {i : Nat} {v : AV} (h : cget (.l (us.map .lit)) i = some v) : ∃ u, us[i]? = some u ∧ v = .lit u := by
  have h2 : nth (us.map AV.lit) i = some v := h
  rw [nth_eq, List.getElem?_map] at h2
  cases hu : us[i]? with
  | none => rw [hu] at h2; cases h2
  | some u => rw [hu] at h2; exact ⟨u, rfl, (Option.some.inj h2).symm⟩
theorem f91_gen (vs us : List Value) (k : Nat) (hv3 : vs.length = 3) (hk : us.length = k) (hk0 : us ≠ []) (hb : getC (outC k vs us) = some (.slc 5 0 (3 + k) (3 + k) 1, some (.cells (.l ((vs ++ us).map .lit)) false))) {w : World} {o a m : Nat} (h2 : 2 ≤ w.heap.size) (hoa : o ≠ a) (hom : o ≠ m) (ham : a ≠ m)
    (ho : ∀ (j : Nat) v, [Value.slice (some ⟨a, 0, none⟩) 3 3, Value.slice (some ⟨m, 0, none⟩) k k][j]? = some v → w.cell? ⟨o, 0 + j, none⟩ = some v)
    (ha : ∀ (j : Nat) v, vs[j]? = some v → w.cell? ⟨a, 0 + j, none⟩ = some v)
    (hm : ∀ (j : Nat) v, us[j]? = some v → w.cell? ⟨m, 0 + j, none⟩ = some v) :
    Calls Tryz.prog 91 #[.slice (some ⟨o, 0, none⟩) 2 2] w fun e w' => ∃ (b off cp : Nat), e = .returned (.slice (some ⟨b, off, none⟩) (3 + k) cp) ∧ Below w.heap.size w w' ∧
      ∀ (j : Nat) v, (vs ++ us)[j]? = some v → w'.cell? ⟨b, off + j, none⟩ = some v := by
  obtain ⟨oa, oe, of, o1, o2, o3⟩ := block_of ho (by simp)
  obtain ⟨aa, ae, af, q1, q2, q3⟩ := block_of ha (by intro e; rw [e] at hv3; cases hv3)
  obtain ⟨ma, me, mf, m1, m2, m3⟩ := block_of hm hk0
  rw [hv3] at q2
  rw [hk] at m2
  have ol := (Array.getElem?_eq_some_iff.1 o1).1
  have al := (Array.getElem?_eq_some_iff.1 q1).1
  have ml := (Array.getElem?_eq_some_iff.1 m1).1
  generalize hσ : (fun b => match b with | 0 => some ⟨0, 0, 0, 0, 0⟩ | 1 => some ⟨1, 0, 0, 0, 0⟩ | 2 => some ⟨o, 0, 0, 1, 2⟩ | 3 => some ⟨a, 0, 0, 1, 3⟩ | 4 => some ⟨m, 0, 0, 1, k⟩ | _ => none : Sg) = σ
  have hg : ∀ b ob, hget (hpC k vs us) b = some ob →
      (b = 2 ∧ ob = .cells (.l [.asl 3 0 3 3, .asl 4 0 k k]) true) ∨ (b = 3 ∧ ob = .cells (.l (vs.map .lit)) true) ∨ (b = 4 ∧ ob = .cells (.l (us.map .lit)) true) := fun b ob h => by
    unfold hpC at h
    rw [hget_set _ _ (by decide)] at h
    split at h
    · rename_i e; exact .inr (.inr ⟨e, (Option.some.inj h).symm⟩)
    · rw [hget_set _ _ (by decide)] at h
      split at h
      · rename_i e; exact .inr (.inl ⟨e, (Option.some.inj h).symm⟩)
      · rw [hget_set _ _ (by decide)] at h
        split at h
        · rename_i e; exact .inl ⟨e, (Option.some.inj h).symm⟩
        · rw [hget_nil] at h; cases h
  have hw : RelW ⟨fun k => w.heap.size ≤ k, fun _ => none, fun f => ∃ fn, Tryz.prog.funcs[f]? = some fn⟩ σ (hpC k vs us) 5 w := by
    subst hσ
    refine ⟨?_, ?_, ?_, ?_, ?_, fun k hk => hk, ?_, fun b o h1 => by cases h1⟩
    · intro b ob e h1 h2
      rcases hg b ob h1 with ⟨rfl, rfl⟩ | ⟨rfl, rfl⟩ | ⟨rfl, rfl⟩
      · cases h2
        refine ⟨oa, oe, of, o1, ⟨fun e => (by cases e), tyR_l _ _, fun h => (by cases h)⟩, by simpa using o2, fun i v hv => ?_⟩
        match i, hv with
        | 0, hv => cases hv; exact ⟨(show (0 : Nat) < 2 by decide), _, rfl, o3 0 _ rfl⟩
        | 1, hv => cases hv; exact ⟨(show (1 : Nat) < 2 by decide), _, rfl, o3 1 _ rfl⟩
        | i + 2, hv => cases hv
      · cases h2
        refine ⟨aa, ae, af, q1, ⟨fun e => (by cases e), tyR_l _ _, fun h => (by cases h)⟩, by simpa using q2, fun i v hv => ?_⟩
        obtain ⟨u, hu, rfl⟩ := lits_at hv
        exact ⟨by have := (List.getElem?_eq_some_iff.1 hu).1; show i < 3; omega, u, rfl, q3 i u hu⟩
      · cases h2
        refine ⟨ma, me, mf, m1, ⟨fun e => (by cases e), tyR_l _ _, fun h => (by cases h)⟩, by simpa using m2, fun i v hv => ?_⟩
        obtain ⟨u, hu, rfl⟩ := lits_at hv
        exact ⟨by have := (List.getElem?_eq_some_iff.1 hu).1; show i < k; omega, u, rfl, m3 i u hu⟩
    · intro b b' ob ob' e e' h1 h2 _ _ s1 s2 hbl
      rcases hg b ob h1 with ⟨rfl, _⟩ | ⟨rfl, _⟩ | ⟨rfl, _⟩ <;> rcases hg b' ob' h2 with ⟨rfl, _⟩ | ⟨rfl, _⟩ | ⟨rfl, _⟩ <;> cases s1 <;> cases s2 <;> first | rfl | exact absurd hbl hoa | exact absurd hbl hom | exact absurd hbl ham | exact absurd hbl.symm hoa | exact absurd hbl.symm hom | exact absurd hbl.symm ham
    · intro b ob e h1 hm
      rcases hg b ob h1 with ⟨_, rfl⟩ | ⟨_, rfl⟩ | ⟨_, rfl⟩ <;> cases hm
    · intro b hb
      match b, hb with
      | 0, hb => exact absurd hb (by decide)
      | 1, hb => exact absurd hb (by decide)
      | 2, hb => exact absurd hb (by decide)
      | 3, hb => exact absurd hb (by decide)
      | 4, hb => exact absurd hb (by decide)
      | b + 5, _ => rfl
    · intro b e h1
      match b, h1 with
      | 0, h1 => cases h1; show 0 < _; omega
      | 1, h1 => cases h1; show 1 < _; omega
      | 2, h1 => cases h1; exact ol
      | 3, h1 => cases h1; exact al
      | 4, h1 => cases h1; exact ml
      | b + 5, h1 => cases h1
    · intro g hg'
      have hg' : g < 2 := hg'
      match g, hg' with
      | 0, _ => exact ⟨_, rfl, rfl, rfl⟩
      | 1, _ => exact ⟨_, rfl, rfl, rfl⟩
      | g + 2, h => omega
  have hx : concL σ [.asl 2 0 2 2] = some [.slice (some ⟨o, 0, none⟩) 2 2] := by subst hσ; rfl
  generalize hout : outC k vs us = out at hb
  unfold getC at hb
  split at hb
  · rename_i r mm
    split at hb
    · rename_i v hv
      simp only [Option.some.injEq, Prod.mk.injEq] at hb
      obtain ⟨rfl, hb⟩ := hb
      have he : evM Tryz.prog [] 100 91 [.asl 2 0 2 2] (hpC k vs us) 5 = .ok .ret r mm := hout
      have hc := evM_ok (none_okC Tryz.prog) 100 _ (fun f => Iff.rfl) σ w 91 [.asl 2 0 2 2] _ _ _ hw hx (by rw [he]; simp)
      rw [he] at hc
      have hc' : Calls Tryz.prog 91 #[.slice (some ⟨o, 0, none⟩) 2 2] w (CallPost ⟨fun k => w.heap.size ≤ k, fun _ => none, fun f => ∃ fn, Tryz.prog.funcs[f]? = some fn⟩ σ w (.ok .ret r mm)) := fun cs => by
        obtain ⟨e, w', fr, r1, s, x⟩ := hc.2 cs (fun d hd => by simp [FV] at hd)
        exact ⟨e, w', fr, r1, s.comes, x⟩
      refine hc'.mono fun e w' hp => ?_
      obtain ⟨σ', v', c, _, k2, k3, rfl, k4, k5⟩ := hp
      rw [hv] at k2
      cases k2
      obtain ⟨ee, e1, e2, rfl⟩ := conc_slcN k3 (.inl (by omega))
      obtain ⟨arr, el, fz, r1, r2, r3⟩ := k4.obj 5 _ ee hb e1
      refine ⟨_, _, _, rfl, ⟨k5.os, k5.tape, k5.output, k5.size, fun k hk => k5.block k (fun h6 => by have h6 : w.heap.size ≤ k := h6; omega)⟩, fun j v hj => ?_⟩
      have hcg : cget (.l ((vs ++ us).map .lit)) j = some (.lit v) := by
        show nth _ j = _
        rw [nth_eq, List.getElem?_map, hj]
        rfl
      obtain ⟨_, cv, s1, s2⟩ := r3.2 j _ hcg
      cases s1
      have : arr[0 + ee.dl + j]? = some v := by rw [show 0 + ee.dl + j = j + ee.dl by omega]; exact s2
      unfold World.cell?
      rw [r1]
      simpa using this
    · cases hb
  · cases hb
end Go.Proofs.YtdgkjgljkgjjiaaGreatDoor.Ev
/-
  The council: the functions that only read it; an act is tried.
-/
namespace Go.Proofs.YtdgkjgljkgjjiaaGreatDoor
open Go.RowKit
set_option linter.unusedVariables false
set_option maxRecDepth 20000

theorem fd92_0 : fldB Tryz.prog 92 0 = some 0 := by kernel_rfl
theorem fd92_5 : fldB Tryz.prog 92 5 = some 55 := by kernel_rfl
theorem fd92_10 : fldB Tryz.prog 92 10 = some 60 := by kernel_rfl
theorem fd92_11 : fldB Tryz.prog 92 11 = some 61 := by kernel_rfl
theorem gd49_4 : fldB Tryz.prog 49 4 = some 23 := by kernel_rfl
theorem gd49_8 : fldB Tryz.prog 49 8 = some 50 := by kernel_rfl
theorem gd38_0 : fldB Tryz.prog 38 0 = some 0 := by kernel_rfl
theorem gd38_2 : fldB Tryz.prog 38 2 = some 2 := by kernel_rfl
theorem gd38_3 : fldB Tryz.prog 38 3 = some 3 := by kernel_rfl
theorem gd82_3 : fldB Tryz.prog 82 3 = some 3 := by kernel_rfl
theorem na51c : naB Tryz.prog 51 = true := by kernel_rfl
theorem na3c : naB Tryz.prog 3 = true := by kernel_rfl
theorem na4c : naB Tryz.prog 4 = true := by kernel_rfl
theorem na90c : naB Tryz.prog 90 = true := by kernel_rfl
theorem na24c : naB Tryz.prog 24 = true := by kernel_rfl
theorem na36c : naB Tryz.prog 36 = true := by kernel_rfl
theorem na93c : naB Tryz.prog 93 = true := by kernel_rfl
theorem na53c : naB Tryz.prog 53 = true := by kernel_rfl
theorem na98c : naB Tryz.prog 98 = true := by kernel_rfl
theorem sl90c : ∃ e sz by', slB Tryz.prog 90 = some (e, sz, by') := by
  have h : (slB Tryz.prog 90).isSome = true := by kernel_rfl
  obtain ⟨⟨e, sz, b⟩, h⟩ := Option.isSome_iff_exists.1 h
  exact ⟨e, sz, b, h⟩
theorem ag38g : agB Tryz.prog 38 = some 5 := by kernel_rfl
theorem sl36c : slB Tryz.prog 36 = some (82, 4, 32) := by kernel_rfl
theorem sl24c : slB Tryz.prog 24 = some (3, 1, 8) := by kernel_rfl
theorem cb37c : callB Tryz.prog 37 = true := by kernel_rfl
theorem cb88c : callB Tryz.prog 88 = true := by kernel_rfl
theorem cb91c : callB Tryz.prog 91 = true := by kernel_rfl
theorem cb87c : callB Tryz.prog 87 = true := by kernel_rfl
theorem cb89c : callB Tryz.prog 89 = true := by kernel_rfl
theorem cb90c : callB Tryz.prog 90 = true := by kernel_rfl
theorem cb93c : callB Tryz.prog 93 = true := by kernel_rfl
theorem cb33c : callB Tryz.prog 33 = true := by kernel_rfl
theorem cb28c : callB Tryz.prog 28 = true := by kernel_rfl
theorem cb92c : callB Tryz.prog 92 = true := by kernel_rfl
theorem cb32c : callB Tryz.prog 32 = true := by kernel_rfl
theorem cb42c : callB Tryz.prog 42 = true := by kernel_rfl
theorem cb94c : callB Tryz.prog 94 = true := by kernel_rfl
theorem cb96c : callB Tryz.prog 96 = true := by kernel_rfl
theorem cb38c : callB Tryz.prog 38 = true := by kernel_rfl
/-- What is read of a council that lies at a block: its acts, that it is open. -/
structure CoW (w : World) (b : Nat) (a : Value) : Prop where
  ac : w.cell? ⟨b, 60, none⟩ = some a
  op : w.cell? ⟨b, 61, none⟩ = some (.bool true)
theorem cell_below {w w' : World} (h : Below w.heap.size w w') {a : Addr} {v : Value} (hc : w.cell? a = some v) : w'.cell? a = some v := by
  unfold World.cell? at hc ⊢
  cases ho : w.heap[a.block]? with
  | none => rw [ho] at hc; cases hc
  | some o =>
    rw [ho] at hc
    rw [h.block _ (Array.getElem?_eq_some_iff.1 ho).1, ho]
    exact hc
theorem CoW.below {w w' : World} {b : Nat} {a : Value} (h : CoW w b a) (hb : Below w.heap.size w w') : CoW w' b a := ⟨cell_below hb h.ac, cell_below hb h.op⟩
section
variable {P : Program} {F : Fr} {w : World} {od : Option Nat} {ty t u e : TypeId} {pos : String} {af : Array Edge} {gd : Option (Nat × Bool)} {X Y I : Operand} {a : Addr}
theorem rn_eqlSNc (hT : P.underlying t = some (.pointer e)) (hx : ev F X = .pointer (some a)) (hy : ev F Y = .pointer none) : (execOp (ev F) ⟨od, .binOp .eql t X Y u, ty, pos, af, gd⟩).run P w = .ok (.value (.bool false)) w := by
  have h : ∀ d : Nat, (Op.equalIn (d + 1) t (.pointer (some a)) (.pointer none)).run P w = .ok false w := fun d => by simp [Op.equalIn, run_underlying hT]
  simp [execOp, hx, hy, eqGuard, binOp, Op.equal, Op.maxDepth, h 9999]
theorem rn_idxL {T e sz by' b o n cp j : Nat} {k : IntKind} (hT : slB P T = some (e, sz, by')) (hx : ev F X = .slice (some ⟨b, o, none⟩) n cp) (hi : ev F I = .int k (j : Int)) (hj : j < n) :
    (execOp (ev F) ⟨od, .indexAddr T X I, ty, pos, af, gd⟩).run P w = .ok (.value (.pointer (some ⟨b, o + j * sz, none⟩))) w := by
  obtain ⟨h1, i, z, h2, h3, h4, h5, h6, h7⟩ := slB_spec hT
  have hs : (sizeOf e).run P w = .ok sz w := by simp [sizeOf, typeInfo, h2, h4]
  simp [execOp, hx, hi, Instr.indexAt, asIntOf, run_underlying h1, hs, hj, Addr.add]
end
theorem f37_ok {w0 : World} {b : Nat} {a : Value} (h : CoW w0 b a) : Calls Tryz.prog 37 #[pV b] w0 (RetV w0 (.bool false)) := by
  refine enter1 (N := 12) (shutV _ _) Tryz.func37 rfl rfl rfl rfl (WC_seq (WC_region (WL_val (rn_assign (v := .bool false) rfl) rfl (WL_nil (WC_seq (WC_region (WL_val (rn_move (v := pV b) rfl) rfl (WL_val (rn_eqlSNc Tryz.underlying51 rfl rfl) rfl (WL_val (rn_move (v := .bool false) rfl) rfl ?_)))))))))
  refine WL_guardY rfl rfl rfl rfl (WL_val (rn_move (v := pV b) rfl) rfl ?_)
  refine WL_guardY rfl rfl rfl rfl (WL_val (v := pV b) (by kernel_rfl) rfl ?_)
  refine WL_guardY rfl rfl rfl rfl (WL_val (rn_fld fd92_11 rfl) rfl ?_)
  refine WL_guardY rfl rfl rfl rfl (WL_val (rn_load na4c rfl h.op) rfl ?_)
  refine WL_guardY rfl rfl rfl rfl (WL_val (rn_not rfl) rfl ?_)
  refine WL_val (rn_pickF (v := .bool false) rfl rfl rfl) rfl (WL_val (rn_assign (v := .bool false) rfl) rfl (WL_nil (WC_ret ?_)))
  exact ⟨rfl, Below.refl _ _⟩
theorem f88_val (is : Bool) (x : Int) (w0 : World) : Calls Tryz.prog 88 #[.bool is, iV x] w0 (RetV w0 (iV (cond is 0 x))) := by
  refine enter1 (N := 7) (shutV _ _) Tryz.func88 rfl rfl rfl rfl (WC_seq (WC_region (WL_val (rn_assign (v := iV 0) rfl) rfl (WL_nil (WC_seq (WC_seq (WC_region (WL_val (rn_move (v := .bool is) rfl) rfl (WL_nil (WC_cond rfl (fun hb => ?_) (fun hb => ?_)))))))))))
  · subst hb
    refine WC_seq (WC_region (WL_val (rn_assign (v := iV 0) rfl) rfl (WL_nil (WC_ret ?_))))
    exact ⟨rfl, Below.refl _ _⟩
  · subst hb
    refine WC_skip (WC_seq (WC_region (wr 2 rfl (WL_nil (WC_ret ?_)))))
    exact ⟨rfl, Below.refl _ _⟩
/-- the first closure of every act: there is a council -/
theorem f87_ok {w0 : World} {b c : Nat} {a : Value} (h : CoW w0 b a) (hc : w0.cell? ⟨c, 0, none⟩ = some (pV b)) : Calls Tryz.prog 87 #[pV c] w0 (RetV w0 (iV 0)) := by
  refine enter1 (N := 6) (shutV _ _) Tryz.func87 rfl rfl rfl rfl (WC_seq (WC_region (WL_val (rn_assign (v := iV 0) rfl) rfl (WL_nil (WC_seq (WC_region (WL_val (rn_load na51c rfl hc) rfl ?_)))))))
  refine WL_op rfl (OpP_callV cb37c (f37_ok h) rfl rfl fun w1 h1 => ?_)
  refine WL_val (rn_not rfl) rfl (WL_op rfl (OpP_callV cb88c (f88_val true 1 w1) rfl rfl fun w2 h2 => ?_))
  refine WL_val (rn_assign (v := iV 0) rfl) rfl (WL_nil (WC_ret ?_))
  exact ⟨rfl, h1.trans (h2.mono h1.size)⟩
/-- the third: there is room for one more act -/
theorem f90_ok {w0 : World} {b c : Nat} {ad : Option Addr} {n cp : Nat} (h : CoW w0 b (.slice ad n cp)) (hc : w0.cell? ⟨c, 0, none⟩ = some (pV b)) : Calls Tryz.prog 90 #[pV c] w0 (RetV w0 (iV (cond (decide ((n : Int) < 100)) 0 6))) := by
  obtain ⟨e', sz, by', hs⟩ := sl90c
  refine enter1 (N := 9) (shutV _ _) Tryz.func90 rfl rfl rfl rfl (WC_seq (WC_region (WL_val (rn_assign (v := iV 0) rfl) rfl (WL_nil (WC_seq (WC_region (WL_val (rn_load na51c rfl hc) rfl (WL_val (v := pV b) (by kernel_rfl) rfl (WL_val (rn_fld fd92_10 rfl) rfl (WL_val (rn_load na90c rfl h.ac) rfl (WL_val (rn_len hs rfl rfl rfl) rfl (WL_val (rn_lss rfl rfl) rfl ?_))))))))))))
  refine WL_op rfl (OpP_callV cb88c (f88_val _ 6 w0) rfl rfl fun w2 h2 => ?_)
  refine WL_val (rn_assign (v := iV (cond (decide ((n : Int) < 100)) 0 6)) rfl) rfl (WL_nil (WC_ret ?_))
  exact ⟨rfl, h2⟩
theorem sl174c : ∃ e by', slB Tryz.prog 174 = some (e, 1, by') := by
  have h : (match slB Tryz.prog 174 with | some (_, s, _) => s == 1 | none => false) = true := by kernel_rfl
  revert h
  cases slB Tryz.prog 174 with
  | none => intro h; cases h
  | some q =>
    obtain ⟨e, s, b⟩ := q
    intro h
    have : s = 1 := by simpa using h
    subst this
    exact ⟨e, b, rfl⟩
/-- the second of every act: its arguments are right -/
theorem f89_ok' {w0 : World} {c k : Nat} {ca : List Value} {is : Bool} (hc : w0.cell? ⟨c, 0, none⟩ = some (.func (.func k) #[] ca.toArray)) (hk : callB Tryz.prog k = true) (h : Calls Tryz.prog k ca.toArray w0 (RetV w0 (.bool is))) :
    Calls Tryz.prog 89 #[pV c] w0 (RetV w0 (iV (cond is 0 2))) := by
  refine enter1 (N := 5) (shutV _ _) Tryz.func89 rfl rfl rfl rfl (WC_seq (WC_region (WL_val (rn_assign (v := iV 0) rfl) rfl (WL_nil (WC_seq (WC_region (WL_val (rn_load na53c rfl hc) rfl ?_)))))))
  refine WL_op rfl (OpP_callVF (fi := []) (al := []) (ca := ca) hk h rfl rfl rfl fun w1 h1 => ?_)
  refine WL_op rfl (OpP_callV cb88c (f88_val is 2 w1) rfl rfl fun w2 h2 => ?_)
  refine WL_val (rn_assign (v := iV (cond is 0 2)) rfl) rfl (WL_nil (WC_ret ?_))
  exact ⟨rfl, h1.trans (h2.mono h1.size)⟩
/-- a state that is asked for: by what asks -/
theorem f94_ok' {w0 : World} {c k : Nat} {ca : List Value} {is : Bool} (hc : w0.cell? ⟨c, 0, none⟩ = some (.func (.func k) #[] ca.toArray)) (hk : callB Tryz.prog k = true) (h : Calls Tryz.prog k ca.toArray w0 (RetV w0 (.bool is))) :
    Calls Tryz.prog 94 #[pV c] w0 (RetV w0 (iV (cond is 0 6))) := by
  refine enter1 (N := 5) (shutV _ _) Tryz.func94 rfl rfl rfl rfl (WC_seq (WC_region (WL_val (rn_assign (v := iV 0) rfl) rfl (WL_nil (WC_seq (WC_region (WL_val (rn_load na53c rfl hc) rfl ?_)))))))
  refine WL_op rfl (OpP_callVF (fi := []) (al := []) (ca := ca) hk h rfl rfl rfl fun w1 h1 => ?_)
  refine WL_op rfl (OpP_callV cb88c (f88_val is 6 w1) rfl rfl fun w2 h2 => ?_)
  refine WL_val (rn_assign (v := iV (cond is 0 6)) rfl) rfl (WL_nil (WC_ret ?_))
  exact ⟨rfl, h1.trans (h2.mono h1.size)⟩
/-- a function that asks for a state -/
theorem f31_ok {G0 : Gm} {w0 : World} (hS0 : Sat G0 w0) {f : Fn} {a b : Array Value} : Calls Tryz.prog 31 #[.func f a b] w0 (RetG G0 w0 (fun G r => ∃ c, r = .func (.func 94) #[] #[pV c] ∧ Cells G c 0 [.func f a b])) := by
  have hS := Since.start hS0
  refine enter1 (N := 4) (shutG _ _ _) Tryz.func31 rfl rfl rfl rfl (WC_seq (WC_region ?_))
  refine WL_op rfl (OpP_newF (v := fun b => pV b) (cs := [.func f a b]) (e := 53) (by kernel_rfl) hS.sat rfl fun c G1 w1 hg hc => ?_)
  have hS := hS.grow hg
  refine WL_val (rn_assign (v := .nilFunc) rfl) rfl (WL_nil (WC_seq (WC_region (WL_val (rn_func (vs := []) (us := [pV c]) rfl rfl) rfl (WL_val (rn_assign (v := .func (.func 94) #[] #[pV c]) rfl) rfl (WL_nil (WC_ret ?_)))))))
  exact ⟨_, _, rfl, hS.toGrow, _, rfl, hc⟩
/-- a function that asks whether a number is one of a trip -/
theorem f30_ok {G0 : Gm} {w0 : World} (hS0 : Sat G0 w0) {b : Nat} {n : Int} : Calls Tryz.prog 30 #[pV b, iV n] w0 (RetG G0 w0 (fun G r => ∃ c d, r = .func (.func 92) #[] #[pV d, pV c] ∧ Cells G c 0 [pV b] ∧ Cells G d 0 [iV n])) := by
  have hS := Since.start hS0
  refine enter1 (N := 6) (shutG _ _ _) Tryz.func30 rfl rfl rfl rfl (WC_seq (WC_region ?_))
  refine WL_op rfl (OpP_newF (v := fun b => pV b) (cs := [pV b]) (e := 51) (by kernel_rfl) hS.sat rfl fun c G1 w1 hg hc => ?_)
  have hS := hS.grow hg
  refine WL_op rfl (OpP_newF (v := fun b => pV b) (cs := [iV n]) (e := 3) (by kernel_rfl) hS.sat rfl fun d G2 w2 hg2 hd => ?_)
  have hS := hS.grow hg2
  refine WL_val (rn_assign (v := .nilFunc) rfl) rfl (WL_nil (WC_seq (WC_region (WL_val (rn_func (vs := []) (us := [pV d, pV c]) rfl rfl) rfl (WL_val (rn_assign (v := .func (.func 92) #[] #[pV d, pV c]) rfl) rfl (WL_nil (WC_ret ?_)))))))
  exact ⟨_, _, rfl, hS.toGrow, _, _, rfl, hc.mono hg2.le, hd⟩
/-- a function that asks whether there is as much money as something costs -/
theorem f34_ok {G0 : Gm} {w0 : World} (hS0 : Sat G0 w0) {b : Nat} {f : Fn} {x y : Array Value} : Calls Tryz.prog 34 #[pV b, .func f x y] w0 (RetG G0 w0 (fun G r => ∃ c d, r = .func (.func 96) #[] #[pV d, pV c] ∧ Cells G c 0 [pV b] ∧ Cells G d 0 [.func f x y])) := by
  have hS := Since.start hS0
  refine enter1 (N := 6) (shutG _ _ _) Tryz.func34 rfl rfl rfl rfl (WC_seq (WC_region ?_))
  refine WL_op rfl (OpP_newF (v := fun b => pV b) (cs := [pV b]) (e := 51) (by kernel_rfl) hS.sat rfl fun c G1 w1 hg hc => ?_)
  have hS := hS.grow hg
  refine WL_op rfl (OpP_newF (v := fun b => pV b) (cs := [.func f x y]) (e := 93) (by kernel_rfl) hS.sat rfl fun d G2 w2 hg2 hd => ?_)
  have hS := hS.grow hg2
  refine WL_val (rn_assign (v := .nilFunc) rfl) rfl (WL_nil (WC_seq (WC_region (WL_val (rn_func (vs := []) (us := [pV d, pV c]) rfl rfl) rfl (WL_val (rn_assign (v := .func (.func 96) #[] #[pV d, pV c]) rfl) rfl (WL_nil (WC_ret ?_)))))))
  exact ⟨_, _, rfl, hS.toGrow, _, _, rfl, hc.mono hg2.le, hd⟩
end Go.Proofs.YtdgkjgljkgjjiaaGreatDoor
/-
  The council: what asks, for a trip that is to be guarded or freed; what tells the beetles' days, and the money.
-/
namespace Go.Proofs.YtdgkjgljkgjjiaaGreatDoor
open Go.RowKit
set_option linter.unusedVariables false
set_option maxRecDepth 20000

section
variable {G0 : Gm} {w0 : World} {b c d : Nat} {n : Int}
/-- what guarding a trip costs -/
theorem f28_ok (hS0 : Sat G0 w0) {a3 : Option Addr} {n3 c3 : Nat} {ts : List TBaneTrip} {y : TBaneTrip} (hc : w0.cell? ⟨c, 0, none⟩ = some (pV b)) (hd : w0.cell? ⟨d, 0, none⟩ = some (iV n)) (h26 : w0.cell? ⟨b, 26, none⟩ = some (.slice a3 n3 c3)) (h3 : RSl RTBaneTrip 4 G0 a3 n3 c3 ts) (hy : ix ts n = some y) :
    Calls Tryz.prog 28 #[pV c, pV d] w0 (RetV w0 (iV y.Cost)) := by
  have hS := Since.start hS0
  refine enter1 (N := 13) (shutV _ _) Tryz.func28 rfl rfl rfl rfl (WC_seq (WC_region (WL_val (rn_assign (v := iV 0) rfl) rfl (WL_nil (WC_seq ?_)))))
  refine WC_regionD mixedO (fun _ w => Sat G0 w ∧ w.cell? ⟨c, 0, none⟩ = some (pV b) ∧ w.cell? ⟨d, 0, none⟩ = some (iV n) ∧ w.cell? ⟨b, 26, none⟩ = some (.slice a3 n3 c3)) (.fl 0 (.fl 1 (.fl 2 (.fl 3 (.fl 4 (.fl 5 (.fl 6 (.fl 7 (.fl 8 (.fl 9 (.on 10 .nil))))))))))) (by kernel_rfl) rfl (by kernel_rfl) (fun _ => ⟨(hS.keep (below_drew _)).sat, cell_below (below_drew _) hc, cell_below (below_drew _) hd, cell_below (below_drew _) h26⟩) ?_
  refine WD_val rfl (fun w hw => rn_load na51c rfl hw.2.1) rfl (WD_val (v := pV b) rfl (fun w hw => by kernel_rfl) rfl (WD_val rfl (fun w hw => rn_fld fd92_0 rfl) rfl (WD_val rfl (fun w hw => rn_fld gd49_4 rfl) rfl (WD_val rfl (fun w hw => rn_fld gd38_3 rfl) rfl (WD_val rfl (fun w hw => rn_load na36c rfl hw.2.2.2) rfl (WD_val rfl (fun w hw => rn_load na3c rfl hw.2.2.1) rfl ?_))))))
  refine WD_idx rfl sl36c h3 hy rfl rfl rfl ?_
  rintro bt ot _ hct _ ⟨⟩
  refine WD_val rfl (fun w hw => rn_fld gd82_3 rfl) rfl (WD_val rfl (fun w hw => rn_load na3c rfl (hw.1.cell (hct 3 _ rfl))) rfl (WD_op rfl rfl (OpP_val (rn_assign (v := iV y.Cost) rfl) rfl ⟨fun _ h => noneed (by kernel_rfl) h, WD_nil (WC_ret ?_)⟩)))
  exact ⟨rfl, below_drew _⟩
/-- whether a number is one of a trip -/
theorem f92_ok (hS0 : Sat G0 w0) {a3 : Option Addr} {n3 c3 : Nat} (hc : w0.cell? ⟨c, 0, none⟩ = some (pV b)) (hd : w0.cell? ⟨d, 0, none⟩ = some (iV n)) (h26 : w0.cell? ⟨b, 26, none⟩ = some (.slice a3 n3 c3)) (h1 : n3 ≤ c3) (h0 : 0 ≤ n) (hn : n < (n3 : Int)) (h9 : n3 ≤ 1000) :
    Calls Tryz.prog 92 #[pV d, pV c] w0 (RetV w0 (.bool true)) := by
  have hS := Since.start hS0
  refine enter1 (N := 13) (shutV _ _) Tryz.func92 rfl rfl rfl rfl (WC_seq (WC_region (WL_val (rn_assign (v := .bool false) rfl) rfl (WL_nil (WC_seq ?_)))))
  refine WC_regionD mixedO (fun _ w => w.cell? ⟨c, 0, none⟩ = some (pV b) ∧ w.cell? ⟨d, 0, none⟩ = some (iV n) ∧ w.cell? ⟨b, 26, none⟩ = some (.slice a3 n3 c3)) (.fl 0 (.fl 1 (.fl 2 (.fl 3 (.fl 4 (.fl 5 (.fl 6 (.fl 7 (.fl 8 (.on 9 (.on 10 .nil))))))))))) (by kernel_rfl) rfl (by kernel_rfl) (fun _ => ⟨cell_below (below_drew _) hc, cell_below (below_drew _) hd, cell_below (below_drew _) h26⟩) ?_
  refine WD_val rfl (fun w hw => rn_load na3c rfl hw.2.1) rfl (WD_val rfl (fun w hw => rn_load na51c rfl hw.1) rfl (WD_val (v := pV b) rfl (fun w hw => by kernel_rfl) rfl (WD_val rfl (fun w hw => rn_fld fd92_0 rfl) rfl (WD_val rfl (fun w hw => rn_fld gd49_4 rfl) rfl (WD_val rfl (fun w hw => rn_fld gd38_3 rfl) rfl (WD_val rfl (fun w hw => rn_load na36c rfl hw.2.2) rfl (WD_val rfl (fun w hw => rn_len (m := n3) sl36c rfl rfl rfl) rfl (WD_val rfl (fun w hw => rn_sub rfl rfl) rfl ?_))))))))
  have hw : IntKind.i64.wrap ((n3 : Int) - 1) = (n3 : Int) - 1 := by rw [IntKind.wrap_i64]; omega
  rw [hw]
  refine WD_op rfl rfl (OpP_callV cb93c (f93_ok (r := true) (hS.keep (below_drew w0)).sat (by unfold f93; rw [if_pos (by simpa using h0)]; simp; omega)) rfl rfl fun w7 hb => ⟨fun _ h => noneed (by kernel_rfl) h, ?_⟩)
  refine WD_op rfl rfl (OpP_val (rn_assign (v := .bool true) rfl) rfl ⟨fun _ h => noneed (by kernel_rfl) h, WD_nil (WC_ret ?_)⟩)
  exact ⟨rfl, (below_drew w0).trans hb⟩
/-- whether a trip is not guarded -/
theorem f32_ok (hS0 : Sat G0 w0) {a3 : Option Addr} {n3 c3 : Nat} {gl : List Int} {r : Bool} (hc : w0.cell? ⟨c, 0, none⟩ = some (pV b)) (hd : w0.cell? ⟨d, 0, none⟩ = some (iV n)) (h55 : w0.cell? ⟨b, 55, none⟩ = some (.slice a3 n3 c3)) (h3 : RSl RInt 1 G0 a3 n3 c3 gl) (hy : f33 gl n = some r) :
    Calls Tryz.prog 32 #[pV c, pV d] w0 (RetV w0 (.bool (!r))) := by
  have hS := Since.start hS0
  refine enter1 (N := 10) (shutV _ _) Tryz.func32 rfl rfl rfl rfl (WC_seq (WC_region (WL_val (rn_assign (v := .bool false) rfl) rfl (WL_nil (WC_seq ?_)))))
  refine WC_regionD mixedO (fun _ w => w.cell? ⟨c, 0, none⟩ = some (pV b) ∧ w.cell? ⟨d, 0, none⟩ = some (iV n) ∧ w.cell? ⟨b, 55, none⟩ = some (.slice a3 n3 c3)) (.fl 0 (.fl 1 (.fl 2 (.fl 3 (.fl 4 (.on 5 (.on 6 (.on 7 .nil)))))))) (by kernel_rfl) rfl (by kernel_rfl) (fun _ => ⟨cell_below (below_drew _) hc, cell_below (below_drew _) hd, cell_below (below_drew _) h55⟩) ?_
  have hS := hS.keep (below_drew w0)
  refine WD_val rfl (fun w hw => rn_load na51c rfl hw.1) rfl (WD_val (v := pV b) rfl (fun w hw => by kernel_rfl) rfl (WD_val rfl (fun w hw => rn_fld fd92_5 rfl) rfl (WD_val rfl (fun w hw => rn_load na24c rfl hw.2.2) rfl (WD_val rfl (fun w hw => rn_load na3c rfl hw.2.1) rfl ?_))))
  refine WD_op rfl rfl (OpP_callV cb33c (f33_ok hS.sat h3 hy) rfl rfl fun w7 hb => ⟨fun _ h => noneed (by kernel_rfl) h, ?_⟩)
  refine WD_op rfl rfl (OpP_val (rn_not rfl) rfl ⟨fun _ h => noneed (by kernel_rfl) h, ?_⟩)
  refine WD_op rfl rfl (OpP_val (rn_assign (v := .bool (!r)) rfl) rfl ⟨fun _ h => noneed (by kernel_rfl) h, WD_nil (WC_ret ?_)⟩)
  exact ⟨rfl, (below_drew w0).trans hb⟩
/-- whether a trip is guarded -/
theorem f42_ok (hS0 : Sat G0 w0) {a3 : Option Addr} {n3 c3 : Nat} {gl : List Int} {r : Bool} (hc : w0.cell? ⟨c, 0, none⟩ = some (pV b)) (hd : w0.cell? ⟨d, 0, none⟩ = some (iV n)) (h55 : w0.cell? ⟨b, 55, none⟩ = some (.slice a3 n3 c3)) (h3 : RSl RInt 1 G0 a3 n3 c3 gl) (hy : f33 gl n = some r) :
    Calls Tryz.prog 42 #[pV c, pV d] w0 (RetV w0 (.bool r)) := by
  have hS := Since.start hS0
  refine enter1 (N := 9) (shutV _ _) Tryz.func42 rfl rfl rfl rfl (WC_seq (WC_region (WL_val (rn_assign (v := .bool false) rfl) rfl (WL_nil (WC_seq ?_)))))
  refine WC_regionD mixedO (fun _ w => w.cell? ⟨c, 0, none⟩ = some (pV b) ∧ w.cell? ⟨d, 0, none⟩ = some (iV n) ∧ w.cell? ⟨b, 55, none⟩ = some (.slice a3 n3 c3)) (.fl 0 (.fl 1 (.fl 2 (.fl 3 (.fl 4 (.on 5 (.on 6 .nil))))))) (by kernel_rfl) rfl (by kernel_rfl) (fun _ => ⟨cell_below (below_drew _) hc, cell_below (below_drew _) hd, cell_below (below_drew _) h55⟩) ?_
  have hS := hS.keep (below_drew w0)
  refine WD_val rfl (fun w hw => rn_load na51c rfl hw.1) rfl (WD_val (v := pV b) rfl (fun w hw => by kernel_rfl) rfl (WD_val rfl (fun w hw => rn_fld fd92_5 rfl) rfl (WD_val rfl (fun w hw => rn_load na24c rfl hw.2.2) rfl (WD_val rfl (fun w hw => rn_load na3c rfl hw.2.1) rfl ?_))))
  refine WD_op rfl rfl (OpP_callV cb33c (f33_ok hS.sat h3 hy) rfl rfl fun w7 hb => ⟨fun _ h => noneed (by kernel_rfl) h, ?_⟩)
  refine WD_op rfl rfl (OpP_val (rn_assign (v := .bool r) rfl) rfl ⟨fun _ h => noneed (by kernel_rfl) h, WD_nil (WC_ret ?_)⟩)
  exact ⟨rfl, (below_drew w0).trans hb⟩
/-- whether there is as much money as something costs -/
theorem f96_ok {k : Nat} {ca : List Value} {x mo : Int} (hd : w0.cell? ⟨d, 0, none⟩ = some (.func (.func k) #[] ca.toArray)) (hc : w0.cell? ⟨c, 0, none⟩ = some (pV b)) (h50 : w0.cell? ⟨b, 50, none⟩ = some (iV mo)) (hk : callB Tryz.prog k = true) (h : ∀ w, Below w0.heap.size w0 w → Calls Tryz.prog k ca.toArray w (RetV w (iV x))) (hx : x ≤ mo) :
    Calls Tryz.prog 96 #[pV d, pV c] w0 (RetV w0 (iV 0)) := by
  refine enter1 (N := 12) (shutV _ _) Tryz.func96 rfl rfl rfl rfl (WC_seq (WC_region (WL_val (rn_assign (v := iV 0) rfl) rfl (WL_nil (WC_seq ?_)))))
  refine WC_regionD mixedO (fun _ w => w.cell? ⟨c, 0, none⟩ = some (pV b) ∧ w.cell? ⟨d, 0, none⟩ = some (.func (.func k) #[] ca.toArray) ∧ w.cell? ⟨b, 50, none⟩ = some (iV mo)) (.fl 0 (.fl 2 (.fl 3 (.fl 4 (.fl 5 (.fl 6 (.on 1 (.on 7 (.on 8 (.on 9 .nil)))))))))) (by kernel_rfl) rfl (by kernel_rfl) (fun _ => ⟨cell_below (below_drew _) hc, cell_below (below_drew _) hd, cell_below (below_drew _) h50⟩) ?_
  refine WD_val rfl (fun w hw => rn_load na93c rfl hw.2.1) rfl (WD_val rfl (fun w hw => rn_load na51c rfl hw.1) rfl (WD_val (v := pV b) rfl (fun w hw => by kernel_rfl) rfl (WD_val rfl (fun w hw => rn_fld fd92_0 rfl) rfl (WD_val rfl (fun w hw => rn_fld gd49_8 rfl) rfl (WD_val rfl (fun w hw => rn_load na3c rfl hw.2.2) rfl ?_)))))
  refine WD_op rfl rfl (OpP_callVF (fi := []) (al := []) (ca := ca) hk (h _ (below_drew w0)) rfl rfl rfl fun w1 h1 => ⟨fun _ _ => ⟨cell_below h1 (cell_below (below_drew _) hc), cell_below h1 (cell_below (below_drew _) hd), cell_below h1 (cell_below (below_drew _) h50)⟩, ?_⟩)
  refine WD_op rfl rfl (OpP_val (rn_leq rfl rfl) rfl ⟨fun _ h => noneed (by kernel_rfl) h, ?_⟩)
  rw [show decide (x ≤ mo) = true by simpa using hx]
  refine WD_op rfl rfl (OpP_callV cb88c (f88_val true 7 w1) rfl rfl fun w2 h2 => ⟨fun _ h => noneed (by kernel_rfl) h, ?_⟩)
  refine WD_op rfl rfl (OpP_val (rn_assign (v := iV 0) rfl) rfl ⟨fun _ h => noneed (by kernel_rfl) h, WD_nil (WC_ret ?_)⟩)
  exact ⟨rfl, ((below_drew w0).trans h1).trans (h2.mono ((below_drew w0).trans h1).size)⟩
/-- the money -/
theorem f41_ok {mo : Int} {a : Value} (h : CoW w0 b a) (h50 : w0.cell? ⟨b, 50, none⟩ = some (iV mo)) : Calls Tryz.prog 41 #[pV b] w0 (RetV w0 (.tuple #[iV mo, iV 0])) := by
  refine enter2 (N := 11) (shutV _ _) Tryz.func41 rfl rfl rfl rfl (WC_seq (WC_region (WL_val (rn_assign (v := iV 0) rfl) rfl (WL_val (rn_assign (v := iV 0) rfl) rfl (WL_nil (WC_seq (WC_seq (WC_region (WL_val (rn_move (v := pV b) rfl) rfl ?_)))))))))
  refine WL_op rfl (OpP_callV cb37c (f37_ok h) rfl rfl fun w1 hb => ?_)
  refine WL_nil (WC_cond rfl (fun h => by cases h) (fun _ => WC_skip (WC_seq (WC_region (WL_val (rn_move (v := pV b) rfl) rfl (WL_val (v := pV b) (by kernel_rfl) rfl (WL_val (rn_fld fd92_0 rfl) rfl (WL_val (rn_fld gd49_8 rfl) rfl (WL_val (rn_load na3c rfl (cell_below hb h50)) rfl (WL_val (rn_assign (v := iV mo) rfl) rfl (WL_val (rn_assign (v := iV 0) rfl) rfl (WL_nil (WC_ret ?_)))))))))))))
  exact ⟨rfl, hb⟩
/-- the beetles' days -/
theorem f9_ok (hS0 : Sat G0 w0) {s : TBaneSea} {gl : List Int} {a1 a2 a3 a4 : Option Addr} {n1 c1 n2 c2 n3 c3 n4 c4 : Nat} {a : Value} (h : CoW w0 b a)
    (hsea : ∀ (j : Nat) v, [iV s.Islets, .slice a1 n1 c1, .slice a2 n2 c2, .slice a3 n3 c3, iV s.Wait][j]? = some v → w0.cell? ⟨b, 23 + j, none⟩ = some v) (h55 : w0.cell? ⟨b, 55, none⟩ = some (.slice a4 n4 c4))
    (h1 : RSl RInt 1 G0 a1 n1 c1 s.Infested) (h2 : RSl RInt 1 G0 a2 n2 c2 s.Clean) (h3 : RSl RTBaneTrip 4 G0 a3 n3 c3 s.Trips) (h4 : RSl RInt 1 G0 a4 n4 c4 gl) {r : List Int × Int} (H : f38 s gl = some r) :
    Calls Tryz.prog 9 #[pV b] w0 (RetG G0 w0 (fun G v => ∃ (ra0 : Option Addr) (rn0 rc0 : Nat), v = .tuple #[.slice ra0 rn0 rc0, iV r.2] ∧ RSl RInt 1 G ra0 rn0 rc0 r.1)) := by
  have hS := Since.start hS0
  refine enter2 (N := 18) (shutG _ _ _) Tryz.func9 rfl rfl rfl rfl (WC_seq (WC_region (WL_val (rn_assign (v := .slice none 0 0) rfl) rfl (WL_val (rn_assign (v := iV 0) rfl) rfl (WL_nil (WC_seq (WC_seq (WC_region (WL_val (rn_move (v := pV b) rfl) rfl ?_)))))))))
  refine WL_op rfl (OpP_callV cb37c (f37_ok h) rfl rfl fun w1 hb => ?_)
  have hS := hS.keep hb
  have kp : ∀ {G : Gm} {w : World}, Since w0.heap.size G0 w0 G w → (∀ (j : Nat) v, [iV s.Islets, .slice a1 n1 c1, .slice a2 n2 c2, .slice a3 n3 c3, iV s.Wait][j]? = some v → w.cell? ⟨b, 0 + 23 + j, none⟩ = some v) ∧ w.cell? ⟨b, 55, none⟩ = some (.slice a4 n4 c4) := fun hS => ⟨fun j v hj => by rw [Nat.zero_add]; exact cell_below hS.below (hsea j v hj), cell_below hS.below h55⟩
  refine WL_nil (WC_cond rfl (fun h => by cases h) (fun _ => WC_skip (WC_seq ?_)))
  refine WC_regionD mixedO (fun _ w => (∀ (j : Nat) v, [iV s.Islets, .slice a1 n1 c1, .slice a2 n2 c2, .slice a3 n3 c3, iV s.Wait][j]? = some v → w.cell? ⟨b, 0 + 23 + j, none⟩ = some v) ∧ w.cell? ⟨b, 55, none⟩ = some (.slice a4 n4 c4)) (.fl 0 (.fl 1 (.fl 2 (.fl 3 (.fl 4 (.fl 5 (.fl 6 (.fl 7 (.fl 8 (.on 9 (.fl 10 (.fl 11 (.on 12 (.on 13 .nil)))))))))))))) (by kernel_rfl) rfl (by kernel_rfl) (fun _ => kp (hS.keep (below_drew w1))) ?_
  have hS := hS.keep (below_drew w1)
  refine WD_val (v := pV b) rfl (fun w hw => rn_move rfl) rfl (WD_val (v := pV b) rfl (fun w hw => by kernel_rfl) rfl (WD_val rfl (fun w hw => rn_fld fd92_0 rfl) rfl (WD_val rfl (fun w hw => rn_fld gd49_4 rfl) rfl (WD_val rfl (fun w hw => rn_loadA (cs := [iV s.Islets, .slice a1 n1 c1, .slice a2 n2 c2, .slice a3 n3 c3, iV s.Wait]) ag38g rfl rfl hw.1) rfl (WD_val (v := pV b) rfl (fun w hw => rn_move rfl) rfl (WD_val (v := pV b) rfl (fun w hw => by kernel_rfl) rfl (WD_val rfl (fun w hw => rn_fld fd92_5 rfl) rfl (WD_val rfl (fun w hw => rn_load na24c rfl hw.2) rfl ?_))))))))
  refine WD_op rfl rfl (OpP_callG cb38c (f38_ok hS.sat h1 h2 h3 h4 H) rfl rfl fun v G2 w2 hg hv => ⟨fun _ _ => kp (hS.grow hg), ?_⟩)
  obtain ⟨ra, rn, rc, rfl, hr⟩ := hv
  have hS := hS.grow hg
  refine WD_val rfl (fun w hw => rn_extract rfl rfl) rfl (WD_val rfl (fun w hw => rn_extract rfl rfl) rfl ?_)
  refine WD_op rfl rfl (OpP_val (rn_assign (v := .slice ra rn rc) rfl) rfl ⟨fun _ h => noneed (by kernel_rfl) h, ?_⟩)
  refine WD_op rfl rfl (OpP_val (rn_assign (v := iV r.2) rfl) rfl ⟨fun _ h => noneed (by kernel_rfl) h, WD_nil (WC_ret ?_)⟩)
  exact ⟨_, _, rfl, hS.toGrow, _, _, _, rfl, hr⟩
end
end Go.Proofs.YtdgkjgljkgjjiaaGreatDoor
/-
  The council: an act is tried, and noted (where nothing stands against it).
-/
namespace Go.Proofs.YtdgkjgljkgjjiaaGreatDoor
open Go.RowKit
set_option linter.unusedVariables false
set_option maxRecDepth 20000

theorem WI_rounds {κ : Ctx} {P : Program} {N : Nat} {n r : Fr → World → Prop} {x : List (Nat × (Fr → World → Prop))} {p : List PanicEntry → Fr → World → Prop} {c : Code} (m : Nat) (J : Nat → Fr → World → Prop)
    (step : ∀ i F w, i < m → J i F w → WC κ P N c ⟨J (i + 1), r, x, p⟩ F w) (last : ∀ F w, J m F w → WI κ P N c ⟨n, r, x, p⟩ F w) : ∀ (d i : Nat) (F : Fr) (w : World), i + d = m → J i F w → WI κ P N c ⟨n, r, x, p⟩ F w
  | 0, i, F, w, h, hJ => last F w (by obtain rfl : i = m := h; exact hJ)
  | d + 1, i, F, w, h, hJ => WI_step (WC_mono (fun e F' w' he => by
      cases e with
      | normal => exact WI_rounds m J step last d (i + 1) F' w' (by omega) he
      | _ => exact he) (step i F w (by omega) hJ))
/-- the council's own rows: its block, its acts -/
abbrev rowC (b : Nat) (cc : List Value) : Row := ⟨92, 62, 1, .slice (some ⟨b, 0, none⟩) 1 1, cc⟩
abbrev rowA (n : Nat) (v : Value) (ac : List Value) : Row := ⟨173, 1, n, v, ac⟩
theorem sl90d : slB Tryz.prog 90 = some (173, 1, 16) := by kernel_rfl
theorem sz90c : szB Tryz.prog 90 = some 1 := by kernel_rfl
theorem sz176c : szB Tryz.prog 176 = some 3 := by kernel_rfl
/-- acts that were done, one cell each -/
def RAct : Gm → List Value → Value → Prop := fun _ cs x => cs = [x] ∧ x.oneCell' = true
theorem RAct_mono : Mono RAct := fun _ _ _ _ _ h => h
theorem RAct_one : One RAct := fun _ _ _ h u hu => by obtain ⟨rfl, h⟩ := h; simp at hu; subst hu; exact h
theorem app_s {α : Type} (xs ys : List α) (h : xs.length + ys.length ≤ 1073741824) : app xs ys = some (xs ++ ys) := by simp [app, h]
theorem wrap_s {i : Nat} (h : i < 100) : IntKind.i64.wrap ((i : Int) + 1) = ((i + 1 : Nat) : Int) := by rw [IntKind.wrap_i64]; omega
/-- a closure, by its number and what it caught -/
abbrev fV (p : Nat × List Value) : Value := .func (.func p.1) #[] p.2.toArray
set_option maxHeartbeats 1000000 in
theorem f29_ok {B : Nat} {G0 : Gm} {w0 : World} {Gc : Gm} {wc : World} {Lq : List Row} {b n bm : Nat} {cc ac : List Value} {ta : TypeId} {xa : Value} {xs : List Value} {ad : Option Addr} {cp0 : Nat} {kr : Nat} {cr : List Value} {ms : List (Nat × List Value)} {mn : Nat}
    (hS : Since B G0 w0 Gc wc) (hO : Owns Gc wc B (rowC b cc :: rowA n (.slice ad n cp0) ac :: Lq)) (h2 : 2 ≤ B) (hmn : ms.length = mn) (hm2 : mn ≤ 2) (hk1 : ∀ p, ms[0]? = some p → p.1 ≠ 87) (hm : Cells Gc bm 0 (ms.map fV)) (hm0 : ms ≠ [])
    (hcat : ∀ v1 v2 v3 : Nat × List Value, Ev.getC (Ev.outC mn [fV v1, fV v2, fV v3] (ms.map fV)) = some (.slc 5 0 (3 + mn) (3 + mn) 1, some (.cells (.l (([fV v1, fV v2, fV v3] ++ ms.map fV).map .lit)) false)))
    (hr : callB Tryz.prog kr = true ∧ ∀ G w, Gle Gc G → Since B G0 w0 G w → Owns G w B (rowC b cc :: rowA n (.slice ad n cp0) ac :: Lq) → Calls Tryz.prog kr cr.toArray w (RetV w (.bool true)))
    (h61 : cc[61]? = some (.bool true)) (hn : n < 100) (hxs : n = xs.length) (hrd : Rd RAct 1 Gc ac xs) (h60 : cc[60]? = some (.slice ad n cp0)) (hcl62 : cc.length = 62)
    (hd : ∀ p ∈ ms, callB Tryz.prog p.1 = true ∧ ∀ G w, Gle Gc G → Since B G0 w0 G w → Owns G w B (rowC b cc :: rowA n (.slice ad n cp0) ac :: Lq) → Calls Tryz.prog p.1 p.2.toArray w (RetV w (iV 0))) :
    Calls Tryz.prog 29 [pV b, .iface ta xa, .func (.func kr) #[] cr.toArray, .slice (some ⟨bm, 0, none⟩) mn mn].toArray wc (RetO B G0 w0 Gc wc (fun G' L' v => v = iV 0 ∧ ∃ ad' cp' ac', L' = rowC b (splice cc 60 [.slice ad' (n + 1) cp']) :: rowA (n + 1) (.slice ad' (n + 1) cp') ac' :: Lq ∧ Rd RAct 1 G' ac' (xs ++ [.iface ta xa]))) := by
  refine enterL (N := 42) (rs := [.tmp 8]) hO.base Tryz.func29 rfl rfl rfl rfl (WC_seq (WC_region ?_))
  refine WL_op rfl (OpP_newF (v := fun b => pV b) (cs := [pV b]) (e := 51) (by kernel_rfl) hS.sat rfl fun b4 G1 w1 hg hc4 => ?_)
  have hS := hS.grow hg
  have hO := hO.grow hg
  refine WL_op rfl (OpP_newF (v := fun b => pV b) (cs := [.func (.func kr) #[] cr.toArray]) (e := 53) (by kernel_rfl) hS.sat rfl fun b6 G2 w2 hg2 hc6 => ?_)
  have hS := hS.grow hg2
  have hO := hO.grow hg2
  refine WL_val (rn_assign (v := iV 0) rfl) rfl (WL_nil (WC_seq (WC_region ?_)))
  refine WL_val (rn_func (vs := []) (us := [pV b4]) rfl rfl) rfl (WL_val (rn_func (vs := []) (us := [pV b6]) rfl rfl) rfl (WL_val (rn_func (vs := []) (us := [pV b4]) rfl rfl) rfl ?_))
  refine WL_val (v := .agg #[fV (87, [pV b4]), fV (89, [pV b6]), fV (90, [pV b4])]) (by kernel_rfl) rfl ?_
  refine WL_op rfl (OpP_newO (v := fun b => pV b) (cs := [.nilFunc, .nilFunc, .nilFunc]) (e := 176) (by kernel_rfl) hS.sat hO rfl 3 1 rfl (by decide) fun b9 w3 hb hO => ?_)
  have hS := hS.keep hb
  refine WL_op rfl (OpP_store (vs := [fV (87, [pV b4]), fV (89, [pV b6]), fV (90, [pV b4])]) sz176c hS hO (k := 0) rfl rfl rfl rfl rfl (one_all rfl) (Nat.le_of_ble_eq_true rfl) fun w4 hS hO => ?_)
  obtain ⟨G3, le3, hS, hO, hq, _⟩ := hO.freeze hS (k := 0) rfl
  have hc9 : Cells G3 b9 0 [fV (87, [pV b4]), fV (89, [pV b6]), fV (90, [pV b4])] := hq _ _ _ _ rfl
  have hO : Owns G3 w4 B (rowC b cc :: rowA n (.slice ad n cp0) ac :: Lq) := hO
  refine WL_nil (WC_seq (WC_seq (WC_region (WL_val (v := .slice (some ⟨b9, 0, none⟩) 3 3) (by kernel_rfl) rfl (WL_val (rn_move (v := .slice (some ⟨bm, 0, none⟩) mn mn) rfl) rfl ?_)))))
  refine WL_op rfl (OpP_newF (v := fun b => .slice (some ⟨b, 0, none⟩) 2 2) (cs := [.slice (some ⟨b9, 0, none⟩) 3 3, .slice (some ⟨bm, 0, none⟩) mn mn]) (e := 174) (by kernel_rfl) hS.sat rfl fun bo G4 w5 hg4 hcb => ?_)
  have hS := hS.grow hg4
  have hO := hO.grow hg4
  have le4 : Gle Gc G4 := ((hg.le.trans hg2.le).trans le3).trans hg4.le
  have hc9 := hc9.mono hg4.le
  have hm4 := hm.mono le4
  have hc4 := hc4.mono ((hg2.le.trans le3).trans hg4.le)
  have hc6 := hc6.mono (le3.trans hg4.le)
  obtain ⟨p0, hp0⟩ : ∃ p, ms[0]? = some p := by
    cases ms with
    | nil => exact absurd rfl hm0
    | cons p l => exact ⟨p, rfl⟩
  have hm40 := hm4 0 (fV p0) (by rw [List.getElem?_map, hp0]; rfl)
  have n1 : bo ≠ b9 := fun e => by subst e; have h1 := hcb 0 _ rfl; have h2 := hc9 0 _ rfl; rw [h1] at h2; cases h2
  have n2 : bo ≠ bm := fun e => by subst e; have h1 := hcb 0 _ rfl; have h2 := hm40; rw [h1] at h2; cases h2
  have n3 : b9 ≠ bm := fun e => by
    subst e
    have h1 := hc9 0 _ rfl
    have h2 := hm40
    rw [h1] at h2
    simp only [Option.some.injEq, Value.func.injEq, Fn.func.injEq] at h2
    exact hk1 p0 hp0 h2.1.symm
  refine WL_op rfl (OpP_enter (rn_call (al := [.slice (some ⟨bo, 0, none⟩) 2 2]) cb91c rfl) rfl (Ev.f91_gen [fV (87, [pV b4]), fV (89, [pV b6]), fV (90, [pV b4])] (ms.map fV) mn rfl (by rw [List.length_map, hmn]) (by simpa using hm0) (hcat _ _ _) (Nat.le_trans h2 hS.base) n1 n2 n3 (fun j v hj => hS.sat.cell (hcb j v hj)) (fun j v hj => hS.sat.cell (hc9 j v hj)) (fun j v hj => hS.sat.cell (hm4 j v hj))) fun e w6 hR => ?_)
  obtain ⟨b', off, cp, rfl, hb, hcell⟩ := hR
  refine ⟨_, rfl, .below hb, ?_⟩
  have hS := hS.keep hb
  have hO := hO.below hb
  obtain ⟨e174, by174, hs⟩ := sl174c
  refine WL_val (rn_len (m := 3 + mn) hs rfl rfl rfl) rfl (WL_val (rn_move (v := iV 0) rfl) rfl (WL_nil ?_))
  refine WC_block (WC_loopI (WI_rounds (3 + mn) (fun i F w => ∃ Fb, F = upds Fb [(1, .iface ta xa), (4, pV b4), (20, .slice (some ⟨b', off, none⟩) (3 + mn) cp), (21, iV ((3 + mn : Nat) : Int)), (22, iV i)] ∧ Since B G0 w0 G4 w ∧ Owns G4 w B (rowC b cc :: rowA n (.slice ad n cp0) ac :: Lq) ∧
    ∀ (j : Nat) v, ([fV (87, [pV b4]), fV (89, [pV b6]), fV (90, [pV b4])] ++ ms.map fV)[j]? = some v → w.cell? ⟨b', off + j, none⟩ = some v) ?_ ?_ (3 + mn) 0 _ _ (by omega) ⟨_, upds_self _ _ ⟨rfl, rfl, rfl, rfl, rfl, trivial⟩, hS, hO, hcell⟩))
  · rintro i F w hi ⟨Fb, rfl, hS, hO, hcell⟩
    have spec : ∃ k ca, ([fV (87, [pV b4]), fV (89, [pV b6]), fV (90, [pV b4])] ++ ms.map fV)[i]? = some (.func (.func k) #[] (ca : List Value).toArray) ∧ callB Tryz.prog k = true ∧ Calls Tryz.prog k ca.toArray w (RetV w (iV 0)) := by
      have hc : CoW w b (.slice ad n cp0) := ⟨own_cell hO (k := 0) rfl h60, own_cell hO (k := 0) rfl h61⟩
      match i, hi with
      | 0, _ => exact ⟨87, [pV b4], rfl, cb87c, f87_ok hc (hS.sat.cell (hc4 0 _ rfl))⟩
      | 1, _ => exact ⟨89, [pV b6], rfl, cb89c, f89_ok' (is := true) (hS.sat.cell (hc6 0 _ rfl)) hr.1 (hr.2 G4 w le4 hS hO)⟩
      | 2, _ => refine ⟨90, [pV b4], rfl, cb90c, ?_⟩
                have := f90_ok hc (hS.sat.cell (hc4 0 _ rfl))
                rw [show decide ((n : Int) < 100) = true by simp; omega] at this
                exact this
      | i + 3, hi =>
        obtain ⟨p, hp⟩ : ∃ p, ms[i]? = some p := ⟨ms[i]'(by omega), List.getElem?_eq_getElem (by omega)⟩
        obtain ⟨q1, q2⟩ := hd p (List.mem_of_getElem? hp)
        exact ⟨p.1, p.2, by rw [List.getElem?_append_right (by simp)]; simp [hp], q1, q2 G4 w le4 hS hO⟩
    obtain ⟨k, ca, hcl, hk, hcall⟩ := spec
    have hcl' := hcell i _ hcl
    refine WC_seq (WC_region (WL_val (rn_lss rfl rfl) rfl (WL_nil (WC_seq (WC_condT (decide ((i : Int) < ((3 + mn : Nat) : Int))) (by simp; omega) rfl (WC_skip ?_))))))
    refine WC_seq (WC_block (WC_seq (WC_region (WL_val (rn_idxL hs rfl rfl (by omega)) rfl (WL_val (rn_load na98c rfl (by rw [Nat.mul_one]; exact hcl')) rfl (WL_val (rn_assign (v := .func (.func k) #[] ca.toArray) rfl) rfl (WL_nil (WC_seq (WC_region (WL_val (rn_move (v := .func (.func k) #[] ca.toArray) rfl) rfl ?_))))))))))
    refine WL_op rfl (OpP_callVF (fi := []) (al := []) (ca := ca) hk hcall rfl rfl rfl fun w7 hb => ?_)
    refine WL_val (rn_assign (v := iV 0) rfl) rfl (WL_nil (WC_seq (WC_region (WL_val (rn_move (v := iV 0) rfl) rfl (WL_val (rn_neq rfl rfl) rfl (WL_nil (WC_condF false rfl rfl (WC_skip ?_))))))))
    refine WC_region (WL_val (rn_add rfl rfl) rfl (WL_val (rn_move (v := iV (IntKind.i64.wrap ((i : Int) + 1))) rfl) rfl (WL_nil ?_)))
    exact ⟨_, upds_self _ _ ⟨rfl, rfl, rfl, rfl, congrArg iV (wrap_s (by omega)), trivial⟩, hS.keep hb, hO.below hb, fun j v hj => cell_below hb (hcell j v hj)⟩
  · rintro F w7 ⟨Fb, rfl, hS, hO, hcell⟩
    refine WI_step (WC_seq (WC_region (WL_val (rn_lss rfl rfl) rfl (WL_nil (WC_seq (WC_condF (decide (((3 + mn : Nat) : Int) < ((3 + mn : Nat) : Int))) (by simp) rfl (WC_exit rfl ?_)))))))
    have hrd := hrd.mono RAct_mono le4
    have hv60 : w7.cell? ⟨b, 60, none⟩ = some (.slice ad n cp0) := own_cell hO (k := 0) rfl h60
    refine WC_seq (WC_regionD mixedO (fun _ w => Sat G4 w ∧ w.cell? ⟨b, 60, none⟩ = some (.slice ad n cp0)) (.fl 0 (.fl 1 (.fl 2 (.fl 3 (.fl 4 (.fl 5 (.on 6 (.on 7 (.on 8 (.on 9 (.on 10 .nil))))))))))) (by kernel_rfl) rfl (by kernel_rfl) (fun _ => ⟨(hS.keep (below_drew _)).sat, cell_below (below_drew _) hv60⟩) ?_)
    have hS := hS.keep (below_drew w7)
    have hO := hO.below (below_drew w7)
    refine WD_val rfl (fun w hw => rn_load na51c rfl (hw.1.cell (hc4 0 _ rfl))) rfl (WD_val rfl (fun w hw => rn_load na51c rfl (hw.1.cell (hc4 0 _ rfl))) rfl (WD_val (v := pV b) rfl (fun w hw => by kernel_rfl) rfl (WD_val rfl (fun w hw => rn_fld fd92_10 rfl) rfl (WD_val rfl (fun w hw => rn_load na90c rfl hw.2) rfl (WD_val (v := .iface ta xa) rfl (fun w hw => rn_move rfl) rfl ?_)))))
    refine WD_op rfl rfl (OpP_newF (v := fun b => .slice (some ⟨b, 0, none⟩) 1 1) (cs := [.iface ta xa]) (e := 173) (by kernel_rfl) hS.sat rfl fun b11 G6 w8 hg hc11 => ?_)
    have hS := hS.grow hg
    have hO := hO.grow hg
    refine ⟨fun _ _ => ⟨hS.sat.le hg.le, own_cell hO (k := 0) rfl h60⟩, ?_⟩
    refine WD_op rfl rfl (OpP_append (k := 1) sl90d RAct_one hS hO rfl hxs (hrd.mono RAct_mono hg.le) (RSl.of_rd hc11 (Rd.cons (c := [.iface ta xa]) rfl ⟨rfl, rfl⟩ (Rd.nil _ _ _)) rfl (show 1 ≤ maxLen by decide)) (app_s xs [.iface ta xa] (by simp; omega)) rfl rfl rfl rfl rfl fun a9 c9 w9 ac9 hS hO hr9 => ?_)
    have hzl : (xs ++ [Value.iface ta xa]).length = n + 1 := by simp [hxs]
    rw [hzl] at hO ⊢
    have hO : Owns G6 w9 B (rowC b cc :: rowA (n + 1) (.slice a9 (n + 1) c9) ac9 :: Lq) := hO
    refine ⟨fun _ _ => ⟨hS.sat.le hg.le, own_cell hO (k := 0) rfl h60⟩, ?_⟩
    refine WD_op rfl rfl (OpP_val (v := pV b) (by kernel_rfl) rfl ⟨fun _ h => noneed (by kernel_rfl) h, ?_⟩)
    refine WD_op rfl rfl (OpP_val (rn_fld fd92_10 rfl) rfl ⟨fun _ h => noneed (by kernel_rfl) h, ?_⟩)
    refine WD_op rfl rfl (OpP_store (vs := [.slice a9 (n + 1) c9]) sz90c hS hO (k := 0) rfl rfl rfl rfl rfl (one_all rfl) (by simp [hcl62]) fun w10 hS hO => ⟨fun _ h => noneed (by kernel_rfl) h, ?_⟩)
    have hO : Owns G6 w10 B (rowC b (splice cc 60 [.slice a9 (n + 1) c9]) :: rowA (n + 1) (.slice a9 (n + 1) c9) ac9 :: Lq) := hO
    refine WD_nil (WC_seq (WC_region (WL_val (rn_assign (v := iV 0) rfl) rfl (WL_nil (WC_ret ?_)))))
    exact ⟨[iV 0], ⟨rfl, trivial⟩, G6, _, le4.trans hg.le, hS, hO, rfl, _, _, _, rfl, hr9⟩
end Go.Proofs.YtdgkjgljkgjjiaaGreatDoor
/-
  The list of guards, with one more: a copy, one behind it; putting a list in order that is in order leaves it.
-/
namespace Go.Proofs.YtdgkjgljkgjjiaaGreatDoor
open Go.RowKit
set_option linter.unusedVariables false
set_option maxRecDepth 20000
namespace Ev
noncomputable def lenO (n : Nat) : Out := evM Tryz.prog [] 100 172 [.lit (.int .u64 n)] (tnil 14) 2
noncomputable def getL (o : Out) : Option AV := match o with
  | .ok .ret r m => fget r 0
  | _ => none
theorem len_b : ∀ n : Nat, n ≤ 9 → ∃ k : Int, getL (lenO n) = some (.lit (.int .i64 k))
  | 0, _ => ⟨0, by kernel_rfl⟩
  | 1, _ => ⟨1, by kernel_rfl⟩
  | 2, _ => ⟨2, by kernel_rfl⟩
  | 3, _ => ⟨2, by kernel_rfl⟩
  | 4, _ => ⟨3, by kernel_rfl⟩
  | 5, _ => ⟨3, by kernel_rfl⟩
  | 6, _ => ⟨3, by kernel_rfl⟩
  | 7, _ => ⟨3, by kernel_rfl⟩
  | 8, _ => ⟨4, by kernel_rfl⟩
  | 9, _ => ⟨4, by kernel_rfl⟩
  | n + 10, h => absurd h (by omega)
theorem f172_ok {w : World} (h2 : 2 ≤ w.heap.size) {n : Nat} {k : Int} (hb : getL (lenO n) = some (.lit (.int .i64 k))) : Calls Tryz.prog 172 #[.int .u64 n] w (RetV w (.int .i64 k)) := by
  generalize hσ : (fun b => match b with | 0 => some ⟨0, 0, 0, 0, 0⟩ | 1 => some ⟨1, 0, 0, 0, 0⟩ | _ => none : Sg) = σ
  have hw : RelW ⟨fun k => w.heap.size ≤ k, fun _ => none, fun f => ∃ fn, Tryz.prog.funcs[f]? = some fn⟩ σ (tnil 14) 2 w := by
    subst hσ
    refine ⟨?_, ?_, ?_, ?_, ?_, fun k hk => hk, ?_, fun b o h1 => by cases h1⟩
    · intro b ob e h1 h2
      rw [hget_nil] at h1
      cases h1
    · intro b b' ob ob' e e' h1
      rw [hget_nil] at h1
      cases h1
    · intro b ob e h1
      rw [hget_nil] at h1
      cases h1
    · intro b hb
      match b, hb with
      | 0, hb => exact absurd hb (by decide)
      | 1, hb => exact absurd hb (by decide)
      | b + 2, _ => rfl
    · intro b e h1
      match b, h1 with
      | 0, h1 => cases h1; show 0 < _; omega
      | 1, h1 => cases h1; show 1 < _; omega
      | b + 2, h1 => cases h1
    · intro g hg'
      have hg' : g < 2 := hg'
      match g, hg' with
      | 0, _ => exact ⟨_, rfl, rfl, rfl⟩
      | 1, _ => exact ⟨_, rfl, rfl, rfl⟩
      | g + 2, h => omega
  have hx : concL σ [.lit (.int .u64 n)] = some [.int .u64 n] := rfl
  generalize hout : lenO n = out at hb
  unfold getL at hb
  split at hb
  · rename_i r mm
    have he : evM Tryz.prog [] 100 172 [.lit (.int .u64 n)] (tnil 14) 2 = .ok .ret r mm := hout
    have hc := evM_ok (none_okC Tryz.prog) 100 _ (fun f => Iff.rfl) σ w 172 [.lit (.int .u64 n)] _ _ _ hw hx (by rw [he]; simp)
    rw [he] at hc
    have hc' : Calls Tryz.prog 172 #[.int .u64 n] w (CallPost ⟨fun k => w.heap.size ≤ k, fun _ => none, fun f => ∃ fn, Tryz.prog.funcs[f]? = some fn⟩ σ w (.ok .ret r mm)) := fun cs => by
      obtain ⟨e, w', fr, r1, s, x⟩ := hc.2 cs (fun d hd => by simp [FV] at hd)
      exact ⟨e, w', fr, r1, s.comes, x⟩
    refine hc'.mono fun e w' hp => ?_
    obtain ⟨σ', v', c, _, k2, k3, rfl, k4, k5⟩ := hp
    rw [hb] at k2
    cases k2
    cases k3
    exact ⟨rfl, k5.os, k5.tape, k5.output, k5.size, fun k hk => k5.block k (fun h6 => by have h6 : w.heap.size ≤ k := h6; omega)⟩
  · cases hb
end Ev
theorem cb97c : callB Tryz.prog 97 = true := by kernel_rfl
theorem cb98c : callB Tryz.prog 98 = true := by kernel_rfl
theorem cb171c : callB Tryz.prog 171 = true := by kernel_rfl
theorem cb172c : callB Tryz.prog 172 = true := by kernel_rfl
theorem cb206c : callB Tryz.prog 206 = true := by kernel_rfl
theorem cb212c : callB Tryz.prog 212 = true := by kernel_rfl
section
variable {B : Nat} {G0 : Gm} {w0 : World} {Gc : Gm} {wc : World} {L : List Row} {xs : List Int} {a1 : Option Addr} {n1 c1 : Nat}
theorem f97_own (hS : Since B G0 w0 Gc wc) (hO : Owns Gc wc B L) (h1 : RSl RInt 1 Gc a1 n1 c1 xs) (hl : xs.length ≤ 1073741824) :
    Calls Tryz.prog 97 [.slice a1 n1 c1].toArray wc (RetO B G0 w0 Gc wc (fun G' L' v => ∃ a c cells, v = .slice a xs.length c ∧ L' = ⟨3, 1, xs.length, .slice a xs.length c, cells⟩ :: L ∧ Rd RInt 1 G' cells xs)) := by
  refine enterL (N := 5) (rs := [.tmp 2]) hO.base Tryz.func97 rfl rfl rfl rfl (WC_seq (WC_region (WL_val (rn_assign (v := .slice none 0 0) rfl) rfl (WL_nil (WC_seq (WC_region (WL_val (rn_move (v := .slice a1 n1 c1) rfl) rfl ?_)))))))
  have hO := hO.cons_nil 3 1
  refine WL_op rfl (OpP_append (k := 0) sl24c RInt_one hS hO rfl rfl (Rd.nil RInt 1 Gc) h1 (app_s [] xs (by simpa using hl)) rfl rfl rfl rfl rfl fun a c w1 cells hS hO hr => ?_)
  refine WL_val (rn_assign (v := .slice a xs.length c) rfl) rfl (WL_nil (WC_ret ?_))
  exact ⟨[.slice a xs.length c], ⟨rfl, trivial⟩, Gc, _, Gle.refl _, hS, hO, _, _, _, rfl, rfl, hr⟩
theorem ix_nat' {α : Type} (l : List α) (k : Nat) : ix l (k : Int) = l[k]? := by
  unfold ix
  simp
theorem f212_eq (x y : Int) : f212 x y = some (decide (x < y)) := by
  unfold f212 f205
  by_cases h : x < y <;> simp [h]
/-- what is in order stays: it is only read -/
theorem f206_ok (hS : Since B G0 w0 Gc wc) (hO : Owns Gc wc B L) (h1 : RSl RInt 1 Gc a1 n1 c1 xs) (hs : xs.Pairwise (· < ·)) (hl : xs.length ≤ 9) (h0 : 0 < xs.length) :
    Calls Tryz.prog 206 [.slice a1 n1 c1, iV 0, iV (xs.length : Int)].toArray wc (RetO B G0 w0 Gc wc (fun _ L' _ => L' = L)) := by
  refine enterL (N := 49) (rs := []) hO.base Tryz.func206 rfl rfl rfl rfl (WC_seq (WC_region (wr 3 rfl (WL_nil ?_))))
  refine WC_block (WC_loopI (WI_rounds (xs.length - 1) (fun i F w => ∃ Fb, F = upds Fb [(0, .slice a1 n1 c1), (1, iV 0), (2, iV (xs.length : Int)), (6, iV ((i + 1 : Nat) : Int))] ∧ Since B G0 w0 Gc w ∧ Owns Gc w B L) ?_ ?_ (xs.length - 1) 0 _ _ (by omega) ⟨_, upds_self _ _ ⟨rfl, rfl, rfl, rfl, trivial⟩, hS, hO⟩))
  · rintro i F w hi ⟨Fb, rfl, hS, hO⟩
    obtain ⟨x, y, hx, hy, hxy⟩ : ∃ x y, ix xs ((i + 1 : Nat) : Int) = some y ∧ ix xs (i : Int) = some x ∧ x < y := by
      have e1 := List.getElem?_eq_getElem (l := xs) (i := i + 1) (by omega)
      have e2 := List.getElem?_eq_getElem (l := xs) (i := i) (by omega)
      exact ⟨_, _, (ix_nat' _ _).trans e1, (ix_nat' _ _).trans e2, List.pairwise_iff_getElem.1 hs i (i + 1) (by omega) (by omega) (by omega)⟩
    have ws : IntKind.i64.wrap (((i + 1 : Nat) : Int) - 1) = (i : Int) := by rw [IntKind.wrap_i64]; omega
    refine WC_seq (WC_seq (WC_region (wr 2 rfl (WL_val (rn_lss rfl rfl) rfl (WL_nil (WC_condT (decide (((i + 1 : Nat) : Int) < (xs.length : Int))) (by simp; omega) rfl (WC_skip ?_)))))))
    refine WC_seq (WC_block (WC_seq (WC_region (wr 2 rfl (WL_nil (WC_block (WC_loopI (WI_step (WC_seq (WC_seq ?_))))))))))
    have hS := hS.keep (below_drew w)
    have hO := hO.below (below_drew w)
    refine WC_regionD mixedO (fun _ w => Sat Gc w) (.fl 0 (.fl 1 (.fl 2 (.fl 3 (.fl 4 (.fl 5 (.fl 6 (.fl 7 (.fl 8 (.fl 9 (.fl 10 (.fl 11 (.fl 12 (.on 13 (.on 14 .nil))))))))))))))) (by kernel_rfl) rfl (by kernel_rfl) (fun _ => hS.sat) ?_
    refine WD_val rfl (fun w hw => rn_move rfl) rfl (WD_val rfl (fun w hw => rn_move rfl) rfl (WD_val rfl (fun w hw => rn_gtr rfl rfl) rfl (WD_val rfl (fun w hw => rn_move rfl) rfl ?_)))
    have hb : decide ((0 : Int) < ((i + 1 : Nat) : Int)) = true := decide_eq_true (by omega)
    refine WD_valY rfl rfl hb rfl rfl (fun w hw => rn_move (v := (.slice a1 n1 c1)) rfl) rfl (WD_valY rfl rfl hb rfl rfl (fun w hw => rn_move (v := (iV ((i + 1 : Nat) : Int))) rfl) rfl (WD_idxY rfl rfl hb rfl rfl sl24c h1 hx rfl rfl rfl ?_))
    rintro bt ot _ hct _ ⟨⟩
    refine WD_valY rfl rfl hb rfl rfl (fun w hw => rn_load na3c rfl (hw.cell (hct 0 _ rfl))) rfl (WD_valY rfl rfl hb rfl rfl (fun w hw => rn_move (v := (.slice a1 n1 c1)) rfl) rfl (WD_valY rfl rfl hb rfl rfl (fun w hw => rn_move (v := (iV ((i + 1 : Nat) : Int))) rfl) rfl (WD_valY rfl rfl hb rfl rfl (fun w hw => rn_sub rfl rfl) rfl ?_)))
    rw [ws]
    refine WD_idxY rfl rfl hb rfl rfl sl24c h1 hy rfl rfl rfl ?_
    rintro bu ou _ hcu _ ⟨⟩
    refine WD_valY rfl rfl hb rfl rfl (fun w hw => rn_load na3c rfl (hw.cell (hcu 0 _ rfl))) rfl ?_
    refine WD_opY rfl rfl rfl hb rfl rfl (OpP_callV cb212c (f212_ok hS.sat (f212_eq _ _)) rfl rfl fun w7 hb7 => ⟨fun _ h => noneed (by kernel_rfl) h, ?_⟩)
    have hS := hS.keep hb7
    have hO := hO.below hb7
    refine WD_op rfl rfl (OpP_val (rn_pickT (v := .bool (decide (y < x))) rfl hb rfl) rfl ⟨fun _ h => noneed (by kernel_rfl) h, WD_nil ?_⟩)
    refine WC_condF (decide (y < x)) (by simp; omega) rfl (WC_exit rfl ?_)
    refine WC_region (wr 3 rfl (WL_nil ?_))
    exact ⟨_, upds_self _ _ ⟨rfl, rfl, rfl, congrArg iV (wrap_s (by omega)), trivial⟩, hS, hO⟩
  · rintro F w ⟨Fb, rfl, hS, hO⟩
    refine WI_step (WC_seq (WC_seq (WC_region (wr 2 rfl (WL_val (rn_lss rfl rfl) rfl (WL_nil (WC_condF (decide (((xs.length - 1 + 1 : Nat) : Int) < (xs.length : Int))) (by simp; omega) rfl (WC_exit rfl ?_))))))))
    exact ⟨[], trivial, Gc, _, Gle.refl _, hS, hO, rfl⟩
theorem f171_ok (hS : Since B G0 w0 Gc wc) (hO : Owns Gc wc B L) (h1 : RSl RInt 1 Gc a1 n1 c1 xs) (hs : xs.Pairwise (· < ·)) (hl : xs.length ≤ 9) (h0 : 0 < xs.length) {k : Int} :
    Calls Tryz.prog 171 [.slice a1 n1 c1, iV 0, iV (xs.length : Int), iV k].toArray wc (RetO B G0 w0 Gc wc (fun _ L' _ => L' = L)) := by
  have ws : IntKind.i64.wrap ((xs.length : Int) - 0) = (xs.length : Int) := by rw [IntKind.wrap_i64]; omega
  refine enterL (N := 134) (rs := []) hO.base Tryz.func171 rfl rfl rfl rfl (WC_seq (WC_region (wr 1 rfl (WL_nil (WC_seq (WC_region (wr 1 rfl (WL_nil (WC_block (WC_loopI (WI_step (WC_block (WC_seq (WC_region (wr 2 rfl (WL_val (rn_sub rfl rfl) rfl ?_))))))))))))))))
  rw [ws]
  refine wr 1 rfl (WL_nil (WC_seq (WC_seq (WC_region (wr 1 rfl (WL_val (rn_leq rfl rfl) rfl (WL_nil (WC_condT (decide ((xs.length : Int) ≤ 12)) (by simp; omega) rfl (WC_seq (WC_region (wr 3 rfl ?_)))))))))))
  refine WL_op rfl (OpP_lent (fi := []) (al := [.slice a1 n1 c1, iV 0, iV (xs.length : Int)]) (ca := []) cb206c (f206_ok hS hO h1 hs hl h0) rfl rfl rfl fun v G2 w2 L2 le2 hS hO hv => ?_)
  rw [hv] at hO
  refine WL_nil (WC_ret ?_)
  exact ⟨[], trivial, G2, _, le2, hS, hO, rfl⟩
theorem f98_ok (hS : Since B G0 w0 Gc wc) (hO : Owns Gc wc B L) (h2 : 2 ≤ B) (h1 : RSl RInt 1 Gc a1 n1 c1 xs) (hs : xs.Pairwise (· < ·)) (hl : xs.length ≤ 9) (h0 : 0 < xs.length) :
    Calls Tryz.prog 98 [.slice a1 n1 c1].toArray wc (RetO B G0 w0 Gc wc (fun _ L' _ => L' = L)) := by
  obtain ⟨k, hk⟩ := Ev.len_b xs.length hl
  have wu : IntKind.u64.wrap (xs.length : Int) = (xs.length : Int) := by rw [IntKind.wrap_u64]; omega
  refine enterL (N := 11) (rs := []) hO.base Tryz.func98 rfl rfl rfl rfl (WC_seq (WC_region (wr 1 rfl (WL_val (rn_len (m := xs.length) sl24c rfl rfl h1.1) rfl (wr 1 rfl (WL_nil (WC_region (wr 3 rfl (WL_val (rn_conv Tryz.underlying3 Tryz.underlying272 rfl) rfl ?_)))))))))
  rw [wu]
  refine WL_op rfl (OpP_callV cb172c (Ev.f172_ok (Nat.le_trans h2 hS.base) hk) rfl rfl fun w1 hb => ?_)
  have hS := hS.keep hb
  have hO := hO.below hb
  refine WL_op rfl (OpP_lent (fi := []) (al := [.slice a1 n1 c1, iV 0, iV (xs.length : Int), iV k]) (ca := []) cb171c (f171_ok hS hO h1 hs hl h0) rfl rfl rfl fun v G2 w2 L2 le2 hS hO hv => ?_)
  rw [hv] at hO
  refine WL_nil ?_
  exact ⟨[], trivial, G2, _, le2, hS, hO, rfl⟩
/-- a list with one more behind it -/
theorem f35_ok (hS : Since B G0 w0 Gc wc) (hO : Owns Gc wc B L) (h2 : 2 ≤ B) (h1 : RSl RInt 1 Gc a1 n1 c1 xs) {n : Int} (hs : (xs ++ [n]).Pairwise (· < ·)) (hl : xs.length ≤ 8) :
    Calls Tryz.prog 35 [.slice a1 n1 c1, iV n].toArray wc (RetO B G0 w0 Gc wc (fun G' L' v => L' = L ∧ ∃ a m c, v = .slice a m c ∧ RSl RInt 1 G' a m c (xs ++ [n]))) := by
  have hlen : (xs ++ [n]).length = xs.length + 1 := by simp
  refine enterL (N := 14) (rs := [.tmp 4]) hO.base Tryz.func35 rfl rfl rfl rfl (WC_seq (WC_region (wr 1 rfl (WL_nil (WC_seq (WC_region (wr 1 rfl ?_)))))))
  refine WL_op rfl (OpP_lent (fi := []) (al := [.slice a1 n1 c1]) (ca := []) cb97c (f97_own hS hO h1 (by omega)) rfl rfl rfl fun v G1 w1 L1 le1 hS hO hv => ?_)
  obtain ⟨a2, c2, cells, rfl, rfl, hr⟩ := hv
  refine wr 1 rfl ?_
  refine WL_op rfl (OpP_newF (v := fun b => .slice (some ⟨b, 0, none⟩) 1 1) (cs := [iV n]) (e := 3) (by kernel_rfl) hS.sat rfl fun b2 G2 w2 hg hc2 => ?_)
  have hS := hS.grow hg
  have hO := hO.grow hg
  refine WL_op rfl (OpP_append (k := 0) sl24c RInt_one hS hO rfl rfl (hr.mono RInt_mono hg.le) (RSl.of_rd hc2 (Rd.cons (c := [iV n]) rfl rfl (Rd.nil RInt 1 _)) rfl (show 1 ≤ maxLen by decide)) (app_s xs [n] (by simp; omega)) rfl rfl rfl rfl rfl fun a3 c3 w3 cells3 hS hO hr3 => ?_)
  obtain ⟨G4, le4, hS, hO, hr4⟩ := hO.freezeS hS RInt_mono (k := 0) rfl hr3 rfl
  have hO : Owns G4 w3 B L := hO
  refine wr 1 rfl (WL_nil (WC_seq (WC_region (wr 1 rfl ?_))))
  refine WL_op rfl (OpP_lent (fi := []) (al := [.slice a3 (xs ++ [n]).length c3]) (ca := []) cb98c (f98_ok hS hO h2 hr4 hs (by omega) (by omega)) rfl rfl rfl fun v G5 w5 L5 le5 hS hO hv => ?_)
  rw [hv] at hO
  refine WL_nil (WC_seq (WC_region (wr 2 rfl (WL_nil (WC_ret ?_)))))
  exact ⟨[.slice a3 (xs ++ [n]).length c3], ⟨rfl, trivial⟩, G5, _, ((le1.trans hg.le).trans le4).trans le5, hS, hO, rfl, _, _, _, rfl, hr4.mono RInt_mono le5⟩
end
end Go.Proofs.YtdgkjgljkgjjiaaGreatDoor
