/-
  A calculus for walking Go's code with frames as functions: rules for the forms of code, whatever the program.
-/
import Derived.WalkKit
import Derived.Orders
import Derived.Still
import Derived.RangeFuncNested
import Derived.RangeFuncLeaves
import Derived.TacticsIn
namespace Go.Proofs.YtcaflmilfhhikaaGreatDoor
open Go.RowKit

/-! ### Frames as functions -/
theorem lt_of_blt {a b : Nat} (h : Nat.blt a b = true) : a < b := Nat.le_of_ble_eq_true h
abbrev Fr := Nat → Value
def upd (F : Fr) (d : Nat) (v : Value) : Fr := fun i => cond (Nat.beq i d) v (F i)
def upds (F : Fr) : List (Nat × Value) → Fr
  | [] => F
  | (d, v) :: l => fun i => cond (Nat.beq i d) v (upds F l i)
def AllEq (F : Fr) : List (Nat × Value) → Prop
  | [] => True
  | (d, v) :: l => F d = v ∧ AllEq F l
theorem upds_self (F : Fr) : ∀ (L : List (Nat × Value)), AllEq F L → F = upds F L
  | [], _ => rfl
  | (d, v) :: l, h => by
    funext i
    have ih := congrFun (upds_self F l h.2) i
    show F i = cond (Nat.beq i d) v (upds F l i)
    cases hb : Nat.beq i d with
    | false => exact ih
    | true =>
      have := Nat.eq_of_beq_eq_true hb
      subst this
      exact h.1
def ev (F : Fr) : Operand → Value
  | .tmp t => F t
  | .const v => v
  | .global g => .pointer (some ⟨g, 0, none⟩)
  | .func f => .func (.func f) #[] #[]
def frOf (a : Act) : Fr := fun t => a.tmps.getD t undef
theorem eval_frOf (a : Act) : a.eval = ev (frOf a) := by funext x; cases x <;> rfl
theorem size_put (a : Act) (d : Option Tmp) (v : Value) : (a.put d v).tmps.size = a.tmps.size := by cases d <;> simp [Act.put]
theorem defers_put (a : Act) (d : Option Tmp) (v : Value) : (a.put d v).defers = a.defers := by cases d <;> rfl
theorem frOf_put (a : Act) (d : Nat) (v : Value) (h : d < a.tmps.size) : frOf (a.put (some d) v) = upd (frOf a) d v := by
  funext i
  show (a.tmps.setIfInBounds d v).getD i undef = cond (Nat.beq i d) v (a.tmps.getD i undef)
  cases hb : Nat.beq i d with
  | true =>
    have := Nat.eq_of_beq_eq_true hb
    subst this
    simp [h]
  | false =>
    have hne : d ≠ i := fun e => by subst e; simp at hb
    simp [Array.getElem?_setIfInBounds_ne hne]
/-! ### The context: the round in which one walks; the record to which one may yield; where the heap ended when the function was entered -/
structure Ctx where
  ro : Option Nat
  ex : Option Nat
  ba : Nat
  nm : Bool := false
  df : List Deferred := []
def FW (ρ : Option Nat) : Fence := { Fence.wide with round := ρ }
def isFix : Obj → Bool
  | .deferred _ => true
  | .loop _ => true
  | _ => false
/-- What is a loop's record or a block of deferred calls lies as it lay. -/
structure Keeps (X : Option Nat) (w w' : World) : Prop where
  size : w.heap.size ≤ w'.heap.size
  same : ∀ (D : Nat) (o : Obj), X ≠ some D → w.heap[D]? = some o → isFix o = true → w'.heap[D]? = some o
theorem Keeps.refl {X : Option Nat} (w : World) : Keeps X w w := ⟨Nat.le_refl _, fun _ _ _ h _ => h⟩
theorem Keeps.trans {X : Option Nat} {a b c : World} (h : Keeps X a b) (k : Keeps X b c) : Keeps X a c :=
  ⟨Nat.le_trans h.size k.size, fun D o hX hD ho => k.same D o hX (h.same D o hX hD ho) ho⟩
theorem Keeps.drew {X : Option Nat} (w : World) : Keeps X w w.drew := ⟨Nat.le_refl _, fun _ _ _ h _ => h⟩
theorem Keeps.below {X : Option Nat} {w w' : World} (h : Below w.heap.size w w') : Keeps X w w' :=
  ⟨h.size, fun D o _ hD _ => by
    have hlt := (Array.getElem?_eq_some_iff.1 hD).1
    exact (h.block D hlt).trans hD⟩
theorem Keeps.alloc {X : Option Nat} (w : World) (o : Obj) : Keeps X w (w.alloc o) := .below ((Below.refl _ w).alloc (Nat.le_refl _) _)
/-- The deferred calls that are left: marks of loops that have ended, with nothing in their blocks. -/
structure Calm (κ : Ctx) (ds : List Deferred) (w : World) : Prop where
  each : ∀ d ∈ ds, d ∈ κ.df ∨ ∃ D, d = { target := .collected D, args := #[] } ∧ w.heap[D]? = some (.deferred (some [])) ∧ κ.ex ≠ some D ∧ κ.ba ≤ D
  apart : ds.Pairwise fun d e => d.target ≠ e.target
  none : κ.nm = true → ds = κ.df
theorem Calm.nil (κ : Ctx) (w : World) (hdf : κ.df = [] := by rfl) : Calm κ [] w := ⟨fun _ h => absurd h (by simp), List.Pairwise.nil, fun _ => hdf.symm⟩
theorem Calm.keep {κ : Ctx} {ds : List Deferred} {w w' : World} (h : Calm κ ds w) (hk : Keeps κ.ex w w') : Calm κ ds w' :=
  ⟨fun d hd => (h.each d hd).imp id fun ⟨D, h1, h2, h3, h4⟩ => ⟨D, h1, hk.same D _ h3 h2 rfl, h3, h4⟩, h.apart, h.none⟩
/-- What is true of the activation and the world all along; wI: a world behind us. -/
structure St (κ : Ctx) (N : Nat) (wI : World) (a : Act) (w : World) : Prop where
  size : a.tmps.size = N
  calm : Calm κ a.defers w
  keep : Keeps κ.ex wI w
  base : κ.ba ≤ w.heap.size
theorem St.put {κ : Ctx} {N : Nat} {wI : World} {a : Act} {w w' : World} (h : St κ N wI a w) (hk : Keeps κ.ex w w') (d : Option Tmp) (v : Value) : St κ N wI (a.put d v) w' :=
  ⟨by rw [size_put]; exact h.size, by rw [defers_put]; exact h.calm.keep hk, h.keep.trans hk, Nat.le_trans h.base hk.size⟩
theorem St.puts {κ : Ctx} {N : Nat} {wI : World} {a : Act} {w : World} (h : St κ N wI a w) (d : Option Tmp) (v : Value) : St κ N wI (a.put d v) w := h.put (.refl _) d v
theorem St.lt {κ : Ctx} {N : Nat} {wI : World} {a : Act} {w : World} {d : Nat} (h : St κ N wI a w) (hd : Nat.blt d N = true) : d < a.tmps.size := by rw [h.size]; exact lt_of_blt hd
theorem callsFW {ρ : Option Nat} {P : Program} {f : FuncId} {args : Array Value} {w : World} {R : Ending → World → Prop} (h : Calls P f args w R) : CallsIn (FW ρ) 0 P f args w R :=
  (callsIn_wide (n := 0)).2 h
/-- An operation whose run is that of a plain frame. -/
theorem semFW {ρ : Option Nat} {P : Program} {e : Operand → Value} {o : Oper} {w w' : World} {nx : Next} (hnd : ∀ d, nx ≠ .defer d) (h : (execOp e o).run P w = .ok nx w') : (o.semAt ρ e).run P w = .ok nx w' := by
  cases ρ with
  | none => rw [Oper.semAt_none]; exact h
  | some l =>
    rw [Oper.semAt_some l e o ?_]
    · exact h
    · intro c hc
      unfold execOp at h
      rw [hc] at h
      simp only [Sem.run_bind, Result.andThen] at h
      split at h
      · simp only [Sem.run_pure, Result.ok.injEq] at h
        exact hnd _ h.1.symm
      · cases h

/-! ### What follows: on the normal way, on a return, at each block's end -/
structure Post where
  n : Fr → World → Prop
  r : Fr → World → Prop
  x : List (Nat × (Fr → World → Prop))
  p : List PanicEntry → Fr → World → Prop := fun _ _ _ => False
def look : List (Nat × (Fr → World → Prop)) → Nat → Option (Fr → World → Prop)
  | [], _ => none
  | (i, K) :: l, k => cond (Nat.beq i k) (some K) (look l k)
def Post.at_ (Q : Post) : Exit → Fr → World → Prop
  | .normal => Q.n
  | .ret => Q.r
  | .exit k => fun F w => ∃ K, look Q.x k = some K ∧ K F w
  | .panic c => Q.p c
  | _ => fun _ _ => False
def Post.act (κ : Ctx) (N : Nat) (wI : World) (Q : Post) : Exit → Act → World → Prop := fun e a w => St κ N wI a w ∧ Q.at_ e (frOf a) w
def WC (κ : Ctx) (P : Program) (N : Nat) (c : Code) (Q : Post) (F : Fr) (w : World) : Prop :=
  ∀ (a : Act) (wI : World), St κ N wI a w → frOf a = F → c.wpIn (FW κ.ro) 0 P (Q.act κ N wI) a w

section
variable {κ : Ctx} {P : Program} {N : Nat} {n r : Fr → World → Prop} {x : List (Nat × (Fr → World → Prop))} {p : List PanicEntry → Fr → World → Prop} {F : Fr} {w : World}

theorem Post.out {κ : Ctx} {N : Nat} {wI : World} {Q Q' : Post} (hq : ∀ e F w, Q.at_ e F w → Q'.at_ e F w) : ∀ e a w, Q.act κ N wI e a w → Q'.act κ N wI e a w := fun _ _ _ h => ⟨h.1, hq _ _ _ h.2⟩
theorem WC_mono {c : Code} {Q Q' : Post} (hq : ∀ e F w, Q.at_ e F w → Q'.at_ e F w) (h : WC κ P N c Q F w) : WC κ P N c Q' F w :=
  fun a wI h1 h2 => wpIn_mono (h a wI h1 h2) (Post.out hq)
theorem WC_seq {c d : Code} (h : WC κ P N c ⟨WC κ P N d ⟨n, r, x, p⟩, r, x, p⟩ F w) : WC κ P N (.seq c d) ⟨n, r, x, p⟩ F w := by
  intro a wI h1 h2
  refine wpIn_seq (wpIn_mono (h a wI h1 h2) ?_)
  rintro e a' w' ⟨p1, p2⟩
  cases e with
  | normal => exact p2 a' wI p1 rfl
  | ret => exact ⟨p1, p2⟩
  | exit k => exact ⟨p1, p2⟩
  | goto l => exact p2.elim
  | panic c => exact ⟨p1, p2⟩
  | outgrown => exact p2.elim
theorem WC_block {id : Nat} {c : Code} (h : WC κ P N c ⟨n, r, (id, n) :: x, p⟩ F w) : WC κ P N (.block id c) ⟨n, r, x, p⟩ F w := by
  intro a wI h1 h2
  refine wpIn_block (wpIn_mono (h a wI h1 h2) ?_)
  rintro e a' w' ⟨p1, p3⟩
  cases e with
  | normal => exact ⟨p1, p3⟩
  | ret => exact ⟨p1, p3⟩
  | exit k =>
    obtain ⟨K, hK, hw⟩ := p3
    simp only [look] at hK
    by_cases hk : k = id
    · subst hk
      simp only [Exit.inBlock, if_true]
      simp at hK
      subst hK
      exact ⟨p1, hw⟩
    · simp only [Exit.inBlock, hk, if_false]
      have hb : Nat.beq id k = false := by
        cases hb : Nat.beq id k with
        | false => rfl
        | true => exact absurd (Nat.eq_of_beq_eq_true hb).symm hk
      rw [hb] at hK
      exact ⟨p1, K, hK, hw⟩
  | goto l => exact p3.elim
  | panic c => exact ⟨p1, p3⟩
  | outgrown => exact p3.elim
theorem WC_exit {id : Nat} {K : Fr → World → Prop} (hk : look x id = some K) (h : K F w) : WC κ P N (.exit id) ⟨n, r, x, p⟩ F w :=
  fun _ _ h1 h3 => wpIn_exit ⟨h1, K, hk, h3 ▸ h⟩
theorem WC_ret (h : r F w) : WC κ P N .ret ⟨n, r, x, p⟩ F w := fun _ _ h1 h3 => wpIn_ret ⟨h1, h3 ▸ h⟩
theorem WC_skip (h : n F w) : WC κ P N .skip ⟨n, r, x, p⟩ F w := fun _ _ h1 h3 => wpIn_skip ⟨h1, h3 ▸ h⟩
theorem WC_label {l : Nat} (h : n F w) : WC κ P N (.label l) ⟨n, r, x, p⟩ F w := fun _ _ h1 h3 => wpIn_label ⟨h1, h3 ▸ h⟩
/-- A test, both ways. -/
theorem WC_cond {c : Operand} {A B : Code} {b : Bool} (hc : ev F c = .bool b) (ht : b = true → WC κ P N A ⟨n, r, x, p⟩ F w) (hf : b = false → WC κ P N B ⟨n, r, x, p⟩ F w) :
    WC κ P N (.cond c A B) ⟨n, r, x, p⟩ F w := by
  intro a wI h1 h3
  refine wpIn_cond (t := b) (by rw [eval_frOf, h3]; exact hc) ?_
  cases b with
  | true => exact ht rfl a wI h1 h3
  | false => exact hf rfl a wI h1 h3
theorem WC_condT {c : Operand} {A B : Code} (b : Bool) (hb : b = true) (hc : ev F c = .bool b) (h : WC κ P N A ⟨n, r, x, p⟩ F w) : WC κ P N (.cond c A B) ⟨n, r, x, p⟩ F w :=
  WC_cond hc (fun _ => h) (fun h' => by rw [hb] at h'; cases h')
theorem WC_condF {c : Operand} {A B : Code} (b : Bool) (hb : b = false) (hc : ev F c = .bool b) (h : WC κ P N B ⟨n, r, x, p⟩ F w) : WC κ P N (.cond c A B) ⟨n, r, x, p⟩ F w :=
  WC_cond hc (fun h' => by rw [hb] at h'; cases h') (fun _ => h)
/-- What follows, once for all ways. -/
theorem WC_cut {c : Code} (J : Fr → World → Prop) (h : WC κ P N c ⟨J, r, x, p⟩ F w) (hJ : ∀ F w, J F w → n F w) : WC κ P N c ⟨n, r, x, p⟩ F w := by
  refine WC_mono ?_ h
  intro e F w he
  cases e with
  | normal => exact hJ _ _ he
  | ret => exact he
  | exit k => exact he
  | goto l => exact he
  | panic c => exact he
  | outgrown => exact he

/-! ### Loops -/
def lpN {σ ρ : Type} (body : σ → Option (σ ⊕ ρ)) : Nat → σ → Option ρ
  | 0, _ => none
  | k + 1, s => match body s with
    | none => none
    | some (.inl s') => lpN body k s'
    | some (.inr q) => some q
end
open Classical in
/-- A loop: again and again, until the body gives a result; none, if it never does. -/
noncomputable def lp {σ ρ : Type} (body : σ → Option (σ ⊕ ρ)) (s : σ) : Option ρ :=
  if h : ∃ k q, lpN body k s = some q then lpN body (Classical.choose h) s else none
theorem lpN_mono {σ ρ : Type} {body : σ → Option (σ ⊕ ρ)} {q : ρ} : ∀ {k k' : Nat} {s : σ}, k ≤ k' → lpN body k s = some q → lpN body k' s = some q
  | 0, _, _, _, h => by simp [lpN] at h
  | k + 1, 0, _, hk, _ => by omega
  | k + 1, k' + 1, s, hk, h => by
    simp only [lpN] at h ⊢
    cases hb : body s with
    | none => rw [hb] at h; cases h
    | some t =>
      rw [hb] at h
      cases t with
      | inl s' => exact lpN_mono (Nat.le_of_succ_le_succ hk) h
      | inr q' => exact h
theorem lp_some {σ ρ : Type} {body : σ → Option (σ ⊕ ρ)} {s : σ} {q : ρ} : lp body s = some q ↔ ∃ k, lpN body k s = some q := by
  constructor
  · intro h
    unfold lp at h
    split at h
    · exact ⟨_, h⟩
    · cases h
  · rintro ⟨k, hk⟩
    have hex : ∃ k q, lpN body k s = some q := ⟨k, q, hk⟩
    unfold lp
    rw [dif_pos hex]
    obtain ⟨q', hq'⟩ := Classical.choose_spec hex
    have h1 := lpN_mono (Nat.le_max_left k (Classical.choose hex)) hk
    have h2 := lpN_mono (Nat.le_max_right k (Classical.choose hex)) hq'
    rw [hq', ← h2, h1]
/-- A loop, unrolled once. -/
theorem lp_eq {σ ρ : Type} (body : σ → Option (σ ⊕ ρ)) (s : σ) : lp body s = match body s with
    | none => none
    | some (.inl s') => lp body s'
    | some (.inr q) => some q := by
  apply Option.ext
  intro q
  rw [lp_some]
  constructor
  · rintro ⟨k, hk⟩
    cases k with
    | zero => simp [lpN] at hk
    | succ k =>
      simp only [lpN] at hk
      cases hb : body s with
      | none => rw [hb] at hk; cases hk
      | some t =>
        rw [hb] at hk
        cases t with
        | inl s' => exact lp_some.2 ⟨k, hk⟩
        | inr q' => exact hk
  · intro h
    cases hb : body s with
    | none => rw [hb] at h; cases h
    | some t =>
      rw [hb] at h
      cases t with
      | inl s' =>
        obtain ⟨k, hk⟩ := lp_some.1 h
        exact ⟨k + 1, by simp only [lpN, hb]; exact hk⟩
      | inr q' => exact ⟨1, by simp only [lpN, hb]; exact h⟩
section
variable {κ : Ctx} {P : Program} {N : Nat} {n r : Fr → World → Prop} {x : List (Nat × (Fr → World → Prop))} {p : List PanicEntry → Fr → World → Prop} {F : Fr} {w : World}
theorem WC_loop {σ ρ : Type} {body : σ → Option (σ ⊕ ρ)} {c : Code} {s : σ} {res : ρ} (hlp : lp body s = some res) (I : σ → Fr → World → Prop) (h0 : I s F w)
    (step : ∀ s F w t, I s F w → body s = some t → (∀ q, t = .inr q → q = res) → WC κ P N c ⟨fun F' w' => ∃ s', t = .inl s' ∧ I s' F' w', r, x, p⟩ F w) : WC κ P N (.loop c) ⟨n, r, x, p⟩ F w := by
  intro a wI h1 h3 b k cs hro hfn hroom
  obtain ⟨m, hm⟩ := lp_some.1 hlp
  have key : ∀ (m : Nat) (s : σ) (a : Act) (w : World), lpN body m s = some res → St κ N wI a w → I s (frOf a) w →
      ∃ e a' w', Post.act κ N wI ⟨n, r, x, p⟩ e a' w' ∧ ArrivesIn (Machine.fenced P (FW κ.ro)) P (lone (b.atR a (.code c :: .inLoop c :: k)) cs w) b k cs e a' w' := by
    intro m
    induction m with
    | zero => intro s a w hm; simp [lpN] at hm
    | succ m ih =>
      intro s a w hm h1 hI
      simp only [lpN] at hm
      cases hb : body s with
      | none => rw [hb] at hm; cases hm
      | some t =>
        rw [hb] at hm
        have hq : ∀ q, t = .inr q → q = res := by
          intro q hq
          subst hq
          exact Option.some.inj hm
        obtain ⟨e, a₁, w₁, ⟨p1, p3⟩, harr⟩ := step s (frOf a) w t hI hb hq a wI h1 rfl b (.inLoop c :: k) cs hro hfn hroom
        cases e with
        | normal =>
          obtain ⟨s', rfl, hI'⟩ := p3
          obtain ⟨e₂, a₂, w₂, hq₂, harr₂⟩ := ih s' a₁ w₁ hm p1 hI'
          exact ⟨e₂, a₂, w₂, hq₂, .of_steps (StepsIn.trans harr (.one (fenced_calm hfn hroom rfl) stepR_inLoop)) harr₂⟩
        | exit id => exact ⟨.exit id, a₁, w₁, ⟨p1, p3⟩, .pass (x := .inLoop c) rfl (fun _ _ => .inl (by simp)) harr⟩
        | ret => exact ⟨.ret, a₁, w₁, ⟨p1, p3⟩, .pass (x := .inLoop c) rfl (fun _ _ => .inl (by simp)) harr⟩
        | goto l => exact p3.elim
        | panic ch => exact ⟨.panic ch, a₁, w₁, ⟨p1, p3⟩, .pass (x := .inLoop c) rfl (fun _ _ => .inl (by simp)) harr⟩
        | outgrown => exact p3.elim
  obtain ⟨e, a', w', hq, harr⟩ := key m s a w hm h1 (h3 ▸ h0)
  exact ⟨e, a', w', hq, .of_steps (.one (fenced_calm hfn hroom rfl) stepR_loop) harr⟩

/-! ### Regions in the text's order -/
def LQ (κ : Ctx) (N : Nat) (wI : World) (p : List PanicEntry → Fr → World → Prop) (K : Fr → World → Prop) : Exit → Act → World → Prop := fun e a w => St κ N wI a w ∧ match e with
  | .normal => K (frOf a) w
  | .panic c => p c (frOf a) w
  | _ => False
def WL (κ : Ctx) (P : Program) (N : Nat) (ops : Array Oper) (p : List PanicEntry → Fr → World → Prop) (K : Fr → World → Prop) (l : List Oper) (F : Fr) (w : World) : Prop :=
  ∀ (a : Act) (wI : World), St κ N wI a w → frOf a = F → wpListIn (FW κ.ro) 0 P ops (LQ κ N wI p K) l a w
theorem WC_region {id : Nat} {l : List Oper} (h : WL κ P N l.toArray p n l F w) : WC κ P N (.region id l.toArray false) ⟨n, r, x, p⟩ F w := by
  intro a wI h1 h3
  refine wpIn_mono (wpIn_region_lit (h a wI h1 h3)) ?_
  rintro e a' w' ⟨p1, p3⟩
  cases e with
  | normal => exact ⟨p1, p3⟩
  | panic c => exact ⟨p1, p3⟩
  | ret => exact p3.elim
  | exit k => exact p3.elim
  | goto l => exact p3.elim
  | outgrown => exact p3.elim
variable {K : Fr → World → Prop} {ops : Array Oper} {l : List Oper}
theorem WL_nil (h : K F w) : WL κ P N ops p K [] F w := fun _ _ h1 h3 => ⟨h1, h3 ▸ h⟩
theorem skipFW {ρ : Option Nat} {Q : Exit → Act → World → Prop} {o : Oper} {a : Act} (hw : Region.wanted o (yielded ops a.tmps) = false) (h : wpListIn (FW ρ) 0 P ops Q l (a.put o.dst undef) w) : wpListIn (FW ρ) 0 P ops Q (o :: l) a w := by
  simp only [wpListIn, hw]
  exact ⟨fun _ _ => trivial, h⟩
/-- Any operation without a guard, by its run. -/
theorem WL_val {d : Nat} {op : Op} {ty : TypeId} {pos : String} {af : Array Edge} {v : Value}
    (hrun : (execOp (ev F) ⟨some d, op, ty, pos, af, none⟩).run P w = .ok (.value v) w) (hd : Nat.blt d N = true) (h : WL κ P N ops p K l (upd F d v) w) : WL κ P N ops p K (⟨some d, op, ty, pos, af, none⟩ :: l) F w := by
  intro a wI h1 h3
  refine wpListIn_plain rfl fun K' hK' => ⟨fun _ _ => trivial, ?_⟩
  rw [semFW (ρ := (FW κ.ro).round) (w' := w) (nx := .value v) (fun _ h => by cases h) (by rw [eval_frOf, h3]; exact hrun)]
  refine hK' _ _ (h _ wI (h1.puts _ _) ?_)
  rw [← h3]; exact frOf_put a d v (h1.lt hd)
/-- Guards: 'j' is the operation whose answer is asked, 'g' its slot. -/
theorem yielded_frOf {a : Act} {j g : Nat} {b : Bool} (hj : (ops[j]?).bind (·.dst) = some g) (hg : frOf a g = .bool b) (hlt : g < a.tmps.size) : yielded ops a.tmps j = some b := by
  unfold yielded
  rw [hj]
  have : a.tmps[g]? = some (.bool b) := by
    rw [Array.getElem?_eq_getElem hlt]
    have h2 : a.tmps.getD g undef = a.tmps[g] := by simp [Array.getD, hlt]
    rw [← h2]
    exact congrArg some hg
  simp [this]
theorem WL_guardN {d : Nat} {op : Op} {ty : TypeId} {pos : String} {af : Array Edge} {j g : Nat} {want : Bool} {b : Bool}
    (hj : (ops[j]?).bind (·.dst) = some g) (hb : b = !want) (hF : F g = .bool b) (hd : Nat.blt d N = true) (hg : Nat.blt g N = true) (h : WL κ P N ops p K l (upd F d undef) w) :
    WL κ P N ops p K (⟨some d, op, ty, pos, af, some (j, want)⟩ :: l) F w := by
  intro a wI h1 h3
  have hy := yielded_frOf (a := a) hj (by rw [h3]; exact hF) (h1.lt hg)
  refine skipFW (by simp [Region.wanted, hy, hb]) (h _ wI (h1.puts _ _) ?_)
  rw [← h3]; exact frOf_put a d undef (h1.lt hd)
theorem WL_guardY {d : Option Nat} {op : Op} {ty : TypeId} {pos : String} {af : Array Edge} {j g : Nat} {want : Bool} {b : Bool}
    (hj : (ops[j]?).bind (·.dst) = some g) (hb : b = want) (hF : F g = .bool b) (hg : Nat.blt g N = true) (h : WL κ P N ops p K (⟨d, op, ty, pos, af, none⟩ :: l) F w) :
    WL κ P N ops p K (⟨d, op, ty, pos, af, some (j, want)⟩ :: l) F w := by
  intro a wI h1 h3
  have hy := yielded_frOf (a := a) hj (by rw [h3]; exact hF) (h1.lt hg)
  have := h a wI h1 h3
  have hw : Region.wanted (⟨d, op, ty, pos, af, some (j, want)⟩ : Oper) (yielded ops a.tmps) = true := by simp [Region.wanted, hy, hb]
  have hw' : Region.wanted (⟨d, op, ty, pos, af, none⟩ : Oper) (yielded ops a.tmps) = true := rfl
  unfold wpListIn at this ⊢
  rw [if_pos hw'] at this
  rw [if_pos hw]
  exact ⟨fun _ _ => trivial, this.2⟩
end
end Go.Proofs.YtcaflmilfhhikaaGreatDoor
