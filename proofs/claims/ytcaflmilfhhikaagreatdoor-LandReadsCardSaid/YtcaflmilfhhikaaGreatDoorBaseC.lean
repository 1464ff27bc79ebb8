/-
  Regions that draw their order; memory of the call's own; calls, appends, stores.
-/
import Derived.Test.YtcaflmilfhhikaaGreatDoorBaseB
namespace Go.Proofs.YtcaflmilfhhikaaGreatDoor
open Go.RowKit

/-! ### One operation, with whatever it does to the world -/
def PQ (κ : Ctx) (N : Nat) (wI : World) (p : List PanicEntry → Fr → World → Prop) : Exit → Act → World → Prop := fun e a w => match e with
  | .panic c => St κ N wI a w ∧ p c (frOf a) w
  | _ => False
def OpP (κ : Ctx) (P : Program) (N : Nat) (p : List PanicEntry → Fr → World → Prop) (o : Oper) (F : Fr) (w : World) (K : Fr → World → Prop) : Prop :=
  (∀ c, o.op ≠ .defer c) ∧ ∀ (a : Act) (wI : World), St κ N wI a w → frOf a = F → o.wp P a w (fun a' w' => St κ N wI a' w' ∧ K (frOf a') w') (PQ κ N wI p)
theorem PQ.lq {κ : Ctx} {N : Nat} {wI : World} {p : List PanicEntry → Fr → World → Prop} {K : Fr → World → Prop} : ∀ e a w, PQ κ N wI p e a w → LQ κ N wI p K e a w := fun e a w h => by
  cases e <;> first | exact h.elim | exact h
theorem LQ.out {κ : Ctx} {N : Nat} {wI : World} {p : List PanicEntry → Fr → World → Prop} {K : Fr → World → Prop} : ∀ a w, ¬ LQ κ N wI p K .outgrown a w := fun _ _ h => h.2.elim
theorem LQ.put {κ : Ctx} {N : Nat} {wI : World} {p : List PanicEntry → World → Prop} {K : Fr → World → Prop} : ∀ c d v a w, LQ κ N wI (fun c _ w => p c w) K (.panic c) (a.put d v) w → LQ κ N wI (fun c _ w => p c w) K (.panic c) a w := fun c d v a w h =>
  ⟨⟨by rw [← h.1.size, size_put], by rw [← defers_put a d v]; exact h.1.calm, h.1.keep, h.1.base⟩, h.2⟩
theorem notDefer {P : Program} {e : Operand → Value} {o : Oper} {w w' : World} {nx : Next} (hnd : ∀ d, nx ≠ .defer d) (h : (execOp e o).run P w = .ok nx w') : ∀ c, o.op ≠ .defer c := by
  intro c hc
  unfold execOp at h
  rw [hc] at h
  simp only [Sem.run_bind, Result.andThen] at h
  split at h
  · simp only [Sem.run_pure, Result.ok.injEq] at h
    exact hnd _ h.1.symm
  · cases h
theorem in_of_wp {ρ : Option Nat} {P : Program} {o : Oper} {a : Act} {w : World} {K : Act → World → Prop} {Q : Exit → Act → World → Prop} (hnd : ∀ c, o.op ≠ .defer c) (hO : ∀ a w, ¬ Q .outgrown a w) (h : o.wp P a w K Q) : o.wpIn (FW ρ) 0 P a w K Q := by
  refine ⟨fun _ _ => trivial, ?_⟩
  have hs : o.semAt (FW ρ).round a.eval = execOp a.eval o := by
    show o.semAt ρ a.eval = _
    cases ρ with
    | none => exact Oper.semAt_none _ _
    | some l => exact Oper.semAt_some l _ _ hnd
  rw [hs]
  unfold Oper.wp at h
  generalize (execOp a.eval o).run P w = r at *
  cases r with
  | ok n w' =>
    cases n with
    | value v => exact h
    | skip => exact h
    | defer d => exact h
    | enter f args =>
      refine ⟨fun h => (by cases h), callsFW ?_⟩
      refine Calls.mono h fun e w'' he => ?_
      cases e with
      | returned v => exact he
      | panicked c => exact he
      | outgrown => obtain ⟨_, _, h⟩ := he; exact (hO _ _ h).elim
    | row row args =>
      exact ⟨fun h => (by cases h), fun c cs _ => let ⟨v, w', r, s⟩ := h c cs; ⟨v, w', r, stepsIn_wide.2 s⟩⟩
    | _ => exact h.elim
  | halt x w' => cases x <;> first | exact h | exact h.elim
theorem wp_two {P : Program} {o : Oper} {a : Act} {w : World} {K K' : Act → World → Prop} {Q Q' : Exit → Act → World → Prop} (h : ∀ a w, K a w → K' a w) (hQ : ∀ e a w, Q e a w → Q' e a w) (hh : o.wp P a w K Q) : o.wp P a w K' Q' := by
  unfold Oper.wp at *
  generalize (execOp a.eval o).run P w = r at *
  cases r with
  | ok n w' =>
    cases n <;> simp only [Oper.upon] at hh ⊢ <;>
      first
        | exact h _ _ hh
        | exact Calls.mono hh (fun e w'' he => by cases e <;> first | exact h _ _ he | exact hQ _ _ _ he | exact he.elim fun a he => he.elim fun w he => ⟨a, w, hQ _ _ _ he⟩)
        | exact Rows.mono hh (fun _ _ he => h _ _ he)
  | halt x w' => cases x <;> simp only [Oper.upon] at hh ⊢ <;> exact hQ _ _ _ hh
section
variable {κ : Ctx} {p : List PanicEntry → Fr → World → Prop} {P : Program} {N : Nat} {F : Fr} {w : World} {ops : Array Oper} {K : Fr → World → Prop} {l : List Oper}
theorem WL_op {o : Oper} (hg : o.guard = none) (h : OpP κ P N p o F w (fun F' w' => WL κ P N ops p K l F' w')) : WL κ P N ops p K (o :: l) F w := by
  intro a wI h1 h3
  refine wpListIn_plain hg fun K' hK' => in_of_wp h.1 LQ.out ?_
  exact wp_two (fun a' w' ⟨p1, p3⟩ => hK' _ _ (p3 a' wI p1 rfl)) PQ.lq (h.2 a wI h1 h3)

/-! ### Regions that draw their order -/
def YieldsC (P : Program) (ops : Array Oper) (C : World → Prop) (o : Oper) (v : Value) (a : Act) : Prop :=
  (Region.wanted o (yielded ops a.tmps) = true ∧ ∀ w, C w → (execOp a.eval o).run P w = .ok (.value v) w) ∨ (Region.wanted o (yielded ops a.tmps) = false ∧ v = undef)
/-- Operation j waits for operation i, through others too. -/
def waitsB (ops : Array Oper) : Nat → Nat → Nat → Bool
  | 0, _, _ => false
  | n + 1, j, i => match ops[j]? with
    | some o => o.after.toList.any fun e => Region.binds .any e && (e.on == i || waitsB ops n e.on i)
    | none => false
/-- Operation j must keep the class: some operation of the list does not come ahead of it. -/
def keepB (ops : Array Oper) (fl : List Nat) (j : Nat) : Bool := fl.any fun i => !(i == j) && !waitsB ops ops.size j i
/-- Operation j must keep the class of operation q. -/
def keepQ (ops : Array Oper) (fl : List Nat) (j q : Nat) : Bool := fl.contains q && !(q == j) && !waitsB ops ops.size j q
theorem keepQ_B {ops : Array Oper} {fl : List Nat} {j q : Nat} (h : keepQ ops fl j q = true) : keepB ops fl j = true := by
  simp only [keepQ, Bool.and_eq_true] at h
  exact List.any_eq_true.2 ⟨q, by simpa using h.1.1, by simp only [Bool.and_eq_true]; exact ⟨h.1.2, h.2⟩⟩
theorem noneed {ops : Array Oper} {fl : List Nat} {j q : Nat} {p : Prop} (h : keepB ops fl j = false) (h' : keepQ ops fl j q = true) : p := by rw [keepQ_B h'] at h; cases h
/-- Classes of two kinds: some operations ask for more. -/
def C2 (late : List Nat) (A B : World → Prop) : Nat → World → Prop := fun q w => A w ∧ (late.contains q = true → B w)
theorem need2 {ops : Array Oper} {fl late : List Nat} {j : Nat} {A B : World → Prop} {w : World} (hA : A w) (hB : keepB ops (fl.filter fun q => late.contains q) j = true → B w) : ∀ q, keepQ ops fl j q = true → C2 late A B q w := fun q h => by
  refine ⟨hA, fun hl => hB (keepQ_B (q := q) ?_)⟩
  simp only [keepQ, Bool.and_eq_true] at h ⊢
  refine ⟨⟨?_, h.1.2⟩, h.2⟩
  have : q ∈ fl := by simpa using h.1.1
  simp [this]
  simpa using hl
def Closed (ops : Array Oper) (listed : Array Bool) : Prop := ∀ j o, ops[j]? = some o → listed.getD j false = true → ∀ e ∈ o.after, Region.binds .any e = true → listed.getD e.on false = true
theorem waits_listed {listed : Array Bool} (hcl : Closed ops listed) : ∀ (n j i : Nat), (∀ o, ops[j]? = some o → ∀ e ∈ o.after, Region.binds .any e = true → listed.getD e.on false = true) → waitsB ops n j i = true → listed.getD i false = true
  | 0, _, _, _, h => by cases h
  | n + 1, j, i, hj, h => by
    unfold waitsB at h
    split at h
    · rename_i o ho
      obtain ⟨e, he, hb⟩ := List.any_eq_true.1 h
      simp only [Bool.and_eq_true, Bool.or_eq_true, beq_iff_eq] at hb
      have he' : e ∈ o.after := by simpa using he
      have hl := hj o ho e he' hb.1
      rcases hb.2 with hb2 | hb2
      · rw [← hb2]; exact hl
      · exact waits_listed hcl n e.on i (fun o' ho' e' he'' hb' => hcl e.on o' ho' hl e' he'' hb') hb2
    · cases h
theorem Closed.set {listed : Array Bool} {i : Nat} (hcl : Closed ops listed) (hi : i ∈ Region.ready .any ops listed) : Closed ops (listed.setIfInBounds i true) := by
  obtain ⟨_, oi, hoi, hall⟩ := mem_ready.1 hi
  intro j o hj hl e he hb
  by_cases hij : i = j
  · subst hij
    have : o = oi := Option.some.inj (hj.symm.trans hoi)
    subst this
    exact getD_set_true (hall e he hb)
  · rw [getD_set_ne false hij] at hl
    exact getD_set_true (hcl j o hj hl e he hb)
def wpAnyC (P : Program) (ops : Array Oper) (C : Nat → World → Prop) (fl : List Nat) (Q : Exit → Act → World → Prop) : Nat → (Nat → Prop) → Array Bool → Act → World → Prop
  | 0, _, listed, a, w => Region.ready .any ops listed = [] ∧ Q .normal a w
  | fuel + 1, E, listed, a, w =>
    (Region.ready .any ops listed = [] → Q .normal a w) ∧
    ∀ i ∈ Region.ready .any ops listed, wpOp P ops Q i (fun a' w' => (∀ q, keepQ ops fl i q = true → (listed.getD q false = false ∨ E q) → C q w') ∧ wpAnyC P ops C fl Q fuel (fun q => E q ∧ waitsB ops ops.size i q = false) (listed.setIfInBounds i true) a' w') a w
theorem wpAny_of_C {C : Nat → World → Prop} {fl : List Nat} {Q : Exit → Act → World → Prop} : ∀ (fuel : Nat) (E : Nat → Prop) (listed : Array Bool) (a : Act) (w : World), wpAnyC P ops C fl Q fuel E listed a w → wpAny P .any ops Q fuel listed a w
  | 0, _, _, _, _, h => h
  | fuel + 1, _, _, _, _, h => ⟨h.1, fun i hi => wpOp_mono (fun _ _ h' => wpAny_of_C fuel _ _ _ _ h'.2) (h.2 i hi)⟩
theorem wpAnyC_less {C : Nat → World → Prop} {fl : List Nat} {Q : Exit → Act → World → Prop} : ∀ (fuel : Nat) (E E' : Nat → Prop) (listed : Array Bool) (a : Act) (w : World), (∀ q, E' q → E q) → wpAnyC P ops C fl Q fuel E listed a w → wpAnyC P ops C fl Q fuel E' listed a w
  | 0, _, _, _, _, _, _, h => h
  | fuel + 1, _, _, _, _, _, hE, h => ⟨h.1, fun i hi => wpOp_mono (fun _ _ h' => ⟨fun q h1 h2 => h'.1 q h1 (h2.imp id (hE q)), wpAnyC_less fuel _ _ _ _ _ (fun q h1 => ⟨hE q h1.1, h1.2⟩) h'.2⟩) (h.2 i hi)⟩
theorem YieldsC.of_same {C : World → Prop} {o : Oper} {v : Value} {a a' : Act} (hy : YieldsC P ops C o v a) (he : execOp a'.eval o = execOp a.eval o)
    (hw : Region.wanted o (yielded ops a'.tmps) = Region.wanted o (yielded ops a.tmps)) : YieldsC P ops C o v a' := by
  unfold YieldsC at *
  rw [he, hw]
  exact hy
theorem YieldsC.wpOp {C : World → Prop} {Q : Exit → Act → World → Prop} {i : Nat} {o : Oper} {v : Value} {a : Act} (hi : ops[i]? = some o) (hy : YieldsC P ops C o v a) {K : Act → World → Prop} {w : World} (hC : C w) (h : K (a.put o.dst v) w) : wpOp P ops Q i K a w := by
  unfold Go.wpOp
  simp only [hi]
  rcases hy with ⟨hw, hv⟩ | ⟨hw, rfl⟩
  · simp only [hw, if_true, Oper.wp, hv w hC, Oper.upon]; exact .inl h
  · simp only [hw, Bool.false_eq_true, if_false]; exact h
theorem wpOp_putC {C : World → Prop} {Q : Exit → Act → World → Prop} {j : Nat} {oi oj : Oper} {v : Value} (hj : ops[j]? = some oj) (hap : oi.apart ops oj = true)
    (hsi : ∀ cs b, oi.op ≠ .select cs b) (hsj : ∀ cs b, oj.op ≠ .select cs b)
    (hQ : ∀ c a w, Q (.panic c) (a.put oi.dst v) w → Q (.panic c) a w) {K : Act → World → Prop} {a : Act} {w : World}
    (hy : YieldsC P ops C oi v a) (h : wpOp P ops Q j K (a.put oi.dst v) w) :
    wpOp P ops Q j (fun a' w' => YieldsC P ops C oi v a' ∧ K (a'.put oi.dst v) w') a w := by
  obtain ⟨h1, h2, h3⟩ := Oper.apart_spec hap
  have keep : ∀ (a : Act), YieldsC P ops C oi v a → ∀ u, YieldsC P ops C oi v (a.put oj.dst u) := fun a hy u =>
    hy.of_same (execOp_put oi hsi a oj.dst u h3) (wanted_put oi a oj.dst u h3)
  have keepD : ∀ d, YieldsC P ops C oi v { a with defers := d :: a.defers } := fun d => hy.of_same rfl rfl
  unfold Go.wpOp at *
  simp only [hj] at *
  rw [wanted_put oj a oi.dst v h1] at h
  split
  · rename_i hw
    simp only [hw, if_true] at h
    rcases h with h | ⟨hasks, hlets⟩
    case inr => exact .inr ⟨by unfold Oper.asks at *; rw [execOp_put oj hsj a oi.dst v h1] at hasks; exact hasks, hlets⟩
    refine .inl ?_
    unfold Oper.wp at *
    rw [execOp_put oj hsj a oi.dst v h1] at h
    generalize (execOp a.eval oj).run P w = r at *
    cases r with
    | ok n w' =>
      cases n <;> simp only [Oper.upon] at h ⊢
      case value u => exact ⟨keep a hy u, by rw [← Act.put_comm a v u h2]; exact h⟩
      case skip => exact ⟨keep a hy _, by rw [← Act.put_comm a v undef h2]; exact h⟩
      case defer d =>
        refine ⟨keep _ (keepD d) _, ?_⟩
        rw [← Act.put_comm _ v undef h2, ← Act.put_defers]
        exact h
      case enter f args =>
        refine Calls.mono h fun e w'' he => ?_
        cases e with
        | returned u => exact ⟨keep a hy u, by rw [← Act.put_comm a v u h2]; exact he⟩
        | panicked c => exact hQ _ _ _ he
        | outgrown => exact he
      case row row args => exact Rows.mono h fun u w'' he => ⟨keep a hy u, by rw [← Act.put_comm a v u h2]; exact he⟩
    | halt x w' =>
      cases x <;> simp only [Oper.upon] at h ⊢
      case panic u => exact hQ _ _ _ h
  · rename_i hw
    simp only [hw] at h
    exact ⟨keep a hy _, by rw [← Act.put_comm a v undef h2]; exact h⟩
theorem pend_of {listed : Array Bool} {j : Nat} (hj : j ∈ Region.ready .any ops listed) : listed.getD j false = false := by
  have hun := (mem_ready.1 hj).1
  rcases Nat.lt_or_ge j listed.size with h' | h'
  · simp [h'] at hun ⊢; exact hun
  · simp [Array.getElem?_eq_none h'] at hun
theorem keepQ_pend {listed : Array Bool} {fl : List Nat} {j q : Nat} (hcl : Closed ops listed) (hj : j ∈ Region.ready .any ops listed) (hq : q ∈ fl) (hqj : q ≠ j) (hun : listed.getD q false = false) : keepQ ops fl j q = true := by
  obtain ⟨_, oj, hoj, hall⟩ := mem_ready.1 hj
  simp only [keepQ, Bool.and_eq_true, Bool.not_eq_true']
  refine ⟨⟨by simpa using hq, by simpa using hqj⟩, ?_⟩
  cases hwb : waitsB ops ops.size j q with
  | false => rfl
  | true =>
    have := waits_listed hcl ops.size j q (fun o ho e he hb => by
      have : o = oj := Option.some.inj (ho.symm.trans hoj)
      subst this
      exact hall e he hb) hwb
    rw [hun] at this
    cases this
theorem unset_of {listed : Array Bool} {j q : Nat} (hj : j ∈ Region.ready .any ops listed) (hun : (listed.setIfInBounds j true).getD q false = false) : q ≠ j ∧ listed.getD q false = false := by
  by_cases hqj : j = q
  · subst hqj
    rcases Nat.lt_or_ge j listed.size with h' | h'
    · simp [h'] at hun
    · exact absurd (mem_ready.1 hj).1 (by simp [Array.getElem?_eq_none h'])
  · rw [getD_set_ne false hqj] at hun; exact ⟨Ne.symm hqj, hun⟩
theorem wpAnyC_first {C : Nat → World → Prop} {fl : List Nat} {Q : Exit → Act → World → Prop} {i : Nat} {oi : Oper} {v : Value} (hi : ops[i]? = some oi) (hfl : i ∈ fl) (hsel : ∀ (j : Nat) (o : Oper) cs b, ops[j]? = some o → o.op ≠ .select cs b)
    (hQ : ∀ c a w, Q (.panic c) (a.put oi.dst v) w → Q (.panic c) a w) :
    ∀ (fuel : Nat) (E : Nat → Prop) (listed : Array Bool) (a : Act) (w : World), (∀ q, E q → listed.getD q false = true) → (∀ q ∈ fl, (listed.getD q false = false ∨ E q) → C q w) → Closed ops listed →
      (∀ j oj, ops[j]? = some oj → j ≠ i → listed.getD j true = false → (∀ e ∈ oj.after, Region.binds .any e = true → e.on ≠ i) → oi.apart ops oj = true) →
      i ∈ Region.ready .any ops listed → YieldsC P ops (C i) oi v a →
      wpAnyC P ops C fl Q fuel (fun q => E q ∨ q = i) (listed.setIfInBounds i true) (a.put oi.dst v) w → wpAnyC P ops C fl Q (fuel + 1) E listed a w := by
  have mem_of : ∀ {q : Nat}, keepQ ops fl i q = true → q ∈ fl := fun hq => by simp only [keepQ, Bool.and_eq_true] at hq; simpa using hq.1.1
  intro fuel
  induction fuel with
  | zero =>
    intro E listed a w _ hC _ _ hr hy H
    refine ⟨fun h => (by rw [h] at hr; cases hr), fun j hj => ?_⟩
    by_cases hji : j = i
    · subst hji
      exact hy.wpOp hi (hC j hfl (.inl (pend_of hr))) ⟨fun q hq hu => hC q (mem_of hq) hu, H⟩
    · have := ready_mono hj hji
      rw [H.1] at this
      cases this
  | succ fuel ih =>
    intro E listed a w hE hC hcl hfree hr hy H
    refine ⟨fun h => (by rw [h] at hr; cases hr), fun j hj => ?_⟩
    by_cases hji : j = i
    · subst hji
      exact hy.wpOp hi (hC j hfl (.inl (pend_of hr))) ⟨fun q hq hu => hC q (mem_of hq) hu, wpAnyC_less _ _ _ _ _ _ (fun q h1 => .inl h1.1) H⟩
    · have h1 := H.2 j (ready_mono hj hji)
      obtain ⟨hjun, oj, hoj, hall⟩ := mem_ready.1 hj
      have hunf : listed.getD i false = false := pend_of hr
      have hnot : ∀ e ∈ oj.after, Region.binds .any e = true → e.on ≠ i := fun e he hb heq => by
        have h1 := hall e he hb
        rw [heq, hunf] at h1
        cases h1
      have hki : keepQ ops fl j i = true := keepQ_pend hcl hj hfl (Ne.symm hji) hunf
      have hwi : waitsB ops ops.size j i = false := by
        simp only [keepQ, Bool.and_eq_true, Bool.not_eq_true'] at hki; exact hki.2
      have h2 := wpOp_putC hoj (hfree j oj hoj hji hjun hnot) (fun cs b => hsel i oi cs b hi) (fun cs b => hsel j oj cs b hoj) hQ hy h1
      have hfree' : ∀ k ok, ops[k]? = some ok → k ≠ i → (listed.setIfInBounds j true).getD k true = false →
          (∀ e ∈ ok.after, Region.binds .any e = true → e.on ≠ i) → oi.apart ops ok = true := fun k ok hk hki hun hno => by
        refine hfree k ok hk hki ?_ hno
        by_cases hjk : j = k
        · subst hjk; exact hjun
        · rw [getD_set_ne true hjk] at hun; exact hun
      refine wpOp_mono (fun a' w' h3 => ?_) h2
      have hall' : ∀ q, keepQ ops fl j q = true → (listed.getD q false = false ∨ E q) → C q w' := fun q hq hu => by
        by_cases hqi : q = i
        · exact h3.2.1 q hq (.inr (.inr hqi))
        · rcases hu with hu | hu
          · exact h3.2.1 q hq (.inl (by rw [getD_set_ne false (Ne.symm hqi)]; exact hu))
          · exact h3.2.1 q hq (.inr (.inl hu))
      refine ⟨hall', ih (fun q => E q ∧ waitsB ops ops.size j q = false) (listed.setIfInBounds j true) a' w' (fun q hq => getD_set_true (hE q hq.1)) (fun q hq hun => ?_) (hcl.set hj) hfree' (ready_mono hr (Ne.symm hji)) h3.1 ?_⟩
      · rcases hun with hun | hun
        · obtain ⟨h4, h5⟩ := unset_of hj hun
          exact hall' q (keepQ_pend hcl hj hq h4 h5) (.inl h5)
        · refine hall' q ?_ (.inr hun.1)
          simp only [keepQ, Bool.and_eq_true, Bool.not_eq_true']
          refine ⟨⟨by simpa using hq, ?_⟩, hun.2⟩
          have := hE q hun.1
          have hpj := pend_of hj
          have hne : q ≠ j := fun e => by subst e; rw [hpj] at this; cases this
          simpa using hne
      · rw [Array.setIfInBounds_comm _ _ hji]
        refine wpAnyC_less _ _ _ _ _ _ (fun q h1 => ?_) h3.2.2
        rcases h1 with h1 | rfl
        · exact ⟨.inl h1.1, h1.2⟩
        · exact ⟨.inr rfl, hwi⟩
/-- The order in which the walk takes the operations: 'fl i': it may come at any time; 'on i': nothing else can come now; 'two': two can. -/
inductive OT where
  | nil
  | fl (i : Nat) (r : OT)
  | on (i : Nat) (r : OT)
  | two (i : Nat) (a : OT) (j : Nat) (b : OT)
def OT.len : OT → Nat
  | .nil => 0
  | .fl _ r => r.len + 1
  | .on _ r => r.len + 1
  | .two _ a _ _ => a.len + 1
def ordOk (ops : Array Oper) : OT → Array Bool → Bool
  | .nil, listed => (Region.ready .any ops listed).isEmpty
  | .fl i r, listed => (Region.ready .any ops listed).contains i && Region.free .any ops listed i && ordOk ops r (listed.setIfInBounds i true)
  | .on i r, listed => decide (Region.ready .any ops listed = [i]) && ordOk ops r (listed.setIfInBounds i true)
  | .two i a j b, listed => decide (Region.ready .any ops listed = [i, j]) && decide (a.len = b.len) && ordOk ops a (listed.setIfInBounds i true) && ordOk ops b (listed.setIfInBounds j true)
def flOf : OT → List Nat
  | .nil => []
  | .fl i r => i :: flOf r
  | .on _ r => flOf r
  | .two _ a _ b => flOf a ++ flOf b
def ordWp (P : Program) (ops : Array Oper) (C : Nat → World → Prop) (fl : List Nat) (Q : Exit → Act → World → Prop) : OT → Act → World → Prop
  | .nil, a, w => Q .normal a w
  | .fl i r, a, w => ∃ o v, ops[i]? = some o ∧ YieldsC P ops (C i) o v a ∧ ordWp P ops C fl Q r (a.put o.dst v) w
  | .on i r, a, w => wpOp P ops Q i (fun a' w' => (∀ q, keepQ ops fl i q = true → C q w') ∧ ordWp P ops C fl Q r a' w') a w
  | .two i x j y, a, w => wpOp P ops Q i (fun a' w' => (∀ q, keepQ ops fl i q = true → C q w') ∧ ordWp P ops C fl Q x a' w') a w ∧ wpOp P ops Q j (fun a' w' => (∀ q, keepQ ops fl j q = true → C q w') ∧ ordWp P ops C fl Q y a' w') a w
theorem next_C {C : Nat → World → Prop} {fl : List Nat} {E : Nat → Prop} {listed : Array Bool} {w' : World} {j : Nat} (hE : ∀ q, E q → listed.getD q false = true) (hcl : Closed ops listed) (hj : j ∈ Region.ready .any ops listed) (hC' : ∀ q, keepQ ops fl j q = true → C q w') :
    ∀ q ∈ fl, ((listed.setIfInBounds j true).getD q false = false ∨ (E q ∧ waitsB ops ops.size j q = false)) → C q w' := fun q hq hu => by
  rcases hu with hun | hun
  · obtain ⟨h4, h5⟩ := unset_of hj hun
    exact hC' q (keepQ_pend hcl hj hq h4 h5)
  · refine hC' q ?_
    simp only [keepQ, Bool.and_eq_true, Bool.not_eq_true']
    refine ⟨⟨by simpa using hq, ?_⟩, hun.2⟩
    have := hE q hun.1
    have hpj := pend_of hj
    have hne : q ≠ j := fun e => by subst e; rw [hpj] at this; cases this
    simpa using hne
theorem wpAnyC_of_ord {C : Nat → World → Prop} {fl : List Nat} {Q : Exit → Act → World → Prop} (hs : Region.noSelect ops = true) (hQ : ∀ c d v a w, Q (.panic c) (a.put d v) w → Q (.panic c) a w) : ∀ (r : OT) (E : Nat → Prop) (listed : Array Bool) (a : Act) (w : World), (∀ q, E q → listed.getD q false = true) → (∀ q ∈ fl, (listed.getD q false = false ∨ E q) → C q w) → Closed ops listed → (∀ i ∈ flOf r, i ∈ fl) → ordOk ops r listed = true → ordWp P ops C fl Q r a w → wpAnyC P ops C fl Q r.len E listed a w
  | .nil, E, listed, a, w, _, _, _, _, ho, h => ⟨by simpa [ordOk] using ho, h⟩
  | .fl i r, E, listed, a, w, hE, hC, hcl, hfl, ho, h => by
    simp only [ordOk, Bool.and_eq_true] at ho
    obtain ⟨o, v, hi, hy, hK⟩ := h
    have hr : i ∈ Region.ready .any ops listed := by simpa using ho.1.1
    have hif : i ∈ fl := hfl i (by simp [flOf])
    have hpi := pend_of hr
    have hsi : (listed.setIfInBounds i true).getD i false = true := by
      rcases Nat.lt_or_ge i listed.size with h' | h'
      · simp [h']
      · exact absurd (mem_ready.1 hr).1 (by simp [Array.getElem?_eq_none h'])
    exact wpAnyC_first hi hif (Region.noSelect_spec hs) (fun c a w h => hQ _ _ _ _ _ h) r.len E listed a w hE hC hcl (Region.free_spec hi ho.1.2) hr hy
      (wpAnyC_of_ord hs hQ r _ _ _ w (fun q hq => by
        rcases hq with hq | rfl
        · exact getD_set_true (hE q hq)
        · exact hsi) (fun q hq hu => by
        rcases hu with hu | hu | rfl
        · exact hC q hq (.inl (unset_of hr hu).2)
        · exact hC q hq (.inr hu)
        · exact hC q hq (.inl hpi)) (hcl.set hr) (fun j hj => hfl j (by simp [flOf, hj])) ho.2 hK)
  | .on i r, E, listed, a, w, hE, _, hcl, hfl, ho, h => by
    simp only [ordOk, Bool.and_eq_true, decide_eq_true_eq] at ho
    refine ⟨fun h0 => (by rw [ho.1] at h0; cases h0), fun j hj => ?_⟩
    have hj0 := hj
    rw [ho.1] at hj
    have hij : j = i := by simpa using hj
    subst hij
    exact wpOp_mono (fun a' w' ⟨hC', h'⟩ => ⟨fun q hk _ => hC' q hk, wpAnyC_of_ord hs hQ r _ _ a' w' (fun q hq => getD_set_true (hE q hq.1)) (next_C hE hcl hj0 hC') (hcl.set hj0) (fun q hq => hfl q (by simpa [flOf] using hq)) ho.2 h'⟩) h
  | .two i x q y, E, listed, a, w, hE, _, hcl, hfl, ho, h => by
    simp only [ordOk, Bool.and_eq_true, decide_eq_true_eq] at ho
    obtain ⟨⟨⟨h1, h2⟩, h3⟩, h4⟩ := ho
    refine ⟨fun h0 => (by rw [h1] at h0; cases h0), fun j hj => ?_⟩
    have hj0 := hj
    rw [h1] at hj
    have hij : j = i ∨ j = q := by simpa using hj
    rcases hij with rfl | rfl
    · exact wpOp_mono (fun a' w' ⟨hC', h'⟩ => ⟨fun q hk _ => hC' q hk, wpAnyC_of_ord hs hQ x _ _ a' w' (fun q hq => getD_set_true (hE q hq.1)) (next_C hE hcl hj0 hC') (hcl.set hj0) (fun q hq => hfl q (by simp [flOf, hq])) h3 h'⟩) h.1
    · refine wpOp_mono (fun a' w' ⟨hC', h'⟩ => ⟨fun q hk _ => hC' q hk, ?_⟩) h.2
      rw [h2]
      exact wpAnyC_of_ord hs hQ y _ _ a' w' (fun q hq => getD_set_true (hE q hq.1)) (next_C hE hcl hj0 hC') (hcl.set hj0) (fun q hq => hfl q (by simp [flOf, hq])) h4 h'
end
section
variable {κ : Ctx} {p : List PanicEntry → World → Prop} {P : Program} {N : Nat} {F : Fr} {w : World} {ops : Array Oper} {K : Fr → World → Prop} {l : List Oper}
def WD (κ : Ctx) (P : Program) (N : Nat) (p : List PanicEntry → World → Prop) (ops : Array Oper) (C : Nat → World → Prop) (fl : List Nat) (K : Fr → World → Prop) (r : OT) (F : Fr) (w : World) : Prop :=
  ∀ (a : Act) (wI : World), St κ N wI a w → frOf a = F → ordWp P ops C fl (LQ κ N wI (fun c _ w => p c w) K) r a w
theorem WC_regionD {n r : Fr → World → Prop} {x : List (Nat × (Fr → World → Prop))} {id : Nat} {l : List Oper} (hm : P.follows .mixedOrders = true) (C : Nat → World → Prop) (ord : OT)
    (hs : Region.noSelect l.toArray = true) (hl : ord.len = l.length) (ho : ordOk l.toArray ord (Array.replicate l.length false) = true)
    (hC : ∀ q, C q w.drew) (h : WD κ P N p l.toArray C (flOf ord) n ord F w.drew) (hro : κ.ro = none := by rfl) : WC κ P N (.region id l.toArray true) ⟨n, r, x, fun c _ w => p c w⟩ F w := by
  intro a wI h1 h3
  have hw : w.drew = { w with drawn := w.drawn + 1 } := rfl
  have h1' : St κ N wI a w.drew := ⟨h1.size, h1.calm.keep (Keeps.drew _), h1.keep.trans (Keeps.drew _), h1.base⟩
  rw [hw] at h hC h1'
  have hcl : Closed l.toArray (Array.replicate l.length false) := fun j o _ hl => by
    rcases Nat.lt_or_ge j l.length with h' | h'
    · simp [h'] at hl
    · simp [h'] at hl
  have h0 := wpAnyC_of_ord (P := P) (C := C) (fl := flOf ord) hs (Q := LQ κ N wI (fun c _ w => p c w) n) LQ.put ord (fun _ => False) (Array.replicate l.length false) a _ (fun _ h => h.elim) (fun q _ _ => hC q) hcl (fun i hi => hi) ho (h a wI h1' h3)
  rw [hl] at h0
  rw [hro]
  refine wpIn_wide.2 (wp_mono (wp_region_any hm (by simpa using wpAny_of_C _ _ _ _ _ h0)) ?_)
  rintro e a' w' ⟨p1, p3⟩
  cases e with
  | normal => exact ⟨p1, p3⟩
  | panic c => exact ⟨p1, p3⟩
  | ret => exact p3.elim
  | exit k => exact p3.elim
  | goto l => exact p3.elim
  | outgrown => exact p3.elim
variable {C : Nat → World → Prop} {fl : List Nat} {r : OT} {i d : Nat} {o : Oper}
theorem WD_nil (h : K F w) : WD κ P N p ops C fl K .nil F w := fun _ _ h1 h3 => ⟨h1, h3 ▸ h⟩
theorem WD_two {j : Nat} {s : OT} (h1 : WD κ P N p ops C fl K (.on i r) F w) (h2 : WD κ P N p ops C fl K (.on j s) F w) : WD κ P N p ops C fl K (.two i r j s) F w :=
  fun a wI p1 p3 => ⟨h1 a wI p1 p3, h2 a wI p1 p3⟩
theorem WD_val {op : Op} {ty : TypeId} {pos : String} {af : Array Edge} {v : Value} (hi : ops.toList[i]? = some ⟨some d, op, ty, pos, af, none⟩)
    (hrun : ∀ w, C i w → (execOp (ev F) ⟨some d, op, ty, pos, af, none⟩).run P w = .ok (.value v) w) (hd : Nat.blt d N = true) (h : WD κ P N p ops C fl K r (upd F d v) w) : WD κ P N p ops C fl K (.fl i r) F w := by
  intro a wI h1 h3
  have hd' : d < a.tmps.size := by exact h1.lt hd
  refine ⟨⟨some d, op, ty, pos, af, none⟩, v, by simpa using hi, .inl ⟨rfl, fun w hw => ?_⟩, h _ wI (h1.puts _ _) ?_⟩
  · rw [eval_frOf, h3]; exact hrun w hw
  · rw [← h3]; exact frOf_put a d v hd'
theorem WD_valY {op : Op} {ty : TypeId} {pos : String} {af : Array Edge} {v : Value} {j g : Nat} {want b : Bool} (hi : ops.toList[i]? = some ⟨some d, op, ty, pos, af, some (j, want)⟩)
    (hj : (ops.toList[j]?).bind (·.dst) = some g) (hb : b = want) (hF : F g = .bool b) (hg : Nat.blt g N = true)
    (hrun : ∀ w, C i w → (execOp (ev F) ⟨some d, op, ty, pos, af, some (j, want)⟩).run P w = .ok (.value v) w) (hd : Nat.blt d N = true) (h : WD κ P N p ops C fl K r (upd F d v) w) : WD κ P N p ops C fl K (.fl i r) F w := by
  intro a wI h1 h3
  have hd' : d < a.tmps.size := by exact h1.lt hd
  have hg' : g < a.tmps.size := by exact h1.lt hg
  have hy := yielded_frOf (a := a) (ops := ops) (j := j) (by simpa using hj) (by rw [h3]; exact hF) hg'
  refine ⟨⟨some d, op, ty, pos, af, some (j, want)⟩, v, by simpa using hi, .inl ⟨by simp [Region.wanted, hy, hb], fun w hw => ?_⟩, h _ wI (h1.puts _ _) ?_⟩
  · rw [eval_frOf, h3]; exact hrun w hw
  · rw [← h3]; exact frOf_put a d v hd'
theorem WD_skip {op : Op} {ty : TypeId} {pos : String} {af : Array Edge} {j g : Nat} {want b : Bool} (hi : ops.toList[i]? = some ⟨some d, op, ty, pos, af, some (j, want)⟩)
    (hj : (ops.toList[j]?).bind (·.dst) = some g) (hb : b = !want) (hF : F g = .bool b) (hg : Nat.blt g N = true) (hd : Nat.blt d N = true) (h : WD κ P N p ops C fl K r (upd F d undef) w) : WD κ P N p ops C fl K (.fl i r) F w := by
  intro a wI h1 h3
  have hd' : d < a.tmps.size := by exact h1.lt hd
  have hg' : g < a.tmps.size := by exact h1.lt hg
  have hy := yielded_frOf (a := a) (ops := ops) (j := j) (by simpa using hj) (by rw [h3]; exact hF) hg'
  refine ⟨⟨some d, op, ty, pos, af, some (j, want)⟩, undef, by simpa using hi, .inr ⟨by simp [Region.wanted, hy, hb], rfl⟩, h _ wI (h1.puts _ _) ?_⟩
  · rw [← h3]; exact frOf_put a d undef hd'
theorem WD_op {o : Oper} (hi : ops.toList[i]? = some o) (hg : o.guard = none) (h : OpP κ P N (fun c _ w => p c w) o F w (fun F' w' => (∀ q, keepQ ops fl i q = true → C q w') ∧ WD κ P N p ops C fl K r F' w')) : WD κ P N p ops C fl K (.on i r) F w := by
  intro a wI h1 h3
  have hi' : ops[i]? = some o := by simpa using hi
  unfold ordWp wpOp
  simp only [hi', Region.wanted, hg, if_true]
  exact .inl (wp_two (fun a' w' ⟨p1, p3, p4⟩ => ⟨p3, p4 a' wI p1 rfl⟩) PQ.lq (h.2 a wI h1 h3))
theorem WD_opY {o : Oper} {j g : Nat} {want b : Bool} (hi : ops.toList[i]? = some o) (hgd : o.guard = some (j, want)) (hj : (ops.toList[j]?).bind (·.dst) = some g) (hb : b = want) (hF : F g = .bool b) (hg : Nat.blt g N = true)
    (h : OpP κ P N (fun c _ w => p c w) o F w (fun F' w' => (∀ q, keepQ ops fl i q = true → C q w') ∧ WD κ P N p ops C fl K r F' w')) : WD κ P N p ops C fl K (.on i r) F w := by
  intro a wI h1 h3
  have hi' : ops[i]? = some o := by simpa using hi
  have hg' : g < a.tmps.size := by exact h1.lt hg
  have hy := yielded_frOf (a := a) (ops := ops) (j := j) (by simpa using hj) (by rw [h3]; exact hF) hg'
  have hw : Region.wanted o (yielded ops a.tmps) = true := by simp [Region.wanted, hgd, hy, hb]
  unfold ordWp wpOp
  simp only [hi', hw, if_true]
  exact .inl (wp_two (fun a' w' ⟨p1, p3, p4⟩ => ⟨p3, p4 a' wI p1 rfl⟩) PQ.lq (h.2 a wI h1 h3))
theorem WD_idx {α : Type} {R : Gm → List Value → α → Prop} {G : Gm} {T e sz bytes t : Nat} {X I : Operand} {ad : Option Addr} {len cap : Nat} {xs : List α} {k : IntKind} {q : Int} {y : α} {ty : TypeId} {pos : String} {af : Array Edge}
    (hi : ops.toList[i]? = some ⟨some t, .indexAddr T X I, ty, pos, af, none⟩)
    (hT : slB P T = some (e, sz, bytes)) (hs : RSl R sz G ad len cap xs) (hix : ix xs q = some y) (hx : ev F X = .slice ad len cap) (hq : ev F I = .int k q) (hd : Nat.blt t N = true)
    (h : ∀ b off cs, Cells G b off cs → cs.length = sz → R G cs y → WD κ P N p ops C fl K r (upd F t (.pointer (some ⟨b, off, none⟩))) w) : WD κ P N p ops C fl K (.fl i r) F w := by
  obtain ⟨b, off, cs, hrun, h1, h2, h3⟩ := rn_idx (P := P) (F := F) (d := some t) (ty := ty) (pos := pos) (af := af) (gd := none) hT hs hx hq hix
  exact WD_val hi (fun w _ => hrun w) hd (h b off cs h1 h2 h3)
theorem WD_idxY {α : Type} {R : Gm → List Value → α → Prop} {G : Gm} {T e sz bytes t : Nat} {X I : Operand} {ad : Option Addr} {len cap : Nat} {xs : List α} {k : IntKind} {q : Int} {y : α} {ty : TypeId} {pos : String} {af : Array Edge} {j g : Nat} {want b' : Bool}
    (hi : ops.toList[i]? = some ⟨some t, .indexAddr T X I, ty, pos, af, some (j, want)⟩) (hj : (ops.toList[j]?).bind (·.dst) = some g) (hb : b' = want) (hF : F g = .bool b') (hg : Nat.blt g N = true)
    (hT : slB P T = some (e, sz, bytes)) (hs : RSl R sz G ad len cap xs) (hix : ix xs q = some y) (hx : ev F X = .slice ad len cap) (hq : ev F I = .int k q) (hd : Nat.blt t N = true)
    (h : ∀ b off cs, Cells G b off cs → cs.length = sz → R G cs y → WD κ P N p ops C fl K r (upd F t (.pointer (some ⟨b, off, none⟩))) w) : WD κ P N p ops C fl K (.fl i r) F w := by
  obtain ⟨b, off, cs, hrun, h1, h2, h3⟩ := rn_idx (P := P) (F := F) (d := some t) (ty := ty) (pos := pos) (af := af) (gd := some (j, want)) hT hs hx hq hix
  exact WD_valY hi hj hb hF hg (fun w _ => hrun w) hd (h b off cs h1 h2 h3)
end
end Go.Proofs.YtcaflmilfhhikaaGreatDoor
