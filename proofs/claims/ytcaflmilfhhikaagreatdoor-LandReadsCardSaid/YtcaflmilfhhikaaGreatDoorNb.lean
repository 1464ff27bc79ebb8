/-
  Plain: what the program takes a word for; functions that give up, as options.
-/
import Derived.Test.YtcaflmilfhhikaaGreatDoorTx
namespace Go.Proofs.YtcaflmilfhhikaaGreatDoor
open Go.RowKit Go.Lib
set_option linter.unusedVariables false

abbrev Tex := List UInt8
/-- A function that may give up computes an option. -/
def Rel {α : Type} (m : Option (α ⊕ Tex)) (o : Option α) : Prop := match o with
  | some a => m = some (.inl a)
  | none => ∃ x, m = some (.inr x)
theorem Rel.of_eq {α : Type} {m : Option (α ⊕ Tex)} {o o' : Option α} (h : Rel m o) (e : o = o') : Rel m o' := e ▸ h
theorem Rel.bind {α β : Type} {m : Option (α ⊕ Tex)} {o : Option α} {k : α → Option (β ⊕ Tex)} {h : α → Option β} (hm : Rel m o) (hk : ∀ a, o = some a → Rel (k a) (h a)) : Rel (m.bind fun y => Sum.elim k (fun v => some (.inr v)) y) (o.bind h) := by
  cases o with
  | some a => rw [show m = some (.inl a) from hm]; exact hk a rfl
  | none => obtain ⟨x, e⟩ := hm; rw [e]; exact ⟨x, rfl⟩
/-- The same for a round of a loop. -/
def RelB {σ ρ : Type} (m : Option (σ ⊕ (ρ ⊕ Tex))) (o : Option (σ ⊕ ρ)) : Prop := match o with
  | some (.inl s) => m = some (.inl s)
  | some (.inr r) => m = some (.inr (.inl r))
  | none => ∃ x, m = some (.inr (.inr x))
theorem RelB.of_eq {σ ρ : Type} {m : Option (σ ⊕ (ρ ⊕ Tex))} {o o' : Option (σ ⊕ ρ)} (h : RelB m o) (e : o = o') : RelB m o' := e ▸ h
theorem RelB.bind {α σ ρ : Type} {m : Option (α ⊕ Tex)} {o : Option α} {k : α → Option (σ ⊕ (ρ ⊕ Tex))} {h : α → Option (σ ⊕ ρ)} (hm : Rel m o) (hk : ∀ a, o = some a → RelB (k a) (h a)) : RelB (m.bind fun y => Sum.elim k (fun v => some (.inr (.inr v))) y) (o.bind h) := by
  cases o with
  | some a => rw [show m = some (.inl a) from hm]; exact hk a rfl
  | none => obtain ⟨x, e⟩ := hm; rw [e]; exact ⟨x, rfl⟩
def itN {τ : Type} (step : Nat → τ → Option τ) : Nat → Nat → τ → Option τ
  | 0, _, t => some t
  | m + 1, k, t => (step k t).bind (itN step m (k + 1))
theorem lp_rel {τ σ ρ : Type} {body : σ → Option (σ ⊕ (ρ ⊕ Tex))} (enc : Nat → τ → σ) (n : Nat) (I : Nat → τ → Prop) (step : Nat → τ → Option τ) (fin : τ → ρ)
    (h1 : ∀ k t, k < n → I k t → RelB (body (enc k t)) ((step k t).map fun t' => .inl (enc (k + 1) t'))) (h3 : ∀ k t t', k < n → I k t → step k t = some t' → I (k + 1) t') (h2 : ∀ t, I n t → body (enc n t) = some (.inr (.inl (fin t)))) :
    ∀ m k t, k + m = n → I k t → Rel (lp body (enc k t)) ((itN step m k t).map fin)
  | 0, k, t, hk, hI => by
    have : k = n := by omega
    subst this
    rw [lp_eq, h2 t hI]
    rfl
  | m + 1, k, t, hk, hI => by
    have hb := h1 k t (by omega) hI
    rw [lp_eq]
    simp only [itN]
    cases hs : step k t with
    | none =>
      rw [hs] at hb
      obtain ⟨x, e⟩ := hb
      rw [e]
      exact ⟨x, rfl⟩
    | some t' =>
      rw [hs] at hb
      have e : body (enc k t) = some (.inl (enc (k + 1) t')) := hb
      rw [e]
      exact lp_rel enc n I step fin h1 h3 h2 m (k + 1) t' (by omega) (h3 k t t' (by omega) hI hs)
theorem f58_rel (c : Bool) (x : Tex) : Rel (f58 c x) (if c = true then some () else none) := by
  unfold f58
  cases c
  · exact ⟨x, rfl⟩
  · rfl
/-! ### Numbers -/
theorem trimM {w : Tex} : (w = trimPrefix w [45] ∨ w = 45 :: trimPrefix w [45]) := by
  unfold trimPrefix hasPrefix
  cases w with
  | nil => simp
  | cons c r =>
    by_cases h : c = 45
    · subst h; right; simp [List.isPrefixOf]
    · left; simp [List.isPrefixOf, Ne.symm h]
theorem trimM_len (w : Tex) : (trimPrefix w [45]).length ≤ w.length := by
  rcases trimM (w := w) with h | h
  · exact Nat.le_of_eq (congrArg List.length h.symm)
  · have := congrArg List.length h
    simp only [List.length_cons] at this
    omega
def num (w : Tex) : Option Int :=
  if (atoiV (trimPrefix w [45])).2 = true ∧ 0 ≤ (atoiV (trimPrefix w [45])).1 ∧ (trimPrefix w [45]).length ≤ 4 ∧ itoa (atoiV (trimPrefix w [45])).1 = trimPrefix w [45] ∧ (0 < (atoiV (trimPrefix w [45])).1 ∨ w = trimPrefix w [45]) then
    some (if w = trimPrefix w [45] then (atoiV (trimPrefix w [45])).1 else -(atoiV (trimPrefix w [45])).1) else none
theorem num_word {w : Tex} {m : Int} : num w = some m ↔ wordN w m := by
  constructor
  · intro h
    unfold num at h
    split at h
    · rename_i hc
      obtain ⟨h1, h2, h3, h4, h5⟩ := hc
      have := wordN_of trimM h2 h3 h4 h5
      rwa [Option.some.inj h] at this
    · cases h
  · rintro ⟨rfl, h0, h1⟩
    obtain ⟨u, hu, ha, hl, hi, hc⟩ := wordN_parts h0 h1
    rcases hc with ⟨hm, rfl, e⟩ | ⟨hm, rfl, hp, e⟩
    · have et : trimPrefix (itoa (u : Int)) [45] = decDigits u := by
        rcases trimM (w := itoa (u : Int)) with h | h
        · rw [← h, e]
        · rw [e] at h; exact absurd h (dec_head u _)
      unfold num
      rw [et]
      have ea : atoiV (decDigits u) = ((u : Int), true) := by unfold atoiV; rw [ha]
      rw [ea, if_pos ⟨rfl, by omega, hl, hi, .inr e⟩, if_pos e]
    · have et : trimPrefix (itoa (-(u : Int))) [45] = decDigits u := by
        rw [e]; simp [trimPrefix, hasPrefix, List.isPrefixOf]
      have hne : ¬ itoa (-(u : Int)) = decDigits u := by rw [e]; exact fun h => dec_head u _ h.symm
      unfold num
      rw [et]
      have ea : atoiV (decDigits u) = ((u : Int), true) := by unfold atoiV; rw [ha]
      rw [ea, if_pos ⟨rfl, by omega, hl, hi, .inl (by omega)⟩, if_neg hne]
theorem num_small {w : Tex} {m : Int} (h : num w = some m) : small m := (num_word.1 h).2
theorem num_itoa {m : Int} (h : small m) : num (itoa m) = some m := num_word.2 ⟨rfl, h⟩
theorem f60_rel (w : Tex) (hw : w.length ≤ 1000000) : Rel (f60 w) (num w) := by
  have htl := trimM_len w
  have hlen : (trimPrefix w [45]).length ≤ 281474976710656 := by omega
  have e78 : f78 (trimPrefix w [45]) = some (atoiV (trimPrefix w [45])) := by unfold f78; rw [if_pos hlen]
  have hb : -9223372036854775808 ≤ (atoiV (trimPrefix w [45])).1 ∧ (atoiV (trimPrefix w [45])).1 ≤ 9223372036854775807 := by
    unfold atoiV
    split
    · exact atoiAll_bounds ‹_›
    · exact atoiSat_bounds _
    · decide
  have h4n : (trimPrefix w [45]).length ≤ 4 → itoa (atoiV (trimPrefix w [45])).1 = trimPrefix w [45] → 0 ≤ (atoiV (trimPrefix w [45])).1 → (atoiV (trimPrefix w [45])).1 ≤ 9999 := fun h1 h2 h3 => by
    obtain ⟨u, hu⟩ : ∃ u : Nat, (atoiV (trimPrefix w [45])).1 = u := ⟨(atoiV (trimPrefix w [45])).1.toNat, by omega⟩
    rw [hu, itoa_nat] at h2
    have := len4 (u := u) (by rw [h2]; exact h1)
    omega
  unfold f60 num f77
  rw [Option.bind_some, e78, Option.bind_some]
  generalize atoiV (trimPrefix w [45]) = a at *
  generalize trimPrefix w [45] = ds at *
  obtain ⟨n, b⟩ := a
  simp only at *
  have hF : ∀ x : Tex, f58 false x = some (.inr x) := fun x => rfl
  have hT : ∀ x : Tex, f58 true x = some (.inl ()) := fun x => rfl
  by_cases hC : b = true ∧ 0 ≤ n ∧ ds.length ≤ 4 ∧ itoa n = ds ∧ (0 < n ∨ w = ds)
  · rw [if_pos hC]
    obtain ⟨rfl, h0, h4, hi, h5⟩ := hC
    have hn := h4n h4 hi h0
    have d0 : decide (0 ≤ n) = true := by simpa using h0
    have d4 : decide ((ds.length : Int) ≤ 4) = true := by simp; omega
    have di : (itoa n == ds) = true := by simpa using hi
    have key : f58 (decide (0 < n) || (w == ds)) w = some (.inl ()) := by
      have : (decide (0 < n) || (w == ds)) = true := by simpa using h5
      rw [this]; rfl
    have ew : IntKind.i64.wrap (0 - n) = -n := by rw [wrap_id] <;> omega
    simp only [d0, d4, if_true, itoaF_ok hb.1 hb.2, Option.bind_some, di, hT, ew]
    by_cases hp : 0 < n
    · have dp : decide (0 < n) = true := by simpa using hp
      simp only [dp, if_true, Option.bind_some, Sum.elim_inl]
      by_cases he : w = ds
      · simp only [he, if_true, beq_self_eq_true, Bool.not_true, Bool.false_eq_true, if_false]; exact rfl
      · have hb' : (w == ds) = false := by simpa using he
        simp only [hb', he, if_false, Bool.not_false, if_true]; exact rfl
    · have dp : decide (0 < n) = false := by simpa using hp
      have he : w = ds := h5.resolve_left hp
      subst he
      simp only [dp, beq_self_eq_true, hT, Bool.false_eq_true, if_false, Option.bind_some, Sum.elim_inl, Bool.not_true, if_true]; exact rfl
  · rw [if_neg hC]
    refine ⟨w, ?_⟩
    cases b with
    | false => simp only [Bool.false_eq_true, if_false, hF, Option.bind_some, Sum.elim_inr]
    | true =>
      by_cases h0 : 0 ≤ n
      · have d0 : decide (0 ≤ n) = true := by simpa using h0
        by_cases h4 : ds.length ≤ 4
        · have d4 : decide ((ds.length : Int) ≤ 4) = true := by simp; omega
          by_cases hi : itoa n = ds
          · have di : (itoa n == ds) = true := by simpa using hi
            have h5 : ¬ (0 < n ∨ w = ds) := fun h => hC ⟨rfl, h0, h4, hi, h⟩
            rw [not_or] at h5
            have dp : decide (0 < n) = false := by simpa using h5.1
            have hb' : (w == ds) = false := by simpa using h5.2
            simp only [d0, d4, if_true, itoaF_ok hb.1 hb.2, Option.bind_some, di, dp, hb', hF, Bool.false_eq_true, if_false, Sum.elim_inr]
          · have di : (itoa n == ds) = false := by simpa using hi
            simp only [d0, d4, if_true, itoaF_ok hb.1 hb.2, Option.bind_some, di, hF, Bool.false_eq_true, if_false, Sum.elim_inr]
        · have d4 : decide ((ds.length : Int) ≤ 4) = false := by simp; omega
          simp only [d0, d4, if_true, hF, Bool.false_eq_true, if_false, Option.bind_some, Sum.elim_inr]
      · have d0 : decide (0 ≤ n) = false := by simpa using h0
        simp only [d0, if_true, hF, Bool.false_eq_true, if_false, Option.bind_some, Sum.elim_inr]
def pnum (w : Tex) : Option Int := if w = [45] then some (-1) else (num w).bind fun n => if n = -1 then none else some n
theorem pnum_pw {n : Int} (h : small n) : pnum (pw n) = some n := by
  unfold pnum pw
  by_cases hn : n = -1
  · rw [if_pos hn, if_pos rfl, hn]
  · rw [if_neg hn, if_neg, num_itoa h, Option.bind_some, if_neg hn]
    intro e
    unfold itoa at e
    split at e
    · exact dec_ne _ (List.cons.inj e).2
    · exact dec_head _ _ e
theorem pnum_small {w : Tex} {n : Int} (h : pnum w = some n) : small n := by
  unfold pnum at h
  split at h
  · cases h; exact ⟨by decide, by decide⟩
  · obtain ⟨m, h1, h2⟩ := Option.bind_eq_some_iff.1 h
    split at h2
    · cases h2
    · cases h2; exact num_small h1
theorem pnum_word {w : Tex} {n : Int} (h : pnum w = some n) : w = pw n := by
  unfold pnum at h
  split at h
  · cases h; rename_i e; rw [e]; rfl
  · obtain ⟨m, h1, h2⟩ := Option.bind_eq_some_iff.1 h
    split at h2
    · cases h2
    · cases h2
      rename_i hm
      unfold pw
      rw [if_neg hm]
      exact (num_word.1 h1).1
end Go.Proofs.YtcaflmilfhhikaaGreatDoor
