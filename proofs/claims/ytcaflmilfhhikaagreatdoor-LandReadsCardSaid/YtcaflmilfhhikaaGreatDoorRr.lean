/-
  Plain: how the document cuts a text and reads a word and a line.
-/
import Derived.Test.YtcaflmilfhhikaaGreatDoorLk
namespace Go.Proofs.YtcaflmilfhhikaaGreatDoor
open Go.RowKit Go.Lib
set_option linter.unusedVariables false

/-! ### Cutting -/
def stS (c : UInt8) (t : List Tex × Tex) (y : UInt8) : List Tex × Tex := if y = c then (t.1 ++ [t.2], []) else (t.1, t.2 ++ [y])
theorem fold_spl (c : UInt8) : ∀ (s : Tex) (o : List Tex) (u : Tex), ∃ h t, splL c s = h :: t ∧ (s.foldl (stS c) (o, u)).1 ++ [(s.foldl (stS c) (o, u)).2] = o ++ ((u ++ h) :: t)
  | [], o, u => ⟨[], [], rfl, by simp⟩
  | y :: r, o, u => by
    rw [List.foldl_cons, splL]
    by_cases h : y = c
    · rw [if_pos h]
      have e : stS c (o, u) y = (o ++ [u], []) := by unfold stS; rw [if_pos h]
      rw [e]
      obtain ⟨h1, t1, h2, h3⟩ := fold_spl c r (o ++ [u]) []
      exact ⟨[], splL c r, rfl, by rw [h3, h2]; simp⟩
    · rw [if_neg h]
      have e : stS c (o, u) y = (o, u ++ [y]) := by unfold stS; rw [if_neg h]
      rw [e]
      obtain ⟨h1, t1, h2, h3⟩ := fold_spl c r o (u ++ [y])
      rw [h2]
      exact ⟨y :: h1, t1, rfl, by rw [h3]; simp⟩
theorem f33_eq (c : UInt8) (s : Tex) (hl : s.length ≤ 1000000) : f33 s (c.toNat : Int) = some (splL c s) := by
  unfold f33
  have hsub : ∀ (k : Nat) (u : Tex), k ≤ s.length → u.length ≤ k → (s.take k).drop (k - u.length) = u → subL s ((k - u.length : Nat) : Int) (k : Int) = some u := fun k u hk hu he => by
    unfold subL
    rw [if_pos ⟨by omega, by omega, by omega⟩]
    congr 1
    rw [show ((k - u.length : Nat) : Int).toNat = k - u.length by omega, show (k : Int).toNat = k by omega]
    conv => rhs; rw [← he]
    rw [List.drop_take]
  have h1 : lp (f33_b0 s (c.toNat : Int)) ([], 0, 0) = some ((s.foldl (stS c) ([], [])).1, ((s.length - (s.foldl (stS c) ([], [])).2.length : Nat) : Int)) ∧ ((s.foldl (stS c) ([], [])).2.length ≤ s.length ∧ (s.take s.length).drop (s.length - (s.foldl (stS c) ([], [])).2.length) = (s.foldl (stS c) ([], [])).2 ∧ (s.foldl (stS c) ([], [])).1.length ≤ s.length) := by
    have key : ∀ (ys : Tex) (k : Nat) (t : List Tex × Tex), s.drop k = ys → k ≤ s.length → (t.2.length ≤ k ∧ (s.take k).drop (k - t.2.length) = t.2 ∧ t.1.length ≤ k) →
        lp (f33_b0 s (c.toNat : Int)) (t.1, ((k - t.2.length : Nat) : Int), (k : Int)) = some ((ys.foldl (stS c) t).1, ((s.length - (ys.foldl (stS c) t).2.length : Nat) : Int)) ∧ ((ys.foldl (stS c) t).2.length ≤ s.length ∧ (s.take s.length).drop (s.length - (ys.foldl (stS c) t).2.length) = (ys.foldl (stS c) t).2 ∧ (ys.foldl (stS c) t).1.length ≤ s.length) := by
      intro ys
      induction ys with
      | nil =>
        intro k t hd hk hI
        have : k = s.length := by have := List.drop_eq_nil_iff.1 hd; omega
        subst this
        refine ⟨?_, hI⟩
        rw [lp_eq]
        have e : f33_b0 s (c.toNat : Int) (t.1, ((s.length - t.2.length : Nat) : Int), (s.length : Int)) = some (.inr (t.1, ((s.length - t.2.length : Nat) : Int))) := by unfold f33_b0; rw [if_neg (by simp)]
        rw [e]
        rfl
      | cons y ys ih =>
        intro k t hd hk hI
        have hlt : k < s.length := by
          rcases Nat.lt_or_ge k s.length with h | h
          · exact h
          · rw [List.drop_eq_nil_of_le h] at hd; cases hd
        rw [List.drop_eq_getElem_cons hlt] at hd
        injection hd with hy hd
        have hg : s[k]? = some y := by rw [List.getElem?_eq_getElem hlt, hy]
        have hw : IntKind.i64.wrap ((k : Int) + 1) = ((k + 1 : Nat) : Int) := by rw [wrap_id] <;> omega
        obtain ⟨i1, i2, i3⟩ := hI
        have etk : s.take (k + 1) = s.take k ++ [y] := by rw [List.take_add_one, hg]; rfl
        have hstep : f33_b0 s (c.toNat : Int) (t.1, ((k - t.2.length : Nat) : Int), (k : Int)) = some (.inl ((stS c t y).1, ((k + 1 - (stS c t y).2.length : Nat) : Int), ((k + 1 : Nat) : Int))) ∧ ((stS c t y).2.length ≤ k + 1 ∧ (s.take (k + 1)).drop (k + 1 - (stS c t y).2.length) = (stS c t y).2 ∧ (stS c t y).1.length ≤ k + 1) := by
          unfold f33_b0
          rw [if_pos (by simp; omega)]
          simp only [ix_nat, hg, Option.bind_some, hw]
          by_cases h : y = c
          · have e : stS c t y = (t.1 ++ [t.2], []) := by unfold stS; rw [if_pos h]
            rw [e, if_pos (by rw [h]; simp), hsub k t.2 hk i1 i2, Option.bind_some]
            have ea : app t.1 [t.2] = some (t.1 ++ [t.2]) := by unfold app; rw [if_pos (by simp; omega)]
            rw [ea]
            refine ⟨by simp, by simp, ?_, by simp; omega⟩
            simp
          · have e : stS c t y = (t.1, t.2 ++ [y]) := by unfold stS; rw [if_neg h]
            have hne : ¬ (((y.toNat : Int) == (c.toNat : Int)) = true) := fun h' => h (UInt8.toNat_inj.1 (Int.ofNat.inj (by simpa using h' : (y.toNat : Int) = (c.toNat : Int))))
            rw [e, if_neg hne, Option.bind_some]
            refine ⟨?_, by simp; omega, ?_, by show t.1.length ≤ k + 1; omega⟩
            · congr 4
              simp only [List.length_append, List.length_cons, List.length_nil]
              omega
            · simp only [List.length_append, List.length_cons, List.length_nil]
              rw [etk, show k + 1 - (t.2.length + (0 + 1)) = k - t.2.length by omega, List.drop_append_of_le_length (by simp; omega), i2]
        obtain ⟨e1, e2⟩ := hstep
        rw [lp_eq, e1]
        exact ih (k + 1) (stS c t y) hd hlt e2
    exact key s 0 ([], []) rfl (Nat.zero_le _) ⟨Nat.le_refl _, rfl, Nat.le_refl _⟩
  obtain ⟨h1, h2, h3, h4⟩ := h1
  obtain ⟨h, t, h5, h6⟩ := fold_spl c s [] []
  rw [h1, Option.bind_some]
  show ((subL s _ (s.length : Int)).bind _) = _
  rw [hsub s.length _ (Nat.le_refl _) h2 h3, Option.bind_some]
  show ((app (s.foldl (stS c) ([], [])).1 _).bind _) = _
  have ea : app (s.foldl (stS c) ([], [])).1 [(s.foldl (stS c) ([], [])).2] = some ((s.foldl (stS c) ([], [])).1 ++ [(s.foldl (stS c) ([], [])).2]) := by unfold app; rw [if_pos (by simp; omega)]
  rw [ea, Option.bind_some, h6, h5]
  rfl
/-! ### A loop that may end with something else -/
theorem lp_exit {α σ τ ρ : Type} {body : σ → Option (σ ⊕ ρ)} (enc : Nat → τ → σ) (xs : List α) (I : Nat → τ → Prop) (step : τ → α → Option τ) (fin : τ → ρ) (bad : ρ)
    (h1 : ∀ k t y, xs[k]? = some y → I k t → step t y = none → body (enc k t) = some (.inr bad)) (h3 : ∀ k t y t', xs[k]? = some y → I k t → step t y = some t' → body (enc k t) = some (.inl (enc (k + 1) t')) ∧ I (k + 1) t') (h2 : ∀ t, I xs.length t → body (enc xs.length t) = some (.inr (fin t))) (t0 : τ) (h0 : I 0 t0) :
    lp body (enc 0 t0) = some ((xs.foldlM step t0).elim bad fin) := by
  have key : ∀ (ys : List α) (k : Nat) (t : τ), xs.drop k = ys → k ≤ xs.length → I k t → lp body (enc k t) = some ((ys.foldlM step t).elim bad fin) := by
    intro ys
    induction ys with
    | nil =>
      intro k t hd hk hI
      have : k = xs.length := by have := List.drop_eq_nil_iff.1 hd; omega
      subst this
      rw [lp_eq, h2 t hI]
      rfl
    | cons y ys ih =>
      intro k t hd hk hI
      have hlt : k < xs.length := by
        rcases Nat.lt_or_ge k xs.length with h | h
        · exact h
        · rw [List.drop_eq_nil_of_le h] at hd; cases hd
      rw [List.drop_eq_getElem_cons hlt] at hd
      injection hd with hy hd
      have hg : xs[k]? = some y := by rw [List.getElem?_eq_getElem hlt, hy]
      rw [lp_eq, List.foldlM_cons]
      cases hs : step t y with
      | none => rw [h1 k t y hg hI hs]; rfl
      | some t' =>
        obtain ⟨q1, q2⟩ := h3 k t y t' hg hI hs
        rw [q1]
        exact ih (k + 1) _ hd hlt q2
  exact key xs 0 t0 rfl (Nat.zero_le _) h0
/-! ### A word -/
def stN (t : Nat) (y : UInt8) : Option Nat := if isDg y = true then some (10 * t + (y.toNat - 48)) else none
theorem fold_dec (u : Nat) : (decDigits u).foldlM stN 0 = some u := by
  induction u using Nat.strongRecOn with
  | _ u ih =>
    have hone : ∀ (t i : Nat), i < 10 → stN t (UInt8.ofNat (48 + i)) = some (10 * t + i) := fun t i hi => by
      unfold stN
      have hd : isDg (UInt8.ofNat (48 + i)) = true := (isDg_iff _).2 (by rw [u8_dg hi]; omega)
      rw [if_pos hd, u8_dg hi]
      congr 1
      omega
    rw [decDigits]
    split
    · rename_i h
      rw [List.foldlM_cons, hone 0 u h]
      simp
    · rw [List.foldlM_append, ih (u / 10) (by omega)]
      show (List.foldlM stN (u / 10) [UInt8.ofNat (48 + u % 10)]) = some u
      rw [List.foldlM_cons, hone _ _ (Nat.mod_lt _ (by decide))]
      show some _ = some u
      congr 1
      omega
theorem pow_le {k : Nat} (h : k ≤ 4) : 10 ^ k ≤ 10000 := Nat.le_trans (Nat.pow_le_pow_right (by decide) h) (by decide)
theorem f62_loop (ds : Tex) (h4 : ds.length ≤ 4) : lp (f62_b0 ds) (0, 0) = some ((ds.foldlM stN 0).elim (.inr (0, false)) fun t => .inl (t : Int)) := by
  refine lp_exit (body := f62_b0 ds) (fun k (t : Nat) => ((t : Int), (k : Int))) ds (fun k t => t < 10 ^ k) stN (fun t => (.inl (t : Int) : Int ⊕ (Int × Bool))) (.inr (0, false)) (fun k t y hy hI hs => ?_) (fun k t y t' hy hI hs => ?_) (fun t _ => ?_) 0 (by simp)
  · have hk := get_lt hy
    have hd : ¬ (48 ≤ y.toNat ∧ y.toNat ≤ 57) := fun h => by
      unfold stN at hs
      rw [if_pos ((isDg_iff y).2 h)] at hs
      cases hs
    unfold f62_b0
    rw [if_pos (by simp; omega)]
    simp only [ix_nat, hy, Option.bind_some]
    by_cases h48 : (y.toNat : Int) < 48
    · rw [if_pos (by simpa using h48)]; rfl
    · rw [if_neg (by simpa using h48), show decide (57 < (y.toNat : Int)) = true by simp; omega]; rfl
  · have hk := get_lt hy
    unfold stN at hs
    split at hs
    · rename_i hdg
      have hd := (isDg_iff y).1 hdg
      have hs := Option.some.inj hs
      subst hs
      have hp := pow_le (k := k) (by omega)
      unfold f62_b0
      rw [if_pos (by simp; omega)]
      simp only [ix_nat, hy, Option.bind_some]
      have ew : IntKind.i64.wrap (IntKind.u8.wrap ((y.toNat : Int) - 48)) = ((y.toNat - 48 : Nat) : Int) := by
        rw [IntKind.wrap_u8, wrap_id] <;> omega
      have hw : IntKind.i64.wrap ((k : Int) + 1) = ((k + 1 : Nat) : Int) := by rw [wrap_id] <;> omega
      rw [if_neg (by simp; omega), show decide (57 < (y.toNat : Int)) = false by simp; omega, Option.bind_some, if_neg (by simp), ew, wrap_id (x := 10 * (t : Int)) (by omega) (by omega), hw, wrap_id (by omega) (by omega)]
      refine ⟨by congr 3, ?_⟩
      rw [Nat.pow_succ]
      omega
    · cases hs
  · unfold f62_b0
    rw [if_neg (by simp)]
theorem dec_len5 (u : Nat) (h : u ≤ 100000) : (decDigits u).length ≤ 10 := by
  rw [decDigits_length]
  by_cases h1 : u < 10
  · rw [nDigits_small h1]; decide
  · have := nDigits_le4 (u := u / 10 / 10) (by omega)
    by_cases h2 : u / 10 < 10
    · rw [nDigits_big h1, nDigits_small h2]; decide
    · rw [nDigits_big h1, nDigits_big h2]; omega
/-- A numeral of four digits at most is small. -/
theorem itoa_small {v : Int} (hb : -100000 < v ∧ v < 100000) (h : (0 ≤ v ∧ (itoa v).length ≤ 4) ∨ (itoa v).length ≤ 5 ∧ v ≤ 0) : small v := by
  rcases h with ⟨h0, h⟩ | ⟨h, h0⟩
  · obtain ⟨u, rfl⟩ : ∃ u : Nat, v = u := ⟨v.toNat, by omega⟩
    rw [itoa_nat] at h
    have := len4 h
    exact ⟨by omega, by omega⟩
  · by_cases hz : v = 0
    · subst hz; exact ⟨by decide, by decide⟩
    · obtain ⟨u, rfl⟩ : ∃ u : Nat, v = -(u : Int) := ⟨(-v).toNat, by omega⟩
      rw [itoa_neg u (by omega), List.length_cons] at h
      have := len4 (u := u) (by omega)
      exact ⟨by omega, by omega⟩
theorem f62_spec (w : Tex) (hl : w.length ≤ 1000000) : ∃ n, f62 w = some (n, (num w).isSome) ∧ ∀ m, num w = some m → n = m := by
  have hif : ∀ {α : Type} (b : Bool) (x y : α), (if b = true then some x else some y) = some (if b = true then x else y) := fun b x y => by cases b <;> rfl
  obtain ⟨q1, e1, e1c⟩ : ∃ q1 : Tex × Bool, ((if (decide (0 < (w.length : Int))) = true then ((ix w 0).bind fun y3 => some (w, (y3.toNat : Int) == 45)) else (some (w, false)) : Option ((List UInt8) × Bool))) = some q1 ∧ q1.1 = w ∧ ((q1.2 = true ∧ w = 45 :: trimPrefix w [45]) ∨ (q1.2 = false ∧ w = trimPrefix w [45])) := by
    cases w with
    | nil => exact ⟨_, rfl, rfl, .inr ⟨rfl, rfl⟩⟩
    | cons c r =>
      refine ⟨(c :: r, (c.toNat : Int) == 45), by rw [if_pos (by simp only [List.length_cons, decide_eq_true_eq]; omega)]; rfl, rfl, ?_⟩
      by_cases h : c = 45
      · subst h; exact .inl ⟨rfl, by simp [trimPrefix, hasPrefix, List.isPrefixOf]⟩
      · right
        refine ⟨?_, by simp [trimPrefix, hasPrefix, List.isPrefixOf, Ne.symm h]⟩
        have : c.toNat ≠ 45 := fun e => h (UInt8.toNat_inj.1 (by rw [e]; rfl))
        simp; omega
  have htl := trimM_len w
  unfold f62
  rw [e1, Option.bind_some]
  obtain ⟨hq1, hq⟩ := e1c
  have e2 : ((if q1.2 = true then ((subL w 1 (w.length : Int)).bind fun y8 => some y8) else (some q1.1) : Option (List UInt8))) = some (trimPrefix w [45]) := by
    rcases hq with ⟨h1, h2⟩ | ⟨h1, h2⟩
    · rw [if_pos h1]
      generalize trimPrefix w [45] = ds at h2 ⊢
      subst h2
      rw [subL_tail]
      rfl
    · rw [h1, if_neg (by simp), hq1]
      exact congrArg some h2
  rw [e2, Option.bind_some]
  -- what the word says, as far as it is a numeral
  have hnone : (∀ m, ¬ wordN w m) → num w = none := fun h => by
    cases hn : num w with
    | none => rfl
    | some m => exact absurd (num_word.1 hn) (h m)
  have hw45 : ∀ m, wordN w m → ∃ u : Nat, u ≤ 9999 ∧ trimPrefix w [45] = decDigits u ∧ m = (if q1.2 = true then -(u : Int) else (u : Int)) := fun m hm => by
    obtain ⟨e, h0, h1⟩ := hm
    obtain ⟨u, hu, _, _, _, hc⟩ := wordN_parts h0 h1
    refine ⟨u, hu, ?_⟩
    rcases hc with ⟨_, rfl, ei⟩ | ⟨_, rfl, _, ei⟩ <;> rcases hq with ⟨g1, g2⟩ | ⟨g1, g2⟩
    · rw [e, ei] at g2; exact absurd g2 (dec_head u _)
    · rw [g1]; exact ⟨by rw [← g2, e, ei], by simp⟩
    · rw [g1]; rw [e, ei] at g2; exact ⟨by rw [e, ei]; exact (List.cons.inj g2).2.symm, by simp⟩
    · have h3 : trimPrefix w [45] = decDigits u := by rw [e, ei]; simp [trimPrefix, hasPrefix, List.isPrefixOf]
      rw [h3, e, ei] at g2
      exact absurd g2.symm (dec_head u _)
  generalize trimPrefix w [45] = ds at *
  by_cases hlen : 1 ≤ ds.length ∧ ds.length ≤ 4
  · have e3 : ((if ((ds.length : Int) == 0) = true then (some true) else (some (decide (4 < (ds.length : Int)))) : Option Bool)) = some false := by
      rw [if_neg (by simp; exact fun h => by subst h; simp at hlen), show decide (4 < (ds.length : Int)) = false by simp; omega]
    rw [e3, Option.bind_some, if_neg (by simp), f62_loop ds hlen.2, Option.bind_some]
    cases hf : ds.foldlM stN 0 with
    | none =>
      refine ⟨0, ?_, fun m hm => ?_⟩
      · rw [hnone fun m hm => ?_]
        · rfl
        · obtain ⟨u, _, hd, _⟩ := hw45 m hm
          rw [hd, fold_dec] at hf
          cases hf
      · obtain ⟨u, _, hd, _⟩ := hw45 m (num_word.1 hm)
        rw [hd, fold_dec] at hf
        cases hf
    | some t =>
      have ht : t < 100000 := by
        have : ∀ (l : Tex) (a b : Nat), l.foldlM stN a = some b → b < (a + 1) * 10 ^ l.length := by
          intro l
          induction l with
          | nil => intro a b h; cases h; simp
          | cons y l ih =>
            intro a b h
            rw [List.foldlM_cons] at h
            obtain ⟨c, h1, h2⟩ := Option.bind_eq_some_iff.1 h
            unfold stN at h1
            split at h1
            · rename_i hdg
              have hd := (isDg_iff y).1 hdg
              cases h1
              have h3 := ih _ _ h2
              rw [List.length_cons, Nat.pow_succ]
              have h4 : 10 * a + (y.toNat - 48) + 1 ≤ (a + 1) * 10 := by omega
              have h5 := Nat.mul_le_mul_right (10 ^ l.length) h4
              have e5 : (a + 1) * (10 ^ l.length * 10) = (a + 1) * 10 * 10 ^ l.length := by rw [Nat.mul_comm (10 ^ l.length) 10, Nat.mul_assoc]
              omega
            · cases h1
        have h1 := this ds 0 t hf
        have h2 := pow_le hlen.2
        omega
      obtain ⟨v, hv⟩ : ∃ v : Int, v = (if q1.2 = true then -(t : Int) else (t : Int)) := ⟨_, rfl⟩
      have hvb : -100000 < v ∧ v < 100000 := by rw [hv]; split <;> omega
      have e4 : ((if q1.2 = true then (some (IntKind.i64.wrap (0 - (t : Int)))) else (some (t : Int)) : Option Int)) = some v := by
        rw [hv]
        by_cases h : q1.2 = true
        · rw [if_pos h, if_pos h, wrap_id (by omega) (by omega), Int.zero_sub]
        · rw [if_neg h, if_neg h]
      have e5 : f30 40 v = some (itoa v) := by
        rw [hv]
        by_cases h : q1.2 = true
        · rw [if_pos h]
          by_cases h0 : t = 0
          · subst h0
            show f30 40 (-((0 : Nat) : Int)) = _
            rw [show (-((0 : Nat) : Int)) = ((0 : Nat) : Int) by rfl, itoa_nat]
            exact f30_nat 39 0 (by omega)
          · show f30_F (f30 39) _ = _
            unfold f30_F
            rw [if_pos (by simp; omega), wrap_id (by omega) (by omega), show (0 : Int) - -(t : Int) = (t : Int) by omega, f30_nat 38 t (by omega), Option.bind_some, itoa_neg t (by omega), catS_ok (by have := dec_len5 t (by omega); simp; omega)]
            rfl
        · rw [if_neg h, itoa_nat]
          exact f30_nat 39 t (by omega)
      refine ⟨v, ?_, fun m hm => ?_⟩
      · show ((if q1.2 = true then (some (IntKind.i64.wrap (0 - (t : Int)))) else (some (t : Int)) : Option Int)).bind _ = _
        rw [e4, Option.bind_some, e5, Option.bind_some]
        congr 2
        by_cases hi : itoa v = w
        · have hsm : small v := by
            have hc : (itoa v).length ≤ 5 := by
              rw [hi]
              rcases hq with ⟨_, g⟩ | ⟨_, g⟩
              · rw [g]; simp only [List.length_cons]; omega
              · rw [g]; omega
            refine itoa_small hvb ?_
            rcases hq with ⟨g1, g⟩ | ⟨g1, g⟩
            · exact .inr ⟨hc, by rw [hv, if_pos g1]; omega⟩
            · refine .inl ⟨by rw [hv, g1]; simp, ?_⟩
              rw [hi, g]
              exact hlen.2
          have : num w = some v := num_word.2 ⟨hi.symm, hsm⟩
          rw [this]
          simpa using hi
        · rw [hnone fun m hm => ?_]
          · simpa using hi
          · obtain ⟨u, _, hd, hmu⟩ := hw45 m hm
            rw [hd, fold_dec] at hf
            cases hf
            apply hi
            rw [hv, ← hmu]
            exact hm.1.symm
      · obtain ⟨u, _, hd, hmu⟩ := hw45 m (num_word.1 hm)
        rw [hd, fold_dec] at hf
        cases hf
        rw [hv, ← hmu]
  · have e3 : ((if ((ds.length : Int) == 0) = true then (some true) else (some (decide (4 < (ds.length : Int)))) : Option Bool)) = some true := by
      by_cases h0 : ds.length = 0
      · rw [if_pos (by simpa using h0)]
      · rw [if_neg (by simpa using h0), show decide (4 < (ds.length : Int)) = true by simp; omega]
    rw [e3, Option.bind_some, if_pos rfl]
    have hno : ∀ m, ¬ wordN w m := fun m hm => by
      obtain ⟨u, hu, hd, _⟩ := hw45 m hm
      apply hlen
      rw [hd]
      exact ⟨List.length_pos_iff.2 (dec_ne u), dec_len4 hu⟩
    refine ⟨0, by rw [hnone hno]; rfl, fun m hm => absurd (num_word.1 hm) (hno m)⟩
end Go.Proofs.YtcaflmilfhhikaaGreatDoor
