/-
  Sets of memories that are first of all for which something holds.
-/
import Derived.Test.YtcaflmilfhhikaaDoorCp
import Derived.Test.YtcaflmilfhhikaaDoorLw
namespace Go.Proofs.YtcaflmilfhhikaaDoor
open Go.RowKit
set_option linter.unusedVariables false

theorem first_least {n : Nat} {H : List Int → Bool} {c l : List Int} (h : firstS n H = some c) (hl : incr l (n : Int) = true) (hH : H l = true) : l = c ∨ ordB c l := by
  unfold firstS at h
  obtain ⟨_, us, bs, e, h2⟩ := List.find?_eq_some_iff_append.1 h
  have hm : l ∈ allS n (n + 1) := mem_allS.2 ⟨hl, by have := incr_len hl; omega⟩
  have hp := allS_sorted n (n + 1)
  rw [e] at hm hp
  rcases List.mem_append.1 hm with h3 | h3
  · have := h2 l h3
    rw [hH] at this
    cases this
  · rcases List.mem_cons.1 h3 with h4 | h4
    · exact .inl h4
    · exact .inr ((List.pairwise_cons.1 (List.pairwise_append.1 hp).2.1).1 l h4)
theorem first_some {n : Nat} {H : List Int → Bool} {l : List Int} (hl : incr l (n : Int) = true) (hH : H l = true) : ∃ c, firstS n H = some c := by
  cases h : firstS n H with
  | some c => exact ⟨c, rfl⟩
  | none =>
    unfold firstS at h
    have := List.find?_eq_none.1 h l (mem_allS.2 ⟨hl, by have := incr_len hl; omega⟩)
    exact absurd hH this
theorem full_incr (n : Nat) : incr (lst (2 ^ n - 1) n) (n : Int) = true := lst_incr _ _
theorem full_in {n j : Nat} (hj : j < n) : inL (lst (2 ^ n - 1) n) j = true := by
  unfold inL
  rw [List.contains_iff_mem, mem_lst]
  exact ⟨j, hj, by rw [Nat.testBit_two_pow_sub_one]; simpa using hj, rfl⟩
theorem clash_spec {b : TLandBook} (ok : bookOk b = true) (ha : agreeB b = false) : incr (clashL b) (b.Memories.length : Int) = true ∧ agrS b (inL (clashL b)) = false ∧ ∀ l, incr l (b.Memories.length : Int) = true → agrS b (inL l) = false → l = clashL b ∨ ordB (clashL b) l := by
  have hl := (book_parts ok).2.2.1
  have hfull : agrS b (inL (lst (2 ^ b.Memories.length - 1) b.Memories.length)) = false := by
    rw [← ha, agrS_all]
    exact agrS_congr ok fun j hj => by rw [full_in hj, all_bits hl hj]
  obtain ⟨c, hc⟩ := first_some (H := fun l => !agrS b (inL l)) (full_incr b.Memories.length) (by rw [hfull]; rfl)
  have e : clashL b = c := by unfold clashL; rw [hc]; rfl
  rw [e]
  obtain ⟨h1, h2⟩ := first_in hc
  refine ⟨h1, by simpa using h2, fun l hl hq => first_least hc hl (by rw [hq]; rfl)⟩
theorem drop_spec {b : TLandBook} (ok : bookOk b = true) : incr (dropL b) (b.Memories.length : Int) = true ∧ agrS b (fun j => !inL (dropL b) j) = true ∧ ∀ l, incr l (b.Memories.length : Int) = true → agrS b (fun j => !inL l j) = true → l = dropL b ∨ ordB (dropL b) l := by
  obtain ⟨c, hc⟩ := first_some (H := fun l => agrS b fun j => !inL l j) (full_incr b.Memories.length) (agrS_none ok fun j hj => by rw [full_in hj]; rfl)
  have e : dropL b = c := by unfold dropL; rw [hc]; rfl
  rw [e]
  obtain ⟨h1, h2⟩ := first_in hc
  exact ⟨h1, h2, fun l hl hq => first_least hc hl hq⟩
theorem f23_eq (b : TLandBook) (l : List Int) (hl : l.length ≤ 1000) (hm : b.Memories.length ≤ 1000) : f23 b l = some (incr l (b.Memories.length : Int)) := by
  unfold f23
  have h := lp_all (body := f23_b0 b l) l (fun k y => decide (0 ≤ y) && (decide (y ≤ (b.Memories.length : Int) - 1) && (decide (k = 0) || decide (l.getD (k - 1) 0 < y)))) (Sum.inr false : Unit ⊕ Bool) (Sum.inl ()) (fun k => (k : Int)) (fun k y hy => by
    have hk := get_lt hy
    unfold f23_b0
    rw [if_pos (by simp only [decide_eq_true_eq]; omega), ix_nat, hy, Option.bind_some, f60_eq, Option.bind_some, wrap_cnt (show k ≤ 1000 by omega), wrap_id (x := (b.Memories.length : Int) - 1) (by omega) (by omega)]
    by_cases h1 : inR y 0 ((b.Memories.length : Int) - 1) = true
    · obtain ⟨q1, q2⟩ := inR_iff.1 h1
      by_cases h0 : k = 0
      · subst h0
        simp [h1, q1, q2]
      · have hp : (0 : Int) < (k : Int) := by omega
        have hg : l[k - 1]? = some (l.getD (k - 1) 0) := by rw [List.getElem?_eq_getElem (by omega)]; simp [show k - 1 < l.length by omega]
        rw [pred_pos (by omega) (by omega), ix_nat, hg]
        by_cases h2 : l.getD (k - 1) 0 < y
        · have h3 : ¬ y ≤ l.getD (k - 1) 0 := by omega
          have h4 : decide (y ≤ l.getD (k - 1) 0) = false := decide_eq_false h3
          have h5 : decide (l.getD (k - 1) 0 < y) = true := decide_eq_true h2
          rw [h5]
          simp only [h1, hp, Option.bind_some, h4]
          simp [q1, q2]
        · have h3 : y ≤ l.getD (k - 1) 0 := by omega
          have h4 : decide (y ≤ l.getD (k - 1) 0) = true := decide_eq_true h3
          have h5 : decide (l.getD (k - 1) 0 < y) = false := decide_eq_false h2
          rw [h5]
          simp only [h1, hp, Option.bind_some, h4]
          simp [q1, q2, h0]
    · have h1' : inR y 0 ((b.Memories.length : Int) - 1) = false := by simpa using h1
      have h2 : (decide (0 ≤ y) && (decide (y ≤ (b.Memories.length : Int) - 1) && (decide (k = 0) || decide (l.getD (k - 1) 0 < y)))) = false := by
        rw [Bool.eq_false_iff]
        intro h3
        simp only [Bool.and_eq_true, decide_eq_true_eq] at h3
        exact h1 (inR_iff.2 ⟨h3.1, h3.2.1⟩)
      rw [h2, h1']
      rfl) (by unfold f23_b0; rw [if_neg (by simp)])
  rw [show (0 : Int) = ((0 : Nat) : Int) from rfl, h, Option.bind_some]
  unfold incr
  cases allI (fun k y => decide (0 ≤ y) && (decide (y ≤ (b.Memories.length : Int) - 1) && (decide (k = 0) || decide (l.getD (k - 1) 0 < y)))) 0 l <;> rfl
theorem f24_eq (b : TLandBook) (ok : bookOk b = true) : f24 b = some (agreeB b, true) := by
  obtain ⟨⟨_, h1⟩, ⟨_, h2⟩, h3, _⟩ := book_parts ok
  unfold f24
  rw [f28_eq b (by omega) (by omega) (by omega), if_pos ok]
  cases agreeB b <;> rfl
theorem f26_eq : ∀ (a b : List Int), a.length = b.length → a.length ≤ 1000 → f26 a b = some (lexlt a b) := by
  intro a b hab hal
  have key : ∀ (m k : Nat), k + m = a.length → (a.take k = b.take k) → lp (f26_b0 a b) (k : Int) = some (if a.drop k = b.drop k then .inl () else .inr (lexlt (a.drop k) (b.drop k))) := by
    intro m
    induction m with
    | zero =>
      intro k hk _
      have e1 : a.drop k = [] := List.drop_eq_nil_of_le (by omega)
      have e2 : b.drop k = [] := List.drop_eq_nil_of_le (by omega)
      rw [e1, e2, lp_eq]
      have e : f26_b0 a b (k : Int) = some (.inr (.inl ())) := by
        unfold f26_b0
        have h1 : decide ((k : Int) < (a.length : Int)) = false := decide_eq_false (by omega)
        rw [h1]; rfl
      rw [e]; rfl
    | succ m ih =>
      intro k hk ht
      have ha : a[k]? = some (a[k]'(by omega)) := List.getElem?_eq_getElem _
      have hb : b[k]? = some (b[k]'(by omega)) := List.getElem?_eq_getElem _
      have da := List.drop_eq_getElem_cons (show k < a.length by omega)
      have db := List.drop_eq_getElem_cons (show k < b.length by omega)
      have h1 : decide ((k : Int) < (a.length : Int)) = true := decide_eq_true (by omega)
      have h2 : decide ((k : Int) < (b.length : Int)) = true := decide_eq_true (by omega)
      rw [lp_eq]
      by_cases e : a[k]'(by omega) = b[k]'(by omega)
      · have e3 : f26_b0 a b (k : Int) = some (.inl ((k + 1 : Nat) : Int)) := by
          unfold f26_b0
          rw [h1, h2]
          simp only [if_true, Option.bind_some, ix_nat, ha, hb, wrap_cnt (show k ≤ 1000 by omega)]
          rw [if_neg (by simp [e])]
        rw [e3]
        have ih' := ih (k + 1) (by omega) (by rw [take_snoc ha, take_snoc hb, ht, e])
        show lp (f26_b0 a b) ((k + 1 : Nat) : Int) = _
        have e0 : a.drop k = b[k]'(by omega) :: a.drop (k + 1) := by rw [da, e]
        rw [ih', e0, db]
        have e4 : lexlt (b[k]'(by omega) :: a.drop (k + 1)) (b[k]'(by omega) :: b.drop (k + 1)) = lexlt (a.drop (k + 1)) (b.drop (k + 1)) := by
          rw [Bool.eq_iff_iff, lexlt_cons]
          constructor
          · rintro (h | ⟨_, h⟩)
            · omega
            · exact h
          · exact fun h => .inr ⟨rfl, h⟩
        rw [e4]
        by_cases hAB : a.drop (k + 1) = b.drop (k + 1)
        · rw [if_pos hAB, if_pos (by rw [hAB])]
        · rw [if_neg hAB, if_neg (fun h => hAB (List.cons.inj h).2)]
      · have e3 : f26_b0 a b (k : Int) = some (.inr (.inr (decide (a[k]'(by omega) < b[k]'(by omega))))) := by
          unfold f26_b0
          rw [h1, h2]
          simp only [if_true, Option.bind_some, ix_nat, ha, hb]
          rw [if_pos (by simp [e])]
        have hne : ¬ a.drop k = b.drop k := fun h => by
          rw [da, db] at h
          exact e (List.cons.inj h).1
        rw [e3, if_neg hne, da, db]
        have e4 : lexlt (a[k]'(by omega) :: a.drop (k + 1)) (b[k]'(by omega) :: b.drop (k + 1)) = decide (a[k]'(by omega) < b[k]'(by omega)) := by
          rw [Bool.eq_iff_iff, lexlt_cons, decide_eq_true_eq]
          exact ⟨fun h => h.elim id fun h => absurd h.1 e, .inl⟩
        rw [e4]
  have h := key a.length 0 (by omega) rfl
  unfold f26
  rw [show (0 : Int) = ((0 : Nat) : Int) from rfl, h, Option.bind_some, List.drop_zero, List.drop_zero]
  by_cases e : a = b
  · subst e
    rw [if_pos rfl, lexlt_irrefl]
    simp
  · rw [if_neg e]; rfl
theorem can_only {b : TLandBook} (ok : bookOk b = true) (l : List Int) (others : Bool) (hl : l.length ≤ 1000) : ∃ b', f25 b l others = some b' ∧ f24 b' = some (agrS b (fun j => if others = true then !inL l j else inL l j), true) := by
  have h3 := (book_parts ok).2.2.1
  refine ⟨_, f25_eq b l others hl (by omega), ?_⟩
  rw [f24_eq _ (only_ok ok _), only_agree ok]
  congr 2
  refine agrS_congr ok fun j _ => ?_
  unfold inL
  cases others <;> cases l.contains (j : Int) <;> rfl
end Go.Proofs.YtcaflmilfhhikaaDoor
