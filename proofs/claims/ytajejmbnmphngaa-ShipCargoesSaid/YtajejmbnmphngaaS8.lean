/-
  Ship: plays, wants, what is true, and how sharp.
-/
import Derived.Test.YtajejmbnmphngaaS7
namespace Go.Proofs.Ytajejmbnmphngaa
open Go.RowKit
set_option linter.unusedSimpArgs false
set_option linter.unusedVariables false

theorem short_of {s : TShipStore} {days : Int} {t : TShipTruth} (hs : StoreOk s) (ht : TruthOk s days t) : TruthShort t := by
  have h1 := hs.ns
  have h2 := hs.nl
  exact ⟨by have := ht.nu; omega, by have := ht.ng; omega, by have := ht.na; omega, fun l hl => by have := ht.nr l hl; omega⟩
theorem ne10 {l : List Int} (h : l.length ≤ 10) : decide ((10 : Int) < (l.length : Int)) = false := by simp; omega
theorem ge10 {l : List Int} (h : ¬ l.length ≤ 10) : decide ((10 : Int) < (l.length : Int)) = true := by simp; omega
theorem wants_len (s : TShipStore) (load : List Int) (t : TShipTruth) (n m : Nat) : (wantsL s load t n m).length = m := by simp [wantsL]
theorem lefts_len (s : TShipStore) (load : List Int) (t : TShipTruth) (n m : Nat) : (leftsL s load t n m).length = m := by simp [leftsL]
theorem may_len (s : TShipStore) (load : List Int) (n m : Nat) : (mayL s load n m).length = m := by simp [mayL]
theorem wants_get (s : TShipStore) (load : List Int) (t : TShipTruth) {n m k : Nat} (h : k < m) : (wantsL s load t n m)[k]? = some (kwOf s load t n k) := by simp [wantsL, h]
theorem lefts_get (s : TShipStore) (load : List Int) (t : TShipTruth) {n m k : Nat} (h : k < m) : (leftsL s load t n m)[k]? = some (kxOf s load t n k) := by simp [leftsL, h]
theorem may_get (s : TShipStore) (load : List Int) {n m k : Nat} (h : k < m) : (mayL s load n m)[k]? = some ⟨kwOf s load (endT s n true) n k, kwOf s load (endT s n false) n k⟩ := by simp [mayL, h]
theorem f27_split {s : TShipStore} {load : List Int} {d : Int} (h : (storeOk s && (loadOk s load && daysOk d)) = true) : storeOk s = true ∧ loadOk s load = true ∧ daysOk d = true := by
  simp only [Bool.and_eq_true] at h; exact h
theorem shipPlays (s : TShipStore) (load : List Int) (d : Int) (t : TShipTruth) (_ : okTShipStore s) (_ : ∀ y ∈ load, okI y) (_ : okI d) (_ : okTShipTruth t) : f4 s load d t = some true := by
  obtain ⟨a, ha, has⟩ := f24_eq s
  obtain ⟨b, hb, hbs⟩ := f25_eq t
  unfold f4
  rw [ha, hb]
  cases a with
  | false => simp [known_pure]
  | true =>
    by_cases hl : load.length ≤ 10
    · cases b with
      | false => simp [ne10 hl, known_pure]
      | true =>
        have hss := has rfl
        have hts := hbs rfl
        simp only [Option.bind_some, Bool.not_true, Bool.false_eq_true, if_false, ne10 hl, f26_eq s load d t hss hl hts, f27_eq s load d hss hl]
        cases hc : (storeOk s && (loadOk s load && daysOk d)) with
        | false =>
          have e : (storeOk s && (loadOk s load && (daysOk d && truthOk s d t))) = false := by
            revert hc
            cases storeOk s <;> cases loadOk s load <;> cases daysOk d <;> simp
          rw [e]
          simp [known_pure, wrap0]
        | true =>
          obtain ⟨h1, h2, h3⟩ := f27_split hc
          have hs := storeOk_iff h1
          simp only [h1, h2, h3, Bool.true_and, f28_eq s d t hs hts, Option.bind_some, Bool.not_true, Bool.false_eq_true, if_false]
          cases h4 : truthOk s d t with
          | false => simp [known_pure, wrap0]
          | true =>
            obtain ⟨e, hn⟩ := day_nat h3
            obtain ⟨n, hnd⟩ : ∃ n, n = d.toNat := ⟨_, rfl⟩
            rw [← hnd] at e hn ⊢
            subst e
            have ht := truthOk_iff.1 h4
            have hns := hs.ns
            have h := all_lp (body := f4_b0 s load (n : Int) t (wantsL s load t n s.Stock.length, leftsL s load t n s.Stock.length, 0)) s.Stock (fun _ => true) (Sum.inr false) (Sum.inl ()) (by omega) (fun k y hy => by
              have hk := get_lt hy
              unfold f4_b0
              rw [if_pos (by simpa using hk), kept_eq hs ht hn hl (incr_of h2) hk]
              simp only [Option.bind_some]
              rw [ix_nat, wants_get s load t hk, ix_nat, lefts_get s load t hk]
              simp) (by unfold f4_b0; simp)
            simp only [Bool.not_true, if_true, Bool.false_eq_true, if_false, Option.bind_some, wants_len, lefts_len, ne_int, decide_true, show ((0 : Int) != 0) = false from rfl]
            rw [h]
            simp [known_pure]
    · simp [ge10 hl, known_pure]
theorem shipTrue (s : TShipStore) (load : List Int) (d : Int) (t : TShipTruth) (_ : okTShipStore s) (_ : ∀ y ∈ load, okI y) (_ : okI d) (_ : okTShipTruth t) : f5 s load d t = some true := by
  obtain ⟨a, ha, has⟩ := f24_eq s
  obtain ⟨b, hb, hbs⟩ := f25_eq t
  unfold f5
  rw [ha, hb]
  cases a with
  | false => simp [known_pure]
  | true =>
    by_cases hl : load.length ≤ 10
    · cases b with
      | false => simp [ne10 hl, known_pure]
      | true =>
        have hss := has rfl
        have hts := hbs rfl
        simp only [Option.bind_some, Bool.not_true, Bool.false_eq_true, if_false, ne10 hl, f26_eq s load d t hss hl hts, f30_eq s load d hss hl, f27_eq s load d hss hl]
        cases hc : (storeOk s && (loadOk s load && daysOk d)) with
        | false => simp [known_pure]
        | true =>
          obtain ⟨h1, h2, h3⟩ := f27_split hc
          have hs := storeOk_iff h1
          simp only [h1, h2, h3, Bool.true_and, f28_eq s d t hs hts, Option.bind_some, Bool.not_true, Bool.false_eq_true, if_false]
          cases h4 : truthOk s d t with
          | false => simp [known_pure]
          | true =>
            obtain ⟨e, hn⟩ := day_nat h3
            obtain ⟨n, hnd⟩ : ∃ n, n = d.toNat := ⟨_, rfl⟩
            rw [← hnd] at e hn ⊢
            subst e
            have ht := truthOk_iff.1 h4
            have hns := hs.ns
            have h := all_lp (body := f5_b0 (wantsL s load t n s.Stock.length, leftsL s load t n s.Stock.length, 0) (mayL s load n s.Stock.length, 0)) (wantsL s load t n s.Stock.length) (fun _ => true) (Sum.inr false) (Sum.inl ()) (by rw [wants_len]; omega) (fun k y hy => by
              have hk := get_lt hy
              rw [wants_len] at hk
              rw [wants_get s load t hk] at hy
              have hy := Option.some.inj hy
              obtain ⟨q1, q2⟩ := between hs ht hn (incr_of h2) hk
              unfold f5_b0
              rw [if_pos (by simp [wants_len]; omega)]
              simp only
              rw [ix_nat, wants_get s load t hk, Option.bind_some, ix_nat, may_get s load hk]
              simp only [Option.bind_some]
              obtain ⟨A, hA⟩ : ∃ A, A = kwOf s load t n k := ⟨_, rfl⟩
              obtain ⟨M, hM⟩ : ∃ A, A = kwOf s load (endT s n true) n k := ⟨_, rfl⟩
              obtain ⟨U, hU⟩ : ∃ A, A = kwOf s load (endT s n false) n k := ⟨_, rfl⟩
              rw [← hA, ← hM] at q1
              rw [← hA, ← hU] at q2
              rw [← hA, ← hM, ← hU]
              by_cases c1 : 0 ≤ A
              · have c2 := q1 c1
                by_cases c3 : 0 ≤ U
                · have c4 := q2 c3
                  simp [c1, c3, show ¬ M < 0 by omega, show ¬ A < M by omega, show ¬ A < 0 by omega, show ¬ U < A by omega]
                · simp [c1, c3, show ¬ M < 0 by omega, show ¬ A < M by omega]
              · have c3 : ¬ 0 ≤ U := fun h => by have := q2 h; omega
                simp [c1, c3]) (by unfold f5_b0; simp)
            simp only [Bool.not_true, if_true, Bool.false_eq_true, if_false, Option.bind_some, wants_len, may_len, ne_int, decide_true, show ((0 : Int) != 0) = false from rfl]
            rw [h]
            simp [known_pure]
    · simp [ge10 hl, known_pure]
theorem shipSharp (s : TShipStore) (load : List Int) (d : Int) (_ : okTShipStore s) (_ : ∀ y ∈ load, okI y) (_ : okI d) : f6 s load d = some true := by
  obtain ⟨a, ha, has⟩ := f24_eq s
  unfold f6
  rw [ha]
  cases a with
  | false => simp [known_pure]
  | true =>
    by_cases hl : load.length ≤ 10
    · have hss := has rfl
      simp only [Option.bind_some, Bool.not_true, Bool.false_eq_true, if_false, ne10 hl, f30_eq s load d hss hl, f27_eq s load d hss hl]
      cases hc : (storeOk s && (loadOk s load && daysOk d)) with
      | false => simp [known_pure]
      | true =>
        obtain ⟨h1, h2, h3⟩ := f27_split hc
        have hs := storeOk_iff h1
        obtain ⟨e, hn⟩ := day_nat h3
        obtain ⟨n, hnd⟩ : ∃ n, n = d.toNat := ⟨_, rfl⟩
        have hh3 := h3
        rw [← hnd] at e hn ⊢
        subst e
        have hns := hs.ns
        have et : ∀ w, truthOk s (n : Int) (endT s n w) = true := fun w => truthOk_iff.2 (endT_ok hs hn w)
        simp only [Option.bind_some, Bool.not_true, Bool.false_eq_true, if_false, if_true, f31_eq s n _ hs hss hn, f26_eq s load (n : Int) (endT s n _) hss hl (short_of hs (endT_ok hs hn _)), h1, h2, hh3, et, Bool.and_self, Int.toNat_natCast, wants_len, may_len, ne_int, decide_true, show ((0 : Int) != 0) = false from rfl]
        have h := all_lp (body := f6_b0 (mayL s load n s.Stock.length, 0) (wantsL s load (endT s n true) n s.Stock.length, leftsL s load (endT s n true) n s.Stock.length, 0) (wantsL s load (endT s n false) n s.Stock.length, leftsL s load (endT s n false) n s.Stock.length, 0)) (mayL s load n s.Stock.length) (fun _ => true) (Sum.inr false) (Sum.inl ()) (by rw [may_len]; omega) (fun k y hy => by
          have hk := get_lt hy
          rw [may_len] at hk
          unfold f6_b0
          rw [if_pos (by simp [may_len]; omega)]
          simp only
          rw [ix_nat, may_get s load hk, Option.bind_some, ix_nat, wants_get s load _ hk, Option.bind_some, ix_nat, wants_get s load _ hk, Option.bind_some]
          simp) (by unfold f6_b0; simp)
        rw [h]
        simp [known_pure]
    · simp [ge10 hl, known_pure]
theorem shipWants (s : TShipStore) (load : List Int) (d : Int) (_ : okTShipStore s) (_ : ∀ y ∈ load, okI y) (_ : okI d) : f15 s load d = some true := by
  obtain ⟨a, ha, has⟩ := f24_eq s
  unfold f15
  rw [ha]
  cases a with
  | false => simp [known_pure]
  | true =>
    by_cases hl : load.length ≤ 10
    · have hss := has rfl
      simp only [Option.bind_some, Bool.not_true, Bool.false_eq_true, if_false, ne10 hl, f30_eq s load d hss hl, f27_eq s load d hss hl, f55_eq s hss, f36_eq s hss]
      cases h1 : storeOk s with
      | false => simp [known_pure]
      | true =>
        have hs := storeOk_iff h1
        cases hc : (loadOk s load && daysOk d) with
        | false => simp [known_pure]
        | true =>
          have hc' := hc
          rw [Bool.and_eq_true] at hc'
          obtain ⟨h2, h3⟩ := hc'
          obtain ⟨e, hn⟩ := day_nat h3
          obtain ⟨n, hnd⟩ : ∃ n, n = d.toNat := ⟨_, rfl⟩
          rw [← hnd] at e hn ⊢
          subst e
          have hns := hs.ns
          simp [known_pure, f57_eq s load n hs hss hl (incr_of h2) hn, f56_eq _ _ (show (mayL s load n s.Stock.length).length ≤ 1073741824 by rw [may_len]; omega)]
    · simp [ge10 hl, known_pure]
end Go.Proofs.Ytajejmbnmphngaa
