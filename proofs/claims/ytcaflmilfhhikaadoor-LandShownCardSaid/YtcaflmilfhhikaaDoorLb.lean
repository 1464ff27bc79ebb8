/-
  LandShown: the clash is a contradiction, and no smaller one is (plain law).
-/
import Derived.Test.YtcaflmilfhhikaaDoorLg
namespace Go.Proofs.YtcaflmilfhhikaaDoor
open Go.RowKit
set_option linter.unusedVariables false

theorem less_incr {c : List Int} {n : Int} (h : incr c n = true) (i : Nat) : incr (c.eraseIdx i) n = true := by
  rw [incr_iff] at h ⊢
  exact ⟨fun y hy => h.1 y ((List.eraseIdx_sublist c i).subset hy), h.2.sublist (List.eraseIdx_sublist c i)⟩
theorem less_cut {c : List Int} {i : Nat} (hi : i < c.length) (hc : c.length ≤ 1000) : ∃ u v, subL c 0 (i : Int) = some u ∧ subL c (IntKind.i64.wrap ((i : Int) + 1)) (c.length : Int) = some v ∧ app [] u = some u ∧ app u v = some (c.eraseIdx i) := by
  refine ⟨c.take i, c.drop (i + 1), ?_, ?_, ?_, ?_⟩
  · unfold subL
    rw [if_pos (by omega)]
    simp
  · rw [wrap_cnt (by omega)]
    unfold subL
    rw [if_pos (by omega), Int.toNat_natCast, Int.toNat_natCast, List.take_of_length_le (by simp)]
  · rw [app_short _ _ (by simp; omega)]; rfl
  · rw [app_short _ _ (by simp; omega), List.eraseIdx_eq_take_drop_succ]
theorem landShown_pure (x0 : TLandBook) (x1 : List Int) : f4 x0 x1 = some true := by
  unfold f4
  rw [f14_eq, Option.bind_some]
  by_cases hs : shortB x0 = true
  · obtain ⟨h1, h2, h3⟩ := bk_le hs
    rw [if_neg (by simp [hs]), f18_eq x0 h1 h2 h3, Option.bind_some, known_pure]
    by_cases ok : bookOk x0 = true
    · rw [if_neg (by simp [ok])]
      by_cases hy : x1.length ≤ 15
      · have hd : decide (15 < (x1.length : Int)) = false := decide_eq_false (by omega)
        rw [hd, f23_eq x0 x1 (by omega) h3]
        by_cases hi : incr x1 (x0.Memories.length : Int) = true
        · have hl := (book_parts ok).2.2.1
          obtain ⟨b1, a1, a2⟩ := can_only ok x1 false (by omega)
          have a2 : f24 b1 = some (agrS x0 (inL x1), true) := a2
          rw [hi, f16_eq x0 h1 h2 h3]
          simp only [Option.bind_some, Bool.not_true, Bool.false_eq_true, if_false, a1, a2, ok, if_true]
          by_cases ha : agreeB x0 = true
          · have ho : agrS x0 (inL x1) = true := by
              rw [agrS_all] at ha
              exact agrS_mono ok (fun j hj _ => all_bits hl hj) ha
            simp [ha, ho]
          · have ha' : agreeB x0 = false := by simpa using ha
            obtain ⟨c1, c2, c3⟩ := clash_spec ok ha'
            have hcl := incr_len c1
            obtain ⟨b2, d1, d2⟩ := can_only ok (clashL x0) false (by omega)
            have d2 : f24 b2 = some (agrS x0 (inL (clashL x0)), true) := d2
            have hdc : decide (15 < ((clashL x0).length : Int)) = false := decide_eq_false (by omega)
            have e23 := f23_eq x0 (clashL x0) (by omega) h3
            have hlp : lp (f4_b0 x0 (clashL x0, 0)) 0 = some (Sum.inl () : Unit ⊕ Bool) := by
              refine lp_thru (body := f4_b0 x0 (clashL x0, 0)) (clashL x0) (Sum.inl ()) (fun k => (k : Int)) (fun i y hy => ?_) ?_
              · have hi := get_lt hy
                obtain ⟨u, v, q1, q2, q3, q4⟩ := less_cut (c := clashL x0) hi (by omega)
                have hle : ((clashL x0).eraseIdx i).length = (clashL x0).length - 1 := List.length_eraseIdx_of_lt hi
                obtain ⟨b3, g1, g2⟩ := can_only ok ((clashL x0).eraseIdx i) false (by omega)
                have g2 : f24 b3 = some (agrS x0 (inL ((clashL x0).eraseIdx i)), true) := g2
                have hag : agrS x0 (inL ((clashL x0).eraseIdx i)) = true := by
                  cases hq : agrS x0 (inL ((clashL x0).eraseIdx i)) with
                  | true => rfl
                  | false =>
                    rcases c3 _ (less_incr c1 i) hq with h | h
                    · have := congrArg List.length h; omega
                    · rcases h with h | ⟨h, _⟩ <;> omega
                rw [hag] at g2
                unfold f4_b0
                rw [if_pos (by simp only [decide_eq_true_eq]; omega)]
                simp only [q1, q2, q3, q4, g1, g2, Option.bind_some]
                rw [wrap_cnt (by omega)]
                rfl
              · unfold f4_b0
                rw [if_neg (by simp)]
            have hfin : agrS x0 (inL x1) = false → (clashL x0).length < x1.length ∨ (x1.length = (clashL x0).length ∧ lexlt x1 (clashL x0) = false) := by
              intro hq
              rcases c3 x1 hi hq with h | h
              · exact .inr ⟨by rw [h], by rw [h, lexlt_irrefl]⟩
              · rcases h with h | ⟨h, h'⟩
                · exact .inl h
                · refine .inr ⟨h.symm, ?_⟩
                  cases hx : lexlt x1 (clashL x0) with
                  | false => rfl
                  | true =>
                    have := lexlt_trans hx h'
                    rw [lexlt_irrefl] at this
                    cases this
            simp only [ha', Bool.false_eq_true, if_false, hdc, e23, c1, Option.bind_some, d1, d2, c2, hlp]
            by_cases hq : agrS x0 (inL x1) = true
            · simp [hq]
            · have hq' : agrS x0 (inL x1) = false := by simpa using hq
              rcases hfin hq' with h | ⟨h, h'⟩
              · have : decide (((clashL x0).length : Int) < (x1.length : Int)) = true := decide_eq_true (by omega)
                simp only [hq', this, Bool.false_eq_true, if_false, if_true, Option.bind_some, Sum.elim_inl, Bool.not_true]
                rfl
              · have hf := f26_eq x1 (clashL x0) h (by omega)
                have h0 : ((x1.length : Int) == ((clashL x0).length : Int)) = true := by simp; omega
                rw [h'] at hf
                have h4 : decide (((clashL x0).length : Int) < (x1.length : Int)) = false := decide_eq_false (by omega)
                simp only [hq', h0, hf, h4, Bool.false_eq_true, if_false, if_true, Option.bind_some, Sum.elim_inl, Bool.not_false, Bool.not_true]
                rfl
        · have hi' : incr x1 (x0.Memories.length : Int) = false := by simpa using hi
          rw [hi']
          rfl
      · have hd : decide (15 < (x1.length : Int)) = true := decide_eq_true (by omega)
        rw [hd]
        rfl
    · have ok' : bookOk x0 = false := by simpa using ok
      rw [if_pos (by simp [ok'])]
      rfl
  · have hs' : shortB x0 = false := by simpa using hs
    rw [if_pos (by simp [hs']), known_pure]
    rfl
theorem landShown (x0 : TLandBook) (x1 : List Int) (k0 : okTLandBook x0) (k1 : ∀ y ∈ x1, okI y) : f4 x0 x1 = some true := landShown_pure x0 x1
end Go.Proofs.YtcaflmilfhhikaaDoor
