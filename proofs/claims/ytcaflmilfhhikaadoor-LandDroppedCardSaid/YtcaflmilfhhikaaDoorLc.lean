/-
  LandDropped: without what is dropped the others agree, and nothing less serves (plain law).
-/
import Derived.Test.YtcaflmilfhhikaaDoorLg
namespace Go.Proofs.YtcaflmilfhhikaaDoor
open Go.RowKit
set_option linter.unusedVariables false

theorem drop_none {b : TLandBook} (ok : bookOk b = true) (h : agreeB b = true) : dropL b = [] := by
  obtain ⟨d1, d2, d3⟩ := drop_spec ok
  have hl := (book_parts ok).2.2.1
  rcases d3 [] rfl (by
    rw [agrS_all] at h
    rw [← h]
    exact agrS_congr ok fun j hj => by rw [all_bits hl hj]; rfl) with h | h
  · exact h.symm
  · rcases h with h | ⟨h, h'⟩
    · exact absurd h (by simp)
    · exact List.eq_nil_of_length_eq_zero (by simpa using h)
theorem met_loop (c d : List Int) (hc : c.length ≤ 1000) (hd : d.length ≤ 1000) (h : ∃ x, x ∈ c ∧ x ∈ d) : lp (f5_b0 (d, 0) (c, 0)) 0 = some (Sum.inr true : Unit ⊕ Bool) := by
  have inner : ∀ (i : Nat) (x : Int), c[i]? = some x → lp (f5_b1 (i : Int) (d, 0) (c, 0)) 0 = some (if d.contains x = true then .inr true else .inl ()) := by
    intro i x hx
    have hh := lp_all (body := f5_b1 (i : Int) (d, 0) (c, 0)) d (fun _ y => !(x == y)) (Sum.inr true : Unit ⊕ Bool) (Sum.inl ()) (fun k => (k : Int)) (fun k y hy => by
      have hk := get_lt hy
      unfold f5_b1
      rw [if_pos (by simp only [decide_eq_true_eq]; omega)]
      simp only [ix_nat, hx, hy, Option.bind_some, known_pure]
      by_cases e : (x == y) = true
      · rw [if_pos e, if_neg (by simp [e])]
      · rw [if_neg e, if_pos (by simpa using e), wrap_cnt (by omega)]) (by unfold f5_b1; rw [if_neg (by simp)])
    have hh' : lp (f5_b1 (i : Int) (d, 0) (c, 0)) 0 = _ := hh
    rw [hh', allI_all]
    have e : d.all (fun y => !(x == y)) = !d.contains x := by
      rw [Bool.eq_iff_iff]
      simp only [List.all_eq_true, Bool.not_eq_true', List.contains_eq_mem, decide_eq_false_iff_not, beq_eq_false_iff_ne]
      exact ⟨fun h hx => h x hx rfl, fun h y hy e => h (e ▸ hy)⟩
    rw [e]
    cases d.contains x <;> rfl
  have hh := lp_all (body := f5_b0 (d, 0) (c, 0)) c (fun _ x => !d.contains x) (Sum.inr true : Unit ⊕ Bool) (Sum.inl ()) (fun k => (k : Int)) (fun k x hx => by
    have hk := get_lt hx
    unfold f5_b0
    rw [if_pos (by simp only [decide_eq_true_eq]; omega), inner k x hx, Option.bind_some]
    cases d.contains x with
    | true => rfl
    | false =>
      simp only [Bool.false_eq_true, if_false, Sum.elim_inl, Bool.not_false, if_true, wrap_cnt (show k ≤ 1000 by omega)]) (by unfold f5_b0; rw [if_neg (by simp)])
  have hh' : lp (f5_b0 (d, 0) (c, 0)) 0 = _ := hh
  rw [hh', allI_all]
  have e : c.all (fun x => !d.contains x) = false := by
    obtain ⟨x, h1, h2⟩ := h
    rw [Bool.eq_false_iff]
    intro h3
    have := List.all_eq_true.1 h3 x h1
    simp [h2] at this
  rw [e]
  rfl
theorem landDropped_pure (x0 : TLandBook) (x1 : List Int) : f5 x0 x1 = some true := by
  unfold f5
  rw [f14_eq, Option.bind_some]
  by_cases hs : shortB x0 = true
  · obtain ⟨h1, h2, h3⟩ := bk_le hs
    rw [if_neg (by simp [hs]), f18_eq x0 h1 h2 h3, Option.bind_some, known_pure]
    by_cases ok : bookOk x0 = true
    · rw [if_neg (by simp [ok])]
      by_cases hy : x1.length ≤ 15
      · have hd : decide (15 < (x1.length : Int)) = false := decide_eq_false (by omega)
        rw [hd, f23_eq x0 x1 (by omega) h3]
        by_cases hi : incr x1 (x0.Memories.length : Int) = true
        · have hl := (book_parts ok).2.2.1
          obtain ⟨d1, d2, d3⟩ := drop_spec ok
          have hdl := incr_len d1
          obtain ⟨b1, a1, a2⟩ := can_only ok x1 true (by omega)
          have a2 : f24 b1 = some (agrS x0 (fun j => !inL x1 j), true) := a2
          obtain ⟨b2, g1, g2⟩ := can_only ok (dropL x0) true (by omega)
          have g2 : f24 b2 = some (agrS x0 (fun j => !inL (dropL x0) j), true) := g2
          rw [d2] at g2
          have hdc : decide (15 < ((dropL x0).length : Int)) = false := decide_eq_false (by omega)
          have e23 := f23_eq x0 (dropL x0) (by omega) h3
          rw [d1] at e23
          rw [hi, f16_eq x0 h1 h2 h3, f17_eq x0 h1 h2 h3]
          simp only [Option.bind_some, Bool.not_true, Bool.false_eq_true, if_false, a1, a2, ok, if_true, hdc, e23, g1, g2]
          have hmid : ((if agrS x0 (fun j => !inL x1 j) = true then (if (decide ((x1.length : Int) < ((dropL x0).length : Int))) = true then (some true) else (if ((x1.length : Int) == ((dropL x0).length : Int)) = true then ((f26 x1 (dropL x0)).bind fun y62 => some y62) else (some false))) else (some false)) : Option Bool) = some false := by
            by_cases hq : agrS x0 (fun j => !inL x1 j) = true
            · rw [if_pos hq]
              rcases d3 x1 hi hq with h | h
              · have h0 : decide ((x1.length : Int) < ((dropL x0).length : Int)) = false := decide_eq_false (by rw [h]; omega)
                have hf := f26_eq x1 (dropL x0) (by rw [h]) (by omega)
                rw [h0, hf]
                have : lexlt x1 (dropL x0) = false := by rw [h, lexlt_irrefl]
                rw [this]
                cases ((x1.length : Int) == ((dropL x0).length : Int)) <;> rfl
              · rcases h with h | ⟨h, h'⟩
                · have h0 : decide ((x1.length : Int) < ((dropL x0).length : Int)) = false := decide_eq_false (by omega)
                  have h4 : ((x1.length : Int) == ((dropL x0).length : Int)) = false := by simp; omega
                  rw [h0, h4]; rfl
                · have h0 : decide ((x1.length : Int) < ((dropL x0).length : Int)) = false := decide_eq_false (by omega)
                  have hf := f26_eq x1 (dropL x0) h.symm (by omega)
                  have h5 : lexlt x1 (dropL x0) = false := by
                    cases hx : lexlt x1 (dropL x0) with
                    | false => rfl
                    | true =>
                      have := lexlt_trans hx h'
                      rw [lexlt_irrefl] at this
                      cases this
                  rw [h0, hf, h5]
                  cases ((x1.length : Int) == ((dropL x0).length : Int)) <;> rfl
            · rw [if_neg hq]
          by_cases ha : agreeB x0 = true
          · have hn := drop_none ok ha
            rw [hmid]
            simp [ha, hn]
          · have ha' : agreeB x0 = false := by simpa using ha
            obtain ⟨c1, c2, _⟩ := clash_spec ok ha'
            have hcl := incr_len c1
            have hm := met_loop (clashL x0) (dropL x0) (by omega) (by omega) (by
              refine Classical.byContradiction fun hno => ?_
              have : agrS x0 (inL (clashL x0)) = true := agrS_mono ok (fun j hj hin => by
                have hx : ((j : Nat) : Int) ∈ clashL x0 := by unfold inL at hin; exact List.contains_iff_mem.1 hin
                have hx2 : ¬ ((j : Nat) : Int) ∈ dropL x0 := fun h => hno ⟨_, hx, h⟩
                unfold inL
                simpa using hx2) d2
              rw [c2] at this
              cases this)
            rw [hmid]
            simp [ha', hm]
        · have hi' : incr x1 (x0.Memories.length : Int) = false := by simpa using hi
          rw [hi']
          rfl
      · have hd : decide (15 < (x1.length : Int)) = true := decide_eq_true (by omega)
        rw [hd]
        rfl
    · have ok' : bookOk x0 = false := by simpa using ok
      rw [if_pos (by simp [ok'])]
      rfl
  · have hs' : shortB x0 = false := by simpa using hs
    rw [if_pos (by simp [hs']), known_pure]
    rfl
theorem landDropped (x0 : TLandBook) (x1 : List Int) (k0 : okTLandBook x0) (k1 : ∀ y ∈ x1, okI y) : f5 x0 x1 = some true := landDropped_pure x0 x1
end Go.Proofs.YtcaflmilfhhikaaDoor
