/-
  The statement BaneMore, in plain Lean: fewer trips, or a longer wait, and it comes no sooner.
-/
import Derived.Test.YtgplafckddpnkaaS14
import Derived.Test.YtgplafckddpnkaaS10
namespace Go.Proofs.Ytgplafckddpnkaa
open Go.RowKit
set_option linter.unusedVariables false

def laterB (a b : List Int) : Prop := a.length = b.length ∧ ∀ k, k < a.length → 0 ≤ b.getD k 0 → 0 ≤ a.getD k 0 ∧ a.getD k 0 ≤ b.getD k 0
theorem f40_true (a b : List Int) (hl : a.length ≤ 1000) (h : laterB a b) : f40 a b = some true := by
  obtain ⟨h1, h2⟩ := h
  unfold f40
  have e : lp (f40_b0 a b) 0 = some (.inl ()) := by
    refine lp_thru a (Sum.inl ()) (fun k => (k : Int)) ?_ ?_
    · intro k y hy
      have hk := get_lt hy
      unfold f40_b0
      have c1 : (k : Int) < (a.length : Int) := by omega
      have c2 : (k : Int) < (b.length : Int) := by omega
      have h3 := h2 k hk
      simp only [c1, c2, decide_true, if_true, Option.bind_some, ix_nat, getD_get 0 hk, getD_get 0 (show k < b.length by omega), wrap_nat hk (by omega)]
      by_cases h4 : 0 ≤ b.getD k 0
      · have h5 := h3 h4
        have c3 : ¬ a.getD k 0 < 0 := by omega
        have c4 : ¬ b.getD k 0 < a.getD k 0 := by omega
        simp only [h4, c3, c4, decide_true, decide_false, if_true, Bool.false_eq_true, if_false, Option.bind_some]
      · simp only [h4, decide_false, Bool.false_eq_true, if_false, Option.bind_some]
    · unfold f40_b0
      have c1 : ¬ ((a.length : Nat) : Int) < (a.length : Int) := by omega
      simp only [c1, decide_false, Bool.false_eq_true, if_false, Option.bind_some]
  rw [e]
  simp [h1]
theorem later_of {s s' : TBaneSea} {I : Nat} (hs : Sea s I) {op op' : Nat → Bool} (h : ∀ x d, Arr s' op' x d → Arr s op x d) {a b : List Int} (ha : a.length = I) (hb : b.length = I)
    (h1 : ∀ x, x < I → Right (-1) s op (x : Int) (a.getD x 0)) (h2 : ∀ x, x < I → Right (-1) s' op' (x : Int) (b.getD x 0)) : laterB a b := by
  refine ⟨by omega, fun k hk h0 => ?_⟩
  rcases h2 k (by omega) with ⟨g1, _⟩ | ⟨g1, _⟩
  · have g2 := h _ _ g1
    rcases h1 k (by omega) with ⟨g3, g4⟩ | ⟨_, g4⟩
    · have := g4 _ g2
      have := (g3.day hs).1
      omega
    · exact (g4 _ g2).elim
  · omega
/-- The trips of the list that are among the first so many. -/
def firstT (x1 : List Int) (x3 : Int) (n : Nat) : List Int := ((List.range n).filter fun i : Nat => (decide ((i : Int) < x3) && x1.contains (i : Int))).map fun i : Nat => (i : Int)
theorem firstT_succ (x1 : List Int) (x3 : Int) (k : Nat) : firstT x1 x3 (k + 1) = firstT x1 x3 k ++ if (decide ((k : Int) < x3) && x1.contains (k : Int)) = true then [(k : Int)] else [] := by
  unfold firstT
  rw [List.range_succ, List.filter_append, List.map_append]
  congr 1
  cases h : (decide ((k : Int) < x3) && x1.contains (k : Int)) <;> simp only [List.filter_cons, h, List.filter_nil] <;> simp
theorem moreT_succ (x2 : List Int) (x5 : Int) (k : Nat) : moreT x2 x5 (k + 1) = moreT x2 x5 k ++ if (((k : Int) == x5) || x2.contains (k : Int)) = true then [(k : Int)] else [] := by
  unfold moreT
  rw [List.range_succ, List.filter_append, List.map_append]
  congr 1
  cases h : (((k : Int) == x5) || x2.contains (k : Int)) <;> simp only [List.filter_cons, h, List.filter_nil] <;> simp
theorem firstT_mem {x1 : List Int} {x3 : Int} {n : Nat} {y : Int} : y ∈ firstT x1 x3 n ↔ ∃ i : Nat, i < n ∧ (i : Int) < x3 ∧ x1.contains (i : Int) = true ∧ y = (i : Int) := by
  simp only [firstT, List.mem_map, List.mem_filter, List.mem_range, Bool.and_eq_true, decide_eq_true_eq]
  exact ⟨fun ⟨i, ⟨h1, h2, h3⟩, h4⟩ => ⟨i, h1, h2, h3, h4.symm⟩, fun ⟨i, h1, h2, h3, h4⟩ => ⟨i, ⟨h1, h2, h3⟩, h4.symm⟩⟩
theorem firstT_incr (x1 : List Int) (m n : Nat) : incr (firstT x1 (m : Int) n) (m : Int) = true := by
  rw [incr_iff]
  refine ⟨fun y hy => ?_, ?_⟩
  · obtain ⟨i, h1, h2, h3, rfl⟩ := firstT_mem.1 hy
    omega
  · unfold firstT
    rw [List.pairwise_map]
    refine (List.Pairwise.filter _ List.pairwise_lt_range).imp ?_
    intro a b h; omega
theorem f7_b0_eq (s : TBaneSea) (x1 : List Int) (x2 x3 : Int) (h12 : s.Trips.length ≤ 12) (h1 : x1.length ≤ 12) : lp (f7_b0 s x1 x2 x3) ([], [], 0) = some (moreT x1 x2 s.Trips.length, firstT x1 x3 s.Trips.length) := by
  have hl1 : ∀ k, (moreT x1 x2 k).length ≤ k := fun k => by
    unfold moreT
    rw [List.length_map]
    exact Nat.le_trans (List.length_filter_le _ _) (by simp)
  have hl2 : ∀ k, (firstT x1 x3 k).length ≤ k := fun k => by
    unfold firstT
    rw [List.length_map]
    exact Nat.le_trans (List.length_filter_le _ _) (by simp)
  refine lp_thru s.Trips _ (fun k => (moreT x1 x2 k, firstT x1 x3 k, (k : Int))) ?_ ?_
  · intro k t ht
    have hk := get_lt ht
    have q1 := hl1 k
    have q2 := hl2 k
    unfold f7_b0
    have c : (k : Int) < (s.Trips.length : Int) := by omega
    have e1 : app (moreT x1 x2 k) [(k : Int)] = some (moreT x1 x2 k ++ [(k : Int)]) := app_short _ _ (by simp; omega)
    have e2 : app (firstT x1 x3 k) [(k : Int)] = some (firstT x1 x3 k ++ [(k : Int)]) := app_short _ _ (by simp; omega)
    rw [moreT_succ, firstT_succ]
    simp only [c, decide_true, if_true, f38_eq x1 _ (show x1.length ≤ 1000 by omega), Option.bind_some, wrap_nat hk (by omega), e1, e2]
    cases ((k : Int) == x2) <;> cases x1.contains (k : Int) <;> cases decide ((k : Int) < x3) <;> simp
  · unfold f7_b0
    simp
theorem baneMore (s : TBaneSea) (x1 : List Int) (x2 x3 x4 : Int) (_ : okTBaneSea s) (_ : ∀ y ∈ x1, okI y) (_ : okI x2) (_ : okI x3) (_ : okI x4) : f7 s x1 x2 x3 x4 = some true := by
  obtain ⟨a, ha, hws⟩ := f27_eq s
  unfold f7
  rw [ha, known_pure]
  cases a with
  | false => simp
  | true =>
    have hsh := hws rfl
    have h12 := hsh.2.2
    rw [len_dec (l := x1) (c := 12) (n := 12) rfl]
    by_cases h1 : x1.length ≤ 12
    · simp only [h1, decide_true, Bool.not_true, Bool.false_eq_true, if_false, Option.bind_some]
      rw [f30_eq s x1 hsh (by omega)]
      cases hoki : (seaOk s && incr x1 (s.Trips.length : Int)) with
      | false => simp
      | true =>
        rw [Bool.and_eq_true] at hoki
        obtain ⟨hok, hi⟩ := hoki
        obtain ⟨I, hs⟩ := sea_of hok
        by_cases h3 : x3 < 0
        · simp [h3]
        · by_cases h4 : (s.Trips.length : Int) < x3
          · simp [h3, h4]
          · by_cases h5 : x4 < 0
            · simp [h3, h4, h5]
            · by_cases h6 : 40 < x4
              · simp [h3, h4, h5, h6]
              · simp only [if_true, Option.bind_some, bne_self_eq_false, Bool.false_eq_true, if_false, h3, h4, h5, h6, decide_false]
                obtain ⟨m, rfl⟩ : ∃ m : Nat, x3 = (m : Int) := ⟨x3.toNat, by omega⟩
                rw [f7_b0_eq s x1 x2 _ h12 h1]
                have hsub : subL s.Trips 0 (m : Int) = some (s.Trips.take m) := by
                  unfold subL
                  rw [if_pos ⟨by omega, by omega, by omega⟩]
                  simp
                rw [hsub]
                simp only [Option.bind_some]
                have hw := hs.wait
                have hwr : IntKind.i64.wrap (s.Wait + x4) = s.Wait + x4 := by rw [wrap_id] <;> omega
                rw [hwr]
                obtain ⟨W, hW⟩ : ∃ W, W = if s.Wait + x4 < 40 then s.Wait + x4 else 40 := ⟨_, rfl⟩
                have hW1 : s.Wait ≤ W ∧ W ≤ 40 := by rw [hW]; split <;> omega
                rw [← hW]
                have et : (⟨s.Islets, s.Infested, s.Clean, s.Trips, s.Wait⟩ : TBaneSea) = s := rfl
                rw [et]
                have hml : (moreT x1 x2 s.Trips.length).length ≤ 1000 := by have := incr_len (moreT_incr x1 x2 s.Trips.length); omega
                have htk : (s.Trips.take m).length = m := by rw [List.length_take]; omega
                have hfl : (firstT x1 (m : Int) s.Trips.length).length ≤ 1000 := by have := incr_len (firstT_incr x1 m s.Trips.length); omega
                have hrest : restOk s = true ∧ allI (fun _ t => tripOk s t) 0 s.Trips = true := by
                  unfold seaOk at hok
                  rw [Bool.and_eq_true] at hok
                  exact ⟨hok.2, hok.1⟩
                have hok2 : seaOk ⟨s.Islets, s.Infested, s.Clean, s.Trips.take m, s.Wait⟩ = true := by
                  obtain ⟨r1, r2⟩ := hrest
                  unfold seaOk
                  rw [Bool.and_eq_true]
                  constructor
                  · rw [allI_iff] at r2 ⊢
                    intro j t ht
                    rw [List.getElem?_take] at ht
                    by_cases hj : j < m
                    · rw [if_pos hj] at ht; exact r2 j t ht
                    · rw [if_neg hj] at ht; cases ht
                  · unfold restOk at r1 ⊢
                    simp only [Bool.and_eq_true, decide_eq_true_eq] at r1 ⊢
                    exact ⟨r1.1, r1.2.1, r1.2.2.1, by rw [htk]; omega, r1.2.2.2.2⟩
                have hok3 : seaOk ⟨s.Islets, s.Infested, s.Clean, s.Trips, W⟩ = true := by
                  obtain ⟨r1, r2⟩ := hrest
                  unfold seaOk
                  rw [Bool.and_eq_true]
                  refine ⟨r2, ?_⟩
                  unfold restOk at r1 ⊢
                  simp only [Bool.and_eq_true] at r1 ⊢
                  exact ⟨r1.1, r1.2.1, r1.2.2.1, r1.2.2.2.1, inR_iff.2 ⟨by omega, hW1.2⟩⟩
                have sea2 : Sea ⟨s.Islets, s.Infested, s.Clean, s.Trips.take m, s.Wait⟩ I := ⟨hs.isl, hs.pos, hs.top, hs.inf, hs.cln, by have := hs.num; show (s.Trips.take m).length ≤ 9; omega, hs.wait, fun t ht => hs.trip t (List.mem_of_mem_take ht)⟩
                have sea3 : Sea ⟨s.Islets, s.Infested, s.Clean, s.Trips, W⟩ I := ⟨hs.isl, hs.pos, hs.top, hs.inf, hs.cln, hs.num, ⟨show 0 ≤ W by omega, hW1.2⟩, hs.trip⟩
                have sh2 : seaShort ⟨s.Islets, s.Infested, s.Clean, s.Trips.take m, s.Wait⟩ := ⟨hsh.1, hsh.2.1, by show (s.Trips.take m).length ≤ 12; omega⟩
                have hi2 : incr (firstT x1 (m : Int) s.Trips.length) ((s.Trips.take m).length : Int) = true := by rw [htk]; exact firstT_incr x1 m _
                have sh3 : seaShort ⟨s.Islets, s.Infested, s.Clean, s.Trips, W⟩ := hsh
                obtain ⟨A, a1, a2, a3⟩ := (f39_eq s x1 hsh (by omega)).2 hok hi I hs
                obtain ⟨B, b1, b2, b3⟩ := (f39_eq s _ hsh hml).2 hok (moreT_incr x1 x2 s.Trips.length) I hs
                obtain ⟨C, c1, c2, c3⟩ := (f39_eq _ _ sh2 hfl).2 hok2 hi2 I sea2
                obtain ⟨D, d1, d2, d3⟩ := (f39_eq _ x1 sh3 (by omega)).2 hok3 hi I sea3
                rw [a1, b1, c1, d1]
                have htop := hs.top
                have lB := later_of (s := s) (s' := s) (op := opB x1) (op' := opB (moreT x1 x2 s.Trips.length)) hs (fun x d h => h.mono (s := s) (s' := s) (op := opB x1) (fun _ _ h => h) rfl (Int.le_refl _) fun i hi' ho => by
                  unfold opB at ho ⊢
                  cases hc : x1.contains (i : Int) with
                  | false => rfl
                  | true => rw [moreT_has hi' hc] at ho; cases ho) a2 b2 a3 b3
                have lC := later_of (s := s) (s' := ⟨s.Islets, s.Infested, s.Clean, s.Trips.take m, s.Wait⟩) (op := opB x1) (op' := opB (firstT x1 (m : Int) s.Trips.length)) hs (fun x d h => h.mono (s := s) (s' := ⟨s.Islets, s.Infested, s.Clean, s.Trips.take m, s.Wait⟩) (op := opB x1) (op' := opB (firstT x1 (m : Int) s.Trips.length)) (fun i t ht => by
                  have ht' : (s.Trips.take m)[i]? = some t := ht
                  rw [List.getElem?_take] at ht'
                  by_cases hj : i < m
                  · rw [if_pos hj] at ht'; exact ht'
                  · rw [if_neg hj] at ht'; cases ht') rfl (Int.le_refl _) fun i hi' ho => by
                  have hi'' : i < (s.Trips.take m).length := hi'
                  unfold opB at ho ⊢
                  cases hc : x1.contains (i : Int) with
                  | false => rfl
                  | true =>
                    have : (firstT x1 (m : Int) s.Trips.length).contains (i : Int) = true := List.contains_iff_mem.2 (firstT_mem.2 ⟨i, by omega, by omega, hc, rfl⟩)
                    rw [this] at ho; cases ho) a2 c2 a3 c3
                have lD := later_of (s := s) (s' := ⟨s.Islets, s.Infested, s.Clean, s.Trips, W⟩) (op := opB x1) (op' := opB x1) hs (fun x d h => h.mono (s := s) (s' := ⟨s.Islets, s.Infested, s.Clean, s.Trips, W⟩) (op := opB x1) (op' := opB x1) (fun _ _ h => h) rfl hW1.1 fun i hi' ho => ho) a2 d2 a3 d3
                simp only [Option.bind_some, bne_self_eq_false, Bool.false_eq_true, if_false, f40_true A B (by omega) lB, f40_true A C (by omega) lC, f40_true A D (by omega) lD, if_true]
    · simp [h1]
end Go.Proofs.Ytgplafckddpnkaa
