/-
  LandSharp: the bounds are as close as can be (plain law).
-/
import Derived.Test.YtcaflmilfhhikaaDoorSh
namespace Go.Proofs.YtcaflmilfhhikaaDoor
open Go.RowKit
set_option linter.unusedVariables false

theorem f47_eq (b : TLandBook) : f47 b = some (shortB b && (bookOk b && agreeB b)) := by
  unfold f47
  rw [f14_eq, Option.bind_some]
  by_cases hs : shortB b = true
  · obtain ⟨h1, h2, h3⟩ := bk_le hs
    rw [if_pos hs, f18_eq b h1 h2 h3, Option.bind_some]
    by_cases ok : bookOk b = true
    · rw [if_pos ok, f19_eq b ok]
      simp [hs, ok]
    · simp [hs, ok]
  · simp [hs]
theorem years_ix {b : TLandBook} {e : Nat} (he : e < b.Events.length) : ix (yearsL b) (e : Int) = some ⟨-tabAll b e 7, tabAll b 7 e⟩ := by
  unfold yearsL
  rw [ix_nat, List.getElem?_map, List.getElem?_range he]; rfl
theorem early_ix {b : TLandBook} {e : Nat} (he : e < b.Events.length) : ix (earlyL b) (e : Int) = some (-tabAll b e 7) := by
  unfold earlyL
  rw [ix_nat, List.getElem?_map, List.getElem?_range he]; rfl
theorem low_loop {b : TLandBook} (ok : bookOk b = true) : lp (f12_b0 (yearsL b, 0) (earlyL b, 0)) ([], 0) = some (Sum.inl (lateL b) : List Int ⊕ Bool) := by
  have hn := (book_parts ok).2.1.2
  have h := lp_cnt (body := f12_b0 (yearsL b, 0) (earlyL b, 0)) b.Events.length (fun k (t : List Int) => t = (List.range k).map fun e => tabAll b 7 e) (fun k t => (t, (k : Int))) (fun t => (Sum.inl t : List Int ⊕ Bool)) (fun k t hk ht => ?_) (fun t ht => ?_) (t := []) rfl
  · obtain ⟨t, h1, h2⟩ := h
    have h1' : lp (f12_b0 (yearsL b, 0) (earlyL b, 0)) ([], 0) = some (Sum.inl t) := h1
    rw [h1', h2]; rfl
  · subst ht
    refine ⟨_, ?_, rfl⟩
    have ha : app ((List.range k).map fun e => tabAll b 7 e) [tabAll b 7 k] = some ((List.range (k + 1)).map fun e => tabAll b 7 e) := by
      rw [app_short _ _ (by simp; omega), List.range_succ, List.map_append]; rfl
    unfold f12_b0
    rw [if_pos (by simp only [decide_eq_true_eq, yearsL, List.length_map, List.length_range]; omega)]
    simp only [early_ix hk, years_ix hk, Option.bind_some, ha, wrap_cnt (show k ≤ 1000 by omega)]
    rw [if_neg (by simp)]
  · unfold f12_b0
    rw [if_neg (by simp [yearsL])]
/-- One round: the book with a memory more. -/
theorem sharp_loop {b : TLandBook} (ok : bookOk b = true) (ha : agreeB b = true) (hs : shortB b = true) {i k : Nat} (hi : i < b.Events.length) (hk : k < b.Events.length) (hne : i ≠ k) (hl : b.Memories.length < 10) :
    lp (f12_b1 b (i : Int) (k : Int) (⟨-tabAll b k i, tabAll b i k⟩, 0)) 0 = some (Sum.inl () : Unit ⊕ Bool) := by
  obtain ⟨h1, h2, h3⟩ := bk_le hs
  obtain ⟨r1, r2, r3⟩ := tab_range ok ha hi hk
  obtain ⟨s1, s2, s3⟩ := tab_range ok ha hk hi
  have hwl : IntKind.i64.wrap (-tabAll b k i - 1) = -tabAll b k i - 1 := wrap_id (by omega) (by omega)
  have hwh : IntKind.i64.wrap (tabAll b i k + 1) = tabAll b i k + 1 := wrap_id (by omega) (by omega)
  -- whether the book agrees with a memory more
  have key : ∀ at_ : Int, -1000 ≤ at_ → at_ ≤ 1000 → ((-tabAll b k i ≤ at_ ∧ at_ ≤ tabAll b i k) → (at_ = -tabAll b k i ∨ at_ = tabAll b i k)) →
      ∃ w, (app [] b.Memories).bind (fun y121 => (app y121 [(⟨(i : Int), (k : Int), (⟨at_, at_⟩ : TSpan)⟩ : TLandMemory)]).bind fun y126 => f28 (⟨b.People, b.Events, y126⟩ : TLandBook)) = some (w, if -tabAll b k i ≤ at_ ∧ at_ ≤ tabAll b i k then 0 else 7) := by
    intro v v1 v2 hv
    rw [app_short _ _ (by simp; omega), Option.bind_some, List.nil_append, app_short _ _ (by simp; omega), Option.bind_some]
    have hmo : memOk b ⟨(i : Int), (k : Int), ⟨v, v⟩⟩ = true := by
      unfold memOk inR
      have e : ((i : Int) == (k : Int)) = false := by simp; omega
      simp only [Bool.and_eq_true, decide_eq_true_eq, e, Bool.not_false, true_and]
      omega
    have hmk := more_ok ok hl hmo
    have e28 := f28_eq (moreB b ⟨(i : Int), (k : Int), ⟨v, v⟩⟩) h1 h2 (by show (b.Memories ++ _).length ≤ 1000; simp; omega)
    rw [if_pos hmk] at e28
    have e28' : f28 (⟨b.People, b.Events, b.Memories ++ [(⟨(i : Int), (k : Int), ⟨v, v⟩⟩ : TLandMemory)]⟩ : TLandBook) = _ := e28
    rw [e28']
    have hmt : ∀ ys : Nat → Int, MemT ys (⟨(i : Int), (k : Int), ⟨v, v⟩⟩ : TLandMemory) ↔ ys k - ys i = v := fun ys => by
      unfold MemT
      simp only [Int.toNat_natCast]
      omega
    have hagr : agreeB (moreB b ⟨(i : Int), (k : Int), ⟨v, v⟩⟩) = true ↔ -tabAll b k i ≤ v ∧ v ≤ tabAll b i k := by
      rw [agree_tr hmk]
      constructor
      · rintro ⟨ys, hy⟩
        obtain ⟨q1, q2⟩ := more_tr.1 hy
        have q3 := (hmt ys).1 q2
        have p1 := (tr_bound ok q1 hi hk).1
        have p2 := (tr_bound ok q1 hk hi).1
        omega
      · intro hin
        rcases hv hin with h | h
        · refine ⟨_, more_tr.2 ⟨early_tr ok ha (ev_in hi), (hmt _).2 ?_⟩⟩
          have := tab_zero' ok ha (ev_in hi)
          omega
        · refine ⟨_, more_tr.2 ⟨late_tr ok ha (ev_in hi), (hmt _).2 ?_⟩⟩
          have := tab_zero' ok ha (ev_in hi)
          omega
    by_cases hin : -tabAll b k i ≤ v ∧ v ≤ tabAll b i k
    · rw [if_pos (hagr.2 hin), if_pos hin]
      exact ⟨_, rfl⟩
    · rw [if_neg (fun h => hin (hagr.1 h)), if_neg hin]
      exact ⟨_, rfl⟩
  have hix : ∀ n : Nat, n < 4 → ∃ v, ix [-tabAll b k i, tabAll b i k, -tabAll b k i - 1, tabAll b i k + 1] (n : Int) = some v ∧ ((n < 2 ∧ (v = -tabAll b k i ∨ v = tabAll b i k)) ∨ (2 ≤ n ∧ (v = -tabAll b k i - 1 ∨ v = tabAll b i k + 1))) := by
    intro n hn
    have : n = 0 ∨ n = 1 ∨ n = 2 ∨ n = 3 := by omega
    rcases this with rfl | rfl | rfl | rfl
    · exact ⟨_, rfl, .inl ⟨by omega, .inl rfl⟩⟩
    · exact ⟨_, rfl, .inl ⟨by omega, .inr rfl⟩⟩
    · exact ⟨_, rfl, .inr ⟨by omega, .inl rfl⟩⟩
    · exact ⟨_, rfl, .inr ⟨by omega, .inr rfl⟩⟩
  have h := lp_cnt (body := f12_b1 b (i : Int) (k : Int) (⟨-tabAll b k i, tabAll b i k⟩, 0)) 4 (fun _ (_ : Unit) => True) (fun n _ => (n : Int)) (fun _ => (Sum.inl () : Unit ⊕ Bool)) (fun n t hn _ => ?_) (fun t _ => ?_) (t := ()) trivial
  · obtain ⟨_, h1, _⟩ := h
    exact h1
  · refine ⟨(), ?_, trivial⟩
    obtain ⟨v, e1, e2⟩ := hix n hn
    unfold f12_b1
    rw [if_pos (by simp only [decide_eq_true_eq]; omega), hwl, hwh, e1, Option.bind_some]
    by_cases hr : -1000 ≤ v ∧ v ≤ 1000
    · have d1 : decide (v < -1000) = false := decide_eq_false (by omega)
      have d2 : decide (1000 < v) = false := decide_eq_false (by omega)
      obtain ⟨w, hw⟩ := key v hr.1 hr.2 (fun hin => by
        rcases e2 with ⟨_, h⟩ | ⟨_, h⟩
        · exact h
        · omega)
      have hw' : ∀ {α : Type} (g : List Int × Int → Option α), ((app [] b.Memories).bind fun y121 => (app y121 [(⟨(i : Int), (k : Int), (⟨v, v⟩ : TSpan)⟩ : TLandMemory)]).bind fun y126 => (f28 (⟨b.People, b.Events, y126⟩ : TLandBook)).bind g) = g (w, if -tabAll b k i ≤ v ∧ v ≤ tabAll b i k then 0 else 7) := by
        intro α g
        have := congrArg (fun o => o.bind g) hw
        simp only [Option.bind_assoc] at this
        exact this
      simp only [d1, d2, Bool.false_eq_true, if_false, Option.bind_some]
      rw [hw']
      rcases e2 with ⟨hn2, h⟩ | ⟨hn2, h⟩
      · have hin : -tabAll b k i ≤ v ∧ v ≤ tabAll b i k := by omega
        rw [if_pos hin]
        have d3 : decide ((n : Int) < 2) = true := decide_eq_true (by omega)
        have d4 : decide (2 ≤ (n : Int)) = false := decide_eq_false (by omega)
        simp only [d3, d4, if_true, Bool.false_eq_true, if_false, bne_self_eq_false, Option.bind_some, Sum.elim_inl, wrap_cnt (show n ≤ 1000 by omega)]
      · have hin : ¬ (-tabAll b k i ≤ v ∧ v ≤ tabAll b i k) := by omega
        rw [if_neg hin]
        have d3 : decide ((n : Int) < 2) = false := decide_eq_false (by omega)
        have d4 : decide (2 ≤ (n : Int)) = true := decide_eq_true (by omega)
        simp only [d3, d4, if_true, Bool.false_eq_true, if_false, bne_self_eq_false, Option.bind_some, Sum.elim_inl, wrap_cnt (show n ≤ 1000 by omega)]
    · have hor : ((if (decide (v < -1000)) = true then (some true) else (some (decide (1000 < v))) : Option Bool)) = some true := by
        by_cases h1 : v < -1000
        · rw [if_pos (decide_eq_true h1)]
        · rw [if_neg (by simpa using h1)]
          congr 1
          exact decide_eq_true (by omega)
      rw [hor]
      simp only [Option.bind_some, if_true, Sum.elim_inl, wrap_cnt (show n ≤ 1000 by omega)]
  · unfold f12_b1
    rw [if_neg (by decide)]
theorem landSharp_pure (x0 : TLandBook) (x1 x2 : Int) : f12 x0 x1 x2 = some true := by
  unfold f12
  rw [f47_eq, Option.bind_some]
  by_cases hr : (shortB x0 && (bookOk x0 && agreeB x0)) = true
  · simp only [Bool.and_eq_true] at hr
    obtain ⟨hs, ok, ha⟩ := hr
    obtain ⟨h1, h2, h3⟩ := bk_le hs
    have hn := (book_parts ok).2.1.2
    have hl := (book_parts ok).2.2.1
    rw [f45_eq x0 x1 h2, f45_eq x0 x2 h2, f34_eq x0 h1 h2 h3, f28_eq x0 h1 h2 h3, f43_eq x0 x1 x2 h1 h2 h3, known_pure]
    by_cases hi : inR x1 0 ((x0.Events.length : Int) - 1) = true
    · by_cases hk : inR x2 0 ((x0.Events.length : Int) - 1) = true
      · obtain ⟨i, hi', rfl⟩ := inR_nat hi
        obtain ⟨k, hk', rfl⟩ := inR_nat hk
        obtain ⟨t1, t2⟩ := early_list ok ha
        obtain ⟨u1, u2⟩ := late_list ok ha
        have hyl : (yearsL x0).length = x0.Events.length := by simp [yearsL]
        have hel : (earlyL x0).length = x0.Events.length := by simp [earlyL]
        simp only [hs, ok, ha, hi, hk, hyl, hel, low_loop ok, f27_eq x0 _ h1 h2 h3, t1, t2, u1, u2, Int.toNat_natCast, Bool.and_self, Bool.not_true, Bool.false_eq_true, if_true, if_false, Option.bind_some, bne_self_eq_false, Sum.elim_inl]
        by_cases e : i = k
        · subst e
          have h0 := tab_zero' ok ha (ev_in hi')
          simp [h0]
        · have e' : ((i : Int) == (k : Int)) = false := by simp; omega
          obtain ⟨r1, r2, r3⟩ := tab_range ok ha hi' hk'
          obtain ⟨s1, s2, s3⟩ := tab_range ok ha hk' hi'
          have d1 : decide (-tabAll x0 k i < -1000) = false := decide_eq_false (by omega)
          have d2 : decide (1000 < tabAll x0 i k) = false := decide_eq_false (by omega)
          have d3 : decide (tabAll x0 i k < -tabAll x0 k i) = false := decide_eq_false (by omega)
          by_cases hm : x0.Memories.length < 10
          · have d4 : decide (10 ≤ (x0.Memories.length : Int)) = false := decide_eq_false (by omega)
            simp only [e', d1, d2, d3, d4, Bool.false_eq_true, if_false, Option.bind_some, sharp_loop ok ha hs hi' hk' e hm, Sum.elim_inl]
          · have d4 : decide (10 ≤ (x0.Memories.length : Int)) = true := decide_eq_true (by omega)
            simp only [e', d4, Bool.false_eq_true, if_false, if_true, Option.bind_some]
      · simp [hs, ok, ha, hi, hk]
    · simp [hs, ok, ha, hi]
  · have hr' : (shortB x0 && (bookOk x0 && agreeB x0)) = false := by simpa using hr
    rw [hr', known_pure]
    rfl
theorem landSharp (x0 : TLandBook) (x1 x2 : Int) (k0 : okTLandBook x0) (k1 : okI x1) (k2 : okI x2) : f12 x0 x1 x2 = some true := landSharp_pure x0 x1 x2
end Go.Proofs.YtcaflmilfhhikaaDoor
