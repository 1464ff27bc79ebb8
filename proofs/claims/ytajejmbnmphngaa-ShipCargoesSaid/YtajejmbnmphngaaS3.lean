/-
  Ship's hours.
-/
import Derived.Test.YtajejmbnmphngaaS2
import Derived.Test.YtajejmbnmphngaaOp
namespace Go.Proofs.Ytajejmbnmphngaa
open Go.RowKit
set_option linter.unusedSimpArgs false

theorem wrap0 : IntKind.i64.wrap 0 = 0 := rfl
theorem f16_T {p : TShipPass} (h : passShort p) : f16 p = some true := by rw [f16_eq, decide_eq_true h]
theorem f16_F {p : TShipPass} (h : ¬ passShort p) : f16 p = some false := by rw [f16_eq, decide_eq_false h]
theorem shipHours (p : TShipPass) (d : Int) (c : TShipCall) (_ : okTShipPass p) (_ : okI d) (_ : okTShipCall c) : f12 p d c = some true := by
  unfold f12
  by_cases hs : passShort p
  · simp only [f16_T hs, Option.bind_some, f47_eq p hs, f45_eq p d hs, f48_eq p c hs, f19_eq p hs, f44_eq p d hs, f50_eq p c hs]
    cases hp : passOk p with
    | false => simp [known_pure, wrap0]
    | true =>
      have l1 : ∀ sw, (hoursL p d sw).length ≤ 1073741824 := fun sw => Nat.le_trans (hoursTo_len p d sw 24) (by decide)
      cases hd : dayOk p d with
      | false =>
        cases hc : callOk p c with
        | false => simp [known_pure, wrap0]
        | true =>
          rw [f51_eq (passOk_iff hp) hc]
          unfold nextR
          cases firstC p c <;> simp [known_pure, wrap0]
      | true =>
        cases hc : callOk p c with
        | false => simp [known_pure, f49_eq p d _ hp hd, f39_eq _ _ (l1 _)]
        | true =>
          rw [f51_eq (passOk_iff hp) hc]
          unfold nextR
          cases firstC p c <;> simp [known_pure, f49_eq p d _ hp hd, f39_eq _ _ (l1 _)]
  · simp [f16_F hs, known_pure]
/-! ### What is open -/
theorem f52_eq (p : TShipPass) (c : TShipCall) (sw : Int) (hs : passShort p) : f52 p c sw = some (if (passOk p && (callOk p c && inR sw (swAt p c.Day).Low (swAt p c.Day).High)) = true then (goes p c sw, 0) else (false, 2)) := by
  unfold f52
  rw [f60_eq p hs, f82_eq p c hs]
  cases hp : passOk p with
  | false => rfl
  | true =>
    cases hc : callOk p c with
    | false => rfl
    | true =>
      obtain ⟨h1, h2⟩ := sw_ix (passOk_iff hp) (callOk_day hc)
      simp only [Option.bind_some, h1, f62_eq]
      cases hsw : inR sw (swAt p c.Day).Low (swAt p c.Day).High with
      | false => rfl
      | true =>
        rw [inR_iff] at hsw
        simp only [Bool.not_true, Bool.false_eq_true, if_false, Option.bind_some, f81_eq (passOk_iff hp) hc (sw := sw) (by omega)]; rfl
theorem goes_le {p : TShipPass} {c : TShipCall} {a b : Int} (h : a ≤ b) (hg : goes p c b = true) : goes p c a = true := by
  unfold goes at *
  simp only [Bool.and_eq_true, decide_eq_true_eq] at *
  exact ⟨hg.1, by omega⟩
theorem pos_cAt (i : Nat) : pos (cAt i) = i := by unfold pos cAt; simp only; omega
theorem firstC_none {p : TShipPass} {f : TShipCall} (h : firstC p f = none) {c : TShipCall} (hc : callOk p c = true) (hf : pos f ≤ pos c) : sureC p c = false := by
  unfold firstC sureFrom at h
  rw [List.head?_filter, List.find?_eq_none] at h
  obtain ⟨h1, h2⟩ := cAt_pos hc
  have := h c (List.mem_map.2 ⟨pos c, List.mem_range'_1.2 ⟨hf, by omega⟩, h1⟩)
  simpa using this
theorem firstC_some {p : TShipPass} {f n : TShipCall} (h : firstC p f = some n) : callOk p n = true ∧ pos f ≤ pos n ∧ sureC p n = true ∧ ∀ c, callOk p c = true → pos f ≤ pos c → pos c < pos n → sureC p c = false := by
  unfold firstC sureFrom at h
  rw [List.head?_filter, List.find?_eq_some_iff_getElem] at h
  obtain ⟨h1, i, hi, h2, h3⟩ := h
  rw [List.length_map, List.length_range'] at hi
  rw [List.getElem_map, List.getElem_range'] at h2
  rw [← h2, pos_cAt]
  refine ⟨callOk_at (by omega), by omega, by rw [h2]; exact h1, fun c hc hf hn => ?_⟩
  obtain ⟨q1, q2⟩ := cAt_pos hc
  have h4 := h3 (pos c - pos f) (by omega)
  rw [List.getElem_map, List.getElem_range', show pos f + 1 * (pos c - pos f) = pos c by omega, q1] at h4
  simpa using h4
theorem ord_of {p : TShipPass} {a b : TShipCall} (ha : callOk p a = true) (hb : callOk p b = true) : (a.Day < b.Day → pos a < pos b) ∧ (a.Day = b.Day → ((pos a ≤ pos b) ↔ a.Hour ≤ b.Hour) ∧ ((pos a < pos b) ↔ a.Hour < b.Hour)) := by
  unfold callOk at ha hb
  rw [Bool.and_eq_true, dayOk_iff, inR_iff] at ha hb
  unfold pos
  constructor
  · intro h; omega
  · intro h; constructor <;> omega
theorem later_eq {p : TShipPass} {a b : TShipCall} (ha : callOk p a = true) (hb : callOk p b = true) :
    ((if (decide (a.Day < b.Day)) = true then (some true) else (if (b.Day == a.Day) = true then (some (decide (a.Hour ≤ b.Hour))) else (some false)) : Option Bool)) = some (decide (pos a ≤ pos b)) := by
  obtain ⟨h1, h2⟩ := ord_of ha hb
  obtain ⟨h3, h4⟩ := ord_of hb ha
  by_cases hd : a.Day < b.Day
  · have := h1 hd
    simp [hd]; omega
  · by_cases he : b.Day = a.Day
    · have := (h2 he.symm).1
      simp [hd, he, this]
    · have := h3 (by omega)
      simp [hd, he]; omega
theorem before_eq {p : TShipPass} {a b : TShipCall} (ha : callOk p a = true) (hb : callOk p b = true) :
    ((if (decide (a.Day < b.Day)) = true then (some true) else (if (a.Day == b.Day) = true then (some (decide (a.Hour < b.Hour))) else (some false)) : Option Bool)) = some (decide (pos a < pos b)) := by
  obtain ⟨h1, h2⟩ := ord_of ha hb
  obtain ⟨h3, h4⟩ := ord_of hb ha
  by_cases hd : a.Day < b.Day
  · have := h1 hd
    simp [hd, this]
  · by_cases he : a.Day = b.Day
    · have := (h2 he).2
      simp [hd, he, this]
    · have := h3 (by omega)
      simp [hd, he]; omega
theorem has_hour {p : TShipPass} {c : TShipCall} (hc : callOk p c = true) (sw : Int) : f46 (hoursL p c.Day sw) c.Hour = some (goes p c sw) := by
  rw [f46_eq _ _ (Nat.le_trans (hoursTo_len p c.Day sw 24) (by decide))]
  congr 1
  unfold callOk at hc
  rw [Bool.and_eq_true, inR_iff] at hc
  rw [Bool.eq_iff_iff, List.contains_iff_mem, mem_hours]
  exact ⟨fun h => h.2.2, fun h => ⟨hc.2.1, hc.2.2, h⟩⟩
theorem shipOpen (p : TShipPass) (c : TShipCall) (sw : Int) (f : TShipCall) (_ : okTShipPass p) (_ : okTShipCall c) (_ : okI sw) (_ : okTShipCall f) : f13 p c sw f = some true := by
  unfold f13
  by_cases hs : passShort p
  · simp only [f16_T hs, Option.bind_some, f19_eq p hs, f50_eq _ _ hs]
    cases hp : passOk p with
    | false => simp [known_pure]
    | true =>
      cases hc : callOk p c with
      | false => simp [known_pure]
      | true =>
        cases hf : callOk p f with
        | false => simp [known_pure]
        | true =>
          have hP := passOk_iff hp
          have hd := callOk_day hc
          obtain ⟨h1, h2⟩ := sw_ix hP hd
          simp only [f52_eq p c sw hs, f45_eq p _ hs, f48_eq p f hs, hp, hc, hf, hd, h1, Option.bind_some, Bool.true_and, Bool.and_true, Bool.not_true, Bool.false_eq_true, if_false, if_true, known_pure, has_hour hc, later_eq hf hc]
          cases hsw : inR sw (swAt p c.Day).Low (swAt p c.Day).High with
          | false =>
            have e : (if (decide (sw < (swAt p c.Day).Low)) = true then (some true) else (some (decide ((swAt p c.Day).High < sw))) : Option Bool) = some true := by
              unfold inR at hsw
              by_cases h : sw < (swAt p c.Day).Low
              · simp [h]
              · have h3 : (swAt p c.Day).Low ≤ sw := by omega
                simp [h3] at hsw
                simp [h]; omega
            rw [e]; rfl
          | true =>
            rw [inR_iff] at hsw
            have e : (if (decide (sw < (swAt p c.Day).Low)) = true then (some true) else (some (decide ((swAt p c.Day).High < sw))) : Option Bool) = some false := by
              have h : ¬ sw < (swAt p c.Day).Low := by omega
              simp [h]; omega
            rw [e]
            have l1 : decide ((24 : Int) < ((hoursL p c.Day (swAt p c.Day).High).length : Int)) = false := by have : (hoursL p c.Day (swAt p c.Day).High).length ≤ 24 := hoursTo_len _ _ _ _; simp only [decide_eq_false_iff_not]; omega
            have l2 : decide ((24 : Int) < ((hoursL p c.Day (swAt p c.Day).Low).length : Int)) = false := by have : (hoursL p c.Day (swAt p c.Day).Low).length ≤ 24 := hoursTo_len _ _ _ _; simp only [decide_eq_false_iff_not]; omega
            simp only [if_true, Option.bind_some, l1, l2, Bool.false_eq_true, if_false, show ((0 : Int) != 0) = false from rfl]
            have m1 : goes p c (swAt p c.Day).High = true → goes p c sw = true := goes_le (by omega)
            have m2 : goes p c sw = true → goes p c (swAt p c.Day).Low = true := goes_le (by omega)
            have hsu : sureC p c = goes p c (swAt p c.Day).High := rfl
            have q : ((if goes p c (swAt p c.Day).High = true then (if (!goes p c sw) = true then (some true) else (if goes p c sw = true then (if (!goes p c (swAt p c.Day).Low) = true then (some true) else (some (!goes p c (swAt p c.Day).Low))) else (some (!goes p c (swAt p c.Day).Low)))) else (if goes p c sw = true then (if (!goes p c (swAt p c.Day).Low) = true then (some true) else (some false)) else (some false)) : Option Bool)) = some false := by
              cases h3 : goes p c (swAt p c.Day).High <;> cases h4 : goes p c sw <;> cases h5 : goes p c (swAt p c.Day).Low <;> simp_all
            rw [q]
            simp only [Option.bind_some, Bool.false_eq_true, if_false]
            unfold nextR
            cases hn : firstC p f with
            | none =>
              have h3 : ¬ (pos f ≤ pos c ∧ sureC p c = true) := fun ⟨h4, h5⟩ => by rw [firstC_none hn hc h4] at h5; cases h5
              rw [hsu] at h3
              by_cases h4 : pos f ≤ pos c
              · have : goes p c (swAt p c.Day).High = false := by
                  cases hg : goes p c (swAt p c.Day).High with
                  | false => rfl
                  | true => exact absurd ⟨h4, hg⟩ h3
                simp [h4, this]
              · simp [h4]
            | some n =>
              obtain ⟨n1, n2, n3, n4⟩ := firstC_some hn
              have hdn := callOk_day n1
              have n3' : goes p n (swAt p n.Day).High = true := n3
              have l3 : decide (((hoursL p n.Day (swAt p n.Day).High).length : Int) ≤ 24) = true := by have : (hoursL p n.Day (swAt p n.Day).High).length ≤ 24 := hoursTo_len _ _ _ _; simp only [decide_eq_true_eq]; omega
              simp only [f50_eq _ _ hs, n1, before_eq n1 hf, before_eq hc n1, f45_eq p _ hs, hp, hdn, has_hour n1, n3', l3, Option.bind_some, Bool.true_and, Bool.and_true, Bool.not_true, Bool.false_eq_true, if_false, if_true, show decide (pos n < pos f) = false by simp; omega, show ((0 : Int) != 0) = false from rfl, show ((0 : Int) == 0) = true from rfl]
              have h3 : ¬ (pos f ≤ pos c ∧ goes p c (swAt p c.Day).High = true ∧ pos c < pos n) := fun ⟨h4, h5, h6⟩ => by
                have := n4 c hc h4 h6
                rw [hsu, h5] at this; cases this
              by_cases h4 : pos f ≤ pos c
              · cases hg : goes p c (swAt p c.Day).High with
                | false => simp [h4]
                | true =>
                  have h6 : ¬ pos c < pos n := fun h => h3 ⟨h4, hg, h⟩
                  simp [h4, h6]
              · simp [h4]
  · simp [f16_F hs, known_pure]
end Go.Proofs.Ytajejmbnmphngaa
