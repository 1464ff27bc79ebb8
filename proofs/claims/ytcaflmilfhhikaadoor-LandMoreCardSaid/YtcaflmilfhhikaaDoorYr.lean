/-
  The years that the program tells.
-/
import Derived.Test.YtcaflmilfhhikaaDoorBd
namespace Go.Proofs.YtcaflmilfhhikaaDoor
open Go.RowKit
set_option linter.unusedVariables false

theorem f70_eq (t : Tb 64) {a c : Nat} (ha : a < 8) (hc : c < 8) (hs : Small (tabOf t)) : f70 t (a : Int) (c : Int) = some ⟨-tabOf t c a, tabOf t a c⟩ := by
  have h1 := hs c a
  have hw : IntKind.i64.wrap (0 - tabOf t c a) = -tabOf t c a := by
    rw [IntKind.wrap_i64]; omega
  unfold f70
  simp only [ckI_nat ha, ckI_nat hc, Option.bind_some, tab_get t hc ha, tab_get t ha hc, hw]
theorem tab_small {b : TLandBook} (h : bookOk b = true) : Small (tabAll b) := by
  obtain ⟨_, he, _, hok, _⟩ := book_parts h
  exact (fits_small (places_nodup he.2) (by unfold placesL; simp; omega) (first_bd b _ hok)).2
/-- What the program tells of each event's year. -/
def yearsL (b : TLandBook) : List TSpan := (List.range b.Events.length).map fun e => ⟨-tabAll b e 7, tabAll b 7 e⟩
theorem years_loop (b : TLandBook) (hn : b.Events.length ≤ 7) (t : Tb 64) (hs : Small (tabOf t)) (ht : tabOf t = tabAll b) : lp (f34_b0 b) ([], 0, t) = some (yearsL b, t) := by
  have h := lp_thru (body := f34_b0 b) b.Events (yearsL b, t) (fun k => ((List.range k).map (fun e => (⟨-tabAll b e 7, tabAll b 7 e⟩ : TSpan)), (k : Int), t)) (fun k y hy => by
    have hk := get_lt hy
    have hq1 : IntKind.i64.wrap ((k : Int) + 1) = ((k + 1 : Nat) : Int) := by
      rw [IntKind.wrap_i64]; omega
    have h70 := f70_eq t (a := 7) (c := k) (by omega) (by omega) hs
    rw [show ((7 : Nat) : Int) = 7 from rfl, ht] at h70
    have ha : app ((List.range k).map (fun e => (⟨-tabAll b e 7, tabAll b 7 e⟩ : TSpan))) [⟨-tabAll b k 7, tabAll b 7 k⟩] = some ((List.range (k + 1)).map (fun e => (⟨-tabAll b e 7, tabAll b 7 e⟩ : TSpan))) := by
      unfold app
      rw [if_pos (by simp; omega), List.range_succ, List.map_append]; rfl
    unfold f34_b0
    rw [if_pos (by simp only [decide_eq_true_eq]; omega)]
    simp only [h70, Option.bind_some, ha, hq1]) (by unfold f34_b0 yearsL; rw [if_neg (by simp)])
  exact h
/-- 'Years'. -/
theorem f34_eq (b : TLandBook) (h1 : b.People.length ≤ 1000) (h2 : b.Events.length ≤ 1000) (h3 : b.Memories.length ≤ 1000) : f34 b = some (if bookOk b = true then (if agreeB b = true then (yearsL b, 0) else ([], 7)) else ([], 2)) := by
  obtain ⟨t', e1, e2⟩ := f69_eq b true h1 h2 h3
  unfold f34
  rw [e1]
  cases hb : bookOk b with
  | false => rfl
  | true =>
    rw [hb] at e1
    have ht := e2 hb
    cases ha : agreeB b with
    | false => simp
    | true =>
      obtain ⟨_, he, _, _, _⟩ := book_parts hb
      have hl := years_loop b he.2 t' (by rw [ht]; exact tab_small hb) ht
      simp [hl]
/-- What the program tells as the earliest truth. -/
def earlyL (b : TLandBook) : List Int := (List.range b.Events.length).map fun e => -tabAll b e 7
theorem early_loop (b : TLandBook) (hn : b.Events.length ≤ 7) (t : Tb 64) (hs : Small (tabOf t)) (ht : tabOf t = tabAll b) : lp (f28_b0 b) ([], 0, t) = some (earlyL b, t) := by
  have h := lp_thru (body := f28_b0 b) b.Events (earlyL b, t) (fun k => ((List.range k).map (fun e => -tabAll b e 7), (k : Int), t)) (fun k y hy => by
    have hk := get_lt hy
    have hq1 : IntKind.i64.wrap ((k : Int) + 1) = ((k + 1 : Nat) : Int) := by
      rw [IntKind.wrap_i64]; omega
    have h70 := f70_eq t (a := 7) (c := k) (by omega) (by omega) hs
    rw [show ((7 : Nat) : Int) = 7 from rfl, ht] at h70
    have ha : app ((List.range k).map (fun e => -tabAll b e 7)) [-tabAll b k 7] = some ((List.range (k + 1)).map (fun e => -tabAll b e 7)) := by
      unfold app
      rw [if_pos (by simp; omega), List.range_succ, List.map_append]; rfl
    unfold f28_b0
    rw [if_pos (by simp only [decide_eq_true_eq]; omega)]
    simp only [h70, Option.bind_some, ha, hq1]) (by unfold f28_b0 earlyL; rw [if_neg (by simp)])
  exact h
/-- 'Witness'. -/
theorem f28_eq (b : TLandBook) (h1 : b.People.length ≤ 1000) (h2 : b.Events.length ≤ 1000) (h3 : b.Memories.length ≤ 1000) : f28 b = some (if bookOk b = true then (if agreeB b = true then (earlyL b, 0) else ([], 7)) else ([], 2)) := by
  obtain ⟨t', e1, e2⟩ := f69_eq b true h1 h2 h3
  unfold f28
  rw [e1]
  cases hb : bookOk b with
  | false => rfl
  | true =>
    have ht := e2 hb
    cases ha : agreeB b with
    | false => simp
    | true =>
      obtain ⟨_, he, _, _, _⟩ := book_parts hb
      have hl := early_loop b he.2 t' (by rw [ht]; exact tab_small hb) ht
      simp [hl]
/-- 'After'. -/
theorem f43_eq (b : TLandBook) (i k : Int) (h1 : b.People.length ≤ 1000) (h2 : b.Events.length ≤ 1000) (h3 : b.Memories.length ≤ 1000) : f43 b i k = some (if (bookOk b && (inR i 0 ((b.Events.length : Int) - 1) && inR k 0 ((b.Events.length : Int) - 1))) = true then (if agreeB b = true then ((⟨-tabAll b k.toNat i.toNat, tabAll b i.toNat k.toNat⟩ : TSpan), 0) else (⟨0, 0⟩, 7)) else (⟨0, 0⟩, 2)) := by
  have hw : IntKind.i64.wrap ((b.Events.length : Int) - 1) = (b.Events.length : Int) - 1 := by
    rw [IntKind.wrap_i64]; omega
  unfold f43
  simp only [hw, f66_eq, Option.bind_some]
  cases hi : inR i 0 ((b.Events.length : Int) - 1) with
  | false =>
    obtain ⟨t', e1, _⟩ := f69_eq b false h1 h2 h3
    simp only [Bool.false_eq_true, if_false, e1, Option.bind_some, Bool.and_false, Bool.false_and]
    rfl
  | true =>
    cases hk : inR k 0 ((b.Events.length : Int) - 1) with
    | false =>
      obtain ⟨t', e1, _⟩ := f69_eq b false h1 h2 h3
      simp only [if_true, e1, Option.bind_some, Bool.and_false, Bool.false_eq_true, if_false]
      rfl
    | true =>
      obtain ⟨t', e1, e2⟩ := f69_eq b true h1 h2 h3
      simp only [if_true, e1, Option.bind_some, Bool.and_self, Bool.and_true]
      cases hb : bookOk b with
      | false => rfl
      | true =>
        have ht := e2 hb
        cases ha : agreeB b with
        | false => rfl
        | true =>
          obtain ⟨_, he, _, _, _⟩ := book_parts hb
          rw [inR_iff] at hi hk
          have h70 := f70_eq t' (a := i.toNat) (c := k.toNat) (by omega) (by omega) (by rw [ht]; exact tab_small hb)
          rw [Int.toNat_of_nonneg hi.1, Int.toNat_of_nonneg hk.1, ht] at h70
          simp [h70]
end Go.Proofs.YtcaflmilfhhikaaDoor
