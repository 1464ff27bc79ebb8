/-
  TopGuarded, in plain Lean: what the best guards, the days and the money are.
-/
import Derived.Test.YtdgkjgljkgjjiaaGreatDoorBn
import Derived.Test.YtdgkjgljkgjjiaaGreatDoorPl
namespace Go.Proofs.YtdgkjgljkgjjiaaGreatDoor.Bn
open Go.RowKit
set_option linter.unusedVariables false
def price (s : TBaneSea) (y : Int) : Int := (s.Trips.map (·.Cost)).getD y.toNat 0
section
variable {s : TBaneSea} {I : Nat}
theorem price_at (hs : Sea s I) {y : Int} (h : 0 ≤ y ∧ y < (s.Trips.length : Int)) : ∃ t, ix s.Trips y = some t ∧ price s y = t.Cost ∧ 0 ≤ t.Cost ∧ t.Cost ≤ 1000000 := by
  have hlt : y.toNat < s.Trips.length := by omega
  have hg := List.getElem?_eq_getElem hlt
  have hq := hs.trip _ (List.getElem_mem hlt)
  refine ⟨s.Trips[y.toNat], by rw [ix_int h.1]; exact hg, ?_, by omega, by omega⟩
  unfold price
  rw [List.getD_eq_getElem?_getD, List.getElem?_map, hg]
  rfl
theorem plus_sum {p : Int → Int} : ∀ (l : List Int) (n : Int), 0 ≤ n → (∀ y ∈ l, 0 ≤ p y ∧ p y ≤ 1000000) → n + 1000000 * (l.length : Int) ≤ 1000000000000 → plus n (l.map p) = n + sumC p l
  | [], n, _, _, _ => by simp [plus, sumC]
  | y :: l, n, h0, h, hb => by
    have hy := h y (List.mem_cons_self)
    have e : plus n ((y :: l).map p) = plus (w64 (n + p y)) (l.map p) := rfl
    have hl : (((y :: l).length : Nat) : Int) = (l.length : Int) + 1 := by simp
    rw [hl] at hb
    have ew : w64 (n + p y) = n + p y := by unfold w64; rw [IntKind.wrap_i64]; omega
    rw [e, ew, plus_sum l (n + p y) (by omega) (fun z hz => h z (List.mem_cons_of_mem _ hz)) (by omega)]
    show _ = n + (p y + sumC p l)
    omega
theorem cost_sum (hs : Sea s I) {l : List Int} (h : incr l (s.Trips.length : Int) = true) : costT s l = sumC (price s) l := by
  have hn := hs.num
  have hl := incr_len h
  have hr := (incr_iff.1 h).1
  unfold costT costL
  rw [show (fun y : Int => (s.Trips.map (·.Cost)).getD y.toNat 0) = price s from rfl, plus_sum l 0 (by omega) (fun y hy => by obtain ⟨t, _, e, h1, h2⟩ := price_at hs (hr y hy); rw [e]; exact ⟨h1, h2⟩) (by omega)]
  omega
theorem price_nn (hs : Sea s I) {l : List Int} (h : incr l (s.Trips.length : Int) = true) : ∀ y ∈ l, 0 ≤ price s y := fun y hy => by
  obtain ⟨t, _, e, h1, h2⟩ := price_at hs ((incr_iff.1 h).1 y hy)
  rw [e]; exact h1
/-- without one of the best guards the islets are not kept -/
theorem best_open (hs : Sea s I) {b : List Int} (hb : bestS s = some b) {x : Int} (hx : x ∈ b) : keptL s (b.filter fun y => y != x) = false := by
  have h := bestS_spec s
  rw [hb] at h
  have hi : incr b (s.Trips.length : Int) = true := h.1.1
  refine best_less h hx ?_
  rw [cost_sum hs hi, cost_sum hs (less_incr hi)]
  exact sumC_filter (price_nn hs hi)
theorem days_kept (hs : Sea s I) {op : Nat → Bool} {R : List Int} (hl : R.length = I) (h : ∀ x, x < I → Right (-1) s op (x : Int) (R.getD x 0)) (hk : keptB s op = true) {j : Nat} {x : Int} (hj : s.Clean[j]? = some x) : ix R x = some (-1) := by
  have h1 := kept_all hs h (fun v => v == -1) (fun v => by rw [beq_iff_eq]) (by omega)
  rw [hk] at h1
  have h2 := (allI_iff _ _ _).1 h1 j x hj
  have hr := hs.cln x (List.mem_of_getElem? hj)
  rw [ix_int hr.1, getD_get 0 (show x.toNat < R.length by omega), beq_iff_eq.1 h2]
theorem days_open (hs : Sea s I) {op : Nat → Bool} {R : List Int} (hl : R.length = I) (h : ∀ x, x < I → Right (-1) s op (x : Int) (R.getD x 0)) (hk : keptB s op = false) : ¬ ∀ (j : Nat) x, s.Clean[j]? = some x → ix R x = some (-1) := fun hall => by
  have h1 := kept_all hs h (fun v => v == -1) (fun v => by rw [beq_iff_eq]) (by omega)
  rw [hk] at h1
  have h2 : allI (fun _ x => (R.getD x.toNat 0 == -1)) 0 s.Clean = true := (allI_iff _ _ _).2 fun j x hj => by
    have hr := hs.cln x (List.mem_of_getElem? hj)
    have := hall j x hj
    rw [ix_int hr.1, getD_get 0 (show x.toNat < R.length by omega)] at this
    rw [beq_iff_eq]
    exact Option.some.inj this
  rw [h1] at h2
  cases h2
theorem ix_days (hs : Sea s I) {R : List Int} (hl : R.length = I) {j : Nat} {x : Int} (hj : s.Clean[j]? = some x) : ∃ v, ix R x = some v := by
  have hr := hs.cln x (List.mem_of_getElem? hj)
  exact ⟨_, by rw [ix_int hr.1]; exact getD_get 0 (show x.toNat < R.length by omega)⟩
theorem kept_more {l : List Int} {c : List Bool} (h : keptB s (opB l) = true) : keptB s (opOf l c) = true := by
  rw [keptB_iff] at h ⊢
  exact fun x hx d hd => h x hx d (hd.mono (fun _ _ h => h) rfl (Int.le_refl _) fun i _ ho => by
    unfold opOf at ho
    unfold opB
    simp only [Bool.and_eq_true] at ho
    exact ho.1)
end
theorem less_at {l : List Int} (h : l.Pairwise (· < ·)) {k : Nat} {y : Int} (hy : l[k]? = some y) : l = l.take k ++ y :: l.drop (k + 1) ∧ y ∉ l.take k ∧ y ∉ l.drop (k + 1) ∧ l.take k ++ l.drop (k + 1) = l.filter fun z => z != y := by
  obtain ⟨hk, e⟩ := List.getElem?_eq_some_iff.1 hy
  have e1 : l = l.take k ++ y :: l.drop (k + 1) := by
    rw [← e, ← List.drop_eq_getElem_cons hk, List.take_append_drop]
  have h' := h
  rw [e1, List.pairwise_append, List.pairwise_cons] at h'
  obtain ⟨h1, ⟨h2, h3⟩, h4⟩ := h'
  have n1 : y ∉ l.take k := fun hm => by have := h4 y hm y (List.mem_cons_self); omega
  have n2 : y ∉ l.drop (k + 1) := fun hm => by have := h2 y hm; omega
  refine ⟨e1, n1, n2, ?_⟩
  conv => rhs; rw [e1]
  rw [List.filter_append, List.filter_cons_of_neg (by simp)]
  rw [List.filter_eq_self.2 fun z hz => by simp only [bne_iff_ne, ne_eq]; intro e; exact n1 (e ▸ hz), List.filter_eq_self.2 fun z hz => by simp only [bne_iff_ne, ne_eq]; intro e; exact n2 (e ▸ hz)]
theorem has_not {l : List Int} {y : Int} (h : y ∉ l) (hl : l.length ≤ 1000) : f33 l y = some false := by
  rw [f33_eq l y (by omega)]
  congr 1
  rw [← Bool.not_eq_true, List.contains_iff_mem]
  exact h
theorem has_it {l : List Int} {y : Int} (h : y ∈ l) (hl : l.length ≤ 1000) : f33 l y = some true := by
  rw [f33_eq l y (by omega), List.contains_iff_mem.2 h]
theorem grown {l : List Int} (h : l.Pairwise (· < ·)) {k : Nat} {y : Int} (hy : l[k]? = some y) : l.take (k + 1) = l.take k ++ [y] ∧ (l.take k ++ [y]).Pairwise (· < ·) := by
  obtain ⟨hk, e⟩ := List.getElem?_eq_some_iff.1 hy
  have e1 : l.take (k + 1) = l.take k ++ [y] := by rw [List.take_succ_eq_append_getElem hk, e]
  exact ⟨e1, e1 ▸ h.sublist (List.take_sublist _ _)⟩
end Go.Proofs.YtdgkjgljkgjjiaaGreatDoor.Bn
