/-
  Ship's passes: hours, the first call from some hour on.
-/
import Derived.Test.YtajejmbnmphngaaS1
namespace Go.Proofs.Ytajejmbnmphngaa
open Go.RowKit
set_option linter.unusedSimpArgs false

theorem app_short {α : Type} (xs ys : List α) (h : xs.length + ys.length ≤ 1073741824) : app xs ys = some (xs ++ ys) := by simp [app, h]
/-- The hours of a day, of the first n, in which a ship can go through. -/
def hoursTo (p : TShipPass) (d sw : Int) (n : Nat) : List Int := ((List.range n).filter fun h => goes p ⟨d, (h : Nat)⟩ sw).map fun (h : Nat) => (h : Int)
abbrev hoursL (p : TShipPass) (d sw : Int) : List Int := hoursTo p d sw 24
theorem hoursTo_succ (p : TShipPass) (d sw : Int) (n : Nat) : hoursTo p d sw (n + 1) = if goes p ⟨d, (n : Nat)⟩ sw = true then hoursTo p d sw n ++ [(n : Int)] else hoursTo p d sw n := by
  unfold hoursTo
  rw [List.range_succ, List.filter_append, List.map_append]
  by_cases h : goes p ⟨d, (n : Nat)⟩ sw = true <;> simp [h]
theorem hoursTo_len (p : TShipPass) (d sw : Int) (n : Nat) : (hoursTo p d sw n).length ≤ n := by
  unfold hoursTo
  rw [List.length_map]
  exact Nat.le_trans (List.length_filter_le _ _) (by simp)
theorem mem_hours {p : TShipPass} {d sw h : Int} : h ∈ hoursL p d sw ↔ 0 ≤ h ∧ h ≤ 23 ∧ goes p ⟨d, h⟩ sw = true := by
  unfold hoursL hoursTo
  simp only [List.mem_map, List.mem_filter, List.mem_range]
  constructor
  · rintro ⟨k, ⟨h1, h2⟩, rfl⟩; exact ⟨by omega, by omega, h2⟩
  · rintro ⟨h1, h2, h3⟩
    refine ⟨h.toNat, ⟨by omega, ?_⟩, by omega⟩
    have : ((h.toNat : Nat) : Int) = h := by omega
    rw [this]; exact h3
theorem range_get {n k y : Nat} (h : (List.range n)[k]? = some y) : k < n ∧ y = k := by
  have h1 := get_lt h
  rw [List.length_range] at h1
  refine ⟨h1, ?_⟩
  rw [List.getElem?_range h1] at h
  exact (Option.some.inj h).symm
theorem callOk_mk {p : TShipPass} {d : Int} (hd : dayOk p d = true) {k : Nat} (hk : k < 24) : callOk p ⟨d, (k : Nat)⟩ = true := by
  unfold callOk
  rw [Bool.and_eq_true, inR_iff]
  exact ⟨hd, by simp only; omega, by simp only; omega⟩
theorem f45_eq (p : TShipPass) (d : Int) (hs : passShort p) : f45 p d = some (if (passOk p && dayOk p d) = true then (hoursL p d (swAt p d).High, hoursL p d (swAt p d).Low, 0) else ([], [], 2)) := by
  unfold f45
  rw [f60_eq p hs, wrap_pred (by have := hs.2; omega), f62_eq, inR_pred]
  have hdd : (decide (0 ≤ d) && decide (d < (p.Swell.length : Int))) = dayOk p d := rfl
  rw [hdd]
  cases hp : passOk p with
  | false => rfl
  | true =>
    cases hd : dayOk p d with
    | false => rfl
    | true =>
      have hP := passOk_iff hp
      obtain ⟨s1, s2⟩ := sw_ix hP hd
      have h := lp_thru (body := f45_b0 p d) (List.range 24) (hoursL p d (swAt p d).High, hoursL p d (swAt p d).Low) (fun k => (hoursTo p d (swAt p d).High k, hoursTo p d (swAt p d).Low k, (k : Int))) (fun k y hy => by
        obtain ⟨hk, rfl⟩ := range_get hy
        have l1 := hoursTo_len p d (swAt p d).High y
        have l2 := hoursTo_len p d (swAt p d).Low y
        have hc := callOk_mk hd hk
        unfold f45_b0
        rw [if_pos (by simp only [decide_eq_true_eq]; omega)]
        simp only [f80_eq hP hc, f81_eq hP hc (sw := (swAt p d).Low) (by omega), s1, Option.bind_some, app_short _ [(y : Int)] (show (hoursTo p d (swAt p d).High y).length + 1 ≤ 1073741824 by omega), app_short _ [(y : Int)] (show (hoursTo p d (swAt p d).Low y).length + 1 ≤ 1073741824 by omega), hoursTo_succ, wrap_nat (show y < 24 from hk) (by decide)]
        have e : sureC p ⟨d, (y : Nat)⟩ = goes p ⟨d, (y : Nat)⟩ (swAt p d).High := rfl
        rw [e]
        cases goes p ⟨d, (y : Nat)⟩ (swAt p d).High <;> cases goes p ⟨d, (y : Nat)⟩ (swAt p d).Low <;> simp) (by
        unfold f45_b0
        simp)
      rw [show ([], [], 0) = (fun k => (hoursTo p d (swAt p d).High k, hoursTo p d (swAt p d).Low k, (k : Int))) 0 from rfl]
      simp only [Bool.not_true, Bool.false_eq_true, if_false, Option.bind_some, Bool.and_true, if_true]
      rw [h]; rfl
theorem f49_eq (p : TShipPass) (d : Int) (b : Bool) (hp : passOk p = true) (hd : dayOk p d = true) : f49 p d b = some (hoursL p d (if b = true then (swAt p d).High else (swAt p d).Low)) := by
  have hP := passOk_iff hp
  obtain ⟨s1, s2⟩ := sw_ix hP hd
  have h := lp_thru (body := f49_b0 p d b) (List.range 24) (hoursL p d (if b = true then (swAt p d).High else (swAt p d).Low)) (fun k => (hoursTo p d (if b = true then (swAt p d).High else (swAt p d).Low) k, (k : Int))) (fun k y hy => by
    obtain ⟨hk, rfl⟩ := range_get hy
    have l1 := hoursTo_len p d (if b = true then (swAt p d).High else (swAt p d).Low) y
    have hc := callOk_mk hd hk
    unfold f49_b0
    rw [if_pos (by simp only [decide_eq_true_eq]; omega)]
    have e : ((if b = true then (some (swAt p d).High) else (some (swAt p d).Low) : Option Int)) = some (if b = true then (swAt p d).High else (swAt p d).Low) := by cases b <;> rfl
    simp only [s1, Option.bind_some, e, f83_eq hP hc (sw := if b = true then (swAt p d).High else (swAt p d).Low) (by split <;> omega), app_short _ [(y : Int)] (show (hoursTo p d (if b = true then (swAt p d).High else (swAt p d).Low) y).length + 1 ≤ 1073741824 by omega), hoursTo_succ, wrap_nat (show y < 24 from hk) (by decide)]
    cases goes p ⟨d, (y : Nat)⟩ (if b = true then (swAt p d).High else (swAt p d).Low) <;> simp) (by
    unfold f49_b0
    simp)
  unfold f49
  rw [show ([], 0) = (fun k => (hoursTo p d (if b = true then (swAt p d).High else (swAt p d).Low) k, (k : Int))) 0 from rfl, h]; rfl
/-! ### Lists -/
theorem f46_eq (l : List Int) (x : Int) (hl : l.length ≤ 1073741824) : f46 l x = some (l.contains x) := by
  unfold f46
  rw [all_lp l (fun y => !(y == x)) (.inr true) (.inl ()) hl (fun k y hy => by
    unfold f46_b0
    rw [if_pos (by simpa using get_lt hy), ix_nat, hy]
    by_cases h : y = x <;> simp [h]) (by unfold f46_b0; simp)]
  have e : l.contains x = !l.all fun y => !(y == x) := by
    induction l with
    | nil => rfl
    | cons a l ih =>
      rw [List.contains_cons, ih (by simp at hl; omega), List.all_cons]
      by_cases h : a = x
      · simp [h]
      · have h' : ¬ x = a := fun e => h e.symm
        have e1 : (x == a) = false := by simpa using h'
        have e2 : (a == x) = false := by simpa using h
        simp [e1, e2]
  rw [e]
  cases l.all fun y => !(y == x) <;> rfl
theorem f39_eq (a b : List Int) (ha : a.length ≤ 1073741824) : f39 a b = some (decide (a = b)) := by
  unfold f39
  by_cases hl : a.length = b.length
  · have e0 : ((a.length : Int) != (b.length : Int)) = false := by simp [hl]
    rw [e0]
    have h := lp_all (body := f39_b0 a b) a (fun k y => y == b.getD k 0) (Sum.inr false) (Sum.inl ()) (fun k => (k : Int)) (fun k y hy => by
      have hk := get_lt hy
      have hb : b[k]? = some (b.getD k 0) := by
        rw [List.getD_eq_getElem?_getD, List.getElem?_eq_getElem (by omega)]; rfl
      unfold f39_b0
      rw [if_pos (by simpa using hk), ix_nat, ix_nat, hy, hb, wrap_nat hk ha]
      simp only [Option.bind_some]
      by_cases h : y = b.getD k 0
      · simp [h]
      · have e1 : (y == b.getD k 0) = false := by simpa using h
        have e2 : (y != b.getD k 0) = true := by simpa using h
        rw [e1, e2]; rfl) (by unfold f39_b0; simp)
    rw [show (0 : Int) = ((0 : Nat) : Int) from rfl, h]
    have e : allI (fun k y => y == b.getD k 0) 0 a = decide (a = b) := by
      rw [Bool.eq_iff_iff, allI_iff, decide_eq_true_eq]
      constructor
      · intro h
        refine List.ext_getElem hl fun i h1 h2 => ?_
        have := h i a[i] (List.getElem?_eq_getElem h1)
        rw [Nat.zero_add, beq_iff_eq, List.getD_eq_getElem?_getD, List.getElem?_eq_getElem h2] at this
        exact this
      · rintro rfl j y hy
        rw [Nat.zero_add, beq_iff_eq, List.getD_eq_getElem?_getD, hy]; rfl
    rw [e]
    by_cases h : a = b <;> simp [h]
  · have e0 : ((a.length : Int) != (b.length : Int)) = true := by simp; omega
    rw [if_pos e0]
    have : a ≠ b := fun h => hl (by rw [h])
    simp [this]
/-! ### All calls, by their numbers -/
def cAt (i : Nat) : TShipCall := ⟨((i / 24 : Nat) : Int), ((i % 24 : Nat) : Int)⟩
def pos (c : TShipCall) : Nat := c.Day.toNat * 24 + c.Hour.toNat
theorem cAt_pos {p : TShipPass} {c : TShipCall} (h : callOk p c = true) : cAt (pos c) = c ∧ pos c < 24 * p.Swell.length := by
  unfold callOk at h
  rw [Bool.and_eq_true, dayOk_iff, inR_iff] at h
  obtain ⟨d, hr⟩ := c
  simp only at h
  unfold cAt pos
  simp only
  refine ⟨?_, by omega⟩
  congr 1 <;> omega
theorem callOk_at {p : TShipPass} {i : Nat} (h : i < 24 * p.Swell.length) : callOk p (cAt i) = true := by
  unfold callOk cAt
  rw [Bool.and_eq_true, dayOk_iff, inR_iff]
  simp only
  omega
theorem next_at {i : Nat} (h : i < 1073741824) : nextC (cAt i) = cAt (i + 1) := by
  unfold nextC cAt
  simp only
  rw [wrap_id (x := ((i % 24 : Nat) : Int) + 1) (by omega) (by omega), wrap_id (x := ((i / 24 : Nat) : Int) + 1) (by omega) (by omega)]
  by_cases h24 : i % 24 = 23
  · have e : (((i % 24 : Nat) : Int) + 1 == 24) = true := by rw [beq_iff_eq]; omega
    rw [if_pos e]
    congr 1 <;> omega
  · have e : ¬ (((i % 24 : Nat) : Int) + 1 == 24) = true := by rw [beq_iff_eq]; omega
    rw [if_neg e]
    congr 1 <;> omega
/-- The calls from number i on in which a ship surely can go through. -/
def sureFrom (p : TShipPass) (i : Nat) : List TShipCall := ((List.range' i (24 * p.Swell.length - i)).map cAt).filter (sureC p)
theorem callsF_eq {p : TShipPass} (hp : PassOk p) : ∀ (m i k : Nat), i + m = 24 * p.Swell.length → m < k → callsF (f80 p) p.Swell.length k (cAt i) = some (((List.range' i m).map cAt).filter (sureC p))
  | _, _, 0, _, h => by omega
  | 0, i, k + 1, hi, _ => by
    unfold callsF
    have : ¬ (cAt i).Day < (p.Swell.length : Int) := by unfold cAt; simp only; omega
    rw [if_neg this]; rfl
  | m + 1, i, k + 1, hi, hk => by
    unfold callsF
    have h1 : (cAt i).Day < (p.Swell.length : Int) := by unfold cAt; simp only; omega
    have h2 := hp.ns
    rw [if_pos h1, f80_eq hp (callOk_at (by omega)), next_at (by omega), Option.bind_some, callsF_eq hp m (i + 1) k (by omega) (by omega), List.range'_succ, List.map_cons, List.filter_cons]
    rfl
theorem callsL_eq {p : TShipPass} (hp : PassOk p) {c : TShipCall} (hc : callOk p c = true) : callsL (f80 p) p.Swell.length c = some (sureFrom p (pos c)) := by
  obtain ⟨h1, h2⟩ := cAt_pos hc
  unfold callsL
  have := callsF_eq hp (24 * p.Swell.length - pos c) (pos c) (24 * p.Swell.length + 1) (by omega) (by omega)
  rw [h1] at this
  exact this
/-- The first call from some call on. -/
def firstC (p : TShipPass) (c : TShipCall) : Option TShipCall := (sureFrom p (pos c)).head?
def nextR (p : TShipPass) (c : TShipCall) : TShipCall × Int := match firstC p c with
  | none => (⟨0, 0⟩, 5)
  | some x => (x, 0)
theorem f48_eq (p : TShipPass) (c : TShipCall) (hs : passShort p) : f48 p c = some (if (passOk p && callOk p c) = true then nextR p c else (⟨0, 0⟩, 2)) := by
  unfold f48
  rw [f60_eq p hs, f82_eq p c hs]
  cases hp : passOk p with
  | false => rfl
  | true =>
    cases hc : callOk p c with
    | false => rfl
    | true =>
      simp only [Bool.not_true, Bool.false_eq_true, if_false, Option.bind_some, Bool.and_true, if_true, callsL_eq (passOk_iff hp) hc]
      unfold nextR firstC
      cases sureFrom p (pos c) with
      | nil => rfl
      | cons x l => rfl
/-! ### The document's way -/
def firstStep {β τ ρ : Type} (o : Option β) (h : β → ρ) (t : τ) : Option (τ ⊕ ρ) := match o with
  | some r => some (.inr (h r))
  | none => some (.inl t)
def outOf {β ρ : Type} (o : Option β) (h : β → ρ) (r0 : ρ) : ρ := match o with
  | some r => h r
  | none => r0
theorem goL_first {α β τ ρ : Type} (g : α → Option β) (h : β → ρ) (fin : τ → ρ) : ∀ (ys : List α) (k : Nat) (t : τ), goL (fun _ y t => firstStep (g y) h t) fin k ys t = some (outOf (ys.findSome? g) h (fin t))
  | [], _, _ => rfl
  | y :: ys, k, t => by
    have ih := goL_first g h fin ys (k + 1) t
    simp only [goL]
    cases hg : g y with
    | none => simp only [List.findSome?_cons, hg, firstStep]; exact ih
    | some r => simp only [List.findSome?_cons, hg, firstStep, outOf]
theorem find_congr {α : Type} {p q : α → Bool} : ∀ {l : List α}, (∀ x ∈ l, p x = q x) → l.find? p = l.find? q
  | [], _ => rfl
  | a :: l, h => by
    simp only [List.find?_cons]
    rw [h a (by simp), find_congr fun x hx => h x (by simp [hx])]
def condC (p : TShipPass) (c x : TShipCall) : Bool := (decide (c.Day < x.Day) || decide (c.Hour ≤ x.Hour)) && sureC p x
theorem findSome_if {α : Type} (q : α → Bool) : ∀ (l : List α), l.findSome? (fun y => if q y = true then some y else none) = l.find? q
  | [] => rfl
  | a :: l => by
    simp only [List.findSome?_cons, List.find?_cons]
    cases h : q a with
    | true => simp
    | false => simpa using findSome_if q l
theorem day_calls (d : Nat) : (List.range 24).map (fun h : Nat => (⟨(d : Int), (h : Int)⟩ : TShipCall)) = (List.range' (24 * d) 24).map cAt := by
  rw [List.range'_eq_map_range, List.map_map]
  refine List.map_congr_left fun h hh => ?_
  rw [List.mem_range] at hh
  unfold cAt
  simp only [Function.comp]
  congr 1 <;> omega
theorem find_map {α β : Type} (f : α → β) (q : β → Bool) : ∀ l : List α, (l.map f).find? q = (l.find? (fun a => q (f a))).map f
  | [] => rfl
  | a :: l => by
    simp only [List.map_cons, List.find?_cons]
    cases q (f a) with
    | true => rfl
    | false => simpa using find_map f q l
theorem f51_b1_eq {p : TShipPass} (hp : PassOk p) (c : TShipCall) {d : Nat} (hd : d < p.Swell.length) (t : TShipCall) :
    lp (f51_b1 ((d : Int), t) p c) (0, t) = some (outOf (((List.range' (24 * d) 24).map cAt).find? (condC p c)) (fun x => .inr (x, true)) (.inl t)) := by
  have h := lp_goL (body := f51_b1 ((d : Int), t) p c) (fun k (t : TShipCall) => ((k : Int), t)) (List.range 24)
    (fun _ y t => firstStep (if condC p c ⟨(d : Int), (y : Nat)⟩ = true then some (⟨(d : Int), (y : Nat)⟩ : TShipCall) else none) (fun r => Sum.inr (r, true)) t) (fun t => Sum.inl t) (fun k t y hy => by
    obtain ⟨hk, rfl⟩ := range_get hy
    have hc : callOk p ⟨(d : Int), (y : Nat)⟩ = true := callOk_mk (dayOk_iff.2 ⟨by omega, by omega⟩) hk
    unfold f51_b1
    rw [if_pos (by simp only [decide_eq_true_eq]; omega)]
    simp only [f84_eq hp hc, Option.bind_some, wrap_nat (show y < 24 from hk) (by decide)]
    unfold condC
    by_cases h1 : c.Day < (d : Int)
    · simp only [h1, decide_true, if_true, Bool.true_or, Bool.true_and]
      cases sureC p ⟨(d : Int), (y : Nat)⟩ <;> rfl
    · simp only [h1, decide_false, Bool.false_eq_true, if_false, Bool.false_or]
      by_cases h2 : c.Hour ≤ (y : Int)
      · simp only [h2, decide_true, if_true, Bool.true_and]
        cases sureC p ⟨(d : Int), (y : Nat)⟩ <;> rfl
      · simp only [h2, decide_false, Bool.false_eq_true, if_false, Bool.false_and]; rfl) (fun t => by unfold f51_b1; simp) t
  rw [show ((0 : Int), t) = (((0 : Nat) : Int), t) from rfl, h, goL_first (fun y : Nat => if condC p c ⟨(d : Int), (y : Nat)⟩ = true then some (⟨(d : Int), (y : Nat)⟩ : TShipCall) else none) (fun r => Sum.inr (r, true)) (fun t => Sum.inl t)]
  have e : (List.range 24).findSome? (fun y : Nat => if condC p c ⟨(d : Int), (y : Nat)⟩ = true then some (⟨(d : Int), (y : Nat)⟩ : TShipCall) else none) = ((List.range' (24 * d) 24).map cAt).find? (condC p c) := by
    rw [← day_calls, ← findSome_if, List.findSome?_map]; rfl
  rw [e]
theorem days_find (q : TShipCall → Bool) : ∀ (m d : Nat), (List.range' d m).findSome? (fun d => ((List.range' (24 * d) 24).map cAt).find? q) = ((List.range' (24 * d) (24 * m)).map cAt).find? q
  | 0, _ => rfl
  | m + 1, d => by
    have e : List.range' (24 * d) (24 * (m + 1)) = List.range' (24 * d) 24 ++ List.range' (24 * (d + 1)) (24 * m) := by
      have := @List.range'_append (24 * d) 24 (24 * m) 1
      rw [show 24 * d + 1 * 24 = 24 * (d + 1) by omega] at this
      rw [show 24 * (m + 1) = 24 + 24 * m by omega, ← this]
    rw [e, List.map_append, List.find?_append, List.range'_succ, List.findSome?_cons, days_find q m (d + 1)]
    cases ((List.range' (24 * d) 24).map cAt).find? q <;> rfl
theorem f51_eq {p : TShipPass} (hp : PassOk p) {c : TShipCall} (hc : callOk p c = true) : f51 p c = some (match firstC p c with | some x => (x, true) | none => (⟨0, 0⟩, false)) := by
  have hc0 := hc
  unfold callOk at hc
  rw [Bool.and_eq_true, dayOk_iff, inR_iff] at hc
  have hns := hp.ns
  obtain ⟨d0, hd0⟩ : ∃ d0 : Nat, c.Day = (d0 : Int) := ⟨c.Day.toNat, by omega⟩
  obtain ⟨h0, hh0⟩ : ∃ h0 : Nat, c.Hour = (h0 : Int) := ⟨c.Hour.toNat, by omega⟩
  have hpos : pos c = 24 * d0 + h0 := by unfold pos; rw [hd0, hh0]; omega
  have h := lp_goL (body := f51_b0 p c) (fun k (t : TShipCall) => (((d0 + k : Nat) : Int), t)) (List.range' d0 (p.Swell.length - d0))
    (fun _ y t => firstStep (((List.range' (24 * y) 24).map cAt).find? (condC p c)) (fun r => Sum.inr (r, true)) t) (fun t => Sum.inl t) (fun k t y hy => by
    have hk := get_lt hy
    rw [List.length_range'] at hk
    rw [List.getElem?_range' hk] at hy
    have hy := Option.some.inj hy
    rw [Nat.one_mul] at hy
    subst hy
    unfold f51_b0
    rw [if_pos (by simp only [decide_eq_true_eq]; omega), f51_b1_eq hp c (by omega), Option.bind_some, wrap_nat (show d0 + k < p.Swell.length by omega) (by omega)]
    cases ((List.range' (24 * (d0 + k)) 24).map cAt).find? (condC p c) <;> rfl) (fun t => by
    unfold f51_b0
    rw [if_neg (by rw [List.length_range']; simp only [decide_eq_true_eq]; omega)]) ⟨0, 0⟩
  unfold f51
  rw [hd0, show ((d0 : Int), (⟨0, 0⟩ : TShipCall)) = (((d0 + 0 : Nat) : Int), ⟨0, 0⟩) from rfl, h,
    goL_first (fun y : Nat => ((List.range' (24 * y) 24).map cAt).find? (condC p c)) (fun r => Sum.inr (r, true)) (fun t => Sum.inl t), days_find]
  have e : ((List.range' (24 * d0) (24 * (p.Swell.length - d0))).map cAt).find? (condC p c) = firstC p c := by
    unfold firstC sureFrom
    rw [List.head?_filter, hpos]
    have hsplit := @List.range'_append (24 * d0) h0 (24 * p.Swell.length - (24 * d0 + h0)) 1
    rw [show 24 * d0 + 1 * h0 = 24 * d0 + h0 by omega, show h0 + (24 * p.Swell.length - (24 * d0 + h0)) = 24 * (p.Swell.length - d0) by omega] at hsplit
    rw [← hsplit, List.map_append, List.find?_append]
    have n1 : ((List.range' (24 * d0) h0).map cAt).find? (condC p c) = none := by
      rw [List.find?_eq_none]
      intro x hx
      obtain ⟨i, hi, rfl⟩ := List.mem_map.1 hx
      rw [List.mem_range'_1] at hi
      unfold condC cAt
      simp only [Bool.and_eq_true, Bool.or_eq_true, decide_eq_true_eq]
      omega
    rw [n1, Option.none_or]
    refine find_congr fun x hx => ?_
    obtain ⟨i, hi, rfl⟩ := List.mem_map.1 hx
    rw [List.mem_range'_1] at hi
    unfold condC
    have e : (decide (c.Day < (cAt i).Day) || decide (c.Hour ≤ (cAt i).Hour)) = true := by
      unfold cAt
      simp only [Bool.or_eq_true, decide_eq_true_eq]
      omega
    rw [e, Bool.true_and]
  rw [e]
  cases firstC p c <;> rfl
end Go.Proofs.Ytajejmbnmphngaa
