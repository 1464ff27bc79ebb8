/-
  Ship's truths, and how a kind is kept: the program's way and the document's.
-/
import Derived.Test.YtajejmbnmphngaaS4
namespace Go.Proofs.Ytajejmbnmphngaa
open Go.RowKit
set_option linter.unusedSimpArgs false
set_option linter.unusedVariables false

def goodAt (s : TShipStore) (i k : Nat) : TSpan := (((s.Lots[i]?).map (·.Goods)).getD []).getD k ⟨0, 0⟩
def useT (s : TShipStore) (k : Nat) (y : Int) : Bool := inR y (s.Use.getD k ⟨0, 0⟩).Low (s.Use.getD k ⟨0, 0⟩).High
def rowT (s : TShipStore) (i : Nat) (row : List Int) : Bool := decide (row.length = s.Stock.length) && allI (fun k y => inR y (goodAt s i k).Low (goodAt s i k).High) 0 row
def truthOk (s : TShipStore) (days : Int) (t : TShipTruth) : Bool := decide (t.Uses.length = s.Stock.length) && (decide (t.Goods.length = s.Lots.length) && (decide (t.Gaps.length ≤ 300) && (allI (useT s) 0 t.Uses && (allI (rowT s) 0 t.Goods && (t.Gaps.all (fun g => inR g s.Gap.Low s.Gap.High) && decide (days ≤ t.Gaps.sum))))))
theorem use_get {s : TShipStore} (hs : StoreOk s) {k : Nat} (hk : k < s.Stock.length) : s.Use[k]? = some (s.Use.getD k ⟨0, 0⟩) := by
  rw [List.getD_eq_getElem?_getD, List.getElem?_eq_getElem (by have := hs.nu; omega)]; rfl
theorem good_get {s : TShipStore} (hs : StoreOk s) {i k : Nat} (hi : i < s.Lots.length) (hk : k < s.Stock.length) : ∃ l, s.Lots[i]? = some l ∧ l ∈ s.Lots ∧ l.Goods[k]? = some (goodAt s i k) ∧ goodAt s i k ∈ l.Goods := by
  have e := List.getElem?_eq_getElem hi
  have hm := List.getElem_mem hi
  have hg : (s.Lots[i]).Goods[k]? = some (goodAt s i k) := by
    unfold goodAt
    rw [e, Option.map_some, Option.getD_some, List.getD_eq_getElem?_getD, List.getElem?_eq_getElem (by have := hs.ng _ hm; omega)]; rfl
  exact ⟨_, e, hm, hg, List.mem_of_getElem? hg⟩
theorem f71_eq (s : TShipStore) (days : Int) (t : TShipTruth) (hs : StoreOk s) (ht : TruthShort t) : f71 s days t = some (truthOk s days t) := by
  unfold f71 truthOk
  rw [ne_int, ne_int, hs.nu, show decide ((300 : Int) < (t.Gaps.length : Int)) = !decide (t.Gaps.length ≤ 300) by rw [Bool.eq_iff_iff]; simp; omega]
  cases e1 : decide (t.Uses.length = s.Stock.length) with
  | false => rfl
  | true =>
    cases e3 : decide (t.Gaps.length ≤ 300) with
    | false => cases decide (t.Goods.length = s.Lots.length) <;> rfl
    | true =>
      cases e2 : decide (t.Goods.length = s.Lots.length) with
      | false => rfl
      | true =>
        simp only [decide_eq_true_eq] at e1 e2 e3
        have h1 : lp (f71_b0 s t) 0 = some (if allI (useT s) 0 t.Uses = true then .inl () else .inr false) := by
          refine lp_all t.Uses (useT s) _ _ (fun k => (k : Int)) (fun k y hy => ?_) (by unfold f71_b0; simp)
          have hk := get_lt hy
          have hns := hs.ns
          unfold f71_b0
          rw [if_pos (by simpa using hk), ix_nat, hy, Option.bind_some, ix_nat, use_get hs (by omega), Option.bind_some, wrap_nat hk (by omega)]
          simp only [f62_eq, Option.bind_some]
          unfold useT
          cases inR y (s.Use.getD k ⟨0, 0⟩).Low (s.Use.getD k ⟨0, 0⟩).High <;> simp
        have h3 : ∀ (i : Nat) (row : List Int), i < s.Lots.length → row.length = s.Stock.length → lp (f71_b2 (i : Int) s row) 0 = some (if allI (fun k y => inR y (goodAt s i k).Low (goodAt s i k).High) 0 row = true then .inl () else .inr false) := fun i row hi hr => by
          refine lp_all row _ _ _ (fun k => (k : Int)) (fun k y hy => ?_) (by unfold f71_b2; simp)
          have hk := get_lt hy
          have hns := hs.ns
          obtain ⟨l, g1, _, g2, _⟩ := good_get hs hi (k := k) (by omega)
          unfold f71_b2
          rw [if_pos (by simpa using hk), ix_nat, hy, Option.bind_some, ix_nat, g1, Option.bind_some, ix_nat, g2, Option.bind_some, wrap_nat hk (by omega)]
          simp only [f62_eq, Option.bind_some]
          cases inR y (goodAt s i k).Low (goodAt s i k).High <;> simp
        have h2 : lp (f71_b1 s t) 0 = some (if allI (rowT s) 0 t.Goods = true then .inl () else .inr false) := by
          refine lp_all t.Goods (rowT s) _ _ (fun k => (k : Int)) (fun k y hy => ?_) (by unfold f71_b1; simp)
          have hk := get_lt hy
          have h9 := ht.goods
          unfold f71_b1
          rw [if_pos (by simpa using hk), ix_nat, hy, Option.bind_some, ne_int, wrap_nat hk (by omega)]
          unfold rowT
          by_cases hr : y.length = s.Stock.length
          · rw [h3 k y (by omega) hr]
            simp only [hr, decide_true, Bool.not_true, Bool.false_eq_true, if_false, Option.bind_some, Bool.true_and]
            cases allI (fun k_1 y => inR y (goodAt s k k_1).Low (goodAt s k k_1).High) 0 y <;> simp
          · simp [hr]
        have e : (fun (z0 : Int) => f96 z0 s) = fun z => some (!inR z s.Gap.Low s.Gap.High) := by
          funext z; unfold f96; rw [f62_eq]; rfl
        rw [h1, h2, e, f85_eq _ _ (by omega), any_not]
        simp only [Bool.not_true, Bool.false_eq_true, if_false, Option.bind_some, Bool.true_and]
        cases allI (useT s) 0 t.Uses with
        | false => rfl
        | true =>
          cases allI (rowT s) 0 t.Goods with
          | false => rfl
          | true =>
            cases hg : t.Gaps.all (fun g => inR g s.Gap.Low s.Gap.High) with
            | false => rfl
            | true =>
              have hgap := hs.gap
              rw [f95_eq _ (fun x hx => by
                have := List.all_eq_true.1 hg x hx
                rw [inR_iff] at this
                omega) (by omega)]
              rfl
theorem goL_gaps (a b : Int) (ha : 0 ≤ a) (hb : b ≤ 60) : ∀ (ys : List Int) (k : Nat) (t : Int), 0 ≤ t → t + 60 * (ys.length : Int) ≤ 1000000000 →
    goL (fun _ y t => some (if inR y a b = true then Sum.inl (IntKind.i64.wrap (t + y)) else Sum.inr (Sum.inr false))) (fun t => (Sum.inl t : Int ⊕ Bool)) k ys t = some (if ys.all (fun g => inR g a b) = true then .inl (t + ys.sum) else .inr false)
  | [], _, t, _, _ => by simp [goL]
  | y :: ys, k, t, h0, h1 => by
    rw [List.length_cons] at h1
    by_cases hy : inR y a b = true
    · have hy' := inR_iff.1 hy
      have ih := goL_gaps a b ha hb ys (k + 1) (t + y) (by omega) (by omega)
      simp only [goL, List.all_cons, List.sum_cons, hy, if_true, Bool.true_and]
      rw [wrap_id (by omega) (by omega), ih, Int.add_assoc]
    · simp [goL, hy]
theorem f28_eq (s : TShipStore) (days : Int) (t : TShipTruth) (hs : StoreOk s) (ht : TruthShort t) : f28 s days t = some (truthOk s days t) := by
  unfold f28 truthOk
  rw [ne_int, ne_int, show decide ((300 : Int) < (t.Gaps.length : Int)) = !decide (t.Gaps.length ≤ 300) by rw [Bool.eq_iff_iff]; simp; omega]
  cases e1 : decide (t.Uses.length = s.Stock.length) with
  | false => rfl
  | true =>
    cases e2 : decide (t.Goods.length = s.Lots.length) with
    | false => rfl
    | true =>
      cases e3 : decide (t.Gaps.length ≤ 300) with
      | false => rfl
      | true =>
        simp only [decide_eq_true_eq] at e1 e2 e3
        have h1 : lp (f28_b0 s t) 0 = some (if allI (useT s) 0 t.Uses = true then .inl () else .inr false) := by
          refine lp_all t.Uses (useT s) _ _ (fun k => (k : Int)) (fun k y hy => ?_) (by unfold f28_b0; simp)
          have hk := get_lt hy
          have hns := hs.ns
          unfold f28_b0
          rw [if_pos (by simpa using hk), ix_nat, hy, Option.bind_some, ix_nat, use_get hs (by omega), Option.bind_some, wrap_nat hk (by omega)]
          simp only [f65_eq, Option.bind_some]
          unfold useT
          cases inR y (s.Use.getD k ⟨0, 0⟩).Low (s.Use.getD k ⟨0, 0⟩).High <;> simp
        have h3 : ∀ (i : Nat) (row : List Int), i < s.Lots.length → row.length = s.Stock.length → lp (f28_b2 (i : Int) s row) 0 = some (if allI (fun k y => inR y (goodAt s i k).Low (goodAt s i k).High) 0 row = true then .inl () else .inr false) := fun i row hi hr => by
          refine lp_all row _ _ _ (fun k => (k : Int)) (fun k y hy => ?_) (by unfold f28_b2; simp)
          have hk := get_lt hy
          have hns := hs.ns
          obtain ⟨l, g1, _, g2, _⟩ := good_get hs hi (k := k) (by omega)
          unfold f28_b2
          rw [if_pos (by simpa using hk), ix_nat, g1, Option.bind_some, ix_nat, g2, Option.bind_some, ix_nat, hy, Option.bind_some, wrap_nat hk (by omega)]
          simp only [f65_eq, Option.bind_some]
          cases inR y (goodAt s i k).Low (goodAt s i k).High <;> simp
        have h2 : lp (f28_b1 s t) 0 = some (if allI (rowT s) 0 t.Goods = true then .inl () else .inr false) := by
          refine lp_all t.Goods (rowT s) _ _ (fun k => (k : Int)) (fun k y hy => ?_) (by unfold f28_b1; simp)
          have hk := get_lt hy
          have h9 := ht.goods
          unfold f28_b1
          rw [if_pos (by simpa using hk), ix_nat, hy, Option.bind_some, ne_int, wrap_nat hk (by omega)]
          unfold rowT
          by_cases hr : y.length = s.Stock.length
          · rw [h3 k y (by omega) hr]
            simp only [hr, decide_true, Bool.not_true, Bool.false_eq_true, if_false, Option.bind_some, Bool.true_and]
            cases allI (fun k_1 y => inR y (goodAt s k k_1).Low (goodAt s k k_1).High) 0 y <;> simp
          · simp [hr]
        have hgap := hs.gap
        have h4 : lp (f28_b3 s t) (0, 0) = some (if t.Gaps.all (fun g => inR g s.Gap.Low s.Gap.High) = true then .inl t.Gaps.sum else .inr false) := by
          have h := lp_goL (body := f28_b3 s t) (fun k (x : Int) => (x, (k : Int))) t.Gaps (fun _ y t => some (if inR y s.Gap.Low s.Gap.High = true then Sum.inl (IntKind.i64.wrap (t + y)) else Sum.inr (Sum.inr false))) (fun t => (Sum.inl t : Int ⊕ Bool)) (fun k x y hy => by
            have hk := get_lt hy
            unfold f28_b3
            rw [if_pos (by simpa using hk), ix_nat, hy, Option.bind_some, wrap_nat hk (by omega)]
            simp only [f65_eq, Option.bind_some]
            cases inR y s.Gap.Low s.Gap.High <;> rfl) (fun x => by unfold f28_b3; simp) 0
          rw [show ((0 : Int), (0 : Int)) = ((0 : Int), ((0 : Nat) : Int)) from rfl, h, goL_gaps _ _ (by omega) (by omega) t.Gaps 0 0 (by decide) (by omega), Int.zero_add]
        rw [h1, h2, h4]
        simp only [Bool.not_true, Bool.false_eq_true, if_false, Option.bind_some, Bool.true_and]
        cases allI (useT s) 0 t.Uses with
        | false => rfl
        | true =>
          cases allI (rowT s) 0 t.Goods with
          | false => rfl
          | true =>
            cases t.Gaps.all (fun g => inR g s.Gap.Low s.Gap.High) <;> rfl
structure TruthOk (s : TShipStore) (days : Int) (t : TShipTruth) : Prop where
  nu : t.Uses.length = s.Stock.length
  ng : t.Goods.length = s.Lots.length
  na : t.Gaps.length ≤ 300
  uses : ∀ k y, t.Uses[k]? = some y → (s.Use.getD k ⟨0, 0⟩).Low ≤ y ∧ y ≤ (s.Use.getD k ⟨0, 0⟩).High
  nr : ∀ r ∈ t.Goods, r.length = s.Stock.length
  rows : ∀ i r, t.Goods[i]? = some r → ∀ k y, r[k]? = some y → (goodAt s i k).Low ≤ y ∧ y ≤ (goodAt s i k).High
  gaps : ∀ g ∈ t.Gaps, s.Gap.Low ≤ g ∧ g ≤ s.Gap.High
  sum : days ≤ t.Gaps.sum
theorem truthOk_iff {s : TShipStore} {days : Int} {t : TShipTruth} : truthOk s days t = true ↔ TruthOk s days t := by
  unfold truthOk useT rowT
  simp only [Bool.and_eq_true, decide_eq_true_eq, List.all_eq_true, inR_iff, allI_iff, Nat.zero_add]
  constructor
  · rintro ⟨h1, h2, h3, h4, h5, h6, h7⟩
    exact ⟨h1, h2, h3, h4, fun r hr => by
      obtain ⟨i, hi⟩ := List.getElem?_of_mem hr
      exact (h5 i r hi).1, fun i r hr k y hy => (h5 i r hr).2 k y hy, h6, h7⟩
  · rintro ⟨h1, h2, h3, h4, h5, h6, h7, h8⟩
    exact ⟨h1, h2, h3, h4, fun i r hr => ⟨h5 r (List.mem_of_getElem? hr), fun k y hy => h6 i r hr k y hy⟩, h7, h8⟩
/-! ### How a kind is kept -/
/-- Does a ship come on a day? -/
def cm (gaps : List Int) (d : Nat) : Bool := (List.range gaps.length).any fun i => (gaps.take (i + 1)).sum == (d : Int)
def gAt (t : TShipTruth) (k : Nat) (n : Int) : Int := (t.Goods.getD n.toNat []).getD k 0
def goodsL (t : TShipTruth) (load : List Int) (k : Nat) : Int := (load.map (gAt t k)).sum
/-- What there is after so many days, and the first day of want. -/
def kx (use g stock : Int) (c : Nat → Bool) : Nat → Int
  | 0 => stock
  | d + 1 => if kx use g stock c d + (if c d = true then g else 0) < use then 0 else kx use g stock c d + (if c d = true then g else 0) - use
def kw (use g stock : Int) (c : Nat → Bool) : Nat → Int
  | 0 => -1
  | d + 1 => if kx use g stock c d + (if c d = true then g else 0) < use ∧ kw use g stock c d < 0 then (d : Int) else kw use g stock c d
theorem kx_b {use g stock : Int} {c : Nat → Bool} (hu : 0 ≤ use) (hg : 0 ≤ g) (hst : 0 ≤ stock) : ∀ d : Nat, 0 ≤ kx use g stock c d ∧ kx use g stock c d ≤ stock + g * (d : Int)
  | 0 => by simp [kx, hst]
  | d + 1 => by
    obtain ⟨h1, h2⟩ := kx_b (c := c) hu hg hst d
    have e : g * ((d + 1 : Nat) : Int) = g * (d : Int) + g := by rw [Int.natCast_add, Int.mul_add]; simp
    have hgd : 0 ≤ g * (d : Int) := Int.mul_nonneg hg (by omega)
    obtain ⟨v, hv⟩ : ∃ v, v = if c d = true then g else 0 := ⟨_, rfl⟩
    have hvb : 0 ≤ v ∧ v ≤ g := by rw [hv]; split <;> omega
    simp only [kx]
    rw [← hv]
    split <;> omega
theorem cm_eq {gaps : List Int} (hg : ∀ g ∈ gaps, 0 ≤ g ∧ g ≤ 60) (hl : gaps.length ≤ 310) (t : TShipTruth) (ht : t.Gaps = gaps) (d : Nat) : f73 t (d : Int) = some (cm gaps d) := by
  subst ht
  have h := lp_all (body := f73_b0 t (d : Int)) t.Gaps (fun k y => !((t.Gaps.take (k + 1)).sum == (d : Int))) (Sum.inr true) (Sum.inl ()) (fun k => ((t.Gaps.take k).sum, (k : Int))) (fun k y hy => by
    have hk := get_lt hy
    have hb := sum_bound (l := t.Gaps.take k) (a := 0) (b := 60) (by decide) (by decide) fun x hx => hg x (List.mem_of_mem_take hx)
    have hlk : (t.Gaps.take k).length ≤ 310 := by rw [List.length_take]; omega
    have hy' := hg y (List.mem_of_getElem? hy)
    unfold f73_b0
    rw [if_pos (by simpa using hk), ix_nat, hy, Option.bind_some, wrap_nat hk (by omega), wrap_id (by omega) (by omega), ← sum_take hy]
    cases ((t.Gaps.take (k + 1)).sum == (d : Int)) <;> rfl) (by
    unfold f73_b0
    rw [if_neg (by simp)])
  unfold f73
  rw [show ((0 : Int), (0 : Int)) = (fun k : Nat => ((t.Gaps.take k).sum, (k : Int))) 0 from rfl, h]
  have e : allI (fun k _ => !((t.Gaps.take (k + 1)).sum == (d : Int))) 0 t.Gaps = !cm t.Gaps d := by
    rw [Bool.eq_iff_iff, allI_iff, Bool.not_eq_true', cm, List.any_eq_false]
    constructor
    · intro h i hi
      rw [List.mem_range] at hi
      have := h i _ (List.getElem?_eq_getElem hi)
      simpa using this
    · intro h j y hy
      have := h j (List.mem_range.2 (get_lt hy))
      simpa using this
  rw [e]
  cases cm t.Gaps d <;> rfl
theorem gAt_b {s : TShipStore} {days : Int} {t : TShipTruth} (hs : StoreOk s) (ht : TruthOk s days t) (k : Nat) (n : Int) : 0 ≤ gAt t k n ∧ gAt t k n ≤ 100000 := by
  unfold gAt
  cases h : t.Goods[n.toNat]? with
  | none => simp [h]
  | some r =>
    have hr := List.mem_of_getElem? h
    have e : t.Goods.getD n.toNat [] = r := by rw [List.getD_eq_getElem?_getD, h]; rfl
    rw [e]
    cases h2 : r[k]? with
    | none => rw [List.getD_eq_getElem?_getD, h2]; simp
    | some y =>
      have e2 : r.getD k 0 = y := by rw [List.getD_eq_getElem?_getD, h2]; rfl
      rw [e2]
      have h3 := ht.rows _ _ h k y h2
      have h4 := ht.nr r hr
      have hi := get_lt h
      have hk := get_lt h2
      obtain ⟨l, _, l2, _, l3⟩ := good_get hs (i := n.toNat) (k := k) (by have := ht.ng; omega) (by omega)
      have := hs.goods l l2 _ l3
      omega
theorem gAt_ix {s : TShipStore} {days : Int} {t : TShipTruth} (hs : StoreOk s) (ht : TruthOk s days t) {k : Nat} (hk : k < s.Stock.length) {n : Int} (h0 : 0 ≤ n) (h1 : n < (s.Lots.length : Int)) : ∃ r, ix t.Goods n = some r ∧ ix r (k : Int) = some (gAt t k n) := by
  have hlt : n.toNat < t.Goods.length := by have := ht.ng; omega
  have e := List.getElem?_eq_getElem hlt
  refine ⟨t.Goods[n.toNat], ?_, ?_⟩
  · unfold ix; rw [if_pos h0, e]
  · have hr := ht.nr _ (List.getElem_mem hlt)
    rw [ix_nat]
    unfold gAt
    have e2 : t.Goods.getD n.toNat [] = t.Goods[n.toNat] := by rw [List.getD_eq_getElem?_getD, e]; rfl
    rw [e2, List.getD_eq_getElem?_getD, List.getElem?_eq_getElem (by omega)]; rfl
theorem goodsL_b {s : TShipStore} {days : Int} {t : TShipTruth} (hs : StoreOk s) (ht : TruthOk s days t) (load : List Int) (k : Nat) : 0 ≤ goodsL t load k ∧ goodsL t load k ≤ 100000 * (load.length : Int) := sum_w hs load (gAt t k) 100000 (by decide) (gAt_b hs ht k)
theorem add_goods {s : TShipStore} {days : Int} {t : TShipTruth} (hs : StoreOk s) (ht : TruthOk s days t) {load : List Int} (hl : load.length ≤ 10) (hi : incr load (s.Lots.length : Int) = true) {k : Nat} (hk : k < s.Stock.length) {x : Int} (hx : 0 ≤ x ∧ x ≤ 1000000000)
    {body : Int × Int → Option ((Int × Int) ⊕ Int)} (h1 : ∀ (a : Int) (j : Nat) (y : Int) (g : Int) (r : List Int), load[j]? = some y → ix t.Goods y = some r → ix r (k : Int) = some g → body (a, (j : Int)) = some (.inl (IntKind.i64.wrap (a + g), IntKind.i64.wrap ((j : Int) + 1)))) (h2 : ∀ a, body (a, (load.length : Int)) = some (.inr a)) :
    lp body (x, 0) = some (x + goodsL t load k) := by
  have hin := (incr_iff.1 hi).1
  have h := lp_thru (body := body) load (x + goodsL t load k) (fun j => (x + ((load.take j).map (gAt t k)).sum, (j : Int))) (fun j y hy => by
    have hj := get_lt hy
    have hb := sum_w hs (load.take j) (gAt t k) 100000 (by decide) (gAt_b hs ht k)
    have hlk : (load.take j).length ≤ 10 := by rw [List.length_take]; omega
    have hyb := hin y (List.mem_of_getElem? hy)
    obtain ⟨r, g1, g2⟩ := gAt_ix hs ht hk hyb.1 hyb.2
    have hw := gAt_b hs ht k y
    rw [h1 _ j y _ r hy g1 g2, wrap_nat hj (by omega), List.take_add_one, hy, wrap_id (by omega) (by omega)]
    simp [Int.add_assoc]) (by
    rw [h2]
    simp [goodsL])
  rw [show (x, (0 : Int)) = (fun j : Nat => (x + ((load.take j).map (gAt t k)).sum, (j : Int))) 0 by simp, h]
/-- 'ref.Kept'. -/
theorem f29_eq {s : TShipStore} {t : TShipTruth} (hs : StoreOk s) {n : Nat} (ht : TruthOk s (n : Int) t) (hn : n ≤ 300) {load : List Int} (hl : load.length ≤ 10) (hi : incr load (s.Lots.length : Int) = true) {k : Nat} (hk : k < s.Stock.length) {r : Int} (hr : 0 ≤ r ∧ r ≤ 1001) :
    f29 s load (n : Int) t (k : Int) r = some (kw ((t.Uses.getD k 0 * r + 999) / 1000) (goodsL t load k) (s.Stock.getD k 0) (cm t.Gaps) n, kx ((t.Uses.getD k 0 * r + 999) / 1000) (goodsL t load k) (s.Stock.getD k 0) (cm t.Gaps) n) := by
  have hgap := hs.gap
  have hst : s.Stock[k]? = some (s.Stock.getD k 0) := by rw [List.getD_eq_getElem?_getD, List.getElem?_eq_getElem hk]; rfl
  have hus : t.Uses[k]? = some (t.Uses.getD k 0) := by rw [List.getD_eq_getElem?_getD, List.getElem?_eq_getElem (by have := ht.nu; omega)]; rfl
  have hsb := hs.stock _ (List.mem_of_getElem? hst)
  have hub := ht.uses k _ hus
  have hub2 := hs.use _ (List.mem_of_getElem? (use_get hs hk))
  obtain ⟨u, hu⟩ : ∃ u, u = t.Uses.getD k 0 := ⟨_, rfl⟩
  obtain ⟨st, hstd⟩ : ∃ st, st = s.Stock.getD k 0 := ⟨_, rfl⟩
  rw [← hu] at hus hub
  rw [← hstd] at hst hsb
  rw [← hu, ← hstd]
  have hur : 0 ≤ u * r ∧ u * r ≤ 1001000 := by
    have h1 : 0 ≤ u * r := Int.mul_nonneg (by omega) hr.1
    have h2 : u * r ≤ 1000 * r := Int.mul_le_mul_of_nonneg_right (by omega) hr.1
    omega
  have eU : IntKind.i64.wrap ((IntKind.i64.wrap ((IntKind.i64.wrap (u * r)) + 999)).tdiv 1000) = (u * r + 999) / 1000 := by
    rw [wrap_id (x := u * r) (by omega) (by omega), wrap_id (x := u * r + 999) (by omega) (by omega), Int.tdiv_eq_ediv_of_nonneg (by omega), wrap_id (by omega) (by omega)]
  obtain ⟨U, hU⟩ : ∃ U, U = (u * r + 999) / 1000 := ⟨_, rfl⟩
  rw [← hU] at eU ⊢
  have hU0 : 0 ≤ U ∧ U ≤ 2000 := by omega
  obtain ⟨g, hg⟩ : ∃ g, g = goodsL t load k := ⟨_, rfl⟩
  have hgb := goodsL_b hs ht load k
  rw [← hg] at hgb ⊢
  have hgn : g ≤ 1000000 := by omega
  have h := lp_thru (body := f29_b0 load (n : Int) t (k : Int) r u) (List.range n) (kx U g st (cm t.Gaps) n, kw U g st (cm t.Gaps) n) (fun d => (kx U g st (cm t.Gaps) d, kw U g st (cm t.Gaps) d, (d : Int))) (fun d y hy => by
    obtain ⟨hd, rfl⟩ := range_get hy
    obtain ⟨b1, b2⟩ := kx_b (c := cm t.Gaps) hU0.1 hgb.1 hsb.1 y
    have hgy : g * (y : Int) ≤ 1000000 * 300 := Int.le_trans (Int.mul_le_mul_of_nonneg_right hgn (by omega)) (by omega)
    unfold f29_b0
    rw [if_pos (by simp; omega)]
    simp only
    rw [cm_eq (fun x hx => by have := ht.gaps x hx; omega) (by have := ht.na; omega) t rfl y, Option.bind_some, wrap_nat hd (by omega), eU]
    have e1 : ((if cm t.Gaps y = true then ((lp (f29_b1 load t (k : Int)) (kx U g st (cm t.Gaps) y, 0)).bind fun q31 => some q31) else (some (kx U g st (cm t.Gaps) y)) : Option Int)) = some (kx U g st (cm t.Gaps) y + (if cm t.Gaps y = true then g else 0)) := by
      cases cm t.Gaps y with
      | false => simp
      | true =>
        rw [if_pos rfl, add_goods hs ht hl hi hk ⟨b1, by omega⟩ (fun a j y g r h1 h2 h3 => by
          unfold f29_b1
          rw [if_pos (by simpa using get_lt h1), ix_nat, h1, Option.bind_some, h2, Option.bind_some, h3]; rfl) (fun a => by unfold f29_b1; simp), ← hg]
        simp
    rw [e1, Option.bind_some]
    simp only [kx, kw]
    obtain ⟨x1, hx1⟩ : ∃ x1, x1 = kx U g st (cm t.Gaps) y + (if cm t.Gaps y = true then g else 0) := ⟨_, rfl⟩
    rw [← hx1]
    have hx1b : 0 ≤ x1 ∧ x1 ≤ 500000000 := by rw [hx1]; split <;> omega
    rw [wrap_id (x := x1 - U) (by omega) (by omega)]
    by_cases c1 : x1 < U
    · have c2 : ¬ 0 < x1 - U := by omega
      by_cases c3 : kw U g st (cm t.Gaps) y < 0
      · simp [c1, c2, c3]; omega
      · simp [c1, c2, c3]; omega
    · simp only [c1, decide_false, Bool.false_eq_true, if_false, Option.bind_some, false_and]
      congr 3
      by_cases c2 : 0 < x1 - U
      · rw [if_pos c2]
      · rw [if_neg c2]; omega) (by
    unfold f29_b0
    rw [if_neg (by simp)]
    simp)
  unfold f29
  rw [ix_nat, hst, Option.bind_some, ix_nat, hus, Option.bind_some, show (st, ((-1) : Int), (0 : Int)) = (fun d : Nat => (kx U g st (cm t.Gaps) d, kw U g st (cm t.Gaps) d, (d : Int))) 0 from rfl, h]
  rfl
end Go.Proofs.Ytajejmbnmphngaa
