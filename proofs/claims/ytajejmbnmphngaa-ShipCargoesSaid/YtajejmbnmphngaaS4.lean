/-
  Ship's stores, loads and truths: what is as defined, the program's way and the document's.
-/
import Derived.Test.YtajejmbnmphngaaS2
import Derived.Test.YtajejmbnmphngaaSu
namespace Go.Proofs.Ytajejmbnmphngaa
open Go.RowKit
set_option linter.unusedSimpArgs false
set_option linter.unusedVariables false

/-! ### Short lists -/
structure StoreShort (s : TShipStore) : Prop where
  stock : s.Stock.length ≤ 8
  use : s.Use.length ≤ 8
  lots : s.Lots.length ≤ 9
  goods : ∀ l ∈ s.Lots, l.Goods.length ≤ 8
structure TruthShort (t : TShipTruth) : Prop where
  uses : t.Uses.length ≤ 8
  goods : t.Goods.length ≤ 9
  gaps : t.Gaps.length ≤ 310
  rows : ∀ l ∈ t.Goods, l.length ≤ 8
theorem take12 {α : Type} {xs : List α} {k : Nat} {y : α} (h : (xs.take 12)[k]? = some y) : k < 12 ∧ k < xs.length ∧ xs[k]? = some y := by
  rw [List.getElem?_take] at h
  split at h
  · exact ⟨by assumption, get_lt h, h⟩
  · cases h
theorem mem_take12 {α : Type} {xs : List α} (hl : xs.length ≤ 9) : xs.take 12 = xs := List.take_of_length_le (by omega)
theorem f24_eq (s : TShipStore) : ∃ b, f24 s = some b ∧ (b = true → StoreShort s) := by
  have h := all_lp (body := f24_b0 s) (s.Lots.take 12) (fun l => decide (l.Goods.length ≤ 8)) (Sum.inr false) (Sum.inl ()) (by rw [List.length_take]; omega) (fun k y hy => by
    obtain ⟨h1, h2, h3⟩ := take12 hy
    unfold f24_b0
    rw [if_pos (by simpa using h2), Option.bind_some, if_pos (by simp; omega), ix_nat, h3, Option.bind_some]
    by_cases h4 : y.Goods.length ≤ 8
    · rw [if_neg (by simp; omega), if_pos (by simpa using h4)]
    · rw [if_pos (by simp; omega), if_neg (by simpa using h4)]) (by
    unfold f24_b0
    by_cases hl : s.Lots.length ≤ 12
    · rw [if_neg (by simp; omega)]; rfl
    · rw [if_pos (by simp; omega), Option.bind_some, if_neg (by simp; omega)])
  unfold f24
  rw [h]
  by_cases ha : (s.Lots.take 12).all (fun l => decide (l.Goods.length ≤ 8)) = true
  · rw [if_pos ha, Option.bind_some, Sum.elim_inl]
    by_cases h1 : s.Stock.length ≤ 8
    · by_cases h2 : s.Use.length ≤ 8
      · refine ⟨decide (s.Lots.length ≤ 9), ?_, fun h3 => ?_⟩
        · rw [if_pos (by simp; omega), if_pos (by simp; omega)]
          simp; omega
        · have h3 := of_decide_eq_true h3
          rw [mem_take12 h3, List.all_eq_true] at ha
          exact ⟨h1, h2, h3, fun l hl => of_decide_eq_true (ha l hl)⟩
      · refine ⟨false, ?_, fun h => (by cases h)⟩
        rw [if_pos (by simp; omega), if_neg (by simp; omega)]; rfl
    · refine ⟨false, ?_, fun h => (by cases h)⟩
      rw [if_neg (by simp; omega)]; rfl
  · rw [if_neg ha]
    exact ⟨false, rfl, fun h => (by cases h)⟩
theorem f25_eq (t : TShipTruth) : ∃ b, f25 t = some b ∧ (b = true → TruthShort t) := by
  have h := all_lp (body := f25_b0 t) (t.Goods.take 12) (fun l => decide (l.length ≤ 8)) (Sum.inr false) (Sum.inl ()) (by rw [List.length_take]; omega) (fun k y hy => by
    obtain ⟨h1, h2, h3⟩ := take12 hy
    unfold f25_b0
    rw [if_pos (by simpa using h2), Option.bind_some, if_pos (by simp; omega), ix_nat, h3, Option.bind_some]
    by_cases h4 : y.length ≤ 8
    · rw [if_neg (by simp; omega), if_pos (by simpa using h4)]
    · rw [if_pos (by simp; omega), if_neg (by simpa using h4)]) (by
    unfold f25_b0
    by_cases hl : t.Goods.length ≤ 12
    · rw [if_neg (by simp; omega)]; rfl
    · rw [if_pos (by simp; omega), Option.bind_some, if_neg (by simp; omega)])
  unfold f25
  rw [h]
  by_cases ha : (t.Goods.take 12).all (fun l => decide (l.length ≤ 8)) = true
  · rw [if_pos ha, Option.bind_some, Sum.elim_inl]
    by_cases h1 : t.Uses.length ≤ 8
    · by_cases h2 : t.Goods.length ≤ 9
      · refine ⟨decide (t.Gaps.length ≤ 310), ?_, fun h3 => ?_⟩
        · rw [if_pos (by simp; omega), if_pos (by simp; omega)]
          simp; omega
        · have h3 := of_decide_eq_true h3
          rw [mem_take12 h2, List.all_eq_true] at ha
          exact ⟨h1, h2, h3, fun l hl => of_decide_eq_true (ha l hl)⟩
      · refine ⟨false, ?_, fun h => (by cases h)⟩
        rw [if_pos (by simp; omega), if_neg (by simp; omega)]; rfl
    · refine ⟨false, ?_, fun h => (by cases h)⟩
      rw [if_neg (by simp; omega)]; rfl
  · rw [if_neg ha]
    exact ⟨false, rfl, fun h => (by cases h)⟩
/-! ### Stores -/
def goodOk (g : TSpan) : Bool := spanR g 0 100000
def lotOk (n : Nat) (l : TShipLot) : Bool := l.Goods.all goodOk && (decide (l.Goods.length = n) && (inR l.Weight 0 100000 && inR l.Cost 0 1000000))
def stockOk (x : Int) : Bool := inR x 0 100000
def useOk (x : TSpan) : Bool := spanR x 0 1000
def storeOk (s : TShipStore) : Bool := s.Stock.all stockOk && (s.Use.all useOk && (s.Lots.all (lotOk s.Stock.length) && (inR (s.Stock.length : Int) 1 4 && (decide (s.Use.length = s.Stock.length) && (spanR s.Gap 1 60 && (decide (s.Lots.length ≤ 6) && inR s.Hold 0 100000))))))
theorem eq_int (a b : Nat) : ((a : Int) == (b : Int)) = decide (a = b) := by
  rw [Bool.eq_iff_iff]; simp; omega
theorem ne_int (a b : Nat) : ((a : Int) != (b : Int)) = !decide (a = b) := by
  rw [Bool.eq_iff_iff]; simp; omega
theorem le_int (a : Nat) (b : Nat) : decide ((a : Int) ≤ (b : Int)) = decide (a ≤ b) := by
  rw [Bool.eq_iff_iff]; simp
theorem f92_eq (xs : List TShipLot) (p : TShipLot → Bool) (hl : xs.length ≤ 1073741824) (g : TShipLot → Option Bool) (hg : ∀ y ∈ xs, g y = some (p y)) : f92 xs g = some (xs.any p) := by
  obtain ⟨r, h1, h2⟩ := find_lp (body := f110_b0 xs g) xs p hl (fun k y hy => by
    unfold f110_b0
    rw [if_pos (by simpa using get_lt hy), ix_nat, hy, Option.bind_some, hg y (List.mem_of_getElem? hy)]
    by_cases h : p y = true <;> simp [h]) (by unfold f110_b0; simp)
  unfold f92 f110
  rw [h1]
  cases r with
  | inl _ => simp only [Option.bind_some, Sum.elim_inl, h2]; rfl
  | inr i => simp only [Option.bind_some, Sum.elim_inr, h2.1]; simp [h2.2]
theorem f93_eq (l : TShipLot) (n : Nat) (h : l.Goods.length ≤ 8) : f93 l (n : Int) = some (!lotOk n l) := by
  unfold f93
  have e : (fun (z0 : TSpan) => f94 z0) = fun z => some (!goodOk z) := by
    funext z; unfold f94; rw [f61_eq]; rfl
  rw [e, f87_eq _ _ (by omega), any_not, ne_int]
  simp only [f62_eq, Option.bind_some]
  unfold lotOk
  cases l.Goods.all goodOk <;> cases decide (l.Goods.length = n) <;> cases inR l.Weight 0 100000 <;> cases inR l.Cost 0 1000000 <;> rfl
theorem f68_eq (s : TShipStore) (hs : StoreShort s) : f68 s = some (storeOk s) := by
  unfold f68
  have e1 : (fun (z0 : Int) => f90 z0) = fun z => some (!stockOk z) := by
    funext z; unfold f90; rw [f62_eq]; rfl
  have e2 : (fun (z0 : TSpan) => f91 z0) = fun z => some (!useOk z) := by
    funext z; unfold f91; rw [f61_eq]; rfl
  rw [e1, e2, f85_eq _ _ (by have := hs.stock; omega), f87_eq _ _ (by have := hs.use; omega), f92_eq s.Lots (fun l => !lotOk s.Stock.length l) (by have := hs.lots; omega) _ (fun y hy => f93_eq y _ (hs.goods y hy)), any_not, any_not, any_not, eq_int,
    show decide ((s.Lots.length : Int) ≤ 6) = decide (s.Lots.length ≤ 6) from le_int _ 6]
  simp only [f62_eq, f61_eq, Option.bind_some]
  unfold storeOk
  cases s.Stock.all stockOk <;> cases s.Use.all useOk <;> cases s.Lots.all (lotOk s.Stock.length) <;> cases inR (s.Stock.length : Int) 1 4 <;> cases decide (s.Use.length = s.Stock.length) <;> cases spanR s.Gap 1 60 <;> cases decide (s.Lots.length ≤ 6) <;> cases inR s.Hold 0 100000 <;> rfl
theorem f20_eq (g : TSpan) : f20 g = some (spanR g 1 60) := by
  unfold f20
  rw [f66_eq]; rfl
theorem f36_eq (s : TShipStore) (hs : StoreShort s) : f36 s = some (storeOk s) := by
  unfold f36
  have h1 : lp (f36_b0 s) 0 = some (if s.Stock.all stockOk = true then .inl () else .inr false) := by
    refine all_lp s.Stock _ _ _ (by have := hs.stock; omega) (fun k y hy => ?_) (by unfold f36_b0; simp)
    unfold f36_b0
    rw [if_pos (by simpa using get_lt hy), ix_nat, hy]
    simp only [Option.bind_some, f65_eq]
    unfold stockOk
    cases inR y 0 100000 <;> simp
  have h2 : lp (f36_b1 s) 0 = some (if s.Use.all useOk = true then .inl () else .inr false) := by
    refine all_lp s.Use _ _ _ (by have := hs.use; omega) (fun k y hy => ?_) (by unfold f36_b1; simp)
    unfold f36_b1
    rw [if_pos (by simpa using get_lt hy), ix_nat, hy]
    simp only [Option.bind_some, f66_eq]
    unfold useOk
    cases spanR y 0 1000 <;> simp
  have h4 : ∀ y ∈ s.Lots, lp (f36_b3 y) 0 = some (if y.Goods.all goodOk = true then .inl () else .inr false) := fun l hl => by
    refine all_lp l.Goods _ _ _ (by have := hs.goods l hl; omega) (fun k y hy => ?_) (by unfold f36_b3; simp)
    unfold f36_b3
    rw [if_pos (by simpa using get_lt hy), ix_nat, hy]
    simp only [Option.bind_some, f66_eq]
    unfold goodOk
    cases spanR y 0 100000 <;> simp
  have h3 : lp (f36_b2 s) 0 = some (if s.Lots.all (lotOk s.Stock.length) = true then .inl () else .inr false) := by
    refine all_lp s.Lots _ _ _ (by have := hs.lots; omega) (fun k y hy => ?_) (by unfold f36_b2; simp)
    unfold f36_b2
    rw [if_pos (by simpa using get_lt hy), ix_nat, hy]
    simp only [Option.bind_some, h4 y (List.mem_of_getElem? hy), f65_eq, ne_int]
    unfold lotOk
    cases y.Goods.all goodOk <;> cases decide (y.Goods.length = s.Stock.length) <;> cases inR y.Weight 0 100000 <;> cases inR y.Cost 0 1000000 <;> simp
  rw [h1, h2, h3, eq_int, show decide ((s.Lots.length : Int) ≤ 6) = decide (s.Lots.length ≤ 6) from le_int _ 6]
  simp only [f65_eq, f20_eq, Option.bind_some]
  unfold storeOk
  cases s.Stock.all stockOk <;> cases s.Use.all useOk <;> cases s.Lots.all (lotOk s.Stock.length) <;> cases inR (s.Stock.length : Int) 1 4 <;> cases decide (s.Use.length = s.Stock.length) <;> cases spanR s.Gap 1 60 <;> cases decide (s.Lots.length ≤ 6) <;> cases inR s.Hold 0 100000 <;> rfl
structure StoreOk (s : TShipStore) : Prop where
  stock : ∀ x ∈ s.Stock, 0 ≤ x ∧ x ≤ 100000
  use : ∀ x ∈ s.Use, 0 ≤ x.Low ∧ x.Low ≤ x.High ∧ x.High ≤ 1000
  goods : ∀ l ∈ s.Lots, ∀ g ∈ l.Goods, 0 ≤ g.Low ∧ g.Low ≤ g.High ∧ g.High ≤ 100000
  ng : ∀ l ∈ s.Lots, l.Goods.length = s.Stock.length
  weight : ∀ l ∈ s.Lots, 0 ≤ l.Weight ∧ l.Weight ≤ 100000
  cost : ∀ l ∈ s.Lots, 0 ≤ l.Cost ∧ l.Cost ≤ 1000000
  ns : 1 ≤ s.Stock.length ∧ s.Stock.length ≤ 4
  nu : s.Use.length = s.Stock.length
  gap : 1 ≤ s.Gap.Low ∧ s.Gap.Low ≤ s.Gap.High ∧ s.Gap.High ≤ 60
  nl : s.Lots.length ≤ 6
  hold : 0 ≤ s.Hold ∧ s.Hold ≤ 100000
theorem storeOk_iff {s : TShipStore} (h : storeOk s = true) : StoreOk s := by
  unfold storeOk stockOk useOk at h
  simp only [Bool.and_eq_true, List.all_eq_true, inR_iff, spanR_iff, lotOk, goodOk, decide_eq_true_eq] at h
  obtain ⟨h1, h2, h3, h4, h5, h6, h7, h8⟩ := h
  exact ⟨h1, h2, fun l hl => (h3 l hl).1, fun l hl => (h3 l hl).2.1, fun l hl => (h3 l hl).2.2.1, fun l hl => (h3 l hl).2.2.2, by omega, h5, h6, h7, h8⟩
theorem f55_eq (s : TShipStore) (hs : StoreShort s) : f55 s = some (if storeOk s = true then 0 else 2) := by
  unfold f55
  rw [f68_eq s hs]
  cases storeOk s <;> rfl
def daysOk (d : Int) : Bool := inR d 0 300
theorem f37_eq (d : Int) : f37 d = some (daysOk d) := by unfold f37; rw [f65_eq]; rfl
theorem f70_eq (d : Int) : f70 d = some (daysOk d) := by unfold f70; rw [f62_eq]; rfl
/-! ### Sums -/
theorem sum_snoc (l : List Int) (x : Int) : (l ++ [x]).sum = l.sum + x := by simp
theorem sum_take {l : List Int} {k : Nat} {y : Int} (h : l[k]? = some y) : (l.take (k + 1)).sum = (l.take k).sum + y := by
  rw [List.take_add_one, h]; simp
theorem sum_bound {l : List Int} {a b : Int} (ha : a ≤ 0) (hb : 0 ≤ b) : (∀ x ∈ l, a ≤ x ∧ x ≤ b) → a * (l.length : Int) ≤ l.sum ∧ l.sum ≤ b * (l.length : Int) := by
  induction l with
  | nil => intro _; simp
  | cons x l ih =>
    intro h
    obtain ⟨h1, h2⟩ := ih fun y hy => h y (by simp [hy])
    obtain ⟨h3, h4⟩ := h x (by simp)
    rw [List.sum_cons, List.length_cons]
    have e1 : a * ((l.length + 1 : Nat) : Int) = a * (l.length : Int) + a := by rw [Int.natCast_add, Int.mul_add]; simp
    have e2 : b * ((l.length + 1 : Nat) : Int) = b * (l.length : Int) + b := by rw [Int.natCast_add, Int.mul_add]; simp
    omega
theorem f95_eq (l : List Int) (h : ∀ x ∈ l, -100000 ≤ x ∧ x ≤ 100000) (hl : l.length ≤ 1000) : f95 l = some l.sum := by
  unfold f95
  have h1 := lp_thru (body := f95_b0 l) l l.sum (fun k => ((l.take k).sum, (k : Int))) (fun k y hy => by
    have hk := get_lt hy
    unfold f95_b0
    rw [if_pos (by simpa using hk), ix_nat, hy, Option.bind_some, wrap_nat hk (by omega), sum_take hy]
    have hb := sum_bound (l := l.take k) (a := -100000) (b := 100000) (by decide) (by decide) fun x hx => h x (List.mem_of_mem_take hx)
    have hlk : (l.take k).length ≤ 1000 := by rw [List.length_take]; omega
    have hy' := h y (List.mem_of_getElem? hy)
    rw [wrap_id (by omega) (by omega)]) (by
    unfold f95_b0
    rw [if_neg (by simp)]
    simp)
  rw [show ((0 : Int), (0 : Int)) = (fun k => ((l.take k).sum, (k : Int))) 0 from rfl, h1]; rfl
/-! ### Loads -/
def lotW (s : TShipStore) (n : Int) : Int := ((s.Lots[n.toNat]?).map (·.Weight)).getD 0
def lotC (s : TShipStore) (n : Int) : Int := ((s.Lots[n.toNat]?).map (·.Cost)).getD 0
def weightL (s : TShipStore) (load : List Int) : Int := (load.map (lotW s)).sum
def costL (s : TShipStore) (load : List Int) : Int := (load.map (lotC s)).sum
def loadOk (s : TShipStore) (load : List Int) : Bool := incr load (s.Lots.length : Int) && decide (weightL s load ≤ s.Hold)
theorem lot_ix {s : TShipStore} (hs : StoreOk s) {n : Int} (h0 : 0 ≤ n) (h1 : n < (s.Lots.length : Int)) : ∃ l, ix s.Lots n = some l ∧ l ∈ s.Lots ∧ lotW s n = l.Weight ∧ lotC s n = l.Cost ∧ s.Lots[n.toNat]? = some l := by
  have hlt : n.toNat < s.Lots.length := by omega
  have e := List.getElem?_eq_getElem hlt
  refine ⟨s.Lots[n.toNat], ?_, List.getElem_mem hlt, ?_, ?_, e⟩
  · unfold ix; rw [if_pos h0, e]
  · unfold lotW; rw [e]; rfl
  · unfold lotC; rw [e]; rfl
theorem lotW_b {s : TShipStore} (hs : StoreOk s) (n : Int) : 0 ≤ lotW s n ∧ lotW s n ≤ 100000 := by
  unfold lotW
  cases h : s.Lots[n.toNat]? with
  | none => simp
  | some l => simpa using hs.weight l (List.mem_of_getElem? h)
theorem lotC_b {s : TShipStore} (hs : StoreOk s) (n : Int) : 0 ≤ lotC s n ∧ lotC s n ≤ 1000000 := by
  unfold lotC
  cases h : s.Lots[n.toNat]? with
  | none => simp
  | some l => simpa using hs.cost l (List.mem_of_getElem? h)
/-- The test of one number of a load, as both do it. -/
theorem load_test {s : TShipStore} (hs : StoreOk s) {load : List Int} (hl : load.length ≤ 10) {k : Nat} {y : Int} (hy : load[k]? = some y) :
    (((f62 y 0 (IntKind.i64.wrap ((s.Lots.length : Int) - 1))).bind fun y19 => if (!y19) = true then (some true) else (if (decide (0 < (k : Int))) = true then ((ix load (IntKind.i64.wrap ((k : Int) - 1))).bind fun y23 => some (decide (y ≤ y23))) else (some false)) : Option Bool))
      = some (!(decide (0 ≤ y) && (decide (y ≤ (s.Lots.length : Int) - 1) && (decide (k = 0) || decide (load.getD (k - 1) 0 < y))))) := by
  have hk := get_lt hy
  rw [wrap_pred (by have := hs.nl; omega), f62_eq]
  simp only [Option.bind_some]
  unfold inR
  cases h1 : decide (0 ≤ y) with
  | false => rfl
  | true =>
    cases h2 : decide (y ≤ (s.Lots.length : Int) - 1) with
    | false => rfl
    | true =>
      simp only [Bool.and_self, Bool.not_true, Bool.false_eq_true, if_false, Bool.true_and]
      by_cases h0 : k = 0
      · subst h0; rfl
      · rw [if_pos (by simp; omega), wrap_id (by omega) (by omega), show (k : Int) - 1 = ((k - 1 : Nat) : Int) by omega, ix_nat]
        have hp : load[k - 1]? = some (load.getD (k - 1) 0) := by
          rw [List.getD_eq_getElem?_getD, List.getElem?_eq_getElem (by omega)]; rfl
        rw [hp, Option.bind_some]
        congr 1
        simp only [h0, decide_false, Bool.false_or]
        rw [Bool.eq_iff_iff]; simp
theorem sum_w {s : TShipStore} (hs : StoreOk s) (l : List Int) (f : Int → Int) (B : Int) (hB : 0 ≤ B) (hf : ∀ n, 0 ≤ f n ∧ f n ≤ B) : 0 ≤ (l.map f).sum ∧ (l.map f).sum ≤ B * (l.length : Int) := by
  have := sum_bound (l := l.map f) (a := 0) (b := B) (by decide) hB (fun x hx => by
    obtain ⟨n, _, rfl⟩ := List.mem_map.1 hx
    exact hf n)
  rw [List.length_map] at this
  omega
theorem f69_eq (s : TShipStore) (load : List Int) (hs : StoreOk s) (hl : load.length ≤ 10) : f69 s load = some (loadOk s load) := by
  have h := lp_all (body := f69_b0 s load) load (fun k y => decide (0 ≤ y) && (decide (y ≤ (s.Lots.length : Int) - 1) && (decide (k = 0) || decide (load.getD (k - 1) 0 < y)))) (Sum.inr false) (Sum.inl (load.map (lotW s)))
    (fun k => ((load.take k).map (lotW s), (k : Int))) (fun k y hy => by
      have hk := get_lt hy
      unfold f69_b0
      rw [if_pos (by simpa using hk), ix_nat, hy, Option.bind_some]
      simp only
      rw [load_test hs hl hy, Option.bind_some]
      cases ht : (decide (0 ≤ y) && (decide (y ≤ (s.Lots.length : Int) - 1) && (decide (k = 0) || decide (load.getD (k - 1) 0 < y)))) with
      | false => rfl
      | true =>
        simp only [Bool.and_eq_true, decide_eq_true_eq] at ht
        obtain ⟨l, l1, l2, l3, _⟩ := lot_ix hs (n := y) ht.1 (by omega)
        simp only [Bool.not_true, Bool.false_eq_true, if_false, l1, Option.bind_some, if_true]
        rw [app_short _ _ (by simp; omega), Option.bind_some, wrap_nat hk (by omega), List.take_add_one, hy, ← l3]
        simp) (by
      unfold f69_b0
      rw [if_neg (by simp)]
      simp)
  unfold f69
  rw [show (([], (0 : Int)) : List Int × Int) = (fun k : Nat => ((load.take k).map (lotW s), (k : Int))) 0 from rfl, h]
  have hi : allI (fun k y => decide (0 ≤ y) && (decide (y ≤ (s.Lots.length : Int) - 1) && (decide (k = 0) || decide (load.getD (k - 1) 0 < y)))) 0 load = incr load (s.Lots.length : Int) := rfl
  rw [hi]
  unfold loadOk
  cases incr load (s.Lots.length : Int) with
  | false => rfl
  | true =>
    simp only [if_true, Option.bind_some, Sum.elim_inl]
    rw [f95_eq _ (fun x hx => by
      obtain ⟨n, _, rfl⟩ := List.mem_map.1 hx
      have := lotW_b hs n
      omega) (by rw [List.length_map]; omega)]
    rfl
theorem f42_eq (s : TShipStore) (load : List Int) (hs : StoreOk s) (hl : load.length ≤ 10) : f42 s load = some (loadOk s load) := by
  have h := lp_all (body := f42_b0 s load) load (fun k y => decide (0 ≤ y) && (decide (y ≤ (s.Lots.length : Int) - 1) && (decide (k = 0) || decide (load.getD (k - 1) 0 < y)))) (Sum.inr false) (Sum.inl (weightL s load))
    (fun k => (((load.take k).map (lotW s)).sum, (k : Int))) (fun k y hy => by
      have hk := get_lt hy
      unfold f42_b0
      rw [if_pos (by simpa using hk), ix_nat, hy, Option.bind_some]
      have ht0 := load_test hs hl hy
      rw [f62_eq, ← f65_eq] at ht0
      simp only
      rw [ht0, Option.bind_some]
      cases ht : (decide (0 ≤ y) && (decide (y ≤ (s.Lots.length : Int) - 1) && (decide (k = 0) || decide (load.getD (k - 1) 0 < y)))) with
      | false => rfl
      | true =>
        simp only [Bool.and_eq_true, decide_eq_true_eq] at ht
        obtain ⟨l, l1, l2, l3, _⟩ := lot_ix hs (n := y) ht.1 (by omega)
        have hb := sum_w hs (load.take k) (lotW s) 100000 (by decide) (lotW_b hs)
        have hlk : (load.take k).length ≤ 10 := by rw [List.length_take]; omega
        have hw := lotW_b hs y
        simp only [Bool.not_true, Bool.false_eq_true, if_false, l1, Option.bind_some, if_true]
        rw [wrap_nat hk (by omega), List.take_add_one, hy, ← l3, wrap_id (by omega) (by omega)]
        simp) (by
      unfold f42_b0
      rw [if_neg (by simp)]
      simp [weightL])
  unfold f42
  rw [show ((0 : Int), (0 : Int)) = (fun k : Nat => (((load.take k).map (lotW s)).sum, (k : Int))) 0 from rfl, h]
  have hi : allI (fun k y => decide (0 ≤ y) && (decide (y ≤ (s.Lots.length : Int) - 1) && (decide (k = 0) || decide (load.getD (k - 1) 0 < y)))) 0 load = incr load (s.Lots.length : Int) := rfl
  rw [hi]
  unfold loadOk
  cases incr load (s.Lots.length : Int) <;> rfl
theorem f40_eq (s : TShipStore) (load : List Int) (hs : StoreOk s) (hl : load.length ≤ 10) (hi : incr load (s.Lots.length : Int) = true) : f40 s load = some (costL s load) := by
  have hin := (incr_iff.1 hi).1
  have h := lp_thru (body := f40_b0 s load) load (costL s load) (fun k => (((load.take k).map (lotC s)).sum, (k : Int))) (fun k y hy => by
      have hk := get_lt hy
      have ht := hin y (List.mem_of_getElem? hy)
      obtain ⟨l, l1, l2, _, l3, _⟩ := lot_ix hs (n := y) ht.1 ht.2
      have hb := sum_w hs (load.take k) (lotC s) 1000000 (by decide) (lotC_b hs)
      have hlk : (load.take k).length ≤ 10 := by rw [List.length_take]; omega
      have hw := lotC_b hs y
      unfold f40_b0
      rw [if_pos (by simpa using hk), ix_nat, hy, Option.bind_some, l1, Option.bind_some, wrap_nat hk (by omega), List.take_add_one, hy, ← l3, wrap_id (by omega) (by omega)]
      simp) (by
      unfold f40_b0
      rw [if_neg (by simp)]
      simp [costL])
  unfold f40
  rw [show ((0 : Int), (0 : Int)) = (fun k : Nat => (((load.take k).map (lotC s)).sum, (k : Int))) 0 from rfl, h]; rfl
end Go.Proofs.Ytajejmbnmphngaa
