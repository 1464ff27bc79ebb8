/-
  Sets as bits, as lists, and the best of them.
-/
import Derived.Test.YtcaflmilfhhikaaDoorPu
namespace Go.Proofs.YtcaflmilfhhikaaDoor
open Go.RowKit
set_option linter.unusedVariables false

/-! ### Bits -/
def bitI (s : Int) (i : Nat) : Bool := andI .i64 (s.fdiv (2 ^ min i 64)) 1 == 1
theorem shr_nat (s : Int) (i : Nat) : shrI .i64 s (i : Int) = some (s.fdiv (2 ^ min i 64)) := by
  unfold shrI
  rw [if_neg (by omega)]
  rfl
theorem fdiv_nat (m k : Nat) : ((m : Int)).fdiv (2 ^ k) = ((m / 2 ^ k : Nat) : Int) := by
  rw [Int.fdiv_eq_ediv_of_nonneg _ (by exact Int.le_of_lt (Int.pow_pos (by decide)))]
  have : ((2 : Int) ^ k) = ((2 ^ k : Nat) : Int) := by simp
  rw [this, ← Int.natCast_ediv]
theorem andI_one (q : Nat) : andI .i64 (q : Int) 1 = ((q % 2 : Nat) : Int) := by
  unfold andI
  have h : (BitVec.ofInt IntKind.i64.bits (q : Int) &&& BitVec.ofInt IntKind.i64.bits 1).toNat = q % 2 := by
    show (BitVec.ofInt 64 (q : Int) &&& BitVec.ofInt 64 1).toNat = q % 2
    have h1 : BitVec.ofInt 64 (q : Int) = BitVec.ofNat 64 q := by apply BitVec.eq_of_toNat_eq; simp
    rw [h1, BitVec.toNat_and]
    have h2 : (BitVec.ofInt 64 1).toNat = 1 := by decide
    rw [h2, BitVec.toNat_ofNat, Nat.and_one_is_mod]
    omega
  rw [h, wrap_id] <;> omega
theorem bitI_nat (m i : Nat) (hm : m < 2 ^ 62) : bitI (m : Int) i = m.testBit i := by
  unfold bitI
  rw [fdiv_nat, andI_one, Nat.testBit_eq_decide_div_mod_eq]
  by_cases hi : i ≤ 64
  · rw [Nat.min_eq_left hi]
    generalize m / 2 ^ i = q
    rw [Bool.eq_iff_iff, beq_iff_eq, decide_eq_true_eq]
    omega
  · rw [Nat.min_eq_right (by omega)]
    have e1 : m / 2 ^ 64 = 0 := Nat.div_eq_of_lt (by omega)
    have e2 : m / 2 ^ i = 0 := Nat.div_eq_of_lt (Nat.lt_of_lt_of_le (show m < 2 ^ 64 by omega) (Nat.pow_le_pow_right (by decide) (by omega)))
    rw [e1, e2]; rfl
theorem orI_nat (a b : Nat) (ha : a < 2 ^ 62) (hb : b < 2 ^ 62) : orI .i64 (a : Int) (b : Int) = ((a ||| b : Nat) : Int) := by
  unfold orI
  have h : (BitVec.ofInt IntKind.i64.bits (a : Int) ||| BitVec.ofInt IntKind.i64.bits (b : Int)).toNat = a ||| b := by
    show (BitVec.ofInt 64 (a : Int) ||| BitVec.ofInt 64 (b : Int)).toNat = a ||| b
    have h1 : ∀ q : Nat, q < 2 ^ 62 → (BitVec.ofInt 64 (q : Int)).toNat = q := fun q hq => by
      have : BitVec.ofInt 64 (q : Int) = BitVec.ofNat 64 q := by apply BitVec.eq_of_toNat_eq; simp
      rw [this, BitVec.toNat_ofNat]; omega
    rw [BitVec.toNat_or, h1 a ha, h1 b hb]
  have hlt : a ||| b < 2 ^ 62 := Nat.or_lt_two_pow ha hb
  rw [h, wrap_id] <;> omega
theorem shl_nat (n : Nat) (hn : n ≤ 61) : shlI .i64 1 (n : Int) = some (((2 ^ n : Nat)) : Int) := by
  unfold shlI
  rw [if_neg (by omega)]
  have h1 : min ((n : Int)).toNat IntKind.i64.bits = n := by
    show min ((n : Int)).toNat 64 = n
    simp
    omega
  rw [h1]
  have h2 : (1 : Int) * 2 ^ n = ((2 ^ n : Nat) : Int) := by simp
  have h3 : 2 ^ n ≤ 2305843009213693952 := Nat.le_trans (Nat.pow_le_pow_right (by decide) hn) (by decide)
  rw [h2]
  generalize 2 ^ n = q at h3
  rw [wrap_id] <;> omega
/-- The things of a set, of so many. -/
def lst (m n : Nat) : List Int := ((List.range n).filter fun i => m.testBit i).map fun i : Nat => (i : Int)
theorem lst_succ (m n : Nat) : lst m (n + 1) = lst m n ++ if m.testBit n then [(n : Int)] else [] := by
  unfold lst
  rw [List.range_succ, List.filter_append, List.map_append]
  congr 1
  by_cases h : m.testBit n <;> simp [h]
theorem mem_lst {m n : Nat} {x : Int} : x ∈ lst m n ↔ ∃ i, i < n ∧ m.testBit i = true ∧ x = (i : Int) := by
  unfold lst
  simp only [List.mem_map, List.mem_filter, List.mem_range]
  exact ⟨fun ⟨i, ⟨h1, h2⟩, h3⟩ => ⟨i, h1, h2, h3.symm⟩, fun ⟨i, h1, h2, h3⟩ => ⟨i, ⟨h1, h2⟩, h3.symm⟩⟩
theorem lst_inj {a b n : Nat} (ha : a < 2 ^ n) (hb : b < 2 ^ n) (h : lst a n = lst b n) : a = b := by
  apply Nat.eq_of_testBit_eq
  intro i
  by_cases hi : i < n
  · have : ∀ m : Nat, m.testBit i = true ↔ (i : Int) ∈ lst m n := fun m => by
      rw [mem_lst]
      exact ⟨fun h => ⟨i, hi, h, rfl⟩, fun ⟨j, _, h2, h3⟩ => by
        have : i = j := by omega
        subst this; exact h2⟩
    rw [Bool.eq_iff_iff, this, this, h]
  · rw [Nat.testBit_lt_two_pow (Nat.lt_of_lt_of_le ha (Nat.pow_le_pow_right (by decide) (by omega))), Nat.testBit_lt_two_pow (Nat.lt_of_lt_of_le hb (Nat.pow_le_pow_right (by decide) (by omega)))]
theorem lst_len (m n : Nat) : (lst m n).length ≤ n := by
  unfold lst
  rw [List.length_map]
  exact Nat.le_trans (List.length_filter_le _ _) (by simp)

/-! ### Lists that strictly increase -/
theorem getD_of {l : List Int} {i : Nat} (h : i < l.length) : l.getD i 0 = l[i] := by simp [h]
def incr (l : List Int) (n : Int) : Bool := allI (fun k y => decide (0 ≤ y) && (decide (y ≤ n - 1) && (decide (k = 0) || decide (l.getD (k - 1) 0 < y)))) 0 l
theorem incr_iff {l : List Int} {n : Int} : incr l n = true ↔ (∀ y ∈ l, 0 ≤ y ∧ y < n) ∧ l.Pairwise (· < ·) := by
  unfold incr
  rw [allI_iff]
  constructor
  · intro h
    have hr : ∀ y ∈ l, 0 ≤ y ∧ y < n := fun y hy => by
      obtain ⟨j, hj⟩ := List.getElem?_of_mem hy
      have := h j y hj
      simp at this
      omega
    refine ⟨hr, ?_⟩
    have step : ∀ j a b, l[j]? = some a → l[j + 1]? = some b → a < b := fun j a b ha hb => by
      have := h (j + 1) b hb
      simp at this
      have h3 := this.2.2
      rw [ha] at h3
      simpa using h3
    rw [List.pairwise_iff_getElem]
    intro i j hi hj hij
    have key : ∀ d, ∀ (h1 : i + d + 1 < l.length), l[i] < l[i + d + 1] := by
      intro d
      induction d with
      | zero => intro h1; exact step i _ _ (List.getElem?_eq_getElem hi) (List.getElem?_eq_getElem h1)
      | succ d ih =>
        intro h1
        exact Int.lt_trans (ih (by omega)) (step (i + d + 1) _ _ (List.getElem?_eq_getElem (by omega)) (List.getElem?_eq_getElem h1))
    have := key (j - i - 1) (by omega)
    have e : i + (j - i - 1) + 1 = j := by omega
    simpa [e] using this
  · rintro ⟨h1, h2⟩ j y hy
    have hm := h1 y (List.mem_of_getElem? hy)
    simp only [Nat.zero_add, Bool.and_eq_true, Bool.or_eq_true, decide_eq_true_eq]
    refine ⟨hm.1, by omega, ?_⟩
    by_cases hj : j = 0
    · exact .inl hj
    · right
      have hl := get_lt hy
      have := (List.pairwise_iff_getElem.1 h2) (j - 1) j (by omega) hl (by omega)
      rw [getD_of (show j - 1 < l.length by omega)]
      rw [List.getElem?_eq_getElem hl] at hy
      cases hy
      exact this
end Go.Proofs.YtcaflmilfhhikaaDoor
