/-
 Plain loops: what a loop over the elements of a list gives, as a recursion over the list.
-/
import Derived.Test.YtdgkjgljkgjjiaaGreatDoorFn
namespace Go.Proofs.YtdgkjgljkgjjiaaGreatDoor
open Go.RowKit
theorem wrap_id {x : Int} (h1 : -9223372036854775808 ≤ x) (h2 : x < 9223372036854775808) : IntKind.i64.wrap x = x := by
 rw [IntKind.wrap_i64]; omega
theorem wrap_nat {k n : Nat} (h : k < n) (hn : n ≤ 1073741824) : IntKind.i64.wrap ((k : Int) + 1) = ((k + 1 : Nat) : Int) := by
 rw [wrap_id] <;> omega
theorem ix_nat {α : Type} (xs : List α) (k : Nat) : ix xs (k : Int) = xs[k]? := by simp [ix]
/-- A loop over a list. -/
def goL {α τ ρ : Type} (f : Nat → α → τ → Option (τ ⊕ ρ)) (fin : τ → ρ) : Nat → List α → τ → Option ρ
 | _, [], t => some (fin t)
 | k, y :: ys, t => match f k y t with
  | none => none
  | some (.inl t') => goL f fin (k + 1) ys t'
  | some (.inr r) => some r
theorem lp_goL {α σ τ ρ : Type} {body : σ → Option (σ ⊕ ρ)} (enc : Nat → τ → σ) (xs : List α) (f : Nat → α → τ → Option (τ ⊕ ρ)) (fin : τ → ρ)
  (h1 : ∀ k t y, xs[k]? = some y → body (enc k t) = (f k y t).map (Sum.map (enc (k + 1)) id)) (h2 : ∀ t, body (enc xs.length t) = some (.inr (fin t))) (t : τ) :
  lp body (enc 0 t) = goL f fin 0 xs t := by
 have key : ∀ (ys : List α) (k : Nat) (t : τ), xs.drop k = ys → k ≤ xs.length → lp body (enc k t) = goL f fin k ys t := by
  intro ys
  induction ys with
  | nil =>
   intro k t hd hk
   have : k = xs.length := by have := List.drop_eq_nil_iff.1 hd; omega
   subst this
   rw [lp_eq, h2]; rfl
  | cons y ys ih =>
   intro k t hd hk
   have hlt : k < xs.length := by
    rcases Nat.lt_or_ge k xs.length with h | h
    ·exact h
    ·rw [List.drop_eq_nil_of_le h] at hd; cases hd
   rw [List.drop_eq_getElem_cons hlt] at hd
   injection hd with hy hd
   rw [lp_eq, h1 k t y (by rw [List.getElem?_eq_getElem hlt, hy])]
   cases hs : f k y t with
   | none => simp [goL, hs]
   | some s =>
    cases s with
    | inl t' =>
     simp only [goL, hs, Option.map_some, Sum.map_inl]
     exact ih (k + 1) t' hd hlt
    | inr r => simp [goL, hs]
 exact key xs 0 t rfl (Nat.zero_le _)
theorem get_lt {α : Type} {xs : List α} {k : Nat} {y : α} (h : xs[k]? = some y) : k < xs.length := (List.getElem?_eq_some_iff.1 h).1
/-- All elements, with their numbers. -/
def allI {α : Type} (p : Nat → α → Bool) : Nat → List α → Bool
 | _, [] => true
 | k, y :: ys => p k y && allI p (k + 1) ys
theorem goL_all {α ρ : Type} (p : Nat → α → Bool) (b : ρ) (fin : Unit → ρ) : ∀ (xs : List α) (k : Nat), goL (fun k y (_ : Unit) => some (if p k y = true then .inl () else .inr b)) fin k xs () = some (if allI p k xs = true then fin () else b)
 | [], _ => by simp [goL, allI]
 | y :: ys, k => by
  have ih := goL_all p b fin ys (k + 1)
  by_cases h : p k y = true
  ·simp only [goL, allI, h, if_true, Bool.true_and]; exact ih
  ·simp [goL, allI, h]
theorem allI_iff {α : Type} (p : Nat → α → Bool) : ∀ (xs : List α) (k : Nat), allI p k xs = true ↔ ∀ j y, xs[j]? = some y → p (k + j) y = true
 | [], k => by simp [allI]
 | y :: ys, k => by
  rw [allI, Bool.and_eq_true, allI_iff p ys (k + 1)]
  constructor
  ·rintro ⟨h1, h2⟩ j z hz
   cases j with
   | zero => simp at hz; subst hz; exact h1
   | succ j => simp at hz; have := h2 j z hz; rwa [show k + 1 + j = k + (j + 1) by omega] at this
  ·intro h
   refine ⟨h 0 y (by simp), fun j z hz => ?_⟩
   have := h (j + 1) z (by simpa using hz)
   rwa [show k + (j + 1) = k + 1 + j by omega] at this
theorem allI_congr {α : Type} {p q : Nat → α → Bool} (xs : List α) (k : Nat) (h : ∀ j y, xs[j]? = some y → p (k + j) y = q (k + j) y) : allI p k xs = allI q k xs := by
 rw [Bool.eq_iff_iff, allI_iff, allI_iff]
 exact ⟨fun h' j y hy => (h j y hy) ▸ h' j y hy, fun h' j y hy => (h j y hy).symm ▸ h' j y hy⟩
theorem lp_all {α σ ρ : Type} {body : σ → Option (σ ⊕ ρ)} (xs : List α) (p : Nat → α → Bool) (b r : ρ) (enc : Nat → σ) (h1 : ∀ k y, xs[k]? = some y → body (enc k) = some (if p k y = true then .inl (enc (k + 1)) else .inr b)) (h2 : body (enc xs.length) = some (.inr r)) :
  lp body (enc 0) = some (if allI p 0 xs = true then r else b) := by
 rw [← goL_all p b (fun _ => r) xs 0]
 refine lp_goL (fun k (_ : Unit) => enc k) xs _ _ ?_ ?_ ()
 ·intro k t y hy
  rw [h1 k y hy]
  by_cases h : p k y = true <;> simp [h]
 ·intro t; exact h2
/-- A loop that goes through all of a list. -/
theorem lp_thru {α σ ρ : Type} {body : σ → Option (σ ⊕ ρ)} (xs : List α) (r : ρ) (enc : Nat → σ) (h1 : ∀ k y, xs[k]? = some y → body (enc k) = some (.inl (enc (k + 1)))) (h2 : body (enc xs.length) = some (.inr r)) :
  lp body (enc 0) = some r := by
 have := lp_all xs (fun _ _ => true) r r enc (fun k y hy => by rw [h1 k y hy]; rfl) h2
 rw [this]; split <;> rfl
end Go.Proofs.YtdgkjgljkgjjiaaGreatDoor
/-
 Sets as bits, as lists, and the best of them.
-/
namespace Go.Proofs.YtdgkjgljkgjjiaaGreatDoor
open Go.RowKit
set_option linter.unusedVariables false
/-! ### Bits -/
def bitI (s : Int) (i : Nat) : Bool := andI .i64 (s.fdiv (2 ^ min i 64)) 1 == 1
theorem shr_nat (s : Int) (i : Nat) : shrI .i64 s (i : Int) = some (s.fdiv (2 ^ min i 64)) := by
 unfold shrI
 rw [if_neg (by omega)]
 rfl
theorem fdiv_nat (m k : Nat) : ((m : Int)).fdiv (2 ^ k) = ((m / 2 ^ k : Nat) : Int) := by
 rw [Int.fdiv_eq_ediv_of_nonneg _ (by exact Int.le_of_lt (Int.pow_pos (by decide)))]
 have : ((2 : Int) ^ k) = ((2 ^ k : Nat) : Int) := by simp
 rw [this, ← Int.natCast_ediv]
theorem andI_one (q : Nat) : andI .i64 (q : Int) 1 = ((q % 2 : Nat) : Int) := by
 unfold andI
 have h : (BitVec.ofInt IntKind.i64.bits (q : Int) &&& BitVec.ofInt IntKind.i64.bits 1).toNat = q % 2 := by
  show (BitVec.ofInt 64 (q : Int) &&& BitVec.ofInt 64 1).toNat = q % 2
  have h1 : BitVec.ofInt 64 (q : Int) = BitVec.ofNat 64 q := by apply BitVec.eq_of_toNat_eq; simp
  rw [h1, BitVec.toNat_and]
  have h2 : (BitVec.ofInt 64 1).toNat = 1 := by decide
  rw [h2, BitVec.toNat_ofNat, Nat.and_one_is_mod]
  omega
 rw [h, wrap_id] <;> omega
theorem bitI_nat (m i : Nat) (hm : m < 2 ^ 62) : bitI (m : Int) i = m.testBit i := by
 unfold bitI
 rw [fdiv_nat, andI_one, Nat.testBit_eq_decide_div_mod_eq]
 by_cases hi : i ≤ 64
 ·rw [Nat.min_eq_left hi]
  generalize m / 2 ^ i = q
  rw [Bool.eq_iff_iff, beq_iff_eq, decide_eq_true_eq]
  omega
 ·rw [Nat.min_eq_right (by omega)]
  have e1 : m / 2 ^ 64 = 0 := Nat.div_eq_of_lt (by omega)
  have e2 : m / 2 ^ i = 0 := Nat.div_eq_of_lt (Nat.lt_of_lt_of_le (show m < 2 ^ 64 by omega) (Nat.pow_le_pow_right (by decide) (by omega)))
  rw [e1, e2]; rfl
theorem orI_nat (a b : Nat) (ha : a < 2 ^ 62) (hb : b < 2 ^ 62) : orI .i64 (a : Int) (b : Int) = ((a ||| b : Nat) : Int) := by
 unfold orI
 have h : (BitVec.ofInt IntKind.i64.bits (a : Int) ||| BitVec.ofInt IntKind.i64.bits (b : Int)).toNat = a ||| b := by
  show (BitVec.ofInt 64 (a : Int) ||| BitVec.ofInt 64 (b : Int)).toNat = a ||| b
  have h1 : ∀ q : Nat, q < 2 ^ 62 → (BitVec.ofInt 64 (q : Int)).toNat = q := fun q hq => by
   have : BitVec.ofInt 64 (q : Int) = BitVec.ofNat 64 q := by apply BitVec.eq_of_toNat_eq; simp
   rw [this, BitVec.toNat_ofNat]; omega
  rw [BitVec.toNat_or, h1 a ha, h1 b hb]
 have hlt : a ||| b < 2 ^ 62 := Nat.or_lt_two_pow ha hb
 rw [h, wrap_id] <;> omega
theorem shl_nat (n : Nat) (hn : n ≤ 61) : shlI .i64 1 (n : Int) = some (((2 ^ n : Nat)) : Int) := by
 unfold shlI
 rw [if_neg (by omega)]
 have h1 : min ((n : Int)).toNat IntKind.i64.bits = n := by
  show min ((n : Int)).toNat 64 = n
  simp
  omega
 rw [h1]
 have h2 : (1 : Int) * 2 ^ n = ((2 ^ n : Nat) : Int) := by simp
 have h3 : 2 ^ n ≤ 2305843009213693952 := Nat.le_trans (Nat.pow_le_pow_right (by decide) hn) (by decide)
 rw [h2]
 generalize 2 ^ n = q at h3
 rw [wrap_id] <;> omega
/-- The things of a set, of so many. -/
def lst (m n : Nat) : List Int := ((List.range n).filter fun i => m.testBit i).map fun i : Nat => (i : Int)
theorem lst_succ (m n : Nat) : lst m (n + 1) = lst m n ++ if m.testBit n then [(n : Int)] else [] := by
 unfold lst
 rw [List.range_succ, List.filter_append, List.map_append]
 congr 1
 by_cases h : m.testBit n <;> simp [h]
theorem mem_lst {m n : Nat} {x : Int} : x ∈ lst m n ↔ ∃ i, i < n ∧ m.testBit i = true ∧ x = (i : Int) := by
 unfold lst
 simp only [List.mem_map, List.mem_filter, List.mem_range]
 exact ⟨fun ⟨i, ⟨h1, h2⟩, h3⟩ => ⟨i, h1, h2, h3.symm⟩, fun ⟨i, h1, h2, h3⟩ => ⟨i, ⟨h1, h2⟩, h3.symm⟩⟩
theorem lst_inj {a b n : Nat} (ha : a < 2 ^ n) (hb : b < 2 ^ n) (h : lst a n = lst b n) : a = b := by
 apply Nat.eq_of_testBit_eq
 intro i
 by_cases hi : i < n
 ·have : ∀ m : Nat, m.testBit i = true ↔ (i : Int) ∈ lst m n := fun m => by
   rw [mem_lst]
   exact ⟨fun h => ⟨i, hi, h, rfl⟩, fun ⟨j, _, h2, h3⟩ => by
    have : i = j := by omega
    subst this; exact h2⟩
  rw [Bool.eq_iff_iff, this, this, h]
 ·rw [Nat.testBit_lt_two_pow (Nat.lt_of_lt_of_le ha (Nat.pow_le_pow_right (by decide) (by omega))), Nat.testBit_lt_two_pow (Nat.lt_of_lt_of_le hb (Nat.pow_le_pow_right (by decide) (by omega)))]
theorem lst_len (m n : Nat) : (lst m n).length ≤ n := by
 unfold lst
 rw [List.length_map]
 exact Nat.le_trans (List.length_filter_le _ _) (by simp)
/-! ### Lists that strictly increase -/
theorem getD_of {l : List Int} {i : Nat} (h : i < l.length) : l.getD i 0 = l[i] := by simp [h]
def incr (l : List Int) (n : Int) : Bool := allI (fun k y => decide (0 ≤ y) && (decide (y ≤ n - 1) && (decide (k = 0) || decide (l.getD (k - 1) 0 < y)))) 0 l
theorem incr_iff {l : List Int} {n : Int} : incr l n = true ↔ (∀ y ∈ l, 0 ≤ y ∧ y < n) ∧ l.Pairwise (· < ·) := by
 unfold incr
 rw [allI_iff]
 constructor
 ·intro h
  have hr : ∀ y ∈ l, 0 ≤ y ∧ y < n := fun y hy => by
   obtain ⟨j, hj⟩ := List.getElem?_of_mem hy
   have := h j y hj
   simp at this
   omega
  refine ⟨hr, ?_⟩
  have step : ∀ j a b, l[j]? = some a → l[j + 1]? = some b → a < b := fun j a b ha hb => by
   have := h (j + 1) b hb
   simp at this
   have h3 := this.2.2
   rw [ha] at h3
   simpa using h3
  rw [List.pairwise_iff_getElem]
  intro i j hi hj hij
  have key : ∀ d, ∀ (h1 : i + d + 1 < l.length), l[i] < l[i + d + 1] := by
   intro d
   induction d with
   | zero => intro h1; exact step i _ _ (List.getElem?_eq_getElem hi) (List.getElem?_eq_getElem h1)
   | succ d ih =>
    intro h1
    exact Int.lt_trans (ih (by omega)) (step (i + d + 1) _ _ (List.getElem?_eq_getElem (by omega)) (List.getElem?_eq_getElem h1))
  have := key (j - i - 1) (by omega)
  have e : i + (j - i - 1) + 1 = j := by omega
  simpa [e] using this
 ·rintro ⟨h1, h2⟩ j y hy
  have hm := h1 y (List.mem_of_getElem? hy)
  simp only [Nat.zero_add, Bool.and_eq_true, Bool.or_eq_true, decide_eq_true_eq]
  refine ⟨hm.1, by omega, ?_⟩
  by_cases hj : j = 0
  ·exact .inl hj
  ·right
   have hl := get_lt hy
   have := (List.pairwise_iff_getElem.1 h2) (j - 1) j (by omega) hl (by omega)
   rw [getD_of (show j - 1 < l.length by omega)]
   rw [List.getElem?_eq_getElem hl] at hy
   cases hy
   exact this
end Go.Proofs.YtdgkjgljkgjjiaaGreatDoor
/-
 The best of the sets, by two ways of going through them.
-/
namespace Go.Proofs.YtdgkjgljkgjjiaaGreatDoor
open Go.RowKit
set_option linter.unusedVariables false
/-! ### Orders -/
def lexlt : List Int → List Int → Bool
 | _, [] => false
 | [], _ :: _ => true
 | a :: l, b :: m => decide (a < b) || (decide (a = b) && lexlt l m)
theorem lexlt_cons {a b : Int} {l m : List Int} : lexlt (a :: l) (b :: m) = true ↔ a < b ∨ (a = b ∧ lexlt l m = true) := by simp [lexlt]
theorem lexlt_irrefl : ∀ l, lexlt l l = false
 | [] => rfl
 | a :: l => by simp [lexlt, lexlt_irrefl l]
theorem lexlt_trans : ∀ {a b c : List Int}, lexlt a b = true → lexlt b c = true → lexlt a c = true
 | _, [], _, h, _ => by cases ‹List Int› <;> simp [lexlt] at h
 | _, _ :: _, [], _, h => by simp [lexlt] at h
 | [], _ :: _, _ :: _, _, _ => rfl
 | a :: l, b :: m, c :: q, h1, h2 => by
  rw [lexlt_cons] at *
  rcases h1 with h1 | ⟨rfl, h1⟩
  ·rcases h2 with h2 | ⟨rfl, h2⟩
   ·exact .inl (Int.lt_trans h1 h2)
   ·exact .inl h1
  ·rcases h2 with h2 | ⟨rfl, h2⟩
   ·exact .inl h2
   ·exact .inr ⟨rfl, lexlt_trans h1 h2⟩
theorem lexlt_total : ∀ {a b : List Int}, a ≠ b → lexlt a b = true ∨ lexlt b a = true
 | [], [], h => absurd rfl h
 | [], _ :: _, _ => .inl rfl
 | _ :: _, [], _ => .inr rfl
 | a :: l, b :: m, h => by
  rw [lexlt_cons, lexlt_cons]
  rcases Int.lt_trichotomy a b with h1 | rfl | h1
  ·exact .inl (.inl h1)
  ·rcases lexlt_total (a := l) (b := m) (fun e => h (by rw [e])) with h2 | h2
   ·exact .inl (.inr ⟨rfl, h2⟩)
   ·exact .inr (.inr ⟨rfl, h2⟩)
  ·exact .inr (.inl h1)
def ordB (a b : List Int) : Prop := a.length < b.length ∨ (a.length = b.length ∧ lexlt a b = true)
def bef (cost : List Int → Int) (a b : List Int) : Prop := cost a < cost b ∨ (cost a = cost b ∧ ordB a b)
theorem bef_asymm {cost : List Int → Int} {a b : List Int} (h : bef cost a b) (k : bef cost b a) : False := by
 rcases h with h | ⟨h, h'⟩ <;> rcases k with k | ⟨k, k'⟩
 ·omega
 ·omega
 ·omega
 ·rcases h' with h' | ⟨h', h''⟩ <;> rcases k' with k' | ⟨k', k''⟩
  ·omega
  ·omega
  ·omega
  ·have := lexlt_trans h'' k''
   rw [lexlt_irrefl] at this
   cases this
theorem bef_trans {cost : List Int → Int} {a b c : List Int} (h : bef cost a b) (k : bef cost b c) : bef cost a c := by
 rcases h with h | ⟨h, h'⟩ <;> rcases k with k | ⟨k, k'⟩
 ·exact .inl (by omega)
 ·exact .inl (by omega)
 ·exact .inl (by omega)
 ·refine .inr ⟨by omega, ?_⟩
  rcases h' with h' | ⟨h', h''⟩ <;> rcases k' with k' | ⟨k', k''⟩
  ·exact .inl (by omega)
  ·exact .inl (by omega)
  ·exact .inl (by omega)
  ·exact .inr ⟨by omega, lexlt_trans h'' k''⟩
theorem bef_total {cost : List Int → Int} {a b : List Int} (h : a ≠ b) : bef cost a b ∨ bef cost b a := by
 rcases Int.lt_trichotomy (cost a) (cost b) with h1 | h1 | h1
 ·exact .inl (.inl h1)
 ·rcases Nat.lt_trichotomy a.length b.length with h2 | h2 | h2
  ·exact .inl (.inr ⟨h1, .inl h2⟩)
  ·rcases lexlt_total h with h3 | h3
   ·exact .inl (.inr ⟨h1, .inr ⟨h2, h3⟩⟩)
   ·exact .inr (.inr ⟨h1.symm, .inr ⟨h2.symm, h3⟩⟩)
  ·exact .inr (.inr ⟨h1.symm, .inl h2⟩)
 ·exact .inr (.inl h1)
def befB (cost : List Int → Int) (a b : List Int) : Bool := decide (cost a < cost b) || (decide (cost a = cost b) && (decide (a.length < b.length) || (decide (a.length = b.length) && lexlt a b)))
theorem befB_iff {cost : List Int → Int} {a b : List Int} : befB cost a b = true ↔ bef cost a b := by simp [befB, bef, ordB]
/-- The best of what is in S. -/
def IsBest (S : List Int → Prop) (cost : List Int → Int) (l : List Int) : Prop := S l ∧ ∀ l', S l' → l' ≠ l → bef cost l l'
/-! ### All sets as bits -/
def bestN (cost : List Int → Int) (holds : Nat → Bool) (n : Nat) : Nat → Option (List Int)
 | 0 => none
 | m + 1 => match bestN cost holds n m with
  | none => if holds m then some (lst m n) else none
  | some b => if befB cost (lst m n) b && holds m then some (lst m n) else some b
theorem bestN_spec (cost : List Int → Int) (holds : Nat → Bool) (n : Nat) : ∀ m, m ≤ 2 ^ n → match bestN cost holds n m with
  | none => ∀ j, j < m → holds j = false
  | some b => ∃ j, j < m ∧ b = lst j n ∧ holds j = true ∧ ∀ i, i < m → holds i = true → i ≠ j → bef cost b (lst i n)
 | 0, _ => by simp [bestN]
 | m + 1, hm => by
  have ih := bestN_spec cost holds n m (by omega)
  unfold bestN
  cases hb : bestN cost holds n m with
  | none =>
   rw [hb] at ih
   cases hh : holds m with
   | true =>
    simp only [if_true]
    exact ⟨m, by omega, rfl, hh, fun i hi h1 h2 => by
     have := ih i (by omega); rw [this] at h1; cases h1⟩
   | false =>
    simp only [Bool.false_eq_true, if_false]
    intro j hj
    by_cases e : j = m
    ·subst e; exact hh
    ·exact ih j (by omega)
  | some b =>
   rw [hb] at ih
   obtain ⟨j, h1, rfl, h2, h3⟩ := ih
   have hne : lst m n ≠ lst j n := fun e => by have := lst_inj (by omega) (by omega) e; omega
   dsimp only
   cases hh : holds m with
   | true =>
    cases hbe : befB cost (lst m n) (lst j n) with
    | true =>
     simp only [Bool.and_self, if_true]
     have hbe' := befB_iff.1 hbe
     refine ⟨m, by omega, rfl, hh, fun i hi hi1 hi2 => ?_⟩
     by_cases e : i = j
     ·subst e; exact hbe'
     ·exact bef_trans hbe' (h3 i (by omega) hi1 e)
    | false =>
     simp only [Bool.false_and, Bool.false_eq_true, if_false]
     refine ⟨j, by omega, rfl, h2, fun i hi hi1 hi2 => ?_⟩
     by_cases e : i = m
     ·subst e
      rcases bef_total (cost := cost) hne with h | h
      ·rw [befB_iff.2 h] at hbe; cases hbe
      ·exact h
     ·exact h3 i (by omega) hi1 hi2
   | false =>
    simp only [Bool.and_false, Bool.false_eq_true, if_false]
    refine ⟨j, by omega, rfl, h2, fun i hi hi1 hi2 => ?_⟩
    by_cases e : i = m
    ·subst e; rw [hh] at hi1; cases hi1
    ·exact h3 i (by omega) hi1 hi2
/-! ### Sets and strictly increasing lists -/
theorem sorted_eq : ∀ {a b : List Int}, a.Pairwise (· < ·) → b.Pairwise (· < ·) → (∀ x, x ∈ a ↔ x ∈ b) → a = b
 | [], [], _, _, _ => rfl
 | [], y :: b, _, _, h => by have := (h y).2 (by simp); cases this
 | x :: a, [], _, _, h => by have := (h x).1 (by simp); cases this
 | x :: a, y :: b, ha, hb, h => by
  have ha' := List.pairwise_cons.1 ha
  have hb' := List.pairwise_cons.1 hb
  have hxy : x = y := by
   have h1 : x ∈ y :: b := (h x).1 (by simp)
   have h2 : y ∈ x :: a := (h y).2 (by simp)
   rcases List.mem_cons.1 h1 with e | h1
   ·exact e
   ·rcases List.mem_cons.1 h2 with e | h2
    ·exact e.symm
    ·have := ha'.1 y h2; have := hb'.1 x h1; omega
  subst hxy
  congr 1
  refine sorted_eq ha'.2 hb'.2 fun z => ⟨fun hz => ?_, fun hz => ?_⟩
  ·rcases List.mem_cons.1 ((h z).1 (by simp [hz])) with e | h'
   ·subst e; exact absurd (ha'.1 z hz) (Int.lt_irrefl _)
   ·exact h'
  ·rcases List.mem_cons.1 ((h z).2 (by simp [hz])) with e | h'
   ·subst e; exact absurd (hb'.1 z hz) (Int.lt_irrefl _)
   ·exact h'
theorem lst_sorted (m n : Nat) : (lst m n).Pairwise (· < ·) := by
 unfold lst
 rw [List.pairwise_map]
 refine (List.Pairwise.filter _ List.pairwise_lt_range).imp ?_
 intro a b h; omega
theorem lst_incr (m n : Nat) : incr (lst m n) (n : Int) = true := by
 rw [incr_iff]
 refine ⟨fun y hy => ?_, lst_sorted m n⟩
 obtain ⟨i, h1, _, rfl⟩ := mem_lst.1 hy
 omega
/-- A list as bits. -/
def bitsN (l : List Int) : Nat := l.foldl (fun a y => a ||| 2 ^ y.toNat) 0
theorem foldl_bits (l : List Int) (a i : Nat) : (l.foldl (fun a y => a ||| 2 ^ y.toNat) a).testBit i = (a.testBit i || l.any fun y => decide (y.toNat = i)) := by
 induction l generalizing a with
 | nil => simp
 | cons y l ih =>
  rw [List.foldl_cons, ih, Nat.testBit_or, Nat.testBit_two_pow, List.any_cons, Bool.or_assoc]
theorem bits_mem {l : List Int} (h : ∀ y ∈ l, 0 ≤ y) (i : Nat) : (bitsN l).testBit i = l.contains (i : Int) := by
 unfold bitsN
 rw [foldl_bits, Bool.eq_iff_iff]
 simp only [Nat.zero_testBit, Bool.false_or, List.any_eq_true, decide_eq_true_eq, List.contains_iff_mem]
 constructor
 ·rintro ⟨y, hy, rfl⟩
  have := h y hy
  rwa [Int.toNat_of_nonneg this]
 ·intro hi; exact ⟨_, hi, by simp⟩
theorem bits_lt {l : List Int} {n : Nat} (h : ∀ y ∈ l, 0 ≤ y ∧ y < (n : Int)) : bitsN l < 2 ^ n := by
 have : ∀ (l : List Int) (a : Nat), a < 2 ^ n → (∀ y ∈ l, 0 ≤ y ∧ y < (n : Int)) → l.foldl (fun a y => a ||| 2 ^ y.toNat) a < 2 ^ n := by
  intro l
  induction l with
  | nil => intro a ha _; exact ha
  | cons y l ih =>
   intro a ha hl
   rw [List.foldl_cons]
   refine ih _ (Nat.or_lt_two_pow ha ?_) (fun z hz => hl z (by simp [hz]))
   have := hl y (by simp)
   exact Nat.pow_lt_pow_right (by decide) (by omega)
 exact this l 0 (Nat.two_pow_pos n) h
theorem lst_bits {l : List Int} {n : Nat} (h : incr l (n : Int) = true) : lst (bitsN l) n = l := by
 obtain ⟨h1, h2⟩ := incr_iff.1 h
 refine sorted_eq (lst_sorted _ _) h2 fun x => ?_
 rw [mem_lst]
 constructor
 ·rintro ⟨i, hi, hb, rfl⟩
  rw [bits_mem (fun y hy => (h1 y hy).1)] at hb
  simpa using hb
 ·intro hx
  have := h1 x hx
  refine ⟨x.toNat, by omega, ?_, by omega⟩
  rw [bits_mem (fun y hy => (h1 y hy).1), Int.toNat_of_nonneg this.1]
  simpa using hx
theorem incr_len {l : List Int} {n : Nat} (h : incr l (n : Int) = true) : l.length ≤ n := by
 rw [← lst_bits h]; exact lst_len _ _
/-- What the program finds is the best. -/
theorem bestN_best (cost : List Int → Int) (H : List Int → Bool) (n : Nat) : match bestN cost (fun m => H (lst m n)) n (2 ^ n) with
  | none => ∀ l, incr l (n : Int) = true → H l = false
  | some b => IsBest (fun l => incr l (n : Int) = true ∧ H l = true) cost b := by
 have h := bestN_spec cost (fun m => H (lst m n)) n (2 ^ n) (Nat.le_refl _)
 cases hb : bestN cost (fun m => H (lst m n)) n (2 ^ n) with
 | none =>
  rw [hb] at h
  intro l hl
  have := h (bitsN l) (bits_lt (incr_iff.1 hl).1)
  simp only [lst_bits hl] at this
  exact this
 | some b =>
  rw [hb] at h
  obtain ⟨j, h1, rfl, h2, h3⟩ := h
  refine ⟨⟨lst_incr j n, h2⟩, fun l' ⟨q1, q2⟩ hne => ?_⟩
  have := h3 (bitsN l') (bits_lt (incr_iff.1 q1).1) (by rw [lst_bits q1]; exact q2) (fun e => hne (by rw [← lst_bits q1, e]))
  rwa [lst_bits q1] at this
end Go.Proofs.YtdgkjgljkgjjiaaGreatDoor
/-
  TopGuarded, in plain Lean: the best guards less one do not keep; guards that are taken in their order.
-/
namespace Go.Proofs.YtdgkjgljkgjjiaaGreatDoor
open Go.RowKit
set_option linter.unusedVariables false
theorem less_len {x : Int} {l : List Int} (hx : x ∈ l) : (l.filter fun y => y != x).length < l.length :=
  List.length_filter_lt_length_iff_exists.2 ⟨x, hx, by simp⟩
theorem less_incr {l : List Int} {n : Int} {p : Int → Bool} (h : incr l n = true) : incr (l.filter p) n = true := by
  obtain ⟨h1, h2⟩ := incr_iff.1 h
  exact incr_iff.2 ⟨fun y hy => h1 y (List.mem_filter.1 hy).1, h2.filter p⟩
theorem best_less {cost : List Int → Int} {K : List Int → Bool} {n : Int} {b : List Int} (hb : IsBest (fun l => incr l n = true ∧ K l = true) cost b) {x : Int} (hx : x ∈ b) (hc : cost (b.filter fun y => y != x) ≤ cost b) : K (b.filter fun y => y != x) = false := by
  cases hk : K (b.filter fun y => y != x) with
  | false => rfl
  | true =>
    have hl := less_len hx
    have h1 : bef cost b (b.filter fun y => y != x) := hb.2 _ ⟨less_incr hb.1.1, hk⟩ (fun e => by rw [e] at hl; omega)
    have h2 : bef cost (b.filter fun y => y != x) b := by
      rcases Int.lt_or_eq_of_le hc with h | h
      · exact .inl h
      · exact .inr ⟨h, .inl hl⟩
    exact (bef_asymm h1 h2).elim
theorem take_fresh {l : List Int} {n : Int} (h : incr l n = true) {k : Nat} {y : Int} (hy : l[k]? = some y) : y ∉ l.take k := by
  obtain ⟨_, h2⟩ := incr_iff.1 h
  intro hm
  obtain ⟨i, hi, e⟩ := List.mem_iff_getElem.1 hm
  have hi' : i < k := by have := List.length_take_le k l; omega
  obtain ⟨hk, e2⟩ := List.getElem?_eq_some_iff.1 hy
  rw [List.getElem_take] at e
  have := List.pairwise_iff_getElem.1 h2 i k (by omega) hk hi'
  omega
/-- sums -/
def sumC (price : Int → Int) : List Int → Int
  | [] => 0
  | y :: l => price y + sumC price l
theorem sumC_nonneg {price : Int → Int} : ∀ {l : List Int}, (∀ y ∈ l, 0 ≤ price y) → 0 ≤ sumC price l
  | [], _ => Int.le_refl _
  | y :: l, h => by
    have h1 := h y (List.mem_cons_self)
    have h2 := sumC_nonneg (l := l) fun z hz => h z (List.mem_cons_of_mem _ hz)
    unfold sumC
    omega
theorem sumC_filter {price : Int → Int} {p : Int → Bool} : ∀ {l : List Int}, (∀ y ∈ l, 0 ≤ price y) → sumC price (l.filter p) ≤ sumC price l
  | [], _ => Int.le_refl _
  | y :: l, h => by
    have h1 := h y (List.mem_cons_self)
    have h2 := sumC_filter (p := p) (l := l) fun z hz => h z (List.mem_cons_of_mem _ hz)
    cases hp : p y with
    | true => rw [List.filter_cons_of_pos hp]; show price y + sumC price (l.filter p) ≤ price y + sumC price l; omega
    | false => rw [List.filter_cons_of_neg (by simp [hp])]; show sumC price (l.filter p) ≤ price y + sumC price l; omega
theorem sumC_snoc {price : Int → Int} {y : Int} : ∀ {l : List Int}, sumC price (l ++ [y]) = sumC price l + price y
  | [] => by simp [sumC]
  | z :: l => by
    have h := sumC_snoc (price := price) (y := y) (l := l)
    show price z + sumC price (l ++ [y]) = price z + sumC price l + price y
    omega
theorem sumC_take {price : Int → Int} {l : List Int} {k : Nat} {y : Int} (hy : l[k]? = some y) : sumC price (l.take (k + 1)) = sumC price (l.take k) + price y := by
  obtain ⟨hk, e⟩ := List.getElem?_eq_some_iff.1 hy
  rw [List.take_succ_eq_append_getElem hk, e, sumC_snoc]
theorem sumC_part {price : Int → Int} : ∀ {l : List Int} (k : Nat), (∀ y ∈ l, 0 ≤ price y) → sumC price (l.take k) ≤ sumC price l
  | [], k, _ => by simp
  | y :: l, 0, h => by
    simp only [List.take_zero]
    exact sumC_nonneg h
  | y :: l, k + 1, h => by
    have h2 := sumC_part (l := l) k fun z hz => h z (List.mem_cons_of_mem _ hz)
    rw [List.take_succ_cons]
    show price y + sumC price (l.take k) ≤ price y + sumC price l
    omega
end Go.Proofs.YtdgkjgljkgjjiaaGreatDoor
