/-
  The best of the sets, by two ways of going through them.
-/
import Derived.Test.YtcaflmilfhhikaaDoorSt
namespace Go.Proofs.YtcaflmilfhhikaaDoor
open Go.RowKit
set_option linter.unusedVariables false

/-! ### Orders -/
def lexlt : List Int → List Int → Bool
  | _, [] => false
  | [], _ :: _ => true
  | a :: l, b :: m => decide (a < b) || (decide (a = b) && lexlt l m)
theorem lexlt_cons {a b : Int} {l m : List Int} : lexlt (a :: l) (b :: m) = true ↔ a < b ∨ (a = b ∧ lexlt l m = true) := by simp [lexlt]
theorem lexlt_irrefl : ∀ l, lexlt l l = false
  | [] => rfl
  | a :: l => by simp [lexlt, lexlt_irrefl l]
theorem lexlt_trans : ∀ {a b c : List Int}, lexlt a b = true → lexlt b c = true → lexlt a c = true
  | _, [], _, h, _ => by cases ‹List Int› <;> simp [lexlt] at h
  | _, _ :: _, [], _, h => by simp [lexlt] at h
  | [], _ :: _, _ :: _, _, _ => rfl
  | a :: l, b :: m, c :: q, h1, h2 => by
    rw [lexlt_cons] at *
    rcases h1 with h1 | ⟨rfl, h1⟩
    · rcases h2 with h2 | ⟨rfl, h2⟩
      · exact .inl (Int.lt_trans h1 h2)
      · exact .inl h1
    · rcases h2 with h2 | ⟨rfl, h2⟩
      · exact .inl h2
      · exact .inr ⟨rfl, lexlt_trans h1 h2⟩
theorem lexlt_total : ∀ {a b : List Int}, a ≠ b → lexlt a b = true ∨ lexlt b a = true
  | [], [], h => absurd rfl h
  | [], _ :: _, _ => .inl rfl
  | _ :: _, [], _ => .inr rfl
  | a :: l, b :: m, h => by
    rw [lexlt_cons, lexlt_cons]
    rcases Int.lt_trichotomy a b with h1 | rfl | h1
    · exact .inl (.inl h1)
    · rcases lexlt_total (a := l) (b := m) (fun e => h (by rw [e])) with h2 | h2
      · exact .inl (.inr ⟨rfl, h2⟩)
      · exact .inr (.inr ⟨rfl, h2⟩)
    · exact .inr (.inl h1)
theorem lexlt_app (p : List Int) {a b : List Int} (h : lexlt a b = true) : lexlt (p ++ a) (p ++ b) = true := by
  induction p with
  | nil => exact h
  | cons x p ih => rw [List.cons_append, List.cons_append, lexlt_cons]; exact .inr ⟨rfl, ih⟩
theorem lexlt_ext : ∀ {a b : List Int} (x y : List Int), a.length = b.length → lexlt a b = true → lexlt (a ++ x) (b ++ y) = true
  | _, [], _, _, _, h => by cases ‹List Int› <;> simp [lexlt] at h
  | [], _ :: _, _, _, h, _ => by simp at h
  | a :: l, b :: m, x, y, hl, h => by
    rw [List.cons_append, List.cons_append, lexlt_cons]
    rw [lexlt_cons] at h
    rcases h with h | ⟨rfl, h⟩
    · exact .inl h
    · exact .inr ⟨rfl, lexlt_ext x y (by simpa using hl) h⟩
def ordB (a b : List Int) : Prop := a.length < b.length ∨ (a.length = b.length ∧ lexlt a b = true)
def bef (cost : List Int → Int) (a b : List Int) : Prop := cost a < cost b ∨ (cost a = cost b ∧ ordB a b)
theorem bef_asymm {cost : List Int → Int} {a b : List Int} (h : bef cost a b) (k : bef cost b a) : False := by
  rcases h with h | ⟨h, h'⟩ <;> rcases k with k | ⟨k, k'⟩
  · omega
  · omega
  · omega
  · rcases h' with h' | ⟨h', h''⟩ <;> rcases k' with k' | ⟨k', k''⟩
    · omega
    · omega
    · omega
    · have := lexlt_trans h'' k''
      rw [lexlt_irrefl] at this
      cases this
theorem bef_trans {cost : List Int → Int} {a b c : List Int} (h : bef cost a b) (k : bef cost b c) : bef cost a c := by
  rcases h with h | ⟨h, h'⟩ <;> rcases k with k | ⟨k, k'⟩
  · exact .inl (by omega)
  · exact .inl (by omega)
  · exact .inl (by omega)
  · refine .inr ⟨by omega, ?_⟩
    rcases h' with h' | ⟨h', h''⟩ <;> rcases k' with k' | ⟨k', k''⟩
    · exact .inl (by omega)
    · exact .inl (by omega)
    · exact .inl (by omega)
    · exact .inr ⟨by omega, lexlt_trans h'' k''⟩
theorem bef_total {cost : List Int → Int} {a b : List Int} (h : a ≠ b) : bef cost a b ∨ bef cost b a := by
  rcases Int.lt_trichotomy (cost a) (cost b) with h1 | h1 | h1
  · exact .inl (.inl h1)
  · rcases Nat.lt_trichotomy a.length b.length with h2 | h2 | h2
    · exact .inl (.inr ⟨h1, .inl h2⟩)
    · rcases lexlt_total h with h3 | h3
      · exact .inl (.inr ⟨h1, .inr ⟨h2, h3⟩⟩)
      · exact .inr (.inr ⟨h1.symm, .inr ⟨h2.symm, h3⟩⟩)
    · exact .inr (.inr ⟨h1.symm, .inl h2⟩)
  · exact .inr (.inl h1)
def befB (cost : List Int → Int) (a b : List Int) : Bool := decide (cost a < cost b) || (decide (cost a = cost b) && (decide (a.length < b.length) || (decide (a.length = b.length) && lexlt a b)))
theorem befB_iff {cost : List Int → Int} {a b : List Int} : befB cost a b = true ↔ bef cost a b := by simp [befB, bef, ordB]
/-- The best of what is in S. -/
def IsBest (S : List Int → Prop) (cost : List Int → Int) (l : List Int) : Prop := S l ∧ ∀ l', S l' → l' ≠ l → bef cost l l'
theorem IsBest.unique {S : List Int → Prop} {cost : List Int → Int} {a b : List Int} (ha : IsBest S cost a) (hb : IsBest S cost b) : a = b := by
  rcases Classical.em (a = b) with h | h
  · exact h
  · exact (bef_asymm (ha.2 b hb.1 (fun e => h e.symm)) (hb.2 a ha.1 h)).elim

/-! ### All sets as bits -/
def bestN (cost : List Int → Int) (holds : Nat → Bool) (n : Nat) : Nat → Option (List Int)
  | 0 => none
  | m + 1 => match bestN cost holds n m with
    | none => if holds m then some (lst m n) else none
    | some b => if befB cost (lst m n) b && holds m then some (lst m n) else some b
theorem bestN_spec (cost : List Int → Int) (holds : Nat → Bool) (n : Nat) : ∀ m, m ≤ 2 ^ n → match bestN cost holds n m with
    | none => ∀ j, j < m → holds j = false
    | some b => ∃ j, j < m ∧ b = lst j n ∧ holds j = true ∧ ∀ i, i < m → holds i = true → i ≠ j → bef cost b (lst i n)
  | 0, _ => by simp [bestN]
  | m + 1, hm => by
    have ih := bestN_spec cost holds n m (by omega)
    unfold bestN
    cases hb : bestN cost holds n m with
    | none =>
      rw [hb] at ih
      cases hh : holds m with
      | true =>
        simp only [if_true]
        exact ⟨m, by omega, rfl, hh, fun i hi h1 h2 => by
          have := ih i (by omega); rw [this] at h1; cases h1⟩
      | false =>
        simp only [Bool.false_eq_true, if_false]
        intro j hj
        by_cases e : j = m
        · subst e; exact hh
        · exact ih j (by omega)
    | some b =>
      rw [hb] at ih
      obtain ⟨j, h1, rfl, h2, h3⟩ := ih
      have hne : lst m n ≠ lst j n := fun e => by have := lst_inj (by omega) (by omega) e; omega
      dsimp only
      cases hh : holds m with
      | true =>
        cases hbe : befB cost (lst m n) (lst j n) with
        | true =>
          simp only [Bool.and_self, if_true]
          have hbe' := befB_iff.1 hbe
          refine ⟨m, by omega, rfl, hh, fun i hi hi1 hi2 => ?_⟩
          by_cases e : i = j
          · subst e; exact hbe'
          · exact bef_trans hbe' (h3 i (by omega) hi1 e)
        | false =>
          simp only [Bool.false_and, Bool.false_eq_true, if_false]
          refine ⟨j, by omega, rfl, h2, fun i hi hi1 hi2 => ?_⟩
          by_cases e : i = m
          · subst e
            rcases bef_total (cost := cost) hne with h | h
            · rw [befB_iff.2 h] at hbe; cases hbe
            · exact h
          · exact h3 i (by omega) hi1 hi2
      | false =>
        simp only [Bool.and_false, Bool.false_eq_true, if_false]
        refine ⟨j, by omega, rfl, h2, fun i hi hi1 hi2 => ?_⟩
        by_cases e : i = m
        · subst e; rw [hh] at hi1; cases hi1
        · exact h3 i (by omega) hi1 hi2
/-! ### Sets and strictly increasing lists -/
theorem sorted_eq : ∀ {a b : List Int}, a.Pairwise (· < ·) → b.Pairwise (· < ·) → (∀ x, x ∈ a ↔ x ∈ b) → a = b
  | [], [], _, _, _ => rfl
  | [], y :: b, _, _, h => by have := (h y).2 (by simp); cases this
  | x :: a, [], _, _, h => by have := (h x).1 (by simp); cases this
  | x :: a, y :: b, ha, hb, h => by
    have ha' := List.pairwise_cons.1 ha
    have hb' := List.pairwise_cons.1 hb
    have hxy : x = y := by
      have h1 : x ∈ y :: b := (h x).1 (by simp)
      have h2 : y ∈ x :: a := (h y).2 (by simp)
      rcases List.mem_cons.1 h1 with e | h1
      · exact e
      · rcases List.mem_cons.1 h2 with e | h2
        · exact e.symm
        · have := ha'.1 y h2; have := hb'.1 x h1; omega
    subst hxy
    congr 1
    refine sorted_eq ha'.2 hb'.2 fun z => ⟨fun hz => ?_, fun hz => ?_⟩
    · rcases List.mem_cons.1 ((h z).1 (by simp [hz])) with e | h'
      · subst e; exact absurd (ha'.1 z hz) (Int.lt_irrefl _)
      · exact h'
    · rcases List.mem_cons.1 ((h z).2 (by simp [hz])) with e | h'
      · subst e; exact absurd (hb'.1 z hz) (Int.lt_irrefl _)
      · exact h'
theorem lst_sorted (m n : Nat) : (lst m n).Pairwise (· < ·) := by
  unfold lst
  rw [List.pairwise_map]
  refine (List.Pairwise.filter _ List.pairwise_lt_range).imp ?_
  intro a b h; omega
theorem lst_incr (m n : Nat) : incr (lst m n) (n : Int) = true := by
  rw [incr_iff]
  refine ⟨fun y hy => ?_, lst_sorted m n⟩
  obtain ⟨i, h1, _, rfl⟩ := mem_lst.1 hy
  omega
/-- A list as bits. -/
def bitsN (l : List Int) : Nat := l.foldl (fun a y => a ||| 2 ^ y.toNat) 0
theorem foldl_bits (l : List Int) (a i : Nat) : (l.foldl (fun a y => a ||| 2 ^ y.toNat) a).testBit i = (a.testBit i || l.any fun y => decide (y.toNat = i)) := by
  induction l generalizing a with
  | nil => simp
  | cons y l ih =>
    rw [List.foldl_cons, ih, Nat.testBit_or, Nat.testBit_two_pow, List.any_cons, Bool.or_assoc]
theorem bits_mem {l : List Int} (h : ∀ y ∈ l, 0 ≤ y) (i : Nat) : (bitsN l).testBit i = l.contains (i : Int) := by
  unfold bitsN
  rw [foldl_bits, Bool.eq_iff_iff]
  simp only [Nat.zero_testBit, Bool.false_or, List.any_eq_true, decide_eq_true_eq, List.contains_iff_mem]
  constructor
  · rintro ⟨y, hy, rfl⟩
    have := h y hy
    rwa [Int.toNat_of_nonneg this]
  · intro hi; exact ⟨_, hi, by simp⟩
theorem bits_lt {l : List Int} {n : Nat} (h : ∀ y ∈ l, 0 ≤ y ∧ y < (n : Int)) : bitsN l < 2 ^ n := by
  have : ∀ (l : List Int) (a : Nat), a < 2 ^ n → (∀ y ∈ l, 0 ≤ y ∧ y < (n : Int)) → l.foldl (fun a y => a ||| 2 ^ y.toNat) a < 2 ^ n := by
    intro l
    induction l with
    | nil => intro a ha _; exact ha
    | cons y l ih =>
      intro a ha hl
      rw [List.foldl_cons]
      refine ih _ (Nat.or_lt_two_pow ha ?_) (fun z hz => hl z (by simp [hz]))
      have := hl y (by simp)
      exact Nat.pow_lt_pow_right (by decide) (by omega)
  exact this l 0 (Nat.two_pow_pos n) h
theorem lst_bits {l : List Int} {n : Nat} (h : incr l (n : Int) = true) : lst (bitsN l) n = l := by
  obtain ⟨h1, h2⟩ := incr_iff.1 h
  refine sorted_eq (lst_sorted _ _) h2 fun x => ?_
  rw [mem_lst]
  constructor
  · rintro ⟨i, hi, hb, rfl⟩
    rw [bits_mem (fun y hy => (h1 y hy).1)] at hb
    simpa using hb
  · intro hx
    have := h1 x hx
    refine ⟨x.toNat, by omega, ?_, by omega⟩
    rw [bits_mem (fun y hy => (h1 y hy).1), Int.toNat_of_nonneg this.1]
    simpa using hx
theorem incr_len {l : List Int} {n : Nat} (h : incr l (n : Int) = true) : l.length ≤ n := by
  rw [← lst_bits h]; exact lst_len _ _
/-- What the program finds is the best. -/
theorem bestN_best (cost : List Int → Int) (H : List Int → Bool) (n : Nat) : match bestN cost (fun m => H (lst m n)) n (2 ^ n) with
    | none => ∀ l, incr l (n : Int) = true → H l = false
    | some b => IsBest (fun l => incr l (n : Int) = true ∧ H l = true) cost b := by
  have h := bestN_spec cost (fun m => H (lst m n)) n (2 ^ n) (Nat.le_refl _)
  cases hb : bestN cost (fun m => H (lst m n)) n (2 ^ n) with
  | none =>
    rw [hb] at h
    intro l hl
    have := h (bitsN l) (bits_lt (incr_iff.1 hl).1)
    simp only [lst_bits hl] at this
    exact this
  | some b =>
    rw [hb] at h
    obtain ⟨j, h1, rfl, h2, h3⟩ := h
    refine ⟨⟨lst_incr j n, h2⟩, fun l' ⟨q1, q2⟩ hne => ?_⟩
    have := h3 (bitsN l') (bits_lt (incr_iff.1 q1).1) (by rw [lst_bits q1]; exact q2) (fun e => hne (by rw [← lst_bits q1, e]))
    rwa [lst_bits q1] at this
end Go.Proofs.YtcaflmilfhhikaaDoor
