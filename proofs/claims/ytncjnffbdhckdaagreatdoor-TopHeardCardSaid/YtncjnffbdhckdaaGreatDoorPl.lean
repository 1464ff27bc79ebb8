/-
 Plain loops: what a loop over the elements of a list gives, as a recursion over the list.
-/
import Derived.Test.YtncjnffbdhckdaaGreatDoorFn
namespace Go.Proofs.YtncjnffbdhckdaaGreatDoor
open Go.RowKit
theorem wrap_id {x : Int} (h1 : -9223372036854775808 ≤ x) (h2 : x < 9223372036854775808) : IntKind.i64.wrap x = x := by
 rw [IntKind.wrap_i64]; omega
theorem ix_nat {α : Type} (xs : List α) (k : Nat) : ix xs (k : Int) = xs[k]? := by simp [ix]
def goL {α τ ρ : Type} (f : Nat → α → τ → Option (τ ⊕ ρ)) (fin : τ → ρ) : Nat → List α → τ → Option ρ
 | _, [], t => some (fin t)
 | k, y :: ys, t => match f k y t with
  | none => none
  | some (.inl t') => goL f fin (k + 1) ys t'
  | some (.inr r) => some r
theorem lp_goL {α σ τ ρ : Type} {body : σ → Option (σ ⊕ ρ)} (enc : Nat → τ → σ) (xs : List α) (f : Nat → α → τ → Option (τ ⊕ ρ)) (fin : τ → ρ)
  (h1 : ∀ k t y, xs[k]? = some y → body (enc k t) = (f k y t).map (Sum.map (enc (k + 1)) id)) (h2 : ∀ t, body (enc xs.length t) = some (.inr (fin t))) (t : τ) :
  lp body (enc 0 t) = goL f fin 0 xs t := by
 have key : ∀ (ys : List α) (k : Nat) (t : τ), xs.drop k = ys → k ≤ xs.length → lp body (enc k t) = goL f fin k ys t := by
  intro ys
  induction ys with
  | nil =>
   intro k t hd hk
   have : k = xs.length := by have := List.drop_eq_nil_iff.1 hd; omega
   subst this
   rw [lp_eq, h2]; rfl
  | cons y ys ih =>
   intro k t hd hk
   have hlt : k < xs.length := by
    rcases Nat.lt_or_ge k xs.length with h | h
    ·exact h
    ·rw [List.drop_eq_nil_of_le h] at hd; cases hd
   rw [List.drop_eq_getElem_cons hlt] at hd
   injection hd with hy hd
   rw [lp_eq, h1 k t y (by rw [List.getElem?_eq_getElem hlt, hy])]
   cases hs : f k y t with
   | none => simp [goL, hs]
   | some s =>
    cases s with
    | inl t' =>
     simp only [goL, hs, Option.map_some, Sum.map_inl]
     exact ih (k + 1) t' hd hlt
    | inr r => simp [goL, hs]
 exact key xs 0 t rfl (Nat.zero_le _)
theorem get_lt {α : Type} {xs : List α} {k : Nat} {y : α} (h : xs[k]? = some y) : k < xs.length := (List.getElem?_eq_some_iff.1 h).1
def allI {α : Type} (p : Nat → α → Bool) : Nat → List α → Bool
 | _, [] => true
 | k, y :: ys => p k y && allI p (k + 1) ys
theorem goL_all {α ρ : Type} (p : Nat → α → Bool) (b : ρ) (fin : Unit → ρ) : ∀ (xs : List α) (k : Nat), goL (fun k y (_ : Unit) => some (if p k y = true then .inl () else .inr b)) fin k xs () = some (if allI p k xs = true then fin () else b)
 | [], _ => by simp [goL, allI]
 | y :: ys, k => by
  have ih := goL_all p b fin ys (k + 1)
  by_cases h : p k y = true
  ·simp only [goL, allI, h, if_true, Bool.true_and]; exact ih
  ·simp [goL, allI, h]
theorem allI_iff {α : Type} (p : Nat → α → Bool) : ∀ (xs : List α) (k : Nat), allI p k xs = true ↔ ∀ j y, xs[j]? = some y → p (k + j) y = true
 | [], k => by simp [allI]
 | y :: ys, k => by
  rw [allI, Bool.and_eq_true, allI_iff p ys (k + 1)]
  constructor
  ·rintro ⟨h1, h2⟩ j z hz
   cases j with
   | zero => simp at hz; subst hz; exact h1
   | succ j => simp at hz; have := h2 j z hz; rwa [show k + 1 + j = k + (j + 1) by omega] at this
  ·intro h
   refine ⟨h 0 y (by simp), fun j z hz => ?_⟩
   have := h (j + 1) z (by simpa using hz)
   rwa [show k + (j + 1) = k + 1 + j by omega] at this
theorem lp_all {α σ ρ : Type} {body : σ → Option (σ ⊕ ρ)} (xs : List α) (p : Nat → α → Bool) (b r : ρ) (enc : Nat → σ) (h1 : ∀ k y, xs[k]? = some y → body (enc k) = some (if p k y = true then .inl (enc (k + 1)) else .inr b)) (h2 : body (enc xs.length) = some (.inr r)) :
  lp body (enc 0) = some (if allI p 0 xs = true then r else b) := by
 rw [← goL_all p b (fun _ => r) xs 0]
 refine lp_goL (fun k (_ : Unit) => enc k) xs _ _ ?_ ?_ ()
 ·intro k t y hy
  rw [h1 k y hy]
  by_cases h : p k y = true <;> simp [h]
 ·intro t; exact h2
theorem lp_thru {α σ ρ : Type} {body : σ → Option (σ ⊕ ρ)} (xs : List α) (r : ρ) (enc : Nat → σ) (h1 : ∀ k y, xs[k]? = some y → body (enc k) = some (.inl (enc (k + 1)))) (h2 : body (enc xs.length) = some (.inr r)) :
  lp body (enc 0) = some r := by
 have := lp_all xs (fun _ _ => true) r r enc (fun k y hy => by rw [h1 k y hy]; rfl) h2
 rw [this]; split <;> rfl
end Go.Proofs.YtncjnffbdhckdaaGreatDoor
/-
 Sets as bits, as lists, and the best of them.
-/
namespace Go.Proofs.YtncjnffbdhckdaaGreatDoor
open Go.RowKit
set_option linter.unusedVariables false
/-! ### Bits -/
def bitI (s : Int) (i : Nat) : Bool := andI .i64 (s.fdiv (2 ^ min i 64)) 1 == 1
theorem shr_nat (s : Int) (i : Nat) : shrI .i64 s (i : Int) = some (s.fdiv (2 ^ min i 64)) := by
 unfold shrI
 rw [if_neg (by omega)]
 rfl
theorem fdiv_nat (m k : Nat) : ((m : Int)).fdiv (2 ^ k) = ((m / 2 ^ k : Nat) : Int) := by
 rw [Int.fdiv_eq_ediv_of_nonneg _ (by exact Int.le_of_lt (Int.pow_pos (by decide)))]
 have : ((2 : Int) ^ k) = ((2 ^ k : Nat) : Int) := by simp
 rw [this, ← Int.natCast_ediv]
theorem andI_one (q : Nat) : andI .i64 (q : Int) 1 = ((q % 2 : Nat) : Int) := by
 unfold andI
 have h : (BitVec.ofInt IntKind.i64.bits (q : Int) &&& BitVec.ofInt IntKind.i64.bits 1).toNat = q % 2 := by
  show (BitVec.ofInt 64 (q : Int) &&& BitVec.ofInt 64 1).toNat = q % 2
  have h1 : BitVec.ofInt 64 (q : Int) = BitVec.ofNat 64 q := by apply BitVec.eq_of_toNat_eq; simp
  rw [h1, BitVec.toNat_and]
  have h2 : (BitVec.ofInt 64 1).toNat = 1 := by decide
  rw [h2, BitVec.toNat_ofNat, Nat.and_one_is_mod]
  omega
 rw [h, wrap_id] <;> omega
theorem bitI_nat (m i : Nat) (hm : m < 2 ^ 62) : bitI (m : Int) i = m.testBit i := by
 unfold bitI
 rw [fdiv_nat, andI_one, Nat.testBit_eq_decide_div_mod_eq]
 by_cases hi : i ≤ 64
 ·rw [Nat.min_eq_left hi]
  generalize m / 2 ^ i = q
  rw [Bool.eq_iff_iff, beq_iff_eq, decide_eq_true_eq]
  omega
 ·rw [Nat.min_eq_right (by omega)]
  have e1 : m / 2 ^ 64 = 0 := Nat.div_eq_of_lt (by omega)
  have e2 : m / 2 ^ i = 0 := Nat.div_eq_of_lt (Nat.lt_of_lt_of_le (show m < 2 ^ 64 by omega) (Nat.pow_le_pow_right (by decide) (by omega)))
  rw [e1, e2]; rfl
theorem shl_nat (n : Nat) (hn : n ≤ 61) : shlI .i64 1 (n : Int) = some (((2 ^ n : Nat)) : Int) := by
 unfold shlI
 rw [if_neg (by omega)]
 have h1 : min ((n : Int)).toNat IntKind.i64.bits = n := by
  show min ((n : Int)).toNat 64 = n
  simp
  omega
 rw [h1]
 have h2 : (1 : Int) * 2 ^ n = ((2 ^ n : Nat) : Int) := by simp
 have h3 : 2 ^ n ≤ 2305843009213693952 := Nat.le_trans (Nat.pow_le_pow_right (by decide) hn) (by decide)
 rw [h2]
 generalize 2 ^ n = q at h3
 rw [wrap_id] <;> omega
/-! ### Lists that strictly increase -/
end Go.Proofs.YtncjnffbdhckdaaGreatDoor
