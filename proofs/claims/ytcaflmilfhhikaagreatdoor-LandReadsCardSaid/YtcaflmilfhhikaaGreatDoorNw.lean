/-
  Plain: decimal numerals, what a number's word says, texts cut at a byte.
-/
import Derived.Test.YtcaflmilfhhikaaGreatDoorBaseQ
import Derived.Lib.AtoiAllCases
import Derived.Lib.ItoaLen
import Derived.Lib.ItoaMem
import Derived.Lib.SplitLaws
namespace Go.Proofs.YtcaflmilfhhikaaGreatDoor
open Go.RowKit Go.Lib
set_option linter.unusedVariables false

/-! ### Numerals -/
def isDg (c : UInt8) : Bool := decide (48 ≤ c.toNat) && decide (c.toNat ≤ 57)
theorem u8_dg {i : Nat} (h : i < 10) : (UInt8.ofNat (48 + i)).toNat = 48 + i := by
  rw [UInt8.toNat_ofNat']; omega
theorem dec_dig (u : Nat) : ∀ c ∈ decDigits u, isDg c = true := by
  induction u using Nat.strongRecOn with
  | _ u ih =>
    intro c hc
    rw [decDigits] at hc
    split at hc
    · rename_i h
      rw [List.mem_singleton] at hc
      subst hc
      simp [isDg]
      omega
    · rcases List.mem_append.1 hc with h | h
      · exact ih _ (by omega) c h
      · rw [List.mem_singleton] at h
        subst h
        have h10 : u % 10 < 10 := Nat.mod_lt _ (by decide)
        simp [isDg]
        omega
theorem dec_ne (u : Nat) : decDigits u ≠ [] := by
  intro h
  have := decDigits_length u
  rw [h] at this
  have := nDigits_pos u
  simp at *
  omega
theorem dec_cons (u : Nat) : ∃ c r, decDigits u = c :: r ∧ isDg c = true := by
  cases h : decDigits u with
  | nil => exact absurd h (dec_ne u)
  | cons c r => exact ⟨c, r, rfl, dec_dig u c (by rw [h]; simp)⟩
theorem parse_snoc (c : UInt8) : ∀ (l : List UInt8) (acc : Nat) (v : Nat), parseUint10 acc l = .ok v → parseUint10 acc (l ++ [c]) = parseUint10 v [c]
  | [], acc, v, h => by
    simp only [parseUint10] at h
    cases h
    rfl
  | d :: r, acc, v, h => by
    simp only [List.cons_append]
    rw [parseUint10] at h ⊢
    split at h
    · rename_i h1
      rw [if_pos h1]
      split at h
      · cases h
      · rename_i h2
        rw [if_neg h2]
        split at h
        · cases h
        · rename_i h3
          rw [if_neg h3]
          exact parse_snoc c r _ v h
    · cases h
theorem parse_one {acc i : Nat} (hi : i < 10) (ha : acc < 1000000000000000000) : parseUint10 acc [UInt8.ofNat (48 + i)] = .ok (acc * 10 + i) := by
  rw [parseUint10, u8_dg hi, if_pos ⟨by omega, by omega⟩, if_neg (by omega), if_neg (by omega), parseUint10]
  congr 1
  omega
theorem parse_dec (u : Nat) (hu : u < 1000000000000000000) : parseUint10 0 (decDigits u) = .ok u := by
  induction u using Nat.strongRecOn with
  | _ u ih =>
    rw [decDigits]
    split
    · rename_i h
      rw [parse_one h (by omega)]
      congr 1
      omega
    · rw [parse_snoc _ _ _ _ (ih (u / 10) (by omega) (by omega)), parse_one (Nat.mod_lt _ (by decide)) (by omega)]
      congr 1
      omega
theorem atoi_dec (u : Nat) (hu : u < 1000000000000000000) : atoiAll (decDigits u) = .ok (u : Int) := by
  obtain ⟨c, r, h, hc⟩ := dec_cons u
  have hp := parse_dec u hu
  rw [h] at hp ⊢
  simp [isDg] at hc
  rw [atoiAll_plain _ _ (by omega) (by omega), parseMag, if_neg (by simp), hp]
  show signless (.ok u) = _
  simp only [signless]
  rw [if_neg (by omega)]
/-- What a word says that is a numeral of four digits at most. -/
def wordN (w : List UInt8) (m : Int) : Prop := w = itoa m ∧ -9999 ≤ m ∧ m ≤ 9999
theorem itoa_nat (u : Nat) : itoa (u : Int) = decDigits u := itoa_nonneg u
theorem len4 {u : Nat} (h : (decDigits u).length ≤ 4) : u ≤ 9999 := by
  rw [decDigits_length] at h
  have h1 := lt_pow_nDigits u
  have h2 : 10 ^ nDigits u ≤ 10 ^ 4 := Nat.pow_le_pow_right (by decide) h
  omega
theorem nDigits_le4 {u : Nat} (h : u ≤ 9999) : nDigits u ≤ 4 := by
  by_cases h1 : u < 10
  · rw [nDigits_small h1]; decide
  · rw [nDigits_big h1]
    by_cases h2 : u / 10 < 10
    · rw [nDigits_small h2]; decide
    · rw [nDigits_big h2]
      by_cases h3 : u / 10 / 10 < 10
      · rw [nDigits_small h3]; decide
      · rw [nDigits_big h3, nDigits_small (by omega)]; decide
theorem dec_len4 {u : Nat} (h : u ≤ 9999) : (decDigits u).length ≤ 4 := by rw [decDigits_length]; exact nDigits_le4 h
theorem itoa_len {n : Int} (h0 : -9999 ≤ n) (h1 : n ≤ 9999) : (itoa n).length ≤ 5 := by
  unfold itoa
  split
  · have := dec_len4 (u := n.natAbs) (by omega)
    simp only [List.length_cons]; omega
  · have := dec_len4 (u := n.toNat) (by omega)
    omega
/-- The bytes of a numeral. -/
def isNb (c : UInt8) : Bool := isDg c || c == 45
theorem itoa_nb (n : Int) : ∀ c ∈ itoa n, isNb c = true := by
  intro c hc
  unfold itoa at hc
  split at hc
  · rcases List.mem_cons.1 hc with rfl | h
    · rfl
    · simp [isNb, dec_dig _ c h]
  · simp [isNb, dec_dig _ c hc]
theorem nb_ne {c d : UInt8} (hc : isNb c = true) (hd : isNb d = false) : c ≠ d := fun e => by rw [e, hd] at hc; cases hc
theorem itoa_free (n : Int) {d : UInt8} (hd : isNb d = false) : d ∉ itoa n := fun h => nb_ne (itoa_nb n d h) hd rfl
theorem itoa_ne (n : Int) : itoa n ≠ [] := by
  unfold itoa
  split
  · simp
  · exact dec_ne _
theorem itoa_neg' {n : Int} (h : 0 < n) : itoa (-n) = 45 :: itoa n := by
  obtain ⟨u, rfl⟩ : ∃ u : Nat, n = u := ⟨n.toNat, by omega⟩
  rw [itoa_nat, itoa_neg u (by omega)]
/-- What the word's test says: the digits behind a sign. -/
theorem wordN_of {w ds : List UInt8} {n : Int} (hw : w = ds ∨ w = 45 :: ds) (h0 : 0 ≤ n) (h4 : ds.length ≤ 4) (hi : itoa n = ds) (hz : 0 < n ∨ w = ds) : wordN w (if w = ds then n else -n) := by
  obtain ⟨u, rfl⟩ : ∃ u : Nat, n = u := ⟨n.toNat, by omega⟩
  have hu : u ≤ 9999 := len4 (by rw [← itoa_nat, hi]; exact h4)
  split
  · rename_i e
    exact ⟨by rw [e, hi], by omega, by omega⟩
  · rename_i e
    have hp : 0 < (u : Int) := by
      rcases hz with h | h
      · exact h
      · exact absurd h e
    rcases hw with h | h
    · exact absurd h e
    · exact ⟨by rw [itoa_neg' hp, hi, h], by omega, by omega⟩
/-- A numeral's digits behind its sign. -/
theorem wordN_parts {m : Int} (h0 : -9999 ≤ m) (h1 : m ≤ 9999) : ∃ (u : Nat), u ≤ 9999 ∧ atoiAll (decDigits u) = .ok (u : Int) ∧ (decDigits u).length ≤ 4 ∧ itoa (u : Int) = decDigits u ∧ ((0 ≤ m ∧ m = u ∧ itoa m = decDigits u) ∨ (m < 0 ∧ m = -(u : Int) ∧ 0 < u ∧ itoa m = 45 :: decDigits u)) := by
  by_cases h : 0 ≤ m
  · refine ⟨m.toNat, by omega, atoi_dec _ (by omega), dec_len4 (by omega), itoa_nat _, .inl ⟨h, by omega, ?_⟩⟩
    unfold itoa
    rw [if_neg (by omega)]
  · refine ⟨(-m).toNat, by omega, atoi_dec _ (by omega), dec_len4 (by omega), itoa_nat _, .inr ⟨by omega, by omega, by omega, ?_⟩⟩
    unfold itoa
    rw [if_pos (by omega)]
    congr 2
    omega
theorem dec_head (u : Nat) : ∀ r, decDigits u ≠ 45 :: r := fun r e => by
  have := dec_dig u 45 (by rw [e]; simp)
  simp [isDg] at this

/-! ### A text that is cut at a byte -/
def splL (c : UInt8) : List UInt8 → List (List UInt8)
  | [] => [[]]
  | x :: r => if x = c then [] :: splL c r else match splL c r with
    | [] => [[x]]
    | h :: t => (x :: h) :: t
theorem splL_ne (c : UInt8) : ∀ s, splL c s ≠ []
  | [] => by simp [splL]
  | x :: r => by
    rw [splL]
    split
    · simp
    · split <;> simp
theorem splL_eq (c : UInt8) : ∀ (s : List UInt8), split s [c] = splL c s
  | [] => by simp [split, count_one, splitK, splL]
  | x :: r => by
    have ih := splL_eq c r
    unfold split at ih ⊢
    rw [splL]
    by_cases h : x = c
    · subst h
      rw [if_pos rfl, count_cons_eq, Nat.add_comm, splitK]
      have hix : index (x :: r) [x] = 0 := by rw [index]; simp [List.isPrefixOf]
      rw [hix]
      simpa using ih
    · rw [if_neg h, count_cons_ne x c r h]
      have hp : ([c] : List UInt8).isPrefixOf (x :: r) = false := by simp [List.isPrefixOf, Ne.symm h]
      have hix : index (x :: r) [c] = if index r [c] == -1 then -1 else index r [c] + 1 := by rw [index, hp]; simp
      cases hk : count r [c] with
      | zero =>
        rw [hk, splitK] at ih
        rw [splitK, ← ih]
      | succ k =>
        rw [hk] at ih
        have hm : index r [c] ≠ -1 := fun e => by rw [count_miss e] at hk; cases hk
        have hge := index_ge r [c]
        obtain ⟨j, hj⟩ : ∃ j : Nat, index r [c] = j := ⟨(index r [c]).toNat, by omega⟩
        have hx : index (x :: r) [c] = ((j + 1 : Nat) : Int) := by rw [hix, if_neg (fun e => hm (beq_iff_eq.1 e)), hj]; omega
        have e1 : ∀ z : Nat, ((z : Int) == -1) = false := fun z => by simp
        rw [splitK, hj, e1] at ih
        rw [splitK, hx, e1, ← ih]
        simp
theorem splL_free (c : UInt8) : ∀ (a : List UInt8), c ∉ a → splL c a = [a]
  | [], _ => rfl
  | x :: r, h => by
    rw [List.mem_cons, not_or] at h
    rw [splL, if_neg (Ne.symm h.1), splL_free c r h.2]
theorem splL_cut (c : UInt8) (b : List UInt8) : ∀ (a : List UInt8), c ∉ a → splL c (a ++ c :: b) = a :: splL c b
  | [], _ => by rw [List.nil_append, splL, if_pos rfl]
  | x :: r, h => by
    rw [List.mem_cons, not_or] at h
    rw [List.cons_append, splL, if_neg (Ne.symm h.1), splL_cut c b r h.2]
theorem splL_words (c : UInt8) : ∀ (xs : List (List UInt8)) (w : List UInt8), c ∉ w → (∀ x ∈ xs, c ∉ x) → splL c (w ++ xs.flatMap (c :: ·)) = w :: xs
  | [], w, hw, _ => by simpa using splL_free c w hw
  | x :: xs, w, hw, h => by
    rw [List.flatMap_cons, List.cons_append, splL_cut c _ w hw, splL_words c xs x (h x (by simp)) fun y hy => h y (by simp [hy])]
/-- Lines, each with its end. -/
def unl (ls : List (List UInt8)) : List UInt8 := ls.flatMap (· ++ [10])
theorem unl_append (a b : List (List UInt8)) : unl (a ++ b) = unl a ++ unl b := by simp [unl]
theorem splL_unl : ∀ (ls : List (List UInt8)) (z : List UInt8), (∀ x ∈ ls, 10 ∉ x) → 10 ∉ z → splL 10 (unl ls ++ z) = ls ++ [z]
  | [], z, _, hz => by simpa [unl] using splL_free 10 z hz
  | l :: ls, z, h, hz => by
    have e : unl (l :: ls) ++ z = l ++ 10 :: (unl ls ++ z) := by simp [unl]
    rw [e, splL_cut 10 _ l (h l (by simp)), splL_unl ls z (fun x hx => h x (by simp [hx])) hz]
    rfl
/-- What a text is that was cut. -/
theorem splL_join (c : UInt8) : ∀ (s : List UInt8), ∃ a t, splL c s = a :: t ∧ s = a ++ t.flatMap (c :: ·)
  | [] => ⟨[], [], rfl, rfl⟩
  | x :: r => by
    obtain ⟨a, t, h1, h2⟩ := splL_join c r
    rw [splL]
    split
    · rename_i e
      exact ⟨[], splL c r, rfl, by rw [h1, e, h2]; simp⟩
    · rw [h1]
      exact ⟨x :: a, t, rfl, by rw [h2]; simp⟩
theorem splL_len (c : UInt8) : ∀ (s : List UInt8), (splL c s).length ≤ s.length + 1
  | [] => by simp [splL]
  | x :: r => by
    have ih := splL_len c r
    rw [splL]
    split
    · simp only [List.length_cons]; omega
    · split
      · simp
      · rename_i h t e
        rw [e] at ih
        simp only [List.length_cons] at ih ⊢
        omega
theorem splL_piece (c : UInt8) : ∀ (s : List UInt8), ∀ x ∈ splL c s, x.length ≤ s.length
  | [], x, hx => by simp [splL] at hx; subst hx; simp
  | y :: r, x, hx => by
    have ih := splL_piece c r
    rw [splL] at hx
    split at hx
    · rcases List.mem_cons.1 hx with rfl | h
      · simp
      · have := ih x h; simp only [List.length_cons]; omega
    · split at hx
      · simp at hx; subst hx; simp
      · rename_i h t e
        rw [e] at ih
        rcases List.mem_cons.1 hx with rfl | hx
        · have := ih h (by simp); simp only [List.length_cons]; omega
        · have := ih x (by simp [hx]); simp only [List.length_cons]; omega
end Go.Proofs.YtcaflmilfhhikaaGreatDoor
