/-
  All sets in order; the program's best and the document's.
-/
import Derived.Test.YtgplafckddpnkaaS4
namespace Go.Proofs.Ytgplafckddpnkaa
open Go.RowKit
set_option linter.unusedVariables false

/-! ### All sets of so many, the document's way -/
theorem ext_len (n : Nat) (p : List Int) : (ext n p).length ≤ n := by simp [ext]
theorem flat_len (n : Nat) : ∀ (L : List (List Int)), (L.flatMap (ext n)).length ≤ L.length * n
  | [] => by simp
  | p :: L => by
    rw [List.flatMap_cons, List.length_append, List.length_cons, Nat.add_mul, Nat.one_mul]
    have := flat_len n L
    have := ext_len n p
    omega
theorem sets_len (n : Nat) : ∀ k, (setsL n k).length ≤ n ^ k
  | 0 => by simp [setsL]
  | k + 1 => by
    have h1 := flat_len n (setsL n k)
    have h2 := sets_len n k
    have h3 : (setsL n k).length * n ≤ n ^ k * n := Nat.mul_le_mul_right n h2
    rw [setsL, Nat.pow_succ]
    omega
/-- One list is made longer by one thing. -/
theorem f85_b2_eq (n i k : Nat) (C : List (List Int)) (p : List Int) (A : List (List Int)) (hp : C[i]? = some p) (hpl : p.length ≤ 1000) (hn : n ≤ 1000) (hA : A.length ≤ 1000000000) (a : Nat) (ha : a = frm p) (hfr : frm p ≤ n) :
    lp (f85_b2 (C, (k : Int)) (A, (i : Int)) (n : Int)) (A, (a : Int)) = some (A ++ ext n p) := by
  subst ha
  have e : ext n p = (List.range' (frm p) (n - frm p)).map fun (j : Nat) => p ++ [(j : Int)] := rfl
  have el : (ext n p).length = n - frm p := by simp [ext]
  have h := lp_thru (body := f85_b2 (C, (k : Int)) (A, (i : Int)) (n : Int)) (ext n p) (A ++ ext n p) (fun j => (A ++ (ext n p).take j, ((frm p + j : Nat) : Int))) ?_ ?_
  · simpa using h
  · intro j q hq
    have hj := get_lt hq
    rw [el] at hj
    have hq' : q = p ++ [((frm p + j : Nat) : Int)] := by
      rw [e] at hq
      rw [List.getElem?_map, List.getElem?_range' (by omega)] at hq
      simp at hq
      rw [← hq]
      simp
    unfold f85_b2
    have c : (((frm p + j : Nat) : Int) < (n : Int)) := by omega
    simp only [c, decide_true, if_true, ix_nat, hp, Option.bind_some]
    rw [app_short [] p (by simp; omega)]
    simp only [List.nil_append, Option.bind_some]
    rw [app_short p _ (by simp; omega)]
    simp only [Option.bind_some]
    rw [app_short _ _ (by simp [el]; omega), take_snoc hq, hq', wrap_id (by omega) (by omega)]
    simp only [Option.bind_some, List.append_assoc]
    congr 3
  · unfold f85_b2
    rw [el]
    have c : ¬ (((frm p + (n - frm p) : Nat) : Int) < (n : Int)) := by omega
    simp only [c, decide_false, Bool.false_eq_true, if_false]
    rw [List.take_of_length_le (by rw [el]; exact Nat.le_refl _)]
theorem frm_le {n k : Nat} {p : List Int} (hp : p ∈ setsL n k) : frm p ≤ n := by
  have h := (incr_iff.1 (mem_sets.1 hp).1).1
  unfold frm
  cases hl : p.getLast? with
  | none => simp
  | some x => have := h x (List.mem_of_getLast? hl); simp only; omega
theorem frm_pos {n k : Nat} {p : List Int} (hp : p ∈ setsL n k) (hk : 0 < k) : p[k - 1]? = some ((frm p : Int) - 1) := by
  have hl := (mem_sets.1 hp).2
  have h := (incr_iff.1 (mem_sets.1 hp).1).1
  have hg : p.getLast? = p[k - 1]? := by rw [List.getLast?_eq_getElem?, hl]
  unfold frm
  rw [hg]
  have hx : p[k - 1]? = some (p[k - 1]'(by omega)) := List.getElem?_eq_getElem (by omega)
  rw [hx]
  have := h _ (List.getElem_mem (show k - 1 < p.length by omega))
  simp only
  congr 1
  omega
theorem frm_zero {n : Nat} {p : List Int} (hp : p ∈ setsL n 0) : frm p = 0 := by
  simp [setsL] at hp
  subst hp; rfl
theorem pow_le_big {n k : Nat} (hn : n ≤ 8) (hk : k ≤ 9) : n ^ k ≤ 1000000000 :=
  Nat.le_trans (Nat.pow_le_pow_left hn k) (Nat.le_trans (Nat.pow_le_pow_right (by decide) hk) (by decide))
theorem f85_b1_eq (n k : Nat) (hn : n ≤ 8) (hk : k ≤ 8) : lp (f85_b1 (setsL n k, (k : Int)) (n : Int)) ([], 0) = some (setsL n (k + 1)) := by
  have hfl : ∀ i, (((setsL n k).take i).flatMap (ext n)).length ≤ 1000000000 := fun i => by
    have h1 := flat_len n ((setsL n k).take i)
    have h2 : ((setsL n k).take i).length * n ≤ (setsL n k).length * n := Nat.mul_le_mul_right n (by rw [List.length_take]; omega)
    have h3 : (setsL n k).length * n ≤ n ^ k * n := Nat.mul_le_mul_right n (sets_len n k)
    have h4 := pow_le_big (k := k + 1) hn (by omega)
    rw [Nat.pow_succ] at h4
    omega
  have hsl := Nat.le_trans (sets_len n k) (pow_le_big (k := k) hn (by omega))
  refine lp_thru (setsL n k) _ (fun i => (((setsL n k).take i).flatMap (ext n), (i : Int))) ?_ ?_
  · intro i p hp
    have hi := get_lt hp
    have hm := List.mem_of_getElem? hp
    have hpl := (mem_sets.1 hm).2
    unfold f85_b1
    have c : (i : Int) < ((setsL n k).length : Int) := by omega
    simp only [c, decide_true, if_true]
    have e1 : (if (decide (0 < (k : Int))) = true then ((ix (setsL n k) (i : Int)).bind fun y21 => (ix y21 (IntKind.i64.wrap ((k : Int) - 1))).bind fun y24 => some (IntKind.i64.wrap (y24 + 1))) else (some 0) : Option Int) = some ((frm p : Nat) : Int) := by
      by_cases h0 : 0 < k
      · have h0' : (0 : Int) < (k : Int) := by omega
        have := frm_le hm
        simp only [h0', decide_true, if_true, ix_nat, hp, Option.bind_some, pred_pos h0 (show k ≤ 1073741824 by omega), frm_pos hm h0]
        rw [wrap_id (by omega) (by omega)]
        congr 1
        omega
      · have : k = 0 := by omega
        subst this
        rw [frm_zero hm]; rfl
    rw [e1]
    simp only [Option.bind_some, wrap_nat hi (by omega)]
    rw [f85_b2_eq n i k (setsL n k) p _ hp (by omega) (by omega) (hfl i) (frm p) rfl (frm_le hm)]
    simp only [Option.bind_some]
    rw [take_snoc hp, List.flatMap_append]
    simp
  · unfold f85_b1
    simp [setsL]
theorem f85_eq (n k : Nat) (hn : n ≤ 8) (hk : k ≤ 8) : f85 (n : Int) (k : Int) = some (setsL n k) := by
  unfold f85
  have h : lp (f85_b0 (n : Int) (k : Int)) ([[]], 0) = some (setsL n k) := by
    refine lp_thru (List.range k) _ (fun i => (setsL n i, (i : Int))) ?_ ?_
    · intro i y hy
      have hi : i < k := by have := get_lt hy; simpa using this
      unfold f85_b0
      have c : (i : Int) < (k : Int) := by omega
      simp only [c, decide_true, if_true, f85_b1_eq n i hn (by omega), Option.bind_some, wrap_nat hi (by omega)]
    · unfold f85_b0
      simp
  rw [h]; rfl
/-! ### The program's best -/
def chosen (cost : List Int → Int) (o : Option (List Int)) : Bool × TChoice := match o with
  | none => (false, ⟨0, []⟩)
  | some l => (true, ⟨cost l, l⟩)
/-- What the things of a list cost together, some of them having a price. -/
def costL (price : Int → Int) (l : List Int) : Int := plus 0 (l.map price)
theorem f89_b1_eq (w : TBaneWeb) (l : List Int) (B Z : TChoice) (hl : l.length ≤ 1000) (h : ∀ y ∈ l, 0 ≤ y ∧ y < (w.Fish.length : Int)) :
    lp (f89_b1 w.Fish (fun z0 => f90 z0) l) (0, (⟨0, l⟩ : TChoice), B, Z) = some ((⟨costL (fun y => (w.Fish.map (·.Cost)).getD y.toNat 0) l, l⟩ : TChoice), B, Z) := by
  refine lp_thru l _ (fun k => ((k : Int), (⟨plus 0 ((l.map fun y => (w.Fish.map (·.Cost)).getD y.toNat 0).take k), l⟩ : TChoice), B, Z)) ?_ ?_
  · intro k y hy
    have hk := get_lt hy
    obtain ⟨h1, h2⟩ := h y (List.mem_of_getElem? hy)
    have hf : w.Fish[y.toNat]? = some (w.Fish[y.toNat]'(by omega)) := List.getElem?_eq_getElem (by omega)
    have hc : (l.map fun y => (w.Fish.map (·.Cost)).getD y.toNat 0)[k]? = some (w.Fish[y.toNat]'(by omega)).Cost := by simp [hy, hf]
    unfold f89_b1
    rw [if_pos (by simpa using hk), ix_nat, hy]
    simp only [Option.bind_some, ix_int h1, hf, f90, wrap_nat hk (by omega)]
    rw [take_snoc hc, plus_snoc]
    rfl
  · unfold f89_b1
    rw [if_neg (by simp), List.take_of_length_le (by simp)]
    rfl
theorem bestN_in (cost : List Int → Int) (holds : Nat → Bool) (n : Nat) : ∀ m, ∀ l, bestN cost holds n m = some l → ∃ j, j < m ∧ l = lst j n
  | 0, l, h => by simp [bestN] at h
  | m + 1, l, h => by
    have ih := bestN_in cost holds n m
    unfold bestN at h
    cases hb : bestN cost holds n m with
    | none =>
      rw [hb] at h
      simp only at h
      by_cases hh : holds m = true
      · rw [if_pos hh] at h; cases h; exact ⟨m, by omega, rfl⟩
      · rw [if_neg hh] at h; cases h
    | some b =>
      rw [hb] at h
      simp only at h
      by_cases hh : (befB cost (lst m n) b && holds m) = true
      · rw [if_pos hh] at h; cases h; exact ⟨m, by omega, rfl⟩
      · rw [if_neg hh] at h; cases h
        obtain ⟨j, h1, h2⟩ := ih l hb
        exact ⟨j, by omega, h2⟩
theorem f89_eq (w : TBaneWeb) (x2 : Int → Option Bool) (holds : Nat → Bool) (hn : w.Fish.length ≤ 20) (hx : ∀ m : Nat, m < 2 ^ w.Fish.length → x2 (m : Int) = some (holds m)) :
    f89 w.Fish (fun z0 => f90 z0) x2 = some ((chosen (costL (fun y => (w.Fish.map (·.Cost)).getD y.toNat 0)) (bestN (costL (fun y => (w.Fish.map (·.Cost)).getD y.toNat 0)) holds w.Fish.length (2 ^ w.Fish.length))).2, (chosen (costL (fun y => (w.Fish.map (·.Cost)).getD y.toNat 0)) (bestN (costL (fun y => (w.Fish.map (·.Cost)).getD y.toNat 0)) holds w.Fish.length (2 ^ w.Fish.length))).1) := by
  obtain ⟨n, hnn⟩ : ∃ n, n = w.Fish.length := ⟨_, rfl⟩
  obtain ⟨cost, hcost⟩ : ∃ c, c = costL (fun y => (w.Fish.map (·.Cost)).getD y.toNat 0) := ⟨_, rfl⟩
  have hp := pow_small hn
  unfold f89
  rw [← hnn] at hn hp hx
  rw [← hcost, ← hnn]
  rw [shl_nat n (by omega)]
  simp only [Option.bind_some]
  have h : lp (f89_b0 w.Fish (fun z0 => f90 z0) x2 ((2 ^ n : Nat) : Int)) (false, 0, (⟨0, []⟩ : TChoice), (⟨0, []⟩ : TChoice)) = some ((chosen cost (bestN cost holds n (2 ^ n))).1, (chosen cost (bestN cost holds n (2 ^ n))).2, (⟨0, []⟩ : TChoice)) := by
    refine lp_thru (List.range (2 ^ n)) _ (fun k => ((chosen cost (bestN cost holds n k)).1, (k : Int), (chosen cost (bestN cost holds n k)).2, (⟨0, []⟩ : TChoice))) ?_ ?_
    · intro k y hy
      have hk : k < 2 ^ n := by have := get_lt hy; simpa using this
      have hk62 : (k : Nat) < 2 ^ 62 := by have : (1048576 : Nat) < 2 ^ 62 := by decide
                                           omega
      have c : (k : Int) < ((2 ^ n : Nat) : Int) := by omega
      have hll : (lst k n).length ≤ 1000 := by have := lst_len k n; omega
      unfold f89_b0
      rw [← hnn]
      simp only [c, decide_true, if_true, f105_eq k n hk62 (by omega), Option.bind_some, wrap_nat hk (show 2 ^ n ≤ 1073741824 by omega)]
      rw [f89_b1_eq w (lst k n) _ _ hll (by rw [← hnn]; exact (incr_iff.1 (lst_incr k n)).1), ← hcost]
      simp only [Option.bind_some, hx k hk]
      cases hb : bestN cost holds n k with
      | none =>
        simp only [chosen, bestN, hb, Bool.not_false, if_true, Option.bind_some]
        cases holds k <;> simp
      | some b =>
        obtain ⟨j, _, rfl⟩ := bestN_in cost holds n k b hb
        have hjl : (lst j n).length ≤ 1000 := by have := lst_len j n; omega
        simp only [chosen, bestN, hb, Bool.not_true, Bool.false_eq_true, if_false]
        rw [f106_eq cost _ _ hll hjl]
        simp only [Option.bind_some]
        cases befB cost (lst k n) (lst j n) <;> cases holds k <;> simp
    · unfold f89_b0
      simp
  rw [h]
  rfl
theorem f46_eq (w : TBaneWeb) (l : List Int) (hl : l.length ≤ 1000) (h : ∀ y ∈ l, 0 ≤ y ∧ y < (w.Fish.length : Int)) : f46 w l = some (costL (fun y => (w.Fish.map (·.Cost)).getD y.toNat 0) l) := by
  unfold f46
  have h : lp (f46_b0 w l) (0, 0) = some (costL (fun y => (w.Fish.map (·.Cost)).getD y.toNat 0) l) := by
    refine lp_thru l _ (fun k => (plus 0 ((l.map fun y => (w.Fish.map (·.Cost)).getD y.toNat 0).take k), (k : Int))) ?_ ?_
    · intro k y hy
      have hk := get_lt hy
      obtain ⟨h1, h2⟩ := h y (List.mem_of_getElem? hy)
      have hf : w.Fish[y.toNat]? = some (w.Fish[y.toNat]'(by omega)) := List.getElem?_eq_getElem (by omega)
      have hc : (l.map fun y => (w.Fish.map (·.Cost)).getD y.toNat 0)[k]? = some (w.Fish[y.toNat]'(by omega)).Cost := by simp [hy, hf]
      unfold f46_b0
      rw [if_pos (by simpa using hk), ix_nat, hy]
      simp only [Option.bind_some, ix_int h1, hf, wrap_nat hk (by omega)]
      rw [take_snoc hc, plus_snoc]
      rfl
    · unfold f46_b0
      rw [if_neg (by simp), List.take_of_length_le (by simp)]
      rfl
  rw [h]; rfl
end Go.Proofs.Ytgplafckddpnkaa
