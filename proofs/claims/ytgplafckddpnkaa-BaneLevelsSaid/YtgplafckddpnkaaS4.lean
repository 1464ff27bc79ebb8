/-
  Sets of numbers in Bane's code: the program's way and the document's.
-/
import Derived.Test.YtgplafckddpnkaaS2
import Derived.Test.YtgplafckddpnkaaSv
namespace Go.Proofs.Ytgplafckddpnkaa
open Go.RowKit
set_option linter.unusedVariables false

theorem pred_any {n : Nat} (hn : n ≤ 1073741824) : IntKind.i64.wrap ((n : Int) - 1) = (n : Int) - 1 := by rw [wrap_id] <;> omega
theorem pred_pos {k : Nat} (h0 : 0 < k) (hn : k ≤ 1073741824) : IntKind.i64.wrap ((k : Int) - 1) = ((k - 1 : Nat) : Int) := by rw [wrap_id] <;> omega
/-- Lists that strictly increase. -/
theorem f86_eq (l : List Int) (n : Nat) (hl : l.length ≤ 1000) (hn : n ≤ 1000) : f86 l (n : Int) = some (incr l (n : Int)) := by
  unfold f86
  have h : lp (f86_b0 l (n : Int)) 0 = some (if incr l (n : Int) = true then .inl () else .inr false) := by
    unfold incr
    refine lp_all l _ (Sum.inr false) (Sum.inl ()) (fun k => (k : Int)) ?_ ?_
    · intro k y hy
      have hk := get_lt hy
      unfold f86_b0
      rw [if_pos (by simpa using hk), ix_nat, hy]
      simp only [Option.bind_some, pred_any (show n ≤ 1073741824 by omega), f66_eq, wrap_nat hk (by omega)]
      unfold inR
      by_cases h1 : 0 ≤ y
      · by_cases h2 : y ≤ (n : Int) - 1
        · by_cases h3 : k = 0
          · subst h3; simp [h1, h2]
          · have h4 : (0 : Int) < (k : Int) := by omega
            have hg : l[k - 1]? = some (l.getD (k - 1) 0) := getD_get 0 (by omega)
            simp only [h1, h2, h3, h4, decide_true, decide_false, Bool.true_and, Bool.false_or, Bool.not_true, Bool.false_eq_true, if_false, if_true, pred_pos (show 0 < k by omega) (show k ≤ 1073741824 by omega), ix_nat, hg, Option.bind_some]
            by_cases h5 : l.getD (k - 1) 0 < y
            · have : ¬ y ≤ l.getD (k - 1) 0 := by omega
              simp only [h5, this, decide_true, decide_false, Bool.false_eq_true, if_false, if_true]
            · have : y ≤ l.getD (k - 1) 0 := by omega
              simp only [h5, this, decide_true, decide_false, Bool.false_eq_true, if_false, if_true]
        · simp [h1, h2]
      · simp [h1]
    · unfold f86_b0
      simp
  rw [h]
  cases incr l (n : Int) <;> rfl
theorem f43_eq (l : List Int) (n : Nat) (hl : l.length ≤ 1000) (hn : n ≤ 1000) : f43 l (n : Int) = some (incr l (n : Int)) := by
  rw [← f86_eq l n hl hn]
  unfold f43 f86
  have : f43_b0 l (n : Int) = f86_b0 l (n : Int) := by
    funext s
    unfold f43_b0 f86_b0
    by_cases h : decide (s < (l.length : Int)) = true
    · rw [if_pos h, if_pos h]
      cases ix l s with
      | none => rfl
      | some y => simp only [Option.bind_some, f69_eq, f66_eq]
    · rw [if_neg h, if_neg h]
  rw [this]
/-- A number of bits as a list. -/
theorem f105_eq (m n : Nat) (hm : m < 2 ^ 62) (hn : n ≤ 60) : f105 (m : Int) (n : Int) = some (lst m n) := by
  unfold f105
  have h : lp (f105_b0 (m : Int) (n : Int)) ([], 0) = some (lst m n) := by
    refine lp_thru (List.range n) (lst m n) (fun k => (lst m k, (k : Int))) ?_ ?_
    · intro k y hy
      have hk : k < n := by have := get_lt hy; simpa using this
      unfold f105_b0
      rw [if_pos (by simpa using hk)]
      simp only [shr_nat, Option.bind_some, wrap_nat hk (by omega)]
      have hb : (andI .i64 ((m : Int).fdiv (2 ^ min k 64)) 1 == 1) = m.testBit k := bitI_nat m k hm
      rw [hb, lst_succ]
      cases m.testBit k with
      | true =>
        simp only [if_true]
        rw [app_short _ _ (by have := lst_len m k; simp; omega)]
        rfl
      | false => simp
    · unfold f105_b0
      rw [if_neg (by simp)]
      simp
  rw [h]; rfl
/-- A list as bits. -/
theorem bits_snoc (l : List Int) (y : Int) : bitsN (l ++ [y]) = bitsN l ||| 2 ^ y.toNat := by simp [bitsN]
theorem f87_eq (l : List Int) (n : Nat) (hl : l.length ≤ 1000) (hn : n ≤ 60) (h : ∀ y ∈ l, 0 ≤ y ∧ y < (n : Int)) : f87 l = some ((bitsN l : Nat) : Int) := by
  unfold f87
  have h : lp (f87_b0 l) (0, 0) = some ((bitsN l : Nat) : Int) := by
    refine lp_thru l _ (fun k => (((bitsN (l.take k) : Nat) : Int), (k : Int))) ?_ ?_
    · intro k y hy
      have hk := get_lt hy
      have hr := h y (List.mem_of_getElem? hy)
      obtain ⟨i, rfl⟩ : ∃ i : Nat, y = (i : Int) := ⟨y.toNat, by omega⟩
      have h2 : 2 ^ n ≤ 2 ^ 60 := Nat.pow_le_pow_right (by decide) hn
      have h3 : 2 ^ i ≤ 2 ^ 60 := Nat.pow_le_pow_right (by decide) (by omega)
      have h4 : bitsN (l.take k) < 2 ^ n := bits_lt fun z hz => h z (List.mem_of_mem_take hz)
      have h5 : (2 : Nat) ^ 60 < 2 ^ 62 := by decide
      unfold f87_b0
      rw [if_pos (by simpa using hk), ix_nat, hy]
      simp only [Option.bind_some, shl_nat i (by omega), wrap_nat hk (by omega)]
      rw [orI_nat _ _ (by omega) (by omega), take_snoc hy, bits_snoc]
      rfl
    · unfold f87_b0
      rw [if_neg (by simp), List.take_length]
  rw [h]; rfl
/-- Which comes first. -/
def cmpI (a b : Int) : Int := if a < b then -1 else if b < a then 1 else 0
def cmpL : List Int → List Int → Int
  | [], [] => 0
  | [], _ :: _ => -1
  | _ :: _, [] => 1
  | a :: l, b :: m => if a < b then -1 else if b < a then 1 else cmpL l m
theorem cmpL_neg : ∀ (a b : List Int), decide (cmpL a b < 0) = lexlt a b
  | [], [] => rfl
  | [], _ :: _ => rfl
  | _ :: _, [] => rfl
  | a :: l, b :: m => by
    unfold cmpL lexlt
    have ih := cmpL_neg l m
    by_cases h : a < b
    · simp [h]
    · by_cases h' : b < a
      · have : ¬ a = b := by omega
        simp [h, h', this]
      · have : a = b := by omega
        subst this
        simp only [h, if_false, decide_false, Bool.false_or, decide_true, Bool.true_and]
        exact ih
theorem f117_eq (x : Int) : f117 x = some false := by unfold f117; simp
theorem f114_eq (a b : Int) : f114 a b = some (cmpI a b) := by
  unfold f114 cmpI
  rw [f117_eq, f117_eq]
  by_cases h : a < b
  · simp [h]
  · by_cases h' : b < a <;> simp [h, h']
theorem f115_eq (a b : List Int) (ha : a.length ≤ 1000) (hb : b.length ≤ 1000) : f115 a b = some (cmpL a b) := by
  have h : lp (f115_b0 a b) 0 = goL (fun k y (_ : Unit) => some (if b.length ≤ k then .inr (.inr 1) else if cmpI y (b.getD k 0) ≠ 0 then .inr (.inr (cmpI y (b.getD k 0))) else .inl ())) (fun _ => .inl ()) 0 a () := by
    refine lp_goL (fun k _ => (k : Int)) a _ _ ?_ ?_ ()
    · intro k t y hy
      have hk := get_lt hy
      unfold f115_b0
      rw [if_pos (by simpa using hk), ix_nat, hy, wrap_nat hk (by omega)]
      simp only [Option.bind_some]
      by_cases h1 : b.length ≤ k
      · have : (b.length : Int) ≤ (k : Int) := by omega
        simp [h1]
      · have : ¬ (b.length : Int) ≤ (k : Int) := by omega
        rw [ix_nat, getD_get 0 (show k < b.length by omega)]
        simp only [this, h1, decide_false, Bool.false_eq_true, if_false, Option.bind_some, f114_eq]
        by_cases h2 : cmpI y (b.getD k 0) = 0
        · simp only [h2, bne_self_eq_false, Bool.false_eq_true, if_false, ne_eq, not_true_eq_false, Option.map_some, Sum.map_inl]
        · have : (cmpI y (b.getD k 0) != 0) = true := by rw [bne_iff_ne]; exact h2
          simp only [this, if_true]
          rw [if_pos h2]
          rfl
    · intro t
      unfold f115_b0
      simp
  have h2 : ∀ (l : List Int) (k : Nat), k ≤ b.length → (goL (fun k y (_ : Unit) => some (if b.length ≤ k then .inr (.inr 1) else if cmpI y (b.getD k 0) ≠ 0 then .inr (.inr (cmpI y (b.getD k 0))) else .inl ())) (fun _ => (Sum.inl () : Unit ⊕ Int)) k l ()).bind (fun q5 => Sum.elim (fun p4 : Unit => if (decide (k + l.length < b.length)) = true then (some (-1)) else (some 0)) (fun v21 : Int => some v21) q5) = some (cmpL l (b.drop k)) := by
    intro l
    induction l with
    | nil =>
      intro k hk
      simp only [goL, Option.bind_some, Sum.elim_inl, List.length_nil, Nat.add_zero]
      by_cases h : k < b.length
      · rw [List.drop_eq_getElem_cons h]; simp [h, cmpL]
      · rw [List.drop_eq_nil_of_le (by omega)]; simp [h, cmpL]
    | cons y l ih =>
      intro k hk
      by_cases h1 : b.length ≤ k
      · rw [List.drop_eq_nil_of_le h1]
        simp [goL, h1, cmpL]
      · have h1' : k < b.length := by omega
        have hd : b.drop k = b.getD k 0 :: b.drop (k + 1) := by rw [List.drop_eq_getElem_cons h1']; simp [h1']
        rw [hd]
        by_cases h2 : cmpI y (b.getD k 0) = 0
        · have ih' := ih (k + 1) (by omega)
          have e : cmpL (y :: l) (b.getD k 0 :: b.drop (k + 1)) = cmpL l (b.drop (k + 1)) := by
            rw [cmpL]
            unfold cmpI at h2
            by_cases c1 : y < b.getD k 0
            · rw [if_pos c1] at h2; omega
            · by_cases c2 : b.getD k 0 < y
              · rw [if_neg c1, if_pos c2] at h2; omega
              · rw [if_neg c1, if_neg c2]
          rw [e, ← ih']
          have e2 : k + (y :: l).length = k + 1 + l.length := by simp; omega
          rw [e2]
          simp only [goL, h1, if_false, h2, ne_eq, not_true_eq_false]
        · have e : cmpL (y :: l) (b.getD k 0 :: b.drop (k + 1)) = cmpI y (b.getD k 0) := by
            rw [cmpL]
            unfold cmpI at h2 ⊢
            by_cases c1 : y < b.getD k 0
            · rw [if_pos c1, if_pos c1]
            · by_cases c2 : b.getD k 0 < y
              · rw [if_neg c1, if_pos c2, if_neg c1, if_pos c2]
              · rw [if_neg c1, if_neg c2] at h2; exact absurd rfl h2
          rw [e]
          simp only [goL, h1, if_false, h2, ne_eq, not_false_eq_true, if_true, Option.bind_some, Sum.elim_inr]
  unfold f115
  rw [h]
  have := h2 a 0 (Nat.zero_le _)
  rw [List.drop_zero] at this
  rw [← this]
  congr 1
  funext q
  cases q with
  | inl p =>
    simp only [Sum.elim_inl, Nat.zero_add]
    by_cases c : a.length < b.length
    · have : (a.length : Int) < (b.length : Int) := by omega
      simp [c]
    · have : ¬ (a.length : Int) < (b.length : Int) := by omega
      simp [c]
  | inr v => rfl
theorem f113_eq (a b c : Int) : f113 [a, b, c] = some (if a ≠ 0 then a else if b ≠ 0 then b else c) := by
  have step : ∀ (k : Nat) (y : Int), [a, b, c][k]? = some y → f113_b0 [a, b, c] (k : Int) = some (if y ≠ 0 then .inr (.inr y) else .inl (((k + 1 : Nat)) : Int)) := by
    intro k y hy
    have hk := get_lt hy
    unfold f113_b0
    rw [if_pos (by simp at hk ⊢; omega), ix_nat, hy, wrap_nat hk (by simp)]
    by_cases h : y = 0 <;> simp [h]
  unfold f113
  have e0 : lp (f113_b0 [a, b, c]) 0 = lp (f113_b0 [a, b, c]) ((0 : Nat) : Int) := rfl
  rw [e0, lp_eq, step 0 a rfl]
  by_cases h1 : a = 0
  · subst h1
    simp only [ne_eq, not_true_eq_false, if_false]
    rw [lp_eq, step 1 b rfl]
    by_cases h2 : b = 0
    · subst h2
      simp only [ne_eq, not_true_eq_false, if_false]
      rw [lp_eq, step 2 c rfl]
      by_cases h3 : c = 0
      · subst h3
        simp only [ne_eq, not_true_eq_false, if_false]
        rw [lp_eq]
        unfold f113_b0
        simp
      · simp [h3]
    · simp [h2]
  · simp [h1]
theorem f106_eq (c : List Int → Int) (a b : List Int) (ha : a.length ≤ 1000) (hb : b.length ≤ 1000) : f106 ⟨c a, a⟩ ⟨c b, b⟩ = some (befB c a b) := by
  unfold f106
  simp only [f114_eq, f115_eq a b ha hb, Option.bind_some, f113_eq]
  congr 1
  unfold befB
  rw [← cmpL_neg]
  unfold cmpI
  by_cases h1 : c a < c b
  · simp [h1]
  · by_cases h2 : c b < c a
    · have : ¬ c a = c b := by omega
      simp [h1, h2, this]
    · have : c a = c b := by omega
      rw [this]
      by_cases h3 : a.length < b.length
      · have : (a.length : Int) < (b.length : Int) := by omega
        simp [h3]
      · by_cases h4 : b.length < a.length
        · have h5 : ¬ a.length = b.length := by omega
          simp [h3, h4, h5]
        · have h5 : a.length = b.length := by omega
          simp [h5]
/-- The lexicographic order. -/
theorem f47_eq (a b : List Int) (ha : a.length ≤ 1000) (hb : b.length ≤ 1000) : f47 a b = some (lexlt a b) := by
  have h : lp (f47_b0 a b) 0 = goL (fun k y (_ : Unit) => some (if b.length ≤ k then .inr (.inl ()) else if y ≠ b.getD k 0 then .inr (.inr (decide (y < b.getD k 0))) else .inl ())) (fun _ => .inl ()) 0 a () := by
    refine lp_goL (fun k _ => (k : Int)) a _ _ ?_ ?_ ()
    · intro k t y hy
      have hk := get_lt hy
      have hk' : (k : Int) < (a.length : Int) := by omega
      unfold f47_b0
      by_cases h1 : b.length ≤ k
      · have : ¬ (k : Int) < (b.length : Int) := by omega
        have h1'' : ¬ k < b.length := by omega
        simp [h1, hk, h1'']
      · have h1' : (k : Int) < (b.length : Int) := by omega
        simp only [hk', h1', decide_true, if_true, Option.bind_some]
        rw [ix_nat, ix_nat, hy, getD_get 0 (show k < b.length by omega), wrap_nat hk (by omega)]
        simp only [Option.bind_some, h1, if_false]
        by_cases h2 : y = b.getD k 0
        · simp only [h2, bne_self_eq_false, Bool.false_eq_true, if_false, ne_eq, not_true_eq_false, Option.map_some, Sum.map_inl]
        · have : (y != b.getD k 0) = true := by simpa using h2
          simp only [this, if_true, ne_eq, h2, not_false_eq_true, Option.map_some, Sum.map_inr, id]
    · intro t
      unfold f47_b0
      simp
  have h2 : ∀ (l : List Int) (k : Nat), k ≤ b.length → (goL (fun k y (_ : Unit) => some (if b.length ≤ k then .inr (.inl ()) else if y ≠ b.getD k 0 then .inr (.inr (decide (y < b.getD k 0))) else .inl ())) (fun _ => (Sum.inl () : Unit ⊕ Bool)) k l ()).bind (fun q5 => Sum.elim (fun p4 : Unit => some (decide (k + l.length < b.length))) (fun v21 : Bool => some v21) q5) = some (lexlt l (b.drop k)) := by
    intro l
    induction l with
    | nil =>
      intro k hk
      simp only [goL, Option.bind_some, Sum.elim_inl, List.length_nil, Nat.add_zero]
      by_cases h : k < b.length
      · rw [List.drop_eq_getElem_cons h]; simp [h, lexlt]
      · rw [List.drop_eq_nil_of_le (by omega)]; simp [h, lexlt]
    | cons y l ih =>
      intro k hk
      by_cases h1 : b.length ≤ k
      · rw [List.drop_eq_nil_of_le h1]
        have : ¬ k + (l.length + 1) < b.length := by omega
        simp [goL, h1, lexlt, this]
      · have h1' : k < b.length := by omega
        have hd : b.drop k = b.getD k 0 :: b.drop (k + 1) := by rw [List.drop_eq_getElem_cons h1']; simp [h1']
        rw [hd]
        by_cases h2 : y = b.getD k 0
        · have ih' := ih (k + 1) (by omega)
          have e : lexlt (y :: l) (b.getD k 0 :: b.drop (k + 1)) = lexlt l (b.drop (k + 1)) := by
            rw [lexlt, h2]; simp
          rw [e, ← ih']
          have e2 : k + (y :: l).length = k + 1 + l.length := by simp; omega
          rw [e2]
          simp only [goL, h1, if_false, h2, ne_eq, not_true_eq_false]
        · have e : lexlt (y :: l) (b.getD k 0 :: b.drop (k + 1)) = decide (y < b.getD k 0) := by
            rw [lexlt]; simp only [h2, decide_false, Bool.false_and, Bool.or_false]
          rw [e]
          simp only [goL, h1, if_false, h2, ne_eq, not_false_eq_true, if_true, Option.bind_some, Sum.elim_inr]
  unfold f47
  rw [h]
  have := h2 a 0 (Nat.zero_le _)
  rw [List.drop_zero] at this
  rw [← this]
  congr 1
  funext q
  cases q with
  | inl p =>
    simp only [Sum.elim_inl, Nat.zero_add]
    congr 1
    rw [Bool.eq_iff_iff]; simp
  | inr v => rfl
theorem anyL {l : List Int} {x : Int} : (!allI (fun _ (y : Int) => !(y == x)) 0 l) = l.contains x := by
  have : ∀ (l : List Int) (k : Nat), (!allI (fun _ (y : Int) => !(y == x)) k l) = l.contains x := by
    intro l
    induction l with
    | nil => intro k; rfl
    | cons y l ih =>
      intro k
      have := ih (k + 1)
      simp only [allI, List.contains_cons]
      rw [← this]
      have e : (x == y) = (y == x) := by rw [Bool.eq_iff_iff]; simp; exact eq_comm
      rw [e]
      cases (y == x) <;> simp
  exact this l 0
theorem f38_eq (l : List Int) (x : Int) (hl : l.length ≤ 1000) : f38 l x = some (l.contains x) := by
  unfold f38
  have h : lp (f38_b0 l x) 0 = some (if allI (fun _ (y : Int) => !(y == x)) 0 l = true then .inl () else .inr true) := by
    refine lp_all l _ (Sum.inr true) (Sum.inl ()) (fun k => (k : Int)) ?_ ?_
    · intro k y hy
      have hk := get_lt hy
      unfold f38_b0
      rw [if_pos (by simpa using hk), ix_nat, hy, wrap_nat hk (by omega)]
      simp only [Option.bind_some]
      cases (y == x) <;> simp
    · unfold f38_b0
      simp
  rw [h, ← anyL]
  cases allI (fun _ (y : Int) => !(y == x)) 0 l <;> rfl
theorem len_dec {l : List Int} {c : Int} {n : Nat} (hc : c = (n : Int)) : decide (c < (l.length : Int)) = !decide (l.length ≤ n) := by
  subst hc
  rw [Bool.eq_iff_iff]; simp
theorem pow_small {n : Nat} (hn : n ≤ 20) : 2 ^ n ≤ 1048576 := Nat.le_trans (Nat.pow_le_pow_right (by decide) hn) (by decide)
end Go.Proofs.Ytgplafckddpnkaa
