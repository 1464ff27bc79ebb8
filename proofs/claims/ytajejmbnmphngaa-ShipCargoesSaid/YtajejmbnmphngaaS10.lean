/-
  Ship's loads: lists in order, all sets, the program's best and the document's.
-/
import Derived.Test.YtajejmbnmphngaaS9
import Derived.Test.YtajejmbnmphngaaSv
namespace Go.Proofs.Ytajejmbnmphngaa
open Go.RowKit
set_option linter.unusedSimpArgs false
set_option linter.unusedVariables false

theorem pred_pos {k : Nat} (h0 : 0 < k) (hn : k ≤ 1073741824) : IntKind.i64.wrap ((k : Int) - 1) = ((k - 1 : Nat) : Int) := by rw [wrap_id] <;> omega
theorem getD_get {α : Type} {xs : List α} {i : Nat} (d : α) (h : i < xs.length) : xs[i]? = some (xs.getD i d) := by rw [List.getElem?_eq_getElem h]; simp [h]
theorem take_snoc {α : Type} {l : List α} {k : Nat} {y : α} (h : l[k]? = some y) : l.take (k + 1) = l.take k ++ [y] := by rw [List.take_add_one, h]; rfl
theorem pow_small {n : Nat} (hn : n ≤ 20) : 2 ^ n ≤ 1048576 := Nat.le_trans (Nat.pow_le_pow_right (by decide) hn) (by decide)
/-- Which comes first. -/
def cmpI (a b : Int) : Int := if a < b then -1 else if b < a then 1 else 0
def cmpL : List Int → List Int → Int
  | [], [] => 0
  | [], _ :: _ => -1
  | _ :: _, [] => 1
  | a :: l, b :: m => if a < b then -1 else if b < a then 1 else cmpL l m
theorem cmpL_neg : ∀ (a b : List Int), decide (cmpL a b < 0) = lexlt a b
  | [], [] => rfl
  | [], _ :: _ => rfl
  | _ :: _, [] => rfl
  | a :: l, b :: m => by
    unfold cmpL lexlt
    have ih := cmpL_neg l m
    by_cases h : a < b
    · simp [h]
    · by_cases h' : b < a
      · have : ¬ a = b := by omega
        simp [h, h', this]
      · have : a = b := by omega
        subst this
        simp only [h, if_false, decide_false, Bool.false_or, decide_true, Bool.true_and]
        exact ih
theorem f112_eq (x : Int) : f112 x = some false := by unfold f112; simp
theorem f104_eq (a b : Int) : f104 a b = some (cmpI a b) := by
  unfold f104 cmpI
  rw [f112_eq, f112_eq]
  by_cases h : a < b
  · simp [h]
  · by_cases h' : b < a <;> simp [h, h']
theorem f105_eq (a b : List Int) (ha : a.length ≤ 1000) (hb : b.length ≤ 1000) : f105 a b = some (cmpL a b) := by
  have h : lp (f105_b0 a b) 0 = goL (fun k y (_ : Unit) => some (if b.length ≤ k then .inr (.inr 1) else if cmpI y (b.getD k 0) ≠ 0 then .inr (.inr (cmpI y (b.getD k 0))) else .inl ())) (fun _ => .inl ()) 0 a () := by
    refine lp_goL (fun k _ => (k : Int)) a _ _ ?_ ?_ ()
    · intro k t y hy
      have hk := get_lt hy
      unfold f105_b0
      rw [if_pos (by simpa using hk), ix_nat, hy, wrap_nat hk (by omega)]
      simp only [Option.bind_some]
      by_cases h1 : b.length ≤ k
      · have : (b.length : Int) ≤ (k : Int) := by omega
        simp [h1]
      · have : ¬ (b.length : Int) ≤ (k : Int) := by omega
        rw [ix_nat, getD_get 0 (show k < b.length by omega)]
        simp only [this, h1, decide_false, Bool.false_eq_true, if_false, Option.bind_some, f104_eq]
        by_cases h2 : cmpI y (b.getD k 0) = 0
        · simp only [h2, bne_self_eq_false, Bool.false_eq_true, if_false, ne_eq, not_true_eq_false, Option.map_some, Sum.map_inl]
        · have : (cmpI y (b.getD k 0) != 0) = true := by rw [bne_iff_ne]; exact h2
          simp only [this, if_true]
          rw [if_pos h2]
          rfl
    · intro t
      unfold f105_b0
      simp
  have h2 : ∀ (l : List Int) (k : Nat), k ≤ b.length → (goL (fun k y (_ : Unit) => some (if b.length ≤ k then .inr (.inr 1) else if cmpI y (b.getD k 0) ≠ 0 then .inr (.inr (cmpI y (b.getD k 0))) else .inl ())) (fun _ => (Sum.inl () : Unit ⊕ Int)) k l ()).bind (fun q5 => Sum.elim (fun p4 : Unit => if (decide (k + l.length < b.length)) = true then (some (-1)) else (some 0)) (fun v21 : Int => some v21) q5) = some (cmpL l (b.drop k)) := by
    intro l
    induction l with
    | nil =>
      intro k hk
      simp only [goL, Option.bind_some, Sum.elim_inl, List.length_nil, Nat.add_zero]
      by_cases h : k < b.length
      · rw [List.drop_eq_getElem_cons h]; simp [h, cmpL]
      · rw [List.drop_eq_nil_of_le (by omega)]; simp [h, cmpL]
    | cons y l ih =>
      intro k hk
      by_cases h1 : b.length ≤ k
      · rw [List.drop_eq_nil_of_le h1]
        simp [goL, h1, cmpL]
      · have h1' : k < b.length := by omega
        have hd : b.drop k = b.getD k 0 :: b.drop (k + 1) := by rw [List.drop_eq_getElem_cons h1']; simp [h1']
        rw [hd]
        by_cases h2 : cmpI y (b.getD k 0) = 0
        · have ih' := ih (k + 1) (by omega)
          have e : cmpL (y :: l) (b.getD k 0 :: b.drop (k + 1)) = cmpL l (b.drop (k + 1)) := by
            rw [cmpL]
            unfold cmpI at h2
            by_cases c1 : y < b.getD k 0
            · rw [if_pos c1] at h2; omega
            · by_cases c2 : b.getD k 0 < y
              · rw [if_neg c1, if_pos c2] at h2; omega
              · rw [if_neg c1, if_neg c2]
          rw [e, ← ih']
          have e2 : k + (y :: l).length = k + 1 + l.length := by simp; omega
          rw [e2]
          simp only [goL, h1, if_false, h2, ne_eq, not_true_eq_false]
        · have e : cmpL (y :: l) (b.getD k 0 :: b.drop (k + 1)) = cmpI y (b.getD k 0) := by
            rw [cmpL]
            unfold cmpI at h2 ⊢
            by_cases c1 : y < b.getD k 0
            · rw [if_pos c1, if_pos c1]
            · by_cases c2 : b.getD k 0 < y
              · rw [if_neg c1, if_pos c2, if_neg c1, if_pos c2]
              · rw [if_neg c1, if_neg c2] at h2; exact absurd rfl h2
          rw [e]
          simp only [goL, h1, if_false, h2, ne_eq, not_false_eq_true, if_true, Option.bind_some, Sum.elim_inr]
  unfold f105
  rw [h]
  have := h2 a 0 (Nat.zero_le _)
  rw [List.drop_zero] at this
  rw [← this]
  congr 1
  funext q
  cases q with
  | inl p =>
    simp only [Sum.elim_inl, Nat.zero_add]
    by_cases c : a.length < b.length
    · have : (a.length : Int) < (b.length : Int) := by omega
      simp [c]
    · have : ¬ (a.length : Int) < (b.length : Int) := by omega
      simp [c]
  | inr v => rfl
theorem f103_eq (a b c : Int) : f103 [a, b, c] = some (if a ≠ 0 then a else if b ≠ 0 then b else c) := by
  have step : ∀ (k : Nat) (y : Int), [a, b, c][k]? = some y → f103_b0 [a, b, c] (k : Int) = some (if y ≠ 0 then .inr (.inr y) else .inl (((k + 1 : Nat)) : Int)) := by
    intro k y hy
    have hk := get_lt hy
    unfold f103_b0
    rw [if_pos (by simp at hk ⊢; omega), ix_nat, hy, wrap_nat hk (by simp)]
    by_cases h : y = 0 <;> simp [h]
  unfold f103
  have e0 : lp (f103_b0 [a, b, c]) 0 = lp (f103_b0 [a, b, c]) ((0 : Nat) : Int) := rfl
  rw [e0, lp_eq, step 0 a rfl]
  by_cases h1 : a = 0
  · subst h1
    simp only [ne_eq, not_true_eq_false, if_false]
    rw [lp_eq, step 1 b rfl]
    by_cases h2 : b = 0
    · subst h2
      simp only [ne_eq, not_true_eq_false, if_false]
      rw [lp_eq, step 2 c rfl]
      by_cases h3 : c = 0
      · subst h3
        simp only [ne_eq, not_true_eq_false, if_false]
        rw [lp_eq]
        unfold f103_b0
        simp
      · simp [h3]
    · simp [h2]
  · simp [h1]
theorem f77_eq (c : List Int → Int) (a b : List Int) (ha : a.length ≤ 1000) (hb : b.length ≤ 1000) : f77 ⟨c a, a⟩ ⟨c b, b⟩ = some (befB c a b) := by
  unfold f77
  simp only [f104_eq, f105_eq a b ha hb, Option.bind_some, f103_eq]
  congr 1
  unfold befB
  rw [← cmpL_neg]
  unfold cmpI
  by_cases h1 : c a < c b
  · simp [h1]
  · by_cases h2 : c b < c a
    · have : ¬ c a = c b := by omega
      simp [h1, h2, this]
    · have : c a = c b := by omega
      rw [this]
      by_cases h3 : a.length < b.length
      · have : (a.length : Int) < (b.length : Int) := by omega
        simp [h3]
      · by_cases h4 : b.length < a.length
        · have h5 : ¬ a.length = b.length := by omega
          simp [h3, h4, h5]
        · have h5 : a.length = b.length := by omega
          simp [h5]
/-- The lexicographic order. -/
theorem f43_eq (a b : List Int) (ha : a.length ≤ 1000) (hb : b.length ≤ 1000) : f43 a b = some (lexlt a b) := by
  have h : lp (f43_b0 a b) 0 = goL (fun k y (_ : Unit) => some (if b.length ≤ k then .inr (.inl ()) else if y ≠ b.getD k 0 then .inr (.inr (decide (y < b.getD k 0))) else .inl ())) (fun _ => .inl ()) 0 a () := by
    refine lp_goL (fun k _ => (k : Int)) a _ _ ?_ ?_ ()
    · intro k t y hy
      have hk := get_lt hy
      have hk' : (k : Int) < (a.length : Int) := by omega
      unfold f43_b0
      by_cases h1 : b.length ≤ k
      · have : ¬ (k : Int) < (b.length : Int) := by omega
        have h1'' : ¬ k < b.length := by omega
        simp [h1, hk, h1'']
      · have h1' : (k : Int) < (b.length : Int) := by omega
        simp only [hk', h1', decide_true, if_true, Option.bind_some]
        rw [ix_nat, ix_nat, hy, getD_get 0 (show k < b.length by omega), wrap_nat hk (by omega)]
        simp only [Option.bind_some, h1, if_false]
        by_cases h2 : y = b.getD k 0
        · simp only [h2, bne_self_eq_false, Bool.false_eq_true, if_false, ne_eq, not_true_eq_false, Option.map_some, Sum.map_inl]
        · have : (y != b.getD k 0) = true := by simpa using h2
          simp only [this, if_true, ne_eq, h2, not_false_eq_true, Option.map_some, Sum.map_inr, id]
    · intro t
      unfold f43_b0
      simp
  have h2 : ∀ (l : List Int) (k : Nat), k ≤ b.length → (goL (fun k y (_ : Unit) => some (if b.length ≤ k then .inr (.inl ()) else if y ≠ b.getD k 0 then .inr (.inr (decide (y < b.getD k 0))) else .inl ())) (fun _ => (Sum.inl () : Unit ⊕ Bool)) k l ()).bind (fun q5 => Sum.elim (fun p4 : Unit => some (decide (k + l.length < b.length))) (fun v21 : Bool => some v21) q5) = some (lexlt l (b.drop k)) := by
    intro l
    induction l with
    | nil =>
      intro k hk
      simp only [goL, Option.bind_some, Sum.elim_inl, List.length_nil, Nat.add_zero]
      by_cases h : k < b.length
      · rw [List.drop_eq_getElem_cons h]; simp [h, lexlt]
      · rw [List.drop_eq_nil_of_le (by omega)]; simp [h, lexlt]
    | cons y l ih =>
      intro k hk
      by_cases h1 : b.length ≤ k
      · rw [List.drop_eq_nil_of_le h1]
        have : ¬ k + (l.length + 1) < b.length := by omega
        simp [goL, h1, lexlt, this]
      · have h1' : k < b.length := by omega
        have hd : b.drop k = b.getD k 0 :: b.drop (k + 1) := by rw [List.drop_eq_getElem_cons h1']; simp [h1']
        rw [hd]
        by_cases h2 : y = b.getD k 0
        · have ih' := ih (k + 1) (by omega)
          have e : lexlt (y :: l) (b.getD k 0 :: b.drop (k + 1)) = lexlt l (b.drop (k + 1)) := by
            rw [lexlt, h2]; simp
          rw [e, ← ih']
          have e2 : k + (y :: l).length = k + 1 + l.length := by simp; omega
          rw [e2]
          simp only [goL, h1, if_false, h2, ne_eq, not_true_eq_false]
        · have e : lexlt (y :: l) (b.getD k 0 :: b.drop (k + 1)) = decide (y < b.getD k 0) := by
            rw [lexlt]; simp only [h2, decide_false, Bool.false_and, Bool.or_false]
          rw [e]
          simp only [goL, h1, if_false, h2, ne_eq, not_false_eq_true, if_true, Option.bind_some, Sum.elim_inr]
  unfold f43
  rw [h]
  have := h2 a 0 (Nat.zero_le _)
  rw [List.drop_zero] at this
  rw [← this]
  congr 1
  funext q
  cases q with
  | inl p =>
    simp only [Sum.elim_inl, Nat.zero_add]
    congr 1
    rw [Bool.eq_iff_iff]; simp
  | inr v => rfl
/-! ### All sets of so many, the document's way -/
theorem ext_len (n : Nat) (p : List Int) : (ext n p).length ≤ n := by simp [ext]
theorem flat_len (n : Nat) : ∀ (L : List (List Int)), (L.flatMap (ext n)).length ≤ L.length * n
  | [] => by simp
  | p :: L => by
    rw [List.flatMap_cons, List.length_append, List.length_cons, Nat.add_mul, Nat.one_mul]
    have := flat_len n L
    have := ext_len n p
    omega
theorem sets_len (n : Nat) : ∀ k, (setsL n k).length ≤ n ^ k
  | 0 => by simp [setsL]
  | k + 1 => by
    have h1 := flat_len n (setsL n k)
    have h2 := sets_len n k
    have h3 : (setsL n k).length * n ≤ n ^ k * n := Nat.mul_le_mul_right n h2
    rw [setsL, Nat.pow_succ]
    omega
/-- One list is made longer by one thing. -/
theorem f85_b2_eq (n i k : Nat) (C : List (List Int)) (p : List Int) (A : List (List Int)) (hp : C[i]? = some p) (hpl : p.length ≤ 1000) (hn : n ≤ 1000) (hA : A.length ≤ 1000000000) (a : Nat) (ha : a = frm p) (hfr : frm p ≤ n) :
    lp (f78_b2 (C, (k : Int)) (A, (i : Int)) (n : Int)) (A, (a : Int)) = some (A ++ ext n p) := by
  subst ha
  have e : ext n p = (List.range' (frm p) (n - frm p)).map fun (j : Nat) => p ++ [(j : Int)] := rfl
  have el : (ext n p).length = n - frm p := by simp [ext]
  have h := lp_thru (body := f78_b2 (C, (k : Int)) (A, (i : Int)) (n : Int)) (ext n p) (A ++ ext n p) (fun j => (A ++ (ext n p).take j, ((frm p + j : Nat) : Int))) ?_ ?_
  · simpa using h
  · intro j q hq
    have hj := get_lt hq
    rw [el] at hj
    have hq' : q = p ++ [((frm p + j : Nat) : Int)] := by
      rw [e] at hq
      rw [List.getElem?_map, List.getElem?_range' (by omega)] at hq
      simp at hq
      rw [← hq]
      simp
    unfold f78_b2
    have c : (((frm p + j : Nat) : Int) < (n : Int)) := by omega
    simp only [c, decide_true, if_true, ix_nat, hp, Option.bind_some]
    rw [app_short [] p (by simp; omega)]
    simp only [List.nil_append, Option.bind_some]
    rw [app_short p _ (by simp; omega)]
    simp only [Option.bind_some]
    rw [app_short _ _ (by simp [el]; omega), take_snoc hq, hq', wrap_id (by omega) (by omega)]
    simp only [Option.bind_some, List.append_assoc]
    congr 3
  · unfold f78_b2
    rw [el]
    have c : ¬ (((frm p + (n - frm p) : Nat) : Int) < (n : Int)) := by omega
    simp only [c, decide_false, Bool.false_eq_true, if_false]
    rw [List.take_of_length_le (by rw [el]; exact Nat.le_refl _)]
theorem frm_le {n k : Nat} {p : List Int} (hp : p ∈ setsL n k) : frm p ≤ n := by
  have h := (incr_iff.1 (mem_sets.1 hp).1).1
  unfold frm
  cases hl : p.getLast? with
  | none => simp
  | some x => have := h x (List.mem_of_getLast? hl); simp only; omega
theorem frm_pos {n k : Nat} {p : List Int} (hp : p ∈ setsL n k) (hk : 0 < k) : p[k - 1]? = some ((frm p : Int) - 1) := by
  have hl := (mem_sets.1 hp).2
  have h := (incr_iff.1 (mem_sets.1 hp).1).1
  have hg : p.getLast? = p[k - 1]? := by rw [List.getLast?_eq_getElem?, hl]
  unfold frm
  rw [hg]
  have hx : p[k - 1]? = some (p[k - 1]'(by omega)) := List.getElem?_eq_getElem (by omega)
  rw [hx]
  have := h _ (List.getElem_mem (show k - 1 < p.length by omega))
  simp only
  congr 1
  omega
theorem frm_zero {n : Nat} {p : List Int} (hp : p ∈ setsL n 0) : frm p = 0 := by
  simp [setsL] at hp
  subst hp; rfl
theorem pow_le_big {n k : Nat} (hn : n ≤ 8) (hk : k ≤ 9) : n ^ k ≤ 1000000000 :=
  Nat.le_trans (Nat.pow_le_pow_left hn k) (Nat.le_trans (Nat.pow_le_pow_right (by decide) hk) (by decide))
theorem f85_b1_eq (n k : Nat) (hn : n ≤ 8) (hk : k ≤ 8) : lp (f78_b1 (setsL n k, (k : Int)) (n : Int)) ([], 0) = some (setsL n (k + 1)) := by
  have hfl : ∀ i, (((setsL n k).take i).flatMap (ext n)).length ≤ 1000000000 := fun i => by
    have h1 := flat_len n ((setsL n k).take i)
    have h2 : ((setsL n k).take i).length * n ≤ (setsL n k).length * n := Nat.mul_le_mul_right n (by rw [List.length_take]; omega)
    have h3 : (setsL n k).length * n ≤ n ^ k * n := Nat.mul_le_mul_right n (sets_len n k)
    have h4 := pow_le_big (k := k + 1) hn (by omega)
    rw [Nat.pow_succ] at h4
    omega
  have hsl := Nat.le_trans (sets_len n k) (pow_le_big (k := k) hn (by omega))
  refine lp_thru (setsL n k) _ (fun i => (((setsL n k).take i).flatMap (ext n), (i : Int))) ?_ ?_
  · intro i p hp
    have hi := get_lt hp
    have hm := List.mem_of_getElem? hp
    have hpl := (mem_sets.1 hm).2
    unfold f78_b1
    have c : (i : Int) < ((setsL n k).length : Int) := by omega
    simp only [c, decide_true, if_true]
    have e1 : (if (decide (0 < (k : Int))) = true then ((ix (setsL n k) (i : Int)).bind fun y21 => (ix y21 (IntKind.i64.wrap ((k : Int) - 1))).bind fun y24 => some (IntKind.i64.wrap (y24 + 1))) else (some 0) : Option Int) = some ((frm p : Nat) : Int) := by
      by_cases h0 : 0 < k
      · have h0' : (0 : Int) < (k : Int) := by omega
        have := frm_le hm
        simp only [h0', decide_true, if_true, ix_nat, hp, Option.bind_some, pred_pos h0 (show k ≤ 1073741824 by omega), frm_pos hm h0]
        rw [wrap_id (by omega) (by omega)]
        congr 1
        omega
      · have : k = 0 := by omega
        subst this
        rw [frm_zero hm]; rfl
    rw [e1]
    simp only [Option.bind_some, wrap_nat hi (by omega)]
    rw [f85_b2_eq n i k (setsL n k) p _ hp (by omega) (by omega) (hfl i) (frm p) rfl (frm_le hm)]
    simp only [Option.bind_some]
    rw [take_snoc hp, List.flatMap_append]
    simp
  · unfold f78_b1
    simp [setsL]
theorem f78_eq (n k : Nat) (hn : n ≤ 8) (hk : k ≤ 8) : f78 (n : Int) (k : Int) = some (setsL n k) := by
  unfold f78
  have h : lp (f78_b0 (n : Int) (k : Int)) ([[]], 0) = some (setsL n k) := by
    refine lp_thru (List.range k) _ (fun i => (setsL n i, (i : Int))) ?_ ?_
    · intro i y hy
      have hi : i < k := by have := get_lt hy; simpa using this
      unfold f78_b0
      have c : (i : Int) < (k : Int) := by omega
      simp only [c, decide_true, if_true, f85_b1_eq n i hn (by omega), Option.bind_some, wrap_nat hi (by omega)]
    · unfold f78_b0
      simp
  rw [h]; rfl
/-! ### The program's best -/
def chosen (cost : List Int → Int) (o : Option (List Int)) : Bool × TChoice := match o with
  | none => (false, ⟨0, []⟩)
  | some l => (true, ⟨cost l, l⟩)
theorem bestN_in (cost : List Int → Int) (holds : Nat → Bool) (n : Nat) : ∀ m, ∀ l, bestN cost holds n m = some l → ∃ j, j < m ∧ l = lst j n
  | 0, l, h => by simp [bestN] at h
  | m + 1, l, h => by
    have ih := bestN_in cost holds n m
    unfold bestN at h
    cases hb : bestN cost holds n m with
    | none =>
      rw [hb] at h
      simp only at h
      by_cases hh : holds m = true
      · rw [if_pos hh] at h; cases h; exact ⟨m, by omega, rfl⟩
      · rw [if_neg hh] at h; cases h
    | some b =>
      rw [hb] at h
      simp only at h
      by_cases hh : (befB cost (lst m n) b && holds m) = true
      · rw [if_pos hh] at h; cases h; exact ⟨m, by omega, rfl⟩
      · rw [if_neg hh] at h; cases h
        obtain ⟨j, h1, h2⟩ := ih l hb
        exact ⟨j, by omega, h2⟩
theorem refStep_or (cost : List Int → Int) (H : List Int → Bool) (acc : Option (List Int)) (l : List Int) : refStep cost H acc l = some l ∨ refStep cost H acc l = acc := by
  unfold refStep
  exact if h : _ then .inl (if_pos h) else .inr (if_neg h)
end Go.Proofs.Ytajejmbnmphngaa
