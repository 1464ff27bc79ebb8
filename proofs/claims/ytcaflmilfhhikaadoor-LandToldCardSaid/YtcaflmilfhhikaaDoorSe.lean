/-
  All sets of memories: the program's way and the document's.
-/
import Derived.Test.YtcaflmilfhhikaaDoorRt
import Derived.Test.YtcaflmilfhhikaaDoorSv
namespace Go.Proofs.YtcaflmilfhhikaaDoor
open Go.RowKit
set_option linter.unusedVariables false

theorem app_short {α : Type} (xs ys : List α) (h : xs.length + ys.length ≤ 1073741824) : app xs ys = some (xs ++ ys) := by simp [app, h]
theorem pred_pos {k : Nat} (h0 : 0 < k) (hn : k ≤ 1073741824) : IntKind.i64.wrap ((k : Int) - 1) = ((k - 1 : Nat) : Int) := by rw [wrap_id] <;> omega
theorem take_snoc {α : Type} {l : List α} {k : Nat} {y : α} (h : l[k]? = some y) : l.take (k + 1) = l.take k ++ [y] := by rw [List.take_add_one, h]; rfl
theorem nodup_len : ∀ (m : Nat) (l : List Nat), l.Nodup → (∀ x ∈ l, x < m) → l.length ≤ m
  | 0, l, _, h => by
    cases l with
    | nil => simp
    | cons x l => exact absurd (h x (List.mem_cons_self ..)) (by omega)
  | m + 1, l, hn, h => by
    have h1 := nodup_len m (l.erase m) (hn.erase m) fun x hx => by
      have h2 := (hn.mem_erase_iff).1 hx
      have := h x h2.2
      omega
    have := List.length_erase (a := m) (l := l)
    split at this <;> omega
theorem pw_nodup {l : List (List Int)} (h : l.Pairwise fun a b => lexlt a b = true) : l.Nodup := h.imp fun {a b} hab e => by
  subst e
  rw [lexlt_irrefl] at hab
  cases hab
theorem sets_len {n k : Nat} : (setsL n k).length ≤ 2 ^ n := by
  have h1 : ((setsL n k).map bitsN).Nodup := by
    refine (List.pairwise_map).2 ?_
    refine (List.Pairwise.and_mem.1 (pw_nodup (sets_sorted n k))).imp fun {a b} ⟨ha, hb, hne⟩ e => hne ?_
    rw [← lst_bits (mem_sets.1 ha).1, ← lst_bits (mem_sets.1 hb).1, e]
  have h2 := nodup_len (2 ^ n) _ h1 fun x hx => by
    obtain ⟨l, hl, rfl⟩ := List.mem_map.1 hx
    exact bits_lt (incr_iff.1 (mem_sets.1 hl).1).1
  simpa using h2
theorem two_small {n : Nat} (hn : n ≤ 15) : 2 ^ n ≤ 32768 := Nat.le_trans (Nat.pow_le_pow_right (by decide) hn) (by decide)
theorem flat_take_len {n k i : Nat} : (((setsL n k).take i).flatMap (ext n)).length ≤ 2 ^ n := by
  have h := sets_len (n := n) (k := k + 1)
  rw [setsL] at h
  have e : (setsL n k) = (setsL n k).take i ++ (setsL n k).drop i := (List.take_append_drop i _).symm
  rw [e, List.flatMap_append, List.length_append] at h
  omega
/-- One list is made longer by one thing. -/
theorem d2_loop (n i k : Nat) (C : List (List Int)) (p : List Int) (A : List (List Int)) (hp : C[i]? = some p) (hpl : p.length ≤ 1000) (hn : n ≤ 1000) (hA : A.length ≤ 1000000000) (a : Nat) (ha : a = frm p) (hfr : frm p ≤ n) :
    lp (f62_b2 (C, (k : Int)) (A, (i : Int)) (n : Int)) (A, (a : Int)) = some (A ++ ext n p) := by
  subst ha
  have e : ext n p = (List.range' (frm p) (n - frm p)).map fun (j : Nat) => p ++ [(j : Int)] := rfl
  have el : (ext n p).length = n - frm p := by simp [ext]
  have h := lp_thru (body := f62_b2 (C, (k : Int)) (A, (i : Int)) (n : Int)) (ext n p) (A ++ ext n p) (fun j => (A ++ (ext n p).take j, ((frm p + j : Nat) : Int))) ?_ ?_
  · simpa using h
  · intro j q hq
    have hj := get_lt hq
    rw [el] at hj
    have hq' : q = p ++ [((frm p + j : Nat) : Int)] := by
      rw [e] at hq
      rw [List.getElem?_map, List.getElem?_range' (by omega)] at hq
      simp at hq
      rw [← hq]
      simp
    unfold f62_b2
    have c : (((frm p + j : Nat) : Int) < (n : Int)) := by omega
    simp only [c, decide_true, if_true, ix_nat, hp, Option.bind_some]
    rw [app_short [] p (by simp; omega)]
    simp only [List.nil_append, Option.bind_some]
    rw [app_short p _ (by simp; omega)]
    simp only [Option.bind_some]
    rw [app_short _ _ (by simp [el]; omega), take_snoc hq, hq', wrap_id (by omega) (by omega)]
    simp only [Option.bind_some, List.append_assoc]
    congr 3
  · unfold f62_b2
    rw [el]
    have c : ¬ (((frm p + (n - frm p) : Nat) : Int) < (n : Int)) := by omega
    simp only [c, decide_false, Bool.false_eq_true, if_false]
    rw [List.take_of_length_le (by rw [el]; exact Nat.le_refl _)]
theorem frm_le {n k : Nat} {p : List Int} (hp : p ∈ setsL n k) : frm p ≤ n := by
  have h := (incr_iff.1 (mem_sets.1 hp).1).1
  unfold frm
  cases hl : p.getLast? with
  | none => simp
  | some x => have := h x (List.mem_of_getLast? hl); simp only; omega
theorem frm_pos {n k : Nat} {p : List Int} (hp : p ∈ setsL n k) (hk : 0 < k) : p[k - 1]? = some ((frm p : Int) - 1) := by
  have hl := (mem_sets.1 hp).2
  have h := (incr_iff.1 (mem_sets.1 hp).1).1
  have hg : p.getLast? = p[k - 1]? := by rw [List.getLast?_eq_getElem?, hl]
  unfold frm
  rw [hg]
  have hx : p[k - 1]? = some (p[k - 1]'(by omega)) := List.getElem?_eq_getElem (by omega)
  rw [hx]
  have := h _ (List.getElem_mem (show k - 1 < p.length by omega))
  simp only
  congr 1
  omega
theorem frm_zero {n : Nat} {p : List Int} (hp : p ∈ setsL n 0) : frm p = 0 := by
  simp [setsL] at hp
  subst hp; rfl
theorem d1_loop (n k : Nat) (hn : n ≤ 15) (hk : k ≤ 15) : lp (f62_b1 (setsL n k, (k : Int)) (n : Int)) ([], 0) = some (setsL n (k + 1)) := by
  have h2 := two_small hn
  have hsl := sets_len (n := n) (k := k)
  refine lp_thru (setsL n k) _ (fun i => (((setsL n k).take i).flatMap (ext n), (i : Int))) ?_ ?_
  · intro i p hp
    have hi := get_lt hp
    have hm := List.mem_of_getElem? hp
    have hpl := (mem_sets.1 hm).2
    unfold f62_b1
    have c : (i : Int) < ((setsL n k).length : Int) := by omega
    simp only [c, decide_true, if_true]
    have e1 : (if (decide (0 < (k : Int))) = true then ((ix (setsL n k) (i : Int)).bind fun y21 => (ix y21 (IntKind.i64.wrap ((k : Int) - 1))).bind fun y24 => some (IntKind.i64.wrap (y24 + 1))) else (some 0) : Option Int) = some ((frm p : Nat) : Int) := by
      by_cases h0 : 0 < k
      · have h0' : (0 : Int) < (k : Int) := by omega
        have := frm_le hm
        simp only [h0', decide_true, if_true, ix_nat, hp, Option.bind_some, pred_pos h0 (show k ≤ 1073741824 by omega), frm_pos hm h0]
        rw [wrap_id (by omega) (by omega)]
        congr 1
        omega
      · have : k = 0 := by omega
        subst this
        rw [frm_zero hm]; rfl
    rw [e1]
    have hfl := flat_take_len (n := n) (k := k) (i := i)
    simp only [Option.bind_some, wrap_nat hi (by omega)]
    rw [d2_loop n i k (setsL n k) p _ hp (by omega) (by omega) (by omega) (frm p) rfl (frm_le hm)]
    simp only [Option.bind_some]
    rw [take_snoc hp, List.flatMap_append]
    simp
  · unfold f62_b1
    simp [setsL]
theorem f62_eq (n k : Nat) (hn : n ≤ 15) (hk : k ≤ 16) : f62 (n : Int) (k : Int) = some (setsL n k) := by
  unfold f62
  have h : lp (f62_b0 (n : Int) (k : Int)) ([[]], 0) = some (setsL n k) := by
    refine lp_thru (List.range k) _ (fun i => (setsL n i, (i : Int))) ?_ ?_
    · intro i y hy
      have hi : i < k := by have := get_lt hy; simpa using this
      unfold f62_b0
      have c : (i : Int) < (k : Int) := by omega
      simp only [c, decide_true, if_true, d1_loop n i hn (by omega), Option.bind_some, wrap_nat hi (by omega)]
    · unfold f62_b0
      simp
  rw [h]; rfl
/-! ### The program's way: the sets as bits -/
theorem flatMap_same {α β : Type} {f g : α → List β} : ∀ {l : List α}, (∀ x ∈ l, f x = g x) → l.flatMap f = l.flatMap g
  | [], _ => rfl
  | x :: l, h => by rw [List.flatMap_cons, List.flatMap_cons, h x (List.mem_cons_self ..), flatMap_same fun y hy => h y (List.mem_cons_of_mem _ hy)]
def extN (n : Nat) : Nat → List Int → List (List Int)
  | 0, p => [p]
  | l + 1, p => (ext n p).flatMap (extN n l)
theorem extN_snoc (n : Nat) : ∀ (l : Nat) (p : List Int), (extN n l p).flatMap (ext n) = extN n (l + 1) p
  | 0, p => by simp [extN]
  | l + 1, p => by
    have ih := extN_snoc n l
    show ((ext n p).flatMap (extN n l)).flatMap (ext n) = (ext n p).flatMap (extN n (l + 1))
    rw [List.flatMap_assoc]
    congr 1
    funext q
    exact ih q
theorem sets_ext (n : Nat) : ∀ k, setsL n k = extN n k []
  | 0 => rfl
  | k + 1 => by rw [setsL, sets_ext n k, extN_snoc]
theorem bits_snoc (p : List Int) (j : Nat) : bitsN (p ++ [(j : Int)]) = bitsN p ||| 2 ^ j := by
  unfold bitsN
  rw [List.foldl_append]
  simp
theorem bitOf_eq {k : Nat} (hk : k ≤ 15) : bitOf k = ((2 ^ k : Nat) : Int) := by
  unfold bitOf
  have := two_small hk
  have e : min ((k : Int)).toNat IntKind.i64.bits = k := by
    rw [Int.toNat_natCast]
    exact Nat.min_eq_left (by show k ≤ 64; omega)
  rw [e, Int.one_mul]
  have e2 : (2 : Int) ^ k = ((2 ^ k : Nat) : Int) := by simp
  rw [e2]
  generalize 2 ^ k = q at this
  exact wrap_id (by omega) (by omega)
theorem frm_snoc (p : List Int) (j : Nat) : frm (p ++ [(j : Int)]) = j + 1 := by simp [frm]
theorem subs_eq (n : Nat) (hn : n ≤ 15) : ∀ (l : Nat) (p : List Int), bitsN p < 2 ^ n → subsL n l (frm p) ((bitsN p : Nat) : Int) = (extN n l p).map fun q => ((bitsN q : Nat) : Int)
  | 0, p, _ => by simp [subsL, extN]
  | l + 1, p, hp => by
    have e : ext n p = (List.range' (frm p) (n - frm p)).map fun (j : Nat) => p ++ [(j : Int)] := rfl
    show (List.range' (frm p) (n - frm p)).flatMap (fun k => subsL n l (k + 1) (orI .i64 ((bitsN p : Nat) : Int) (bitOf k))) = ((ext n p).flatMap (extN n l)).map _
    rw [List.map_flatMap, e, List.flatMap_map]
    refine flatMap_same fun k hk => ?_
    rw [List.mem_range'_1] at hk
    have h1 := two_small hn
    have hk2 : 2 ^ k < 2 ^ n := Nat.pow_lt_pow_right (by decide) (by omega)
    rw [bitOf_eq (by omega), orI_nat _ _ (by omega) (by omega), ← bits_snoc, ← frm_snoc p k]
    refine subs_eq n hn l _ ?_
    rw [bits_snoc]
    exact Nat.or_lt_two_pow hp hk2
theorem allS_flat (n : Nat) : ∀ k, allS n k = (List.range k).flatMap (setsL n)
  | 0 => rfl
  | k + 1 => by rw [allS, allS_flat n k, List.range_succ, List.flatMap_append]; simp
theorem setsAll_eq (n : Nat) (hn : n ≤ 15) : setsAll n = (allS n (n + 1)).map fun q => ((bitsN q : Nat) : Int) := by
  unfold setsAll
  rw [allS_flat, List.map_flatMap, ← List.range_eq_range']
  congr 1
  funext m
  have h := subs_eq n hn m [] (by simp only [bitsN, List.foldl_nil]; exact Nat.two_pow_pos n)
  rw [sets_ext, ← h]
  rfl
end Go.Proofs.YtcaflmilfhhikaaDoor
