/-
  The document's way through the sets: fewer first, then in lexicographic order.
-/
import Derived.Test.YtcaflmilfhhikaaDoorSu
namespace Go.Proofs.YtcaflmilfhhikaaDoor
open Go.RowKit
set_option linter.unusedVariables false

def frm (l : List Int) : Nat := match l.getLast? with
  | none => 0
  | some x => x.toNat + 1
def ext (n : Nat) (l : List Int) : List (List Int) := (List.range' (frm l) (n - frm l)).map fun (j : Nat) => l ++ [(j : Int)]
def setsL (n : Nat) : Nat → List (List Int)
  | 0 => [[]]
  | k + 1 => (setsL n k).flatMap (ext n)
theorem incr_snoc {p : List Int} {x : Int} {n : Nat} : incr (p ++ [x]) (n : Int) = true ↔ incr p (n : Int) = true ∧ (frm p : Int) ≤ x ∧ x < (n : Int) := by
  rw [incr_iff, incr_iff, List.pairwise_append]
  constructor
  · rintro ⟨h1, h2, _, h3⟩
    refine ⟨⟨fun y hy => h1 y (by simp [hy]), h2⟩, ?_, (h1 x (by simp)).2⟩
    have hx := h1 x (by simp)
    unfold frm
    cases hl : p.getLast? with
    | none => simp; exact hx.1
    | some y =>
      have hy := List.mem_of_getLast? hl
      have := h3 y hy x (by simp)
      have := (h1 y (by simp [hy])).1
      simp only
      omega
  · rintro ⟨⟨h1, h2⟩, h3, h4⟩
    have hlast : ∀ y ∈ p, y < x := by
      intro y hy
      obtain ⟨z, hz⟩ : ∃ z, p.getLast? = some z := by
        cases h : p.getLast? with
        | none => rw [List.getLast?_eq_none_iff] at h; subst h; cases hy
        | some z => exact ⟨z, rfl⟩
      have hzx : z < x := by
        unfold frm at h3
        rw [hz] at h3
        have := (h1 z (List.mem_of_getLast? hz)).1
        simp only at h3
        omega
      have hyz : y ≤ z := by
        obtain ⟨i, hi⟩ := List.getElem?_of_mem hy
        have hil := get_lt hi
        rw [List.getLast?_eq_getElem?] at hz
        have hzl := get_lt hz
        by_cases e : i = p.length - 1
        · subst e; rw [hz] at hi; cases hi; omega
        · have := List.pairwise_iff_getElem.1 h2 i (p.length - 1) hil hzl (by omega)
          rw [List.getElem?_eq_getElem hil] at hi
          rw [List.getElem?_eq_getElem hzl] at hz
          cases hi; cases hz; omega
      omega
    have hx0 : 0 ≤ x := by omega
    refine ⟨fun y hy => ?_, h2, by simp, fun a ha b hb => ?_⟩
    · rcases List.mem_append.1 hy with hy | hy
      · exact h1 y hy
      · simp at hy; subst hy; exact ⟨hx0, h4⟩
    · simp at hb; subst hb; exact hlast a ha
theorem mem_ext {n : Nat} {p l : List Int} : l ∈ ext n p ↔ ∃ x : Int, l = p ++ [x] ∧ (frm p : Int) ≤ x ∧ x < (n : Int) := by
  unfold ext
  simp only [List.mem_map, List.mem_range'_1]
  constructor
  · rintro ⟨j, ⟨h1, h2⟩, rfl⟩; exact ⟨j, rfl, by omega, by omega⟩
  · rintro ⟨x, rfl, h1, h2⟩; exact ⟨x.toNat, ⟨by omega, by omega⟩, by rw [Int.toNat_of_nonneg (by omega)]⟩
theorem mem_sets {n : Nat} : ∀ {k : Nat} {l : List Int}, l ∈ setsL n k ↔ incr l (n : Int) = true ∧ l.length = k
  | 0, l => by
    simp only [setsL, List.mem_singleton]
    constructor
    · rintro rfl; exact ⟨rfl, rfl⟩
    · rintro ⟨_, h⟩; exact List.eq_nil_of_length_eq_zero h
  | k + 1, l => by
    simp only [setsL, List.mem_flatMap]
    constructor
    · rintro ⟨p, hp, hl⟩
      obtain ⟨h1, h2⟩ := mem_sets.1 hp
      obtain ⟨x, rfl, h3, h4⟩ := mem_ext.1 hl
      exact ⟨incr_snoc.2 ⟨h1, h3, h4⟩, by simp [h2]⟩
    · rintro ⟨h1, h2⟩
      have hne : l ≠ [] := fun e => by subst e; simp at h2
      have he := List.dropLast_concat_getLast hne
      rw [← he] at h1
      obtain ⟨q1, q2, q3⟩ := incr_snoc.1 h1
      exact ⟨l.dropLast, mem_sets.2 ⟨q1, by simp [h2]⟩, mem_ext.2 ⟨l.getLast hne, he.symm, q2, q3⟩⟩
theorem ext_sorted (n : Nat) (p : List Int) : (ext n p).Pairwise fun a b => lexlt a b = true := by
  unfold ext
  rw [List.pairwise_map]
  refine (List.pairwise_lt_range' (s := frm p) (n := n - frm p)).imp ?_
  intro a b h
  refine lexlt_app p ?_
  rw [lexlt_cons]
  exact .inl (by omega)
theorem sets_sorted (n : Nat) : ∀ k, (setsL n k).Pairwise fun a b => lexlt a b = true
  | 0 => by simp [setsL]
  | k + 1 => by
    simp only [setsL]
    rw [List.pairwise_flatMap]
    refine ⟨fun p _ => ext_sorted n p, ?_⟩
    refine (List.Pairwise.and_mem.1 (sets_sorted n k)).imp ?_
    rintro a b ⟨ha, hb, h⟩ x hx y hy
    obtain ⟨u, rfl, _⟩ := mem_ext.1 hx
    obtain ⟨v, rfl, _⟩ := mem_ext.1 hy
    exact lexlt_ext _ _ (by rw [(mem_sets.1 ha).2, (mem_sets.1 hb).2]) h
/-- All sets, in this order, those with fewer than k. -/
def allS (n : Nat) : Nat → List (List Int)
  | 0 => []
  | k + 1 => allS n k ++ setsL n k
theorem mem_allS {n : Nat} : ∀ {k : Nat} {l : List Int}, l ∈ allS n k ↔ incr l (n : Int) = true ∧ l.length < k
  | 0, l => by simp [allS]
  | k + 1, l => by
    simp only [allS, List.mem_append, mem_allS, mem_sets]
    constructor
    · rintro (⟨h1, h2⟩ | ⟨h1, h2⟩)
      · exact ⟨h1, by omega⟩
      · exact ⟨h1, by omega⟩
    · rintro ⟨h1, h2⟩
      by_cases h : l.length < k
      · exact .inl ⟨h1, h⟩
      · exact .inr ⟨h1, by omega⟩
theorem allS_sorted (n : Nat) : ∀ k, (allS n k).Pairwise ordB
  | 0 => by simp [allS]
  | k + 1 => by
    simp only [allS]
    rw [List.pairwise_append]
    refine ⟨allS_sorted n k, (List.Pairwise.and_mem.1 (sets_sorted n k)).imp ?_, fun a ha b hb => ?_⟩
    · rintro a b ⟨ha, hb, h⟩
      exact .inr ⟨by rw [(mem_sets.1 ha).2, (mem_sets.1 hb).2], h⟩
    · exact .inl (by rw [(mem_sets.1 hb).2]; exact (mem_allS.1 ha).2)
def refStep (cost : List Int → Int) (H : List Int → Bool) (acc : Option (List Int)) (l : List Int) : Option (List Int) :=
  if H l && (match acc with | none => true | some b => decide (cost l < cost b)) then some l else acc
theorem ref_spec (cost : List Int → Int) (H : List Int → Bool) : ∀ (n : Nat) (E : List (List Int)), E.length = n → E.Pairwise ordB → match E.foldl (refStep cost H) none with
    | none => ∀ l ∈ E, H l = false
    | some b => b ∈ E ∧ H b = true ∧ ∀ l ∈ E, H l = true → l ≠ b → bef cost b l
  | 0, E, hE, _ => by
    have := List.eq_nil_of_length_eq_zero hE
    subst this
    simp
  | n + 1, E, hE, hp => by
    have hne : E ≠ [] := fun e => by subst e; simp at hE
    obtain ⟨p, x, rfl⟩ : ∃ p x, E = p ++ [x] := ⟨E.dropLast, E.getLast hne, (List.dropLast_concat_getLast hne).symm⟩
    rw [List.pairwise_append] at hp
    have ih := ref_spec cost H n p (by simpa using hE) hp.1
    have hx : ∀ l ∈ p, ordB l x := fun l hl => hp.2.2 l hl x (by simp)
    rw [List.foldl_append, List.foldl_cons, List.foldl_nil]
    cases hf : p.foldl (refStep cost H) none with
    | none =>
      rw [hf] at ih
      unfold refStep
      cases hh : H x with
      | true =>
        simp only [Bool.and_self, if_true]
        refine ⟨by simp, hh, fun l hl h1 h2 => ?_⟩
        rcases List.mem_append.1 hl with hl | hl
        · have := ih l hl; rw [this] at h1; cases h1
        · simp at hl; exact absurd hl h2
      | false =>
        simp only [Bool.false_and, Bool.false_eq_true, if_false]
        intro l hl
        rcases List.mem_append.1 hl with hl | hl
        · exact ih l hl
        · simp at hl; subst hl; exact hh
    | some b =>
      rw [hf] at ih
      obtain ⟨h1, h2, h3⟩ := ih
      unfold refStep
      by_cases hc : (H x && decide (cost x < cost b)) = true
      · simp only [hc, if_true]
        simp only [Bool.and_eq_true, decide_eq_true_eq] at hc
        refine ⟨by simp, hc.1, fun l hl q1 q2 => ?_⟩
        rcases List.mem_append.1 hl with hl | hl
        · by_cases e : l = b
          · subst e; exact .inl hc.2
          · exact bef_trans (.inl hc.2) (h3 l hl q1 e)
        · simp at hl; exact absurd hl q2
      · rw [if_neg hc]
        refine ⟨by simp [h1], h2, fun l hl q1 q2 => ?_⟩
        rcases List.mem_append.1 hl with hl | hl
        · exact h3 l hl q1 q2
        · simp at hl
          subst hl
          simp only [q1, Bool.true_and, decide_eq_true_eq] at hc
          rcases Int.lt_trichotomy (cost b) (cost l) with h | h | h
          · exact .inl h
          · exact .inr ⟨h, hx b h1⟩
          · exact absurd h hc
/-- What the document finds is the best. -/
theorem ref_best (cost : List Int → Int) (H : List Int → Bool) (n : Nat) : match (allS n (n + 1)).foldl (refStep cost H) none with
    | none => ∀ l, incr l (n : Int) = true → H l = false
    | some b => IsBest (fun l => incr l (n : Int) = true ∧ H l = true) cost b := by
  have h := ref_spec cost H _ (allS n (n + 1)) rfl (allS_sorted n (n + 1))
  cases hf : (allS n (n + 1)).foldl (refStep cost H) none with
  | none =>
    rw [hf] at h
    exact fun l hl => h l (mem_allS.2 ⟨hl, by have := incr_len hl; omega⟩)
  | some b =>
    rw [hf] at h
    obtain ⟨h1, h2, h3⟩ := h
    exact ⟨⟨(mem_allS.1 h1).1, h2⟩, fun l ⟨q1, q2⟩ q3 => h3 l (mem_allS.2 ⟨q1, by have := incr_len q1; omega⟩) q2 q3⟩
/-- The two ways find the same. -/
theorem best_same (cost : List Int → Int) (H : List Int → Bool) (n : Nat) : bestN cost (fun m => H (lst m n)) n (2 ^ n) = (allS n (n + 1)).foldl (refStep cost H) none := by
  have h1 := bestN_best cost H n
  have h2 := ref_best cost H n
  cases ha : bestN cost (fun m => H (lst m n)) n (2 ^ n) with
  | none =>
    rw [ha] at h1
    cases hb : (allS n (n + 1)).foldl (refStep cost H) none with
    | none => rfl
    | some b =>
      rw [hb] at h2
      have := h1 b h2.1.1
      rw [h2.1.2] at this
      cases this
  | some a =>
    rw [ha] at h1
    cases hb : (allS n (n + 1)).foldl (refStep cost H) none with
    | none =>
      rw [hb] at h2
      have := h2 a h1.1.1
      rw [h1.1.2] at this
      cases this
    | some b =>
      rw [hb] at h2
      rw [IsBest.unique h1 h2]
end Go.Proofs.YtcaflmilfhhikaaDoor
