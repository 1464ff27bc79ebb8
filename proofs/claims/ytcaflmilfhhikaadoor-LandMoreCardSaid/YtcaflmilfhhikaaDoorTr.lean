/-
  What years are true, in words of the first table.
-/
import Derived.Test.YtcaflmilfhhikaaDoorAp
namespace Go.Proofs.YtcaflmilfhhikaaDoor
open Go.RowKit
set_option linter.unusedVariables false

theorem feas_clo {ps : List Nat} {T : Tab} {y : Nat → Int} {i k : Nat} {m : Int} (hi : i ∈ ps) (hk : k ∈ ps) : Feas ps (clo T i k m) y ↔ Feas ps T y ∧ y k - y i ≤ m := by
  constructor
  · intro h
    refine ⟨fun a ha c hc => Int.le_trans (h a ha c hc) (clo_le T i k m a c), ?_⟩
    have h1 := h i hi k hk
    have h2 := (clo_self T i k m).1
    omega
  · rintro ⟨h, hm⟩ a ha c hc
    by_cases e : a = i ∧ c = k
    · obtain ⟨rfl, rfl⟩ := e
      have h1 := h a ha c hc
      rcases (clo_self T a c m).2 with q | q <;> rw [q] <;> assumption
    · rw [clo_other _ _ _ _ e]; exact h a ha c hc
theorem feas_events {ps : List Nat} {y : Nat → Int} (h7 : 7 ∈ ps) : ∀ (l : List Nat) (T : Tab), (∀ e ∈ l, e ∈ ps) → (Feas ps (l.foldl (fun T e => clo (clo T 7 e 1000) e 7 0) T) y ↔ Feas ps T y ∧ ∀ e ∈ l, y e - y 7 ≤ 1000 ∧ y 7 - y e ≤ 0)
  | [], T, _ => by simp
  | e :: l, T, hl => by
    have he := hl e (List.mem_cons_self ..)
    rw [List.foldl_cons, feas_events h7 l _ (fun x hx => hl x (List.mem_cons_of_mem _ hx)), feas_clo he h7, feas_clo h7 he]
    constructor
    · rintro ⟨⟨⟨h1, h2⟩, h3⟩, h4⟩
      refine ⟨h1, fun x hx => ?_⟩
      rcases List.mem_cons.1 hx with rfl | hx
      · exact ⟨h2, h3⟩
      · exact h4 x hx
    · rintro ⟨h1, h2⟩
      exact ⟨⟨⟨h1, (h2 e (List.mem_cons_self ..)).1⟩, (h2 e (List.mem_cons_self ..)).2⟩, fun x hx => h2 x (List.mem_cons_of_mem _ hx)⟩
/-- A memory is true in some years. -/
def MemT (y : Nat → Int) (m : TLandMemory) : Prop := m.Years.Low ≤ y m.To.toNat - y m.From.toNat ∧ y m.To.toNat - y m.From.toNat ≤ m.Years.High
theorem feas_mem {ps : List Nat} {y : Nat → Int} {hb : Nat → Bool} : ∀ (l : List TLandMemory) (k : Nat) (T : Tab), (∀ m ∈ l, m.From.toNat ∈ ps ∧ m.To.toNat ∈ ps) → (Feas ps (memF hb k l T) y ↔ Feas ps T y ∧ ∀ j m, l[j]? = some m → hb (k + j) = true → MemT y m)
  | [], k, T, _ => by
    have e : memF hb k [] T = T := rfl
    rw [e]
    simp
  | m :: l, k, T, hl => by
    obtain ⟨hF, hT⟩ := hl m (List.mem_cons_self ..)
    have e5 : memF hb k (m :: l) T = memF hb (k + 1) l (if hb k = true then clo (clo T m.From.toNat m.To.toNat m.Years.High) m.To.toNat m.From.toNat (-m.Years.Low) else T) := rfl
    rw [e5, feas_mem l (k + 1) _ (fun x hx => hl x (List.mem_cons_of_mem _ hx))]
    have e6 : Feas ps (if hb k = true then clo (clo T m.From.toNat m.To.toNat m.Years.High) m.To.toNat m.From.toNat (-m.Years.Low) else T) y ↔ Feas ps T y ∧ (hb k = true → MemT y m) := by
      cases hb k with
      | false => simp
      | true =>
        simp only [if_true]
        rw [feas_clo hT hF, feas_clo hF hT]
        unfold MemT
        constructor
        · rintro ⟨⟨h1, h2⟩, h3⟩
          exact ⟨h1, fun _ => ⟨by omega, h2⟩⟩
        · rintro ⟨h1, h2⟩
          have := h2 trivial
          exact ⟨⟨h1, this.2⟩, by omega⟩
    rw [e6]
    constructor
    · rintro ⟨⟨h1, h2⟩, h3⟩
      refine ⟨h1, fun j m' hj hb' => ?_⟩
      cases j with
      | zero =>
        simp at hj
        subst hj
        exact h2 hb'
      | succ j => exact h3 j m' (by simpa using hj) (by rw [show k + 1 + j = k + (j + 1) by omega]; exact hb')
    · rintro ⟨h1, h2⟩
      exact ⟨⟨h1, fun h => h2 0 m rfl h⟩, fun j m' hj hb' => h2 (j + 1) m' (by simpa using hj) (by rw [show k + (j + 1) = k + 1 + j by omega]; exact hb')⟩
def baseT : Tab := (List.range' 0 8).foldl rowsI (tabOf (Tb.zero 64))
theorem rowI_fold (i : Nat) : ∀ (l : List Nat) (T : Tab) (a c : Nat), l.foldl (rowI i) T a c = if a = i ∧ c ∈ l ∧ c ≠ i then 2000 else T a c
  | [], T, a, c => by simp
  | k :: l, T, a, c => by
    rw [List.foldl_cons, rowI_fold i l]
    have e : rowI i T k a c = if a = i ∧ c = k ∧ c ≠ i then 2000 else T a c := by
      unfold rowI
      by_cases h : i = k
      · subst h
        rw [if_pos rfl, if_neg (by rintro ⟨_, h1, h2⟩; exact h2 h1)]
      · rw [if_neg h]
        unfold setT
        by_cases e : a = i ∧ c = k
        · rw [if_pos e, if_pos ⟨e.1, e.2, by rw [e.2]; exact fun x => h x.symm⟩]
        · rw [if_neg e, if_neg (by rintro ⟨h1, h2, _⟩; exact e ⟨h1, h2⟩)]
    rw [e]
    by_cases h1 : a = i ∧ c ∈ l ∧ c ≠ i
    · rw [if_pos h1, if_pos ⟨h1.1, List.mem_cons_of_mem _ h1.2.1, h1.2.2⟩]
    · rw [if_neg h1]
      by_cases h2 : a = i ∧ c = k ∧ c ≠ i
      · rw [if_pos h2, if_pos ⟨h2.1, by rw [h2.2.1]; exact List.mem_cons_self .., h2.2.2⟩]
      · rw [if_neg h2, if_neg (by
          rintro ⟨q1, q2, q3⟩
          rcases List.mem_cons.1 q2 with q | q
          · exact h2 ⟨q1, q, q3⟩
          · exact h1 ⟨q1, q, q3⟩)]
theorem rowsI_fold : ∀ (l : List Nat) (T : Tab) (a c : Nat), l.foldl rowsI T a c = if a ∈ l ∧ c < 8 ∧ c ≠ a then 2000 else T a c
  | [], T, a, c => by simp
  | i :: l, T, a, c => by
    rw [List.foldl_cons, rowsI_fold l]
    have e : rowsI T i a c = if a = i ∧ c < 8 ∧ c ≠ i then 2000 else T a c := by
      unfold rowsI
      rw [rowI_fold]
      have hm : c ∈ List.range' 0 8 ↔ c < 8 := by rw [List.mem_range'_1]; omega
      simp only [hm]
    rw [e]
    by_cases h1 : a ∈ l ∧ c < 8 ∧ c ≠ a
    · rw [if_pos h1, if_pos ⟨List.mem_cons_of_mem _ h1.1, h1.2⟩]
    · rw [if_neg h1]
      by_cases h2 : a = i ∧ c < 8 ∧ c ≠ i
      · rw [if_pos h2, if_pos ⟨by rw [h2.1]; exact List.mem_cons_self .., h2.2.1, by rw [h2.1]; exact h2.2.2⟩]
      · rw [if_neg h2, if_neg (by
          rintro ⟨q1, q2, q3⟩
          rcases List.mem_cons.1 q1 with q | q
          · exact h2 ⟨q, q2, by rw [← q]; exact q3⟩
          · exact h1 ⟨q, q2, q3⟩)]
theorem base_val {a c : Nat} (ha : a < 8) (hc : c < 8) : baseT a c = if c = a then 0 else 2000 := by
  unfold baseT
  rw [rowsI_fold, tab_zero]
  by_cases h : c = a
  · rw [if_pos h, if_neg (by rintro ⟨_, _, h'⟩; exact h' h)]
  · rw [if_neg h, if_pos ⟨by rw [List.mem_range'_1]; omega, hc, h⟩]
/-- The truths of the program's first table. -/
theorem feas_first (x0 : TLandBook) (hb : Nat → Bool) (hn : x0.Events.length ≤ 7) (hF : ∀ m ∈ x0.Memories, m.From.toNat < x0.Events.length ∧ m.To.toNat < x0.Events.length) (y : Nat → Int) :
    Feas (placesL x0.Events.length) (firstT x0 hb) y ↔ (∀ e, e < x0.Events.length → y 7 ≤ y e ∧ y e ≤ y 7 + 1000) ∧ ∀ j m, x0.Memories[j]? = some m → hb j = true → MemT y m := by
  have h7 : 7 ∈ placesL x0.Events.length := by unfold placesL; simp
  have hmem : ∀ e, e < x0.Events.length → e ∈ placesL x0.Events.length := fun e he => by unfold placesL; simp; exact .inl he
  have hr : ∀ e, e ∈ List.range' 0 x0.Events.length ↔ e < x0.Events.length := fun e => by rw [List.mem_range'_1]; omega
  unfold firstT
  rw [feas_mem _ _ _ (fun m hm => ⟨hmem _ (hF m hm).1, hmem _ (hF m hm).2⟩), feas_events h7 _ _ (fun e he => hmem e ((hr e).1 he))]
  constructor
  · rintro ⟨⟨_, h2⟩, h3⟩
    refine ⟨fun e he => ?_, fun j m hj hb' => h3 j m hj (by rw [Nat.zero_add]; exact hb')⟩
    have := h2 e ((hr e).2 he)
    omega
  · rintro ⟨h1, h2⟩
    refine ⟨⟨fun i hi k hk => ?_, fun e he => by have := h1 e ((hr e).1 he); omega⟩, fun j m hj hb' => h2 j m hj (by rw [Nat.zero_add] at hb'; exact hb')⟩
    have hv := base_val (places_lt hn i hi) (places_lt hn k hk)
    have hy : ∀ e, e ∈ placesL x0.Events.length → y 7 ≤ y e ∧ y e ≤ y 7 + 1000 := fun e he => by
      unfold placesL at he
      rcases List.mem_append.1 he with h | h
      · exact h1 e (List.mem_range.1 h)
      · rw [List.mem_singleton.1 h]; omega
    have q1 := hy i hi
    have q2 := hy k hk
    show y k - y i ≤ baseT i k
    rw [hv]
    by_cases h : k = i
    · rw [if_pos h, h]; omega
    · rw [if_neg h]; omega
/-- Years in which the memories of a set are true. -/
def TruthS (x0 : TLandBook) (hb : Nat → Bool) (ys : Nat → Int) : Prop := (∀ e, e < x0.Events.length → 0 ≤ ys e ∧ ys e ≤ 1000) ∧ ∀ j m, x0.Memories[j]? = some m → hb j = true → MemT ys m
theorem truth_of_feas (x0 : TLandBook) (hb : Nat → Bool) (hn : x0.Events.length ≤ 7) (hF : ∀ m ∈ x0.Memories, m.From.toNat < x0.Events.length ∧ m.To.toNat < x0.Events.length) {y : Nat → Int} (h : Feas (placesL x0.Events.length) (firstT x0 hb) y) : TruthS x0 hb fun e => y e - y 7 := by
  obtain ⟨h1, h2⟩ := (feas_first x0 hb hn hF y).1 h
  refine ⟨fun e he => by have := h1 e he; show 0 ≤ y e - y 7 ∧ y e - y 7 ≤ 1000; omega, fun j m hj hb' => ?_⟩
  have := h2 j m hj hb'
  unfold MemT at *
  show m.Years.Low ≤ (y m.To.toNat - y 7) - (y m.From.toNat - y 7) ∧ (y m.To.toNat - y 7) - (y m.From.toNat - y 7) ≤ m.Years.High
  omega
theorem feas_of_truth (x0 : TLandBook) (hb : Nat → Bool) (hn : x0.Events.length ≤ 7) (hF : ∀ m ∈ x0.Memories, m.From.toNat < x0.Events.length ∧ m.To.toNat < x0.Events.length) {ys : Nat → Int} (h : TruthS x0 hb ys) : Feas (placesL x0.Events.length) (firstT x0 hb) fun e => if e = 7 then 0 else ys e := by
  rw [feas_first x0 hb hn hF]
  refine ⟨fun e he => ?_, fun j m hj hb' => ?_⟩
  · have := h.1 e he
    rw [if_pos rfl, if_neg (by omega)]
    omega
  · have h1 := h.2 j m hj hb'
    obtain ⟨f1, f2⟩ := hF m (List.mem_of_getElem? hj)
    unfold MemT at *
    show m.Years.Low ≤ (if m.To.toNat = 7 then 0 else ys m.To.toNat) - (if m.From.toNat = 7 then 0 else ys m.From.toNat) ∧ (if m.To.toNat = 7 then 0 else ys m.To.toNat) - (if m.From.toNat = 7 then 0 else ys m.From.toNat) ≤ m.Years.High
    rw [if_neg (show ¬ m.To.toNat = 7 by omega), if_neg (show ¬ m.From.toNat = 7 by omega)]
    exact h1
/-- The program tells that memories agree just if they are true in some years. -/
theorem agree_iff (x0 : TLandBook) (hb : Nat → Bool) (hn : x0.Events.length ≤ 7) (hF : ∀ m ∈ x0.Memories, m.From.toNat < x0.Events.length ∧ m.To.toNat < x0.Events.length) :
    diagB (placesL x0.Events.length) (passT (placesL x0.Events.length) (firstT x0 hb)) = true ↔ ∃ ys, TruthS x0 hb ys := by
  rw [diagB_iff, diag_iff (by unfold placesL; simp)]
  exact ⟨fun ⟨y, h⟩ => ⟨_, truth_of_feas x0 hb hn hF h⟩, fun ⟨ys, h⟩ => ⟨_, feas_of_truth x0 hb hn hF h⟩⟩
/-- In any truth an event is no more years after another one than the table tells. -/
theorem table_bound (x0 : TLandBook) (hb : Nat → Bool) (hn : x0.Events.length ≤ 7) (hF : ∀ m ∈ x0.Memories, m.From.toNat < x0.Events.length ∧ m.To.toNat < x0.Events.length) {ys : Nat → Int} (h : TruthS x0 hb ys) {a c : Nat} (ha : a < x0.Events.length) (hc : c < x0.Events.length) :
    ys c - ys a ≤ passT (placesL x0.Events.length) (firstT x0 hb) a c ∧ ys c ≤ passT (placesL x0.Events.length) (firstT x0 hb) 7 c ∧ -ys a ≤ passT (placesL x0.Events.length) (firstT x0 hb) a 7 := by
  have hf := (feas_of_truth x0 hb hn hF h).pass
  have h7 : 7 ∈ placesL x0.Events.length := by unfold placesL; simp
  have hmem : ∀ e, e < x0.Events.length → e ∈ placesL x0.Events.length := fun e he => by unfold placesL; simp; exact .inl he
  have k1 := hf a (hmem a ha) c (hmem c hc)
  have k2 := hf 7 h7 c (hmem c hc)
  have k3 := hf a (hmem a ha) 7 h7
  simp only [if_true, show a ≠ 7 by omega, show c ≠ 7 by omega, if_false] at k1 k2 k3
  omega
end Go.Proofs.YtcaflmilfhhikaaDoor
