/-
  Which memories agree; the clash, and what is dropped.
-/
import Derived.Test.YtcaflmilfhhikaaDoorSe
namespace Go.Proofs.YtcaflmilfhhikaaDoor
open Go.RowKit
set_option linter.unusedVariables false

/-- Whether a set of memories agrees, by the program's table. -/
noncomputable def agrS (b : TLandBook) (hb : Nat → Bool) : Bool := diagB (placesL b.Events.length) (passT (placesL b.Events.length) (firstT b hb))
theorem agrS_all (b : TLandBook) : agreeB b = agrS b (bitI ((2 ^ b.Memories.length - 1 : Nat) : Int)) := rfl
theorem agrS_iff {b : TLandBook} (h : bookOk b = true) (hb : Nat → Bool) : agrS b hb = true ↔ ∃ ys, TruthS b hb ys := by
  obtain ⟨_, ⟨_, hn⟩, hl, hm, hF⟩ := book_parts h
  exact agree_iff b hb hn hF
theorem truth_congr {b : TLandBook} {hb hb' : Nat → Bool} (h : ∀ j, j < b.Memories.length → hb j = hb' j) {ys : Nat → Int} (ht : TruthS b hb ys) : TruthS b hb' ys :=
  ⟨ht.1, fun j m hj hbj => ht.2 j m hj (by rw [h j (get_lt hj)]; exact hbj)⟩
theorem agrS_congr {b : TLandBook} (ok : bookOk b = true) {hb hb' : Nat → Bool} (h : ∀ j, j < b.Memories.length → hb j = hb' j) : agrS b hb = agrS b hb' := by
  rw [Bool.eq_iff_iff, agrS_iff ok, agrS_iff ok]
  exact ⟨fun ⟨ys, hy⟩ => ⟨ys, truth_congr h hy⟩, fun ⟨ys, hy⟩ => ⟨ys, truth_congr (fun j hj => (h j hj).symm) hy⟩⟩
/-- Fewer memories agree if more do. -/
theorem agrS_mono {b : TLandBook} (ok : bookOk b = true) {hb hb' : Nat → Bool} (h : ∀ j, j < b.Memories.length → hb' j = true → hb j = true) (ha : agrS b hb = true) : agrS b hb' = true := by
  rw [agrS_iff ok] at ha ⊢
  obtain ⟨ys, h1, h2⟩ := ha
  exact ⟨ys, h1, fun j m hj hbj => h2 j m hj (h j (get_lt hj) hbj)⟩
theorem agrS_none {b : TLandBook} (ok : bookOk b = true) {hb : Nat → Bool} (h : ∀ j, j < b.Memories.length → hb j = false) : agrS b hb = true := by
  rw [agrS_iff ok]
  refine ⟨fun _ => 0, fun e he => by show (0 : Int) ≤ 0 ∧ (0 : Int) ≤ 1000; omega, fun j m hj hbj => ?_⟩
  rw [h j (get_lt hj)] at hbj
  cases hbj
/-! ### A book with some of its memories -/
def pickM (keep : Nat → Bool) : Nat → List TLandMemory → List TLandMemory
  | _, [] => []
  | k, m :: ms => if keep k = true then m :: pickM keep (k + 1) ms else pickM keep (k + 1) ms
theorem pick_cons (keep : Nat → Bool) (k : Nat) (m : TLandMemory) (ms : List TLandMemory) : pickM keep k (m :: ms) = if keep k = true then m :: pickM keep (k + 1) ms else pickM keep (k + 1) ms := rfl
def onlyB (b : TLandBook) (keep : Nat → Bool) : TLandBook := ⟨b.People, b.Events, pickM keep 0 b.Memories⟩
theorem mem_pick {keep : Nat → Bool} {m : TLandMemory} : ∀ {ms : List TLandMemory} {k : Nat}, m ∈ pickM keep k ms ↔ ∃ j, ms[j]? = some m ∧ keep (k + j) = true
  | [], k => by simp [pickM]
  | q :: ms, k => by
    have ih := mem_pick (keep := keep) (m := m) (ms := ms) (k := k + 1)
    have key : (∃ j, (q :: ms)[j]? = some m ∧ keep (k + j) = true) ↔ (q = m ∧ keep k = true) ∨ ∃ j, ms[j]? = some m ∧ keep (k + 1 + j) = true := by
      constructor
      · rintro ⟨j, h1, h2⟩
        cases j with
        | zero => simp at h1; exact .inl ⟨h1, h2⟩
        | succ j => exact .inr ⟨j, by simpa using h1, by rw [show k + 1 + j = k + (j + 1) by omega]; exact h2⟩
      · rintro (⟨h1, h2⟩ | ⟨j, h1, h2⟩)
        · exact ⟨0, by simp [h1], h2⟩
        · exact ⟨j + 1, by simpa using h1, by rw [show k + (j + 1) = k + 1 + j by omega]; exact h2⟩
    rw [key, ← ih, pick_cons]
    by_cases h : keep k = true
    · rw [if_pos h, List.mem_cons]
      constructor
      · rintro (h1 | h1)
        · exact .inl ⟨h1.symm, h⟩
        · exact .inr h1
      · rintro (⟨h1, _⟩ | h1)
        · exact .inl h1.symm
        · exact .inr h1
    · rw [if_neg h]
      constructor
      · exact .inr
      · rintro (⟨_, h1⟩ | h1)
        · exact absurd h1 h
        · exact h1
theorem pick_len (keep : Nat → Bool) : ∀ (ms : List TLandMemory) (k : Nat), (pickM keep k ms).length ≤ ms.length
  | [], _ => by simp [pickM]
  | m :: ms, k => by
    have := pick_len keep ms (k + 1)
    rw [pick_cons]
    split <;> simp <;> omega
theorem only_ok {b : TLandBook} (h : bookOk b = true) (keep : Nat → Bool) : bookOk (onlyB b keep) = true := by
  have hl := pick_len keep b.Memories 0
  unfold bookOk at h ⊢
  simp only [Bool.and_eq_true, decide_eq_true_eq, List.all_eq_true] at h ⊢
  obtain ⟨a, c, d, e, f, g⟩ := h
  refine ⟨a, c, d, ?_, f, fun m hm => ?_⟩
  · show ((pickM keep 0 b.Memories).length : Int) ≤ 10
    omega
  · obtain ⟨j, hj, _⟩ := mem_pick.1 hm
    exact g m (List.mem_of_getElem? hj)
theorem only_truth {b : TLandBook} (keep : Nat → Bool) {ys : Nat → Int} (hl : (onlyB b keep).Memories.length ≤ 10) : TruthS (onlyB b keep) (bitI ((2 ^ (onlyB b keep).Memories.length - 1 : Nat) : Int)) ys ↔ TruthS b keep ys := by
  constructor
  · rintro ⟨h1, h2⟩
    refine ⟨h1, fun j m hj hk => ?_⟩
    obtain ⟨i, hi⟩ := List.getElem?_of_mem (mem_pick.2 ⟨j, hj, by rw [Nat.zero_add]; exact hk⟩ : m ∈ (onlyB b keep).Memories)
    exact h2 i m hi (all_bits hl (get_lt hi))
  · rintro ⟨h1, h2⟩
    refine ⟨h1, fun j m hj hk => ?_⟩
    obtain ⟨i, hi, hk⟩ := mem_pick.1 (List.mem_of_getElem? hj : m ∈ pickM keep 0 b.Memories)
    rw [Nat.zero_add] at hk
    exact h2 i m hi hk
theorem only_agree {b : TLandBook} (h : bookOk b = true) (keep : Nat → Bool) : agreeB (onlyB b keep) = agrS b keep := by
  have hk := only_ok h keep
  rw [Bool.eq_iff_iff, agrS_all, agrS_iff hk, agrS_iff h]
  have hl := (book_parts hk).2.2.1
  exact ⟨fun ⟨ys, hy⟩ => ⟨ys, (only_truth keep hl).1 hy⟩, fun ⟨ys, hy⟩ => ⟨ys, (only_truth keep hl).2 hy⟩⟩
theorem f63_eq (l : List Int) (x : Int) (hl : l.length ≤ 1000) : f63 l x = some (l.contains x) := by
  unfold f63
  have h := lp_all (body := f63_b0 l x) l (fun _ y => !(y == x)) (Sum.inr true : Unit ⊕ Bool) (Sum.inl ()) (fun k => (k : Int)) (fun k y hy => by
    have hk := get_lt hy
    unfold f63_b0
    rw [if_pos (by simp only [decide_eq_true_eq]; omega), ix_nat, hy, Option.bind_some]
    by_cases h : (y == x) = true
    · rw [if_pos h, if_neg (by simp [h])]
    · rw [if_neg h, if_pos (by simpa using h), wrap_cnt (by omega)]) (by unfold f63_b0; rw [if_neg (by simp)])
  rw [show (0 : Int) = ((0 : Nat) : Int) from rfl, h, Option.bind_some]
  have e : allI (fun _ y => !(y == x)) 0 l = !l.contains x := by
    rw [allI_all, Bool.eq_iff_iff]
    simp only [List.all_eq_true, Bool.not_eq_true', List.contains_eq_mem, decide_eq_false_iff_not, beq_eq_false_iff_ne]
    exact ⟨fun h hx => h x hx rfl, fun h y hy e => h (e ▸ hy)⟩
  rw [e]
  cases l.contains x <;> rfl
theorem pick_snoc (keep : Nat → Bool) : ∀ (ms : List TLandMemory) (k : Nat) (m : TLandMemory), pickM keep k (ms ++ [m]) = pickM keep k ms ++ if keep (k + ms.length) = true then [m] else []
  | [], k, m => by simp [pickM]
  | q :: ms, k, m => by
    have ih := pick_snoc keep ms (k + 1) m
    rw [List.cons_append, pick_cons, pick_cons]
    rw [ih, List.length_cons, show k + 1 + ms.length = k + (ms.length + 1) by omega]
    split <;> simp
theorem f25_eq (b : TLandBook) (l : List Int) (others : Bool) (hl : l.length ≤ 1000) (hm : b.Memories.length ≤ 1000) : f25 b l others = some (onlyB b fun j => !(l.contains (j : Int) == others)) := by
  unfold f25
  have h := lp_thru (body := f25_b0 b l others) b.Memories ((⟨b.People, b.Events, pickM (fun j => !(l.contains (j : Int) == others)) 0 b.Memories⟩ : TLandBook), (⟨[], [], []⟩ : TLandBook)) (fun k => ((k : Int), (⟨b.People, b.Events, pickM (fun j => !(l.contains (j : Int) == others)) 0 (b.Memories.take k)⟩ : TLandBook), (⟨[], [], []⟩ : TLandBook))) (fun k m hk => by
    have hlt := get_lt hk
    have hpl := pick_len (fun j => !(l.contains (j : Int) == others)) (b.Memories.take k) 0
    rw [List.length_take] at hpl
    unfold f25_b0
    rw [if_pos (by simp only [decide_eq_true_eq]; omega)]
    simp only [f63_eq l _ hl, Option.bind_some, ix_nat, hk, wrap_cnt (show k ≤ 1000 by omega)]
    rw [take_snoc hk, pick_snoc, List.length_take, Nat.min_eq_left (by omega), Nat.zero_add]
    by_cases hq : (!(l.contains (k : Int) == others)) = true
    · rw [if_pos hq, if_pos hq, app_short _ _ (by rw [List.length_singleton]; omega)]
      rfl
    · rw [if_neg hq, if_neg hq, List.append_nil]
      rfl) (by unfold f25_b0; rw [if_neg (by simp), List.take_length])
  have h' : lp (f25_b0 b l others) (0, (⟨b.People, b.Events, []⟩ : TLandBook), (⟨[], [], []⟩ : TLandBook)) = _ := h
  rw [h', Option.bind_some]
  rfl
/-! ### The document's search -/
def inL (l : List Int) (j : Nat) : Bool := l.contains (j : Int)
/-- The first of all sets for which something holds. -/
def firstS (n : Nat) (H : List Int → Bool) : Option (List Int) := (allS n (n + 1)).find? H
theorem goL_find {ρ : Type} (H : List Int → Bool) (r : ρ) (f : List Int → ρ) : ∀ (l : List (List Int)) (k : Nat), goL (fun _ y (_ : Unit) => some (if H y = true then .inr (f y) else .inl ())) (fun _ => r) k l () = some (match l.find? H with | none => r | some y => f y)
  | [], _ => rfl
  | y :: l, k => by
    have ih := goL_find H r f l (k + 1)
    by_cases h : H y = true
    · simp [goL, h]
    · have h' : H y = false := by simpa using h
      simp only [goL, h', Bool.false_eq_true, if_false, List.find?_cons]
      exact ih
theorem lp_find {σ ρ : Type} {body : σ → Option (σ ⊕ ρ)} (xs : List (List Int)) (H : List Int → Bool) (r : ρ) (f : List Int → ρ) (enc : Nat → σ) (h1 : ∀ k y, xs[k]? = some y → body (enc k) = some (if H y = true then .inr (f y) else .inl (enc (k + 1)))) (h2 : body (enc xs.length) = some (.inr r)) :
    lp body (enc 0) = some (match xs.find? H with | none => r | some y => f y) := by
  rw [← goL_find H r f xs 0]
  refine lp_goL (fun k (_ : Unit) => enc k) xs _ _ (fun k t y hy => ?_) (fun t => h2) ()
  rw [h1 k y hy]
  by_cases h : H y = true <;> simp [h]
theorem allS_find (n : Nat) (H : List Int → Bool) : ∀ k, (allS n k).find? H = (List.range k).findSome? fun m => (setsL n m).find? H
  | 0 => rfl
  | k + 1 => by
    rw [allS, List.find?_append, allS_find n H k, List.range_succ, List.findSome?_append]
    simp
theorem runN_find (n : Nat) (H : List Int → Bool) : ∀ (m k : Nat), runN (fun k (_ : Unit) => some (match (setsL n k).find? H with | none => (.inl () : Unit ⊕ (Unit ⊕ List Int)) | some y => .inr (.inr y))) (fun _ => .inl ()) m k () = some (match (List.range' k m).findSome? fun q => (setsL n q).find? H with | none => .inl () | some y => .inr y)
  | 0, k => rfl
  | m + 1, k => by
    have ih := runN_find n H m (k + 1)
    rw [List.range'_succ, List.findSome?_cons]
    cases hf : (setsL n k).find? H with
    | none => simp only [runN, hf]; exact ih
    | some y => simp only [runN, hf]
/-- The document's way through the sets. -/
theorem way_eq {body : Int → Option (Int ⊕ (Unit ⊕ List Int))} (n : Nat) (hn : n ≤ 15) (H : List Int → Bool) (h1 : ∀ k : Nat, k ≤ n → body (k : Int) = some (match (setsL n k).find? H with | none => .inl ((k + 1 : Nat) : Int) | some y => .inr (.inr y))) (h2 : body ((n + 1 : Nat) : Int) = some (.inr (.inl ()))) :
    (lp body 0).bind (fun q => Sum.elim (fun _ : Unit => some []) (fun v : List Int => some v) q) = some ((firstS n H).getD []) := by
  have h := lp_runN (body := body) (fun k (_ : Unit) => (k : Int)) (n + 1) (fun k (_ : Unit) => some (match (setsL n k).find? H with | none => (.inl () : Unit ⊕ (Unit ⊕ List Int)) | some y => .inr (.inr y))) (fun _ => .inl ()) (fun k t hk => by
    rw [h1 k (by omega)]
    cases (setsL n k).find? H <;> rfl) (fun t => h2) (n + 1) 0 () (by omega)
  have h' : lp body 0 = _ := h
  rw [h', runN_find, ← List.range_eq_range', ← allS_find]
  unfold firstS
  cases (allS n (n + 1)).find? H <;> rfl
theorem set_short {n k : Nat} (hn : n ≤ 15) {l : List Int} (h : l ∈ setsL n k) : l.length ≤ 15 := by
  have := incr_len (mem_sets.1 h).1
  omega
theorem f21_eq (b : TLandBook) (h : bookOk b = true) : f21 b = some ((firstS b.Memories.length fun l => !agrS b (inL l)).getD []) := by
  have hl := (book_parts h).2.2.1
  unfold f21
  refine way_eq b.Memories.length (by omega) _ (fun k hk => ?_) ?_
  · have hsl := sets_len (n := b.Memories.length) (k := k)
    have h2 := two_small (show b.Memories.length ≤ 15 by omega)
    unfold f21_b0
    rw [if_pos (by simp only [decide_eq_true_eq]; omega), f62_eq _ _ (by omega) (by omega), Option.bind_some]
    have hq := lp_find (body := f21_b1 b (setsL b.Memories.length k)) (setsL b.Memories.length k) (fun l => !agrS b (inL l)) (Sum.inl () : Unit ⊕ List Int) Sum.inr (fun k => (k : Int)) (fun i l hi => by
      have hlt := get_lt hi
      unfold f21_b1
      rw [if_pos (by simp only [decide_eq_true_eq]; omega), ix_nat, hi, Option.bind_some, f25_eq b l false (by have := set_short (by omega) (List.mem_of_getElem? hi); omega) (by omega), Option.bind_some, f19_eq _ (only_ok h _), only_agree h, Option.bind_some]
      have e : agrS b (fun j => !(l.contains (j : Int) == false)) = agrS b (inL l) := agrS_congr h fun j _ => by unfold inL; cases l.contains (j : Int) <;> rfl
      rw [e, wrap_nat hlt (by omega)]
      split <;> rfl) (by unfold f21_b1; rw [if_neg (by simp)])
    rw [show (0 : Int) = ((0 : Nat) : Int) from rfl, hq, Option.bind_some, wrap_cnt (show k ≤ 1000 by omega)]
    cases (setsL b.Memories.length k).find? fun l => !agrS b (inL l) <;> rfl
  · unfold f21_b0
    rw [if_neg (by simp only [decide_eq_true_eq]; omega)]
theorem f22_eq (b : TLandBook) (h : bookOk b = true) : f22 b = some ((firstS b.Memories.length fun l => agrS b fun j => !inL l j).getD []) := by
  have hl := (book_parts h).2.2.1
  unfold f22
  refine way_eq b.Memories.length (by omega) _ (fun k hk => ?_) ?_
  · have hsl := sets_len (n := b.Memories.length) (k := k)
    have h2 := two_small (show b.Memories.length ≤ 15 by omega)
    unfold f22_b0
    rw [if_pos (by simp only [decide_eq_true_eq]; omega), f62_eq _ _ (by omega) (by omega), Option.bind_some]
    have hq := lp_find (body := f22_b1 b (setsL b.Memories.length k)) (setsL b.Memories.length k) (fun l => agrS b fun j => !inL l j) (Sum.inl () : Unit ⊕ List Int) Sum.inr (fun k => (k : Int)) (fun i l hi => by
      have hlt := get_lt hi
      unfold f22_b1
      rw [if_pos (by simp only [decide_eq_true_eq]; omega), ix_nat, hi, Option.bind_some, f25_eq b l true (by have := set_short (by omega) (List.mem_of_getElem? hi); omega) (by omega), Option.bind_some, f19_eq _ (only_ok h _), only_agree h, Option.bind_some]
      have e : agrS b (fun j => !(l.contains (j : Int) == true)) = agrS b (fun j => !inL l j) := agrS_congr h fun j _ => by unfold inL; cases l.contains (j : Int) <;> rfl
      rw [e, wrap_nat hlt (by omega)]
      split <;> rfl) (by unfold f22_b1; rw [if_neg (by simp)])
    rw [show (0 : Int) = ((0 : Nat) : Int) from rfl, hq, Option.bind_some, wrap_cnt (show k ≤ 1000 by omega)]
    cases (setsL b.Memories.length k).find? fun l => agrS b fun j => !inL l j <;> rfl
  · unfold f22_b0
    rw [if_neg (by simp only [decide_eq_true_eq]; omega)]
end Go.Proofs.YtcaflmilfhhikaaDoor
