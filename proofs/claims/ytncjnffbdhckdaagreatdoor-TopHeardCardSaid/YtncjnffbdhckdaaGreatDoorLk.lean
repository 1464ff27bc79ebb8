/-
 Closest tables: the way through all places, one at a time, makes a table closed; closed tables are unique.
-/
import Derived.Test.YtncjnffbdhckdaaGreatDoorPl
import Derived.Test.YtncjnffbdhckdaaGreatDoorFn
import Derived.Test.YtncjnffbdhckdaaGreatDoorBsC
namespace Go.Proofs.YtncjnffbdhckdaaGreatDoor.La
open Go.RowKit
set_option linter.unusedVariables false
abbrev Tab := Nat → Nat → Int
def setT (t : Tab) (i k : Nat) (v : Int) : Tab := fun a b => if a = i ∧ b = k then v else t a b
def clo (t : Tab) (i k : Nat) (m : Int) : Tab := if m < t i k then setT t i k m else t
def stepT (b i : Nat) (t : Tab) (k : Nat) : Tab := clo t i k (t i b + t b k)
def rowT (ps : List Nat) (b : Nat) (t : Tab) (i : Nat) : Tab := ps.foldl (stepT b i) t
def stageT (ps : List Nat) (t : Tab) (b : Nat) : Tab := ps.foldl (rowT ps b) t
def passT (ps : List Nat) (t : Tab) : Tab := ps.foldl (stageT ps) t
theorem clo_le (t : Tab) (i k : Nat) (m : Int) (a b : Nat) : clo t i k m a b ≤ t a b := by
 unfold clo
 split
 ·show (if a = i ∧ b = k then m else t a b) ≤ t a b
  split
  ·rename_i h1 h2; rw [h2.1, h2.2]; omega
  ·exact Int.le_refl _
 ·exact Int.le_refl _
theorem clo_other (t : Tab) (i k : Nat) (m : Int) {a b : Nat} (h : ¬ (a = i ∧ b = k)) : clo t i k m a b = t a b := by
 unfold clo
 split
 ·show (if a = i ∧ b = k then m else t a b) = t a b
  rw [if_neg h]
 ·rfl
theorem clo_self (t : Tab) (i k : Nat) (m : Int) : clo t i k m i k ≤ m ∧ (clo t i k m i k = t i k ∨ clo t i k m i k = m) := by
 unfold clo setT
 split
 ·simp
 ·rename_i h; exact ⟨by omega, .inl rfl⟩
theorem foldl_le {α : Type} {f : Tab → α → Tab} (hf : ∀ t x a b, f t x a b ≤ t a b) : ∀ (l : List α) (t : Tab) (a b : Nat), l.foldl f t a b ≤ t a b
 | [], t, a, b => Int.le_refl _
 | x :: l, t, a, b => by
  have h1 := foldl_le hf l (f t x) a b
  have h2 := hf t x a b
  rw [List.foldl_cons]; omega
theorem step_le (b i : Nat) (t : Tab) (k a c : Nat) : stepT b i t k a c ≤ t a c := clo_le _ _ _ _ _ _
theorem row_le (ps : List Nat) (b : Nat) (t : Tab) (i a c : Nat) : rowT ps b t i a c ≤ t a c := foldl_le (fun t k a c => step_le b i t k a c) _ _ _ _
theorem stage_le (ps : List Nat) (t : Tab) (b a c : Nat) : stageT ps t b a c ≤ t a c := foldl_le (fun t i a c => row_le ps b t i a c) _ _ _ _
theorem pass_le (ps : List Nat) (t : Tab) (a c : Nat) : passT ps t a c ≤ t a c := foldl_le (fun t b a c => stage_le ps t b a c) _ _ _ _
/-! ### Truths -/
def Feas (ps : List Nat) (t : Tab) (y : Nat → Int) : Prop := ∀ i ∈ ps, ∀ k ∈ ps, y k - y i ≤ t i k
theorem Feas.step {ps : List Nat} {t : Tab} {y : Nat → Int} (h : Feas ps t y) {b i k : Nat} (hb : b ∈ ps) (hi : i ∈ ps) (hk : k ∈ ps) : Feas ps (stepT b i t k) y := by
 intro a ha c hc
 unfold stepT
 by_cases e : a = i ∧ c = k
 ·obtain ⟨rfl, rfl⟩ := e
  have h1 := h a ha b hb
  have h2 := h b hb c hc
  have h3 := h a ha c hc
  rcases (clo_self t a c (t a b + t b c)).2 with q | q <;> rw [q] <;> omega
 ·rw [clo_other _ _ _ _ e]; exact h a ha c hc
theorem foldl_feas {ps : List Nat} {y : Nat → Int} {f : Tab → Nat → Tab} (hf : ∀ t x, x ∈ ps → Feas ps t y → Feas ps (f t x) y) : ∀ (l : List Nat) (t : Tab), (∀ x ∈ l, x ∈ ps) → Feas ps t y → Feas ps (l.foldl f t) y
 | [], t, _, h => h
 | x :: l, t, hl, h => foldl_feas hf l (f t x) (fun z hz => hl z (List.mem_cons_of_mem _ hz)) (hf t x (hl x (List.mem_cons_self ..)) h)
theorem Feas.pass {ps : List Nat} {t : Tab} {y : Nat → Int} (h : Feas ps t y) : Feas ps (passT ps t) y :=
 foldl_feas (fun t b hb h => foldl_feas (fun t i hi h => foldl_feas (fun t k hk h => h.step hb hi hk) ps t (fun _ h => h) h) ps t (fun _ h => h) h) ps t (fun _ h => h) h
theorem feas_pass {ps : List Nat} {t : Tab} {y : Nat → Int} : Feas ps (passT ps t) y ↔ Feas ps t y :=
 ⟨fun h i hi k hk => Int.le_trans (h i hi k hk) (pass_le ps t i k), Feas.pass⟩
/-! ### One stage -/
def mnT (t0 : Tab) (b : Nat) (i k : Nat) : Int := min (t0 i k) (t0 i b + t0 b k)
theorem mn_row {t0 : Tab} {b : Nat} (hb : 0 ≤ t0 b b) (k : Nat) : mnT t0 b b k = t0 b k := by unfold mnT; omega
theorem mn_col {t0 : Tab} {b : Nat} (hb : 0 ≤ t0 b b) (i : Nat) : mnT t0 b i b = t0 i b := by unfold mnT; omega
def Mid (t0 : Tab) (b : Nat) (t : Tab) : Prop := ∀ i k, mnT t0 b i k ≤ t i k ∧ t i k ≤ t0 i k
theorem Mid.step {t0 t : Tab} {b : Nat} (hb : 0 ≤ t0 b b) (h : Mid t0 b t) (i k : Nat) : Mid t0 b (stepT b i t k) ∧ stepT b i t k i k ≤ mnT t0 b i k := by
 have h1 := h i b
 have h2 := h b k
 have h3 := h i k
 rw [mn_col hb] at h1
 rw [mn_row hb] at h2
 have e : t i b + t b k = t0 i b + t0 b k := by omega
 constructor
 ·intro a c
  have h4 := h a c
  by_cases q : a = i ∧ c = k
  ·obtain ⟨rfl, rfl⟩ := q
   have := clo_self t a c (t a b + t b c)
   have h5 := clo_le t a c (t a b + t b c) a c
   unfold stepT
   unfold mnT at *
   omega
  ·unfold stepT; rw [clo_other _ _ _ _ q]; exact h4
 ·have := clo_self t i k (t i b + t b k)
  have h5 := clo_le t i k (t i b + t b k) i k
  unfold stepT mnT
  omega
theorem row_mid {t0 : Tab} {b : Nat} (hb : 0 ≤ t0 b b) (i : Nat) : ∀ (l : List Nat) (t : Tab), Mid t0 b t → Mid t0 b (l.foldl (stepT b i) t) ∧ ∀ k ∈ l, l.foldl (stepT b i) t i k ≤ mnT t0 b i k
 | [], t, h => ⟨h, fun _ h => by cases h⟩
 | x :: l, t, h => by
  obtain ⟨h1, h2⟩ := h.step hb i x
  obtain ⟨h3, h4⟩ := row_mid hb i l _ h1
  refine ⟨h3, fun k hk => ?_⟩
  rcases List.mem_cons.1 hk with rfl | hk
  ·exact Int.le_trans (foldl_le (fun t k a c => step_le b i t k a c) l _ i k) h2
  ·exact h4 k hk
theorem stage_mid {ps : List Nat} {t0 : Tab} {b : Nat} (hb : 0 ≤ t0 b b) : ∀ (l : List Nat) (t : Tab), Mid t0 b t → Mid t0 b (l.foldl (rowT ps b) t) ∧ ∀ i ∈ l, ∀ k ∈ ps, l.foldl (rowT ps b) t i k ≤ mnT t0 b i k
 | [], t, h => ⟨h, fun _ h => by cases h⟩
 | x :: l, t, h => by
  obtain ⟨h1, h2⟩ := row_mid hb x ps t h
  obtain ⟨h3, h4⟩ := stage_mid hb l _ h1
  refine ⟨h3, fun i hi k hk => ?_⟩
  rcases List.mem_cons.1 hi with rfl | hi
  ·exact Int.le_trans (foldl_le (fun t i a c => row_le ps b t i a c) l _ i k) (h2 k hk)
  ·exact h4 i hi k hk
theorem stage_eq {ps : List Nat} {t : Tab} {b : Nat} (hb : 0 ≤ t b b) {i k : Nat} (hi : i ∈ ps) (hk : k ∈ ps) : stageT ps t b i k = min (t i k) (t i b + t b k) := by
 have h0 : Mid t b t := fun i k => ⟨by unfold mnT; omega, Int.le_refl _⟩
 obtain ⟨h1, h2⟩ := stage_mid (ps := ps) hb ps t h0
 have h3 := (h1 i k).1
 have h4 := h2 i hi k hk
 unfold mnT at *
 unfold stageT
 omega
/-! ### Closed tables -/
def Clo (ps S : List Nat) (t : Tab) : Prop := ∀ j ∈ S, ∀ i ∈ ps, ∀ k ∈ ps, t i k ≤ t i j + t j k
def Diag (ps : List Nat) (t : Tab) : Prop := ∀ i ∈ ps, 0 ≤ t i i
theorem Clo.stage {ps S : List Nat} {t : Tab} {b : Nat} (hS : ∀ j ∈ S, j ∈ ps) (hb : b ∈ ps) (hd : Diag ps t) (h : Clo ps S t) : Clo ps (b :: S) (stageT ps t b) := by
 have hbb := hd b hb
 intro j hj i hi k hk
 have hjp : j ∈ ps := by rcases List.mem_cons.1 hj with rfl | hj; exact hb; exact hS j hj
 rw [stage_eq hbb hi hk, stage_eq hbb hi hjp, stage_eq hbb hjp hk]
 rcases List.mem_cons.1 hj with rfl | hj
 ·omega
 ·have h1 := h j hj i hi k hk
  have h2 := h j hj b hb k hk
  have h3 := h j hj i hi b hb
  have h4 := h j hj b hb b hb
  omega
theorem pass_clo {ps : List Nat} : ∀ (l S : List Nat) (t : Tab), (∀ j ∈ S, j ∈ ps) → (∀ j ∈ l, j ∈ ps) → Clo ps S t → Diag ps (l.foldl (stageT ps) t) → ∃ S', (∀ j ∈ l, j ∈ S') ∧ Clo ps S' (l.foldl (stageT ps) t) ∧ (∀ j ∈ S, j ∈ S')
 | [], S, t, _, _, h, _ => ⟨S, fun _ h => (by cases h), h, fun _ h => h⟩
 | b :: l, S, t, hS, hl, h, hd => by
  have hb := hl b (List.mem_cons_self ..)
  have hdt : Diag ps t := fun i hi => by
   have h1 := hd i hi
   have h2 := foldl_le (fun t b a c => stage_le ps t b a c) (b :: l) t i i
   omega
  obtain ⟨S', h1, h2, h3⟩ := pass_clo l (b :: S) (stageT ps t b) (fun j hj => by rcases List.mem_cons.1 hj with rfl | hj; exact hb; exact hS j hj) (fun j hj => hl j (List.mem_cons_of_mem _ hj)) (h.stage hS hb hdt) hd
  refine ⟨S', fun j hj => ?_, h2, fun j hj => h3 j (List.mem_cons_of_mem _ hj)⟩
  rcases List.mem_cons.1 hj with rfl | hj
  ·exact h3 j (List.mem_cons_self ..)
  ·exact h1 j hj
theorem pass_closed {ps : List Nat} {t : Tab} (hd : Diag ps (passT ps t)) : Clo ps ps (passT ps t) := by
 obtain ⟨S, h1, h2, _⟩ := pass_clo ps [] t (fun _ h => by cases h) (fun _ h => h) (fun _ h => by cases h) hd
 exact fun j hj => h2 j (h1 j hj)
theorem step_same {ps : List Nat} {t : Tab} (h : Clo ps ps t) {b i k : Nat} (hb : b ∈ ps) (hi : i ∈ ps) (hk : k ∈ ps) : stepT b i t k = t := by
 unfold stepT clo
 rw [if_neg (by have := h b hb i hi k hk; omega)]
theorem foldl_same {ps : List Nat} {t : Tab} {f : Tab → Nat → Tab} (hf : ∀ x ∈ ps, f t x = t) : ∀ (l : List Nat), (∀ x ∈ l, x ∈ ps) → l.foldl f t = t
 | [], _ => rfl
 | x :: l, h => by rw [List.foldl_cons, hf x (h x (List.mem_cons_self ..))]; exact foldl_same hf l fun z hz => h z (List.mem_cons_of_mem _ hz)
theorem pass_same {ps : List Nat} {t : Tab} (h : Clo ps ps t) : passT ps t = t :=
 foldl_same (ps := ps) (fun b hb => foldl_same (ps := ps) (fun i hi => foldl_same (ps := ps) (fun k hk => step_same h hb hi hk) ps fun _ h => h) ps fun _ h => h) ps fun _ h => h
theorem clo_feas {ps : List Nat} {t : Tab} (h : Clo ps ps t) {s : Nat} (hs : s ∈ ps) : Feas ps t (t s) := fun i hi k hk => by
 have := h i hi s hs k hk
 omega
theorem diag_zero {ps : List Nat} {t : Tab} (ht : ∀ i ∈ ps, t i i ≤ 0) (hd : Diag ps (passT ps t)) {i : Nat} (hi : i ∈ ps) : passT ps t i i = 0 := by
 have h1 := hd i hi
 have h2 := pass_le ps t i i
 have h3 := ht i hi
 omega
theorem diag_iff {ps : List Nat} {t : Tab} (hne : ps ≠ []) : Diag ps (passT ps t) ↔ ∃ y, Feas ps t y := by
 constructor
 ·intro hd
  obtain ⟨s, hs⟩ := List.exists_mem_of_ne_nil ps hne
  exact ⟨passT ps t s, feas_pass.1 (clo_feas (pass_closed hd) hs)⟩
 ·rintro ⟨y, hy⟩ i hi
  have := hy.pass i hi i hi
  omega
/-! ### How small numbers get on one way through -/
structure Low (b : Nat) (M : Int) (t : Tab) : Prop where
 bb : -(2 * M) ≤ t b b
 row : ∀ k, -(3 * M) ≤ t b k
 col : ∀ i, -(3 * M) ≤ t i b
 all : ∀ i k, -(6 * M) ≤ t i k
theorem Low.step {b : Nat} {M : Int} {t : Tab} (hM : 0 ≤ M) (h : Low b M t) {i k : Nat} (hv : -M ≤ t i k) : Low b M (stepT b i t k) ∧ -(6 * M) ≤ t i b + t b k := by
 have e1 := h.bb
 have e2 := h.row k
 have e3 := h.col i
 have hsum : -(6 * M) ≤ t i b + t b k := by omega
 have hs := clo_self t i k (t i b + t b k)
 refine ⟨⟨?_, fun k' => ?_, fun i' => ?_, fun i' k' => ?_⟩, hsum⟩
 ·unfold stepT
  by_cases q : b = i ∧ b = k
  ·obtain ⟨rfl, rfl⟩ := q; omega
  ·rw [clo_other _ _ _ _ q]; exact e1
 ·unfold stepT
  by_cases q : b = i ∧ k' = k
  ·obtain ⟨rfl, rfl⟩ := q; omega
  ·rw [clo_other _ _ _ _ q]; exact h.row k'
 ·unfold stepT
  by_cases q : i' = i ∧ b = k
  ·obtain ⟨rfl, rfl⟩ := q; omega
  ·rw [clo_other _ _ _ _ q]; exact h.col i'
 ·unfold stepT
  by_cases q : i' = i ∧ k' = k
  ·obtain ⟨rfl, rfl⟩ := q; omega
  ·rw [clo_other _ _ _ _ q]; exact h.all i' k'
theorem row_low {b i : Nat} {M : Int} (hM : 0 ≤ M) : ∀ (l : List Nat) (t : Tab), l.Nodup → Low b M t → (∀ k ∈ l, -M ≤ t i k) → Low b M (l.foldl (stepT b i) t) ∧ (∀ a, a ≠ i → ∀ c, l.foldl (stepT b i) t a c = t a c)
 | [], t, _, h, _ => ⟨h, fun _ _ _ => rfl⟩
 | x :: l, t, hn, h, hv => by
  rw [List.nodup_cons] at hn
  obtain ⟨h1, h2⟩ := row_low hM l (stepT b i t x) hn.2 (h.step hM (hv x (List.mem_cons_self ..))).1 (fun k hk => by
   unfold stepT
   rw [clo_other _ _ _ _ (by rintro ⟨_, rfl⟩; exact hn.1 hk)]
   exact hv k (List.mem_cons_of_mem _ hk))
  refine ⟨h1, fun a ha c => ?_⟩
  rw [List.foldl_cons, h2 a ha c]
  unfold stepT
  rw [clo_other _ _ _ _ (by rintro ⟨rfl, _⟩; exact ha rfl)]
theorem stage_low {ps : List Nat} {b : Nat} {M : Int} (hps : ps.Nodup) (hM : 0 ≤ M) : ∀ (l : List Nat) (t : Tab), l.Nodup → Low b M t → (∀ i ∈ l, ∀ k ∈ ps, -M ≤ t i k) → Low b M (l.foldl (rowT ps b) t)
 | [], t, _, h, _ => h
 | x :: l, t, hn, h, hv => by
  rw [List.nodup_cons] at hn
  obtain ⟨h1, h2⟩ := row_low (i := x) hM ps t hps h (hv x (List.mem_cons_self ..))
  exact stage_low hps hM l (rowT ps b t x) hn.2 h1 (fun i hi k hk => by
   show -M ≤ ps.foldl (stepT b x) t i k
   rw [h2 i (by rintro rfl; exact hn.1 hi) k]
   exact hv i (List.mem_cons_of_mem _ hi) k hk)
theorem stage_bound {ps : List Nat} (hps : ps.Nodup) {M : Int} (hM : 0 ≤ M) {t : Tab} (ht : ∀ i k, -M ≤ t i k) (b i k : Nat) : -(6 * M) ≤ stageT ps t b i k :=
 (stage_low hps hM ps t hps ⟨by have := ht b b; omega, fun k => by have := ht b k; omega, fun i => by have := ht i b; omega, fun i k => by have := ht i k; omega⟩ (fun i _ k _ => ht i k)).all i k
theorem pass_bound {ps : List Nat} (hps : ps.Nodup) : ∀ (l : List Nat) (M : Int) (t : Tab), 0 ≤ M → (∀ i k, -M ≤ t i k) → ∀ i k, -(6 ^ l.length * M) ≤ l.foldl (stageT ps) t i k
 | [], M, t, _, h, i, k => by simpa using h i k
 | b :: l, M, t, hM, h, i, k => by
  have := pass_bound hps l (6 * M) (stageT ps t b) (by omega) (fun i k => stage_bound hps hM h b i k) i k
  rw [List.foldl_cons, List.length_cons, Int.pow_succ, Int.mul_assoc]
  exact this
end Go.Proofs.YtncjnffbdhckdaaGreatDoor.La
/-
 The program's table as a function of two places.
-/
namespace Go.Proofs.YtncjnffbdhckdaaGreatDoor.La
open Go.RowKit
set_option linter.unusedVariables false
def tabOf (t : Tb 64) : Tab := fun a c => if a < 8 ∧ c < 8 then tget t (0 + a * 8 + c * 1) else 0
theorem tab_get (t : Tb 64) {a c : Nat} (ha : a < 8) (hc : c < 8) : tget t (0 + a * 8 + c * 1) = tabOf t a c := by
 unfold tabOf; rw [if_pos ⟨ha, hc⟩]
theorem tget_set (t : Tb 64) {j q : Nat} (hj : j < 64) (v : Int) : tget (tset t j v) q = if q = j then v else tget t q := by
 have hl := t.2
 unfold tget tset
 simp only [List.getD_eq_getElem?_getD, List.getElem?_set]
 by_cases h : j = q
 ·subst h
  rw [if_pos rfl, if_pos rfl, if_pos (by omega)]; rfl
 ·rw [if_neg h, if_neg (fun e => h e.symm)]
theorem tab_set (t : Tb 64) {i k : Nat} (hi : i < 8) (hk : k < 8) (v : Int) : tabOf (tset t (0 + i * 8 + k * 1) v) = setT (tabOf t) i k v := by
 funext a c
 unfold setT tabOf
 by_cases h : a < 8 ∧ c < 8
 ·rw [if_pos h, tget_set t (by omega)]
  by_cases e : a = i ∧ c = k
  ·rw [if_pos e, if_pos (by rw [e.1, e.2])]
  ·rw [if_neg e, if_neg (by omega), if_pos h]
 ·rw [if_neg h, if_neg (by rintro ⟨rfl, rfl⟩; exact h ⟨hi, hk⟩), if_neg h]
theorem b8_round {ps : List Nat} {b i : Nat} (hb : b < 8) (hi : i < 8) {q k : Nat} (hq : ps[q]? = some k) (hk : k < 8) (hl : ps.length ≤ 100) (t u : Tb 64) (ch : Bool)
  (hw : IntKind.i64.wrap (tabOf t i b + tabOf t b k) = tabOf t i b + tabOf t b k) : ∃ ch' t', f160_b8 (ps.map fun p : Nat => (p : Int)) (b : Int) (i : Int) (ch, (q : Int), t, u) = some (.inl (ch', ((q + 1 : Nat) : Int), t', u)) ∧ tabOf t' = stepT b i (tabOf t) k ∧ (ch' = false ↔ ch = false ∧ tabOf t i k ≤ tabOf t i b + tabOf t b k) := by
 have hlt : q < ps.length := (List.getElem?_eq_some_iff.1 hq).1
 have hx : ix (ps.map fun p : Nat => (p : Int)) (q : Int) = some (k : Int) := by
  simp [ix, hq]
 have hq1 : IntKind.i64.wrap ((q : Int) + 1) = ((q + 1 : Nat) : Int) := by
  rw [IntKind.wrap_i64]; omega
 unfold f160_b8
 rw [if_pos (by simp only [decide_eq_true_eq, List.length_map]; omega)]
 simp only [hx, Option.bind_some, ckI_nat hb, ckI_nat hi, ckI_nat hk, tab_get t hi hb, tab_get t hb hk, tab_get t hi hk, hw, hq1]
 by_cases h : tabOf t i k ≤ tabOf t i b + tabOf t b k
 ·refine ⟨ch, t, by simp [h], ?_, by simp [h]⟩
  unfold stepT clo
  rw [if_neg (by omega)]
 ·refine ⟨true, tset t (0 + i * 8 + k * 1) (tabOf t i b + tabOf t b k), by simp [h], ?_, by simp [h]⟩
  rw [tab_set t hi hk]
  unfold stepT clo
  rw [if_pos (by omega)]
def Small (t : Tab) : Prop := ∀ a c, -1000000000000000 ≤ t a c ∧ t a c ≤ 1000000000000000
theorem Small.wrap {t : Tab} (h : Small t) (a b c d : Nat) : IntKind.i64.wrap (t a b + t c d) = t a b + t c d := by
 have h1 := h a b
 have h2 := h c d
 rw [IntKind.wrap_i64]; omega
theorem b8_loop {ps : List Nat} {b i : Nat} (hb : b < 8) (hi : i < 8) (hps : ∀ k ∈ ps, k < 8) (hl : ps.length ≤ 100) (u : Tb 64) : ∀ (l : List Nat) (q : Nat) (t : Tb 64) (ch : Bool), ps.drop q = l → (∀ m, m ≤ l.length → Small ((l.take m).foldl (stepT b i) (tabOf t))) →
  ∃ ch' t', lp (f160_b8 (ps.map fun p : Nat => (p : Int)) (b : Int) (i : Int)) (ch, (q : Int), t, u) = some (ch', t', u) ∧ tabOf t' = l.foldl (stepT b i) (tabOf t) ∧ ((∀ k ∈ l, tabOf t i k ≤ tabOf t i b + tabOf t b k) → ch' = ch)
 | [], q, t, ch, hd, _ => by
  refine ⟨ch, t, ?_, rfl, fun _ => rfl⟩
  rw [lp_eq]
  have hq : ps.length ≤ q := by have := List.drop_eq_nil_iff.1 hd; exact this
  have e : f160_b8 (ps.map fun p : Nat => (p : Int)) (b : Int) (i : Int) (ch, (q : Int), t, u) = some (.inr (ch, t, u)) := by
   unfold f160_b8
   rw [if_neg (by simp only [decide_eq_true_eq, List.length_map]; omega)]
  rw [e]
 | k :: l, q, t, ch, hd, hs => by
  have hq : ps[q]? = some k := by
   have := congrArg (fun z => z[0]?) hd
   simpa using this
  have hk : k < 8 := hps k (List.mem_of_getElem? hq)
  have hd' : ps.drop (q + 1) = l := by
   have := congrArg List.tail hd
   simpa using this
  have h0 : Small (tabOf t) := hs 0 (Nat.zero_le _)
  obtain ⟨c1, t1, e1, e2, e3⟩ := b8_round hb hi hq hk hl t u ch (h0.wrap i b b k)
  obtain ⟨c2, t2, g1, g2, g3⟩ := b8_loop hb hi hps hl u l (q + 1) t1 c1 hd' (fun m hm => by
   have := hs (m + 1) (by simp; omega)
   rw [List.take_succ_cons, List.foldl_cons, ← e2] at this
   exact this)
  refine ⟨c2, t2, ?_, ?_, fun hc => ?_⟩
  ·rw [lp_eq, e1]; exact g1
  ·rw [g2, e2]; rfl
  ·have hk0 := hc k (List.mem_cons_self ..)
   have hst : tabOf t1 = tabOf t := by
    rw [e2]
    unfold stepT clo
    rw [if_neg (by omega)]
   have h1 : c1 = ch := by
    cases hch : ch with
    | false => exact e3.2 ⟨hch, hk0⟩
    | true =>
     cases hc1 : c1 with
     | true => rfl
     | false => have := (e3.1 hc1).1; rw [hch] at this; cases this
   rw [g3 (fun k' hk' => by rw [hst]; exact hc k' (List.mem_cons_of_mem _ hk')), h1]
theorem b7_loop {ps : List Nat} {b : Nat} (hb : b < 8) (hps : ∀ k ∈ ps, k < 8) (hl : ps.length ≤ 100) (u : Tb 64) : ∀ (l : List Nat) (q : Nat) (t : Tb 64) (ch : Bool), ps.drop q = l → (∀ m i, l[m]? = some i → ∀ j, j ≤ ps.length → Small ((ps.take j).foldl (stepT b i) ((l.take m).foldl (rowT ps b) (tabOf t)))) →
  ∃ ch' t', lp (f160_b7 (ps.map fun p : Nat => (p : Int)) (b : Int)) (ch, (q : Int), t, u) = some (ch', t', u) ∧ tabOf t' = l.foldl (rowT ps b) (tabOf t) ∧ ((∀ i ∈ l, ∀ k ∈ ps, tabOf t i k ≤ tabOf t i b + tabOf t b k) → ch' = ch)
 | [], q, t, ch, hd, _ => by
  refine ⟨ch, t, ?_, rfl, fun _ => rfl⟩
  rw [lp_eq]
  have hq : ps.length ≤ q := by have := List.drop_eq_nil_iff.1 hd; exact this
  have e : f160_b7 (ps.map fun p : Nat => (p : Int)) (b : Int) (ch, (q : Int), t, u) = some (.inr (ch, t, u)) := by
   unfold f160_b7
   rw [if_neg (by simp only [decide_eq_true_eq, List.length_map]; omega)]
  rw [e]
 | i :: l, q, t, ch, hd, hs => by
  have hq : ps[q]? = some i := by
   have := congrArg (fun z => z[0]?) hd
   simpa using this
  have hi : i < 8 := hps i (List.mem_of_getElem? hq)
  have hlt : q < ps.length := (List.getElem?_eq_some_iff.1 hq).1
  have hd' : ps.drop (q + 1) = l := by
   have := congrArg List.tail hd
   simpa using this
  have hx : ix (ps.map fun p : Nat => (p : Int)) (q : Int) = some (i : Int) := by
   simp [ix, hq]
  have hq1 : IntKind.i64.wrap ((q : Int) + 1) = ((q + 1 : Nat) : Int) := by
   rw [IntKind.wrap_i64]; omega
  obtain ⟨c1, t1, e1, e2, e3⟩ := b8_loop hb hi hps hl u ps 0 t ch rfl (fun m hm => hs 0 i rfl m hm)
  have e0 : f160_b7 (ps.map fun p : Nat => (p : Int)) (b : Int) (ch, (q : Int), t, u) = some (.inl (c1, ((q + 1 : Nat) : Int), t1, u)) := by
   unfold f160_b7
   rw [if_pos (by simp only [decide_eq_true_eq, List.length_map]; omega)]
   simp only [hx, Option.bind_some, hq1]
   rw [show ((0 : Int)) = ((0 : Nat) : Int) from rfl, e1]; rfl
  obtain ⟨c2, t2, g1, g2, g3⟩ := b7_loop hb hps hl u l (q + 1) t1 c1 hd' (fun m i' hm j hj => by
   have := hs (m + 1) i' (by simpa using hm) j hj
   rw [List.take_succ_cons, List.foldl_cons] at this
   rw [e2]; exact this)
  refine ⟨c2, t2, ?_, ?_, fun hc => ?_⟩
  ·rw [lp_eq, e0]; exact g1
  ·rw [g2, e2]; rfl
  ·have hc0 := hc i (List.mem_cons_self ..)
   have hst : tabOf t1 = tabOf t := by
    rw [e2]
    exact foldl_same (ps := ps) (fun k hk => by unfold stepT clo; rw [if_neg (by have := hc0 k hk; omega)]) ps fun _ h => h
   rw [g3 (fun i' hi' k hk => by rw [hst]; exact hc i' (List.mem_cons_of_mem _ hi') k hk), e3 hc0]
def Fits (ps l : List Nat) (t : Tab) : Prop := ∀ m b, l[m]? = some b → ∀ n i, ps[n]? = some i → ∀ j, j ≤ ps.length → Small ((ps.take j).foldl (stepT b i) ((ps.take n).foldl (rowT ps b) ((l.take m).foldl (stageT ps) t)))
theorem b6_loop {ps : List Nat} (hps : ∀ k ∈ ps, k < 8) (hl : ps.length ≤ 100) (u : Tb 64) : ∀ (l : List Nat) (q : Nat) (t : Tb 64) (ch : Bool), ps.drop q = l → Fits ps l (tabOf t) →
  ∃ ch' t', lp (f160_b6 (ps.map fun p : Nat => (p : Int))) (ch, (q : Int), t, u) = some (ch', t', u) ∧ tabOf t' = l.foldl (stageT ps) (tabOf t) ∧ ((∀ b ∈ l, ∀ i ∈ ps, ∀ k ∈ ps, tabOf t i k ≤ tabOf t i b + tabOf t b k) → ch' = ch)
 | [], q, t, ch, hd, _ => by
  refine ⟨ch, t, ?_, rfl, fun _ => rfl⟩
  rw [lp_eq]
  have hq : ps.length ≤ q := by have := List.drop_eq_nil_iff.1 hd; exact this
  have e : f160_b6 (ps.map fun p : Nat => (p : Int)) (ch, (q : Int), t, u) = some (.inr (ch, t, u)) := by
   unfold f160_b6
   rw [if_neg (by simp only [decide_eq_true_eq, List.length_map]; omega)]
  rw [e]
 | b :: l, q, t, ch, hd, hs => by
  have hq : ps[q]? = some b := by
   have := congrArg (fun z => z[0]?) hd
   simpa using this
  have hb : b < 8 := hps b (List.mem_of_getElem? hq)
  have hbp : b ∈ ps := List.mem_of_getElem? hq
  have hlt : q < ps.length := (List.getElem?_eq_some_iff.1 hq).1
  have hd' : ps.drop (q + 1) = l := by
   have := congrArg List.tail hd
   simpa using this
  have hx : ix (ps.map fun p : Nat => (p : Int)) (q : Int) = some (b : Int) := by
   simp [ix, hq]
  have hq1 : IntKind.i64.wrap ((q : Int) + 1) = ((q + 1 : Nat) : Int) := by
   rw [IntKind.wrap_i64]; omega
  obtain ⟨c1, t1, e1, e2, e3⟩ := b7_loop hb hps hl u ps 0 t ch rfl (fun n i hn j hj => hs 0 b rfl n i hn j hj)
  have e0 : f160_b6 (ps.map fun p : Nat => (p : Int)) (ch, (q : Int), t, u) = some (.inl (c1, ((q + 1 : Nat) : Int), t1, u)) := by
   unfold f160_b6
   rw [if_pos (by simp only [decide_eq_true_eq, List.length_map]; omega)]
   simp only [hx, Option.bind_some, hq1]
   rw [show ((0 : Int)) = ((0 : Nat) : Int) from rfl, e1]; rfl
  obtain ⟨c2, t2, g1, g2, g3⟩ := b6_loop hps hl u l (q + 1) t1 c1 hd' (fun m b' hm n i hn j hj => by
   have := hs (m + 1) b' (by simpa using hm) n i hn j hj
   rw [List.take_succ_cons, List.foldl_cons] at this
   rw [e2]; exact this)
  refine ⟨c2, t2, ?_, ?_, fun hc => ?_⟩
  ·rw [lp_eq, e0]; exact g1
  ·rw [g2, e2]; rfl
  ·have hc0 := hc b (List.mem_cons_self ..)
   have hst : tabOf t1 = tabOf t := by
    rw [e2]
    exact foldl_same (ps := ps) (fun i hi => foldl_same (ps := ps) (fun k hk => by unfold stepT clo; rw [if_neg (by have := hc0 i hi k hk; omega)]) ps fun _ h => h) ps fun _ h => h
   rw [g3 (fun b' hb' i hi k hk => by rw [hst]; exact hc b' (List.mem_cons_of_mem _ hb') i hi k hk), e3 hc0]
theorem b9_loop {ps : List Nat} (hps : ∀ k ∈ ps, k < 8) (hl : ps.length ≤ 100) (qq : Bool × Tb 64 × Tb 64) : ∀ (l : List Nat) (q : Nat), ps.drop q = l →
  lp (f160_b9 qq (ps.map fun p : Nat => (p : Int))) (q : Int) = some (if (l.all fun i => decide (0 ≤ tabOf qq.2.1 i i)) = true then .inl () else .inr (Tb.zero 64, false))
 | [], q, hd => by
  rw [lp_eq]
  have hq : ps.length ≤ q := by have := List.drop_eq_nil_iff.1 hd; exact this
  have e : f160_b9 qq (ps.map fun p : Nat => (p : Int)) (q : Int) = some (.inr (.inl ())) := by
   unfold f160_b9
   rw [if_neg (by simp only [decide_eq_true_eq, List.length_map]; omega)]
  rw [e]; rfl
 | i :: l, q, hd => by
  have hq : ps[q]? = some i := by
   have := congrArg (fun z => z[0]?) hd
   simpa using this
  have hi : i < 8 := hps i (List.mem_of_getElem? hq)
  have hlt : q < ps.length := (List.getElem?_eq_some_iff.1 hq).1
  have hd' : ps.drop (q + 1) = l := by
   have := congrArg List.tail hd
   simpa using this
  have hx : ix (ps.map fun p : Nat => (p : Int)) (q : Int) = some (i : Int) := by
   simp [ix, hq]
  have hq1 : IntKind.i64.wrap ((q : Int) + 1) = ((q + 1 : Nat) : Int) := by
   rw [IntKind.wrap_i64]; omega
  rw [lp_eq]
  by_cases h : tabOf qq.2.1 i i < 0
  ·have e : f160_b9 qq (ps.map fun p : Nat => (p : Int)) (q : Int) = some (.inr (.inr (Tb.zero 64, false))) := by
    unfold f160_b9
    rw [if_pos (by simp only [decide_eq_true_eq, List.length_map]; omega)]
    simp only [hx, Option.bind_some, ckI_nat hi, tab_get qq.2.1 hi hi]
    rw [if_pos (by simpa using h)]
   rw [e]
   have hn : decide (0 ≤ tabOf qq.2.1 i i) = false := by rw [decide_eq_false_iff_not]; omega
   simp [hn]
  ·have e : f160_b9 qq (ps.map fun p : Nat => (p : Int)) (q : Int) = some (.inl ((q + 1 : Nat) : Int)) := by
    unfold f160_b9
    rw [if_pos (by simp only [decide_eq_true_eq, List.length_map]; omega)]
    simp only [hx, Option.bind_some, ckI_nat hi, tab_get qq.2.1 hi hi]
    rw [if_neg (by simpa using h), hq1]
   rw [e]
   have hn : decide (0 ≤ tabOf qq.2.1 i i) = true := by rw [decide_eq_true_eq]; omega
   have ih := b9_loop hps hl qq l (q + 1) hd'
   simp only [List.all_cons, hn, Bool.true_and]
   exact ih
theorem fits_clo {ps : List Nat} {T : Tab} (hc : Clo ps ps T) (hs : Small T) : Fits ps ps T := by
 intro m b hm n i hn j hj
 have hb : b ∈ ps := List.mem_of_getElem? hm
 have hi : i ∈ ps := List.mem_of_getElem? hn
 have h1 : ∀ b ∈ ps, ∀ i ∈ ps, ∀ k ∈ ps, stepT b i T k = T := fun b hb i hi k hk => step_same hc hb hi hk
 have h2 : ∀ b ∈ ps, ∀ i ∈ ps, rowT ps b T i = T := fun b hb i hi => foldl_same (ps := ps) (fun k hk => h1 b hb i hi k hk) ps fun _ h => h
 have h3 : ∀ b ∈ ps, stageT ps T b = T := fun b hb => foldl_same (ps := ps) (fun i hi => h2 b hb i hi) ps fun _ h => h
 rw [foldl_same (ps := ps) (fun b hb => h3 b hb) (ps.take m) fun x hx => List.mem_of_mem_take hx, foldl_same (ps := ps) (fun i hi => h2 b hb i hi) (ps.take n) fun x hx => List.mem_of_mem_take hx,
  foldl_same (ps := ps) (fun k hk => h1 b hb i hi k hk) (ps.take j) fun x hx => List.mem_of_mem_take hx]
 exact hs
def diagB (ps : List Nat) (T : Tab) : Bool := ps.all fun i => decide (0 ≤ T i i)
theorem diagB_iff {ps : List Nat} {T : Tab} : diagB ps T = true ↔ Diag ps T := by
 unfold diagB Diag
 simp [List.all_eq_true]
theorem b5_run {ps : List Nat} (x0 : TLandBook) (hn : x0.Events.length ≤ 7) (hps : ∀ k ∈ ps, k < 8) (hl : ps.length ≤ 100) (t u : Tb 64) (hf : Fits ps ps (tabOf t)) (hs : Small (passT ps (tabOf t))) :
  ∃ t', lp (f160_b5 x0 (ps.map fun p : Nat => (p : Int))) (0, t, u) = some (if diagB ps (passT ps (tabOf t)) = true then .inl (t', u) else .inr (Tb.zero 64, false)) ∧ tabOf t' = passT ps (tabOf t) := by
 have hw : IntKind.i64.wrap (IntKind.i64.wrap ((x0.Events.length : Int) + 1) + 1) = ((x0.Events.length + 2 : Nat) : Int) := by
  rw [IntKind.wrap_i64, IntKind.wrap_i64]; omega
 obtain ⟨c1, t1, e1, e2, _⟩ := b6_loop hps hl u ps 0 t false rfl hf
 have e2' : tabOf t1 = passT ps (tabOf t) := e2
 have k9 := b9_loop hps hl (c1, t1, u) ps 0 rfl
 by_cases hd : diagB ps (passT ps (tabOf t)) = true
 ·have hd' : (ps.all fun i => decide (0 ≤ tabOf t1 i i)) = true := by rw [e2']; exact hd
  rw [if_pos hd'] at k9
  simp only [hd, if_true]
  cases c1 with
  | false =>
   refine ⟨t1, ?_, e2'⟩
   rw [lp_eq]
   have e : f160_b5 x0 (ps.map fun p : Nat => (p : Int)) (0, t, u) = some (.inr (.inl (t1, u))) := by
    unfold f160_b5
    rw [if_pos (by simp only [decide_eq_true_eq, hw]; omega)]
    simp only
    rw [show ((0 : Int)) = ((0 : Nat) : Int) from rfl, e1]
    simp only [Option.bind_some]
    rw [k9]; rfl
   rw [e]
  | true =>
   have hc := pass_closed (ps := ps) (t := tabOf t) (diagB_iff.1 hd)
   obtain ⟨c2, t2, g1, g2, g3⟩ := b6_loop hps hl u ps 0 t1 false rfl (by rw [e2']; exact fits_clo hc hs)
   have g2' : tabOf t2 = passT ps (tabOf t) := by
    have : tabOf t2 = passT ps (tabOf t1) := g2
    rw [this, e2', pass_same hc]
   have hc2 : c2 = false := g3 (fun b hb i hi k hk => by rw [e2']; exact hc b hb i hi k hk)
   subst hc2
   have k92 := b9_loop hps hl (false, t2, u) ps 0 rfl
   have hd2 : (ps.all fun i => decide (0 ≤ tabOf t2 i i)) = true := by rw [g2']; exact hd
   rw [if_pos hd2] at k92
   refine ⟨t2, ?_, g2'⟩
   rw [lp_eq]
   have e : f160_b5 x0 (ps.map fun p : Nat => (p : Int)) (0, t, u) = some (.inl (1, t1, u)) := by
    unfold f160_b5
    rw [if_pos (by simp only [decide_eq_true_eq, hw]; omega)]
    simp only
    rw [show ((0 : Int)) = ((0 : Nat) : Int) from rfl, e1]
    simp only [Option.bind_some]
    rw [k9]; rfl
   rw [e]
   simp only
   rw [lp_eq]
   have e' : f160_b5 x0 (ps.map fun p : Nat => (p : Int)) (1, t1, u) = some (.inr (.inl (t2, u))) := by
    unfold f160_b5
    rw [if_pos (by simp only [decide_eq_true_eq, hw]; omega)]
    simp only
    rw [show ((0 : Int)) = ((0 : Nat) : Int) from rfl, g1]
    simp only [Option.bind_some]
    rw [k92]; rfl
   rw [e']
 ·have hd' : ¬ (ps.all fun i => decide (0 ≤ tabOf t1 i i)) = true := by rw [e2']; exact hd
  rw [if_neg hd'] at k9
  simp only [hd, Bool.false_eq_true, if_false]
  refine ⟨t1, ?_, e2'⟩
  rw [lp_eq]
  have e : f160_b5 x0 (ps.map fun p : Nat => (p : Int)) (0, t, u) = some (.inr (.inr (Tb.zero 64, false))) := by
   unfold f160_b5
   rw [if_pos (by simp only [decide_eq_true_eq, hw]; omega)]
   simp only
   rw [show ((0 : Int)) = ((0 : Nat) : Int) from rfl, e1]
   simp only [Option.bind_some]
   rw [k9]; rfl
  rw [e]
/-! ### Nothing gets too great -/
theorem row_other {b i a : Nat} (ha : a ≠ i) : ∀ (l : List Nat) (t : Tab) (c : Nat), l.foldl (stepT b i) t a c = t a c
 | [], t, c => rfl
 | k :: l, t, c => by
  rw [List.foldl_cons, row_other ha l _ c]
  unfold stepT
  rw [clo_other _ _ _ _ (by rintro ⟨rfl, _⟩; exact ha rfl)]
theorem rows_other {ps : List Nat} {b a : Nat} : ∀ (l : List Nat) (t : Tab) (c : Nat), a ∉ l → l.foldl (rowT ps b) t a c = t a c
 | [], t, c, _ => rfl
 | i :: l, t, c, h => by
  rw [List.foldl_cons, rows_other l _ c (fun h' => h (List.mem_cons_of_mem _ h'))]
  exact row_other (fun e => h (by rw [e]; exact List.mem_cons_self ..)) ps t c
theorem not_mem_take {l : List Nat} (hn : l.Nodup) {n i : Nat} (h : l[n]? = some i) : i ∉ l.take n := by
 intro hm
 obtain ⟨j, hj⟩ := List.getElem?_of_mem hm
 have hjn : j < n := by
  have := (List.getElem?_eq_some_iff.1 hj).1
  rw [List.length_take] at this; omega
 rw [List.getElem?_take_of_lt hjn] at hj
 have h1 := (List.getElem?_eq_some_iff.1 h)
 have h2 := (List.getElem?_eq_some_iff.1 hj)
 obtain ⟨l1, e1⟩ := h1
 obtain ⟨l2, e2⟩ := h2
 have := (List.getElem_inj hn).1 (e1.trans e2.symm)
 omega
theorem pow_le {m : Nat} (h : m ≤ 8) : (0 : Int) ≤ 6 ^ m * 2000 ∧ (6 : Int) ^ m * 2000 ≤ 4000000000 := by
 have : m = 0 ∨ m = 1 ∨ m = 2 ∨ m = 3 ∨ m = 4 ∨ m = 5 ∨ m = 6 ∨ m = 7 ∨ m = 8 := by omega
 rcases this with e | e | e | e | e | e | e | e | e <;> rw [e] <;> decide
theorem fits_small {ps : List Nat} (hps : ps.Nodup) (hlen : ps.length ≤ 8) {T : Tab} (h : ∀ a c, -2000 ≤ T a c ∧ T a c ≤ 2000) : Fits ps ps T ∧ Small (passT ps T) := by
 constructor
 ·intro m b hm n i hn j hj a c
  have hml := (List.getElem?_eq_some_iff.1 hm).1
  have hlow := fun a c => pass_bound hps (ps.take m) 2000 T (by omega) (fun a c => (h a c).1) a c
  rw [List.length_take, Nat.min_eq_left (by omega)] at hlow
  obtain ⟨p1, p2⟩ := pow_le (m := m) (by omega)
  have hup : ∀ a c, (ps.take m).foldl (stageT ps) T a c ≤ T a c := fun a c => foldl_le (fun t b a c => stage_le ps t b a c) _ _ _ _
  obtain ⟨U, hU⟩ : ∃ U, U = (ps.take m).foldl (stageT ps) T := ⟨_, rfl⟩
  rw [← hU] at hlow hup ⊢
  generalize (6 : Int) ^ m * 2000 = M at *
  have hL0 : Low b M U := ⟨by have := hlow b b; omega, fun k => by have := hlow b k; omega, fun i => by have := hlow i b; omega, fun i k => by have := hlow i k; omega⟩
  have hL1 := stage_low (b := b) hps p1 (ps.take n) U (hps.sublist (List.take_sublist ..)) hL0 (fun i _ k _ => hlow i k)
  have hup1 : ∀ a c, (ps.take n).foldl (rowT ps b) U a c ≤ U a c := fun a c => foldl_le (fun t i a c => row_le ps b t i a c) _ _ _ _
  have hrow : ∀ c, (ps.take n).foldl (rowT ps b) U i c = U i c := fun c => rows_other _ _ _ (not_mem_take hps hn)
  obtain ⟨V, hV⟩ : ∃ V, V = (ps.take n).foldl (rowT ps b) U := ⟨_, rfl⟩
  rw [← hV] at hL1 hup1 hrow ⊢
  have hL2 := (row_low (i := i) p1 (ps.take j) V (hps.sublist (List.take_sublist ..)) hL1 (fun k _ => by rw [hrow]; exact hlow i k)).1
  have h1 := hL2.all a c
  have h2 : (ps.take j).foldl (stepT b i) V a c ≤ V a c := foldl_le (fun t k a c => step_le b i t k a c) _ _ _ _
  have h3 := hup1 a c
  have h4 := hup a c
  have h5 := h a c
  omega
 ·intro a c
  have hlow := pass_bound hps ps 2000 T (by omega) (fun a c => (h a c).1) a c
  obtain ⟨p1, p2⟩ := pow_le (m := ps.length) hlen
  have hup := pass_le ps T a c
  have h5 := h a c
  unfold passT at *
  omega
/-! ### The first table -/
theorem clo_tab (t : Tb 64) {i k : Nat} (hi : i < 8) (hk : k < 8) (m : Int) : ∃ t', (if decide (tget t (0 + i * 8 + k * 1) ≤ m) = true then some t else some (tset t (0 + i * 8 + k * 1) m) : Option (Tb 64)) = some t' ∧ tabOf t' = clo (tabOf t) i k m := by
 rw [tab_get t hi hk]
 by_cases h : tabOf t i k ≤ m
 ·refine ⟨t, by simp [h], ?_⟩
  unfold clo; rw [if_neg (by omega)]
 ·refine ⟨tset t (0 + i * 8 + k * 1) m, by simp [h], ?_⟩
  rw [tab_set t hi hk]
  unfold clo; rw [if_pos (by omega)]
theorem b2_loop (x0 : TLandBook) (hn : x0.Events.length ≤ 7) (u : Tb 64) : ∀ (m k : Nat) (t : Tb 64), k + m = x0.Events.length → ∃ t', lp (f160_b2 x0) ((k : Int), t, u) = some (t', u) ∧ tabOf t' = (List.range' k m).foldl (fun T e => clo (clo T 7 e 1000) e 7 0) (tabOf t)
 | 0, k, t, hk => by
  refine ⟨t, ?_, rfl⟩
  rw [lp_eq]
  have e : f160_b2 x0 ((k : Int), t, u) = some (.inr (t, u)) := by
   unfold f160_b2
   rw [if_neg (by simp only [decide_eq_true_eq]; omega)]
  rw [e]
 | m + 1, k, t, hk => by
  have hk8 : k < 8 := by omega
  obtain ⟨t1, e1, e2⟩ := clo_tab t (show 7 < 8 by omega) hk8 1000
  obtain ⟨t2, e3, e4⟩ := clo_tab t1 hk8 (show 7 < 8 by omega) 0
  have hq1 : IntKind.i64.wrap ((k : Int) + 1) = ((k + 1 : Nat) : Int) := by
   rw [IntKind.wrap_i64]; omega
  have e : f160_b2 x0 ((k : Int), t, u) = some (.inl (((k + 1 : Nat) : Int), t2, u)) := by
   unfold f160_b2
   rw [if_pos (by simp only [decide_eq_true_eq]; omega)]
   simp only [ckI_nat hk8, Option.bind_some, e1, e3, hq1]
  obtain ⟨t', g1, g2⟩ := b2_loop x0 hn u m (k + 1) t2 (by omega)
  refine ⟨t', ?_, ?_⟩
  ·rw [lp_eq, e]; exact g1
  ·rw [g2, e4, e2]; rfl
def memF (hb : Nat → Bool) : Nat → List TLandMemory → Tab → Tab
 | _, [], T => T
 | k, m :: l, T => memF hb (k + 1) l (if hb k = true then clo (clo T m.From.toNat m.To.toNat m.Years.High) m.To.toNat m.From.toNat (-m.Years.Low) else T)
def MemOk (m : TLandMemory) : Prop := (0 ≤ m.From ∧ m.From < 8) ∧ (0 ≤ m.To ∧ m.To < 8) ∧ -1000 ≤ m.Years.Low ∧ m.Years.Low ≤ m.Years.High ∧ m.Years.High ≤ 1000
theorem b3_loop (x0 : TLandBook) (x1 : Int) (hl : x0.Memories.length ≤ 1000) (hm : ∀ m ∈ x0.Memories, MemOk m) (hb : Nat → Bool) (h81 : ∀ k, k < x0.Memories.length → f210 x1 (k : Int) = some (hb k)) (u : Tb 64) : ∀ (l : List TLandMemory) (k : Nat) (t : Tb 64), x0.Memories.drop k = l → ∃ t', lp (f160_b3 x0 x1) ((k : Int), t, u) = some (t', u) ∧ tabOf t' = memF hb k l (tabOf t)
 | [], k, t, hd => by
  refine ⟨t, ?_, rfl⟩
  rw [lp_eq]
  have hk : x0.Memories.length ≤ k := by have := List.drop_eq_nil_iff.1 hd; exact this
  have e : f160_b3 x0 x1 ((k : Int), t, u) = some (.inr (t, u)) := by
   unfold f160_b3
   rw [if_neg (by simp only [decide_eq_true_eq]; omega)]
  rw [e]
 | m :: l, k, t, hd => by
  have hq : x0.Memories[k]? = some m := by
   have := congrArg (fun z => z[0]?) hd
   simpa using this
  have hlt : k < x0.Memories.length := (List.getElem?_eq_some_iff.1 hq).1
  have hd' : x0.Memories.drop (k + 1) = l := by
   have := congrArg List.tail hd
   simpa using this
  obtain ⟨⟨f1, f2⟩, ⟨f3, f4⟩, f5, f6, f7⟩ := hm m (List.mem_of_getElem? hq)
  have hx : ix x0.Memories (k : Int) = some m := by
   simp [ix, hq]
  have hq1 : IntKind.i64.wrap ((k : Int) + 1) = ((k + 1 : Nat) : Int) := by
   rw [IntKind.wrap_i64]; omega
  have hF : ckI m.From 8 = some m.From.toNat := by unfold ckI; rw [if_pos (by omega)]
  have hT : ckI m.To 8 = some m.To.toNat := by unfold ckI; rw [if_pos (by omega)]
  have hneg : IntKind.i64.wrap (0 - m.Years.Low) = -m.Years.Low := by
   rw [IntKind.wrap_i64]; omega
  obtain ⟨t1, e1, e2⟩ := clo_tab t (show m.From.toNat < 8 by omega) (show m.To.toNat < 8 by omega) m.Years.High
  obtain ⟨t2, e3, e4⟩ := clo_tab t1 (show m.To.toNat < 8 by omega) (show m.From.toNat < 8 by omega) (-m.Years.Low)
  have e : f160_b3 x0 x1 ((k : Int), t, u) = some (.inl (((k + 1 : Nat) : Int), (if hb k = true then t2 else t), u)) := by
   unfold f160_b3
   rw [if_pos (by simp only [decide_eq_true_eq]; omega)]
   simp only [hx, Option.bind_some, h81 k hlt]
   cases hbk : hb k with
   | false => simp [hq1]
   | true => simp only [if_true, hF, hT, Option.bind_some, e1, hneg, e3, hq1]
  obtain ⟨t', g1, g2⟩ := b3_loop x0 x1 hl hm hb h81 u l (k + 1) (if hb k = true then t2 else t) hd'
  refine ⟨t', ?_, ?_⟩
  ·rw [lp_eq, e]; exact g1
  ·have e5 : memF hb k (m :: l) (tabOf t) = memF hb (k + 1) l (if hb k = true then clo (clo (tabOf t) m.From.toNat m.To.toNat m.Years.High) m.To.toNat m.From.toNat (-m.Years.Low) else tabOf t) := rfl
   have e6 : tabOf (if hb k = true then t2 else t) = if hb k = true then clo (clo (tabOf t) m.From.toNat m.To.toNat m.Years.High) m.To.toNat m.From.toNat (-m.Years.Low) else tabOf t := by
    cases hb k with
    | false => rfl
    | true => simp only [if_true]; rw [e4, e2]
   rw [g2, e5, e6]
def rowI (i : Nat) (T : Tab) (c : Nat) : Tab := if i = c then T else setT T i c 2000
def rowsI (T : Tab) (i : Nat) : Tab := (List.range' 0 8).foldl (rowI i) T
theorem b1_loop (x y : Tb 64) (i : Nat) (hi : i < 8) (u : Tb 64) : ∀ (m k : Nat) (t : Tb 64), k + m = 8 → ∃ t', lp (f160_b1 ((i : Int), x, y)) ((k : Int), t, u) = some (t', u) ∧ tabOf t' = (List.range' k m).foldl (rowI i) (tabOf t)
 | 0, k, t, hk => by
  refine ⟨t, ?_, rfl⟩
  rw [lp_eq]
  have e : f160_b1 ((i : Int), x, y) ((k : Int), t, u) = some (.inr (t, u)) := by
   unfold f160_b1
   rw [if_neg (by simp only [decide_eq_true_eq]; omega)]
  rw [e]
 | m + 1, k, t, hk => by
  have hk8 : k < 8 := by omega
  have hq1 : IntKind.i64.wrap ((k : Int) + 1) = ((k + 1 : Nat) : Int) := by
   rw [IntKind.wrap_i64]; omega
  have key : ∃ t1, f160_b1 ((i : Int), x, y) ((k : Int), t, u) = some (.inl (((k + 1 : Nat) : Int), t1, u)) ∧ tabOf t1 = rowI i (tabOf t) k := by
   unfold f160_b1
   rw [if_pos (by simp only [decide_eq_true_eq]; omega)]
   by_cases h : i = k
   ·subst h
    refine ⟨t, by simp [hq1], ?_⟩
    unfold rowI; rw [if_pos rfl]
   ·have hne : ((i : Int) != (k : Int)) = true := by simp; omega
    refine ⟨tset t (0 + i * 8 + k * 1) 2000, ?_, ?_⟩
    ·simp only [hne, if_true, ckI_nat hi, ckI_nat hk8, Option.bind_some, hq1]
    ·rw [tab_set t hi hk8]
     unfold rowI; rw [if_neg h]
  obtain ⟨t1, e1, e2⟩ := key
  obtain ⟨t', g1, g2⟩ := b1_loop x y i hi u m (k + 1) t1 (by omega)
  refine ⟨t', ?_, ?_⟩
  ·rw [lp_eq, e1]; exact g1
  ·rw [g2, e2]; rfl
theorem b0_loop (u : Tb 64) : ∀ (m i : Nat) (t : Tb 64), i + m = 8 → ∃ t', lp f160_b0 ((i : Int), t, u) = some (t', u) ∧ tabOf t' = (List.range' i m).foldl rowsI (tabOf t)
 | 0, i, t, hk => by
  refine ⟨t, ?_, rfl⟩
  rw [lp_eq]
  have e : f160_b0 ((i : Int), t, u) = some (.inr (t, u)) := by
   unfold f160_b0
   rw [if_neg (by simp only [decide_eq_true_eq]; omega)]
  rw [e]
 | m + 1, i, t, hk => by
  have hi : i < 8 := by omega
  have hq1 : IntKind.i64.wrap ((i : Int) + 1) = ((i + 1 : Nat) : Int) := by
   rw [IntKind.wrap_i64]; omega
  obtain ⟨t1, e1, e2⟩ := b1_loop t u i hi u 8 0 t rfl
  have e : f160_b0 ((i : Int), t, u) = some (.inl (((i + 1 : Nat) : Int), t1, u)) := by
   unfold f160_b0
   rw [if_pos (by simp only [decide_eq_true_eq]; omega)]
   simp only
   rw [show ((0 : Int)) = ((0 : Nat) : Int) from rfl, e1]
   simp only [Option.bind_some, hq1]
  obtain ⟨t', g1, g2⟩ := b0_loop u m (i + 1) t1 (by omega)
  refine ⟨t', ?_, ?_⟩
  ·rw [lp_eq, e]; exact g1
  ·rw [g2, e2]; rfl
theorem b4_loop (x0 : TLandBook) (hn : x0.Events.length ≤ 7) (t u : Tb 64) : lp (f160_b4 x0) ([], 0, t, u) = some ((List.range x0.Events.length).map (fun p : Nat => (p : Int)), t, u) := by
 have h := lp_thru (body := f160_b4 x0) x0.Events ((List.range x0.Events.length).map (fun p : Nat => (p : Int)), t, u) (fun k => ((List.range k).map (fun p : Nat => (p : Int)), (k : Int), t, u)) (fun k y hy => by
  have hk := get_lt hy
  have hq1 : IntKind.i64.wrap ((k : Int) + 1) = ((k + 1 : Nat) : Int) := by
   rw [IntKind.wrap_i64]; omega
  unfold f160_b4
  rw [if_pos (by simp only [decide_eq_true_eq]; omega)]
  have ha : app ((List.range k).map (fun p : Nat => (p : Int))) [(k : Int)] = some ((List.range (k + 1)).map (fun p : Nat => (p : Int))) := by
   unfold app
   rw [if_pos (by simp; omega), List.range_succ, List.map_append]; rfl
  simp only [ha, Option.bind_some, hq1]) (by unfold f160_b4; rw [if_neg (by simp)])
 exact h
def placesL (n : Nat) : List Nat := List.range n ++ [7]
def firstT (x0 : TLandBook) (hb : Nat → Bool) : Tab := memF hb 0 x0.Memories ((List.range' 0 x0.Events.length).foldl (fun T e => clo (clo T 7 e 1000) e 7 0) ((List.range' 0 8).foldl rowsI (tabOf (Tb.zero 64))))
def Bd (T : Tab) : Prop := ∀ a c, -2000 ≤ T a c ∧ T a c ≤ 2000
theorem Bd.clo {T : Tab} (h : Bd T) (i k : Nat) {m : Int} (hm : -2000 ≤ m) : Bd (clo T i k m) := by
 intro a c
 have h1 := clo_le T i k m a c
 have h2 := h a c
 by_cases e : a = i ∧ c = k
 ·obtain ⟨rfl, rfl⟩ := e
  have := clo_self T a c m
  omega
 ·rw [clo_other _ _ _ _ e]; exact h2
theorem Bd.foldl {α : Type} {f : Tab → α → Tab} (hf : ∀ T x, Bd T → Bd (f T x)) : ∀ (l : List α) (T : Tab), Bd T → Bd (l.foldl f T)
 | [], _, h => h
 | x :: l, T, h => Bd.foldl hf l _ (hf T x h)
theorem Bd.mem {hb : Nat → Bool} : ∀ (l : List TLandMemory) (k : Nat) (T : Tab), (∀ m ∈ l, MemOk m) → Bd T → Bd (memF hb k l T)
 | [], _, _, _, h => h
 | m :: l, k, T, hm, h => by
  obtain ⟨_, _, f5, f6, f7⟩ := hm m (List.mem_cons_self ..)
  have e5 : memF hb k (m :: l) T = memF hb (k + 1) l (if hb k = true then Go.Proofs.YtncjnffbdhckdaaGreatDoor.La.clo (Go.Proofs.YtncjnffbdhckdaaGreatDoor.La.clo T m.From.toNat m.To.toNat m.Years.High) m.To.toNat m.From.toNat (-m.Years.Low) else T) := rfl
  rw [e5]
  refine Bd.mem l (k + 1) _ (fun m' hm' => hm m' (List.mem_cons_of_mem _ hm')) ?_
  split
  ·exact (h.clo _ _ (by omega)).clo _ _ (by omega)
  ·exact h
theorem tab_zero (a c : Nat) : tabOf (Tb.zero 64) a c = 0 := by
 unfold tabOf
 split
 ·unfold tget Tb.zero
  rw [List.getD_eq_getElem?_getD, List.getElem?_replicate]
  split <;> rfl
 ·rfl
theorem Bd.rowI {T : Tab} (h : Bd T) (i c : Nat) : Bd (rowI i T c) := by
 unfold Go.Proofs.YtncjnffbdhckdaaGreatDoor.La.rowI
 split
 ·exact h
 ·intro a d
  unfold setT
  by_cases e : a = i ∧ d = c
  ·rw [if_pos e]; omega
  ·rw [if_neg e]; exact h a d
theorem first_bd (x0 : TLandBook) (hb : Nat → Bool) (hm : ∀ m ∈ x0.Memories, MemOk m) : Bd (firstT x0 hb) := by
 refine Bd.mem _ _ _ hm ?_
 refine Bd.foldl (fun T e h => (h.clo _ _ (by omega)).clo _ _ (by omega)) _ _ ?_
 refine Bd.foldl (fun T i h => Bd.foldl (fun T c h => h.rowI i c) _ _ h) _ _ ?_
 intro a c
 rw [tab_zero]; omega
theorem places_lt {n : Nat} (hn : n ≤ 7) : ∀ k ∈ placesL n, k < 8 := by
 intro k hk
 unfold placesL at hk
 rcases List.mem_append.1 hk with h | h
 ·have := List.mem_range.1 h; omega
 ·have := List.mem_singleton.1 h; omega
theorem places_nodup {n : Nat} (hn : n ≤ 7) : (placesL n).Nodup := by
 unfold placesL
 rw [List.nodup_append]
 refine ⟨List.nodup_range, by simp, fun a ha b hb => ?_⟩
 have h1 := List.mem_range.1 ha
 have h2 := List.mem_singleton.1 hb
 omega
theorem f160_eq (x0 : TLandBook) (x1 : Int) (hn : x0.Events.length ≤ 7) (hl : x0.Memories.length ≤ 1000) (hm : ∀ m ∈ x0.Memories, MemOk m) (hb : Nat → Bool) (h81 : ∀ k, k < x0.Memories.length → f210 x1 (k : Int) = some (hb k)) :
  ∃ t', f160 x0 x1 = some (if diagB (placesL x0.Events.length) (passT (placesL x0.Events.length) (firstT x0 hb)) = true then (t', true) else (Tb.zero 64, false)) ∧ tabOf t' = passT (placesL x0.Events.length) (firstT x0 hb) := by
 obtain ⟨t0, a1, a2⟩ := b0_loop (Tb.zero 64) 8 0 (Tb.zero 64) rfl
 obtain ⟨t2, b1, b2⟩ := b2_loop x0 hn (Tb.zero 64) x0.Events.length 0 t0 (by omega)
 obtain ⟨t3, c1, c2⟩ := b3_loop x0 x1 hl hm hb h81 (Tb.zero 64) x0.Memories 0 t2 rfl
 have hT : tabOf t3 = firstT x0 hb := by rw [c2, b2, a2]; rfl
 have hbd := first_bd x0 hb hm
 have hlen : (placesL x0.Events.length).length ≤ 8 := by unfold placesL; simp; omega
 obtain ⟨hf, hs⟩ := fits_small (places_nodup hn) hlen hbd
 obtain ⟨t5, d1, d2⟩ := b5_run x0 hn (places_lt hn) (by omega) t3 (Tb.zero 64) (by rw [hT]; exact hf) (by rw [hT]; exact hs)
 rw [hT] at d1 d2
 refine ⟨t5, ?_, d2⟩
 have hmk : mk0 (IntKind.i64.wrap ((x0.Events.length : Int) + 1)) = some () := by
  unfold mk0
  rw [IntKind.wrap_i64, if_pos (by omega)]
 have hap : app ((List.range x0.Events.length).map (fun p : Nat => (p : Int))) [7] = some ((placesL x0.Events.length).map fun p : Nat => (p : Int)) := by
  unfold app
  rw [if_pos (by simp; omega)]
  unfold placesL
  rw [List.map_append]; rfl
 unfold f160
 have z : ((0 : Nat) : Int) = 0 := rfl
 rw [z] at a1 b1 c1
 rw [a1]
 simp only [Option.bind_some]
 rw [b1]
 simp only [Option.bind_some]
 rw [c1]
 simp only [Option.bind_some, hmk]
 rw [b4_loop x0 hn]
 simp only [Option.bind_some, hap]
 rw [d1]
 simp only [Option.bind_some]
 cases diagB (placesL x0.Events.length) (passT (placesL x0.Events.length) (firstT x0 hb)) <;> rfl
end Go.Proofs.YtncjnffbdhckdaaGreatDoor.La
/-
 What years are true, in words of the first table.
-/
namespace Go.Proofs.YtncjnffbdhckdaaGreatDoor.La
open Go.RowKit
set_option linter.unusedVariables false
theorem feas_clo {ps : List Nat} {T : Tab} {y : Nat → Int} {i k : Nat} {m : Int} (hi : i ∈ ps) (hk : k ∈ ps) : Feas ps (clo T i k m) y ↔ Feas ps T y ∧ y k - y i ≤ m := by
 constructor
 ·intro h
  refine ⟨fun a ha c hc => Int.le_trans (h a ha c hc) (clo_le T i k m a c), ?_⟩
  have h1 := h i hi k hk
  have h2 := (clo_self T i k m).1
  omega
 ·rintro ⟨h, hm⟩ a ha c hc
  by_cases e : a = i ∧ c = k
  ·obtain ⟨rfl, rfl⟩ := e
   have h1 := h a ha c hc
   rcases (clo_self T a c m).2 with q | q <;> rw [q] <;> assumption
  ·rw [clo_other _ _ _ _ e]; exact h a ha c hc
theorem feas_events {ps : List Nat} {y : Nat → Int} (h7 : 7 ∈ ps) : ∀ (l : List Nat) (T : Tab), (∀ e ∈ l, e ∈ ps) → (Feas ps (l.foldl (fun T e => clo (clo T 7 e 1000) e 7 0) T) y ↔ Feas ps T y ∧ ∀ e ∈ l, y e - y 7 ≤ 1000 ∧ y 7 - y e ≤ 0)
 | [], T, _ => by simp
 | e :: l, T, hl => by
  have he := hl e (List.mem_cons_self ..)
  rw [List.foldl_cons, feas_events h7 l _ (fun x hx => hl x (List.mem_cons_of_mem _ hx)), feas_clo he h7, feas_clo h7 he]
  constructor
  ·rintro ⟨⟨⟨h1, h2⟩, h3⟩, h4⟩
   refine ⟨h1, fun x hx => ?_⟩
   rcases List.mem_cons.1 hx with rfl | hx
   ·exact ⟨h2, h3⟩
   ·exact h4 x hx
  ·rintro ⟨h1, h2⟩
   exact ⟨⟨⟨h1, (h2 e (List.mem_cons_self ..)).1⟩, (h2 e (List.mem_cons_self ..)).2⟩, fun x hx => h2 x (List.mem_cons_of_mem _ hx)⟩
def MemT (y : Nat → Int) (m : TLandMemory) : Prop := m.Years.Low ≤ y m.To.toNat - y m.From.toNat ∧ y m.To.toNat - y m.From.toNat ≤ m.Years.High
theorem feas_mem {ps : List Nat} {y : Nat → Int} {hb : Nat → Bool} : ∀ (l : List TLandMemory) (k : Nat) (T : Tab), (∀ m ∈ l, m.From.toNat ∈ ps ∧ m.To.toNat ∈ ps) → (Feas ps (memF hb k l T) y ↔ Feas ps T y ∧ ∀ j m, l[j]? = some m → hb (k + j) = true → MemT y m)
 | [], k, T, _ => by
  have e : memF hb k [] T = T := rfl
  rw [e]
  simp
 | m :: l, k, T, hl => by
  obtain ⟨hF, hT⟩ := hl m (List.mem_cons_self ..)
  have e5 : memF hb k (m :: l) T = memF hb (k + 1) l (if hb k = true then clo (clo T m.From.toNat m.To.toNat m.Years.High) m.To.toNat m.From.toNat (-m.Years.Low) else T) := rfl
  rw [e5, feas_mem l (k + 1) _ (fun x hx => hl x (List.mem_cons_of_mem _ hx))]
  have e6 : Feas ps (if hb k = true then clo (clo T m.From.toNat m.To.toNat m.Years.High) m.To.toNat m.From.toNat (-m.Years.Low) else T) y ↔ Feas ps T y ∧ (hb k = true → MemT y m) := by
   cases hb k with
   | false => simp
   | true =>
    simp only [if_true]
    rw [feas_clo hT hF, feas_clo hF hT]
    unfold MemT
    constructor
    ·rintro ⟨⟨h1, h2⟩, h3⟩
     exact ⟨h1, fun _ => ⟨by omega, h2⟩⟩
    ·rintro ⟨h1, h2⟩
     have := h2 trivial
     exact ⟨⟨h1, this.2⟩, by omega⟩
  rw [e6]
  constructor
  ·rintro ⟨⟨h1, h2⟩, h3⟩
   refine ⟨h1, fun j m' hj hb' => ?_⟩
   cases j with
   | zero =>
    simp at hj
    subst hj
    exact h2 hb'
   | succ j => exact h3 j m' (by simpa using hj) (by rw [show k + 1 + j = k + (j + 1) by omega]; exact hb')
  ·rintro ⟨h1, h2⟩
   exact ⟨⟨h1, fun h => h2 0 m rfl h⟩, fun j m' hj hb' => h2 (j + 1) m' (by simpa using hj) (by rw [show k + (j + 1) = k + 1 + j by omega]; exact hb')⟩
def baseT : Tab := (List.range' 0 8).foldl rowsI (tabOf (Tb.zero 64))
theorem rowI_fold (i : Nat) : ∀ (l : List Nat) (T : Tab) (a c : Nat), l.foldl (rowI i) T a c = if a = i ∧ c ∈ l ∧ c ≠ i then 2000 else T a c
 | [], T, a, c => by simp
 | k :: l, T, a, c => by
  rw [List.foldl_cons, rowI_fold i l]
  have e : rowI i T k a c = if a = i ∧ c = k ∧ c ≠ i then 2000 else T a c := by
   unfold rowI
   by_cases h : i = k
   ·subst h
    rw [if_pos rfl, if_neg (by rintro ⟨_, h1, h2⟩; exact h2 h1)]
   ·rw [if_neg h]
    unfold setT
    by_cases e : a = i ∧ c = k
    ·rw [if_pos e, if_pos ⟨e.1, e.2, by rw [e.2]; exact fun x => h x.symm⟩]
    ·rw [if_neg e, if_neg (by rintro ⟨h1, h2, _⟩; exact e ⟨h1, h2⟩)]
  rw [e]
  by_cases h1 : a = i ∧ c ∈ l ∧ c ≠ i
  ·rw [if_pos h1, if_pos ⟨h1.1, List.mem_cons_of_mem _ h1.2.1, h1.2.2⟩]
  ·rw [if_neg h1]
   by_cases h2 : a = i ∧ c = k ∧ c ≠ i
   ·rw [if_pos h2, if_pos ⟨h2.1, by rw [h2.2.1]; exact List.mem_cons_self .., h2.2.2⟩]
   ·rw [if_neg h2, if_neg (by
     rintro ⟨q1, q2, q3⟩
     rcases List.mem_cons.1 q2 with q | q
     ·exact h2 ⟨q1, q, q3⟩
     ·exact h1 ⟨q1, q, q3⟩)]
theorem rowsI_fold : ∀ (l : List Nat) (T : Tab) (a c : Nat), l.foldl rowsI T a c = if a ∈ l ∧ c < 8 ∧ c ≠ a then 2000 else T a c
 | [], T, a, c => by simp
 | i :: l, T, a, c => by
  rw [List.foldl_cons, rowsI_fold l]
  have e : rowsI T i a c = if a = i ∧ c < 8 ∧ c ≠ i then 2000 else T a c := by
   unfold rowsI
   rw [rowI_fold]
   have hm : c ∈ List.range' 0 8 ↔ c < 8 := by rw [List.mem_range'_1]; omega
   simp only [hm]
  rw [e]
  by_cases h1 : a ∈ l ∧ c < 8 ∧ c ≠ a
  ·rw [if_pos h1, if_pos ⟨List.mem_cons_of_mem _ h1.1, h1.2⟩]
  ·rw [if_neg h1]
   by_cases h2 : a = i ∧ c < 8 ∧ c ≠ i
   ·rw [if_pos h2, if_pos ⟨by rw [h2.1]; exact List.mem_cons_self .., h2.2.1, by rw [h2.1]; exact h2.2.2⟩]
   ·rw [if_neg h2, if_neg (by
     rintro ⟨q1, q2, q3⟩
     rcases List.mem_cons.1 q1 with q | q
     ·exact h2 ⟨q, q2, by rw [← q]; exact q3⟩
     ·exact h1 ⟨q, q2, q3⟩)]
theorem base_val {a c : Nat} (ha : a < 8) (hc : c < 8) : baseT a c = if c = a then 0 else 2000 := by
 unfold baseT
 rw [rowsI_fold, tab_zero]
 by_cases h : c = a
 ·rw [if_pos h, if_neg (by rintro ⟨_, _, h'⟩; exact h' h)]
 ·rw [if_neg h, if_pos ⟨by rw [List.mem_range'_1]; omega, hc, h⟩]
theorem feas_first (x0 : TLandBook) (hb : Nat → Bool) (hn : x0.Events.length ≤ 7) (hF : ∀ m ∈ x0.Memories, m.From.toNat < x0.Events.length ∧ m.To.toNat < x0.Events.length) (y : Nat → Int) :
  Feas (placesL x0.Events.length) (firstT x0 hb) y ↔ (∀ e, e < x0.Events.length → y 7 ≤ y e ∧ y e ≤ y 7 + 1000) ∧ ∀ j m, x0.Memories[j]? = some m → hb j = true → MemT y m := by
 have h7 : 7 ∈ placesL x0.Events.length := by unfold placesL; simp
 have hmem : ∀ e, e < x0.Events.length → e ∈ placesL x0.Events.length := fun e he => by unfold placesL; simp; exact .inl he
 have hr : ∀ e, e ∈ List.range' 0 x0.Events.length ↔ e < x0.Events.length := fun e => by rw [List.mem_range'_1]; omega
 unfold firstT
 rw [feas_mem _ _ _ (fun m hm => ⟨hmem _ (hF m hm).1, hmem _ (hF m hm).2⟩), feas_events h7 _ _ (fun e he => hmem e ((hr e).1 he))]
 constructor
 ·rintro ⟨⟨_, h2⟩, h3⟩
  refine ⟨fun e he => ?_, fun j m hj hb' => h3 j m hj (by rw [Nat.zero_add]; exact hb')⟩
  have := h2 e ((hr e).2 he)
  omega
 ·rintro ⟨h1, h2⟩
  refine ⟨⟨fun i hi k hk => ?_, fun e he => by have := h1 e ((hr e).1 he); omega⟩, fun j m hj hb' => h2 j m hj (by rw [Nat.zero_add] at hb'; exact hb')⟩
  have hv := base_val (places_lt hn i hi) (places_lt hn k hk)
  have hy : ∀ e, e ∈ placesL x0.Events.length → y 7 ≤ y e ∧ y e ≤ y 7 + 1000 := fun e he => by
   unfold placesL at he
   rcases List.mem_append.1 he with h | h
   ·exact h1 e (List.mem_range.1 h)
   ·rw [List.mem_singleton.1 h]; omega
  have q1 := hy i hi
  have q2 := hy k hk
  show y k - y i ≤ baseT i k
  rw [hv]
  by_cases h : k = i
  ·rw [if_pos h, h]; omega
  ·rw [if_neg h]; omega
def TruthS (x0 : TLandBook) (hb : Nat → Bool) (ys : Nat → Int) : Prop := (∀ e, e < x0.Events.length → 0 ≤ ys e ∧ ys e ≤ 1000) ∧ ∀ j m, x0.Memories[j]? = some m → hb j = true → MemT ys m
theorem truth_of_feas (x0 : TLandBook) (hb : Nat → Bool) (hn : x0.Events.length ≤ 7) (hF : ∀ m ∈ x0.Memories, m.From.toNat < x0.Events.length ∧ m.To.toNat < x0.Events.length) {y : Nat → Int} (h : Feas (placesL x0.Events.length) (firstT x0 hb) y) : TruthS x0 hb fun e => y e - y 7 := by
 obtain ⟨h1, h2⟩ := (feas_first x0 hb hn hF y).1 h
 refine ⟨fun e he => by have := h1 e he; show 0 ≤ y e - y 7 ∧ y e - y 7 ≤ 1000; omega, fun j m hj hb' => ?_⟩
 have := h2 j m hj hb'
 unfold MemT at *
 show m.Years.Low ≤ (y m.To.toNat - y 7) - (y m.From.toNat - y 7) ∧ (y m.To.toNat - y 7) - (y m.From.toNat - y 7) ≤ m.Years.High
 omega
theorem feas_of_truth (x0 : TLandBook) (hb : Nat → Bool) (hn : x0.Events.length ≤ 7) (hF : ∀ m ∈ x0.Memories, m.From.toNat < x0.Events.length ∧ m.To.toNat < x0.Events.length) {ys : Nat → Int} (h : TruthS x0 hb ys) : Feas (placesL x0.Events.length) (firstT x0 hb) fun e => if e = 7 then 0 else ys e := by
 rw [feas_first x0 hb hn hF]
 refine ⟨fun e he => ?_, fun j m hj hb' => ?_⟩
 ·have := h.1 e he
  rw [if_pos rfl, if_neg (by omega)]
  omega
 ·have h1 := h.2 j m hj hb'
  obtain ⟨f1, f2⟩ := hF m (List.mem_of_getElem? hj)
  unfold MemT at *
  show m.Years.Low ≤ (if m.To.toNat = 7 then 0 else ys m.To.toNat) - (if m.From.toNat = 7 then 0 else ys m.From.toNat) ∧ (if m.To.toNat = 7 then 0 else ys m.To.toNat) - (if m.From.toNat = 7 then 0 else ys m.From.toNat) ≤ m.Years.High
  rw [if_neg (show ¬ m.To.toNat = 7 by omega), if_neg (show ¬ m.From.toNat = 7 by omega)]
  exact h1
theorem agree_iff (x0 : TLandBook) (hb : Nat → Bool) (hn : x0.Events.length ≤ 7) (hF : ∀ m ∈ x0.Memories, m.From.toNat < x0.Events.length ∧ m.To.toNat < x0.Events.length) :
  diagB (placesL x0.Events.length) (passT (placesL x0.Events.length) (firstT x0 hb)) = true ↔ ∃ ys, TruthS x0 hb ys := by
 rw [diagB_iff, diag_iff (by unfold placesL; simp)]
 exact ⟨fun ⟨y, h⟩ => ⟨_, truth_of_feas x0 hb hn hF h⟩, fun ⟨ys, h⟩ => ⟨_, feas_of_truth x0 hb hn hF h⟩⟩
end Go.Proofs.YtncjnffbdhckdaaGreatDoor.La
/-
 Sets of memories: their bits.
-/
namespace Go.Proofs.YtncjnffbdhckdaaGreatDoor.La
open Go.RowKit
set_option linter.unusedVariables false
theorem f210_eq (s : Int) (k : Nat) : f210 s (k : Int) = some (bitI s k) := by
 unfold f210
 rw [shr_nat]; rfl
theorem two_pow_le {n : Nat} (hn : n ≤ 10) : 1 ≤ 2 ^ n ∧ 2 ^ n ≤ 1024 := by
 have : n = 0 ∨ n = 1 ∨ n = 2 ∨ n = 3 ∨ n = 4 ∨ n = 5 ∨ n = 6 ∨ n = 7 ∨ n = 8 ∨ n = 9 ∨ n = 10 := by omega
 rcases this with e | e | e | e | e | e | e | e | e | e | e <;> rw [e] <;> decide
theorem f161_eq (x0 : TLandBook) (hl : x0.Memories.length ≤ 10) : f161 x0 = some ((2 ^ x0.Memories.length - 1 : Nat) : Int) := by
 obtain ⟨h1, h2⟩ := two_pow_le hl
 unfold f161
 rw [shl_nat _ (by omega)]
 simp only [Option.bind_some]
 congr 1
 generalize 2 ^ x0.Memories.length = q at *
 rw [IntKind.wrap_i64]; omega
theorem all_bits {n k : Nat} (hn : n ≤ 10) (hk : k < n) : bitI ((2 ^ n - 1 : Nat) : Int) k = true := by
 obtain ⟨h1, h2⟩ := two_pow_le hn
 rw [bitI_nat _ _ (by omega), Nat.testBit_two_pow_sub_one]
 simpa using hk
theorem f160_all (x0 : TLandBook) (hn : x0.Events.length ≤ 7) (hl : x0.Memories.length ≤ 10) (hm : ∀ m ∈ x0.Memories, MemOk m) :
  ∃ t', f160 x0 ((2 ^ x0.Memories.length - 1 : Nat) : Int) = some (if diagB (placesL x0.Events.length) (passT (placesL x0.Events.length) (firstT x0 (bitI ((2 ^ x0.Memories.length - 1 : Nat) : Int)))) = true then (t', true) else (Tb.zero 64, false)) ∧ tabOf t' = passT (placesL x0.Events.length) (firstT x0 (bitI ((2 ^ x0.Memories.length - 1 : Nat) : Int))) :=
 f160_eq x0 _ hn (by omega) hm _ (fun k _ => f210_eq _ k)
end Go.Proofs.YtncjnffbdhckdaaGreatDoor.La
/-
 Which books are as defined: the program's way.
-/
namespace Go.Proofs.YtncjnffbdhckdaaGreatDoor.La
open Go.RowKit
set_option linter.unusedVariables false
def inR (x a b : Int) : Bool := decide (a ≤ x) && decide (x ≤ b)
theorem inR_iff {x a b : Int} : inR x a b = true ↔ a ≤ x ∧ x ≤ b := by simp [inR]
theorem f83_eq (x a b : Int) : f83 x a b = some (inR x a b) := by
 unfold f83 inR
 by_cases h : a ≤ x <;> simp [h]
theorem f15_eq (x a b : Int) : f15 x a b = some (inR x a b) := by
 unfold f15 inR
 by_cases h : a ≤ x <;> simp [h]
theorem idx94 (l : List TLandEvent) (x1 : TLandEvent → Option Bool) (g : TLandEvent → Bool) (hl : l.length ≤ 1000) (hg : ∀ y ∈ l, x1 y = some (g y)) : ∀ (r : List TLandEvent) (k : Nat), l.drop k = r → ∃ j : Int, 0 ≤ j ∧ lp (f207_b0 l x1) (k : Int) = some (if r.any g = true then .inr j else .inl ())
 | [], k, hd => by
  refine ⟨0, Int.le_refl _, ?_⟩
  have hk : l.length ≤ k := by have := List.drop_eq_nil_iff.1 hd; exact this
  rw [lp_eq]
  have e : f207_b0 l x1 (k : Int) = some (.inr (.inl ())) := by
   unfold f207_b0
   rw [if_neg (by simp only [decide_eq_true_eq]; omega)]
  rw [e]; rfl
 | y :: r, k, hd => by
  have hq : l[k]? = some y := by
   have := congrArg (fun z => z[0]?) hd
   simpa using this
  have hlt := (List.getElem?_eq_some_iff.1 hq).1
  have hd' : l.drop (k + 1) = r := by
   have := congrArg List.tail hd
   simpa using this
  have hx : ix l (k : Int) = some y := by simp [ix, hq]
  have hq1 : IntKind.i64.wrap ((k : Int) + 1) = ((k + 1 : Nat) : Int) := by
   rw [IntKind.wrap_i64]; omega
  have hy := hg y (List.mem_of_getElem? hq)
  rw [lp_eq]
  cases hgy : g y with
  | true =>
   refine ⟨k, by omega, ?_⟩
   have e : f207_b0 l x1 (k : Int) = some (.inr (.inr (k : Int))) := by
    unfold f207_b0
    rw [if_pos (by simp only [decide_eq_true_eq]; omega)]
    simp [hx, hy, hgy]
   rw [e]; simp [hgy]
  | false =>
   obtain ⟨j, h0, h1⟩ := idx94 l x1 g hl hg r (k + 1) hd'
   refine ⟨j, h0, ?_⟩
   have e : f207_b0 l x1 (k : Int) = some (.inl ((k + 1 : Nat) : Int)) := by
    unfold f207_b0
    rw [if_pos (by simp only [decide_eq_true_eq]; omega)]
    simp only [hx, hy, hgy, Option.bind_some, Bool.false_eq_true, if_false, hq1]
   rw [e]
   simp only [List.any_cons, hgy, Bool.false_or]
   exact h1
theorem f156_eq (l : List TLandEvent) (x1 : TLandEvent → Option Bool) (g : TLandEvent → Bool) (hl : l.length ≤ 1000) (hg : ∀ y ∈ l, x1 y = some (g y)) : f156 l x1 = some (l.any g) := by
 obtain ⟨j, h0, h1⟩ := idx94 l x1 g hl hg l 0 rfl
 unfold f156 f207
 rw [show (0 : Int) = ((0 : Nat) : Int) from rfl, h1]
 cases l.any g with
 | true => simp; omega
 | false => simp
theorem idx83 (l : List TLandMemory) (x1 : TLandMemory → Option Bool) (g : TLandMemory → Bool) (hl : l.length ≤ 1000) (hg : ∀ y ∈ l, x1 y = some (g y)) : ∀ (r : List TLandMemory) (k : Nat), l.drop k = r → ∃ j : Int, 0 ≤ j ∧ lp (f208_b0 l x1) (k : Int) = some (if r.any g = true then .inr j else .inl ())
 | [], k, hd => by
  refine ⟨0, Int.le_refl _, ?_⟩
  have hk : l.length ≤ k := by have := List.drop_eq_nil_iff.1 hd; exact this
  rw [lp_eq]
  have e : f208_b0 l x1 (k : Int) = some (.inr (.inl ())) := by
   unfold f208_b0
   rw [if_neg (by simp only [decide_eq_true_eq]; omega)]
  rw [e]; rfl
 | y :: r, k, hd => by
  have hq : l[k]? = some y := by
   have := congrArg (fun z => z[0]?) hd
   simpa using this
  have hlt := (List.getElem?_eq_some_iff.1 hq).1
  have hd' : l.drop (k + 1) = r := by
   have := congrArg List.tail hd
   simpa using this
  have hx : ix l (k : Int) = some y := by simp [ix, hq]
  have hq1 : IntKind.i64.wrap ((k : Int) + 1) = ((k + 1 : Nat) : Int) := by
   rw [IntKind.wrap_i64]; omega
  have hy := hg y (List.mem_of_getElem? hq)
  rw [lp_eq]
  cases hgy : g y with
  | true =>
   refine ⟨k, by omega, ?_⟩
   have e : f208_b0 l x1 (k : Int) = some (.inr (.inr (k : Int))) := by
    unfold f208_b0
    rw [if_pos (by simp only [decide_eq_true_eq]; omega)]
    simp [hx, hy, hgy]
   rw [e]; simp [hgy]
  | false =>
   obtain ⟨j, h0, h1⟩ := idx83 l x1 g hl hg r (k + 1) hd'
   refine ⟨j, h0, ?_⟩
   have e : f208_b0 l x1 (k : Int) = some (.inl ((k + 1 : Nat) : Int)) := by
    unfold f208_b0
    rw [if_pos (by simp only [decide_eq_true_eq]; omega)]
    simp only [hx, hy, hgy, Option.bind_some, Bool.false_eq_true, if_false, hq1]
   rw [e]
   simp only [List.any_cons, hgy, Bool.false_or]
   exact h1
theorem f158_eq (l : List TLandMemory) (x1 : TLandMemory → Option Bool) (g : TLandMemory → Bool) (hl : l.length ≤ 1000) (hg : ∀ y ∈ l, x1 y = some (g y)) : f158 l x1 = some (l.any g) := by
 obtain ⟨j, h0, h1⟩ := idx83 l x1 g hl hg l 0 rfl
 unfold f158 f208
 rw [show (0 : Int) = ((0 : Nat) : Int) from rfl, h1]
 cases l.any g with
 | true => simp; omega
 | false => simp
def personOk (k : Nat) (q : TLandPerson) : Bool := inR q.Mother (-1) ((k : Int) - 1) && inR q.Adopted (-1) ((k : Int) - 1)
def eventOk (b : TLandBook) (e : TLandEvent) : Bool := inR e.Strip 0 5 && inR e.Holder 0 ((b.People.length : Int) - 1)
def memOk (b : TLandBook) (m : TLandMemory) : Bool := inR m.From 0 ((b.Events.length : Int) - 1) && (inR m.To 0 ((b.Events.length : Int) - 1) && (!(m.From == m.To) && (decide (-1000 ≤ m.Years.Low) && (decide (m.Years.Low ≤ m.Years.High) && decide (m.Years.High ≤ 1000)))))
theorem f157_eq (b : TLandBook) (e : TLandEvent) (hp : b.People.length ≤ 1000) : f157 e b = some (!eventOk b e) := by
 have hw : IntKind.i64.wrap ((b.People.length : Int) - 1) = (b.People.length : Int) - 1 := by
  rw [IntKind.wrap_i64]; omega
 unfold f157 eventOk
 simp only [f83_eq, hw, Option.bind_some]
 cases inR e.Strip 0 5 <;> simp
theorem f159_eq (b : TLandBook) (m : TLandMemory) (hp : b.Events.length ≤ 1000) : f159 m b = some (!memOk b m) := by
 have hw : IntKind.i64.wrap ((b.Events.length : Int) - 1) = (b.Events.length : Int) - 1 := by
  rw [IntKind.wrap_i64]; omega
 have n1 : decide (-1000 ≤ m.Years.Low) = !decide (m.Years.Low < -1000) := by
  rw [Bool.eq_iff_iff]; simp
 have n2 : decide (m.Years.Low ≤ m.Years.High) = !decide (m.Years.High < m.Years.Low) := by
  rw [Bool.eq_iff_iff]; simp
 have n3 : decide (m.Years.High ≤ 1000) = !decide (1000 < m.Years.High) := by
  rw [Bool.eq_iff_iff]; simp
 unfold f159 memOk
 simp only [f83_eq, hw, Option.bind_some, n1, n2, n3]
 cases inR m.From 0 ((b.Events.length : Int) - 1) <;> cases inR m.To 0 ((b.Events.length : Int) - 1) <;> cases (m.From == m.To) <;> cases decide (m.Years.Low < -1000) <;> cases decide (m.Years.High < m.Years.Low) <;> cases decide (1000 < m.Years.High) <;> rfl
theorem any_not {α : Type} (l : List α) (g : α → Bool) : (l.any fun y => !g y) = !l.all g := by
 induction l with
 | nil => rfl
 | cons y l ih => simp only [List.any_cons, List.all_cons, ih, Bool.not_and]
def bookOk (b : TLandBook) : Bool := allI personOk 0 b.People && (inR (b.People.length : Int) 1 10 && (inR (b.Events.length : Int) 1 7 && (decide ((b.Memories.length : Int) ≤ 10) && (b.Events.all (eventOk b) && b.Memories.all (memOk b)))))
theorem f79_eq (b : TLandBook) (h1 : b.People.length ≤ 1000) (h2 : b.Events.length ≤ 1000) (h3 : b.Memories.length ≤ 1000) : f79 b = some (bookOk b) := by
 have hp : lp (f79_b0 b) 0 = some (if allI personOk 0 b.People = true then .inl () else .inr false) := by
  refine lp_all b.People personOk (Sum.inr false) (Sum.inl ()) (fun k => (k : Int)) (fun k q hq => ?_) (by unfold f79_b0; simp)
  have hk := get_lt hq
  have hx : ix b.People (k : Int) = some q := by simp [ix, hq]
  have hw : IntKind.i64.wrap ((k : Int) - 1) = (k : Int) - 1 := by
   rw [IntKind.wrap_i64]; omega
  have hq1 : IntKind.i64.wrap ((k : Int) + 1) = ((k + 1 : Nat) : Int) := by
   rw [IntKind.wrap_i64]; omega
  unfold f79_b0 personOk
  rw [if_pos (by simpa using hk)]
  simp only [hx, Option.bind_some, f83_eq, hw, hq1]
  cases inR q.Mother (-1) ((k : Int) - 1) <;> cases inR q.Adopted (-1) ((k : Int) - 1) <;> rfl
 unfold f79 bookOk
 rw [hp]
 have e1 := f156_eq b.Events (fun z0 => f157 z0 b) (fun e => !eventOk b e) h2 (fun e _ => f157_eq b e h1)
 have e2 := f158_eq b.Memories (fun z0 => f159 z0 b) (fun m => !memOk b m) h3 (fun m _ => f159_eq b m h2)
 rw [any_not] at e1 e2
 cases allI personOk 0 b.People with
 | false => rfl
 | true =>
  simp only [if_true, Option.bind_some, Sum.elim_inl, f83_eq, e1, e2, Bool.true_and]
  cases inR (b.People.length : Int) 1 10 <;> cases inR (b.Events.length : Int) 1 7 <;> cases decide ((b.Memories.length : Int) ≤ 10) <;> cases b.Events.all (eventOk b) <;> cases b.Memories.all (memOk b) <;> rfl
theorem book_parts {b : TLandBook} (h : bookOk b = true) : (1 ≤ b.People.length ∧ b.People.length ≤ 10) ∧ (1 ≤ b.Events.length ∧ b.Events.length ≤ 7) ∧ b.Memories.length ≤ 10 ∧ (∀ m ∈ b.Memories, MemOk m) ∧ ∀ m ∈ b.Memories, m.From.toNat < b.Events.length ∧ m.To.toNat < b.Events.length := by
 unfold bookOk at h
 simp only [Bool.and_eq_true, inR_iff, decide_eq_true_eq, List.all_eq_true] at h
 obtain ⟨_, hp, he, hm, _, hall⟩ := h
 have key : ∀ m ∈ b.Memories, (0 ≤ m.From ∧ m.From ≤ (b.Events.length : Int) - 1) ∧ (0 ≤ m.To ∧ m.To ≤ (b.Events.length : Int) - 1) ∧ -1000 ≤ m.Years.Low ∧ m.Years.Low ≤ m.Years.High ∧ m.Years.High ≤ 1000 := fun m hm' => by
  have := hall m hm'
  unfold memOk at this
  simp only [Bool.and_eq_true, inR_iff, decide_eq_true_eq] at this
  exact ⟨this.1, this.2.1, this.2.2.2.1, this.2.2.2.2.1, this.2.2.2.2.2⟩
 refine ⟨by omega, by omega, by omega, fun m hm' => ?_, fun m hm' => ?_⟩
 ·obtain ⟨q1, q2, q3, q4, q5⟩ := key m hm'
  unfold MemOk
  omega
 ·obtain ⟨q1, q2, _⟩ := key m hm'
  omega
def tabAll (b : TLandBook) : Tab := passT (placesL b.Events.length) (firstT b (bitI ((2 ^ b.Memories.length - 1 : Nat) : Int)))
def agreeB (b : TLandBook) : Bool := diagB (placesL b.Events.length) (tabAll b)
theorem f81_eq (b : TLandBook) (fine : Bool) (h1 : b.People.length ≤ 1000) (h2 : b.Events.length ≤ 1000) (h3 : b.Memories.length ≤ 1000) : ∃ t', f81 b fine = some (if (bookOk b && fine) = true then (if agreeB b = true then (t', 0) else (Tb.zero 64, 7)) else (Tb.zero 64, 2)) ∧ (bookOk b = true → tabOf t' = tabAll b) := by
 cases hb : bookOk b with
 | false =>
  refine ⟨Tb.zero 64, ?_, fun h => by cases h⟩
  unfold f81
  rw [f79_eq b h1 h2 h3, hb]; rfl
 | true =>
  obtain ⟨_, he, hm, hok, _⟩ := book_parts hb
  obtain ⟨t', e1, e2⟩ := f160_all b he.2 hm hok
  refine ⟨t', ?_, fun _ => e2⟩
  unfold f81
  rw [f79_eq b h1 h2 h3, hb, f161_eq b hm]
  cases fine with
  | false => rfl
  | true =>
   simp only [Option.bind_some, Bool.not_true, Bool.false_eq_true, if_false, e1, Bool.and_self, if_true]
   have ha : agreeB b = diagB (placesL b.Events.length) (passT (placesL b.Events.length) (firstT b (bitI ((2 ^ b.Memories.length - 1 : Nat) : Int)))) := rfl
   rw [ha]
   cases diagB (placesL b.Events.length) (passT (placesL b.Events.length) (firstT b (bitI ((2 ^ b.Memories.length - 1 : Nat) : Int)))) <;> rfl
end Go.Proofs.YtncjnffbdhckdaaGreatDoor.La
/-
 Which books are as defined: the document's way.
-/
namespace Go.Proofs.YtncjnffbdhckdaaGreatDoor.La
open Go.RowKit
set_option linter.unusedVariables false
theorem f7_eq (n : Int) : f7 n = some (inR n 0 5) := by
 unfold f7
 rw [f15_eq]; rfl
theorem f8_eq (b : TLandBook) (n : Int) (h : b.Events.length ≤ 1000) : f8 b n = some (inR n 0 ((b.Events.length : Int) - 1)) := by
 have hw : IntKind.i64.wrap ((b.Events.length : Int) - 1) = (b.Events.length : Int) - 1 := by
  rw [IntKind.wrap_i64]; omega
 unfold f8
 rw [hw, f15_eq]; rfl
theorem allI_all {α : Type} (g : α → Bool) : ∀ (l : List α) (k : Nat), allI (fun _ y => g y) k l = l.all g
 | [], _ => rfl
 | y :: l, k => by simp only [allI, List.all_cons, allI_all g l]
end Go.Proofs.YtncjnffbdhckdaaGreatDoor.La
/-
 The years that the program tells.
-/
namespace Go.Proofs.YtncjnffbdhckdaaGreatDoor.La
open Go.RowKit
set_option linter.unusedVariables false
theorem f82_eq (t : Tb 64) {a c : Nat} (ha : a < 8) (hc : c < 8) (hs : Small (tabOf t)) : f82 t (a : Int) (c : Int) = some ⟨-tabOf t c a, tabOf t a c⟩ := by
 have h1 := hs c a
 have hw : IntKind.i64.wrap (0 - tabOf t c a) = -tabOf t c a := by
  rw [IntKind.wrap_i64]; omega
 unfold f82
 simp only [ckI_nat ha, ckI_nat hc, Option.bind_some, tab_get t hc ha, tab_get t ha hc, hw]
theorem tab_small {b : TLandBook} (h : bookOk b = true) : Small (tabAll b) := by
 obtain ⟨_, he, _, hok, _⟩ := book_parts h
 exact (fits_small (places_nodup he.2) (by unfold placesL; simp; omega) (first_bd b _ hok)).2
def earlyL (b : TLandBook) : List Int := (List.range b.Events.length).map fun e => -tabAll b e 7
theorem early_loop (b : TLandBook) (hn : b.Events.length ≤ 7) (t : Tb 64) (hs : Small (tabOf t)) (ht : tabOf t = tabAll b) : lp (f31_b0 b) ([], 0, t) = some (earlyL b, t) := by
 have h := lp_thru (body := f31_b0 b) b.Events (earlyL b, t) (fun k => ((List.range k).map (fun e => -tabAll b e 7), (k : Int), t)) (fun k y hy => by
  have hk := get_lt hy
  have hq1 : IntKind.i64.wrap ((k : Int) + 1) = ((k + 1 : Nat) : Int) := by
   rw [IntKind.wrap_i64]; omega
  have h70 := f82_eq t (a := 7) (c := k) (by omega) (by omega) hs
  rw [show ((7 : Nat) : Int) = 7 from rfl, ht] at h70
  have ha : app ((List.range k).map (fun e => -tabAll b e 7)) [-tabAll b k 7] = some ((List.range (k + 1)).map (fun e => -tabAll b e 7)) := by
   unfold app
   rw [if_pos (by simp; omega), List.range_succ, List.map_append]; rfl
  unfold f31_b0
  rw [if_pos (by simp only [decide_eq_true_eq]; omega)]
  simp only [h70, Option.bind_some, ha, hq1]) (by unfold f31_b0 earlyL; rw [if_neg (by simp)])
 exact h
theorem f31_eq (b : TLandBook) (h1 : b.People.length ≤ 1000) (h2 : b.Events.length ≤ 1000) (h3 : b.Memories.length ≤ 1000) : f31 b = some (if bookOk b = true then (if agreeB b = true then (earlyL b, 0) else ([], 7)) else ([], 2)) := by
 obtain ⟨t', e1, e2⟩ := f81_eq b true h1 h2 h3
 unfold f31
 rw [e1]
 cases hb : bookOk b with
 | false => rfl
 | true =>
  have ht := e2 hb
  cases ha : agreeB b with
  | false => simp
  | true =>
   obtain ⟨_, he, _, _, _⟩ := book_parts hb
   have hl := early_loop b he.2 t' (by rw [ht]; exact tab_small hb) ht
   simp [hl]
end Go.Proofs.YtncjnffbdhckdaaGreatDoor.La
/-
 The document's table is the program's.
-/
namespace Go.Proofs.YtncjnffbdhckdaaGreatDoor.La
open Go.RowKit
set_option linter.unusedVariables false
theorem wrap_cnt {k : Nat} (h : k ≤ 1000) : IntKind.i64.wrap ((k : Int) + 1) = ((k + 1 : Nat) : Int) := by
 rw [IntKind.wrap_i64]; omega
/-! ### Closer and closer -/
section
variable (x0 : TLandBook) (hn : x0.Events.length ≤ 7)
include hn
end
/-! ### The first table of the document -/
theorem Bd.small {T : Tab} (h : Bd T) : Small T := fun a c => by have := h a c; omega
theorem first_diag (b : TLandBook) (h : bookOk b = true) : ∀ i ∈ placesL b.Events.length, firstT b (bitI ((2 ^ b.Memories.length - 1 : Nat) : Int)) i i ≤ 0 := fun i hi => by
 obtain ⟨_, ⟨_, hn⟩, hl, hm, hF⟩ := book_parts h
 have h1 : ∀ (hb : Nat → Bool) (l : List TLandMemory) (k : Nat) (T : Tab), memF hb k l T i i ≤ T i i := by
  intro hb l
  induction l with
  | nil => intro k T; exact Int.le_refl _
  | cons m l ih =>
   intro k T
   unfold memF
   refine Int.le_trans (ih _ _) ?_
   split
   ·exact Int.le_trans (clo_le _ _ _ _ _ _) (clo_le _ _ _ _ _ _)
   ·exact Int.le_refl _
 have h2 : ∀ (l : List Nat) (T : Tab), l.foldl (fun T e => clo (clo T 7 e 1000) e 7 0) T i i ≤ T i i := by
  intro l T
  exact foldl_le (fun t x a c => Int.le_trans (clo_le _ _ _ _ _ _) (clo_le _ _ _ _ _ _)) _ _ _ _
 have h3 := base_val (places_lt hn i hi) (places_lt hn i hi)
 rw [if_pos rfl] at h3
 have := h1 (bitI ((2 ^ b.Memories.length - 1 : Nat) : Int)) b.Memories 0 ((List.range' 0 b.Events.length).foldl (fun T e => clo (clo T 7 e 1000) e 7 0) baseT)
 have h4 := h2 (List.range' 0 b.Events.length) baseT
 unfold firstT
 have e : (List.range' 0 8).foldl rowsI (tabOf (Tb.zero 64)) = baseT := rfl
 rw [e]
 omega
/-! ### What the document tells by its table -/
end Go.Proofs.YtncjnffbdhckdaaGreatDoor.La
/-
 Whether memories agree, by the program's table.
-/
namespace Go.Proofs.YtncjnffbdhckdaaGreatDoor.La
open Go.RowKit
set_option linter.unusedVariables false
theorem pred_pos {k : Nat} (h0 : 0 < k) (hn : k ≤ 1073741824) : IntKind.i64.wrap ((k : Int) - 1) = ((k - 1 : Nat) : Int) := by rw [wrap_id] <;> omega
theorem take_snoc {α : Type} {l : List α} {k : Nat} {y : α} (h : l[k]? = some y) : l.take (k + 1) = l.take k ++ [y] := by rw [List.take_add_one, h]; rfl
noncomputable def agrS (b : TLandBook) (hb : Nat → Bool) : Bool := diagB (placesL b.Events.length) (passT (placesL b.Events.length) (firstT b hb))
theorem agrS_all (b : TLandBook) : agreeB b = agrS b (bitI ((2 ^ b.Memories.length - 1 : Nat) : Int)) := rfl
theorem agrS_iff {b : TLandBook} (h : bookOk b = true) (hb : Nat → Bool) : agrS b hb = true ↔ ∃ ys, TruthS b hb ys := by
 obtain ⟨_, ⟨_, hn⟩, hl, hm, hF⟩ := book_parts h
 exact agree_iff b hb hn hF
end Go.Proofs.YtncjnffbdhckdaaGreatDoor.La
/-
 Two lists are the same.
-/
namespace Go.Proofs.YtncjnffbdhckdaaGreatDoor.La
open Go.RowKit
set_option linter.unusedVariables false
end Go.Proofs.YtncjnffbdhckdaaGreatDoor.La
/-
 Truths: years that are proposed, and memories that are true in them.
-/
namespace Go.Proofs.YtncjnffbdhckdaaGreatDoor.La
open Go.RowKit
set_option linter.unusedVariables false
def truthB (b : TLandBook) (ys : List Int) : Bool := ys.all (fun y => inR y 0 1000) && (ys.length == b.Events.length)
def yv (ys : List Int) : Nat → Int := fun e => ys.getD e 0
def memB (ys : List Int) (m : TLandMemory) : Bool := inR (yv ys m.To.toNat - yv ys m.From.toNat) m.Years.Low m.Years.High
def allT (b : TLandBook) (ys : List Int) : Bool := b.Memories.all (memB ys)
theorem memB_iff {ys : List Int} {m : TLandMemory} : memB ys m = true ↔ MemT (yv ys) m := by unfold memB MemT; rw [inR_iff]
theorem truth_parts {b : TLandBook} {ys : List Int} (h : truthB b ys = true) : (∀ y ∈ ys, 0 ≤ y ∧ y ≤ 1000) ∧ ys.length = b.Events.length := by
 unfold truthB at h
 simp only [Bool.and_eq_true, List.all_eq_true, beq_iff_eq] at h
 exact ⟨fun y hy => inR_iff.1 (h.1 y hy), h.2⟩
theorem yv_at {b : TLandBook} {ys : List Int} (h : truthB b ys = true) {e : Nat} (he : e < b.Events.length) : ix ys (e : Int) = some (yv ys e) ∧ 0 ≤ yv ys e ∧ yv ys e ≤ 1000 := by
 obtain ⟨h1, h2⟩ := truth_parts h
 have hl : e < ys.length := by omega
 have hv : yv ys e = ys[e] := by unfold yv; simp [hl]
 rw [hv]
 exact ⟨by rw [ix_nat, List.getElem?_eq_getElem hl], h1 _ (List.getElem_mem hl)⟩
theorem truth_all {b : TLandBook} (ok : bookOk b = true) {ys : List Int} (h : truthB b ys = true) : allT b ys = true ↔ TruthS b (bitI ((2 ^ b.Memories.length - 1 : Nat) : Int)) (yv ys) := by
 have hl := (book_parts ok).2.2.1
 unfold allT
 rw [List.all_eq_true]
 constructor
 ·intro h2
  exact ⟨fun e he => (yv_at h he).2, fun j m hj _ => memB_iff.1 (h2 m (List.mem_of_getElem? hj))⟩
 ·rintro ⟨_, h2⟩ m hm
  obtain ⟨j, hj⟩ := List.getElem?_of_mem hm
  exact memB_iff.2 (h2 j m hj (all_bits hl (get_lt hj)))
theorem f5_eq (b : TLandBook) (ys : List Int) (hl : ys.length ≤ 9223372036854775807) : f5 b ys = some (truthB b ys) := by
 unfold f5
 have h := lp_all (body := f5_b0 ys) ys (fun _ y => inR y 0 1000) (Sum.inr false : Unit ⊕ Bool) (Sum.inl ()) (fun k => (k : Int)) (fun k y hy => by
  have hk := get_lt hy
  unfold f5_b0
  rw [if_pos (by simp only [decide_eq_true_eq]; omega), ix_nat, hy, Option.bind_some, f15_eq, Option.bind_some, wrap_id (by omega) (by omega)]
  cases inR y 0 1000 <;> rfl) (by unfold f5_b0; rw [if_neg (by simp)])
 rw [show (0 : Int) = ((0 : Nat) : Int) from rfl, h, Option.bind_some, allI_all]
 unfold truthB
 cases ys.all (fun y => inR y 0 1000) with
 | true =>
  simp only [if_true, Sum.elim_inl, Bool.true_and]
  congr 1
  rw [Bool.eq_iff_iff]; simp only [beq_iff_eq]; omega
 | false => rfl
theorem mem_ix {b : TLandBook} (ok : bookOk b = true) {ys : List Int} (h : truthB b ys = true) {m : TLandMemory} (hm : m ∈ b.Memories) : ix ys m.To = some (yv ys m.To.toNat) ∧ ix ys m.From = some (yv ys m.From.toNat) ∧ IntKind.i64.wrap (yv ys m.To.toNat - yv ys m.From.toNat) = yv ys m.To.toNat - yv ys m.From.toNat := by
 obtain ⟨_, _, _, hmm, hF⟩ := book_parts ok
 obtain ⟨⟨f1, f2⟩, ⟨g1, g2⟩, _⟩ := hmm m hm
 obtain ⟨c1, c2⟩ := hF m hm
 obtain ⟨a1, a2, a3⟩ := yv_at h c2
 obtain ⟨b1, b2, b3⟩ := yv_at h c1
 rw [Int.toNat_of_nonneg g1] at a1
 rw [Int.toNat_of_nonneg f1] at b1
 exact ⟨a1, b1, wrap_id (by omega) (by omega)⟩
theorem f16_eq {b : TLandBook} (ok : bookOk b = true) {ys : List Int} (h : truthB b ys = true) {m : TLandMemory} (hm : m ∈ b.Memories) : f16 m ys = some (memB ys m) := by
 obtain ⟨a1, a2, a3⟩ := mem_ix ok h hm
 unfold f16
 rw [a1, Option.bind_some, a2, Option.bind_some, a3, f15_eq]; rfl
theorem f6_eq (b : TLandBook) (ok : bookOk b = true) (ys : List Int) (h : truthB b ys = true) : f6 b ys = some (allT b ys) := by
 have hl := (book_parts ok).2.2.1
 unfold f6
 have hh := lp_all (body := f6_b0 b ys) b.Memories (fun _ m => memB ys m) (Sum.inr false : Unit ⊕ Bool) (Sum.inl ()) (fun k => (k : Int)) (fun k y hy => by
  have hk := get_lt hy
  unfold f6_b0
  rw [if_pos (by simp only [decide_eq_true_eq]; omega), ix_nat, hy, Option.bind_some, f16_eq ok h (List.mem_of_getElem? hy), Option.bind_some, wrap_cnt (by omega)]
  cases memB ys y <;> rfl) (by unfold f6_b0; rw [if_neg (by simp)])
 rw [show (0 : Int) = ((0 : Nat) : Int) from rfl, hh, Option.bind_some, allI_all]
 unfold allT
 cases b.Memories.all (memB ys) <;> rfl
theorem truth_len {b : TLandBook} {ys : List Int} (h : truthB b ys = true) : ys.length = b.Events.length := (truth_parts h).2
end Go.Proofs.YtncjnffbdhckdaaGreatDoor.La
/-
 The truths in which the bounds are reached.
-/
namespace Go.Proofs.YtncjnffbdhckdaaGreatDoor.La
open Go.RowKit
set_option linter.unusedVariables false
def Tr (b : TLandBook) (ys : Nat → Int) : Prop := (∀ e, e < b.Events.length → 0 ≤ ys e ∧ ys e ≤ 1000) ∧ ∀ m ∈ b.Memories, MemT ys m
theorem tr_iff {b : TLandBook} (ok : bookOk b = true) {ys : Nat → Int} : TruthS b (bitI ((2 ^ b.Memories.length - 1 : Nat) : Int)) ys ↔ Tr b ys := by
 have hl := (book_parts ok).2.2.1
 constructor
 ·rintro ⟨h1, h2⟩
  refine ⟨h1, fun m hm => ?_⟩
  obtain ⟨j, hj⟩ := List.getElem?_of_mem hm
  exact h2 j m hj (all_bits hl (get_lt hj))
 ·rintro ⟨h1, h2⟩
  exact ⟨h1, fun j m hj _ => h2 m (List.mem_of_getElem? hj)⟩
theorem agree_tr {b : TLandBook} (ok : bookOk b = true) : agreeB b = true ↔ ∃ ys, Tr b ys := by
 rw [agrS_all, agrS_iff ok]
 exact ⟨fun ⟨ys, h⟩ => ⟨ys, (tr_iff ok).1 h⟩, fun ⟨ys, h⟩ => ⟨ys, (tr_iff ok).2 h⟩⟩
theorem ev_in {b : TLandBook} {e : Nat} (he : e < b.Events.length) : e ∈ placesL b.Events.length := by unfold placesL; simp; exact .inl he
theorem in7 (n : Nat) : 7 ∈ placesL n := by unfold placesL; simp
theorem tab_closed {b : TLandBook} (ha : agreeB b = true) : Clo (placesL b.Events.length) (placesL b.Events.length) (tabAll b) := pass_closed (diagB_iff.1 ha)
theorem tab_zero' {b : TLandBook} (ok : bookOk b = true) (ha : agreeB b = true) {i : Nat} (hi : i ∈ placesL b.Events.length) : tabAll b i i = 0 := diag_zero (first_diag b ok) (diagB_iff.1 ha) hi
theorem tr_of_feas {b : TLandBook} (ok : bookOk b = true) {y : Nat → Int} (h : Feas (placesL b.Events.length) (tabAll b) y) : Tr b fun e => y e - y 7 := by
 obtain ⟨_, ⟨_, hn⟩, hl, hm, hF⟩ := book_parts ok
 exact (tr_iff ok).1 (truth_of_feas b _ hn hF (feas_pass.1 h))
theorem late_tr {b : TLandBook} (ok : bookOk b = true) (ha : agreeB b = true) {s : Nat} (hs : s ∈ placesL b.Events.length) : Tr b fun e => tabAll b s e - tabAll b s 7 :=
 tr_of_feas ok (clo_feas (tab_closed ha) hs)
/-! ### A memory more -/
def moreB (b : TLandBook) (m : TLandMemory) : TLandBook := ⟨b.People, b.Events, b.Memories ++ [m]⟩
theorem more_tr {b : TLandBook} {m : TLandMemory} {ys : Nat → Int} : Tr (moreB b m) ys ↔ Tr b ys ∧ MemT ys m := by
 constructor
 ·rintro ⟨h1, h2⟩
  exact ⟨⟨h1, fun q hq => h2 q (List.mem_append_left _ hq)⟩, h2 m (List.mem_append_right _ (List.mem_singleton.2 rfl))⟩
 ·rintro ⟨⟨h1, h2⟩, h3⟩
  refine ⟨h1, fun q hq => ?_⟩
  rcases List.mem_append.1 hq with h | h
  ·exact h2 q h
  ·rw [List.mem_singleton.1 h]; exact h3
theorem more_ok {b : TLandBook} (ok : bookOk b = true) {m : TLandMemory} (hl : b.Memories.length < 10) (hm : memOk b m = true) : bookOk (moreB b m) = true := by
 unfold bookOk at ok ⊢
 simp only [Bool.and_eq_true, decide_eq_true_eq, List.all_eq_true] at ok ⊢
 obtain ⟨a, c, d, e, f, g⟩ := ok
 refine ⟨a, c, d, ?_, f, fun q hq => ?_⟩
 ·show ((b.Memories ++ [m]).length : Int) ≤ 10
  rw [List.length_append, List.length_singleton]
  omega
 ·rcases List.mem_append.1 hq with h | h
  ·exact g q h
  ·rw [List.mem_singleton.1 h]; exact hm
end Go.Proofs.YtncjnffbdhckdaaGreatDoor.La
/-
 Lines: the program's and the document's.
-/
namespace Go.Proofs.YtncjnffbdhckdaaGreatDoor.La
open Go.RowKit
set_option linter.unusedVariables false
/-! ### Who may follow whom -/
def pM (b : TLandBook) (p : Nat) : Int := (b.People[p]?.map fun q : TLandPerson => q.Mother).getD 0
def pA (b : TLandBook) (p : Nat) : Int := (b.People[p]?.map fun q : TLandPerson => q.Adopted).getD 0
def mayB (b : TLandBook) (h p : Nat) : Bool := !decide (p = h) && (pM b p == (h : Int) || (pA b p == (h : Int) || (decide (0 ≤ pM b p) && pM b p == pM b h)))
theorem person_at {b : TLandBook} (ok : bookOk b = true) {p : Nat} (hp : p < b.People.length) : ∃ q, ix b.People (p : Int) = some q ∧ q.Mother = pM b p ∧ q.Adopted = pA b p ∧ -1 ≤ q.Mother := by
 have h : b.People[p]? = some b.People[p] := List.getElem?_eq_getElem hp
 refine ⟨b.People[p], by rw [ix_nat, h], by unfold pM; rw [h]; rfl, by unfold pA; rw [h]; rfl, ?_⟩
 unfold bookOk at ok
 simp only [Bool.and_eq_true] at ok
 have := (allI_iff _ _ _).1 ok.1 p _ h
 unfold personOk at this
 rw [Bool.and_eq_true] at this
 exact (inR_iff.1 this.1).1
theorem f86_eq {b : TLandBook} (ok : bookOk b = true) {p h : Nat} (hp : p < b.People.length) (hh : h < b.People.length) : f86 b (p : Int) (h : Int) = some (mayB b h p) := by
 obtain ⟨q, q1, q2, q3, q4⟩ := person_at ok hp
 obtain ⟨r, r1, r2, r3, r4⟩ := person_at ok hh
 unfold f86 mayB
 by_cases e : p = h
 ·subst e
  simp
 ·have e' : ((p : Int) != (h : Int)) = true := by simp; omega
  have e2 : (!decide (p = h)) = true := by simp [e]
  rw [e', e2]
  simp only [q1, r1, q2, q3, r2, if_true, Option.bind_some, Bool.true_and]
  by_cases a1 : (pM b p == (h : Int)) = true
  ·rw [a1]; rfl
  ·have a1' : (pM b p == (h : Int)) = false := by simpa using a1
   rw [a1']
   simp only [Bool.false_eq_true, if_false, Bool.false_or]
   by_cases a2 : (pA b p == (h : Int)) = true
   ·rw [a2]; rfl
   ·have a2' : (pA b p == (h : Int)) = false := by simpa using a2
    rw [a2']
    simp only [Bool.false_eq_true, if_false, Bool.false_or]
    by_cases a3 : pM b p = -1
    ·rw [a3]; rfl
    ·have h1 : (pM b p != -1) = true := by simp [a3]
     have h2 : decide (0 ≤ pM b p) = true := decide_eq_true (by omega)
     rw [h1, h2]
     cases (pM b p == pM b h) <;> rfl
def hol (b : TLandBook) (e : Nat) : Nat := ((b.Events[e]?.map fun q : TLandEvent => q.Holder).getD 0).toNat
def stp (b : TLandBook) (e : Nat) : Int := (b.Events[e]?.map fun q : TLandEvent => q.Strip).getD 0
theorem event_at {b : TLandBook} (ok : bookOk b = true) {e : Nat} (he : e < b.Events.length) : ∃ q, ix b.Events (e : Int) = some q ∧ q.Holder = ((hol b e : Nat) : Int) ∧ q.Strip = stp b e ∧ hol b e < b.People.length := by
 have h : b.Events[e]? = some b.Events[e] := List.getElem?_eq_getElem he
 unfold bookOk at ok
 simp only [Bool.and_eq_true, List.all_eq_true] at ok
 have hv := ok.2.2.2.2.1 _ (List.getElem_mem he)
 unfold eventOk at hv
 rw [Bool.and_eq_true] at hv
 have hr := inR_iff.1 hv.2
 have e1 : hol b e = (b.Events[e]).Holder.toNat := by unfold hol; rw [h]; rfl
 exact ⟨b.Events[e], by rw [ix_nat, h], by rw [e1]; omega, by unfold stp; rw [h]; rfl, by rw [e1]; omega⟩
/-! ### What surely comes before what -/
def bfr (b : TLandBook) (x y : Nat) : Bool := decide (tabAll b y x < 0)
theorem bef_trans' {b : TLandBook} (ha : agreeB b = true) {x y z : Nat} (hx : x < b.Events.length) (hy : y < b.Events.length) (hz : z < b.Events.length) (h1 : bfr b x y = true) (h2 : bfr b y z = true) : bfr b x z = true := by
 unfold bfr at *
 rw [decide_eq_true_eq] at *
 have := tab_closed ha y (ev_in hy) z (ev_in hz) x (ev_in hx)
 omega
theorem bef_early {b : TLandBook} (ha : agreeB b = true) {x y : Nat} (hx : x < b.Events.length) (hy : y < b.Events.length) (h : bfr b x y = true) : -tabAll b x 7 < -tabAll b y 7 := by
 unfold bfr at h
 rw [decide_eq_true_eq] at h
 have := tab_closed ha x (ev_in hx) y (ev_in hy) 7 (in7 _)
 omega
def insP (b : TLandBook) (L : List Nat) (i : Nat) : Option (List Nat) :=
 if L.all (fun o => bfr b i o || bfr b o i) = true then some (L.take (L.findIdx fun o => bfr b i o) ++ i :: L.drop (L.findIdx fun o => bfr b i o)) else none
def insR (b : TLandBook) (L : List Nat) (i : Nat) : List Nat :=
 L.take (L.findIdx fun o => !decide (-tabAll b o 7 < -tabAll b i 7)) ++ i :: L.drop (L.findIdx fun o => !decide (-tabAll b o 7 < -tabAll b i 7))
def linP (b : TLandBook) (strip : Int) : Nat → Option (List Nat)
 | 0 => some []
 | j + 1 => (linP b strip j).bind fun L => if (stp b j != strip) = true then some L else insP b L j
def linR (b : TLandBook) (strip : Int) : Nat → List Nat
 | 0 => []
 | j + 1 => if (stp b j != strip) = true then linR b strip j else insR b (linR b strip j) j
theorem mem_insR {b : TLandBook} {L : List Nat} {i x : Nat} : x ∈ insR b L i ↔ x = i ∨ x ∈ L := by
 unfold insR
 rw [List.mem_append, List.mem_cons]
 have : x ∈ L ↔ x ∈ L.take (L.findIdx fun o => !decide (-tabAll b o 7 < -tabAll b i 7)) ∨ x ∈ L.drop (L.findIdx fun o => !decide (-tabAll b o 7 < -tabAll b i 7)) := by
  rw [← List.mem_append, List.take_append_drop]
 rw [this]
 constructor
 ·rintro (h | h | h)
  ·exact .inr (.inl h)
  ·exact .inl h
  ·exact .inr (.inr h)
 ·rintro (h | h | h)
  ·exact .inr (.inl h)
  ·exact .inl h
  ·exact .inr (.inr h)
theorem mem_linR {b : TLandBook} {strip : Int} {x : Nat} : ∀ {j : Nat}, x ∈ linR b strip j ↔ x < j ∧ stp b x = strip
 | 0 => by simp [linR]
 | j + 1 => by
  have ih := mem_linR (b := b) (strip := strip) (x := x) (j := j)
  unfold linR
  by_cases h : stp b j = strip
  ·rw [if_neg (by simp [h]), mem_insR, ih]
   constructor
   ·rintro (h1 | h1)
    ·subst h1; exact ⟨by omega, h⟩
    ·exact ⟨by omega, h1.2⟩
   ·rintro ⟨h1, h2⟩
    by_cases e : x = j
    ·exact .inl e
    ·exact .inr ⟨by omega, h2⟩
  ·rw [if_pos (by simp [h]), ih]
   constructor
   ·exact fun h1 => ⟨by omega, h1.2⟩
   ·rintro ⟨h1, h2⟩
    refine ⟨?_, h2⟩
    by_cases e : x = j
    ·subst e; exact absurd h2 h
    ·omega
theorem linR_len (b : TLandBook) (strip : Int) : ∀ j, (linR b strip j).length ≤ j
 | 0 => by simp [linR]
 | j + 1 => by
  have ih := linR_len b strip j
  unfold linR
  split
  ·omega
  ·unfold insR
   rw [List.length_append, List.length_cons, List.length_take, List.length_drop]
   omega
theorem findIdx_congr {p q : Nat → Bool} : ∀ {L : List Nat}, (∀ x ∈ L, p x = q x) → L.findIdx p = L.findIdx q
 | [], _ => rfl
 | x :: L, h => by
  rw [List.findIdx_cons, List.findIdx_cons, h x (List.mem_cons_self ..), findIdx_congr fun y hy => h y (List.mem_cons_of_mem _ hy)]
theorem lin_same {b : TLandBook} (ok : bookOk b = true) (ha : agreeB b = true) (strip : Int) : ∀ {j : Nat} {L : List Nat}, j ≤ b.Events.length → linP b strip j = some L → L = linR b strip j ∧ L.Pairwise fun x y => bfr b x y = true
 | 0, L, _, h => by
  unfold linP at h
  cases h
  exact ⟨rfl, .nil⟩
 | j + 1, L, hj, h => by
  unfold linP at h
  obtain ⟨M, h1, h2⟩ := bnd h
  obtain ⟨e, hp⟩ := lin_same ok ha strip (by omega) h1
  unfold linR
  by_cases hs : (stp b j != strip) = true
  ·rw [if_pos hs] at h2 ⊢
   cases h2
   exact ⟨e, hp⟩
  ·rw [if_neg hs] at h2 ⊢
   unfold insP at h2
   split at h2
   ·rename_i hall
    rw [List.all_eq_true] at hall
    have hin : ∀ o ∈ M, o < j := fun o ho => by rw [e] at ho; exact (mem_linR.1 ho).1
    have hcmp : ∀ o ∈ M, bfr b j o = !decide (-tabAll b o 7 < -tabAll b j 7) := fun o ho => by
     have ho' := hin o ho
     have := hall o ho
     rw [Bool.or_eq_true] at this
     cases hb : bfr b j o with
     | true =>
      have := bef_early ha (show j < b.Events.length by omega) (by omega) hb
      rw [decide_eq_false (by omega)]; rfl
     | false =>
      rw [hb] at this
      have := bef_early ha (show o < b.Events.length by omega) (by omega) (this.resolve_left (by simp))
      rw [decide_eq_true this]; rfl
    cases h2
    have hfi := findIdx_congr (L := M) (p := fun o => bfr b j o) (q := fun o => !decide (-tabAll b o 7 < -tabAll b j 7)) hcmp
    refine ⟨?_, ?_⟩
    ·unfold insR
     rw [← e, hfi]
    ·rw [List.pairwise_append]
     have hpt : (M.take (M.findIdx fun o => bfr b j o)).Pairwise fun x y => bfr b x y = true := hp.sublist (List.take_sublist _ _)
     have hpd : (M.drop (M.findIdx fun o => bfr b j o)).Pairwise fun x y => bfr b x y = true := hp.sublist (List.drop_sublist _ _)
     have htk : ∀ x ∈ M.take (M.findIdx fun o => bfr b j o), bfr b x j = true := fun x hx => by
      obtain ⟨q, hq, rfl⟩ := List.mem_iff_getElem.1 hx
      rw [List.length_take] at hq
      rw [List.getElem_take]
      have hnot : bfr b j (M[q]'(by omega)) = false := by
       have := List.not_of_lt_findIdx (p := fun o => bfr b j o) (xs := M) (i := q) (by omega)
       simpa using this
      have := hall _ (List.getElem_mem (show q < M.length by omega))
      rw [hnot] at this
      simpa using this
     have hdr : ∀ y ∈ M.drop (M.findIdx fun o => bfr b j o), bfr b j y = true := fun y hy => by
      cases hd : M.drop (M.findIdx fun o => bfr b j o) with
      | nil => rw [hd] at hy; cases hy
      | cons z zs =>
       have hlt : M.findIdx (fun o => bfr b j o) < M.length := by
        rcases Nat.lt_or_ge (M.findIdx fun o => bfr b j o) M.length with h | h
        ·exact h
        ·rw [List.drop_eq_nil_of_le h] at hd; cases hd
       have hz : z = M[M.findIdx fun o => bfr b j o]'hlt := by
        rw [List.drop_eq_getElem_cons hlt] at hd
        exact (List.cons.inj hd).1.symm
       have hjz : bfr b j z = true := by
        rw [hz]
        exact List.findIdx_getElem (w := hlt)
       have hzM : z ∈ M := by rw [hz]; exact List.getElem_mem _
       rw [hd] at hy hpd
       rcases List.mem_cons.1 hy with h | h
       ·rw [h]; exact hjz
       ·have hzy := (List.pairwise_cons.1 hpd).1 y h
        have hyM : y ∈ M := (List.drop_sublist _ _).subset (by rw [hd]; exact List.mem_cons_of_mem _ h)
        have p1 := hin z hzM
        have p2 := hin y hyM
        exact bef_trans' ha (by omega) (by omega) (by omega) hjz hzy
     refine ⟨hpt, List.pairwise_cons.2 ⟨hdr, hpd⟩, fun x hx y hy => ?_⟩
     rcases List.mem_cons.1 hy with h | h
     ·rw [h]; exact htk x hx
     ·have p1 := hin x ((List.take_sublist _ _).subset hx)
      have p2 := hin y ((List.drop_sublist _ _).subset h)
      exact bef_trans' ha (by omega) (by omega) (by omega) (htk x hx) (hdr y h)
   ·cases h2
theorem lin_none {b : TLandBook} (ok : bookOk b = true) (ha : agreeB b = true) (strip : Int) : ∀ {j : Nat}, j ≤ b.Events.length → linP b strip j = none → ∃ x y, x < j ∧ y < j ∧ x ≠ y ∧ stp b x = strip ∧ stp b y = strip ∧ bfr b x y = false ∧ bfr b y x = false
 | 0, _, h => by cases h
 | j + 1, hj, h => by
  unfold linP at h
  cases hq : linP b strip j with
  | none =>
   obtain ⟨x, y, h1, h2, h3⟩ := lin_none ok ha strip (by omega) hq
   exact ⟨x, y, by omega, by omega, h3⟩
  | some M =>
   rw [hq, Option.bind_some] at h
   obtain ⟨e, _⟩ := lin_same ok ha strip (by omega) hq
   split at h
   ·cases h
   ·rename_i hs
    unfold insP at h
    split at h
    ·cases h
    ·rename_i hall
     have hall' : ¬ ∀ o ∈ M, (bfr b j o || bfr b o j) = true := fun hh => hall (List.all_eq_true.2 hh)
     obtain ⟨o, ho⟩ := Classical.not_forall.1 hall'
     obtain ⟨ho1, ho2⟩ := Classical.not_imp.1 ho
     rw [e] at ho1
     obtain ⟨p1, p2⟩ := mem_linR.1 ho1
     have ho3 : (bfr b j o || bfr b o j) = false := by simpa using ho2
     rw [Bool.or_eq_false_iff] at ho3
     exact ⟨j, o, by omega, by omega, by omega, by simpa using hs, p2, ho3.1, ho3.2⟩
end Go.Proofs.YtncjnffbdhckdaaGreatDoor.La
/-
 What the program and the document tell of lines and heirs.
-/
namespace Go.Proofs.YtncjnffbdhckdaaGreatDoor.La
open Go.RowKit
set_option linter.unusedVariables false
def castL (L : List Nat) : List Int := L.map fun n : Nat => (n : Int)
theorem cast_len (L : List Nat) : (castL L).length = L.length := by simp [castL]
theorem cast_ix {L : List Nat} {k x : Nat} (h : L[k]? = some x) : ix (castL L) (k : Int) = some (x : Int) := by
 unfold castL
 rw [ix_nat, List.getElem?_map, h]; rfl
def posN (p : Nat → Bool) : List Nat → Nat → Nat → Nat
 | [], _, a => a
 | o :: r, k, a => posN p r (k + 1) (if p o = true then (if k < a then k else a) else a)
theorem posN_le (p : Nat → Bool) : ∀ (r : List Nat) (k a : Nat), a ≤ k → posN p r k a = a
 | [], _, _, _ => rfl
 | o :: r, k, a, h => by
  unfold posN
  have e : (if p o = true then (if k < a then k else a) else a) = a := by
   rw [if_neg (show ¬ k < a by omega)]
   split <;> rfl
  rw [e]
  exact posN_le p r (k + 1) a (by omega)
theorem posN_eq (p : Nat → Bool) : ∀ (r : List Nat) (k : Nat), posN p r k (k + r.length) = k + r.findIdx p
 | [], k => by simp [posN]
 | o :: r, k => by
  unfold posN
  rw [List.findIdx_cons]
  by_cases h : p o = true
  ·rw [if_pos h, if_pos (show k < k + (o :: r).length by simp), posN_le p r (k + 1) k (by omega), h]
   rfl
  ·have h' : p o = false := by simpa using h
   have ih := posN_eq p r (k + 1)
   rw [if_neg h, h', show k + (o :: r).length = k + 1 + r.length by simp; omega, ih]
   show k + 1 + r.findIdx p = k + (r.findIdx p + 1)
   omega
set_option linter.unusedSectionVars false
section
variable {b : TLandBook} (ok : bookOk b = true) (ha : agreeB b = true) {t : Tb 64} (ht : tabOf t = tabAll b)
include ok ha ht
theorem place_loop {i : Nat} (hi : i < b.Events.length) {L : List Nat} (hL : ∀ x ∈ L, x < b.Events.length) (hl : L.length ≤ 1000) (u : Tb 64) : ∀ (r : List Nat) (k a : Nat), L.drop k = r →
  lp (f34_b1 (castL L, (i : Int), u)) ((a : Int), (k : Int), t) = some (if r.all (fun o => bfr b i o || bfr b o i) = true then .inl (((posN (fun o => bfr b i o) r k a : Nat) : Int), t) else .inr ([], 0, 8))
 | [], k, a, hd => by
  have hk : L.length ≤ k := by have := List.drop_eq_nil_iff.1 hd; exact this
  rw [lp_eq]
  have e : f34_b1 (castL L, (i : Int), u) ((a : Int), (k : Int), t) = some (.inr (.inl ((a : Int), t))) := by
   unfold f34_b1
   rw [if_neg (by simp only [decide_eq_true_eq, cast_len]; omega)]
  rw [e]; rfl
 | o :: r, k, a, hd => by
  have hn := (book_parts ok).2.1.2
  have hq : L[k]? = some o := by
   have := congrArg (fun z => z[0]?) hd
   simpa using this
  have hlt := (List.getElem?_eq_some_iff.1 hq).1
  have hd' : L.drop (k + 1) = r := by
   have := congrArg List.tail hd
   simpa using this
  have ho := hL o (List.mem_of_getElem? hq)
  have hs : Small (tabOf t) := by rw [ht]; exact tab_small ok
  have e1 := f82_eq t (a := i) (c := o) (by omega) (by omega) hs
  have e2 := f82_eq t (a := o) (c := i) (by omega) (by omega) hs
  rw [ht] at e1 e2
  rw [lp_eq]
  by_cases h1 : bfr b i o = true
  ·have h1' : decide (0 < -tabAll b o i) = true := by
    unfold bfr at h1
    rw [decide_eq_true_eq] at h1 ⊢
    omega
   have e : f34_b1 (castL L, (i : Int), u) ((a : Int), (k : Int), t) = some (.inl (((if k < a then k else a : Nat) : Int), ((k + 1 : Nat) : Int), t)) := by
    unfold f34_b1
    rw [if_pos (by simp only [decide_eq_true_eq, cast_len]; omega)]
    simp only [cast_ix hq, e1, h1', Option.bind_some, if_true, Sum.elim_inl, wrap_cnt (show k ≤ 1000 by omega)]
    congr 3
    by_cases hka : k < a
    ·rw [if_pos hka, if_pos (by omega)]
    ·rw [if_neg hka, if_neg (by omega)]
   rw [e]
   show lp (f34_b1 (castL L, (i : Int), u)) (((if k < a then k else a : Nat) : Int), ((k + 1 : Nat) : Int), t) = _
   rw [place_loop hi hL hl u r (k + 1) _ hd']
   rw [List.all_cons, h1, posN, if_pos h1]
   rfl
  ·have h1' : bfr b i o = false := by simpa using h1
   have h2 : decide (0 < -tabAll b o i) = false := by
    unfold bfr at h1'
    rw [decide_eq_false_iff_not] at h1' ⊢
    omega
   by_cases h3 : bfr b o i = true
   ·have h4 : decide (-tabAll b i o ≤ 0) = false := by
     unfold bfr at h3
     rw [decide_eq_true_eq] at h3
     rw [decide_eq_false_iff_not]
     omega
    have e : f34_b1 (castL L, (i : Int), u) ((a : Int), (k : Int), t) = some (.inl ((a : Int), ((k + 1 : Nat) : Int), t)) := by
     unfold f34_b1
     rw [if_pos (by simp only [decide_eq_true_eq, cast_len]; omega)]
     simp only [cast_ix hq, e1, e2, h2, h4, Option.bind_some, Bool.false_eq_true, if_false, Sum.elim_inl, wrap_cnt (show k ≤ 1000 by omega)]
    rw [e]
    show lp (f34_b1 (castL L, (i : Int), u)) ((a : Int), ((k + 1 : Nat) : Int), t) = _
    rw [place_loop hi hL hl u r (k + 1) _ hd']
    rw [List.all_cons, h1', h3, posN, if_neg h1]
    rfl
   ·have h3' : bfr b o i = false := by simpa using h3
    have h4 : decide (-tabAll b i o ≤ 0) = true := by
     unfold bfr at h3'
     rw [decide_eq_false_iff_not] at h3'
     rw [decide_eq_true_eq]
     omega
    have e : f34_b1 (castL L, (i : Int), u) ((a : Int), (k : Int), t) = some (.inr (.inr ([], 0, 8))) := by
     unfold f34_b1
     rw [if_pos (by simp only [decide_eq_true_eq, cast_len]; omega)]
     simp only [cast_ix hq, e1, e2, h2, h4, Option.bind_some, Bool.false_eq_true, if_false, if_true, Sum.elim_inr]
    rw [e, List.all_cons, h1', h3']
    rfl
theorem linP_late {strip : Int} {j : Nat} (h : linP b strip j = none) : ∀ m, linP b strip (j + m) = none
 | 0 => h
 | m + 1 => by
  rw [show j + (m + 1) = (j + m) + 1 by omega]
  unfold linP
  rw [linP_late h m]
  rfl
theorem line_loop (strip : Int) : ∀ (m j : Nat) (L : List Nat), j + m = b.Events.length → linP b strip j = some L →
  lp (f34_b0 b strip) (castL L, (j : Int), t) = some (match linP b strip b.Events.length with | some L' => .inl (castL L', t) | none => .inr ([], 0, 8))
 | 0, j, L, hj, hL => by
  have : j = b.Events.length := by omega
  subst this
  rw [hL, lp_eq]
  have e : f34_b0 b strip (castL L, (b.Events.length : Int), t) = some (.inr (.inl (castL L, t))) := by
   unfold f34_b0
   rw [if_neg (by simp)]
  rw [e]
 | m + 1, j, L, hj, hL => by
  have hn := (book_parts ok).2.1.2
  obtain ⟨eL, _⟩ := lin_same ok ha strip (by omega) hL
  have hlen : L.length ≤ j := by rw [eL]; exact linR_len b strip j
  have hin : ∀ x ∈ L, x < b.Events.length := fun x hx => by
   rw [eL] at hx
   have := (mem_linR.1 hx).1
   omega
  obtain ⟨q, q1, q2, q3, q4⟩ := event_at ok (show j < b.Events.length by omega)
  rw [lp_eq]
  by_cases hs : (stp b j != strip) = true
  ·have e : f34_b0 b strip (castL L, (j : Int), t) = some (.inl (castL L, ((j + 1 : Nat) : Int), t)) := by
    unfold f34_b0
    rw [if_pos (by simp only [decide_eq_true_eq]; omega)]
    simp only [q1, q3, hs, if_true, Option.bind_some, Sum.elim_inl, wrap_cnt (show j ≤ 1000 by omega)]
   rw [e]
   exact line_loop strip m (j + 1) L (by omega) (by unfold linP; rw [hL, Option.bind_some, if_pos hs])
  ·have hs' : (stp b j != strip) = false := by simpa using hs
   have hpl := place_loop ok ha ht (show j < b.Events.length by omega) hin (by omega) t L 0 L.length rfl
   have hpos := posN_eq (fun o => bfr b j o) L 0
   rw [Nat.zero_add, Nat.zero_add] at hpos
   rw [hpos] at hpl
   have hpl' : lp (f34_b1 (castL L, (j : Int), t)) (((castL L).length : Int), 0, t) = some (if L.all (fun o => bfr b j o || bfr b o j) = true then .inl (((L.findIdx fun o => bfr b j o : Nat) : Int), t) else .inr ([], 0, 8)) := by rw [cast_len]; exact hpl
   by_cases hall : L.all (fun o => bfr b j o || bfr b o j) = true
   ·rw [if_pos hall] at hpl'
    have hfi : L.findIdx (fun o => bfr b j o) ≤ L.length := List.findIdx_le_length
    have hins : insL (castL L) ((L.findIdx (fun o => bfr b j o) : Nat) : Int) (j : Int) = some (castL (L.take (L.findIdx fun o => bfr b j o) ++ j :: L.drop (L.findIdx fun o => bfr b j o))) := by
     unfold insL
     rw [if_pos ⟨by omega, by rw [Int.toNat_natCast, cast_len]; exact hfi, by rw [cast_len]; omega⟩, Int.toNat_natCast]
     unfold castL
     rw [List.map_append, List.map_cons, List.map_take, List.map_drop]
    have e : f34_b0 b strip (castL L, (j : Int), t) = some (.inl (castL (L.take (L.findIdx fun o => bfr b j o) ++ j :: L.drop (L.findIdx fun o => bfr b j o)), ((j + 1 : Nat) : Int), t)) := by
     unfold f34_b0
     rw [if_pos (by simp only [decide_eq_true_eq]; omega)]
     simp only [q1, q3, hs', Bool.false_eq_true, if_false, Option.bind_some, hpl', Sum.elim_inl, hins, wrap_cnt (show j ≤ 1000 by omega)]
    rw [e]
    exact line_loop strip m (j + 1) _ (by omega) (by unfold linP; rw [hL, Option.bind_some, if_neg hs]; unfold insP; rw [if_pos hall])
   ·rw [if_neg hall] at hpl'
    have e : f34_b0 b strip (castL L, (j : Int), t) = some (.inr (.inr ([], 0, 8))) := by
     unfold f34_b0
     rw [if_pos (by simp only [decide_eq_true_eq]; omega)]
     simp only [q1, q3, hs', Bool.false_eq_true, if_false, Option.bind_some, hpl', Sum.elim_inr]
    have hnone : linP b strip (j + 1) = none := by unfold linP; rw [hL, Option.bind_some, if_neg hs]; unfold insP; rw [if_neg hall]
    have := linP_late ok ha ht hnone m
    rw [show j + 1 + m = b.Events.length by omega] at this
    rw [e, this]
end
/-! ### The first that does not follow -/
def folB (b : TLandBook) (L : List Nat) : Int := match (List.range' 1 (L.length - 1)).find? fun k => !mayB b (hol b (L.getD (k - 1) 0)) (hol b (L.getD k 0)) with
 | none => -1
 | some k => (k : Int)
theorem lp_from {σ ρ : Type} {body : σ → Option (σ ⊕ ρ)} (n : Nat) (H : Nat → Bool) (r : ρ) (f : Nat → ρ) (enc : Nat → σ) (h1 : ∀ k, 1 ≤ k → k < n → body (enc k) = some (if H k = true then .inr (f k) else .inl (enc (k + 1)))) (h2 : ∀ k, 1 ≤ k → n ≤ k → body (enc k) = some (.inr r)) :
  lp body (enc 1) = some (match (List.range' 1 (n - 1)).find? H with | none => r | some k => f k) := by
 have key : ∀ m k, 1 ≤ k → k + m = max n k → lp body (enc k) = some (match (List.range' k m).find? H with | none => r | some k => f k) := by
  intro m
  induction m with
  | zero =>
   intro k hk hm
   rw [lp_eq, h2 k hk (by omega)]
   rfl
  | succ m ih =>
   intro k hk hm
   rw [lp_eq, h1 k hk (by omega), List.range'_succ, List.find?_cons]
   by_cases h : H k = true
   ·rw [if_pos h, h]
   ·have h' : H k = false := by simpa using h
    rw [if_neg h, h']
    exact ih (k + 1) (by omega) (by omega)
 exact key (n - 1) 1 (Nat.le_refl _) (by omega)
theorem getD_at {L : List Nat} {k : Nat} (hk : k < L.length) : L[k]? = some (L.getD k 0) := by rw [List.getElem?_eq_getElem hk]; simp [hk]
theorem fol_loop {b : TLandBook} (ok : bookOk b = true) {L : List Nat} (hL : ∀ x ∈ L, x < b.Events.length) (hl : L.length ≤ 1000) (t u : Tb 64) (m : List (Int × Bool)) :
  lp (f34_b2 (castL L, u) b) (1, t, m) = some (match (List.range' 1 (L.length - 1)).find? fun k => !mayB b (hol b (L.getD (k - 1) 0)) (hol b (L.getD k 0)) with | none => (.inl (t, m) : (Tb 64 × List (Int × Bool)) ⊕ (List Int × Int × Int)) | some k => .inr (castL L, (k : Int), 0)) := by
 have h := lp_from (body := f34_b2 (castL L, u) b) L.length (fun k => !mayB b (hol b (L.getD (k - 1) 0)) (hol b (L.getD k 0))) (.inl (t, m) : (Tb 64 × List (Int × Bool)) ⊕ (List Int × Int × Int)) (fun k => .inr (castL L, (k : Int), 0)) (fun k => ((k : Int), t, m)) (fun k h1 h2 => ?_) (fun k h1 h2 => ?_)
 ·exact h
 ·have a1 := getD_at (L := L) (k := k) h2
  have a2 := getD_at (L := L) (k := k - 1) (by omega)
  obtain ⟨p, p1, p2, _, p4⟩ := event_at ok (hL _ (List.mem_of_getElem? a1))
  obtain ⟨q, q1, q2, _, q4⟩ := event_at ok (hL _ (List.mem_of_getElem? a2))
  unfold f34_b2
  rw [if_pos (by simp only [decide_eq_true_eq, cast_len]; omega)]
  have e73 := f86_eq ok p4 q4
  rw [pred_pos (by omega) (by omega)]
  simp only [cast_ix a1, cast_ix a2, p1, q1, p2, q2, e73, Option.bind_some, wrap_cnt (show k ≤ 1000 by omega)]
  cases mayB b (hol b (L.getD (k - 1) 0)) (hol b (L.getD k 0)) <;> rfl
 ·unfold f34_b2
  rw [if_neg (by simp only [decide_eq_true_eq, cast_len]; omega)]
noncomputable def lineV (b : TLandBook) (strip : Int) : List Int × Int × Int := match linP b strip b.Events.length with
 | some L => (castL L, folB b L, 0)
 | none => ([], 0, 8)
theorem f34_eq (b : TLandBook) (strip : Int) (h1 : b.People.length ≤ 1000) (h2 : b.Events.length ≤ 1000) (h3 : b.Memories.length ≤ 1000) : f34 b strip = some (if (bookOk b && inR strip 0 5) = true then (if agreeB b = true then lineV b strip else ([], 0, 7)) else ([], 0, 2)) := by
 obtain ⟨t', e1, e2⟩ := f81_eq b (inR strip 0 5) h1 h2 h3
 unfold f34
 rw [f83_eq, Option.bind_some, e1, Option.bind_some]
 by_cases hf : (bookOk b && inR strip 0 5) = true
 ·rw [if_pos hf, if_pos hf]
  have ok : bookOk b = true := by rw [Bool.and_eq_true] at hf; exact hf.1
  by_cases ha : agreeB b = true
  ·rw [if_pos ha, if_pos ha, if_neg (by simp)]
   have hl := line_loop ok ha (e2 ok) strip b.Events.length 0 [] (by omega) rfl
   have hl' : lp (f34_b0 b strip) ([], 0, t') = _ := hl
   rw [hl', Option.bind_some]
   unfold lineV
   cases hq : linP b strip b.Events.length with
   | none => rfl
   | some L =>
    obtain ⟨eL, _⟩ := lin_same ok ha strip (Nat.le_refl _) hq
    have hlen : L.length ≤ b.Events.length := by rw [eL]; exact linR_len b strip _
    have hin : ∀ x ∈ L, x < b.Events.length := fun x hx => by rw [eL] at hx; exact (mem_linR.1 hx).1
    show (lp (f34_b2 (castL L, t') b) (1, t', [])).bind _ = _
    rw [fol_loop ok hin (by omega) t' t' [], Option.bind_some]
    show _ = some (castL L, folB b L, 0)
    unfold folB
    cases (List.range' 1 (L.length - 1)).find? fun k => !mayB b (hol b (L.getD (k - 1) 0)) (hol b (L.getD k 0)) <;> rfl
  ·rw [if_neg ha, if_neg ha, if_pos (by decide)]
 ·rw [if_neg hf, if_neg hf, if_pos (by decide)]
/-! ### The document's line -/
theorem linR_succ (b : TLandBook) (strip : Int) (j : Nat) : linR b strip (j + 1) = if (stp b j != strip) = true then linR b strip j else insR b (linR b strip j) j := rfl
/-! ### Heirs -/
end Go.Proofs.YtncjnffbdhckdaaGreatDoor.La
