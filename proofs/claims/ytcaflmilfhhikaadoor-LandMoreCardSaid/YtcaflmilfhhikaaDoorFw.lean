/-
  Closest tables: the way through all places, one at a time, makes a table closed; closed tables are unique.
-/
import Derived.Test.YtcaflmilfhhikaaDoorPu
namespace Go.Proofs.YtcaflmilfhhikaaDoor
open Go.RowKit
set_option linter.unusedVariables false

abbrev Tab := Nat → Nat → Int
def setT (t : Tab) (i k : Nat) (v : Int) : Tab := fun a b => if a = i ∧ b = k then v else t a b
/-- 'closer'. -/
def clo (t : Tab) (i k : Nat) (m : Int) : Tab := if m < t i k then setT t i k m else t
def stepT (b i : Nat) (t : Tab) (k : Nat) : Tab := clo t i k (t i b + t b k)
def rowT (ps : List Nat) (b : Nat) (t : Tab) (i : Nat) : Tab := ps.foldl (stepT b i) t
def stageT (ps : List Nat) (t : Tab) (b : Nat) : Tab := ps.foldl (rowT ps b) t
def passT (ps : List Nat) (t : Tab) : Tab := ps.foldl (stageT ps) t
theorem clo_le (t : Tab) (i k : Nat) (m : Int) (a b : Nat) : clo t i k m a b ≤ t a b := by
  unfold clo
  split
  · show (if a = i ∧ b = k then m else t a b) ≤ t a b
    split
    · rename_i h1 h2; rw [h2.1, h2.2]; omega
    · exact Int.le_refl _
  · exact Int.le_refl _
theorem clo_other (t : Tab) (i k : Nat) (m : Int) {a b : Nat} (h : ¬ (a = i ∧ b = k)) : clo t i k m a b = t a b := by
  unfold clo
  split
  · show (if a = i ∧ b = k then m else t a b) = t a b
    rw [if_neg h]
  · rfl
theorem clo_self (t : Tab) (i k : Nat) (m : Int) : clo t i k m i k ≤ m ∧ (clo t i k m i k = t i k ∨ clo t i k m i k = m) := by
  unfold clo setT
  split
  · simp
  · rename_i h; exact ⟨by omega, .inl rfl⟩
theorem foldl_le {α : Type} {f : Tab → α → Tab} (hf : ∀ t x a b, f t x a b ≤ t a b) : ∀ (l : List α) (t : Tab) (a b : Nat), l.foldl f t a b ≤ t a b
  | [], t, a, b => Int.le_refl _
  | x :: l, t, a, b => by
    have h1 := foldl_le hf l (f t x) a b
    have h2 := hf t x a b
    rw [List.foldl_cons]; omega
theorem step_le (b i : Nat) (t : Tab) (k a c : Nat) : stepT b i t k a c ≤ t a c := clo_le _ _ _ _ _ _
theorem row_le (ps : List Nat) (b : Nat) (t : Tab) (i a c : Nat) : rowT ps b t i a c ≤ t a c := foldl_le (fun t k a c => step_le b i t k a c) _ _ _ _
theorem stage_le (ps : List Nat) (t : Tab) (b a c : Nat) : stageT ps t b a c ≤ t a c := foldl_le (fun t i a c => row_le ps b t i a c) _ _ _ _
theorem pass_le (ps : List Nat) (t : Tab) (a c : Nat) : passT ps t a c ≤ t a c := foldl_le (fun t b a c => stage_le ps t b a c) _ _ _ _
/-! ### Truths -/
def Feas (ps : List Nat) (t : Tab) (y : Nat → Int) : Prop := ∀ i ∈ ps, ∀ k ∈ ps, y k - y i ≤ t i k
theorem Feas.step {ps : List Nat} {t : Tab} {y : Nat → Int} (h : Feas ps t y) {b i k : Nat} (hb : b ∈ ps) (hi : i ∈ ps) (hk : k ∈ ps) : Feas ps (stepT b i t k) y := by
  intro a ha c hc
  unfold stepT
  by_cases e : a = i ∧ c = k
  · obtain ⟨rfl, rfl⟩ := e
    have h1 := h a ha b hb
    have h2 := h b hb c hc
    have h3 := h a ha c hc
    rcases (clo_self t a c (t a b + t b c)).2 with q | q <;> rw [q] <;> omega
  · rw [clo_other _ _ _ _ e]; exact h a ha c hc
theorem foldl_feas {ps : List Nat} {y : Nat → Int} {f : Tab → Nat → Tab} (hf : ∀ t x, x ∈ ps → Feas ps t y → Feas ps (f t x) y) : ∀ (l : List Nat) (t : Tab), (∀ x ∈ l, x ∈ ps) → Feas ps t y → Feas ps (l.foldl f t) y
  | [], t, _, h => h
  | x :: l, t, hl, h => foldl_feas hf l (f t x) (fun z hz => hl z (List.mem_cons_of_mem _ hz)) (hf t x (hl x (List.mem_cons_self ..)) h)
theorem Feas.pass {ps : List Nat} {t : Tab} {y : Nat → Int} (h : Feas ps t y) : Feas ps (passT ps t) y :=
  foldl_feas (fun t b hb h => foldl_feas (fun t i hi h => foldl_feas (fun t k hk h => h.step hb hi hk) ps t (fun _ h => h) h) ps t (fun _ h => h) h) ps t (fun _ h => h) h
theorem feas_pass {ps : List Nat} {t : Tab} {y : Nat → Int} : Feas ps (passT ps t) y ↔ Feas ps t y :=
  ⟨fun h i hi k hk => Int.le_trans (h i hi k hk) (pass_le ps t i k), Feas.pass⟩
/-! ### One stage -/
def mnT (t0 : Tab) (b : Nat) (i k : Nat) : Int := min (t0 i k) (t0 i b + t0 b k)
theorem mn_row {t0 : Tab} {b : Nat} (hb : 0 ≤ t0 b b) (k : Nat) : mnT t0 b b k = t0 b k := by unfold mnT; omega
theorem mn_col {t0 : Tab} {b : Nat} (hb : 0 ≤ t0 b b) (i : Nat) : mnT t0 b i b = t0 i b := by unfold mnT; omega
def Mid (t0 : Tab) (b : Nat) (t : Tab) : Prop := ∀ i k, mnT t0 b i k ≤ t i k ∧ t i k ≤ t0 i k
theorem Mid.step {t0 t : Tab} {b : Nat} (hb : 0 ≤ t0 b b) (h : Mid t0 b t) (i k : Nat) : Mid t0 b (stepT b i t k) ∧ stepT b i t k i k ≤ mnT t0 b i k := by
  have h1 := h i b
  have h2 := h b k
  have h3 := h i k
  rw [mn_col hb] at h1
  rw [mn_row hb] at h2
  have e : t i b + t b k = t0 i b + t0 b k := by omega
  constructor
  · intro a c
    have h4 := h a c
    by_cases q : a = i ∧ c = k
    · obtain ⟨rfl, rfl⟩ := q
      have := clo_self t a c (t a b + t b c)
      have h5 := clo_le t a c (t a b + t b c) a c
      unfold stepT
      unfold mnT at *
      omega
    · unfold stepT; rw [clo_other _ _ _ _ q]; exact h4
  · have := clo_self t i k (t i b + t b k)
    have h5 := clo_le t i k (t i b + t b k) i k
    unfold stepT mnT
    omega
theorem row_mid {t0 : Tab} {b : Nat} (hb : 0 ≤ t0 b b) (i : Nat) : ∀ (l : List Nat) (t : Tab), Mid t0 b t → Mid t0 b (l.foldl (stepT b i) t) ∧ ∀ k ∈ l, l.foldl (stepT b i) t i k ≤ mnT t0 b i k
  | [], t, h => ⟨h, fun _ h => by cases h⟩
  | x :: l, t, h => by
    obtain ⟨h1, h2⟩ := h.step hb i x
    obtain ⟨h3, h4⟩ := row_mid hb i l _ h1
    refine ⟨h3, fun k hk => ?_⟩
    rcases List.mem_cons.1 hk with rfl | hk
    · exact Int.le_trans (foldl_le (fun t k a c => step_le b i t k a c) l _ i k) h2
    · exact h4 k hk
theorem stage_mid {ps : List Nat} {t0 : Tab} {b : Nat} (hb : 0 ≤ t0 b b) : ∀ (l : List Nat) (t : Tab), Mid t0 b t → Mid t0 b (l.foldl (rowT ps b) t) ∧ ∀ i ∈ l, ∀ k ∈ ps, l.foldl (rowT ps b) t i k ≤ mnT t0 b i k
  | [], t, h => ⟨h, fun _ h => by cases h⟩
  | x :: l, t, h => by
    obtain ⟨h1, h2⟩ := row_mid hb x ps t h
    obtain ⟨h3, h4⟩ := stage_mid hb l _ h1
    refine ⟨h3, fun i hi k hk => ?_⟩
    rcases List.mem_cons.1 hi with rfl | hi
    · exact Int.le_trans (foldl_le (fun t i a c => row_le ps b t i a c) l _ i k) (h2 k hk)
    · exact h4 i hi k hk
theorem stage_eq {ps : List Nat} {t : Tab} {b : Nat} (hb : 0 ≤ t b b) {i k : Nat} (hi : i ∈ ps) (hk : k ∈ ps) : stageT ps t b i k = min (t i k) (t i b + t b k) := by
  have h0 : Mid t b t := fun i k => ⟨by unfold mnT; omega, Int.le_refl _⟩
  obtain ⟨h1, h2⟩ := stage_mid (ps := ps) hb ps t h0
  have h3 := (h1 i k).1
  have h4 := h2 i hi k hk
  unfold mnT at *
  unfold stageT
  omega
/-! ### Closed tables -/
def Clo (ps S : List Nat) (t : Tab) : Prop := ∀ j ∈ S, ∀ i ∈ ps, ∀ k ∈ ps, t i k ≤ t i j + t j k
def Diag (ps : List Nat) (t : Tab) : Prop := ∀ i ∈ ps, 0 ≤ t i i
theorem Clo.stage {ps S : List Nat} {t : Tab} {b : Nat} (hS : ∀ j ∈ S, j ∈ ps) (hb : b ∈ ps) (hd : Diag ps t) (h : Clo ps S t) : Clo ps (b :: S) (stageT ps t b) := by
  have hbb := hd b hb
  intro j hj i hi k hk
  have hjp : j ∈ ps := by rcases List.mem_cons.1 hj with rfl | hj; exact hb; exact hS j hj
  rw [stage_eq hbb hi hk, stage_eq hbb hi hjp, stage_eq hbb hjp hk]
  rcases List.mem_cons.1 hj with rfl | hj
  · omega
  · have h1 := h j hj i hi k hk
    have h2 := h j hj b hb k hk
    have h3 := h j hj i hi b hb
    have h4 := h j hj b hb b hb
    omega
theorem pass_clo {ps : List Nat} : ∀ (l S : List Nat) (t : Tab), (∀ j ∈ S, j ∈ ps) → (∀ j ∈ l, j ∈ ps) → Clo ps S t → Diag ps (l.foldl (stageT ps) t) → ∃ S', (∀ j ∈ l, j ∈ S') ∧ Clo ps S' (l.foldl (stageT ps) t) ∧ (∀ j ∈ S, j ∈ S')
  | [], S, t, _, _, h, _ => ⟨S, fun _ h => (by cases h), h, fun _ h => h⟩
  | b :: l, S, t, hS, hl, h, hd => by
    have hb := hl b (List.mem_cons_self ..)
    have hdt : Diag ps t := fun i hi => by
      have h1 := hd i hi
      have h2 := foldl_le (fun t b a c => stage_le ps t b a c) (b :: l) t i i
      omega
    obtain ⟨S', h1, h2, h3⟩ := pass_clo l (b :: S) (stageT ps t b) (fun j hj => by rcases List.mem_cons.1 hj with rfl | hj; exact hb; exact hS j hj) (fun j hj => hl j (List.mem_cons_of_mem _ hj)) (h.stage hS hb hdt) hd
    refine ⟨S', fun j hj => ?_, h2, fun j hj => h3 j (List.mem_cons_of_mem _ hj)⟩
    rcases List.mem_cons.1 hj with rfl | hj
    · exact h3 j (List.mem_cons_self ..)
    · exact h1 j hj
/-- One way through all places makes a table closed, unless something is before itself. -/
theorem pass_closed {ps : List Nat} {t : Tab} (hd : Diag ps (passT ps t)) : Clo ps ps (passT ps t) := by
  obtain ⟨S, h1, h2, _⟩ := pass_clo ps [] t (fun _ h => by cases h) (fun _ h => h) (fun _ h => by cases h) hd
  exact fun j hj => h2 j (h1 j hj)
/-- Then another way changes nothing. -/
theorem step_same {ps : List Nat} {t : Tab} (h : Clo ps ps t) {b i k : Nat} (hb : b ∈ ps) (hi : i ∈ ps) (hk : k ∈ ps) : stepT b i t k = t := by
  unfold stepT clo
  rw [if_neg (by have := h b hb i hi k hk; omega)]
theorem foldl_same {ps : List Nat} {t : Tab} {f : Tab → Nat → Tab} (hf : ∀ x ∈ ps, f t x = t) : ∀ (l : List Nat), (∀ x ∈ l, x ∈ ps) → l.foldl f t = t
  | [], _ => rfl
  | x :: l, h => by rw [List.foldl_cons, hf x (h x (List.mem_cons_self ..))]; exact foldl_same hf l fun z hz => h z (List.mem_cons_of_mem _ hz)
theorem pass_same {ps : List Nat} {t : Tab} (h : Clo ps ps t) : passT ps t = t :=
  foldl_same (ps := ps) (fun b hb => foldl_same (ps := ps) (fun i hi => foldl_same (ps := ps) (fun k hk => step_same h hb hi hk) ps fun _ h => h) ps fun _ h => h) ps fun _ h => h
/-- The rows of a closed table are truths. -/
theorem clo_feas {ps : List Nat} {t : Tab} (h : Clo ps ps t) {s : Nat} (hs : s ∈ ps) : Feas ps t (t s) := fun i hi k hk => by
  have := h i hi s hs k hk
  omega
theorem diag_zero {ps : List Nat} {t : Tab} (ht : ∀ i ∈ ps, t i i ≤ 0) (hd : Diag ps (passT ps t)) {i : Nat} (hi : i ∈ ps) : passT ps t i i = 0 := by
  have h1 := hd i hi
  have h2 := pass_le ps t i i
  have h3 := ht i hi
  omega
/-- Memories agree just if they are true in some years. -/
theorem diag_iff {ps : List Nat} {t : Tab} (hne : ps ≠ []) : Diag ps (passT ps t) ↔ ∃ y, Feas ps t y := by
  constructor
  · intro hd
    obtain ⟨s, hs⟩ := List.exists_mem_of_ne_nil ps hne
    exact ⟨passT ps t s, feas_pass.1 (clo_feas (pass_closed hd) hs)⟩
  · rintro ⟨y, hy⟩ i hi
    have := hy.pass i hi i hi
    omega
/-- Two tables with the same truths have the same closest tables; places may be named otherwise. -/
theorem pass_unique {ps qs : List Nat} {t u : Tab} {φ : Nat → Nat} (hφ : ps = qs.map φ) (ht : ∀ i ∈ ps, t i i ≤ 0) (hu : ∀ i ∈ qs, u i i ≤ 0)
    (h1 : ∀ y, Feas ps t y → Feas qs u fun i => y (φ i)) (h2 : ∀ z, Feas qs u z → ∃ y, Feas ps t y ∧ ∀ i ∈ qs, y (φ i) = z i) (hd : Diag ps (passT ps t)) : Diag qs (passT qs u) ∧ ∀ i ∈ qs, ∀ k ∈ qs, passT ps t (φ i) (φ k) = passT qs u i k := by
  have hm : ∀ i ∈ qs, φ i ∈ ps := fun i hi => by rw [hφ]; exact List.mem_map_of_mem hi
  have hdu : Diag qs (passT qs u) := by
    intro i hi
    have hf := h1 _ (feas_pass.1 (clo_feas (pass_closed hd) (hm i hi)))
    have := hf.pass i hi i hi
    omega
  refine ⟨hdu, fun i hi k hk => ?_⟩
  have a1 := (h1 _ (feas_pass.1 (clo_feas (pass_closed hd) (hm i hi)))).pass i hi k hk
  have a2 := diag_zero ht hd (hm i hi)
  obtain ⟨y, hy, hyz⟩ := h2 _ (feas_pass.1 (clo_feas (pass_closed hdu) hi))
  have b1 := hy.pass (φ i) (hm i hi) (φ k) (hm k hk)
  have b2 := diag_zero hu hdu hi
  rw [hyz i hi, hyz k hk] at b1
  omega
/-! ### How small numbers get on one way through -/
structure Low (b : Nat) (M : Int) (t : Tab) : Prop where
  bb : -(2 * M) ≤ t b b
  row : ∀ k, -(3 * M) ≤ t b k
  col : ∀ i, -(3 * M) ≤ t i b
  all : ∀ i k, -(6 * M) ≤ t i k
theorem Low.step {b : Nat} {M : Int} {t : Tab} (hM : 0 ≤ M) (h : Low b M t) {i k : Nat} (hv : -M ≤ t i k) : Low b M (stepT b i t k) ∧ -(6 * M) ≤ t i b + t b k := by
  have e1 := h.bb
  have e2 := h.row k
  have e3 := h.col i
  have hsum : -(6 * M) ≤ t i b + t b k := by omega
  have hs := clo_self t i k (t i b + t b k)
  refine ⟨⟨?_, fun k' => ?_, fun i' => ?_, fun i' k' => ?_⟩, hsum⟩
  · unfold stepT
    by_cases q : b = i ∧ b = k
    · obtain ⟨rfl, rfl⟩ := q; omega
    · rw [clo_other _ _ _ _ q]; exact e1
  · unfold stepT
    by_cases q : b = i ∧ k' = k
    · obtain ⟨rfl, rfl⟩ := q; omega
    · rw [clo_other _ _ _ _ q]; exact h.row k'
  · unfold stepT
    by_cases q : i' = i ∧ b = k
    · obtain ⟨rfl, rfl⟩ := q; omega
    · rw [clo_other _ _ _ _ q]; exact h.col i'
  · unfold stepT
    by_cases q : i' = i ∧ k' = k
    · obtain ⟨rfl, rfl⟩ := q; omega
    · rw [clo_other _ _ _ _ q]; exact h.all i' k'
theorem row_low {b i : Nat} {M : Int} (hM : 0 ≤ M) : ∀ (l : List Nat) (t : Tab), l.Nodup → Low b M t → (∀ k ∈ l, -M ≤ t i k) → Low b M (l.foldl (stepT b i) t) ∧ (∀ a, a ≠ i → ∀ c, l.foldl (stepT b i) t a c = t a c)
  | [], t, _, h, _ => ⟨h, fun _ _ _ => rfl⟩
  | x :: l, t, hn, h, hv => by
    rw [List.nodup_cons] at hn
    obtain ⟨h1, h2⟩ := row_low hM l (stepT b i t x) hn.2 (h.step hM (hv x (List.mem_cons_self ..))).1 (fun k hk => by
      unfold stepT
      rw [clo_other _ _ _ _ (by rintro ⟨_, rfl⟩; exact hn.1 hk)]
      exact hv k (List.mem_cons_of_mem _ hk))
    refine ⟨h1, fun a ha c => ?_⟩
    rw [List.foldl_cons, h2 a ha c]
    unfold stepT
    rw [clo_other _ _ _ _ (by rintro ⟨rfl, _⟩; exact ha rfl)]
theorem stage_low {ps : List Nat} {b : Nat} {M : Int} (hps : ps.Nodup) (hM : 0 ≤ M) : ∀ (l : List Nat) (t : Tab), l.Nodup → Low b M t → (∀ i ∈ l, ∀ k ∈ ps, -M ≤ t i k) → Low b M (l.foldl (rowT ps b) t)
  | [], t, _, h, _ => h
  | x :: l, t, hn, h, hv => by
    rw [List.nodup_cons] at hn
    obtain ⟨h1, h2⟩ := row_low (i := x) hM ps t hps h (hv x (List.mem_cons_self ..))
    exact stage_low hps hM l (rowT ps b t x) hn.2 h1 (fun i hi k hk => by
      show -M ≤ ps.foldl (stepT b x) t i k
      rw [h2 i (by rintro rfl; exact hn.1 hi) k]
      exact hv i (List.mem_cons_of_mem _ hi) k hk)
theorem stage_bound {ps : List Nat} (hps : ps.Nodup) {M : Int} (hM : 0 ≤ M) {t : Tab} (ht : ∀ i k, -M ≤ t i k) (b i k : Nat) : -(6 * M) ≤ stageT ps t b i k :=
  (stage_low hps hM ps t hps ⟨by have := ht b b; omega, fun k => by have := ht b k; omega, fun i => by have := ht i b; omega, fun i k => by have := ht i k; omega⟩ (fun i _ k _ => ht i k)).all i k
theorem pass_bound {ps : List Nat} (hps : ps.Nodup) : ∀ (l : List Nat) (M : Int) (t : Tab), 0 ≤ M → (∀ i k, -M ≤ t i k) → ∀ i k, -(6 ^ l.length * M) ≤ l.foldl (stageT ps) t i k
  | [], M, t, _, h, i, k => by simpa using h i k
  | b :: l, M, t, hM, h, i, k => by
    have := pass_bound hps l (6 * M) (stageT ps t b) (by omega) (fun i k => stage_bound hps hM h b i k) i k
    rw [List.foldl_cons, List.length_cons, Int.pow_succ, Int.mul_assoc]
    exact this
end Go.Proofs.YtcaflmilfhhikaaDoor
