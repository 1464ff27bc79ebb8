/-
  The document's table is the program's.
-/
import Derived.Test.YtcaflmilfhhikaaDoorYr
namespace Go.Proofs.YtcaflmilfhhikaaDoor
open Go.RowKit
set_option linter.unusedVariables false

/-- A loop that counts, with what holds at its head. -/
theorem lp_cnt {σ ρ τ : Type} {body : σ → Option (σ ⊕ ρ)} (n : Nat) (I : Nat → τ → Prop) (enc : Nat → τ → σ) (fin : τ → ρ)
    (h1 : ∀ k t, k < n → I k t → ∃ t', body (enc k t) = some (.inl (enc (k + 1) t')) ∧ I (k + 1) t') (h2 : ∀ t, I n t → body (enc n t) = some (.inr (fin t))) {t : τ} (h0 : I 0 t) : ∃ t', lp body (enc 0 t) = some (fin t') ∧ I n t' := by
  have key : ∀ m k t, k + m = n → I k t → ∃ t', lp body (enc k t) = some (fin t') ∧ I n t' := by
    intro m
    induction m with
    | zero =>
      intro k t hk hI
      have : k = n := by omega
      subst this
      exact ⟨t, by rw [lp_eq, h2 t hI], hI⟩
    | succ m ih =>
      intro k t hk hI
      obtain ⟨t1, e1, i1⟩ := h1 k t (by omega) hI
      obtain ⟨t2, e2, i2⟩ := ih (k + 1) t1 (by omega) i1
      exact ⟨t2, by rw [lp_eq, e1]; exact e2, i2⟩
  exact key n 0 t (by omega) h0
def Wf (m : Nat) (M : List (List Int)) : Prop := M.length = m ∧ ∀ r ∈ M, r.length = m
def matOf (M : List (List Int)) : Tab := fun a c => ((M[a]?.getD [])[c]?).getD 0
theorem mat_get {m : Nat} {M : List (List Int)} (h : Wf m M) {i k : Nat} (hi : i < m) (hk : k < m) : ∃ r, ix M (i : Int) = some r ∧ r.length = m ∧ ix r (k : Int) = some (matOf M i k) := by
  have hl : i < M.length := by rw [h.1]; exact hi
  have hr : (M[i]).length = m := h.2 _ (List.getElem_mem hl)
  refine ⟨M[i], by rw [ix_nat, List.getElem?_eq_getElem hl], hr, ?_⟩
  rw [ix_nat]
  unfold matOf
  rw [List.getElem?_eq_getElem hl, Option.getD_some, List.getElem?_eq_getElem (by rw [hr]; exact hk)]
  rfl
theorem mat_set {m : Nat} {M : List (List Int)} (h : Wf m M) {i k : Nat} (hi : i < m) (hk : k < m) {r : List Int} (hr : ix M (i : Int) = some r) (v : Int) : ∃ r' M', setIx r (k : Int) v = some r' ∧ setIx M (i : Int) r' = some M' ∧ Wf m M' ∧ matOf M' = setT (matOf M) i k v := by
  have hl : i < M.length := by rw [h.1]; exact hi
  have hr0 : M[i] = r := by rw [ix_nat, List.getElem?_eq_getElem hl] at hr; exact Option.some.inj hr
  have hrl : r.length = m := by rw [← hr0]; exact h.2 _ (List.getElem_mem hl)
  refine ⟨r.set k v, M.set i (r.set k v), ?_, ?_, ⟨by rw [List.length_set]; exact h.1, fun q hq => ?_⟩, ?_⟩
  · unfold setIx; rw [if_pos ⟨by omega, by rw [Int.toNat_natCast, hrl]; exact hk⟩]; rfl
  · unfold setIx; rw [if_pos ⟨by omega, by rw [Int.toNat_natCast]; exact hl⟩]; rfl
  · rcases List.mem_or_eq_of_mem_set hq with h1 | h1
    · exact h.2 q h1
    · subst h1; rw [List.length_set]; exact hrl
  · funext a c
    show (((M.set i (r.set k v))[a]?.getD [])[c]?).getD 0 = if a = i ∧ c = k then v else ((M[a]?.getD [])[c]?).getD 0
    by_cases ha : a = i
    · subst ha
      rw [List.getElem?_set_self hl, Option.getD_some, List.getElem?_eq_getElem hl, Option.getD_some, hr0]
      by_cases hc : c = k
      · subst hc
        rw [List.getElem?_set_self (by rw [hrl]; exact hk), if_pos ⟨rfl, rfl⟩]; rfl
      · rw [List.getElem?_set_ne (Ne.symm hc), if_neg (fun e => hc e.2)]
    · rw [List.getElem?_set_ne (Ne.symm ha), if_neg (fun e => ha e.1)]
theorem setT_min (t : Tab) (i k : Nat) (m : Int) : setT t i k (if m < t i k then m else t i k) = clo t i k m := by
  unfold clo
  by_cases h : m < t i k
  · rw [if_pos h, if_pos h]
  · rw [if_neg h, if_neg h]
    funext a c
    unfold setT
    split
    · rename_i e; rw [e.1, e.2]
    · rfl
theorem wrap_cnt {k : Nat} (h : k ≤ 1000) : IntKind.i64.wrap ((k : Int) + 1) = ((k + 1 : Nat) : Int) := by
  rw [IntKind.wrap_i64]; omega
/-! ### Closer and closer -/
section
variable (x0 : TLandBook) (hn : x0.Events.length ≤ 7)
include hn
theorem r5_loop {b i : Nat} {M0 : List (List Int)} (s79 s86 : List (List Int)) (hM : Wf (x0.Events.length + 1) M0) (hb : b < x0.Events.length + 1) (hi : i < x0.Events.length + 1)
    (hs : ∀ j, j ≤ x0.Events.length + 1 → Small ((List.range j).foldl (stepT b i) (matOf M0))) :
    ∃ M, lp (f61_b5 (s79, (b : Int)) (s86, (i : Int)) x0) (M0, 0) = some M ∧ Wf (x0.Events.length + 1) M ∧ matOf M = rowT (List.range (x0.Events.length + 1)) b (matOf M0) i := by
  have h := lp_cnt (body := f61_b5 (s79, (b : Int)) (s86, (i : Int)) x0) (x0.Events.length + 1) (fun k M => Wf (x0.Events.length + 1) M ∧ matOf M = (List.range k).foldl (stepT b i) (matOf M0)) (fun k M => (M, (k : Int))) id (fun k M hk ⟨hw, hm⟩ => ?_) (fun M _ => ?_) (t := M0) ⟨hM, rfl⟩
  · obtain ⟨M, h1, h2, h3⟩ := h
    exact ⟨M, h1, h2, h3⟩
  · obtain ⟨r, hr, hrl, hrk⟩ := mat_get hw hi hk
    obtain ⟨r1, hr1, _, hrb⟩ := mat_get hw hi hb
    rw [hr] at hr1; cases hr1
    obtain ⟨rb, hrb1, _, hrbk⟩ := mat_get hw hb hk
    have hsm := hs k (by omega)
    rw [← hm] at hsm
    obtain ⟨r', M', e1, e2, e3, e4⟩ := mat_set hw hi hk hr (if matOf M i b + matOf M b k < matOf M i k then matOf M i b + matOf M b k else matOf M i k)
    refine ⟨M', ?_, e3, ?_⟩
    · unfold f61_b5
      rw [if_pos (by simp only [decide_eq_true_eq]; omega)]
      simp only [hr, hrk, hrb, hrb1, hrbk, Option.bind_some, hsm.wrap, e1, e2, wrap_cnt (show k ≤ 1000 by omega)]
    · rw [e4, setT_min, List.range_succ, List.foldl_append, ← hm]
      rfl
  · unfold f61_b5
    rw [if_neg (by simp only [decide_eq_true_eq]; omega)]
    rfl
theorem r4_loop {b : Nat} {M0 : List (List Int)} (s79 : List (List Int)) (hM : Wf (x0.Events.length + 1) M0) (hb : b < x0.Events.length + 1)
    (hs : ∀ i, i < x0.Events.length + 1 → ∀ j, j ≤ x0.Events.length + 1 → Small ((List.range j).foldl (stepT b i) ((List.range i).foldl (rowT (List.range (x0.Events.length + 1)) b) (matOf M0)))) :
    ∃ M, lp (f61_b4 (s79, (b : Int)) x0) (M0, 0) = some M ∧ Wf (x0.Events.length + 1) M ∧ matOf M = stageT (List.range (x0.Events.length + 1)) (matOf M0) b := by
  have h := lp_cnt (body := f61_b4 (s79, (b : Int)) x0) (x0.Events.length + 1) (fun i M => Wf (x0.Events.length + 1) M ∧ matOf M = (List.range i).foldl (rowT (List.range (x0.Events.length + 1)) b) (matOf M0)) (fun k M => (M, (k : Int))) id (fun k M hk ⟨hw, hm⟩ => ?_) (fun M _ => ?_) (t := M0) ⟨hM, rfl⟩
  · obtain ⟨M, h1, h2, h3⟩ := h
    exact ⟨M, h1, h2, h3⟩
  · obtain ⟨M', e1, e2, e3⟩ := r5_loop x0 hn s79 M hw hb hk (fun j hj => by rw [hm]; exact hs k hk j hj)
    refine ⟨M', ?_, e2, ?_⟩
    · unfold f61_b4
      rw [if_pos (by simp only [decide_eq_true_eq]; omega)]
      simp only [e1, Option.bind_some, wrap_cnt (show k ≤ 1000 by omega)]
    · rw [e3, show List.range (k + 1) = List.range k ++ [k] from List.range_succ, List.foldl_append, ← hm]
      rfl
  · unfold f61_b4
    rw [if_neg (by simp only [decide_eq_true_eq]; omega)]
    rfl
theorem r3_loop {M0 : List (List Int)} (hM : Wf (x0.Events.length + 1) M0)
    (hs : ∀ b, b < x0.Events.length + 1 → ∀ i, i < x0.Events.length + 1 → ∀ j, j ≤ x0.Events.length + 1 → Small ((List.range j).foldl (stepT b i) ((List.range i).foldl (rowT (List.range (x0.Events.length + 1)) b) ((List.range b).foldl (stageT (List.range (x0.Events.length + 1))) (matOf M0))))) :
    ∃ M, lp (f61_b3 x0) (M0, 0) = some M ∧ Wf (x0.Events.length + 1) M ∧ matOf M = passT (List.range (x0.Events.length + 1)) (matOf M0) := by
  have h := lp_cnt (body := f61_b3 x0) (x0.Events.length + 1) (fun i M => Wf (x0.Events.length + 1) M ∧ matOf M = (List.range i).foldl (stageT (List.range (x0.Events.length + 1))) (matOf M0)) (fun k M => (M, (k : Int))) id (fun k M hk ⟨hw, hm⟩ => ?_) (fun M _ => ?_) (t := M0) ⟨hM, rfl⟩
  · obtain ⟨M, h1, h2, h3⟩ := h
    exact ⟨M, h1, h2, h3⟩
  · obtain ⟨M', e1, e2, e3⟩ := r4_loop x0 hn M hw hk (fun i hi j hj => by rw [hm]; exact hs k hk i hi j hj)
    refine ⟨M', ?_, e2, ?_⟩
    · unfold f61_b3
      rw [if_pos (by simp only [decide_eq_true_eq]; omega)]
      simp only [e1, Option.bind_some, wrap_cnt (show k ≤ 1000 by omega)]
    · rw [e3, show List.range (k + 1) = List.range k ++ [k] from List.range_succ, List.foldl_append, ← hm]
      rfl
  · unfold f61_b3
    rw [if_neg (by simp only [decide_eq_true_eq]; omega)]
    rfl
end
/-! ### The first table of the document -/
def memR (l : List TLandMemory) (T : Tab) : Tab := l.foldl (fun T m => clo (clo T m.From.toNat m.To.toNat m.Years.High) m.To.toNat m.From.toNat (-m.Years.Low)) T
theorem Bd.memR {T : Tab} (h : Bd T) : ∀ (l : List TLandMemory), (∀ m ∈ l, MemOk m) → Bd (memR l T) := by
  intro l
  induction l generalizing T with
  | nil => intro _; exact h
  | cons m l ih =>
    intro hm
    obtain ⟨_, _, h1, h2, h3⟩ := hm m (List.mem_cons_self ..)
    exact ih ((h.clo _ _ (by omega)).clo _ _ (by omega)) fun q hq => hm q (List.mem_cons_of_mem _ hq)
theorem Bd.small {T : Tab} (h : Bd T) : Small T := fun a c => by have := h a c; omega
theorem r2_loop (x0 : TLandBook) (hn : x0.Events.length ≤ 7) (hl : x0.Memories.length ≤ 1000) (hm : ∀ m ∈ x0.Memories, MemOk m) (hF : ∀ m ∈ x0.Memories, m.From.toNat < x0.Events.length ∧ m.To.toNat < x0.Events.length) {M0 : List (List Int)} (hM : Wf (x0.Events.length + 1) M0) :
    ∃ M, lp (f61_b2 x0) (M0, 0) = some M ∧ Wf (x0.Events.length + 1) M ∧ matOf M = memR x0.Memories (matOf M0) := by
  have h := lp_cnt (body := f61_b2 x0) x0.Memories.length (fun i M => Wf (x0.Events.length + 1) M ∧ matOf M = memR (x0.Memories.take i) (matOf M0)) (fun k M => (M, (k : Int))) id (fun k M hk ⟨hw, hmm⟩ => ?_) (fun M _ => ?_) (t := M0) ⟨hM, by simp [memR]⟩
  · obtain ⟨M, h1, h2, h3⟩ := h
    exact ⟨M, h1, h2, by rw [h3, List.take_length]⟩
  · have hmem := List.getElem_mem hk
    obtain ⟨⟨f1, f2⟩, ⟨g1, g2⟩, q1, q2, q3⟩ := hm _ hmem
    obtain ⟨c1, c2⟩ := hF _ hmem
    obtain ⟨m, hmdef⟩ : ∃ m, m = x0.Memories[k] := ⟨_, rfl⟩
    have hix : ix x0.Memories (k : Int) = some m := by rw [ix_nat, List.getElem?_eq_getElem hk, hmdef]
    rw [← hmdef] at f1 f2 g1 g2 q1 q2 q3 c1 c2
    have ef : m.From = ((m.From.toNat : Nat) : Int) := (Int.toNat_of_nonneg f1).symm
    have eg : m.To = ((m.To.toNat : Nat) : Int) := (Int.toNat_of_nonneg g1).symm
    obtain ⟨f, hf⟩ : ∃ f, f = m.From.toNat := ⟨_, rfl⟩
    obtain ⟨t, ht⟩ : ∃ t, t = m.To.toNat := ⟨_, rfl⟩
    rw [← hf] at ef c1
    rw [← ht] at eg c2
    have hfn : f < x0.Events.length + 1 := by omega
    have htn : t < x0.Events.length + 1 := by omega
    obtain ⟨r, hr, _, hrk⟩ := mat_get hw hfn htn
    obtain ⟨r', M1, e1, e2, e3, e4⟩ := mat_set hw hfn htn hr (if m.Years.High < matOf M f t then m.Years.High else matOf M f t)
    rw [setT_min] at e4
    obtain ⟨r2, hr2, _, hrk2⟩ := mat_get e3 htn hfn
    obtain ⟨r2', M2, d1, d2, d3, d4⟩ := mat_set e3 htn hfn hr2 (if -m.Years.Low < matOf M1 t f then -m.Years.Low else matOf M1 t f)
    rw [setT_min] at d4
    refine ⟨M2, ?_, d3, ?_⟩
    · unfold f61_b2
      have hneg : IntKind.i64.wrap (0 - m.Years.Low) = -m.Years.Low := by rw [IntKind.wrap_i64]; omega
      rw [if_pos (by simp only [decide_eq_true_eq]; omega)]
      simp only [hix, Option.bind_some, ef, eg, hr, hrk, e1, e2, hr2, hrk2, hneg, d1, d2, wrap_cnt (show k ≤ 1000 by omega)]
    · rw [d4, e4, hmm, List.take_add_one, List.getElem?_eq_getElem hk, ← hmdef]
      unfold memR
      rw [List.foldl_append]
      simp only [Option.toList_some, List.foldl_cons, List.foldl_nil, ← hf, ← ht]
  · unfold f61_b2
    rw [if_neg (by simp only [decide_eq_true_eq]; omega)]
    rfl
def farV (n i k : Nat) : Int := if i = k ∨ k = n then 0 else 1000
theorem r1_loop (x0 : TLandBook) (hn : x0.Events.length ≤ 7) (s8 : List (List Int)) (i : Nat) : lp (f61_b1 (s8, (i : Int)) x0) ([], 0) = some ((List.range (x0.Events.length + 1)).map fun k => farV x0.Events.length i k) := by
  have h := lp_cnt (body := f61_b1 (s8, (i : Int)) x0) (x0.Events.length + 1) (fun k (t : List Int) => t = (List.range k).map fun k => farV x0.Events.length i k) (fun k t => (t, (k : Int))) id (fun k t hk ht => ?_) (fun t ht => ?_) (t := []) rfl
  · obtain ⟨t, h1, h2⟩ := h
    exact h1.trans (congrArg some h2)
  · subst ht
    refine ⟨_, ?_, rfl⟩
    have ha : app ((List.range k).map fun k => farV x0.Events.length i k) [farV x0.Events.length i k] = some ((List.range (k + 1)).map fun k => farV x0.Events.length i k) := by
      unfold app
      rw [if_pos (by simp; omega), List.range_succ, List.map_append]; rfl
    unfold f61_b1
    rw [if_pos (by simp only [decide_eq_true_eq]; omega)]
    have hq : ((if ((i : Int) == (k : Int)) = true then (some true) else (some ((k : Int) == (x0.Events.length : Int))) : Option Bool).bind fun q24 => if q24 = true then (some 0) else (some 1000) : Option Int) = some (farV x0.Events.length i k) := by
      unfold farV
      by_cases h1 : i = k
      · subst h1; simp
      · have : ¬ ((i : Int) == (k : Int)) = true := by simp; omega
        rw [if_neg this]
        by_cases h2 : k = x0.Events.length
        · subst h2; simp
        · have h3 : ((k : Int) == (x0.Events.length : Int)) = false := by simp; omega
          simp only [h3, Option.bind_some, h1, h2]; rfl
    dsimp only
    rw [hq]
    simp only [Option.bind_some, ha, wrap_cnt (show k ≤ 1000 by omega)]
  · unfold f61_b1
    rw [if_neg (by simp only [decide_eq_true_eq]; omega)]
    rfl
def baseM (n : Nat) : List (List Int) := (List.range (n + 1)).map fun i => (List.range (n + 1)).map fun k => farV n i k
theorem r0_loop (x0 : TLandBook) (hn : x0.Events.length ≤ 7) : lp (f61_b0 x0) ([], 0) = some (baseM x0.Events.length) := by
  have h := lp_cnt (body := f61_b0 x0) (x0.Events.length + 1) (fun j (t : List (List Int)) => t = (List.range j).map fun i => (List.range (x0.Events.length + 1)).map fun k => farV x0.Events.length i k) (fun k t => (t, (k : Int))) id (fun k t hk ht => ?_) (fun t ht => ?_) (t := []) rfl
  · obtain ⟨t, h1, h2⟩ := h
    exact h1.trans (congrArg some h2)
  · subst ht
    refine ⟨_, ?_, rfl⟩
    have ha : app ((List.range k).map fun i => (List.range (x0.Events.length + 1)).map fun k => farV x0.Events.length i k) [(List.range (x0.Events.length + 1)).map fun q => farV x0.Events.length k q] = some ((List.range (k + 1)).map fun i => (List.range (x0.Events.length + 1)).map fun k => farV x0.Events.length i k) := by
      unfold app
      rw [if_pos (by simp; omega), show List.range (k + 1) = List.range k ++ [k] from List.range_succ, List.map_append]; rfl
    unfold f61_b0
    rw [if_pos (by simp only [decide_eq_true_eq]; omega)]
    simp only [r1_loop x0 hn, Option.bind_some, ha, wrap_cnt (show k ≤ 1000 by omega)]
  · unfold f61_b0
    rw [if_neg (by simp only [decide_eq_true_eq]; omega)]
    rfl
theorem base_wf (n : Nat) : Wf (n + 1) (baseM n) := by
  refine ⟨by simp [baseM], fun r hr => ?_⟩
  obtain ⟨i, _, rfl⟩ := List.mem_map.1 hr
  simp
theorem base_at {n i k : Nat} (hi : i < n + 1) (hk : k < n + 1) : matOf (baseM n) i k = farV n i k := by
  unfold matOf baseM
  rw [List.getElem?_map, List.getElem?_range hi, Option.map_some, Option.getD_some, List.getElem?_map, List.getElem?_range hk]
  rfl
theorem base_bd (n : Nat) : Bd (matOf (baseM n)) := by
  intro a c
  by_cases ha : a < n + 1
  · by_cases hc : c < n + 1
    · rw [base_at ha hc]
      unfold farV
      split <;> omega
    · have h0 : (baseM n)[a]? = some ((List.range (n + 1)).map fun k => farV n a k) := by
        unfold baseM
        rw [List.getElem?_map, List.getElem?_range ha]; rfl
      unfold matOf
      rw [h0, Option.getD_some, List.getElem?_eq_none (by simp; omega)]
      simp
  · have h0 : (baseM n)[a]? = none := List.getElem?_eq_none (by simp [baseM]; omega)
    unfold matOf
    rw [h0]
    simp
/-- The document's first table of a book. -/
def refT (b : TLandBook) : Tab := memR b.Memories (matOf (baseM b.Events.length))
theorem feas_memR {ps : List Nat} {y : Nat → Int} : ∀ (l : List TLandMemory) (T : Tab), (∀ m ∈ l, m.From.toNat ∈ ps ∧ m.To.toNat ∈ ps) → (Feas ps (memR l T) y ↔ Feas ps T y ∧ ∀ m ∈ l, MemT y m)
  | [], T, _ => by simp [memR]
  | m :: l, T, h => by
    obtain ⟨h1, h2⟩ := h m (List.mem_cons_self ..)
    have e : memR (m :: l) T = memR l (clo (clo T m.From.toNat m.To.toNat m.Years.High) m.To.toNat m.From.toNat (-m.Years.Low)) := rfl
    rw [e, feas_memR l _ fun q hq => h q (List.mem_cons_of_mem _ hq), feas_clo h2 h1, feas_clo h1 h2]
    constructor
    · rintro ⟨⟨⟨a, b⟩, c⟩, d⟩
      refine ⟨a, fun q hq => ?_⟩
      rcases List.mem_cons.1 hq with rfl | hq
      · unfold MemT; omega
      · exact d q hq
    · rintro ⟨a, b⟩
      have := b m (List.mem_cons_self ..)
      unfold MemT at this
      exact ⟨⟨⟨a, by omega⟩, by omega⟩, fun q hq => b q (List.mem_cons_of_mem _ hq)⟩
theorem feas_ref (b : TLandBook) (hF : ∀ m ∈ b.Memories, m.From.toNat < b.Events.length ∧ m.To.toNat < b.Events.length) (y : Nat → Int) :
    Feas (List.range (b.Events.length + 1)) (refT b) y ↔ (∀ e, e < b.Events.length → y b.Events.length ≤ y e ∧ y e ≤ y b.Events.length + 1000) ∧ ∀ m ∈ b.Memories, MemT y m := by
  have hr : ∀ e, e ∈ List.range (b.Events.length + 1) ↔ e < b.Events.length + 1 := fun e => List.mem_range
  unfold refT
  rw [feas_memR _ _ fun m hm => ⟨(hr _).2 (by have := (hF m hm).1; omega), (hr _).2 (by have := (hF m hm).2; omega)⟩]
  refine and_congr_left fun _ => ⟨fun h e he => ?_, fun h i hi k hk => ?_⟩
  · have h1 := h e ((hr _).2 (by omega)) b.Events.length ((hr _).2 (by omega))
    have h2 := h b.Events.length ((hr _).2 (by omega)) e ((hr _).2 (by omega))
    rw [base_at (by omega) (by omega)] at h1 h2
    unfold farV at h1 h2
    rw [if_pos (.inr rfl)] at h1
    rw [if_neg (by omega)] at h2
    omega
  · rw [base_at ((hr _).1 hi) ((hr _).1 hk)]
    have hi' := (hr _).1 hi
    have hk' := (hr _).1 hk
    have q : ∀ e, e < b.Events.length + 1 → y b.Events.length ≤ y e ∧ y e ≤ y b.Events.length + 1000 := fun e he => by
      by_cases h0 : e = b.Events.length
      · rw [h0]; omega
      · exact h e (by omega)
    have q1 := q i hi'
    have q2 := q k hk'
    unfold farV
    by_cases h0 : i = k
    · rw [if_pos (.inl h0), h0]; omega
    · by_cases h1 : k = b.Events.length
      · rw [if_pos (.inr h1), h1]; omega
      · rw [if_neg (by omega)]; omega
theorem ref_diag (b : TLandBook) : ∀ i ∈ List.range (b.Events.length + 1), refT b i i ≤ 0 := fun i hi => by
  have h1 : ∀ (l : List TLandMemory) (T : Tab), memR l T i i ≤ T i i := by
    intro l
    induction l with
    | nil => intro T; exact Int.le_refl _
    | cons m l ih =>
      intro T
      refine Int.le_trans (ih _) (Int.le_trans (clo_le _ _ _ _ _ _) (clo_le _ _ _ _ _ _))
  have := h1 b.Memories (matOf (baseM b.Events.length))
  rw [base_at (List.mem_range.1 hi) (List.mem_range.1 hi)] at this
  unfold farV at this
  rw [if_pos (.inl rfl)] at this
  exact this
theorem f61_eq (b : TLandBook) (h : bookOk b = true) : ∃ M, f61 b = some M ∧ Wf (b.Events.length + 1) M ∧ matOf M = passT (List.range (b.Events.length + 1)) (refT b) := by
  obtain ⟨_, ⟨_, hn⟩, hl, hm, hF⟩ := book_parts h
  obtain ⟨M1, a1, a2, a3⟩ := r2_loop b hn (by omega) hm hF (base_wf b.Events.length)
  have hbd : Bd (matOf M1) := by rw [a3]; exact (base_bd _).memR _ hm
  have hfit := (fits_small (List.nodup_range (n := b.Events.length + 1)) (by simp; omega) hbd).1
  obtain ⟨M2, b1, b2, b3⟩ := r3_loop b hn a2 (fun q hq i hi j hj => by
    have := hfit q q (List.getElem?_range hq) i i (List.getElem?_range hi) j (by simpa using hj)
    rw [List.take_range, List.take_range, List.take_range, Nat.min_eq_left hj, Nat.min_eq_left (by omega), Nat.min_eq_left (by omega)] at this
    exact this)
  refine ⟨M2, ?_, b2, by rw [b3, a3]; rfl⟩
  unfold f61
  rw [r0_loop b hn]
  simp only [Option.bind_some, a1, b1]
/-- The place that the program gives to an event, or to the year 0. -/
def plc (n i : Nat) : Nat := if i = n then 7 else i
theorem plc_ev {n i : Nat} (h : i < n) : plc n i = i := by unfold plc; rw [if_neg (by omega)]
theorem plc_n (n : Nat) : plc n n = 7 := by unfold plc; rw [if_pos rfl]
theorem plc_map {n : Nat} : placesL n = (List.range (n + 1)).map (plc n) := by
  unfold placesL
  rw [List.range_succ, List.map_append]
  have : (List.range n).map (plc n) = List.range n := by
    conv => rhs; rw [← List.map_id (List.range n)]
    refine List.map_congr_left fun i hi => ?_
    have := List.mem_range.1 hi
    unfold plc
    rw [if_neg (by omega)]; rfl
  rw [this]
  simp [plc]
theorem first_diag (b : TLandBook) (h : bookOk b = true) : ∀ i ∈ placesL b.Events.length, firstT b (bitI ((2 ^ b.Memories.length - 1 : Nat) : Int)) i i ≤ 0 := fun i hi => by
  obtain ⟨_, ⟨_, hn⟩, hl, hm, hF⟩ := book_parts h
  have h1 : ∀ (hb : Nat → Bool) (l : List TLandMemory) (k : Nat) (T : Tab), memF hb k l T i i ≤ T i i := by
    intro hb l
    induction l with
    | nil => intro k T; exact Int.le_refl _
    | cons m l ih =>
      intro k T
      unfold memF
      refine Int.le_trans (ih _ _) ?_
      split
      · exact Int.le_trans (clo_le _ _ _ _ _ _) (clo_le _ _ _ _ _ _)
      · exact Int.le_refl _
  have h2 : ∀ (l : List Nat) (T : Tab), l.foldl (fun T e => clo (clo T 7 e 1000) e 7 0) T i i ≤ T i i := by
    intro l T
    exact foldl_le (fun t x a c => Int.le_trans (clo_le _ _ _ _ _ _) (clo_le _ _ _ _ _ _)) _ _ _ _
  have h3 := base_val (places_lt hn i hi) (places_lt hn i hi)
  rw [if_pos rfl] at h3
  have := h1 (bitI ((2 ^ b.Memories.length - 1 : Nat) : Int)) b.Memories 0 ((List.range' 0 b.Events.length).foldl (fun T e => clo (clo T 7 e 1000) e 7 0) baseT)
  have h4 := h2 (List.range' 0 b.Events.length) baseT
  unfold firstT
  have e : (List.range' 0 8).foldl rowsI (tabOf (Tb.zero 64)) = baseT := rfl
  rw [e]
  omega
/-- Both tables have the same truths. -/
theorem tables_same (b : TLandBook) (h : bookOk b = true) : (agreeB b = true ↔ Diag (List.range (b.Events.length + 1)) (passT (List.range (b.Events.length + 1)) (refT b))) ∧
    (agreeB b = true → ∀ i, i ≤ b.Events.length → ∀ k, k ≤ b.Events.length → tabAll b (plc b.Events.length i) (plc b.Events.length k) = passT (List.range (b.Events.length + 1)) (refT b) i k) := by
  obtain ⟨_, ⟨_, hn⟩, hl, hm, hF⟩ := book_parts h
  obtain ⟨n, hnn⟩ : ∃ n, n = b.Events.length := ⟨_, rfl⟩
  have hall : ∀ j m, b.Memories[j]? = some m → bitI ((2 ^ b.Memories.length - 1 : Nat) : Int) j = true := fun j m hj => all_bits hl (get_lt hj)
  have h1 : ∀ y, Feas (placesL b.Events.length) (firstT b (bitI ((2 ^ b.Memories.length - 1 : Nat) : Int))) y → Feas (List.range (b.Events.length + 1)) (refT b) fun i => y (plc b.Events.length i) := fun y hy => by
    obtain ⟨p1, p2⟩ := (feas_first b _ hn hF y).1 hy
    refine (feas_ref b hF _).2 ⟨fun e he => ?_, fun m hmm => ?_⟩
    · have := p1 e he
      show y (plc _ _) ≤ y (plc _ _) ∧ _
      unfold plc
      rw [if_pos rfl, if_neg (by omega)]
      omega
    · obtain ⟨j, hj⟩ := List.getElem?_of_mem hmm
      have h2 := p2 j m hj (hall j m hj)
      obtain ⟨c1, c2⟩ := hF m hmm
      unfold MemT at *
      show m.Years.Low ≤ y (plc b.Events.length m.To.toNat) - y (plc b.Events.length m.From.toNat) ∧ y (plc b.Events.length m.To.toNat) - y (plc b.Events.length m.From.toNat) ≤ m.Years.High
      rw [plc_ev c2, plc_ev c1]
      exact h2
  have h2 : ∀ z, Feas (List.range (b.Events.length + 1)) (refT b) z → ∃ y, Feas (placesL b.Events.length) (firstT b (bitI ((2 ^ b.Memories.length - 1 : Nat) : Int))) y ∧ ∀ i ∈ List.range (b.Events.length + 1), y (plc b.Events.length i) = z i := fun z hz => by
    obtain ⟨p1, p2⟩ := (feas_ref b hF z).1 hz
    refine ⟨fun e => if e = 7 then z b.Events.length else z e, (feas_first b _ hn hF _).2 ⟨fun e he => ?_, fun j m hj _ => ?_⟩, fun i hi => ?_⟩
    · have := p1 e he
      rw [if_pos rfl, if_neg (show ¬ e = 7 by omega)]
      exact this
    · have h3 := p2 m (List.mem_of_getElem? hj)
      obtain ⟨c1, c2⟩ := hF m (List.mem_of_getElem? hj)
      unfold MemT at *
      show m.Years.Low ≤ (if m.To.toNat = 7 then _ else z m.To.toNat) - (if m.From.toNat = 7 then _ else z m.From.toNat) ∧ (if m.To.toNat = 7 then _ else z m.To.toNat) - (if m.From.toNat = 7 then _ else z m.From.toNat) ≤ _
      rw [if_neg (show ¬ m.To.toNat = 7 by omega), if_neg (show ¬ m.From.toNat = 7 by omega)]
      exact h3
    · have := List.mem_range.1 hi
      show (if plc b.Events.length i = 7 then z b.Events.length else z (plc b.Events.length i)) = z i
      unfold plc
      by_cases h0 : i = b.Events.length
      · rw [if_pos h0, if_pos rfl, h0]
      · rw [if_neg h0, if_neg (by omega)]
  have hu := fun hd => pass_unique (t := firstT b (bitI ((2 ^ b.Memories.length - 1 : Nat) : Int))) (u := refT b) plc_map (first_diag b h) (ref_diag b) h1 h2 hd
  refine ⟨⟨fun ha => (hu (diagB_iff.1 ha)).1, fun hd => ?_⟩, fun ha i hi k hk => (hu (diagB_iff.1 ha)).2 i (List.mem_range.2 (by omega)) k (List.mem_range.2 (by omega))⟩
  obtain ⟨z, hz⟩ := (diag_iff (by simp)).1 hd
  obtain ⟨y, hy, _⟩ := h2 z hz
  exact diagB_iff.2 ((diag_iff (by unfold placesL; simp)).2 ⟨y, hy⟩)
/-! ### What the document tells by its table -/
theorem f19_eq (b : TLandBook) (h : bookOk b = true) : f19 b = some (agreeB b) := by
  obtain ⟨_, ⟨_, hn⟩, hl, hm, hF⟩ := book_parts h
  obtain ⟨M, h1, h2, h3⟩ := f61_eq b h
  unfold f19
  rw [h1, Option.bind_some]
  have hlp := lp_all (body := f19_b0 M) M (fun k _ => decide (0 ≤ matOf M k k)) (Sum.inr false : Unit ⊕ Bool) (Sum.inl ()) (fun k => (k : Int)) (fun k r hr => by
    have hk := get_lt hr
    rw [h2.1] at hk
    obtain ⟨r1, e1, _, e2⟩ := mat_get h2 hk hk
    unfold f19_b0
    rw [if_pos (by simp only [decide_eq_true_eq, h2.1]; omega), e1, Option.bind_some, e2, Option.bind_some]
    by_cases h0 : 0 ≤ matOf M k k
    · rw [if_neg (by simp; omega), if_pos (by simpa using h0), wrap_cnt (by omega)]
    · rw [if_pos (by simp; omega), if_neg (by simpa using h0)]) (by unfold f19_b0; rw [if_neg (by simp)])
  rw [show (0 : Int) = ((0 : Nat) : Int) from rfl, hlp, Option.bind_some]
  have key : allI (fun k _ => decide (0 ≤ matOf M k k)) 0 M = agreeB b := by
    rw [Bool.eq_iff_iff, (tables_same b h).1, allI_iff, ← h3]
    constructor
    · intro hq i hi
      have hi' := List.mem_range.1 hi
      have := hq i (M[i]'(by rw [h2.1]; exact hi')) (List.getElem?_eq_getElem _)
      simpa using this
    · intro hq j r hr
      have hj := get_lt hr
      rw [h2.1] at hj
      simpa using hq j (List.mem_range.2 hj)
  rw [key]
  cases agreeB b <;> rfl
theorem tab_at {b : TLandBook} {M : List (List Int)} (h : bookOk b = true) (ha : agreeB b = true) (h2 : Wf (b.Events.length + 1) M) (h3 : matOf M = passT (List.range (b.Events.length + 1)) (refT b)) {i k : Nat} (hi : i ≤ b.Events.length) (hk : k ≤ b.Events.length) : ∃ r, ix M (i : Int) = some r ∧ ix r (k : Int) = some (tabAll b (plc b.Events.length i) (plc b.Events.length k)) := by
  obtain ⟨r, e1, _, e2⟩ := mat_get h2 (i := i) (k := k) (by omega) (by omega)
  rw [(tables_same b h).2 ha i hi k hk, ← h3]
  exact ⟨r, e1, e2⟩
theorem small_neg {b : TLandBook} (h : bookOk b = true) (i k : Nat) : IntKind.i64.wrap (0 - tabAll b i k) = -tabAll b i k := by
  have := tab_small h i k
  rw [IntKind.wrap_i64]; omega
theorem f46_eq (b : TLandBook) (h : bookOk b = true) (ha : agreeB b = true) {i k : Nat} (hi : i < b.Events.length) (hk : k < b.Events.length) : f46 b (i : Int) (k : Int) = some ⟨-tabAll b k i, tabAll b i k⟩ := by
  obtain ⟨M, h1, h2, h3⟩ := f61_eq b h
  obtain ⟨r1, a1, a2⟩ := tab_at h ha h2 h3 (i := k) (k := i) (by omega) (by omega)
  obtain ⟨r2, c1, c2⟩ := tab_at h ha h2 h3 (i := i) (k := k) (by omega) (by omega)
  rw [plc_ev hi, plc_ev hk] at a2 c2
  unfold f46
  simp only [h1, Option.bind_some, a1, a2, c1, c2, small_neg h]
theorem f44_eq (b : TLandBook) (h : bookOk b = true) (ha : agreeB b = true) : f44 b = some (yearsL b) := by
  obtain ⟨_, ⟨_, hn⟩, hl, hm, hF⟩ := book_parts h
  obtain ⟨M, h1, h2, h3⟩ := f61_eq b h
  unfold f44
  rw [h1, Option.bind_some]
  obtain ⟨t, e1, e2⟩ := lp_cnt (body := f44_b0 b M) b.Events.length (fun k (t : List TSpan) => t = (List.range k).map fun e => (⟨-tabAll b e 7, tabAll b 7 e⟩ : TSpan)) (fun k t => (t, (k : Int))) id (fun k t hk ht => by
    subst ht
    obtain ⟨r1, a1, a2⟩ := tab_at h ha h2 h3 (i := k) (k := b.Events.length) (by omega) (by omega)
    obtain ⟨r2, c1, c2⟩ := tab_at h ha h2 h3 (i := b.Events.length) (k := k) (by omega) (by omega)
    rw [plc_ev hk, plc_n] at a2 c2
    refine ⟨_, ?_, rfl⟩
    have hap : app ((List.range k).map fun e => (⟨-tabAll b e 7, tabAll b 7 e⟩ : TSpan)) [⟨-tabAll b k 7, tabAll b 7 k⟩] = some ((List.range (k + 1)).map fun e => (⟨-tabAll b e 7, tabAll b 7 e⟩ : TSpan)) := by
      unfold app
      rw [if_pos (by simp; omega), List.range_succ, List.map_append]; rfl
    unfold f44_b0
    rw [if_pos (by simp only [decide_eq_true_eq]; omega)]
    simp only [a1, a2, c1, c2, small_neg h, Option.bind_some, hap, wrap_cnt (show k ≤ 1000 by omega)]) (fun t ht => by unfold f44_b0; rw [if_neg (by simp)]; rfl) (t := []) rfl
  have e1' : lp (f44_b0 b M) ([], 0) = some t := e1
  rw [e1', Option.bind_some, e2]
  rfl
theorem f32_eq (b : TLandBook) (h : bookOk b = true) (ha : agreeB b = true) : f32 b = some (earlyL b) := by
  obtain ⟨_, ⟨_, hn⟩, hl, hm, hF⟩ := book_parts h
  unfold f32
  rw [f44_eq b h ha, Option.bind_some]
  obtain ⟨t, e1, e2⟩ := lp_cnt (body := f32_b0 (yearsL b)) b.Events.length (fun k (t : List Int) => t = (List.range k).map fun e => -tabAll b e 7) (fun k t => (t, (k : Int))) id (fun k t hk ht => by
    subst ht
    refine ⟨_, ?_, rfl⟩
    have hap : app ((List.range k).map fun e => -tabAll b e 7) [-tabAll b k 7] = some ((List.range (k + 1)).map fun e => -tabAll b e 7) := by
      unfold app
      rw [if_pos (by simp; omega), List.range_succ, List.map_append]; rfl
    have hix : ix (yearsL b) (k : Int) = some ⟨-tabAll b k 7, tabAll b 7 k⟩ := by
      unfold yearsL
      rw [ix_nat, List.getElem?_map, List.getElem?_range hk]; rfl
    unfold f32_b0
    rw [if_pos (by simp only [decide_eq_true_eq, yearsL, List.length_map, List.length_range]; omega)]
    simp only [hix, Option.bind_some, hap, wrap_cnt (show k ≤ 1000 by omega)]) (fun t ht => by unfold f32_b0; rw [if_neg (by simp [yearsL])]; rfl) (t := []) rfl
  have e1' : lp (f32_b0 (yearsL b)) ([], 0) = some t := e1
  rw [e1', Option.bind_some, e2]
  rfl
end Go.Proofs.YtcaflmilfhhikaaDoor
