/-
  The program's table as a function of two places.
-/
import Derived.Test.YtcaflmilfhhikaaDoorFw
import Derived.Test.YtcaflmilfhhikaaDoorFn
namespace Go.Proofs.YtcaflmilfhhikaaDoor
open Go.RowKit
set_option linter.unusedVariables false

def tabOf (t : Tb 64) : Tab := fun a c => if a < 8 ∧ c < 8 then tget t (0 + a * 8 + c * 1) else 0
theorem tab_get (t : Tb 64) {a c : Nat} (ha : a < 8) (hc : c < 8) : tget t (0 + a * 8 + c * 1) = tabOf t a c := by
  unfold tabOf; rw [if_pos ⟨ha, hc⟩]
theorem tget_set (t : Tb 64) {j q : Nat} (hj : j < 64) (v : Int) : tget (tset t j v) q = if q = j then v else tget t q := by
  have hl := t.2
  unfold tget tset
  simp only [List.getD_eq_getElem?_getD, List.getElem?_set]
  by_cases h : j = q
  · subst h
    rw [if_pos rfl, if_pos rfl, if_pos (by omega)]; rfl
  · rw [if_neg h, if_neg (fun e => h e.symm)]
theorem tab_set (t : Tb 64) {i k : Nat} (hi : i < 8) (hk : k < 8) (v : Int) : tabOf (tset t (0 + i * 8 + k * 1) v) = setT (tabOf t) i k v := by
  funext a c
  unfold setT tabOf
  by_cases h : a < 8 ∧ c < 8
  · rw [if_pos h, tget_set t (by omega)]
    by_cases e : a = i ∧ c = k
    · rw [if_pos e, if_pos (by rw [e.1, e.2])]
    · rw [if_neg e, if_neg (by omega), if_pos h]
  · rw [if_neg h, if_neg (by rintro ⟨rfl, rfl⟩; exact h ⟨hi, hk⟩), if_neg h]
/-- A round of the innermost loop: one step. -/
theorem b8_round {ps : List Nat} {b i : Nat} (hb : b < 8) (hi : i < 8) {q k : Nat} (hq : ps[q]? = some k) (hk : k < 8) (hl : ps.length ≤ 100) (t u : Tb 64) (ch : Bool)
    (hw : IntKind.i64.wrap (tabOf t i b + tabOf t b k) = tabOf t i b + tabOf t b k) : ∃ ch' t', f79_b8 (ps.map fun p : Nat => (p : Int)) (b : Int) (i : Int) (ch, (q : Int), t, u) = some (.inl (ch', ((q + 1 : Nat) : Int), t', u)) ∧ tabOf t' = stepT b i (tabOf t) k ∧ (ch' = false ↔ ch = false ∧ tabOf t i k ≤ tabOf t i b + tabOf t b k) := by
  have hlt : q < ps.length := (List.getElem?_eq_some_iff.1 hq).1
  have hx : ix (ps.map fun p : Nat => (p : Int)) (q : Int) = some (k : Int) := by
    simp [ix, hq]
  have hq1 : IntKind.i64.wrap ((q : Int) + 1) = ((q + 1 : Nat) : Int) := by
    rw [IntKind.wrap_i64]; omega
  unfold f79_b8
  rw [if_pos (by simp only [decide_eq_true_eq, List.length_map]; omega)]
  simp only [hx, Option.bind_some, ckI_nat hb, ckI_nat hi, ckI_nat hk, tab_get t hi hb, tab_get t hb hk, tab_get t hi hk, hw, hq1]
  by_cases h : tabOf t i k ≤ tabOf t i b + tabOf t b k
  · refine ⟨ch, t, by simp [h], ?_, by simp [h]⟩
    unfold stepT clo
    rw [if_neg (by omega)]
  · refine ⟨true, tset t (0 + i * 8 + k * 1) (tabOf t i b + tabOf t b k), by simp [h], ?_, by simp [h]⟩
    rw [tab_set t hi hk]
    unfold stepT clo
    rw [if_pos (by omega)]
def Small (t : Tab) : Prop := ∀ a c, -1000000000000000 ≤ t a c ∧ t a c ≤ 1000000000000000
theorem Small.wrap {t : Tab} (h : Small t) (a b c d : Nat) : IntKind.i64.wrap (t a b + t c d) = t a b + t c d := by
  have h1 := h a b
  have h2 := h c d
  rw [IntKind.wrap_i64]; omega
/-- The innermost loop. -/
theorem b8_loop {ps : List Nat} {b i : Nat} (hb : b < 8) (hi : i < 8) (hps : ∀ k ∈ ps, k < 8) (hl : ps.length ≤ 100) (u : Tb 64) : ∀ (l : List Nat) (q : Nat) (t : Tb 64) (ch : Bool), ps.drop q = l → (∀ m, m ≤ l.length → Small ((l.take m).foldl (stepT b i) (tabOf t))) →
    ∃ ch' t', lp (f79_b8 (ps.map fun p : Nat => (p : Int)) (b : Int) (i : Int)) (ch, (q : Int), t, u) = some (ch', t', u) ∧ tabOf t' = l.foldl (stepT b i) (tabOf t) ∧ ((∀ k ∈ l, tabOf t i k ≤ tabOf t i b + tabOf t b k) → ch' = ch)
  | [], q, t, ch, hd, _ => by
    refine ⟨ch, t, ?_, rfl, fun _ => rfl⟩
    rw [lp_eq]
    have hq : ps.length ≤ q := by have := List.drop_eq_nil_iff.1 hd; exact this
    have e : f79_b8 (ps.map fun p : Nat => (p : Int)) (b : Int) (i : Int) (ch, (q : Int), t, u) = some (.inr (ch, t, u)) := by
      unfold f79_b8
      rw [if_neg (by simp only [decide_eq_true_eq, List.length_map]; omega)]
    rw [e]
  | k :: l, q, t, ch, hd, hs => by
    have hq : ps[q]? = some k := by
      have := congrArg (fun z => z[0]?) hd
      simpa using this
    have hk : k < 8 := hps k (List.mem_of_getElem? hq)
    have hd' : ps.drop (q + 1) = l := by
      have := congrArg List.tail hd
      simpa using this
    have h0 : Small (tabOf t) := hs 0 (Nat.zero_le _)
    obtain ⟨c1, t1, e1, e2, e3⟩ := b8_round hb hi hq hk hl t u ch (h0.wrap i b b k)
    obtain ⟨c2, t2, g1, g2, g3⟩ := b8_loop hb hi hps hl u l (q + 1) t1 c1 hd' (fun m hm => by
      have := hs (m + 1) (by simp; omega)
      rw [List.take_succ_cons, List.foldl_cons, ← e2] at this
      exact this)
    refine ⟨c2, t2, ?_, ?_, fun hc => ?_⟩
    · rw [lp_eq, e1]; exact g1
    · rw [g2, e2]; rfl
    · have hk0 := hc k (List.mem_cons_self ..)
      have hst : tabOf t1 = tabOf t := by
        rw [e2]
        unfold stepT clo
        rw [if_neg (by omega)]
      have h1 : c1 = ch := by
        cases hch : ch with
        | false => exact e3.2 ⟨hch, hk0⟩
        | true =>
          cases hc1 : c1 with
          | true => rfl
          | false => have := (e3.1 hc1).1; rw [hch] at this; cases this
      rw [g3 (fun k' hk' => by rw [hst]; exact hc k' (List.mem_cons_of_mem _ hk')), h1]
/-- The loop around it. -/
theorem b7_loop {ps : List Nat} {b : Nat} (hb : b < 8) (hps : ∀ k ∈ ps, k < 8) (hl : ps.length ≤ 100) (u : Tb 64) : ∀ (l : List Nat) (q : Nat) (t : Tb 64) (ch : Bool), ps.drop q = l → (∀ m i, l[m]? = some i → ∀ j, j ≤ ps.length → Small ((ps.take j).foldl (stepT b i) ((l.take m).foldl (rowT ps b) (tabOf t)))) →
    ∃ ch' t', lp (f79_b7 (ps.map fun p : Nat => (p : Int)) (b : Int)) (ch, (q : Int), t, u) = some (ch', t', u) ∧ tabOf t' = l.foldl (rowT ps b) (tabOf t) ∧ ((∀ i ∈ l, ∀ k ∈ ps, tabOf t i k ≤ tabOf t i b + tabOf t b k) → ch' = ch)
  | [], q, t, ch, hd, _ => by
    refine ⟨ch, t, ?_, rfl, fun _ => rfl⟩
    rw [lp_eq]
    have hq : ps.length ≤ q := by have := List.drop_eq_nil_iff.1 hd; exact this
    have e : f79_b7 (ps.map fun p : Nat => (p : Int)) (b : Int) (ch, (q : Int), t, u) = some (.inr (ch, t, u)) := by
      unfold f79_b7
      rw [if_neg (by simp only [decide_eq_true_eq, List.length_map]; omega)]
    rw [e]
  | i :: l, q, t, ch, hd, hs => by
    have hq : ps[q]? = some i := by
      have := congrArg (fun z => z[0]?) hd
      simpa using this
    have hi : i < 8 := hps i (List.mem_of_getElem? hq)
    have hlt : q < ps.length := (List.getElem?_eq_some_iff.1 hq).1
    have hd' : ps.drop (q + 1) = l := by
      have := congrArg List.tail hd
      simpa using this
    have hx : ix (ps.map fun p : Nat => (p : Int)) (q : Int) = some (i : Int) := by
      simp [ix, hq]
    have hq1 : IntKind.i64.wrap ((q : Int) + 1) = ((q + 1 : Nat) : Int) := by
      rw [IntKind.wrap_i64]; omega
    obtain ⟨c1, t1, e1, e2, e3⟩ := b8_loop hb hi hps hl u ps 0 t ch rfl (fun m hm => hs 0 i rfl m hm)
    have e0 : f79_b7 (ps.map fun p : Nat => (p : Int)) (b : Int) (ch, (q : Int), t, u) = some (.inl (c1, ((q + 1 : Nat) : Int), t1, u)) := by
      unfold f79_b7
      rw [if_pos (by simp only [decide_eq_true_eq, List.length_map]; omega)]
      simp only [hx, Option.bind_some, hq1]
      rw [show ((0 : Int)) = ((0 : Nat) : Int) from rfl, e1]; rfl
    obtain ⟨c2, t2, g1, g2, g3⟩ := b7_loop hb hps hl u l (q + 1) t1 c1 hd' (fun m i' hm j hj => by
      have := hs (m + 1) i' (by simpa using hm) j hj
      rw [List.take_succ_cons, List.foldl_cons] at this
      rw [e2]; exact this)
    refine ⟨c2, t2, ?_, ?_, fun hc => ?_⟩
    · rw [lp_eq, e0]; exact g1
    · rw [g2, e2]; rfl
    · have hc0 := hc i (List.mem_cons_self ..)
      have hst : tabOf t1 = tabOf t := by
        rw [e2]
        exact foldl_same (ps := ps) (fun k hk => by unfold stepT clo; rw [if_neg (by have := hc0 k hk; omega)]) ps fun _ h => h
      rw [g3 (fun i' hi' k hk => by rw [hst]; exact hc i' (List.mem_cons_of_mem _ hi') k hk), e3 hc0]
/-- No number on the way gets too great. -/
def Fits (ps l : List Nat) (t : Tab) : Prop := ∀ m b, l[m]? = some b → ∀ n i, ps[n]? = some i → ∀ j, j ≤ ps.length → Small ((ps.take j).foldl (stepT b i) ((ps.take n).foldl (rowT ps b) ((l.take m).foldl (stageT ps) t)))
/-- One way through all places. -/
theorem b6_loop {ps : List Nat} (hps : ∀ k ∈ ps, k < 8) (hl : ps.length ≤ 100) (u : Tb 64) : ∀ (l : List Nat) (q : Nat) (t : Tb 64) (ch : Bool), ps.drop q = l → Fits ps l (tabOf t) →
    ∃ ch' t', lp (f79_b6 (ps.map fun p : Nat => (p : Int))) (ch, (q : Int), t, u) = some (ch', t', u) ∧ tabOf t' = l.foldl (stageT ps) (tabOf t) ∧ ((∀ b ∈ l, ∀ i ∈ ps, ∀ k ∈ ps, tabOf t i k ≤ tabOf t i b + tabOf t b k) → ch' = ch)
  | [], q, t, ch, hd, _ => by
    refine ⟨ch, t, ?_, rfl, fun _ => rfl⟩
    rw [lp_eq]
    have hq : ps.length ≤ q := by have := List.drop_eq_nil_iff.1 hd; exact this
    have e : f79_b6 (ps.map fun p : Nat => (p : Int)) (ch, (q : Int), t, u) = some (.inr (ch, t, u)) := by
      unfold f79_b6
      rw [if_neg (by simp only [decide_eq_true_eq, List.length_map]; omega)]
    rw [e]
  | b :: l, q, t, ch, hd, hs => by
    have hq : ps[q]? = some b := by
      have := congrArg (fun z => z[0]?) hd
      simpa using this
    have hb : b < 8 := hps b (List.mem_of_getElem? hq)
    have hbp : b ∈ ps := List.mem_of_getElem? hq
    have hlt : q < ps.length := (List.getElem?_eq_some_iff.1 hq).1
    have hd' : ps.drop (q + 1) = l := by
      have := congrArg List.tail hd
      simpa using this
    have hx : ix (ps.map fun p : Nat => (p : Int)) (q : Int) = some (b : Int) := by
      simp [ix, hq]
    have hq1 : IntKind.i64.wrap ((q : Int) + 1) = ((q + 1 : Nat) : Int) := by
      rw [IntKind.wrap_i64]; omega
    obtain ⟨c1, t1, e1, e2, e3⟩ := b7_loop hb hps hl u ps 0 t ch rfl (fun n i hn j hj => hs 0 b rfl n i hn j hj)
    have e0 : f79_b6 (ps.map fun p : Nat => (p : Int)) (ch, (q : Int), t, u) = some (.inl (c1, ((q + 1 : Nat) : Int), t1, u)) := by
      unfold f79_b6
      rw [if_pos (by simp only [decide_eq_true_eq, List.length_map]; omega)]
      simp only [hx, Option.bind_some, hq1]
      rw [show ((0 : Int)) = ((0 : Nat) : Int) from rfl, e1]; rfl
    obtain ⟨c2, t2, g1, g2, g3⟩ := b6_loop hps hl u l (q + 1) t1 c1 hd' (fun m b' hm n i hn j hj => by
      have := hs (m + 1) b' (by simpa using hm) n i hn j hj
      rw [List.take_succ_cons, List.foldl_cons] at this
      rw [e2]; exact this)
    refine ⟨c2, t2, ?_, ?_, fun hc => ?_⟩
    · rw [lp_eq, e0]; exact g1
    · rw [g2, e2]; rfl
    · have hc0 := hc b (List.mem_cons_self ..)
      have hst : tabOf t1 = tabOf t := by
        rw [e2]
        exact foldl_same (ps := ps) (fun i hi => foldl_same (ps := ps) (fun k hk => by unfold stepT clo; rw [if_neg (by have := hc0 i hi k hk; omega)]) ps fun _ h => h) ps fun _ h => h
      rw [g3 (fun b' hb' i hi k hk => by rw [hst]; exact hc b' (List.mem_cons_of_mem _ hb') i hi k hk), e3 hc0]
/-- The look at the diagonal. -/
theorem b9_loop {ps : List Nat} (hps : ∀ k ∈ ps, k < 8) (hl : ps.length ≤ 100) (qq : Bool × Tb 64 × Tb 64) : ∀ (l : List Nat) (q : Nat), ps.drop q = l →
    lp (f79_b9 qq (ps.map fun p : Nat => (p : Int))) (q : Int) = some (if (l.all fun i => decide (0 ≤ tabOf qq.2.1 i i)) = true then .inl () else .inr (Tb.zero 64, false))
  | [], q, hd => by
    rw [lp_eq]
    have hq : ps.length ≤ q := by have := List.drop_eq_nil_iff.1 hd; exact this
    have e : f79_b9 qq (ps.map fun p : Nat => (p : Int)) (q : Int) = some (.inr (.inl ())) := by
      unfold f79_b9
      rw [if_neg (by simp only [decide_eq_true_eq, List.length_map]; omega)]
    rw [e]; rfl
  | i :: l, q, hd => by
    have hq : ps[q]? = some i := by
      have := congrArg (fun z => z[0]?) hd
      simpa using this
    have hi : i < 8 := hps i (List.mem_of_getElem? hq)
    have hlt : q < ps.length := (List.getElem?_eq_some_iff.1 hq).1
    have hd' : ps.drop (q + 1) = l := by
      have := congrArg List.tail hd
      simpa using this
    have hx : ix (ps.map fun p : Nat => (p : Int)) (q : Int) = some (i : Int) := by
      simp [ix, hq]
    have hq1 : IntKind.i64.wrap ((q : Int) + 1) = ((q + 1 : Nat) : Int) := by
      rw [IntKind.wrap_i64]; omega
    rw [lp_eq]
    by_cases h : tabOf qq.2.1 i i < 0
    · have e : f79_b9 qq (ps.map fun p : Nat => (p : Int)) (q : Int) = some (.inr (.inr (Tb.zero 64, false))) := by
        unfold f79_b9
        rw [if_pos (by simp only [decide_eq_true_eq, List.length_map]; omega)]
        simp only [hx, Option.bind_some, ckI_nat hi, tab_get qq.2.1 hi hi]
        rw [if_pos (by simpa using h)]
      rw [e]
      have hn : decide (0 ≤ tabOf qq.2.1 i i) = false := by rw [decide_eq_false_iff_not]; omega
      simp [hn]
    · have e : f79_b9 qq (ps.map fun p : Nat => (p : Int)) (q : Int) = some (.inl ((q + 1 : Nat) : Int)) := by
        unfold f79_b9
        rw [if_pos (by simp only [decide_eq_true_eq, List.length_map]; omega)]
        simp only [hx, Option.bind_some, ckI_nat hi, tab_get qq.2.1 hi hi]
        rw [if_neg (by simpa using h), hq1]
      rw [e]
      have hn : decide (0 ≤ tabOf qq.2.1 i i) = true := by rw [decide_eq_true_eq]; omega
      have ih := b9_loop hps hl qq l (q + 1) hd'
      simp only [List.all_cons, hn, Bool.true_and]
      exact ih
theorem fits_clo {ps : List Nat} {T : Tab} (hc : Clo ps ps T) (hs : Small T) : Fits ps ps T := by
  intro m b hm n i hn j hj
  have hb : b ∈ ps := List.mem_of_getElem? hm
  have hi : i ∈ ps := List.mem_of_getElem? hn
  have h1 : ∀ b ∈ ps, ∀ i ∈ ps, ∀ k ∈ ps, stepT b i T k = T := fun b hb i hi k hk => step_same hc hb hi hk
  have h2 : ∀ b ∈ ps, ∀ i ∈ ps, rowT ps b T i = T := fun b hb i hi => foldl_same (ps := ps) (fun k hk => h1 b hb i hi k hk) ps fun _ h => h
  have h3 : ∀ b ∈ ps, stageT ps T b = T := fun b hb => foldl_same (ps := ps) (fun i hi => h2 b hb i hi) ps fun _ h => h
  rw [foldl_same (ps := ps) (fun b hb => h3 b hb) (ps.take m) fun x hx => List.mem_of_mem_take hx, foldl_same (ps := ps) (fun i hi => h2 b hb i hi) (ps.take n) fun x hx => List.mem_of_mem_take hx,
    foldl_same (ps := ps) (fun k hk => h1 b hb i hi k hk) (ps.take j) fun x hx => List.mem_of_mem_take hx]
  exact hs
def diagB (ps : List Nat) (T : Tab) : Bool := ps.all fun i => decide (0 ≤ T i i)
theorem diagB_iff {ps : List Nat} {T : Tab} : diagB ps T = true ↔ Diag ps T := by
  unfold diagB Diag
  simp [List.all_eq_true]
/-- The program's rounds: after the first one the table is closed, or it is given up. -/
theorem b5_run {ps : List Nat} (x0 : TLandBook) (hn : x0.Events.length ≤ 7) (hps : ∀ k ∈ ps, k < 8) (hl : ps.length ≤ 100) (t u : Tb 64) (hf : Fits ps ps (tabOf t)) (hs : Small (passT ps (tabOf t))) :
    ∃ t', lp (f79_b5 x0 (ps.map fun p : Nat => (p : Int))) (0, t, u) = some (if diagB ps (passT ps (tabOf t)) = true then .inl (t', u) else .inr (Tb.zero 64, false)) ∧ tabOf t' = passT ps (tabOf t) := by
  have hw : IntKind.i64.wrap (IntKind.i64.wrap ((x0.Events.length : Int) + 1) + 1) = ((x0.Events.length + 2 : Nat) : Int) := by
    rw [IntKind.wrap_i64, IntKind.wrap_i64]; omega
  obtain ⟨c1, t1, e1, e2, _⟩ := b6_loop hps hl u ps 0 t false rfl hf
  have e2' : tabOf t1 = passT ps (tabOf t) := e2
  have k9 := b9_loop hps hl (c1, t1, u) ps 0 rfl
  by_cases hd : diagB ps (passT ps (tabOf t)) = true
  · have hd' : (ps.all fun i => decide (0 ≤ tabOf t1 i i)) = true := by rw [e2']; exact hd
    rw [if_pos hd'] at k9
    simp only [hd, if_true]
    cases c1 with
    | false =>
      refine ⟨t1, ?_, e2'⟩
      rw [lp_eq]
      have e : f79_b5 x0 (ps.map fun p : Nat => (p : Int)) (0, t, u) = some (.inr (.inl (t1, u))) := by
        unfold f79_b5
        rw [if_pos (by simp only [decide_eq_true_eq, hw]; omega)]
        simp only
        rw [show ((0 : Int)) = ((0 : Nat) : Int) from rfl, e1]
        simp only [Option.bind_some]
        rw [k9]; rfl
      rw [e]
    | true =>
      have hc := pass_closed (ps := ps) (t := tabOf t) (diagB_iff.1 hd)
      obtain ⟨c2, t2, g1, g2, g3⟩ := b6_loop hps hl u ps 0 t1 false rfl (by rw [e2']; exact fits_clo hc hs)
      have g2' : tabOf t2 = passT ps (tabOf t) := by
        have : tabOf t2 = passT ps (tabOf t1) := g2
        rw [this, e2', pass_same hc]
      have hc2 : c2 = false := g3 (fun b hb i hi k hk => by rw [e2']; exact hc b hb i hi k hk)
      subst hc2
      have k92 := b9_loop hps hl (false, t2, u) ps 0 rfl
      have hd2 : (ps.all fun i => decide (0 ≤ tabOf t2 i i)) = true := by rw [g2']; exact hd
      rw [if_pos hd2] at k92
      refine ⟨t2, ?_, g2'⟩
      rw [lp_eq]
      have e : f79_b5 x0 (ps.map fun p : Nat => (p : Int)) (0, t, u) = some (.inl (1, t1, u)) := by
        unfold f79_b5
        rw [if_pos (by simp only [decide_eq_true_eq, hw]; omega)]
        simp only
        rw [show ((0 : Int)) = ((0 : Nat) : Int) from rfl, e1]
        simp only [Option.bind_some]
        rw [k9]; rfl
      rw [e]
      simp only
      rw [lp_eq]
      have e' : f79_b5 x0 (ps.map fun p : Nat => (p : Int)) (1, t1, u) = some (.inr (.inl (t2, u))) := by
        unfold f79_b5
        rw [if_pos (by simp only [decide_eq_true_eq, hw]; omega)]
        simp only
        rw [show ((0 : Int)) = ((0 : Nat) : Int) from rfl, g1]
        simp only [Option.bind_some]
        rw [k92]; rfl
      rw [e']
  · have hd' : ¬ (ps.all fun i => decide (0 ≤ tabOf t1 i i)) = true := by rw [e2']; exact hd
    rw [if_neg hd'] at k9
    simp only [hd, Bool.false_eq_true, if_false]
    refine ⟨t1, ?_, e2'⟩
    rw [lp_eq]
    have e : f79_b5 x0 (ps.map fun p : Nat => (p : Int)) (0, t, u) = some (.inr (.inr (Tb.zero 64, false))) := by
      unfold f79_b5
      rw [if_pos (by simp only [decide_eq_true_eq, hw]; omega)]
      simp only
      rw [show ((0 : Int)) = ((0 : Nat) : Int) from rfl, e1]
      simp only [Option.bind_some]
      rw [k9]; rfl
    rw [e]
/-! ### Nothing gets too great -/
theorem row_other {b i a : Nat} (ha : a ≠ i) : ∀ (l : List Nat) (t : Tab) (c : Nat), l.foldl (stepT b i) t a c = t a c
  | [], t, c => rfl
  | k :: l, t, c => by
    rw [List.foldl_cons, row_other ha l _ c]
    unfold stepT
    rw [clo_other _ _ _ _ (by rintro ⟨rfl, _⟩; exact ha rfl)]
theorem rows_other {ps : List Nat} {b a : Nat} : ∀ (l : List Nat) (t : Tab) (c : Nat), a ∉ l → l.foldl (rowT ps b) t a c = t a c
  | [], t, c, _ => rfl
  | i :: l, t, c, h => by
    rw [List.foldl_cons, rows_other l _ c (fun h' => h (List.mem_cons_of_mem _ h'))]
    exact row_other (fun e => h (by rw [e]; exact List.mem_cons_self ..)) ps t c
theorem not_mem_take {l : List Nat} (hn : l.Nodup) {n i : Nat} (h : l[n]? = some i) : i ∉ l.take n := by
  intro hm
  obtain ⟨j, hj⟩ := List.getElem?_of_mem hm
  have hjn : j < n := by
    have := (List.getElem?_eq_some_iff.1 hj).1
    rw [List.length_take] at this; omega
  rw [List.getElem?_take_of_lt hjn] at hj
  have h1 := (List.getElem?_eq_some_iff.1 h)
  have h2 := (List.getElem?_eq_some_iff.1 hj)
  obtain ⟨l1, e1⟩ := h1
  obtain ⟨l2, e2⟩ := h2
  have := (List.getElem_inj hn).1 (e1.trans e2.symm)
  omega
theorem pow_le {m : Nat} (h : m ≤ 8) : (0 : Int) ≤ 6 ^ m * 2000 ∧ (6 : Int) ^ m * 2000 ≤ 4000000000 := by
  have : m = 0 ∨ m = 1 ∨ m = 2 ∨ m = 3 ∨ m = 4 ∨ m = 5 ∨ m = 6 ∨ m = 7 ∨ m = 8 := by omega
  rcases this with e | e | e | e | e | e | e | e | e <;> rw [e] <;> decide
theorem fits_small {ps : List Nat} (hps : ps.Nodup) (hlen : ps.length ≤ 8) {T : Tab} (h : ∀ a c, -2000 ≤ T a c ∧ T a c ≤ 2000) : Fits ps ps T ∧ Small (passT ps T) := by
  constructor
  · intro m b hm n i hn j hj a c
    have hml := (List.getElem?_eq_some_iff.1 hm).1
    have hlow := fun a c => pass_bound hps (ps.take m) 2000 T (by omega) (fun a c => (h a c).1) a c
    rw [List.length_take, Nat.min_eq_left (by omega)] at hlow
    obtain ⟨p1, p2⟩ := pow_le (m := m) (by omega)
    have hup : ∀ a c, (ps.take m).foldl (stageT ps) T a c ≤ T a c := fun a c => foldl_le (fun t b a c => stage_le ps t b a c) _ _ _ _
    obtain ⟨U, hU⟩ : ∃ U, U = (ps.take m).foldl (stageT ps) T := ⟨_, rfl⟩
    rw [← hU] at hlow hup ⊢
    generalize (6 : Int) ^ m * 2000 = M at *
    have hL0 : Low b M U := ⟨by have := hlow b b; omega, fun k => by have := hlow b k; omega, fun i => by have := hlow i b; omega, fun i k => by have := hlow i k; omega⟩
    have hL1 := stage_low (b := b) hps p1 (ps.take n) U (hps.sublist (List.take_sublist ..)) hL0 (fun i _ k _ => hlow i k)
    have hup1 : ∀ a c, (ps.take n).foldl (rowT ps b) U a c ≤ U a c := fun a c => foldl_le (fun t i a c => row_le ps b t i a c) _ _ _ _
    have hrow : ∀ c, (ps.take n).foldl (rowT ps b) U i c = U i c := fun c => rows_other _ _ _ (not_mem_take hps hn)
    obtain ⟨V, hV⟩ : ∃ V, V = (ps.take n).foldl (rowT ps b) U := ⟨_, rfl⟩
    rw [← hV] at hL1 hup1 hrow ⊢
    have hL2 := (row_low (i := i) p1 (ps.take j) V (hps.sublist (List.take_sublist ..)) hL1 (fun k _ => by rw [hrow]; exact hlow i k)).1
    have h1 := hL2.all a c
    have h2 : (ps.take j).foldl (stepT b i) V a c ≤ V a c := foldl_le (fun t k a c => step_le b i t k a c) _ _ _ _
    have h3 := hup1 a c
    have h4 := hup a c
    have h5 := h a c
    omega
  · intro a c
    have hlow := pass_bound hps ps 2000 T (by omega) (fun a c => (h a c).1) a c
    obtain ⟨p1, p2⟩ := pow_le (m := ps.length) hlen
    have hup := pass_le ps T a c
    have h5 := h a c
    unfold passT at *
    omega
/-! ### The first table -/
theorem clo_tab (t : Tb 64) {i k : Nat} (hi : i < 8) (hk : k < 8) (m : Int) : ∃ t', (if decide (tget t (0 + i * 8 + k * 1) ≤ m) = true then some t else some (tset t (0 + i * 8 + k * 1) m) : Option (Tb 64)) = some t' ∧ tabOf t' = clo (tabOf t) i k m := by
  rw [tab_get t hi hk]
  by_cases h : tabOf t i k ≤ m
  · refine ⟨t, by simp [h], ?_⟩
    unfold clo; rw [if_neg (by omega)]
  · refine ⟨tset t (0 + i * 8 + k * 1) m, by simp [h], ?_⟩
    rw [tab_set t hi hk]
    unfold clo; rw [if_pos (by omega)]
theorem b2_loop (x0 : TLandBook) (hn : x0.Events.length ≤ 7) (u : Tb 64) : ∀ (m k : Nat) (t : Tb 64), k + m = x0.Events.length → ∃ t', lp (f79_b2 x0) ((k : Int), t, u) = some (t', u) ∧ tabOf t' = (List.range' k m).foldl (fun T e => clo (clo T 7 e 1000) e 7 0) (tabOf t)
  | 0, k, t, hk => by
    refine ⟨t, ?_, rfl⟩
    rw [lp_eq]
    have e : f79_b2 x0 ((k : Int), t, u) = some (.inr (t, u)) := by
      unfold f79_b2
      rw [if_neg (by simp only [decide_eq_true_eq]; omega)]
    rw [e]
  | m + 1, k, t, hk => by
    have hk8 : k < 8 := by omega
    obtain ⟨t1, e1, e2⟩ := clo_tab t (show 7 < 8 by omega) hk8 1000
    obtain ⟨t2, e3, e4⟩ := clo_tab t1 hk8 (show 7 < 8 by omega) 0
    have hq1 : IntKind.i64.wrap ((k : Int) + 1) = ((k + 1 : Nat) : Int) := by
      rw [IntKind.wrap_i64]; omega
    have e : f79_b2 x0 ((k : Int), t, u) = some (.inl (((k + 1 : Nat) : Int), t2, u)) := by
      unfold f79_b2
      rw [if_pos (by simp only [decide_eq_true_eq]; omega)]
      simp only [ckI_nat hk8, Option.bind_some, e1, e3, hq1]
    obtain ⟨t', g1, g2⟩ := b2_loop x0 hn u m (k + 1) t2 (by omega)
    refine ⟨t', ?_, ?_⟩
    · rw [lp_eq, e]; exact g1
    · rw [g2, e4, e2]; rfl
/-- What the memories of a set say. -/
def memF (hb : Nat → Bool) : Nat → List TLandMemory → Tab → Tab
  | _, [], T => T
  | k, m :: l, T => memF hb (k + 1) l (if hb k = true then clo (clo T m.From.toNat m.To.toNat m.Years.High) m.To.toNat m.From.toNat (-m.Years.Low) else T)
def MemOk (m : TLandMemory) : Prop := (0 ≤ m.From ∧ m.From < 8) ∧ (0 ≤ m.To ∧ m.To < 8) ∧ -1000 ≤ m.Years.Low ∧ m.Years.Low ≤ m.Years.High ∧ m.Years.High ≤ 1000
theorem b3_loop (x0 : TLandBook) (x1 : Int) (hl : x0.Memories.length ≤ 1000) (hm : ∀ m ∈ x0.Memories, MemOk m) (hb : Nat → Bool) (h81 : ∀ k, k < x0.Memories.length → f81 x1 (k : Int) = some (hb k)) (u : Tb 64) : ∀ (l : List TLandMemory) (k : Nat) (t : Tb 64), x0.Memories.drop k = l → ∃ t', lp (f79_b3 x0 x1) ((k : Int), t, u) = some (t', u) ∧ tabOf t' = memF hb k l (tabOf t)
  | [], k, t, hd => by
    refine ⟨t, ?_, rfl⟩
    rw [lp_eq]
    have hk : x0.Memories.length ≤ k := by have := List.drop_eq_nil_iff.1 hd; exact this
    have e : f79_b3 x0 x1 ((k : Int), t, u) = some (.inr (t, u)) := by
      unfold f79_b3
      rw [if_neg (by simp only [decide_eq_true_eq]; omega)]
    rw [e]
  | m :: l, k, t, hd => by
    have hq : x0.Memories[k]? = some m := by
      have := congrArg (fun z => z[0]?) hd
      simpa using this
    have hlt : k < x0.Memories.length := (List.getElem?_eq_some_iff.1 hq).1
    have hd' : x0.Memories.drop (k + 1) = l := by
      have := congrArg List.tail hd
      simpa using this
    obtain ⟨⟨f1, f2⟩, ⟨f3, f4⟩, f5, f6, f7⟩ := hm m (List.mem_of_getElem? hq)
    have hx : ix x0.Memories (k : Int) = some m := by
      simp [ix, hq]
    have hq1 : IntKind.i64.wrap ((k : Int) + 1) = ((k + 1 : Nat) : Int) := by
      rw [IntKind.wrap_i64]; omega
    have hF : ckI m.From 8 = some m.From.toNat := by unfold ckI; rw [if_pos (by omega)]
    have hT : ckI m.To 8 = some m.To.toNat := by unfold ckI; rw [if_pos (by omega)]
    have hneg : IntKind.i64.wrap (0 - m.Years.Low) = -m.Years.Low := by
      rw [IntKind.wrap_i64]; omega
    obtain ⟨t1, e1, e2⟩ := clo_tab t (show m.From.toNat < 8 by omega) (show m.To.toNat < 8 by omega) m.Years.High
    obtain ⟨t2, e3, e4⟩ := clo_tab t1 (show m.To.toNat < 8 by omega) (show m.From.toNat < 8 by omega) (-m.Years.Low)
    have e : f79_b3 x0 x1 ((k : Int), t, u) = some (.inl (((k + 1 : Nat) : Int), (if hb k = true then t2 else t), u)) := by
      unfold f79_b3
      rw [if_pos (by simp only [decide_eq_true_eq]; omega)]
      simp only [hx, Option.bind_some, h81 k hlt]
      cases hbk : hb k with
      | false => simp [hq1]
      | true => simp only [if_true, hF, hT, Option.bind_some, e1, hneg, e3, hq1]
    obtain ⟨t', g1, g2⟩ := b3_loop x0 x1 hl hm hb h81 u l (k + 1) (if hb k = true then t2 else t) hd'
    refine ⟨t', ?_, ?_⟩
    · rw [lp_eq, e]; exact g1
    · have e5 : memF hb k (m :: l) (tabOf t) = memF hb (k + 1) l (if hb k = true then clo (clo (tabOf t) m.From.toNat m.To.toNat m.Years.High) m.To.toNat m.From.toNat (-m.Years.Low) else tabOf t) := rfl
      have e6 : tabOf (if hb k = true then t2 else t) = if hb k = true then clo (clo (tabOf t) m.From.toNat m.To.toNat m.Years.High) m.To.toNat m.From.toNat (-m.Years.Low) else tabOf t := by
        cases hb k with
        | false => rfl
        | true => simp only [if_true]; rw [e4, e2]
      rw [g2, e5, e6]
def rowI (i : Nat) (T : Tab) (c : Nat) : Tab := if i = c then T else setT T i c 2000
def rowsI (T : Tab) (i : Nat) : Tab := (List.range' 0 8).foldl (rowI i) T
theorem b1_loop (x y : Tb 64) (i : Nat) (hi : i < 8) (u : Tb 64) : ∀ (m k : Nat) (t : Tb 64), k + m = 8 → ∃ t', lp (f79_b1 ((i : Int), x, y)) ((k : Int), t, u) = some (t', u) ∧ tabOf t' = (List.range' k m).foldl (rowI i) (tabOf t)
  | 0, k, t, hk => by
    refine ⟨t, ?_, rfl⟩
    rw [lp_eq]
    have e : f79_b1 ((i : Int), x, y) ((k : Int), t, u) = some (.inr (t, u)) := by
      unfold f79_b1
      rw [if_neg (by simp only [decide_eq_true_eq]; omega)]
    rw [e]
  | m + 1, k, t, hk => by
    have hk8 : k < 8 := by omega
    have hq1 : IntKind.i64.wrap ((k : Int) + 1) = ((k + 1 : Nat) : Int) := by
      rw [IntKind.wrap_i64]; omega
    have key : ∃ t1, f79_b1 ((i : Int), x, y) ((k : Int), t, u) = some (.inl (((k + 1 : Nat) : Int), t1, u)) ∧ tabOf t1 = rowI i (tabOf t) k := by
      unfold f79_b1
      rw [if_pos (by simp only [decide_eq_true_eq]; omega)]
      by_cases h : i = k
      · subst h
        refine ⟨t, by simp [hq1], ?_⟩
        unfold rowI; rw [if_pos rfl]
      · have hne : ((i : Int) != (k : Int)) = true := by simp; omega
        refine ⟨tset t (0 + i * 8 + k * 1) 2000, ?_, ?_⟩
        · simp only [hne, if_true, ckI_nat hi, ckI_nat hk8, Option.bind_some, hq1]
        · rw [tab_set t hi hk8]
          unfold rowI; rw [if_neg h]
    obtain ⟨t1, e1, e2⟩ := key
    obtain ⟨t', g1, g2⟩ := b1_loop x y i hi u m (k + 1) t1 (by omega)
    refine ⟨t', ?_, ?_⟩
    · rw [lp_eq, e1]; exact g1
    · rw [g2, e2]; rfl
theorem b0_loop (u : Tb 64) : ∀ (m i : Nat) (t : Tb 64), i + m = 8 → ∃ t', lp f79_b0 ((i : Int), t, u) = some (t', u) ∧ tabOf t' = (List.range' i m).foldl rowsI (tabOf t)
  | 0, i, t, hk => by
    refine ⟨t, ?_, rfl⟩
    rw [lp_eq]
    have e : f79_b0 ((i : Int), t, u) = some (.inr (t, u)) := by
      unfold f79_b0
      rw [if_neg (by simp only [decide_eq_true_eq]; omega)]
    rw [e]
  | m + 1, i, t, hk => by
    have hi : i < 8 := by omega
    have hq1 : IntKind.i64.wrap ((i : Int) + 1) = ((i + 1 : Nat) : Int) := by
      rw [IntKind.wrap_i64]; omega
    obtain ⟨t1, e1, e2⟩ := b1_loop t u i hi u 8 0 t rfl
    have e : f79_b0 ((i : Int), t, u) = some (.inl (((i + 1 : Nat) : Int), t1, u)) := by
      unfold f79_b0
      rw [if_pos (by simp only [decide_eq_true_eq]; omega)]
      simp only
      rw [show ((0 : Int)) = ((0 : Nat) : Int) from rfl, e1]
      simp only [Option.bind_some, hq1]
    obtain ⟨t', g1, g2⟩ := b0_loop u m (i + 1) t1 (by omega)
    refine ⟨t', ?_, ?_⟩
    · rw [lp_eq, e]; exact g1
    · rw [g2, e2]; rfl
theorem b4_loop (x0 : TLandBook) (hn : x0.Events.length ≤ 7) (t u : Tb 64) : lp (f79_b4 x0) ([], 0, t, u) = some ((List.range x0.Events.length).map (fun p : Nat => (p : Int)), t, u) := by
  have h := lp_thru (body := f79_b4 x0) x0.Events ((List.range x0.Events.length).map (fun p : Nat => (p : Int)), t, u) (fun k => ((List.range k).map (fun p : Nat => (p : Int)), (k : Int), t, u)) (fun k y hy => by
    have hk := get_lt hy
    have hq1 : IntKind.i64.wrap ((k : Int) + 1) = ((k + 1 : Nat) : Int) := by
      rw [IntKind.wrap_i64]; omega
    unfold f79_b4
    rw [if_pos (by simp only [decide_eq_true_eq]; omega)]
    have ha : app ((List.range k).map (fun p : Nat => (p : Int))) [(k : Int)] = some ((List.range (k + 1)).map (fun p : Nat => (p : Int))) := by
      unfold app
      rw [if_pos (by simp; omega), List.range_succ, List.map_append]; rfl
    simp only [ha, Option.bind_some, hq1]) (by unfold f79_b4; rw [if_neg (by simp)])
  exact h
/-- The places of a book. -/
def placesL (n : Nat) : List Nat := List.range n ++ [7]
def firstT (x0 : TLandBook) (hb : Nat → Bool) : Tab := memF hb 0 x0.Memories ((List.range' 0 x0.Events.length).foldl (fun T e => clo (clo T 7 e 1000) e 7 0) ((List.range' 0 8).foldl rowsI (tabOf (Tb.zero 64))))
def Bd (T : Tab) : Prop := ∀ a c, -2000 ≤ T a c ∧ T a c ≤ 2000
theorem Bd.clo {T : Tab} (h : Bd T) (i k : Nat) {m : Int} (hm : -2000 ≤ m) : Bd (clo T i k m) := by
  intro a c
  have h1 := clo_le T i k m a c
  have h2 := h a c
  by_cases e : a = i ∧ c = k
  · obtain ⟨rfl, rfl⟩ := e
    have := clo_self T a c m
    omega
  · rw [clo_other _ _ _ _ e]; exact h2
theorem Bd.foldl {α : Type} {f : Tab → α → Tab} (hf : ∀ T x, Bd T → Bd (f T x)) : ∀ (l : List α) (T : Tab), Bd T → Bd (l.foldl f T)
  | [], _, h => h
  | x :: l, T, h => Bd.foldl hf l _ (hf T x h)
theorem Bd.mem {hb : Nat → Bool} : ∀ (l : List TLandMemory) (k : Nat) (T : Tab), (∀ m ∈ l, MemOk m) → Bd T → Bd (memF hb k l T)
  | [], _, _, _, h => h
  | m :: l, k, T, hm, h => by
    obtain ⟨_, _, f5, f6, f7⟩ := hm m (List.mem_cons_self ..)
    have e5 : memF hb k (m :: l) T = memF hb (k + 1) l (if hb k = true then Go.Proofs.YtcaflmilfhhikaaDoor.clo (Go.Proofs.YtcaflmilfhhikaaDoor.clo T m.From.toNat m.To.toNat m.Years.High) m.To.toNat m.From.toNat (-m.Years.Low) else T) := rfl
    rw [e5]
    refine Bd.mem l (k + 1) _ (fun m' hm' => hm m' (List.mem_cons_of_mem _ hm')) ?_
    split
    · exact (h.clo _ _ (by omega)).clo _ _ (by omega)
    · exact h
theorem tab_zero (a c : Nat) : tabOf (Tb.zero 64) a c = 0 := by
  unfold tabOf
  split
  · unfold tget Tb.zero
    rw [List.getD_eq_getElem?_getD, List.getElem?_replicate]
    split <;> rfl
  · rfl
theorem Bd.rowI {T : Tab} (h : Bd T) (i c : Nat) : Bd (rowI i T c) := by
  unfold Go.Proofs.YtcaflmilfhhikaaDoor.rowI
  split
  · exact h
  · intro a d
    unfold setT
    by_cases e : a = i ∧ d = c
    · rw [if_pos e]; omega
    · rw [if_neg e]; exact h a d
theorem first_bd (x0 : TLandBook) (hb : Nat → Bool) (hm : ∀ m ∈ x0.Memories, MemOk m) : Bd (firstT x0 hb) := by
  refine Bd.mem _ _ _ hm ?_
  refine Bd.foldl (fun T e h => (h.clo _ _ (by omega)).clo _ _ (by omega)) _ _ ?_
  refine Bd.foldl (fun T i h => Bd.foldl (fun T c h => h.rowI i c) _ _ h) _ _ ?_
  intro a c
  rw [tab_zero]; omega
theorem places_lt {n : Nat} (hn : n ≤ 7) : ∀ k ∈ placesL n, k < 8 := by
  intro k hk
  unfold placesL at hk
  rcases List.mem_append.1 hk with h | h
  · have := List.mem_range.1 h; omega
  · have := List.mem_singleton.1 h; omega
theorem places_nodup {n : Nat} (hn : n ≤ 7) : (placesL n).Nodup := by
  unfold placesL
  rw [List.nodup_append]
  refine ⟨List.nodup_range, by simp, fun a ha b hb => ?_⟩
  have h1 := List.mem_range.1 ha
  have h2 := List.mem_singleton.1 hb
  omega
/-- The program's table: closed, unless the memories do not agree. -/
theorem f79_eq (x0 : TLandBook) (x1 : Int) (hn : x0.Events.length ≤ 7) (hl : x0.Memories.length ≤ 1000) (hm : ∀ m ∈ x0.Memories, MemOk m) (hb : Nat → Bool) (h81 : ∀ k, k < x0.Memories.length → f81 x1 (k : Int) = some (hb k)) :
    ∃ t', f79 x0 x1 = some (if diagB (placesL x0.Events.length) (passT (placesL x0.Events.length) (firstT x0 hb)) = true then (t', true) else (Tb.zero 64, false)) ∧ tabOf t' = passT (placesL x0.Events.length) (firstT x0 hb) := by
  obtain ⟨t0, a1, a2⟩ := b0_loop (Tb.zero 64) 8 0 (Tb.zero 64) rfl
  obtain ⟨t2, b1, b2⟩ := b2_loop x0 hn (Tb.zero 64) x0.Events.length 0 t0 (by omega)
  obtain ⟨t3, c1, c2⟩ := b3_loop x0 x1 hl hm hb h81 (Tb.zero 64) x0.Memories 0 t2 rfl
  have hT : tabOf t3 = firstT x0 hb := by rw [c2, b2, a2]; rfl
  have hbd := first_bd x0 hb hm
  have hlen : (placesL x0.Events.length).length ≤ 8 := by unfold placesL; simp; omega
  obtain ⟨hf, hs⟩ := fits_small (places_nodup hn) hlen hbd
  obtain ⟨t5, d1, d2⟩ := b5_run x0 hn (places_lt hn) (by omega) t3 (Tb.zero 64) (by rw [hT]; exact hf) (by rw [hT]; exact hs)
  rw [hT] at d1 d2
  refine ⟨t5, ?_, d2⟩
  have hmk : mk0 (IntKind.i64.wrap ((x0.Events.length : Int) + 1)) = some () := by
    unfold mk0
    rw [IntKind.wrap_i64, if_pos (by omega)]
  have hap : app ((List.range x0.Events.length).map (fun p : Nat => (p : Int))) [7] = some ((placesL x0.Events.length).map fun p : Nat => (p : Int)) := by
    unfold app
    rw [if_pos (by simp; omega)]
    unfold placesL
    rw [List.map_append]; rfl
  unfold f79
  have z : ((0 : Nat) : Int) = 0 := rfl
  rw [z] at a1 b1 c1
  rw [a1]
  simp only [Option.bind_some]
  rw [b1]
  simp only [Option.bind_some]
  rw [c1]
  simp only [Option.bind_some, hmk]
  rw [b4_loop x0 hn]
  simp only [Option.bind_some, hap]
  rw [d1]
  simp only [Option.bind_some]
  cases diagB (placesL x0.Events.length) (passT (placesL x0.Events.length) (firstT x0 hb)) <;> rfl
end Go.Proofs.YtcaflmilfhhikaaDoor
