/-
  Ship's calls: the program's search, which keeps in mind what is in vain, and the document's.
-/
import Derived.Test.YtajejmbnmphngaaS3
import Derived.Test.YtajejmbnmphngaaS4
namespace Go.Proofs.Ytajejmbnmphngaa
open Go.RowKit
set_option linter.unusedSimpArgs false
set_option linter.unusedVariables false

theorem lookM_upd {M : List ((Int × Int) × Bool)} {a b : Int × Int} {v : Bool} : lookM (updM M a v) b = if b = a then some v else lookM M b := by
  induction M with
  | nil =>
    unfold updM lookM
    by_cases h : b = a
    · subst h; simp
    · have : (b == a) = false := by simpa using h
      simp [this, h, lookM]
  | cons y l ih =>
    obtain ⟨k', v'⟩ := y
    unfold updM
    by_cases h1 : a = k'
    · subst h1
      simp only [beq_self_eq_true, if_true]
      unfold lookM
      by_cases h : b = a
      · subst h; simp
      · have : (b == a) = false := by simpa using h
        simp [this, h]
    · have h1' : (a == k') = false := by simpa using h1
      rw [h1']
      simp only [Bool.false_eq_true, if_false]
      unfold lookM
      by_cases h2 : b = k'
      · subst h2
        have : ¬ b = a := fun e => h1 e.symm
        simp [this]
      · have h2' : (b == k') = false := by simpa using h2
        rw [h2']
        simp only [Bool.false_eq_true, if_false]
        exact ih
theorem subL_popC {p : List TShipCall} {k : TShipCall} : subL (p ++ [k]) 0 (((p ++ [k]).length : Int) - 1) = some p := by
  unfold subL
  rw [if_pos ⟨by omega, by simp, by omega⟩]
  simp
/-- The first hour of a day. -/
def firstH (p : TShipPass) (d : Nat) : Option Int := (hoursL p (d : Int) (swAt p (d : Int)).High).head?
theorem firstH_eq (p : TShipPass) (d : Nat) : firstH p d = ((List.range 24).find? fun h => sureC p ⟨(d : Int), (h : Nat)⟩).map fun h : Nat => (h : Int) := by
  unfold firstH hoursL hoursTo
  rw [List.head?_map, List.head?_filter]; rfl
theorem firstH_some {p : TShipPass} {d : Nat} {h : Int} (e : firstH p d = some h) : 0 ≤ h ∧ h ≤ 23 ∧ sureC p ⟨(d : Int), h⟩ = true ∧ ∀ h', 0 ≤ h' → h' < h → sureC p ⟨(d : Int), h'⟩ = false := by
  rw [firstH_eq, Option.map_eq_some_iff] at e
  obtain ⟨k, h1, rfl⟩ := e
  rw [List.find?_range_eq_some] at h1
  obtain ⟨q1, q2, q3⟩ := h1
  rw [List.mem_range] at q2
  refine ⟨by omega, by omega, q1, fun h' h0 hlt => ?_⟩
  have := q3 h'.toNat (by omega)
  rw [Int.toNat_of_nonneg h0] at this
  simpa using this
theorem firstH_none {p : TShipPass} {d : Nat} (e : firstH p d = none) {h : Int} (h0 : 0 ≤ h) (h1 : h ≤ 23) : sureC p ⟨(d : Int), h⟩ = false := by
  rw [firstH_eq, Option.map_eq_none_iff, List.find?_eq_none] at e
  have := e h.toNat (by rw [List.mem_range]; omega)
  rw [Int.toNat_of_nonneg h0] at this
  simpa using this
/-- The first call from a day on tells the day's first hour. -/
theorem day_first {p : TShipPass} {d : Nat} (hd : d < p.Swell.length) : match firstC p ⟨(d : Int), 0⟩ with
    | none => firstH p d = none
    | some y => if y.Day = (d : Int) then firstH p d = some y.Hour else firstH p d = none := by
  have hpos : pos ⟨(d : Int), 0⟩ = 24 * d := by unfold pos; simp only; omega
  have ok : ∀ h : Int, 0 ≤ h → h ≤ 23 → callOk p ⟨(d : Int), h⟩ = true := fun h h0 h1 => by
    unfold callOk
    rw [Bool.and_eq_true, dayOk_iff, inR_iff]
    exact ⟨⟨by simp only; omega, by simp only; omega⟩, h0, h1⟩
  cases hc : firstC p ⟨(d : Int), 0⟩ with
  | none =>
    simp only
    cases hf : firstH p d with
    | none => rfl
    | some h =>
      obtain ⟨q1, q2, q3, _⟩ := firstH_some hf
      have := firstC_none hc (ok h q1 q2) (by rw [hpos]; unfold pos; simp only; omega)
      rw [q3] at this; cases this
  | some y =>
    obtain ⟨y1, y2, y3, y4⟩ := firstC_some hc
    have y1' := y1
    unfold callOk at y1'
    rw [Bool.and_eq_true, dayOk_iff, inR_iff] at y1'
    simp only
    by_cases hy : y.Day = (d : Int)
    · rw [if_pos hy]
      have ey : (⟨(d : Int), y.Hour⟩ : TShipCall) = y := by rw [← hy]
      cases hf : firstH p d with
      | none =>
        have := firstH_none hf y1'.2.1 y1'.2.2
        rw [ey, y3] at this; cases this
      | some h =>
        obtain ⟨q1, q2, q3, q4⟩ := firstH_some hf
        congr 1
        rcases Int.lt_trichotomy h y.Hour with h3 | h3 | h3
        · have := y4 ⟨(d : Int), h⟩ (ok h q1 q2) (by rw [hpos]; unfold pos; simp only; omega) (by unfold pos; simp only [hy]; omega)
          rw [q3] at this; cases this
        · exact h3
        · have := q4 y.Hour y1'.2.1 h3
          rw [ey, y3] at this; cases this
    · rw [if_neg hy]
      cases hf : firstH p d with
      | none => rfl
      | some h =>
        obtain ⟨q1, q2, q3, _⟩ := firstH_some hf
        have h5 : (d : Int) ≤ y.Day := by
          rw [hpos] at y2
          unfold pos at y2
          omega
        have := y4 ⟨(d : Int), h⟩ (ok h q1 q2) (by rw [hpos]; unfold pos; simp only; omega) (by unfold pos; simp only; omega)
        rw [q3] at this; cases this
/-- The first calls of so many ships, from a day on. -/
def stepS (p : TShipPass) (f : Nat → Option (List TShipCall)) (e : Nat) : Option (List TShipCall) := (firstH p e).bind fun h => (f e).map fun l => (⟨(e : Int), h⟩ : TShipCall) :: l
def cntD (p : TShipPass) (lo hi d : Nat) : Nat := min (d + hi + 1) p.Swell.length - (d + lo)
def srch (p : TShipPass) (lo hi : Nat) : Nat → Nat → Option (List TShipCall)
  | 0, _ => some []
  | k + 1, d => (List.range' (d + lo) (cntD p lo hi d)).findSome? (stepS p (srch p lo hi k))
/-- What is marked as being in vain is so. -/
def Sound (p : TShipPass) (lo hi : Nat) (M : List ((Int × Int) × Bool)) : Prop := ∀ d k : Nat, (lookM M ((d : Int), (k : Int))).getD false = true → srch p lo hi k d = none
def found (o : Option (List TShipCall)) (M : List ((Int × Int) × Bool)) (out : List TShipCall) : Bool × List ((Int × Int) × Bool) × List TShipCall := match o with
  | some r => (true, M, out ++ r)
  | none => (false, M, out)
/-- One day of the search. -/
theorem day_round {p : TShipPass} (hp : PassOk p) {gap : TSpan} {lo hi k d e : Nat} (hgap : gap.Low = (lo : Int) ∧ gap.High = (hi : Int)) (hb : d ≤ 60 ∧ lo ≤ 60 ∧ hi ≤ 60 ∧ k ≤ 100) (he : e ≤ d + hi) (hn : e < p.Swell.length)
    {rec : TSpot → List ((Int × Int) × Bool) → List TShipCall → Option (Bool × List ((Int × Int) × Bool) × List TShipCall)} {M : List ((Int × Int) × Bool)} {out : List TShipCall} (ho : out.length ≤ 1000) (f : Nat → Option (List TShipCall)) {Ok : List ((Int × Int) × Bool) → Prop} (hM : Ok M)
    (hrec : ∀ out', out'.length ≤ out.length + 1 → ∃ M', Ok M' ∧ rec ⟨(e : Int), (k : Int)⟩ M out' = some (found (f e) M' out')) :
    ∃ M', Ok M' ∧ f63_b0 rec ⟨(d : Int), ((k + 1 : Nat) : Int)⟩ gap p ((e : Int), false, out, M) = some ((stepS p f e).elim (.inl (((e + 1 : Nat) : Int), false, out, M')) fun r => .inr (.inr (true, M', out ++ r))) := by
  have hns := hp.ns
  have hok : callOk p ⟨(e : Int), 0⟩ = true := by
    unfold callOk
    rw [Bool.and_eq_true, dayOk_iff, inR_iff]
    exact ⟨⟨by simp only; omega, by simp only; omega⟩, by show (0 : Int) ≤ 0; omega, by show (0 : Int) ≤ 23; omega⟩
  have hdf := day_first hn
  have hcl := callsL_eq hp hok
  unfold f63_b0
  rw [if_pos (by simp only [decide_eq_true_eq]; rw [hgap.2, wrap_id (by omega) (by omega)]; omega)]
  simp only
  rw [if_neg (by simp only [decide_eq_true_eq]; omega), hcl, Option.bind_some]
  have hw : IntKind.i64.wrap ((e : Int) + 1) = ((e + 1 : Nat) : Int) := by rw [wrap_id] <;> omega
  have hwl : IntKind.i64.wrap (((k + 1 : Nat) : Int) - 1) = (k : Int) := by rw [wrap_id] <;> omega
  unfold firstC at hdf
  cases hl : sureFrom p (pos ⟨(e : Int), 0⟩) with
  | nil =>
    rw [hl] at hdf
    have hs : stepS p f e = none := by
      unfold stepS
      simp only [List.head?_nil] at hdf
      rw [hdf]; rfl
    refine ⟨M, hM, ?_⟩
    rw [hs]
    simp only [rg, Option.bind_some, Sum.elim_inl, hw, Option.elim_none]
  | cons y l =>
    rw [hl] at hdf
    simp only [List.head?_cons] at hdf
    by_cases hy : y.Day = (e : Int)
    · rw [if_pos hy] at hdf
      have ey : (⟨(e : Int), y.Hour⟩ : TShipCall) = y := by rw [← hy]
      have hs : stepS p f e = (f e).map fun l => y :: l := by
        unfold stepS
        rw [hdf, Option.bind_some, ey]
      obtain ⟨M', j1, j2⟩ := hrec (out ++ [y]) (by simp)
      refine ⟨M', j1, ?_⟩
      have hne : (y.Day != (e : Int)) = false := by simp [hy]
      rw [hs]
      simp only [rg, f63_b1, hne, Bool.false_eq_true, if_false]
      rw [app_short _ _ (by simp; omega), Option.bind_some, hwl, j2, Option.bind_some]
      cases hf : f e with
      | some r =>
        simp only [found, if_true, Option.map_some]
        simp
      | none =>
        have hwo : IntKind.i64.wrap ((((out ++ [y]).length : Nat) : Int) - 1) = (((out ++ [y]).length : Nat) : Int) - 1 := by rw [wrap_id] <;> simp <;> omega
        simp only [found, Bool.false_eq_true, if_false, Option.map_none, hwo, subL_popC, Option.bind_some]
        simp [hw]
    · rw [if_neg hy] at hdf
      have hs : stepS p f e = none := by
        unfold stepS
        rw [hdf]; rfl
      refine ⟨M, hM, ?_⟩
      have hne : (y.Day != (e : Int)) = true := by simp [hy]
      rw [hs]
      simp only [rg, f63_b1, hne, if_true]
      simp [hw]
/-- All days of the search. -/
theorem days_round {p : TShipPass} (hp : PassOk p) {gap : TSpan} {lo hi k d : Nat} (hgap : gap.Low = (lo : Int) ∧ gap.High = (hi : Int)) (hb : d ≤ 60 ∧ lo ≤ 60 ∧ hi ≤ 60 ∧ k ≤ 100)
    {rec : TSpot → List ((Int × Int) × Bool) → List TShipCall → Option (Bool × List ((Int × Int) × Bool) × List TShipCall)} {out : List TShipCall} (ho : out.length ≤ 1000) (f : Nat → Option (List TShipCall)) {Ok : List ((Int × Int) × Bool) → Prop}
    (hrec : ∀ (e : Nat) M out', e < p.Swell.length → Ok M → out'.length ≤ out.length + 1 → ∃ M', Ok M' ∧ rec ⟨(e : Int), (k : Int)⟩ M out' = some (found (f e) M' out')) :
    ∀ (m e : Nat) (M : List ((Int × Int) × Bool)), e ≤ 200 → m = min (d + hi + 1) p.Swell.length - e → Ok M →
      ∃ M', Ok M' ∧ lp (f63_b0 rec ⟨(d : Int), ((k + 1 : Nat) : Int)⟩ gap p) ((e : Int), false, out, M) = some (((List.range' e m).findSome? (stepS p f)).elim (.inl (false, out, M')) fun r => .inr (true, M', out ++ r))
  | 0, e, M, he, hm, hM => by
    refine ⟨M, hM, ?_⟩
    rw [lp_eq]
    have e1 : f63_b0 rec ⟨(d : Int), ((k + 1 : Nat) : Int)⟩ gap p ((e : Int), false, out, M) = some (.inr (.inl (false, out, M))) := by
      unfold f63_b0
      have hw : IntKind.i64.wrap ((d : Int) + gap.High) = ((d + hi : Nat) : Int) := by rw [hgap.2, wrap_id] <;> omega
      simp only [hw]
      by_cases h1 : e ≤ d + hi
      · rw [if_pos (by simp only [decide_eq_true_eq]; omega), if_pos (by simp only [decide_eq_true_eq]; omega)]; rfl
      · rw [if_neg (by simp only [decide_eq_true_eq]; omega)]
    rw [e1]; rfl
  | m + 1, e, M, he, hm, hM => by
    obtain ⟨M1, j1, j2⟩ := day_round (out := out) hp hgap hb (e := e) (by omega) (by omega) ho f hM (fun out' h => hrec e M out' (by omega) hM h)
    rw [lp_eq, j2, List.range'_succ, List.findSome?_cons]
    cases hs : stepS p f e with
    | some r => exact ⟨M1, j1, rfl⟩
    | none =>
      obtain ⟨M2, j3, j4⟩ := days_round hp hgap hb ho f hrec m (e + 1) M1 (by have := hp.ns; omega) (by omega) j1
      exact ⟨M2, j3, j4⟩
theorem f63_eq {p : TShipPass} (hp : PassOk p) {gap : TSpan} {lo hi : Nat} (hgap : gap.Low = (lo : Int) ∧ gap.High = (hi : Int)) (hb : lo ≤ 60 ∧ hi ≤ 60) : ∀ (k d : Nat) (M : List ((Int × Int) × Bool)) (out : List TShipCall), k ≤ 100 → d ≤ 60 → out.length + k ≤ 1000 → Sound p lo hi M →
    ∃ M', Sound p lo hi M' ∧ f63 gap p (k + 1) ⟨(d : Int), (k : Int)⟩ M out = some (found (srch p lo hi k d) M' out)
  | 0, d, M, out, _, _, _, hM => ⟨M, hM, by
      show f63_F gap p (f63 gap p 0) ⟨(d : Int), ((0 : Nat) : Int)⟩ M out = _
      unfold f63_F
      have e0 : (((0 : Nat) : Int) == 0) = true := rfl
      rw [if_pos e0]
      simp [srch, found]⟩
  | k + 1, d, M, out, hk, hd, ho, hM => by
    have hun : f63 gap p (k + 1 + 1) ⟨(d : Int), ((k + 1 : Nat) : Int)⟩ M out = f63_F gap p (f63 gap p (k + 1)) ⟨(d : Int), ((k + 1 : Nat) : Int)⟩ M out := rfl
    rw [hun]
    unfold f63_F
    have e0 : (((k + 1 : Nat) : Int) == 0) = false := by rw [beq_eq_false_iff_ne]; omega
    simp only [e0, Bool.false_eq_true, if_false]
    by_cases hlk : (lookM M ((d : Int), ((k + 1 : Nat) : Int))).getD false = true
    · exact ⟨M, hM, by rw [if_pos hlk, hM d (k + 1) hlk]; rfl⟩
    · rw [if_neg hlk]
      have hw : IntKind.i64.wrap ((d : Int) + gap.Low) = ((d + lo : Nat) : Int) := by rw [hgap.1, wrap_id] <;> omega
      rw [hw]
      obtain ⟨M1, j1, j2⟩ := days_round (out := out) hp hgap (d := d) (k := k) ⟨hd, hb.1, hb.2, by omega⟩ (by omega) (srch p lo hi k) (Ok := Sound p lo hi)
        (rec := f63 gap p (k + 1)) (fun e M out' he hM' hl => f63_eq hp hgap hb k e M out' (by omega) (by have := hp.ns; omega) (by omega) hM') (cntD p lo hi d) (d + lo) M (by omega) rfl hM
      have hsr : srch p lo hi (k + 1) d = (List.range' (d + lo) (cntD p lo hi d)).findSome? (stepS p (srch p lo hi k)) := rfl
      rw [j2, hsr]
      cases hf : (List.range' (d + lo) (cntD p lo hi d)).findSome? (stepS p (srch p lo hi k)) with
      | some r => exact ⟨M1, j1, by simp [found]⟩
      | none =>
        refine ⟨updM M1 ((d : Int), ((k + 1 : Nat) : Int)) true, ?_, by simp [found]⟩
        intro j l hj
        rw [lookM_upd] at hj
        by_cases e : ((j : Int), (l : Int)) = ((d : Int), ((k + 1 : Nat) : Int))
        · have e1 : j = d := by have := congrArg Prod.fst e; simp at this; omega
          have e2 : l = k + 1 := by have := congrArg Prod.snd e; simp at this; omega
          subst e1; subst e2
          rw [hsr, hf]
        · rw [if_neg e] at hj; exact j1 j l hj
def planA (o : Option (List TShipCall)) : List TShipCall × Int := o.elim ([], 5) fun r => (r, 0)
theorem f18_eq (p : TShipPass) (g : TSpan) (many : Int) (hs : passShort p) : f18 p g many = some (if (passOk p && (spanR g 1 60 && inR many 1 8)) = true then planA (srch p g.Low.toNat g.High.toNat many.toNat 0) else ([], 2)) := by
  unfold f18
  rw [f60_eq p hs, f61_eq, f62_eq]
  cases hp : passOk p with
  | false => rfl
  | true =>
    cases hg : spanR g 1 60 with
    | false => rfl
    | true =>
      cases hm : inR many 1 8 with
      | false => rfl
      | true =>
        have hg' := hg
        unfold spanR at hg'
        simp only [Bool.and_eq_true, decide_eq_true_eq] at hg'
        rw [inR_iff] at hm
        obtain ⟨M, _, j⟩ := f63_eq (passOk_iff hp) (gap := g) (lo := g.Low.toNat) (hi := g.High.toNat) (by omega) (by omega) many.toNat 0 [] [] (by omega) (by omega) (by simp; omega) (by intro a b h; cases h)
        rw [show ((many.toNat : Nat) : Int) = many by omega] at j
        simp only [Option.bind_some, Bool.not_true, Bool.false_eq_true, if_false, Bool.and_self, if_true]
        rw [show (⟨((0 : Nat) : Int), many⟩ : TSpot) = ⟨0, many⟩ from rfl] at j
        rw [j, Option.bind_some]
        cases srch p g.Low.toNat g.High.toNat many.toNat 0 <;> simp [found, planA]
/-! ### The document's search -/
theorem doc_day {p : TShipPass} (hp : passOk p = true) {gap : TSpan} {lo hi k d e : Nat} (hgap : gap.Low = (lo : Int) ∧ gap.High = (hi : Int)) (hb : d ≤ 60 ∧ lo ≤ 60 ∧ hi ≤ 60 ∧ k ≤ 100) (he : e ≤ d + hi) (hn : e < p.Swell.length)
    {rec : TShipPass → TSpan → List TShipCall → Int → Option (List TShipCall × Bool)} {l : List TShipCall} (hl : l.length ≤ 1000) (f : Nat → Option (List TShipCall))
    (hrec : ∀ h, rec p gap (l ++ [⟨(e : Int), h⟩]) (k : Int) = some ((f e).elim ([], false) fun r => (l ++ (⟨(e : Int), h⟩ : TShipCall) :: r, true))) :
    f67_b0 rec (d : Int) p gap l ((k + 1 : Nat) : Int) (e : Int) = some ((stepS p f e).elim (.inl ((e + 1 : Nat) : Int)) fun r => .inr (.inr (l ++ r, true))) := by
  have hns := (passOk_iff hp).ns
  have hok : dayOk p (e : Int) = true := by
    rw [dayOk_iff]; omega
  have hw : IntKind.i64.wrap ((e : Int) + 1) = ((e + 1 : Nat) : Int) := by rw [wrap_id] <;> omega
  have hwl : IntKind.i64.wrap (((k + 1 : Nat) : Int) - 1) = (k : Int) := by rw [wrap_id] <;> omega
  have hwh : IntKind.i64.wrap ((d : Int) + gap.High) = ((d + hi : Nat) : Int) := by rw [hgap.2, wrap_id] <;> omega
  unfold f67_b0
  rw [if_pos (by simp only [decide_eq_true_eq, hwh]; omega)]
  simp only [Option.bind_some]
  rw [if_pos (by simp only [decide_eq_true_eq]; omega), f49_eq p _ _ hp hok]
  simp only [Option.bind_some, if_true]
  unfold stepS firstH
  cases hh : hoursL p (e : Int) (swAt p (e : Int)).High with
  | nil => simp [hw]
  | cons h t =>
    have e0 : (((h :: t : List Int).length : Int) == 0) = false := by simp; omega
    rw [e0]
    simp only [Bool.false_eq_true, if_false, List.head?_cons, Option.bind_some]
    have e1 : ix (h :: t) 0 = some h := rfl
    rw [e1, app_short _ _ (by simp; omega), Option.bind_some, Option.bind_some, app_short _ _ (by simp; omega), Option.bind_some, hwl]
    simp only [List.nil_append]
    have := hrec h
    rw [show (⟨p.Tides, p.Depth, p.Draft, p.Swell, ⟨p.Light.Low, p.Light.High⟩⟩ : TShipPass) = p from rfl, show (⟨gap.Low, gap.High⟩ : TSpan) = gap from rfl, this, Option.bind_some]
    cases f e <;> simp [hw]
theorem doc_days {p : TShipPass} (hp : passOk p = true) {gap : TSpan} {lo hi k d : Nat} (hgap : gap.Low = (lo : Int) ∧ gap.High = (hi : Int)) (hb : d ≤ 60 ∧ lo ≤ 60 ∧ hi ≤ 60 ∧ k ≤ 100)
    {rec : TShipPass → TSpan → List TShipCall → Int → Option (List TShipCall × Bool)} {l : List TShipCall} (hl : l.length ≤ 1000) (f : Nat → Option (List TShipCall))
    (hrec : ∀ (e : Nat) h, e < p.Swell.length → rec p gap (l ++ [⟨(e : Int), h⟩]) (k : Int) = some ((f e).elim ([], false) fun r => (l ++ (⟨(e : Int), h⟩ : TShipCall) :: r, true))) :
    ∀ (m e : Nat), e ≤ 200 → m = min (d + hi + 1) p.Swell.length - e →
      lp (f67_b0 rec (d : Int) p gap l ((k + 1 : Nat) : Int)) (e : Int) = some (((List.range' e m).findSome? (stepS p f)).elim (.inl ()) fun r => .inr (l ++ r, true))
  | 0, e, he, hm => by
    rw [lp_eq]
    have e1 : f67_b0 rec (d : Int) p gap l ((k + 1 : Nat) : Int) (e : Int) = some (.inr (.inl ())) := by
      unfold f67_b0
      have hw : IntKind.i64.wrap ((d : Int) + gap.High) = ((d + hi : Nat) : Int) := by rw [hgap.2, wrap_id] <;> omega
      simp only [hw]
      by_cases h1 : e ≤ d + hi
      · rw [if_pos (by simp only [decide_eq_true_eq]; omega), Option.bind_some, if_neg (by simp only [decide_eq_true_eq]; omega)]
      · rw [if_neg (by simp only [decide_eq_true_eq]; omega)]; rfl
    rw [e1]; rfl
  | m + 1, e, he, hm => by
    have j2 := doc_day (l := l) hp hgap hb (e := e) (by omega) (by omega) hl f (fun h => hrec e h (by omega))
    rw [lp_eq, j2, List.range'_succ, List.findSome?_cons]
    cases hs : stepS p f e with
    | some r => rfl
    | none => exact doc_days hp hgap hb hl f hrec m (e + 1) (by have := (passOk_iff hp).ns; omega) (by omega)
/-- The day of the last call so far. -/
def lastD (l : List TShipCall) (d : Nat) : Prop := match l.getLast? with
  | some c => c.Day = (d : Int)
  | none => d = 0
theorem f67_eq {p : TShipPass} (hp : passOk p = true) {gap : TSpan} {lo hi : Nat} (hgap : gap.Low = (lo : Int) ∧ gap.High = (hi : Int)) (hb : lo ≤ 60 ∧ hi ≤ 60) : ∀ (k d : Nat) (l : List TShipCall), k ≤ 100 → d ≤ 60 → l.length + k ≤ 1000 → lastD l d →
    f67 (k + 1) p gap l (k : Int) = some ((srch p lo hi k d).elim ([], false) fun r => (l ++ r, true))
  | 0, d, l, _, _, _, hM => by
      show f67_F (f67 0) p gap l ((0 : Nat) : Int) = _
      unfold f67_F
      have e0 : (((0 : Nat) : Int) == 0) = true := rfl
      rw [if_pos e0]
      simp [srch]
  | k + 1, d, l, hk, hd, ho, hM => by
    have hun : f67 (k + 1 + 1) p gap l ((k + 1 : Nat) : Int) = f67_F (f67 (k + 1)) p gap l ((k + 1 : Nat) : Int) := rfl
    rw [hun]
    unfold f67_F
    have e0 : (((k + 1 : Nat) : Int) == 0) = false := by rw [beq_eq_false_iff_ne]; omega
    simp only [e0, Bool.false_eq_true, if_false]
    have el : ((if (decide (0 < (l.length : Int))) = true then ((ix l (IntKind.i64.wrap ((l.length : Int) - 1))).bind fun y13 => some y13.Day) else (some 0) : Option Int)) = some (d : Int) := by
      unfold lastD at hM
      rcases List.eq_nil_or_concat l with rfl | ⟨l', c, rfl⟩
      · simp at hM; subst hM; rfl
      · rw [List.concat_eq_append] at *
        simp at hM
        rw [if_pos (by simp)]
        rw [show IntKind.i64.wrap ((((l' ++ [c]).length : Nat) : Int) - 1) = ((l'.length : Nat) : Int) by simp at ho ⊢; rw [wrap_id] <;> omega, ix_nat]
        simp [hM]
    rw [el, Option.bind_some]
    have hw : IntKind.i64.wrap ((d : Int) + gap.Low) = ((d + lo : Nat) : Int) := by rw [hgap.1, wrap_id] <;> omega
    rw [hw]
    have j2 := doc_days (l := l) hp hgap (d := d) (k := k) ⟨hd, hb.1, hb.2, by omega⟩ (by omega) (srch p lo hi k)
      (rec := f67 (k + 1)) (fun e h he => by
        have q := f67_eq hp hgap hb k e (l ++ [(⟨(e : Int), h⟩ : TShipCall)]) (by omega) (by have := (passOk_iff hp).ns; omega) (by simp; omega) (by unfold lastD; simp)
        rw [q]
        cases srch p lo hi k e <;> simp) (cntD p lo hi d) (d + lo) (by omega) rfl
    have hsr : srch p lo hi (k + 1) d = (List.range' (d + lo) (cntD p lo hi d)).findSome? (stepS p (srch p lo hi k)) := rfl
    rw [j2, hsr]
    cases hf : (List.range' (d + lo) (cntD p lo hi d)).findSome? (stepS p (srch p lo hi k)) <;> rfl
theorem f22_eq {p : TShipPass} (hp : passOk p = true) {g : TSpan} (hg : spanR g 1 60 = true) {many : Int} (hm : inR many 1 8 = true) : f22 p g many = some ((srch p g.Low.toNat g.High.toNat many.toNat 0).elim ([], false) fun r => (r, true)) := by
  unfold f22
  unfold spanR at hg
  simp only [Bool.and_eq_true, decide_eq_true_eq] at hg
  rw [inR_iff] at hm
  have j := f67_eq hp (gap := g) (lo := g.Low.toNat) (hi := g.High.toNat) (by omega) (by omega) many.toNat 0 [] (by omega) (by omega) (by simp; omega) rfl
  rw [show ((many.toNat : Nat) : Int) = many by omega] at j
  rw [j, Option.bind_some]
  cases srch p g.Low.toNat g.High.toNat many.toNat 0 <;> simp
theorem f21_eq (many : Int) : f21 many = some (inR many 1 8) := by
  unfold f21
  rw [f65_eq]; rfl
theorem srch_len {p : TShipPass} {lo hi : Nat} : ∀ (k d : Nat) (r : List TShipCall), srch p lo hi k d = some r → r.length = k
  | 0, d, r, h => by unfold srch at h; cases h; rfl
  | k + 1, d, r, h => by
    unfold srch at h
    obtain ⟨e, _, h2⟩ := List.exists_of_findSome?_eq_some h
    unfold stepS at h2
    obtain ⟨x, _, h4⟩ := Option.bind_eq_some_iff.1 h2
    obtain ⟨l, h5, rfl⟩ := Option.map_eq_some_iff.1 h4
    simp [srch_len k e l h5]
theorem f23_refl (a : List TShipCall) (ha : a.length ≤ 1073741824) : f23 a a = some true := by
  unfold f23
  rw [if_neg (by simp)]
  have h := lp_thru (body := f23_b0 a a) a (Sum.inl ()) (fun k => (k : Int)) (fun k y hy => by
    have hk := get_lt hy
    unfold f23_b0
    rw [if_pos (by simpa using hk), ix_nat, hy, wrap_nat hk ha]
    simp) (by unfold f23_b0; simp)
  rw [show (0 : Int) = ((0 : Nat) : Int) from rfl, h]; rfl
theorem shipCalled (p : TShipPass) (g : TSpan) (many : Int) (_ : okTShipPass p) (_ : okTSpan g) (_ : okI many) : f3 p g many = some true := by
  unfold f3
  by_cases hs : passShort p
  · simp only [f16_T hs, Option.bind_some, f18_eq p g many hs, f19_eq p hs, f20_eq, f21_eq]
    by_cases hm4 : 4 < many ∧ many ≤ 8
    · simp [hm4.1, hm4.2, known_pure]
    · have e4 : (if (decide (4 < many)) = true then (some (decide (many ≤ 8))) else (some false) : Option Bool) = some false := by
        by_cases h : 4 < many
        · have : ¬ many ≤ 8 := fun h2 => hm4 ⟨h, h2⟩
          simp [h]; omega
        · simp [h]
      rw [e4]
      cases hp : passOk p with
      | false => simp [known_pure]
      | true =>
        cases hg : spanR g 1 60 with
        | false => simp [known_pure]
        | true =>
          cases hm : inR many 1 8 with
          | false => simp [known_pure]
          | true =>
            simp only [f22_eq hp hg hm, Option.bind_some, Bool.not_true, Bool.false_eq_true, if_false, Bool.and_self, if_true, planA]
            cases h : srch p g.Low.toNat g.High.toNat many.toNat 0 with
            | none => simp [known_pure]
            | some r =>
              have := srch_len _ _ _ h
              rw [inR_iff] at hm
              simp [known_pure, f23_refl r (by omega)]
  · simp [f16_F hs, known_pure]
end Go.Proofs.Ytajejmbnmphngaa
