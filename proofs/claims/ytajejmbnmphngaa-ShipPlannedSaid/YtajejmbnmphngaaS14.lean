/-
  Ship's planned calls: the plan is open all along, and no other plan is earlier.
-/
import Derived.Test.YtajejmbnmphngaaS13
namespace Go.Proofs.Ytajejmbnmphngaa
open Go.RowKit
set_option linter.unusedSimpArgs false
set_option linter.unusedVariables false

def linkB (p : TShipPass) (g : TSpan) (t : Int) (y : TShipCall) : Bool := callOk p y && (sureC p y && inR (IntKind.i64.wrap (y.Day - t)) g.Low g.High)
def chainL (p : TShipPass) (g : TSpan) : Int → List TShipCall → Bool
  | _, [] => true
  | t, y :: l => linkB p g t y && chainL p g y.Day l
theorem goL_chain (p : TShipPass) (g : TSpan) : ∀ (ys : List TShipCall) (k : Nat) (t : Int),
    goL (fun _ y t => some (if linkB p g t y = true then Sum.inl y.Day else Sum.inr (Sum.inr false))) (fun _ => (Sum.inl () : Unit ⊕ Bool)) k ys t = some (if chainL p g t ys = true then .inl () else .inr false)
  | [], k, t => rfl
  | y :: ys, k, t => by
    unfold goL chainL
    cases h : linkB p g t y with
    | false => simp
    | true => simp [goL_chain p g ys (k + 1) y.Day]
theorem f53_eq {p : TShipPass} (hp : passOk p = true) (hs : passShort p) (g : TSpan) (many : Int) (l : List TShipCall) (hl : l.length ≤ 1073741824) : f53 p g many l = some (chainL p g 0 l && ((l.length : Int) == many)) := by
  unfold f53
  have h := lp_goL (body := f53_b0 p g l) (fun k (t : Int) => (t, (k : Int))) l (fun _ y t => some (if linkB p g t y = true then Sum.inl y.Day else Sum.inr (Sum.inr false))) (fun _ => (Sum.inl () : Unit ⊕ Bool)) (fun k t y hy => by
    have hk := get_lt hy
    unfold f53_b0
    rw [if_pos (by simpa using hk), ix_nat, hy, wrap_nat hk hl]
    simp only [Option.bind_some, f50_eq p y hs, f65_eq]
    unfold linkB
    cases hc : callOk p y with
    | false => simp
    | true =>
      rw [f84_eq (passOk_iff hp) hc]
      cases sureC p y <;> cases inR (IntKind.i64.wrap (y.Day - t)) g.Low g.High <;> simp) (fun t => by unfold f53_b0; simp) 0
  rw [show ((0 : Int), (0 : Int)) = ((0 : Int), ((0 : Nat) : Int)) from rfl, h, goL_chain]
  cases chainL p g 0 l <;> simp
/-! ### Which plan is earlier -/
def outE : List TShipCall → List TShipCall → Unit ⊕ Bool
  | x :: a, y :: b => if x.Day ≠ y.Day then .inr (decide (x.Day < y.Day)) else if x.Hour ≠ y.Hour then .inr (decide (x.Hour < y.Hour)) else outE a b
  | _, _ => .inl ()
theorem lp_early (a b : List TShipCall) (ha : a.length ≤ 1073741824) : ∀ (m k : Nat), m + k = a.length → lp (f54_b0 a b) (k : Int) = some (outE (a.drop k) (b.drop k))
  | 0, k, hk => by
    rw [lp_eq]
    have e : f54_b0 a b (k : Int) = some (.inr (.inl ())) := by
      unfold f54_b0
      rw [if_neg (by simp; omega)]; rfl
    rw [e, List.drop_eq_nil_of_le (by omega)]
    cases b.drop k <;> rfl
  | m + 1, k, hk => by
    rw [lp_eq]
    have h1 : k < a.length := by omega
    by_cases h2 : k < b.length
    · rw [List.drop_eq_getElem_cons h1, List.drop_eq_getElem_cons h2]
      have e : f54_b0 a b (k : Int) = some (if a[k].Day ≠ b[k].Day then .inr (.inr (decide (a[k].Day < b[k].Day))) else if a[k].Hour ≠ b[k].Hour then .inr (.inr (decide (a[k].Hour < b[k].Hour))) else .inl ((k + 1 : Nat) : Int)) := by
        unfold f54_b0
        rw [if_pos (by simpa using h1)]
        simp only [Option.bind_some]
        rw [if_pos (by simpa using h2), ix_nat, ix_nat, List.getElem?_eq_getElem h1, List.getElem?_eq_getElem h2, wrap_nat h1 ha]
        simp only [Option.bind_some]
        by_cases q1 : a[k].Day = b[k].Day
        · by_cases q2 : a[k].Hour = b[k].Hour
          · simp [q1, q2]
          · simp [q1, q2]
        · simp [q1]
      rw [e]
      unfold outE
      by_cases q1 : a[k].Day = b[k].Day
      · by_cases q2 : a[k].Hour = b[k].Hour
        · simp only [q1, q2, ne_eq, not_true_eq_false, if_false]
          exact lp_early a b ha m (k + 1) (by omega)
        · simp [q1, q2]
      · simp [q1]
    · have e : f54_b0 a b (k : Int) = some (.inr (.inl ())) := by
        unfold f54_b0
        rw [if_pos (by simpa using h1)]
        simp only [Option.bind_some]
        rw [if_neg (by simpa using h2)]
      rw [e, List.drop_eq_nil_of_le (by omega : b.length ≤ k)]
      cases a.drop k <;> rfl
theorem f54_F {a b : List TShipCall} (ha : a.length ≤ 1073741824) (hab : a.length = b.length) (h : outE a b ≠ .inr true) : f54 a b = some false := by
  unfold f54
  have := lp_early a b ha a.length 0 (by omega)
  rw [show (0 : Int) = ((0 : Nat) : Int) from rfl, this]
  simp only [List.drop_zero, Option.bind_some]
  cases hq : outE a b with
  | inl u => simp [hab]
  | inr v =>
    cases v with
    | false => rfl
    | true => exact absurd hq h
/-! ### What the search finds -/
theorem find_rng {α : Type} {g : Nat → Option α} {r : α} : ∀ {m s : Nat}, (List.range' s m).findSome? g = some r → ∃ e, s ≤ e ∧ e < s + m ∧ g e = some r ∧ ∀ e', s ≤ e' → e' < e → g e' = none
  | 0, s, h => by simp at h
  | m + 1, s, h => by
    rw [List.range'_succ, List.findSome?_cons] at h
    cases hg : g s with
    | some x =>
      rw [hg] at h
      cases h
      exact ⟨s, by omega, by omega, hg, fun e' h1 h2 => by omega⟩
    | none =>
      rw [hg] at h
      obtain ⟨e, h1, h2, h3, h4⟩ := find_rng h
      refine ⟨e, by omega, by omega, h3, fun e' q1 q2 => ?_⟩
      by_cases q : e' = s
      · rw [q, hg]
      · exact h4 e' (by omega) q2
theorem find_rng_none {α : Type} {g : Nat → Option α} {m s : Nat} (h : (List.range' s m).findSome? g = none) (e : Nat) (h1 : s ≤ e) (h2 : e < s + m) : g e = none :=
  List.findSome?_eq_none_iff.1 h e (List.mem_range'_1.2 ⟨h1, h2⟩)
theorem link_iff {p : TShipPass} (hp : PassOk p) {g : TSpan} {lo hi d : Nat} (hg : g.Low = (lo : Int) ∧ g.High = (hi : Int)) (hd : d ≤ 60) {y : TShipCall} : linkB p g (d : Int) y = true ↔
    ∃ e : Nat, y.Day = (e : Int) ∧ d + lo ≤ e ∧ e < d + lo + cntD p lo hi d ∧ 0 ≤ y.Hour ∧ y.Hour ≤ 23 ∧ sureC p y = true := by
  have hns := hp.ns
  unfold linkB callOk cntD
  simp only [Bool.and_eq_true, dayOk_iff, inR_iff]
  constructor
  · rintro ⟨⟨⟨h1, h2⟩, h3, h4⟩, h5, h6, h7⟩
    rw [wrap_id (by omega) (by omega)] at h6 h7
    exact ⟨y.Day.toNat, by omega, by omega, by omega, h3, h4, h5⟩
  · rintro ⟨e, h1, h2, h3, h4, h5, h6⟩
    rw [wrap_id (by omega) (by omega)]
    exact ⟨⟨⟨by omega, by omega⟩, h4, h5⟩, h6, by omega, by omega⟩
theorem step_none {p : TShipPass} {y : TShipCall} {e : Nat} (hy : y.Day = (e : Int)) (h0 : 0 ≤ y.Hour) (h1 : y.Hour ≤ 23) (hs : sureC p y = true) : ∃ h, firstH p e = some h ∧ h ≤ y.Hour := by
  have ey : (⟨(e : Int), y.Hour⟩ : TShipCall) = y := by rw [← hy]
  cases hf : firstH p e with
  | none =>
    have := firstH_none hf h0 h1
    rw [ey, hs] at this; cases this
  | some h =>
    refine ⟨h, rfl, ?_⟩
    obtain ⟨q1, q2, q3, q4⟩ := firstH_some hf
    by_cases hh : h ≤ y.Hour
    · exact hh
    · have := q4 y.Hour h0 (by omega)
      rw [ey, hs] at this; cases this
theorem cnt_lt {p : TShipPass} {lo hi d e : Nat} (h : e < d + lo + cntD p lo hi d) (h2 : d + lo ≤ e) : e < p.Swell.length := by
  unfold cntD at h; omega
theorem srch_none {p : TShipPass} (hp : PassOk p) {g : TSpan} {lo hi : Nat} (hg : g.Low = (lo : Int) ∧ g.High = (hi : Int)) : ∀ (k d : Nat) (l : List TShipCall), d ≤ 60 → srch p lo hi k d = none → l.length = k → chainL p g (d : Int) l = false
  | 0, d, l, _, h, _ => by unfold srch at h; cases h
  | k + 1, d, [], _, _, h => by simp at h
  | k + 1, d, y :: l, hd, h, hl => by
    cases hc : chainL p g (d : Int) (y :: l) with
    | false => rfl
    | true =>
      exfalso
      unfold chainL at hc
      rw [Bool.and_eq_true, link_iff hp hg hd] at hc
      obtain ⟨⟨e, h1, h2, h3, h4, h5, h6⟩, h7⟩ := hc
      obtain ⟨x, hx, _⟩ := step_none h1 h4 h5 h6
      unfold srch at h
      have := find_rng_none h e h2 h3
      unfold stepS at this
      rw [hx, Option.bind_some, Option.map_eq_none_iff] at this
      have q := srch_none hp hg k e l (by have := cnt_lt h3 h2; have := hp.ns; omega) this (by simpa using hl)
      rw [← h1, h7] at q
      cases q
theorem srch_ok {p : TShipPass} (hp : PassOk p) {g : TSpan} {lo hi : Nat} (hg : g.Low = (lo : Int) ∧ g.High = (hi : Int)) : ∀ (k d : Nat) (r : List TShipCall), d ≤ 60 → srch p lo hi k d = some r → chainL p g (d : Int) r = true
  | 0, d, r, _, h => by unfold srch at h; cases h; rfl
  | k + 1, d, r, hd, h => by
    unfold srch at h
    obtain ⟨e, h1, h2, h3, _⟩ := find_rng h
    unfold stepS at h3
    obtain ⟨x, h4, h5⟩ := Option.bind_eq_some_iff.1 h3
    obtain ⟨l, h6, rfl⟩ := Option.map_eq_some_iff.1 h5
    obtain ⟨q1, q2, q3, _⟩ := firstH_some h4
    unfold chainL
    rw [Bool.and_eq_true, link_iff hp hg hd]
    exact ⟨⟨e, rfl, h1, h2, q1, q2, q3⟩, srch_ok hp hg k e l (by have := cnt_lt h2 h1; have := hp.ns; omega) h6⟩
theorem srch_min {p : TShipPass} (hp : PassOk p) {g : TSpan} {lo hi : Nat} (hg : g.Low = (lo : Int) ∧ g.High = (hi : Int)) : ∀ (k d : Nat) (r l : List TShipCall), d ≤ 60 → srch p lo hi k d = some r → l.length = k → chainL p g (d : Int) l = true → outE l r ≠ .inr true
  | 0, d, r, l, _, h, hl, _ => by
    have : l = [] := List.length_eq_zero_iff.1 hl
    subst this
    unfold outE; simp
  | k + 1, d, r, [], _, _, hl, _ => by simp at hl
  | k + 1, d, r, y :: l, hd, h, hl, hc => by
    unfold srch at h
    obtain ⟨e, h1, h2, h3, h4⟩ := find_rng h
    unfold stepS at h3
    obtain ⟨x, h5, h6⟩ := Option.bind_eq_some_iff.1 h3
    obtain ⟨r', h7, rfl⟩ := Option.map_eq_some_iff.1 h6
    unfold chainL at hc
    rw [Bool.and_eq_true, link_iff hp hg hd] at hc
    obtain ⟨⟨e', c1, c2, c3, c4, c5, c6⟩, c7⟩ := hc
    obtain ⟨x', hx, hx2⟩ := step_none c1 c4 c5 c6
    have he' : e' ≤ 60 := by have := cnt_lt c3 c2; have := hp.ns; omega
    unfold outE
    by_cases q : e' < e
    · have := h4 e' c2 q
      unfold stepS at this
      rw [hx, Option.bind_some, Option.map_eq_none_iff] at this
      have q := srch_none hp hg k e' l he' this (by simpa using hl)
      rw [← c1, c7] at q
      cases q
    · by_cases q2 : y.Day = (e : Int)
      · rw [if_neg (by simpa using q2)]
        have ee : e' = e := by omega
        subst ee
        rw [h5] at hx
        cases hx
        by_cases q3 : y.Hour = x
        · rw [if_neg (by simpa using q3)]
          exact srch_min hp hg k e' r' l he' h7 (by simpa using hl) (by rw [← c1]; exact c7)
        · rw [if_pos (by simpa using q3)]
          simp; omega
      · rw [if_pos (by simpa using q2)]
        simp; omega
theorem chain_sure {p : TShipPass} {g : TSpan} : ∀ {l : List TShipCall} {t : Int}, chainL p g t l = true → ∀ y ∈ l, callOk p y = true ∧ sureC p y = true
  | [], _, _, y, h => by cases h
  | z :: l, t, hc, y, h => by
    unfold chainL linkB at hc
    simp only [Bool.and_eq_true] at hc
    rcases List.mem_cons.1 h with rfl | h
    · exact ⟨hc.1.1, hc.1.2.1⟩
    · exact chain_sure hc.2 y h
theorem pct {a q : Int} (ha : 0 ≤ a) (ha2 : a ≤ 1000) (hq : 0 ≤ q) (hq2 : q ≤ 100) : IntKind.i64.wrap (a * q) = a * q ∧ 0 ≤ (a * q).tdiv 100 ∧ (a * q).tdiv 100 ≤ a := by
  have h1 : 0 ≤ a * q := Int.mul_nonneg ha hq
  have h2 : a * q ≤ a * 100 := Int.mul_le_mul_of_nonneg_left hq2 ha
  rw [Int.tdiv_eq_ediv_of_nonneg h1]
  generalize a * q = x at *
  refine ⟨by rw [wrap_id] <;> omega, by omega, by omega⟩
theorem shipPlanned (p : TShipPass) (g : TSpan) (many : Int) (other : List TShipCall) (pc : Int) (_ : okTShipPass p) (_ : okTSpan g) (_ : okI many) (_ : ∀ y ∈ other, okTShipCall y) (_ : okI pc) : f14 p g many other pc = some true := by
  unfold f14
  by_cases hs : passShort p
  · simp only [f16_T hs, Option.bind_some, f18_eq p g many hs, f19_eq p hs, f20_eq, f21_eq]
    cases hp : passOk p with
    | false => simp [known_pure]
    | true =>
      cases hg : spanR g 1 60 with
      | false => simp [known_pure]
      | true =>
        cases hm : inR many 1 8 with
        | false => simp [known_pure]
        | true =>
          by_cases hl : (10 : Int) < (other.length : Int)
          · simp [hl, known_pure]
          · by_cases h0 : pc < 0
            · simp [h0, known_pure]
            · by_cases h1 : 100 < pc
              · simp [h1, known_pure]
              · simp only [hl, h0, h1, decide_false, Bool.false_eq_true, if_false, Bool.not_true, Bool.and_self, if_true, Option.bind_some, planA]
                have hP := passOk_iff hp
                have hg' := hg
                unfold spanR at hg'
                simp only [Bool.and_eq_true, decide_eq_true_eq] at hg'
                rw [inR_iff] at hm
                have hgg : g.Low = ((g.Low.toNat : Nat) : Int) ∧ g.High = ((g.High.toNat : Nat) : Int) := by omega
                rw [f53_eq hp hs g many other (by omega), Option.bind_some]
                cases h : srch p g.Low.toNat g.High.toNat many.toNat 0 with
                | none =>
                  have hno : (chainL p g 0 other && ((other.length : Int) == many)) = false := by
                    cases hq : ((other.length : Int) == many) with
                    | false => simp
                    | true =>
                      have e : (other.length : Int) = many := by simpa using hq
                      have := srch_none hP hgg many.toNat 0 other (by omega) h (by omega)
                      rw [show ((0 : Nat) : Int) = 0 from rfl] at this
                      rw [this]; rfl
                  rw [hno]
                  simp [known_pure]
                | some r =>
                  have hrl := srch_len _ _ _ h
                  have hrc := srch_ok hP hgg many.toNat 0 r (by omega) h
                  rw [show ((0 : Nat) : Int) = 0 from rfl] at hrc
                  have hrm : (r.length : Int) = many := by omega
                  have er : ((r.length : Int) != many) = false := by simp [hrm]
                  have er2 : ((r.length : Int) == many) = true := by simp [hrm]
                  simp only [Option.elim_some, er, f53_eq hp hs g many r (by omega), hrc, er2, Bool.false_eq_true, if_false, Option.bind_some, Bool.and_self, Bool.not_true, show ((0 : Int) != 0) = false from rfl]
                  have hfin : (if (chainL p g 0 other && ((other.length : Int) == many)) = true then ((f54 other r).bind fun y50 => some y50) else (some false) : Option Bool) = some false := by
                    cases hq : (chainL p g 0 other && ((other.length : Int) == many)) with
                    | false => rfl
                    | true =>
                      rw [Bool.and_eq_true] at hq
                      have e : (other.length : Int) = many := by simpa using hq.2
                      have := srch_min hP hgg many.toNat 0 r other (by omega) h (by omega) hq.1
                      rw [if_pos rfl, f54_F (by omega) (by omega) this]; rfl
                  rw [hfin]
                  simp only [Option.bind_some, Bool.false_eq_true, if_false]
                  have hlp := lp_thru (body := f14_b0 p pc (r, 0)) r (Sum.inl ()) (fun k => (k : Int)) (fun k y hy => by
                    have hk := get_lt hy
                    obtain ⟨c1, c2⟩ := chain_sure hrc y (List.mem_of_getElem? hy)
                    obtain ⟨s1, s2, s3, s4⟩ := sw_ix hP (callOk_day c1)
                    unfold f14_b0
                    simp only
                    rw [if_pos (by simpa using hk), ix_nat, hy]
                    simp only [Option.bind_some, s1]
                    have w1 : IntKind.i64.wrap ((swAt p y.Day).High - (swAt p y.Day).Low) = (swAt p y.Day).High - (swAt p y.Day).Low := by rw [wrap_id] <;> omega
                    obtain ⟨m1, m2, m3⟩ := pct (a := (swAt p y.Day).High - (swAt p y.Day).Low) (q := pc) (by omega) (by omega) (by omega) (by omega)
                    rw [w1, m1]
                    generalize (((swAt p y.Day).High - (swAt p y.Day).Low) * pc).tdiv 100 = z at *
                    have w2 : IntKind.i64.wrap z = z := by rw [wrap_id] <;> omega
                    have w3 : IntKind.i64.wrap ((swAt p y.Day).Low + z) = (swAt p y.Day).Low + z := by rw [wrap_id] <;> omega
                    have hin : inR ((swAt p y.Day).Low + z) (swAt p y.Day).Low (swAt p y.Day).High = true := by rw [inR_iff]; omega
                    have hgo : goes p y ((swAt p y.Day).Low + z) = true := goes_le (b := (swAt p y.Day).High) (by omega) c2
                    rw [w2, w3, f52_eq p y _ hs, hp, c1, hin, hgo, wrap_nat hk (by omega)]
                    rfl) (by unfold f14_b0; simp)
                  rw [show (0 : Int) = ((0 : Nat) : Int) from rfl] at *
                  rw [hlp]
                  simp [known_pure]
  · simp [f16_F hs, known_pure]
end Go.Proofs.Ytajejmbnmphngaa
