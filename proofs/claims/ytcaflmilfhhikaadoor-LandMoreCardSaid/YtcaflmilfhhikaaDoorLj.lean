/-
  What the program and the document tell of lines and heirs.
-/
import Derived.Test.YtcaflmilfhhikaaDoorLi
namespace Go.Proofs.YtcaflmilfhhikaaDoor
open Go.RowKit
set_option linter.unusedVariables false

def castL (L : List Nat) : List Int := L.map fun n : Nat => (n : Int)
theorem cast_len (L : List Nat) : (castL L).length = L.length := by simp [castL]
theorem cast_ix {L : List Nat} {k x : Nat} (h : L[k]? = some x) : ix (castL L) (k : Int) = some (x : Int) := by
  unfold castL
  rw [ix_nat, List.getElem?_map, h]; rfl
/-- The place of the first thing for which something holds, as the program finds it. -/
def posN (p : Nat → Bool) : List Nat → Nat → Nat → Nat
  | [], _, a => a
  | o :: r, k, a => posN p r (k + 1) (if p o = true then (if k < a then k else a) else a)
theorem posN_le (p : Nat → Bool) : ∀ (r : List Nat) (k a : Nat), a ≤ k → posN p r k a = a
  | [], _, _, _ => rfl
  | o :: r, k, a, h => by
    unfold posN
    have e : (if p o = true then (if k < a then k else a) else a) = a := by
      rw [if_neg (show ¬ k < a by omega)]
      split <;> rfl
    rw [e]
    exact posN_le p r (k + 1) a (by omega)
theorem posN_eq (p : Nat → Bool) : ∀ (r : List Nat) (k : Nat), posN p r k (k + r.length) = k + r.findIdx p
  | [], k => by simp [posN]
  | o :: r, k => by
    unfold posN
    rw [List.findIdx_cons]
    by_cases h : p o = true
    · rw [if_pos h, if_pos (show k < k + (o :: r).length by simp), posN_le p r (k + 1) k (by omega), h]
      rfl
    · have h' : p o = false := by simpa using h
      have ih := posN_eq p r (k + 1)
      rw [if_neg h, h', show k + (o :: r).length = k + 1 + r.length by simp; omega, ih]
      show k + 1 + r.findIdx p = k + (r.findIdx p + 1)
      omega
set_option linter.unusedSectionVars false
section
variable {b : TLandBook} (ok : bookOk b = true) (ha : agreeB b = true) {t : Tb 64} (ht : tabOf t = tabAll b)
include ok ha ht
theorem place_loop {i : Nat} (hi : i < b.Events.length) {L : List Nat} (hL : ∀ x ∈ L, x < b.Events.length) (hl : L.length ≤ 1000) (u : Tb 64) : ∀ (r : List Nat) (k a : Nat), L.drop k = r →
    lp (f35_b1 (castL L, (i : Int), u)) ((a : Int), (k : Int), t) = some (if r.all (fun o => bfr b i o || bfr b o i) = true then .inl (((posN (fun o => bfr b i o) r k a : Nat) : Int), t) else .inr ([], 0, 8))
  | [], k, a, hd => by
    have hk : L.length ≤ k := by have := List.drop_eq_nil_iff.1 hd; exact this
    rw [lp_eq]
    have e : f35_b1 (castL L, (i : Int), u) ((a : Int), (k : Int), t) = some (.inr (.inl ((a : Int), t))) := by
      unfold f35_b1
      rw [if_neg (by simp only [decide_eq_true_eq, cast_len]; omega)]
    rw [e]; rfl
  | o :: r, k, a, hd => by
    have hn := (book_parts ok).2.1.2
    have hq : L[k]? = some o := by
      have := congrArg (fun z => z[0]?) hd
      simpa using this
    have hlt := (List.getElem?_eq_some_iff.1 hq).1
    have hd' : L.drop (k + 1) = r := by
      have := congrArg List.tail hd
      simpa using this
    have ho := hL o (List.mem_of_getElem? hq)
    have hs : Small (tabOf t) := by rw [ht]; exact tab_small ok
    have e1 := f70_eq t (a := i) (c := o) (by omega) (by omega) hs
    have e2 := f70_eq t (a := o) (c := i) (by omega) (by omega) hs
    rw [ht] at e1 e2
    rw [lp_eq]
    by_cases h1 : bfr b i o = true
    · have h1' : decide (0 < -tabAll b o i) = true := by
        unfold bfr at h1
        rw [decide_eq_true_eq] at h1 ⊢
        omega
      have e : f35_b1 (castL L, (i : Int), u) ((a : Int), (k : Int), t) = some (.inl (((if k < a then k else a : Nat) : Int), ((k + 1 : Nat) : Int), t)) := by
        unfold f35_b1
        rw [if_pos (by simp only [decide_eq_true_eq, cast_len]; omega)]
        simp only [cast_ix hq, e1, h1', Option.bind_some, if_true, Sum.elim_inl, wrap_cnt (show k ≤ 1000 by omega)]
        congr 3
        by_cases hka : k < a
        · rw [if_pos hka, if_pos (by omega)]
        · rw [if_neg hka, if_neg (by omega)]
      rw [e]
      show lp (f35_b1 (castL L, (i : Int), u)) (((if k < a then k else a : Nat) : Int), ((k + 1 : Nat) : Int), t) = _
      rw [place_loop hi hL hl u r (k + 1) _ hd']
      rw [List.all_cons, h1, posN, if_pos h1]
      rfl
    · have h1' : bfr b i o = false := by simpa using h1
      have h2 : decide (0 < -tabAll b o i) = false := by
        unfold bfr at h1'
        rw [decide_eq_false_iff_not] at h1' ⊢
        omega
      by_cases h3 : bfr b o i = true
      · have h4 : decide (-tabAll b i o ≤ 0) = false := by
          unfold bfr at h3
          rw [decide_eq_true_eq] at h3
          rw [decide_eq_false_iff_not]
          omega
        have e : f35_b1 (castL L, (i : Int), u) ((a : Int), (k : Int), t) = some (.inl ((a : Int), ((k + 1 : Nat) : Int), t)) := by
          unfold f35_b1
          rw [if_pos (by simp only [decide_eq_true_eq, cast_len]; omega)]
          simp only [cast_ix hq, e1, e2, h2, h4, Option.bind_some, Bool.false_eq_true, if_false, Sum.elim_inl, wrap_cnt (show k ≤ 1000 by omega)]
        rw [e]
        show lp (f35_b1 (castL L, (i : Int), u)) ((a : Int), ((k + 1 : Nat) : Int), t) = _
        rw [place_loop hi hL hl u r (k + 1) _ hd']
        rw [List.all_cons, h1', h3, posN, if_neg h1]
        rfl
      · have h3' : bfr b o i = false := by simpa using h3
        have h4 : decide (-tabAll b i o ≤ 0) = true := by
          unfold bfr at h3'
          rw [decide_eq_false_iff_not] at h3'
          rw [decide_eq_true_eq]
          omega
        have e : f35_b1 (castL L, (i : Int), u) ((a : Int), (k : Int), t) = some (.inr (.inr ([], 0, 8))) := by
          unfold f35_b1
          rw [if_pos (by simp only [decide_eq_true_eq, cast_len]; omega)]
          simp only [cast_ix hq, e1, e2, h2, h4, Option.bind_some, Bool.false_eq_true, if_false, if_true, Sum.elim_inr]
        rw [e, List.all_cons, h1', h3']
        rfl
theorem linP_late {strip : Int} {j : Nat} (h : linP b strip j = none) : ∀ m, linP b strip (j + m) = none
  | 0 => h
  | m + 1 => by
    rw [show j + (m + 1) = (j + m) + 1 by omega]
    unfold linP
    rw [linP_late h m]
    rfl
theorem line_loop (strip : Int) : ∀ (m j : Nat) (L : List Nat), j + m = b.Events.length → linP b strip j = some L →
    lp (f35_b0 b strip) (castL L, (j : Int), t) = some (match linP b strip b.Events.length with | some L' => .inl (castL L', t) | none => .inr ([], 0, 8))
  | 0, j, L, hj, hL => by
    have : j = b.Events.length := by omega
    subst this
    rw [hL, lp_eq]
    have e : f35_b0 b strip (castL L, (b.Events.length : Int), t) = some (.inr (.inl (castL L, t))) := by
      unfold f35_b0
      rw [if_neg (by simp)]
    rw [e]
  | m + 1, j, L, hj, hL => by
    have hn := (book_parts ok).2.1.2
    obtain ⟨eL, _⟩ := lin_same ok ha strip (by omega) hL
    have hlen : L.length ≤ j := by rw [eL]; exact linR_len b strip j
    have hin : ∀ x ∈ L, x < b.Events.length := fun x hx => by
      rw [eL] at hx
      have := (mem_linR.1 hx).1
      omega
    obtain ⟨q, q1, q2, q3, q4⟩ := event_at ok (show j < b.Events.length by omega)
    rw [lp_eq]
    by_cases hs : (stp b j != strip) = true
    · have e : f35_b0 b strip (castL L, (j : Int), t) = some (.inl (castL L, ((j + 1 : Nat) : Int), t)) := by
        unfold f35_b0
        rw [if_pos (by simp only [decide_eq_true_eq]; omega)]
        simp only [q1, q3, hs, if_true, Option.bind_some, Sum.elim_inl, wrap_cnt (show j ≤ 1000 by omega)]
      rw [e]
      exact line_loop strip m (j + 1) L (by omega) (by unfold linP; rw [hL, Option.bind_some, if_pos hs])
    · have hs' : (stp b j != strip) = false := by simpa using hs
      have hpl := place_loop ok ha ht (show j < b.Events.length by omega) hin (by omega) t L 0 L.length rfl
      have hpos := posN_eq (fun o => bfr b j o) L 0
      rw [Nat.zero_add, Nat.zero_add] at hpos
      rw [hpos] at hpl
      have hpl' : lp (f35_b1 (castL L, (j : Int), t)) (((castL L).length : Int), 0, t) = some (if L.all (fun o => bfr b j o || bfr b o j) = true then .inl (((L.findIdx fun o => bfr b j o : Nat) : Int), t) else .inr ([], 0, 8)) := by rw [cast_len]; exact hpl
      by_cases hall : L.all (fun o => bfr b j o || bfr b o j) = true
      · rw [if_pos hall] at hpl'
        have hfi : L.findIdx (fun o => bfr b j o) ≤ L.length := List.findIdx_le_length
        have hins : insL (castL L) ((L.findIdx (fun o => bfr b j o) : Nat) : Int) (j : Int) = some (castL (L.take (L.findIdx fun o => bfr b j o) ++ j :: L.drop (L.findIdx fun o => bfr b j o))) := by
          unfold insL
          rw [if_pos ⟨by omega, by rw [Int.toNat_natCast, cast_len]; exact hfi, by rw [cast_len]; omega⟩, Int.toNat_natCast]
          unfold castL
          rw [List.map_append, List.map_cons, List.map_take, List.map_drop]
        have e : f35_b0 b strip (castL L, (j : Int), t) = some (.inl (castL (L.take (L.findIdx fun o => bfr b j o) ++ j :: L.drop (L.findIdx fun o => bfr b j o)), ((j + 1 : Nat) : Int), t)) := by
          unfold f35_b0
          rw [if_pos (by simp only [decide_eq_true_eq]; omega)]
          simp only [q1, q3, hs', Bool.false_eq_true, if_false, Option.bind_some, hpl', Sum.elim_inl, hins, wrap_cnt (show j ≤ 1000 by omega)]
        rw [e]
        exact line_loop strip m (j + 1) _ (by omega) (by unfold linP; rw [hL, Option.bind_some, if_neg hs]; unfold insP; rw [if_pos hall])
      · rw [if_neg hall] at hpl'
        have e : f35_b0 b strip (castL L, (j : Int), t) = some (.inr (.inr ([], 0, 8))) := by
          unfold f35_b0
          rw [if_pos (by simp only [decide_eq_true_eq]; omega)]
          simp only [q1, q3, hs', Bool.false_eq_true, if_false, Option.bind_some, hpl', Sum.elim_inr]
        have hnone : linP b strip (j + 1) = none := by unfold linP; rw [hL, Option.bind_some, if_neg hs]; unfold insP; rw [if_neg hall]
        have := linP_late ok ha ht hnone m
        rw [show j + 1 + m = b.Events.length by omega] at this
        rw [e, this]
end
/-! ### The first that does not follow -/
def folB (b : TLandBook) (L : List Nat) : Int := match (List.range' 1 (L.length - 1)).find? fun k => !mayB b (hol b (L.getD (k - 1) 0)) (hol b (L.getD k 0)) with
  | none => -1
  | some k => (k : Int)
theorem lp_from {σ ρ : Type} {body : σ → Option (σ ⊕ ρ)} (n : Nat) (H : Nat → Bool) (r : ρ) (f : Nat → ρ) (enc : Nat → σ) (h1 : ∀ k, 1 ≤ k → k < n → body (enc k) = some (if H k = true then .inr (f k) else .inl (enc (k + 1)))) (h2 : ∀ k, 1 ≤ k → n ≤ k → body (enc k) = some (.inr r)) :
    lp body (enc 1) = some (match (List.range' 1 (n - 1)).find? H with | none => r | some k => f k) := by
  have key : ∀ m k, 1 ≤ k → k + m = max n k → lp body (enc k) = some (match (List.range' k m).find? H with | none => r | some k => f k) := by
    intro m
    induction m with
    | zero =>
      intro k hk hm
      rw [lp_eq, h2 k hk (by omega)]
      rfl
    | succ m ih =>
      intro k hk hm
      rw [lp_eq, h1 k hk (by omega), List.range'_succ, List.find?_cons]
      by_cases h : H k = true
      · rw [if_pos h, h]
      · have h' : H k = false := by simpa using h
        rw [if_neg h, h']
        exact ih (k + 1) (by omega) (by omega)
  exact key (n - 1) 1 (Nat.le_refl _) (by omega)
theorem getD_at {L : List Nat} {k : Nat} (hk : k < L.length) : L[k]? = some (L.getD k 0) := by rw [List.getElem?_eq_getElem hk]; simp [hk]
theorem fol_loop {b : TLandBook} (ok : bookOk b = true) {L : List Nat} (hL : ∀ x ∈ L, x < b.Events.length) (hl : L.length ≤ 1000) (t u : Tb 64) (m : List (Int × Bool)) :
    lp (f35_b2 (castL L, u) b) (1, t, m) = some (match (List.range' 1 (L.length - 1)).find? fun k => !mayB b (hol b (L.getD (k - 1) 0)) (hol b (L.getD k 0)) with | none => (.inl (t, m) : (Tb 64 × List (Int × Bool)) ⊕ (List Int × Int × Int)) | some k => .inr (castL L, (k : Int), 0)) := by
  have h := lp_from (body := f35_b2 (castL L, u) b) L.length (fun k => !mayB b (hol b (L.getD (k - 1) 0)) (hol b (L.getD k 0))) (.inl (t, m) : (Tb 64 × List (Int × Bool)) ⊕ (List Int × Int × Int)) (fun k => .inr (castL L, (k : Int), 0)) (fun k => ((k : Int), t, m)) (fun k h1 h2 => ?_) (fun k h1 h2 => ?_)
  · exact h
  · have a1 := getD_at (L := L) (k := k) h2
    have a2 := getD_at (L := L) (k := k - 1) (by omega)
    obtain ⟨p, p1, p2, _, p4⟩ := event_at ok (hL _ (List.mem_of_getElem? a1))
    obtain ⟨q, q1, q2, _, q4⟩ := event_at ok (hL _ (List.mem_of_getElem? a2))
    unfold f35_b2
    rw [if_pos (by simp only [decide_eq_true_eq, cast_len]; omega)]
    have e73 := f73_eq ok p4 q4
    rw [pred_pos (by omega) (by omega)]
    simp only [cast_ix a1, cast_ix a2, p1, q1, p2, q2, e73, Option.bind_some, wrap_cnt (show k ≤ 1000 by omega)]
    cases mayB b (hol b (L.getD (k - 1) 0)) (hol b (L.getD k 0)) <;> rfl
  · unfold f35_b2
    rw [if_neg (by simp only [decide_eq_true_eq, cast_len]; omega)]
theorem f41_eq {b : TLandBook} (ok : bookOk b = true) {L : List Nat} (hL : ∀ x ∈ L, x < b.Events.length) (hl : L.length ≤ 1000) : f41 b (castL L) = some (folB b L) := by
  unfold f41
  have h := lp_from (body := f41_b0 b (castL L)) L.length (fun k => !mayB b (hol b (L.getD (k - 1) 0)) (hol b (L.getD k 0))) (.inl () : Unit ⊕ Int) (fun k => .inr (k : Int)) (fun k => (k : Int)) (fun k h1 h2 => ?_) (fun k h1 h2 => ?_)
  · have h' : lp (f41_b0 b (castL L)) 1 = _ := h
    rw [h', Option.bind_some]
    unfold folB
    cases (List.range' 1 (L.length - 1)).find? fun k => !mayB b (hol b (L.getD (k - 1) 0)) (hol b (L.getD k 0)) <;> rfl
  · have a1 := getD_at (L := L) (k := k) h2
    have a2 := getD_at (L := L) (k := k - 1) (by omega)
    obtain ⟨p, p1, p2, _, p4⟩ := event_at ok (hL _ (List.mem_of_getElem? a1))
    obtain ⟨q, q1, q2, _, q4⟩ := event_at ok (hL _ (List.mem_of_getElem? a2))
    unfold f41_b0
    rw [if_pos (by simp only [decide_eq_true_eq, cast_len]; omega)]
    have e74 := f74_eq ok p4 q4
    rw [pred_pos (by omega) (by omega)]
    simp only [cast_ix a1, cast_ix a2, p1, q1, p2, q2, e74, Option.bind_some, wrap_cnt (show k ≤ 1000 by omega)]
    cases mayB b (hol b (L.getD (k - 1) 0)) (hol b (L.getD k 0)) <;> rfl
  · unfold f41_b0
    rw [if_neg (by simp only [decide_eq_true_eq, cast_len]; omega)]
/-- A strip's line, as the program tells it. -/
noncomputable def lineV (b : TLandBook) (strip : Int) : List Int × Int × Int := match linP b strip b.Events.length with
  | some L => (castL L, folB b L, 0)
  | none => ([], 0, 8)
theorem f35_eq (b : TLandBook) (strip : Int) (h1 : b.People.length ≤ 1000) (h2 : b.Events.length ≤ 1000) (h3 : b.Memories.length ≤ 1000) : f35 b strip = some (if (bookOk b && inR strip 0 5) = true then (if agreeB b = true then lineV b strip else ([], 0, 7)) else ([], 0, 2)) := by
  obtain ⟨t', e1, e2⟩ := f69_eq b (inR strip 0 5) h1 h2 h3
  unfold f35
  rw [f66_eq, Option.bind_some, e1, Option.bind_some]
  by_cases hf : (bookOk b && inR strip 0 5) = true
  · rw [if_pos hf, if_pos hf]
    have ok : bookOk b = true := by rw [Bool.and_eq_true] at hf; exact hf.1
    by_cases ha : agreeB b = true
    · rw [if_pos ha, if_pos ha, if_neg (by simp)]
      have hl := line_loop ok ha (e2 ok) strip b.Events.length 0 [] (by omega) rfl
      have hl' : lp (f35_b0 b strip) ([], 0, t') = _ := hl
      rw [hl', Option.bind_some]
      unfold lineV
      cases hq : linP b strip b.Events.length with
      | none => rfl
      | some L =>
        obtain ⟨eL, _⟩ := lin_same ok ha strip (Nat.le_refl _) hq
        have hlen : L.length ≤ b.Events.length := by rw [eL]; exact linR_len b strip _
        have hin : ∀ x ∈ L, x < b.Events.length := fun x hx => by rw [eL] at hx; exact (mem_linR.1 hx).1
        show (lp (f35_b2 (castL L, t') b) (1, t', [])).bind _ = _
        rw [fol_loop ok hin (by omega) t' t' [], Option.bind_some]
        show _ = some (castL L, folB b L, 0)
        unfold folB
        cases (List.range' 1 (L.length - 1)).find? fun k => !mayB b (hol b (L.getD (k - 1) 0)) (hol b (L.getD k 0)) <;> rfl
    · rw [if_neg ha, if_neg ha, if_pos (by decide)]
  · rw [if_neg hf, if_neg hf, if_pos (by decide)]
/-! ### The document's line -/
theorem early_get {b : TLandBook} {e : Nat} (he : e < b.Events.length) : ix (earlyL b) (e : Int) = some (-tabAll b e 7) := by
  unfold earlyL
  rw [ix_nat, List.getElem?_map, List.getElem?_range he]; rfl
theorem at_loop {b : TLandBook} {i : Nat} (hi : i < b.Events.length) {L : List Nat} (hL : ∀ x ∈ L, x < b.Events.length) (hl : L.length ≤ 1000) : ∀ (r : List Nat) (k : Nat), L.drop k = r → k ≤ L.length →
    lp (f40_b1 (castL L, (i : Int)) (earlyL b)) (k : Int) = some (((k + r.findIdx fun o => !decide (-tabAll b o 7 < -tabAll b i 7) : Nat)) : Int)
  | [], k, hd, hk => by
    have hk' : L.length ≤ k := by have := List.drop_eq_nil_iff.1 hd; exact this
    rw [lp_eq]
    have e : f40_b1 (castL L, (i : Int)) (earlyL b) (k : Int) = some (.inr (k : Int)) := by
      unfold f40_b1
      rw [if_neg (by simp only [decide_eq_true_eq, cast_len]; omega)]
      rfl
    rw [e]; rfl
  | o :: r, k, hd, hk => by
    have hq : L[k]? = some o := by
      have := congrArg (fun z => z[0]?) hd
      simpa using this
    have hlt := (List.getElem?_eq_some_iff.1 hq).1
    have hd' : L.drop (k + 1) = r := by
      have := congrArg List.tail hd
      simpa using this
    have ho := hL o (List.mem_of_getElem? hq)
    rw [lp_eq, List.findIdx_cons]
    by_cases h : -tabAll b o 7 < -tabAll b i 7
    · have e : f40_b1 (castL L, (i : Int)) (earlyL b) (k : Int) = some (.inl ((k + 1 : Nat) : Int)) := by
        unfold f40_b1
        rw [if_pos (by simp only [decide_eq_true_eq, cast_len]; omega)]
        simp only [cast_ix hq, early_get ho, early_get hi, Option.bind_some, decide_eq_true h, if_true, wrap_cnt (show k ≤ 1000 by omega)]
      rw [e]
      show lp (f40_b1 (castL L, (i : Int)) (earlyL b)) ((k + 1 : Nat) : Int) = _
      rw [at_loop hi hL hl r (k + 1) hd' (by omega), decide_eq_true h]
      show some _ = some ((k + ((r.findIdx fun o => !decide (-tabAll b o 7 < -tabAll b i 7)) + 1) : Nat) : Int)
      congr 2
      omega
    · have e : f40_b1 (castL L, (i : Int)) (earlyL b) (k : Int) = some (.inr (k : Int)) := by
        unfold f40_b1
        rw [if_pos (by simp only [decide_eq_true_eq, cast_len]; omega)]
        simp only [cast_ix hq, early_get ho, early_get hi, Option.bind_some, decide_eq_false h, Bool.false_eq_true, if_false]
      rw [e, decide_eq_false h]
      rfl
theorem linR_succ (b : TLandBook) (strip : Int) (j : Nat) : linR b strip (j + 1) = if (stp b j != strip) = true then linR b strip j else insR b (linR b strip j) j := rfl
theorem f40_eq (b : TLandBook) (ok : bookOk b = true) (ha : agreeB b = true) (strip : Int) : f40 b strip = some (if chainB b (linR b strip b.Events.length) = true then (castL (linR b strip b.Events.length), true) else ([], false)) := by
  have hn := (book_parts ok).2.1.2
  unfold f40
  rw [f32_eq b ok ha, Option.bind_some]
  have h0 := lp_cnt (body := f40_b0 b strip (earlyL b)) b.Events.length (fun j (t : List Int) => t = castL (linR b strip j)) (fun k t => (t, (k : Int))) id (fun j t hj ht => ?_) (fun t ht => ?_) (t := []) rfl
  · obtain ⟨t, e1, e2⟩ := h0
    have e1' : lp (f40_b0 b strip (earlyL b)) ([], 0) = some t := e1
    rw [e1', Option.bind_some, e2]
    have hlen := linR_len b strip b.Events.length
    have hin : ∀ x ∈ linR b strip b.Events.length, x < b.Events.length := fun x hx => (mem_linR.1 hx).1
    obtain ⟨L, hLd⟩ : ∃ L, L = linR b strip b.Events.length := ⟨_, rfl⟩
    rw [← hLd] at hlen hin ⊢
    have h := lp_from (body := f40_b2 (castL L) b) L.length (fun k => !bfr b (L.getD (k - 1) 0) (L.getD k 0)) (.inl () : Unit ⊕ (List Int × Bool)) (fun k => .inr ([], false)) (fun k => (k : Int)) (fun k h1 h2 => ?_) (fun k h1 h2 => ?_)
    · have h' : lp (f40_b2 (castL L) b) 1 = _ := h
      rw [h', Option.bind_some]
      cases hf : (List.range' 1 (L.length - 1)).find? fun k => !bfr b (L.getD (k - 1) 0) (L.getD k 0) with
      | none =>
        have hc : chainB b L = true := by
          refine (allI_iff _ _ _).2 fun j y hy => ?_
          have hj := get_lt hy
          rw [Nat.zero_add]
          by_cases h0 : j = 0
          · simp [h0]
          · have := List.find?_eq_none.1 hf j (List.mem_range'_1.2 (by omega))
            have e : L.getD j 0 = y := by have := getD_at hj; rw [hy] at this; exact (Option.some.inj this).symm
            rw [e] at this
            have this' : bfr b (L.getD (j - 1) 0) y = true := by simpa using this
            rw [this']
            simp
        rw [if_pos hc]
        rfl
      | some k =>
        have hc : ¬ chainB b L = true := fun hc => by
          have hm := List.mem_range'_1.1 (List.mem_of_find?_eq_some hf)
          have h3 := List.find?_some hf
          have h4 : (decide (0 + k = 0) || bfr b (L.getD (0 + k - 1) 0) (L.getD k 0)) = true := (allI_iff _ _ _).1 hc k _ (getD_at (show k < L.length by omega))
          rw [Nat.zero_add, decide_eq_false (by omega), Bool.false_or] at h4
          rw [h4] at h3
          cases h3
        rw [if_neg hc]
        rfl
    · have a1 := getD_at (L := L) (k := k) h2
      have a2 := getD_at (L := L) (k := k - 1) (by omega)
      have e46 := f46_eq b ok ha (hin _ (List.mem_of_getElem? a2)) (hin _ (List.mem_of_getElem? a1))
      unfold f40_b2
      rw [if_pos (by simp only [decide_eq_true_eq, cast_len]; omega), pred_pos (by omega) (by omega)]
      simp only [cast_ix a1, cast_ix a2, e46, Option.bind_some, wrap_cnt (show k ≤ 1000 by omega)]
      unfold bfr
      by_cases h5 : tabAll b (L.getD k 0) (L.getD (k - 1) 0) < 0
      · rw [decide_eq_false (show ¬ -tabAll b (L.getD k 0) (L.getD (k - 1) 0) ≤ 0 by omega), decide_eq_true h5]; rfl
      · rw [decide_eq_true (show -tabAll b (L.getD k 0) (L.getD (k - 1) 0) ≤ 0 by omega), decide_eq_false h5]; rfl
    · unfold f40_b2
      rw [if_neg (by simp only [decide_eq_true_eq, cast_len]; omega)]
  · subst ht
    have hlen := linR_len b strip j
    have hin : ∀ x ∈ linR b strip j, x < b.Events.length := fun x hx => by have := (mem_linR.1 hx).1; omega
    obtain ⟨q, q1, q2, q3, q4⟩ := event_at ok hj
    refine ⟨castL (linR b strip (j + 1)), ?_, rfl⟩
    unfold f40_b0
    rw [if_pos (by simp only [decide_eq_true_eq]; omega), linR_succ]
    obtain ⟨L, hLd⟩ : ∃ L, L = linR b strip j := ⟨_, rfl⟩
    rw [← hLd] at hlen hin ⊢
    by_cases hs : (stp b j != strip) = true
    · simp only [q1, q3, hs, if_true, Option.bind_some, wrap_cnt (show j ≤ 1000 by omega)]
    · have hs' : (stp b j != strip) = false := by simpa using hs
      have hat := at_loop hj hin (by omega) L 0 rfl (Nat.zero_le _)
      rw [Nat.zero_add] at hat
      have hat' : lp (f40_b1 (castL L, (j : Int)) (earlyL b)) 0 = _ := hat
      have hfi : L.findIdx (fun o => !decide (-tabAll b o 7 < -tabAll b j 7)) ≤ L.length := List.findIdx_le_length
      obtain ⟨z, hz⟩ : ∃ z, z = L.findIdx fun o => !decide (-tabAll b o 7 < -tabAll b j 7) := ⟨_, rfl⟩
      rw [← hz] at hat' hfi
      have s1 : subL (castL L) 0 (z : Int) = some ((castL L).take z) := by
        unfold subL
        rw [if_pos (by rw [cast_len]; omega)]
        simp
      have s2 : subL (castL L) (z : Int) ((castL L).length : Int) = some ((castL L).drop z) := by
        unfold subL
        rw [if_pos (by rw [cast_len]; omega), Int.toNat_natCast, Int.toNat_natCast, List.take_of_length_le (by simp)]
      have a1 : app [] ((castL L).take z) = some ((castL L).take z) := app_short _ _ (by rw [List.length_take, cast_len]; simp; omega)
      have a2 : app ((castL L).take z) [(j : Int)] = some ((castL L).take z ++ [(j : Int)]) := app_short _ _ (by rw [List.length_take, cast_len]; simp; omega)
      have a3 : app ((castL L).take z ++ [(j : Int)]) ((castL L).drop z) = some ((castL L).take z ++ [(j : Int)] ++ (castL L).drop z) := app_short _ _ (by rw [List.length_append, List.length_take, List.length_drop, cast_len]; simp; omega)
      simp only [q1, q3, hs', Bool.false_eq_true, if_false, Option.bind_some, hat', s1, s2, a1, a2, a3, wrap_cnt (show j ≤ 1000 by omega)]
      unfold insR
      rw [← hz]
      unfold castL
      rw [List.map_append, List.map_cons, List.map_take, List.map_drop, List.append_assoc]
      rfl
  · unfold f40_b0
    rw [if_neg (by simp)]
    rfl
/-! ### Heirs -/
def heirL (b : TLandBook) (h : Nat) (n : Nat) : List Int := castL ((List.range n).filter fun p => mayB b h p)
theorem heir_succ (b : TLandBook) (h n : Nat) : heirL b h (n + 1) = if mayB b h n = true then heirL b h n ++ [(n : Int)] else heirL b h n := by
  unfold heirL castL
  rw [List.range_succ, List.filter_append, List.map_append]
  by_cases e : mayB b h n = true <;> simp [e]
theorem heir_len (b : TLandBook) (h n : Nat) : (heirL b h n).length ≤ n := by
  unfold heirL
  rw [cast_len]
  exact Nat.le_trans (List.length_filter_le _ _) (by simp)
theorem f39_eq (b : TLandBook) (ok : bookOk b = true) {h : Nat} (hh : h < b.People.length) : f39 b (h : Int) = some (heirL b h b.People.length) := by
  have hp := (book_parts ok).1.2
  unfold f39
  have h0 := lp_cnt (body := f39_b0 b (h : Int)) b.People.length (fun j (t : List Int) => t = heirL b h j) (fun k t => (t, (k : Int))) id (fun j t hj ht => ?_) (fun t ht => ?_) (t := []) rfl
  · obtain ⟨t, e1, e2⟩ := h0
    have e1' : lp (f39_b0 b (h : Int)) ([], 0) = some t := e1
    rw [e1', Option.bind_some, e2]
  · subst ht
    have hl := heir_len b h j
    refine ⟨_, ?_, rfl⟩
    unfold f39_b0
    rw [if_pos (by simp only [decide_eq_true_eq]; omega), heir_succ]
    simp only [f74_eq ok hj hh, Option.bind_some, wrap_cnt (show j ≤ 1000 by omega)]
    by_cases e : mayB b h j = true
    · rw [if_pos e, if_pos e, app_short _ _ (by rw [List.length_singleton]; omega)]; rfl
    · rw [if_neg e, if_neg e]; rfl
  · unfold f39_b0
    rw [if_neg (by simp)]
    rfl
theorem f37_eq (b : TLandBook) (x : Int) (h1 : b.People.length ≤ 1000) (h2 : b.Events.length ≤ 1000) (h3 : b.Memories.length ≤ 1000) : f37 b x = some (if (bookOk b && inR x 0 ((b.People.length : Int) - 1)) = true then (heirL b x.toNat b.People.length, 0) else ([], 2)) := by
  unfold f37
  rw [f51_eq b h1 h2 h3, Option.bind_some, wrap_id (x := (b.People.length : Int) - 1) (by omega) (by omega), f66_eq]
  by_cases ok : bookOk b = true
  · by_cases hi : inR x 0 ((b.People.length : Int) - 1) = true
    · obtain ⟨h, hh, rfl⟩ := inR_nat hi
      have h0 := lp_cnt (body := f37_b0 b (h : Int)) b.People.length (fun j (t : List Int × List (Int × Bool)) => t = (heirL b h j, [])) (fun k t => (t.1, (k : Int), t.2)) id (fun j t hj ht => ?_) (fun t ht => ?_) (t := ([], [])) rfl
      · obtain ⟨t, e1, e2⟩ := h0
        have e1' : lp (f37_b0 b (h : Int)) ([], 0, []) = some t := e1
        rw [e2] at e1'
        simp [ok, hi, e1']
      · subst ht
        have hl := heir_len b h j
        refine ⟨(heirL b h (j + 1), []), ?_, rfl⟩
        unfold f37_b0
        rw [if_pos (by simp only [decide_eq_true_eq]; omega), heir_succ]
        simp only [f73_eq ok hj hh, Option.bind_some, wrap_cnt (show j ≤ 1000 by omega)]
        by_cases e : mayB b h j = true
        · rw [if_pos e, if_pos e, app_short _ _ (by rw [List.length_singleton]; omega)]; rfl
        · rw [if_neg e, if_neg e]; rfl
      · unfold f37_b0
        rw [if_neg (by simp)]
        rfl
    · simp [ok, hi]
  · simp [ok]
end Go.Proofs.YtcaflmilfhhikaaDoor
