/-
  Lines: the program's and the document's.
-/
import Derived.Test.YtcaflmilfhhikaaDoorSh
import Derived.Test.YtcaflmilfhhikaaDoorIns
namespace Go.Proofs.YtcaflmilfhhikaaDoor
open Go.RowKit
set_option linter.unusedVariables false

/-! ### Who may follow whom -/
def pM (b : TLandBook) (p : Nat) : Int := (b.People[p]?.map fun q : TLandPerson => q.Mother).getD 0
def pA (b : TLandBook) (p : Nat) : Int := (b.People[p]?.map fun q : TLandPerson => q.Adopted).getD 0
def mayB (b : TLandBook) (h p : Nat) : Bool := !decide (p = h) && (pM b p == (h : Int) || (pA b p == (h : Int) || (decide (0 ≤ pM b p) && pM b p == pM b h)))
theorem person_at {b : TLandBook} (ok : bookOk b = true) {p : Nat} (hp : p < b.People.length) : ∃ q, ix b.People (p : Int) = some q ∧ q.Mother = pM b p ∧ q.Adopted = pA b p ∧ -1 ≤ q.Mother := by
  have h : b.People[p]? = some b.People[p] := List.getElem?_eq_getElem hp
  refine ⟨b.People[p], by rw [ix_nat, h], by unfold pM; rw [h]; rfl, by unfold pA; rw [h]; rfl, ?_⟩
  unfold bookOk at ok
  simp only [Bool.and_eq_true] at ok
  have := (allI_iff _ _ _).1 ok.1 p _ h
  unfold personOk at this
  rw [Bool.and_eq_true] at this
  exact (inR_iff.1 this.1).1
theorem f73_eq {b : TLandBook} (ok : bookOk b = true) {p h : Nat} (hp : p < b.People.length) (hh : h < b.People.length) : f73 b (p : Int) (h : Int) = some (mayB b h p) := by
  obtain ⟨q, q1, q2, q3, q4⟩ := person_at ok hp
  obtain ⟨r, r1, r2, r3, r4⟩ := person_at ok hh
  unfold f73 mayB
  by_cases e : p = h
  · subst e
    simp
  · have e' : ((p : Int) != (h : Int)) = true := by simp; omega
    have e2 : (!decide (p = h)) = true := by simp [e]
    rw [e', e2]
    simp only [q1, r1, q2, q3, r2, if_true, Option.bind_some, Bool.true_and]
    by_cases a1 : (pM b p == (h : Int)) = true
    · rw [a1]; rfl
    · have a1' : (pM b p == (h : Int)) = false := by simpa using a1
      rw [a1']
      simp only [Bool.false_eq_true, if_false, Bool.false_or]
      by_cases a2 : (pA b p == (h : Int)) = true
      · rw [a2]; rfl
      · have a2' : (pA b p == (h : Int)) = false := by simpa using a2
        rw [a2']
        simp only [Bool.false_eq_true, if_false, Bool.false_or]
        by_cases a3 : pM b p = -1
        · rw [a3]; rfl
        · have h1 : (pM b p != -1) = true := by simp [a3]
          have h2 : decide (0 ≤ pM b p) = true := decide_eq_true (by omega)
          rw [h1, h2]
          cases (pM b p == pM b h) <;> rfl
theorem f74_eq {b : TLandBook} (ok : bookOk b = true) {p h : Nat} (hp : p < b.People.length) (hh : h < b.People.length) : f74 b (h : Int) (p : Int) = some (mayB b h p) := by
  obtain ⟨q, q1, q2, q3, q4⟩ := person_at ok hp
  obtain ⟨r, r1, r2, r3, r4⟩ := person_at ok hh
  unfold f74 mayB
  rw [q1, Option.bind_some]
  by_cases e : p = h
  · subst e
    simp
  · have e' : ((p : Int) != (h : Int)) = true := by simp; omega
    have e2 : (!decide (p = h)) = true := by simp [e]
    rw [e', e2]
    simp only [r1, q2, q3, r2, if_true, Option.bind_some, Bool.true_and]
    cases (pM b p == (h : Int)) <;> cases (pA b p == (h : Int)) <;> cases decide (0 ≤ pM b p) <;> cases (pM b p == pM b h) <;> rfl
def hol (b : TLandBook) (e : Nat) : Nat := ((b.Events[e]?.map fun q : TLandEvent => q.Holder).getD 0).toNat
def stp (b : TLandBook) (e : Nat) : Int := (b.Events[e]?.map fun q : TLandEvent => q.Strip).getD 0
theorem event_at {b : TLandBook} (ok : bookOk b = true) {e : Nat} (he : e < b.Events.length) : ∃ q, ix b.Events (e : Int) = some q ∧ q.Holder = ((hol b e : Nat) : Int) ∧ q.Strip = stp b e ∧ hol b e < b.People.length := by
  have h : b.Events[e]? = some b.Events[e] := List.getElem?_eq_getElem he
  unfold bookOk at ok
  simp only [Bool.and_eq_true, List.all_eq_true] at ok
  have hv := ok.2.2.2.2.1 _ (List.getElem_mem he)
  unfold eventOk at hv
  rw [Bool.and_eq_true] at hv
  have hr := inR_iff.1 hv.2
  have e1 : hol b e = (b.Events[e]).Holder.toNat := by unfold hol; rw [h]; rfl
  exact ⟨b.Events[e], by rw [ix_nat, h], by rw [e1]; omega, by unfold stp; rw [h]; rfl, by rw [e1]; omega⟩
/-! ### What surely comes before what -/
def bfr (b : TLandBook) (x y : Nat) : Bool := decide (tabAll b y x < 0)
theorem bef_trans' {b : TLandBook} (ha : agreeB b = true) {x y z : Nat} (hx : x < b.Events.length) (hy : y < b.Events.length) (hz : z < b.Events.length) (h1 : bfr b x y = true) (h2 : bfr b y z = true) : bfr b x z = true := by
  unfold bfr at *
  rw [decide_eq_true_eq] at *
  have := tab_closed ha y (ev_in hy) z (ev_in hz) x (ev_in hx)
  omega
theorem bef_irr {b : TLandBook} (ok : bookOk b = true) (ha : agreeB b = true) {x : Nat} (hx : x < b.Events.length) : bfr b x x = false := by
  unfold bfr
  rw [tab_zero' ok ha (ev_in hx)]
  rfl
theorem bef_early {b : TLandBook} (ha : agreeB b = true) {x y : Nat} (hx : x < b.Events.length) (hy : y < b.Events.length) (h : bfr b x y = true) : -tabAll b x 7 < -tabAll b y 7 := by
  unfold bfr at h
  rw [decide_eq_true_eq] at h
  have := tab_closed ha x (ev_in hx) y (ev_in hy) 7 (in7 _)
  omega
/-- Where a thing goes into a line, as the program tells it; none, if it is not sure. -/
def insP (b : TLandBook) (L : List Nat) (i : Nat) : Option (List Nat) :=
  if L.all (fun o => bfr b i o || bfr b o i) = true then some (L.take (L.findIdx fun o => bfr b i o) ++ i :: L.drop (L.findIdx fun o => bfr b i o)) else none
def insR (b : TLandBook) (L : List Nat) (i : Nat) : List Nat :=
  L.take (L.findIdx fun o => !decide (-tabAll b o 7 < -tabAll b i 7)) ++ i :: L.drop (L.findIdx fun o => !decide (-tabAll b o 7 < -tabAll b i 7))
def linP (b : TLandBook) (strip : Int) : Nat → Option (List Nat)
  | 0 => some []
  | j + 1 => (linP b strip j).bind fun L => if (stp b j != strip) = true then some L else insP b L j
def linR (b : TLandBook) (strip : Int) : Nat → List Nat
  | 0 => []
  | j + 1 => if (stp b j != strip) = true then linR b strip j else insR b (linR b strip j) j
theorem mem_insR {b : TLandBook} {L : List Nat} {i x : Nat} : x ∈ insR b L i ↔ x = i ∨ x ∈ L := by
  unfold insR
  rw [List.mem_append, List.mem_cons]
  have : x ∈ L ↔ x ∈ L.take (L.findIdx fun o => !decide (-tabAll b o 7 < -tabAll b i 7)) ∨ x ∈ L.drop (L.findIdx fun o => !decide (-tabAll b o 7 < -tabAll b i 7)) := by
    rw [← List.mem_append, List.take_append_drop]
  rw [this]
  constructor
  · rintro (h | h | h)
    · exact .inr (.inl h)
    · exact .inl h
    · exact .inr (.inr h)
  · rintro (h | h | h)
    · exact .inr (.inl h)
    · exact .inl h
    · exact .inr (.inr h)
theorem mem_linR {b : TLandBook} {strip : Int} {x : Nat} : ∀ {j : Nat}, x ∈ linR b strip j ↔ x < j ∧ stp b x = strip
  | 0 => by simp [linR]
  | j + 1 => by
    have ih := mem_linR (b := b) (strip := strip) (x := x) (j := j)
    unfold linR
    by_cases h : stp b j = strip
    · rw [if_neg (by simp [h]), mem_insR, ih]
      constructor
      · rintro (h1 | h1)
        · subst h1; exact ⟨by omega, h⟩
        · exact ⟨by omega, h1.2⟩
      · rintro ⟨h1, h2⟩
        by_cases e : x = j
        · exact .inl e
        · exact .inr ⟨by omega, h2⟩
    · rw [if_pos (by simp [h]), ih]
      constructor
      · exact fun h1 => ⟨by omega, h1.2⟩
      · rintro ⟨h1, h2⟩
        refine ⟨?_, h2⟩
        by_cases e : x = j
        · subst e; exact absurd h2 h
        · omega
theorem linR_len (b : TLandBook) (strip : Int) : ∀ j, (linR b strip j).length ≤ j
  | 0 => by simp [linR]
  | j + 1 => by
    have ih := linR_len b strip j
    unfold linR
    split
    · omega
    · unfold insR
      rw [List.length_append, List.length_cons, List.length_take, List.length_drop]
      omega
theorem findIdx_congr {p q : Nat → Bool} : ∀ {L : List Nat}, (∀ x ∈ L, p x = q x) → L.findIdx p = L.findIdx q
  | [], _ => rfl
  | x :: L, h => by
    rw [List.findIdx_cons, List.findIdx_cons, h x (List.mem_cons_self ..), findIdx_congr fun y hy => h y (List.mem_cons_of_mem _ hy)]
/-- Where the program has a line, the document has it, and each thing in it surely comes before the next. -/
theorem lin_same {b : TLandBook} (ok : bookOk b = true) (ha : agreeB b = true) (strip : Int) : ∀ {j : Nat} {L : List Nat}, j ≤ b.Events.length → linP b strip j = some L → L = linR b strip j ∧ L.Pairwise fun x y => bfr b x y = true
  | 0, L, _, h => by
    unfold linP at h
    cases h
    exact ⟨rfl, .nil⟩
  | j + 1, L, hj, h => by
    unfold linP at h
    obtain ⟨M, h1, h2⟩ := bnd h
    obtain ⟨e, hp⟩ := lin_same ok ha strip (by omega) h1
    unfold linR
    by_cases hs : (stp b j != strip) = true
    · rw [if_pos hs] at h2 ⊢
      cases h2
      exact ⟨e, hp⟩
    · rw [if_neg hs] at h2 ⊢
      unfold insP at h2
      split at h2
      · rename_i hall
        rw [List.all_eq_true] at hall
        have hin : ∀ o ∈ M, o < j := fun o ho => by rw [e] at ho; exact (mem_linR.1 ho).1
        have hcmp : ∀ o ∈ M, bfr b j o = !decide (-tabAll b o 7 < -tabAll b j 7) := fun o ho => by
          have ho' := hin o ho
          have := hall o ho
          rw [Bool.or_eq_true] at this
          cases hb : bfr b j o with
          | true =>
            have := bef_early ha (show j < b.Events.length by omega) (by omega) hb
            rw [decide_eq_false (by omega)]; rfl
          | false =>
            rw [hb] at this
            have := bef_early ha (show o < b.Events.length by omega) (by omega) (this.resolve_left (by simp))
            rw [decide_eq_true this]; rfl
        cases h2
        have hfi := findIdx_congr (L := M) (p := fun o => bfr b j o) (q := fun o => !decide (-tabAll b o 7 < -tabAll b j 7)) hcmp
        refine ⟨?_, ?_⟩
        · unfold insR
          rw [← e, hfi]
        · rw [List.pairwise_append]
          have hpt : (M.take (M.findIdx fun o => bfr b j o)).Pairwise fun x y => bfr b x y = true := hp.sublist (List.take_sublist _ _)
          have hpd : (M.drop (M.findIdx fun o => bfr b j o)).Pairwise fun x y => bfr b x y = true := hp.sublist (List.drop_sublist _ _)
          have htk : ∀ x ∈ M.take (M.findIdx fun o => bfr b j o), bfr b x j = true := fun x hx => by
            obtain ⟨q, hq, rfl⟩ := List.mem_iff_getElem.1 hx
            rw [List.length_take] at hq
            rw [List.getElem_take]
            have hnot : bfr b j (M[q]'(by omega)) = false := by
              have := List.not_of_lt_findIdx (p := fun o => bfr b j o) (xs := M) (i := q) (by omega)
              simpa using this
            have := hall _ (List.getElem_mem (show q < M.length by omega))
            rw [hnot] at this
            simpa using this
          have hdr : ∀ y ∈ M.drop (M.findIdx fun o => bfr b j o), bfr b j y = true := fun y hy => by
            cases hd : M.drop (M.findIdx fun o => bfr b j o) with
            | nil => rw [hd] at hy; cases hy
            | cons z zs =>
              have hlt : M.findIdx (fun o => bfr b j o) < M.length := by
                rcases Nat.lt_or_ge (M.findIdx fun o => bfr b j o) M.length with h | h
                · exact h
                · rw [List.drop_eq_nil_of_le h] at hd; cases hd
              have hz : z = M[M.findIdx fun o => bfr b j o]'hlt := by
                rw [List.drop_eq_getElem_cons hlt] at hd
                exact (List.cons.inj hd).1.symm
              have hjz : bfr b j z = true := by
                rw [hz]
                exact List.findIdx_getElem (w := hlt)
              have hzM : z ∈ M := by rw [hz]; exact List.getElem_mem _
              rw [hd] at hy hpd
              rcases List.mem_cons.1 hy with h | h
              · rw [h]; exact hjz
              · have hzy := (List.pairwise_cons.1 hpd).1 y h
                have hyM : y ∈ M := (List.drop_sublist _ _).subset (by rw [hd]; exact List.mem_cons_of_mem _ h)
                have p1 := hin z hzM
                have p2 := hin y hyM
                exact bef_trans' ha (by omega) (by omega) (by omega) hjz hzy
          refine ⟨hpt, List.pairwise_cons.2 ⟨hdr, hpd⟩, fun x hx y hy => ?_⟩
          rcases List.mem_cons.1 hy with h | h
          · rw [h]; exact htk x hx
          · have p1 := hin x ((List.take_sublist _ _).subset hx)
            have p2 := hin y ((List.drop_sublist _ _).subset h)
            exact bef_trans' ha (by omega) (by omega) (by omega) (htk x hx) (hdr y h)
      · cases h2
/-- Where the program has no line, some two things are in no sure order. -/
theorem lin_none {b : TLandBook} (ok : bookOk b = true) (ha : agreeB b = true) (strip : Int) : ∀ {j : Nat}, j ≤ b.Events.length → linP b strip j = none → ∃ x y, x < j ∧ y < j ∧ x ≠ y ∧ stp b x = strip ∧ stp b y = strip ∧ bfr b x y = false ∧ bfr b y x = false
  | 0, _, h => by cases h
  | j + 1, hj, h => by
    unfold linP at h
    cases hq : linP b strip j with
    | none =>
      obtain ⟨x, y, h1, h2, h3⟩ := lin_none ok ha strip (by omega) hq
      exact ⟨x, y, by omega, by omega, h3⟩
    | some M =>
      rw [hq, Option.bind_some] at h
      obtain ⟨e, _⟩ := lin_same ok ha strip (by omega) hq
      split at h
      · cases h
      · rename_i hs
        unfold insP at h
        split at h
        · cases h
        · rename_i hall
          have hall' : ¬ ∀ o ∈ M, (bfr b j o || bfr b o j) = true := fun hh => hall (List.all_eq_true.2 hh)
          obtain ⟨o, ho⟩ := Classical.not_forall.1 hall'
          obtain ⟨ho1, ho2⟩ := Classical.not_imp.1 ho
          rw [e] at ho1
          obtain ⟨p1, p2⟩ := mem_linR.1 ho1
          have ho3 : (bfr b j o || bfr b o j) = false := by simpa using ho2
          rw [Bool.or_eq_false_iff] at ho3
          exact ⟨j, o, by omega, by omega, by omega, by simpa using hs, p2, ho3.1, ho3.2⟩
/-- Each thing surely comes before the next. -/
def chainB (b : TLandBook) (L : List Nat) : Bool := allI (fun k y => decide (k = 0) || bfr b (L.getD (k - 1) 0) y) 0 L
theorem chain_pw {b : TLandBook} (ha : agreeB b = true) {L : List Nat} (hL : ∀ x ∈ L, x < b.Events.length) (h : chainB b L = true) : L.Pairwise fun x y => bfr b x y = true := by
  have hc := (allI_iff _ _ _).1 h
  rw [List.pairwise_iff_getElem]
  have key : ∀ (m i : Nat) (hi : i < L.length) (hm : i + m + 1 < L.length), bfr b L[i] L[i + m + 1] = true := by
    intro m
    induction m with
    | zero =>
      intro i hi hm
      have h1 : (decide (0 + (i + 1) = 0) || bfr b (L.getD (0 + (i + 1) - 1) 0) L[i + 1]) = true := hc (i + 1) _ (List.getElem?_eq_getElem (show i + 1 < L.length by omega))
      have e : L.getD i 0 = L[i] := by simp [hi]
      rw [show 0 + (i + 1) - 1 = i by omega, e, decide_eq_false (by omega), Bool.false_or] at h1
      exact h1
    | succ m ih =>
      intro i hi hm
      have h1 := ih i hi (by omega)
      have h2' : (decide (0 + (i + m + 1 + 1) = 0) || bfr b (L.getD (0 + (i + m + 1 + 1) - 1) 0) L[i + m + 1 + 1]) = true := hc (i + m + 1 + 1) _ (List.getElem?_eq_getElem (show i + m + 1 + 1 < L.length by omega))
      have e : L.getD (i + m + 1) 0 = L[i + m + 1] := by simp [show i + m + 1 < L.length by omega]
      rw [show 0 + (i + m + 1 + 1) - 1 = i + m + 1 by omega, e, decide_eq_false (by omega), Bool.false_or] at h2'
      exact bef_trans' ha (hL _ (List.getElem_mem _)) (hL _ (List.getElem_mem _)) (hL _ (List.getElem_mem _)) h1 h2'
  intro i k hi hk hik
  have := key (k - i - 1) i hi (by omega)
  simpa [show i + (k - i - 1) + 1 = k by omega] using this
theorem pw_chain {b : TLandBook} {L : List Nat} (h : L.Pairwise fun x y => bfr b x y = true) : chainB b L = true := by
  refine (allI_iff _ _ _).2 fun j y hy => ?_
  have hj := get_lt hy
  rw [Nat.zero_add]
  by_cases h0 : j = 0
  · simp [h0]
  · have e : L.getD (j - 1) 0 = L[j - 1] := by simp [show j - 1 < L.length by omega]
    rw [List.pairwise_iff_getElem] at h
    have := h (j - 1) j (by omega) hj (by omega)
    have hy' : L[j] = y := by rw [List.getElem?_eq_getElem hj] at hy; exact Option.some.inj hy
    rw [hy'] at this
    rw [e, this]
    simp
theorem lin_iff {b : TLandBook} (ok : bookOk b = true) (ha : agreeB b = true) (strip : Int) : linP b strip b.Events.length = if chainB b (linR b strip b.Events.length) = true then some (linR b strip b.Events.length) else none := by
  cases h : linP b strip b.Events.length with
  | some L =>
    obtain ⟨e, hp⟩ := lin_same ok ha strip (Nat.le_refl _) h
    rw [← e, if_pos (pw_chain hp)]
  | none =>
    obtain ⟨x, y, h1, h2, h3, h4, h5, h6, h7⟩ := lin_none ok ha strip (Nat.le_refl _) h
    rw [if_neg]
    intro hc
    have hp := chain_pw ha (fun x hx => (mem_linR.1 hx).1) hc
    obtain ⟨i, hi, ei⟩ := List.mem_iff_getElem.1 (mem_linR.2 ⟨h1, h4⟩ : x ∈ linR b strip b.Events.length)
    obtain ⟨k, hk, ek⟩ := List.mem_iff_getElem.1 (mem_linR.2 ⟨h2, h5⟩ : y ∈ linR b strip b.Events.length)
    rw [List.pairwise_iff_getElem] at hp
    rcases Nat.lt_trichotomy i k with g | g | g
    · have := hp i k hi hk g
      rw [ei, ek, h6] at this; cases this
    · subst g
      exact h3 (ei.symm.trans ek)
    · have := hp k i hk hi g
      rw [ei, ek, h7] at this; cases this
end Go.Proofs.YtcaflmilfhhikaaDoor
