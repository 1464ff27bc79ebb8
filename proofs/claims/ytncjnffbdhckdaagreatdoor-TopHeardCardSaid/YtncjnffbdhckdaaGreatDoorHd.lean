/-
  TopHeard, in plain Lean: a book in which each event is told to be just as many years after the one before it as it was.
-/
import Derived.Test.YtncjnffbdhckdaaGreatDoorLk
namespace Go.Proofs.YtncjnffbdhckdaaGreatDoor.La
open Go.RowKit
set_option linter.unusedVariables false
set_option linter.unusedSimpArgs false

/-- A memory of exact years. -/
def exM (i k n : Int) : TLandMemory := ⟨i, k, ⟨n, n⟩⟩
theorem exM_ok {b : TLandBook} {i k n : Int} (hi : 0 ≤ i ∧ i < (b.Events.length : Int)) (hk : 0 ≤ k ∧ k < (b.Events.length : Int)) (hne : i ≠ k) (hn : -1000 ≤ n ∧ n ≤ 1000) : memOk b (exM i k n) = true := by
  unfold memOk exM
  simp only [Bool.and_eq_true, decide_eq_true_eq, inR_iff, Bool.not_eq_true', beq_eq_false_iff_ne]
  exact ⟨by omega, by omega, hne, hn.1, Int.le_refl _, hn.2⟩
/-- One memory alone makes a book. -/
theorem alone_ok {b : TLandBook} (ok : bookOk b = true) {m : TLandMemory} (hm : memOk b m = true) : bookOk ⟨b.People, b.Events, [m]⟩ = true := by
  unfold bookOk at ok ⊢
  simp only [Bool.and_eq_true, decide_eq_true_eq, List.all_eq_true] at ok ⊢
  obtain ⟨a, c, d, e, f, g⟩ := ok
  refine ⟨a, c, d, (by show ((1 : Nat) : Int) ≤ 10; decide), f, fun q hq => ?_⟩
  rw [List.mem_singleton.1 hq]
  exact hm
/-- The book when so many of these memories were told. -/
def tellB (b : TLandBook) (ys : Nat → Int) : Nat → TLandBook
  | 0 => b
  | j + 1 => moreB (tellB b ys j) (exM (j : Int) ((j + 1 : Nat) : Int) (ys (j + 1) - ys j))
section
variable {b : TLandBook} {ys : Nat → Int}
theorem tell_people : ∀ j, (tellB b ys j).People = b.People
  | 0 => rfl
  | j + 1 => tell_people j
theorem tell_events : ∀ j, (tellB b ys j).Events = b.Events
  | 0 => rfl
  | j + 1 => tell_events j
theorem tell_len : ∀ j, (tellB b ys j).Memories.length = b.Memories.length + j
  | 0 => rfl
  | j + 1 => by
    show ((tellB b ys j).Memories ++ [_]).length = _
    rw [List.length_append, tell_len j]; rfl
theorem tr_diff (h : Tr b ys) {i k : Nat} (hi : i < b.Events.length) (hk : k < b.Events.length) : -1000 ≤ ys k - ys i ∧ ys k - ys i ≤ 1000 := by
  have := h.1 i hi
  have := h.1 k hk
  omega
theorem step_ok (h : Tr b ys) {j : Nat} (hj : j + 1 < b.Events.length) : memOk (tellB b ys j) (exM (j : Int) ((j + 1 : Nat) : Int) (ys (j + 1) - ys j)) = true :=
  exM_ok (by rw [tell_events]; omega) (by rw [tell_events]; omega) (by omega) (tr_diff h (by omega) hj)
theorem tell_ok (ok : bookOk b = true) (h : Tr b ys) : ∀ j, j < b.Events.length → b.Memories.length + j ≤ 10 → bookOk (tellB b ys j) = true ∧ Tr (tellB b ys j) ys
  | 0, _, _ => ⟨ok, h⟩
  | j + 1, hj, hl => by
    obtain ⟨h1, h2⟩ := tell_ok ok h j (by omega) (by omega)
    refine ⟨more_ok h1 (by rw [tell_len]; omega) (step_ok h hj), more_tr.2 ⟨h2, ?_⟩⟩
    unfold MemT exM
    show ys (j + 1) - ys j ≤ ys (((j + 1 : Nat) : Int)).toNat - ys ((j : Int)).toNat ∧ ys (((j + 1 : Nat) : Int)).toNat - ys ((j : Int)).toNat ≤ ys (j + 1) - ys j
    rw [Int.toNat_natCast, Int.toNat_natCast]
    exact ⟨Int.le_refl _, Int.le_refl _⟩
theorem tell_diff {zs : Nat → Int} : ∀ j, Tr (tellB b ys j) zs → ∀ i, i ≤ j → zs i - zs 0 = ys i - ys 0
  | 0, _, i, hi => by obtain rfl : i = 0 := by omega
                      omega
  | j + 1, h, i, hi => by
    have h1 : Tr (tellB b ys j) zs ∧ MemT zs (exM (j : Int) ((j + 1 : Nat) : Int) (ys (j + 1) - ys j)) := more_tr.1 h
    by_cases e : i = j + 1
    · subst e
      have h2 := tell_diff j h1.1 j (Nat.le_refl _)
      have h3 : ys (j + 1) - ys j ≤ zs (((j + 1 : Nat) : Int)).toNat - zs ((j : Int)).toNat ∧ zs (((j + 1 : Nat) : Int)).toNat - zs ((j : Int)).toNat ≤ ys (j + 1) - ys j := h1.2
      rw [Int.toNat_natCast, Int.toNat_natCast] at h3
      omega
    · exact tell_diff j h1.1 i (by omega)
/-- What the table tells then. -/
theorem tell_tab (ok : bookOk b = true) (h : Tr b ys) {n : Nat} (hn : b.Events.length = n + 1) (hl : b.Memories.length + n ≤ 10) {x y : Nat} (hx : x < b.Events.length) (hy : y < b.Events.length) : tabAll (tellB b ys n) y x = ys x - ys y := by
  obtain ⟨o, t⟩ := tell_ok ok h n (by omega) hl
  have ha : agreeB (tellB b ys n) = true := (agree_tr o).2 ⟨_, t⟩
  have hy' : y ∈ placesL (tellB b ys n).Events.length := ev_in (by rw [tell_events]; exact hy)
  have ht := tell_diff n (late_tr o ha hy')
  have a := ht x (by omega)
  have c := ht y (by omega)
  have z := tab_zero' o ha hy'
  have a : tabAll (tellB b ys n) y x - tabAll (tellB b ys n) y 7 - (tabAll (tellB b ys n) y 0 - tabAll (tellB b ys n) y 7) = ys x - ys 0 := a
  have c : tabAll (tellB b ys n) y y - tabAll (tellB b ys n) y 7 - (tabAll (tellB b ys n) y 0 - tabAll (tellB b ys n) y 7) = ys y - ys 0 := c
  omega
theorem tell_bfr (ok : bookOk b = true) (h : Tr b ys) {n : Nat} (hn : b.Events.length = n + 1) (hl : b.Memories.length + n ≤ 10) {x y : Nat} (hx : x < b.Events.length) (hy : y < b.Events.length) : bfr (tellB b ys n) x y = decide (ys x < ys y) := by
  unfold bfr
  rw [tell_tab ok h hn hl hx hy, decide_eq_decide]
  omega
end
/-- The events of a strip. -/
def allA (b : TLandBook) (strip : Int) (j : Nat) : List Nat := (List.range j).filter fun i => stp b i == strip
/-- Whether it was taken over twice in one year. -/
def twA (b : TLandBook) (ys : Nat → Int) (strip : Int) : Nat → Bool
  | 0 => false
  | j + 1 => twA b ys strip j || (stp b j == strip && (allA b strip j).any fun k => ys k == ys j)
theorem allA_succ (b : TLandBook) (strip : Int) (j : Nat) : allA b strip (j + 1) = if (stp b j != strip) = true then allA b strip j else allA b strip j ++ [j] := by
  unfold allA
  rw [List.range_succ, List.filter_append]
  cases h : stp b j == strip
  · rw [if_pos (by rw [bne, h]; rfl), List.filter_cons, if_neg (by rw [h]; simp), List.filter_nil, List.append_nil]
  · rw [if_neg (by rw [bne, h]; simp), List.filter_cons, if_pos h, List.filter_nil]
theorem allA_len (b : TLandBook) (strip : Int) (j : Nat) : (allA b strip j).length ≤ j := by
  unfold allA
  exact Nat.le_trans (List.length_filter_le _ _) (by simp)
theorem mem_allA {b : TLandBook} {strip : Int} {j x : Nat} : x ∈ allA b strip j ↔ x < j ∧ stp b x = strip := by
  unfold allA
  rw [List.mem_filter, List.mem_range, beq_iff_eq]
theorem tw_iff {b : TLandBook} {ys : Nat → Int} {strip : Int} : ∀ {j : Nat}, twA b ys strip j = true ↔ ∃ x y, x < y ∧ y < j ∧ stp b x = strip ∧ stp b y = strip ∧ ys x = ys y
  | 0 => by
    constructor
    · intro h; cases h
    · rintro ⟨x, y, _, h, _⟩; omega
  | j + 1 => by
    unfold twA
    rw [Bool.or_eq_true, tw_iff (j := j), Bool.and_eq_true, beq_iff_eq, List.any_eq_true]
    constructor
    · rintro (⟨x, y, h1, h2, h3⟩ | ⟨h1, k, h2, h3⟩)
      · exact ⟨x, y, h1, by omega, h3⟩
      · obtain ⟨a, c⟩ := mem_allA.1 h2
        exact ⟨k, j, a, by omega, c, h1, beq_iff_eq.1 h3⟩
    · rintro ⟨x, y, h1, h2, h3, h4, h5⟩
      by_cases e : y = j
      · subst e
        exact .inr ⟨h4, x, mem_allA.2 ⟨h1, h3⟩, beq_iff_eq.2 h5⟩
      · exact .inl ⟨x, y, h1, by omega, h3, h4, h5⟩
theorem insR_len (b : TLandBook) (L : List Nat) (i : Nat) : (insR b L i).length = L.length + 1 := by
  unfold insR
  generalize L.findIdx (fun o => !decide (-tabAll b o 7 < -tabAll b i 7)) = k
  rw [List.length_append, List.length_cons, List.length_take, List.length_drop]
  omega
theorem stp_ev {b b' : TLandBook} (h : b.Events = b'.Events) (e : Nat) : stp b e = stp b' e := by unfold stp; rw [h]
theorem linR_cnt {b b' : TLandBook} (h : b.Events = b'.Events) (strip : Int) : ∀ j, (linR b strip j).length = (allA b' strip j).length
  | 0 => rfl
  | j + 1 => by
    rw [allA_succ, linR_succ, stp_ev h]
    split
    · exact linR_cnt h strip j
    · rw [insR_len, linR_cnt h strip j, List.length_append]; rfl
/-- What is told of a strip's line. -/
theorem heard_line {b : TLandBook} {ys : Nat → Int} (ok : bookOk b = true) (h : Tr b ys) {n : Nat} (hn : b.Events.length = n + 1) (hl : b.Memories.length + n ≤ 10) (strip : Int) :
    (twA b ys strip (n + 1) = true ∧ lineV (tellB b ys n) strip = ([], 0, 8)) ∨
    (twA b ys strip (n + 1) = false ∧ ∃ L f, lineV (tellB b ys n) strip = (castL L, f, 0) ∧ L.length = (allA b strip (n + 1)).length ∧ (∀ x ∈ L, x < n + 1 ∧ stp b x = strip) ∧ L.Pairwise fun x y => ys x < ys y) := by
  obtain ⟨o, t⟩ := tell_ok ok h n (by omega) hl
  have ha : agreeB (tellB b ys n) = true := (agree_tr o).2 ⟨_, t⟩
  have he : (tellB b ys n).Events.length = n + 1 := by rw [tell_events]; exact hn
  have hev : (tellB b ys n).Events = b.Events := tell_events n
  have hb : ∀ {x y}, x < n + 1 → y < n + 1 → bfr (tellB b ys n) x y = decide (ys x < ys y) := fun hx hy => tell_bfr ok h hn hl (by omega) (by omega)
  unfold lineV
  rw [he]
  cases hq : linP (tellB b ys n) strip (n + 1) with
  | none =>
    obtain ⟨x, y, h1, h2, h3, h4, h5, h6, h7⟩ := lin_none o ha strip (by omega) hq
    rw [hb h1 h2, decide_eq_false_iff_not] at h6
    rw [hb h2 h1, decide_eq_false_iff_not] at h7
    rw [stp_ev hev] at h4 h5
    refine .inl ⟨tw_iff.2 ?_, rfl⟩
    by_cases hxy : x < y
    · exact ⟨x, y, hxy, h2, h4, h5, by omega⟩
    · exact ⟨y, x, by omega, h1, h5, h4, by omega⟩
  | some L =>
    obtain ⟨e, hp⟩ := lin_same o ha strip (by omega) hq
    have hm : ∀ x ∈ L, x < n + 1 ∧ stp b x = strip := fun x hx => by
      rw [e] at hx
      have := mem_linR.1 hx
      rw [stp_ev hev] at this
      exact this
    have hp' : L.Pairwise fun x y => ys x < ys y := hp.imp_of_mem fun hx hy hxy => by
      rw [hb (hm _ hx).1 (hm _ hy).1, decide_eq_true_eq] at hxy
      exact hxy
    refine .inr ⟨?_, L, _, rfl, by rw [e]; exact linR_cnt hev strip _, hm, hp'⟩
    cases htw : twA b ys strip (n + 1) with
    | false => rfl
    | true =>
      obtain ⟨x, y, h1, h2, h3, h4, h5⟩ := tw_iff.1 htw
      have hx : x ∈ L := by rw [e, mem_linR, stp_ev hev]; exact ⟨by omega, h3⟩
      have hy : y ∈ L := by rw [e, mem_linR, stp_ev hev]; exact ⟨h2, h4⟩
      obtain ⟨i, hi, hxi⟩ := List.mem_iff_getElem.1 hx
      obtain ⟨k, hk, hyk⟩ := List.mem_iff_getElem.1 hy
      rw [List.pairwise_iff_getElem] at hp'
      rcases Nat.lt_trichotomy i k with c | c | c
      · have := hp' i k hi hk c; rw [hxi, hyk] at this; omega
      · subst c; rw [hxi] at hyk; omega
      · have := hp' k i hk hi c; rw [hxi, hyk] at this; omega
/-- One memory more: it agrees just if it is true. -/
theorem heard_more {b : TLandBook} {ys : Nat → Int} (ok : bookOk b = true) (h : Tr b ys) {n : Nat} (hn : b.Events.length = n + 1) (hl : b.Memories.length + n < 10) {i k : Nat} {o : Int} (hi : i < n + 1) (hk : k < n + 1) (hne : i ≠ k) (ho : -1000 ≤ o ∧ o ≤ 1000) :
    bookOk (moreB (tellB b ys n) (exM (i : Int) (k : Int) o)) = true ∧ (agreeB (moreB (tellB b ys n) (exM (i : Int) (k : Int) o)) = decide (o = ys k - ys i)) := by
  obtain ⟨o1, t⟩ := tell_ok ok h n (by omega) (by omega)
  have he : (tellB b ys n).Events.length = n + 1 := by rw [tell_events]; exact hn
  have o2 := more_ok o1 (m := exM (i : Int) (k : Int) o) (by rw [tell_len]; omega) (exM_ok (by omega) (by omega) (by omega) ho)
  refine ⟨o2, ?_⟩
  rw [Bool.eq_iff_iff, agree_tr o2, decide_eq_true_eq]
  constructor
  · rintro ⟨zs, hz⟩
    obtain ⟨h1, h2⟩ := more_tr.1 hz
    have a := tell_diff n h1 i (by omega)
    have c := tell_diff n h1 k (by omega)
    have h2 : o ≤ zs ((k : Int)).toNat - zs ((i : Int)).toNat ∧ zs ((k : Int)).toNat - zs ((i : Int)).toNat ≤ o := h2
    rw [Int.toNat_natCast, Int.toNat_natCast] at h2
    omega
  · intro e
    refine ⟨ys, more_tr.2 ⟨t, ?_⟩⟩
    show o ≤ ys ((k : Int)).toNat - ys ((i : Int)).toNat ∧ ys ((k : Int)).toNat - ys ((i : Int)).toNat ≤ o
    rw [Int.toNat_natCast, Int.toNat_natCast]
    omega
end Go.Proofs.YtncjnffbdhckdaaGreatDoor.La
