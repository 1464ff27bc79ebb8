/-
  LandHeld: lines are in the order of all truths (plain law).
-/
import Derived.Test.YtcaflmilfhhikaaDoorLj
import Derived.Test.YtcaflmilfhhikaaDoorLw
namespace Go.Proofs.YtcaflmilfhhikaaDoor
open Go.RowKit
set_option linter.unusedVariables false

theorem f47_eq' (b : TLandBook) : f47 b = some (shortB b && (bookOk b && agreeB b)) := by
  unfold f47
  rw [f14_eq, Option.bind_some]
  by_cases hs : shortB b = true
  · obtain ⟨h1, h2, h3⟩ := bk_le hs
    rw [if_pos hs, f18_eq b h1 h2 h3, Option.bind_some]
    by_cases ok : bookOk b = true
    · rw [if_pos ok, f19_eq b ok]
      simp [hs, ok]
    · simp [hs, ok]
  · simp [hs]
/-- The events of a strip. -/
def evs (b : TLandBook) (strip : Int) (n : Nat) : List Nat := (List.range n).filter fun e => stp b e == strip
theorem evs_succ (b : TLandBook) (strip : Int) (n : Nat) : evs b strip (n + 1) = if (stp b n == strip) = true then evs b strip n ++ [n] else evs b strip n := by
  unfold evs
  rw [List.range_succ, List.filter_append]
  by_cases e : (stp b n == strip) = true <;> simp [e]
theorem mem_evs {b : TLandBook} {strip : Int} {n x : Nat} : x ∈ evs b strip n ↔ x < n ∧ stp b x = strip := by
  unfold evs
  rw [List.mem_filter, List.mem_range, beq_iff_eq]
theorem evs_len (b : TLandBook) (strip : Int) : ∀ n, (linR b strip n).length = (evs b strip n).length
  | 0 => rfl
  | n + 1 => by
    have ih := evs_len b strip n
    rw [linR_succ, evs_succ]
    by_cases h : stp b n = strip
    · rw [if_neg (by simp [h]), if_pos (by simp [h]), List.length_append, List.length_singleton]
      unfold insR
      rw [List.length_append, List.length_cons, List.length_take, List.length_drop]
      omega
    · rw [if_pos (by simp [h]), if_neg (by simp [h]), ih]
theorem evs_le (b : TLandBook) (strip : Int) (n : Nat) : (evs b strip n).length ≤ n := by
  have := linR_len b strip n
  rw [evs_len] at this
  exact this
theorem evs_loop {b : TLandBook} (ok : bookOk b = true) (strip : Int) : lp (f13_b0 b strip) ([], 0) = some (castL (evs b strip b.Events.length)) := by
  have hn := (book_parts ok).2.1.2
  have h0 := lp_cnt (body := f13_b0 b strip) b.Events.length (fun j (t : List Int) => t = castL (evs b strip j)) (fun k t => (t, (k : Int))) id (fun j t hj ht => ?_) (fun t ht => ?_) (t := []) rfl
  · obtain ⟨t, e1, e2⟩ := h0
    have e1' : lp (f13_b0 b strip) ([], 0) = some t := e1
    rw [e1', e2]
  · subst ht
    have hl := evs_le b strip j
    obtain ⟨q, q1, q2, q3, q4⟩ := event_at ok hj
    refine ⟨_, ?_, rfl⟩
    unfold f13_b0
    rw [if_pos (by simp only [decide_eq_true_eq]; omega), evs_succ]
    simp only [q1, q3, Option.bind_some, wrap_cnt (show j ≤ 1000 by omega)]
    by_cases e : (stp b j == strip) = true
    · rw [if_pos e, if_pos e, app_short _ _ (by rw [cast_len, List.length_singleton]; omega)]
      unfold castL
      rw [List.map_append]
      rfl
    · rw [if_neg e, if_neg e]; rfl
  · unfold f13_b0
    rw [if_neg (by simp)]
    rfl
/-- Two things in no sure order are found. -/
theorem open_loop {b : TLandBook} (ok : bookOk b = true) (ha : agreeB b = true) (h1 : b.People.length ≤ 1000) (h2 : b.Events.length ≤ 1000) (h3 : b.Memories.length ≤ 1000) {E : List Nat} (hE : ∀ x ∈ E, x < b.Events.length) (hl : E.length ≤ 1000) (z : List Int × Int × Int) (hz : z.2.2 = 8)
    (h : ∃ (i k x y : Nat), E[i]? = some x ∧ E[k]? = some y ∧ i ≠ k ∧ bfr b x y = false ∧ bfr b y x = false) : lp (f13_b1 (castL E) b z) 0 = some (.inr true : Unit ⊕ Bool) := by
  have inner : ∀ (i x : Nat), E[i]? = some x → lp (f13_b2 (castL E) (i : Int) b z) 0 = some (if allI (fun k y => !(decide (i ≠ k) && (!bfr b x y && !bfr b y x))) 0 E = true then .inl () else .inr true) := by
    intro i x hx
    have hh := lp_all (body := f13_b2 (castL E) (i : Int) b z) E (fun k y => !(decide (i ≠ k) && (!bfr b x y && !bfr b y x))) (Sum.inr true : Unit ⊕ Bool) (Sum.inl ()) (fun k => (k : Int)) (fun k y hy => by
      have hk := get_lt hy
      have xi := hE x (List.mem_of_getElem? hx)
      have yi := hE y (List.mem_of_getElem? hy)
      have e43 := f43_eq b (x : Int) (y : Int) h1 h2 h3
      have r1 : inR (x : Int) 0 ((b.Events.length : Int) - 1) = true := inR_iff.2 (by omega)
      have r2 : inR (y : Int) 0 ((b.Events.length : Int) - 1) = true := inR_iff.2 (by omega)
      rw [ok, r1, r2, Bool.and_self, Bool.and_self, if_pos rfl, if_pos ha, Int.toNat_natCast, Int.toNat_natCast] at e43
      unfold f13_b2
      rw [if_pos (by simp only [decide_eq_true_eq, cast_len]; omega)]
      simp only [cast_ix hx, cast_ix hy, e43, Option.bind_some, wrap_cnt (show k ≤ 1000 by omega), hz, known_pure]
      unfold bfr
      by_cases c0 : i = k
      · subst c0
        simp
      · have c0' : ((i : Int) != (k : Int)) = true := by simp; omega
        have c0'' : decide (i ≠ k) = true := decide_eq_true c0
        rw [c0', c0'']
        by_cases c1 : tabAll b y x < 0
        · have d1 : decide (-tabAll b y x ≤ 0) = false := decide_eq_false (by omega)
          rw [d1, decide_eq_true c1]
          rfl
        · have d1 : decide (-tabAll b y x ≤ 0) = true := decide_eq_true (by omega)
          rw [d1, decide_eq_false c1]
          by_cases c2 : tabAll b x y < 0
          · have d2 : decide (0 ≤ tabAll b x y) = false := decide_eq_false (by omega)
            rw [d2, decide_eq_true c2]
            rfl
          · have d2 : decide (0 ≤ tabAll b x y) = true := decide_eq_true (by omega)
            rw [d2, decide_eq_false c2]
            rfl) (by unfold f13_b2; rw [if_neg (by simp [cast_len])])
    have hh' : lp (f13_b2 (castL E) (i : Int) b z) 0 = _ := hh
    exact hh'
  have hh := lp_all (body := f13_b1 (castL E) b z) E (fun i x => allI (fun k y => !(decide (i ≠ k) && (!bfr b x y && !bfr b y x))) 0 E) (Sum.inr true : Unit ⊕ Bool) (Sum.inl ()) (fun k => (k : Int)) (fun i x hx => by
    have hi := get_lt hx
    unfold f13_b1
    rw [if_pos (by simp only [decide_eq_true_eq, cast_len]; omega), inner i x hx, Option.bind_some, wrap_cnt (show i ≤ 1000 by omega)]
    cases allI (fun k y => !(decide (i ≠ k) && (!bfr b x y && !bfr b y x))) 0 E <;> rfl) (by unfold f13_b1; rw [if_neg (by simp [cast_len])])
  have hh' : lp (f13_b1 (castL E) b z) 0 = _ := hh
  rw [hh', if_neg]
  intro hall
  obtain ⟨i, k, x, y, hx, hy, hne, b1, b2⟩ := h
  have h4 := (allI_iff _ _ _).1 hall i x hx
  have h5 := (allI_iff _ _ _).1 h4 k y hy
  rw [Nat.zero_add, Nat.zero_add, b1, b2] at h5
  simp [hne] at h5
theorem may_loop {b : TLandBook} (ok : bookOk b = true) {L : List Nat} {k : Nat} (hk : k < L.length) (hL : L.getD k 0 < b.Events.length) (f : Int) (h : List Int) (hl : h.length ≤ 1000) : lp (f13_b4 (k : Int) b (castL L, f, 0) (h, 0)) (false, 0) = some (h.contains ((hol b (L.getD k 0) : Nat) : Int)) := by
  obtain ⟨q, q1, q2, q3, q4⟩ := event_at ok hL
  have h0 := lp_cnt (body := f13_b4 (k : Int) b (castL L, f, 0) (h, 0)) h.length (fun j (t : Bool) => t = (h.take j).contains ((hol b (L.getD k 0) : Nat) : Int)) (fun k t => (t, (k : Int))) id (fun j t hj ht => ?_) (fun t ht => ?_) (t := false) rfl
  · obtain ⟨t, e1, e2⟩ := h0
    have e1' : lp (f13_b4 (k : Int) b (castL L, f, 0) (h, 0)) (false, 0) = some t := e1
    rw [e1', e2, List.take_length]
  · subst ht
    have hg : h[j]? = some h[j] := List.getElem?_eq_getElem hj
    refine ⟨_, ?_, rfl⟩
    unfold f13_b4
    rw [if_pos (by simp only [decide_eq_true_eq]; omega), take_snoc hg]
    simp only [ix_nat h, hg, cast_ix (getD_at hk), q1, q2, Option.bind_some, wrap_cnt (show j ≤ 1000 by omega)]
    have e : (h.take j ++ [h[j]]).contains ((hol b (L.getD k 0) : Nat) : Int) = ((h.take j).contains ((hol b (L.getD k 0) : Nat) : Int) || (h[j] == ((hol b (L.getD k 0) : Nat) : Int))) := by
      rw [Bool.eq_iff_iff, Bool.or_eq_true, List.contains_iff_mem, List.contains_iff_mem, List.mem_append, List.mem_singleton, beq_iff_eq]
      exact ⟨fun h => h.imp id Eq.symm, fun h => h.imp id Eq.symm⟩
    rw [e]
    cases (h.take j).contains ((hol b (L.getD k 0) : Nat) : Int) with
    | true => rfl
    | false => rfl
  · unfold f13_b4
    rw [if_neg (by simp)]
    rw [ht]
    rfl
theorem heir_has {b : TLandBook} {h p : Nat} (hp : p < b.People.length) : (heirL b h b.People.length).contains (p : Int) = mayB b h p := by
  rw [Bool.eq_iff_iff, List.contains_iff_mem]
  unfold heirL castL
  rw [List.mem_map]
  constructor
  · rintro ⟨q, hq, e⟩
    have e' : q = p := by omega
    subst e'
    exact (List.mem_filter.1 hq).2
  · intro hm
    exact ⟨p, List.mem_filter.2 ⟨List.mem_range.2 hp, hm⟩, rfl⟩
theorem fol_spec (b : TLandBook) (L : List Nat) : (folB b L = -1 ∧ ∀ k, 1 ≤ k → k < L.length → mayB b (hol b (L.getD (k - 1) 0)) (hol b (L.getD k 0)) = true) ∨ ∃ n : Nat, folB b L = (n : Int) ∧ 1 ≤ n ∧ n < L.length ∧ mayB b (hol b (L.getD (n - 1) 0)) (hol b (L.getD n 0)) = false ∧ ∀ k, 1 ≤ k → k < n → mayB b (hol b (L.getD (k - 1) 0)) (hol b (L.getD k 0)) = true := by
  unfold folB
  cases hf : (List.range' 1 (L.length - 1)).find? fun k => !mayB b (hol b (L.getD (k - 1) 0)) (hol b (L.getD k 0)) with
  | none =>
    refine .inl ⟨rfl, fun k h1 h2 => ?_⟩
    have := List.find?_eq_none.1 hf k (List.mem_range'_1.2 (by omega))
    simpa using this
  | some n =>
    have hm := List.mem_range'_1.1 (List.mem_of_find?_eq_some hf)
    have h3 := List.find?_some hf
    refine .inr ⟨n, rfl, by omega, by omega, by simpa using h3, fun k h1 h2 => ?_⟩
    obtain ⟨_, us, vs, e, h5⟩ := List.find?_eq_some_iff_append.1 hf
    have hk : k ∈ us := by
      have hmem : k ∈ us ++ n :: vs := by rw [← e]; exact List.mem_range'_1.2 (by omega)
      rcases List.mem_append.1 hmem with h | h
      · exact h
      · have hs : (us ++ n :: vs).Pairwise (· < ·) := by rw [← e]; exact List.pairwise_lt_range'
        rcases List.mem_cons.1 h with h6 | h6
        · omega
        · have := (List.pairwise_cons.1 (List.pairwise_append.1 hs).2.1).1 k h6
          omega
    have := h5 k hk
    simpa using this
theorem held_loop {b : TLandBook} (ok : bookOk b = true) (ha : agreeB b = true) (h1 : b.People.length ≤ 1000) (h2 : b.Events.length ≤ 1000) (h3 : b.Memories.length ≤ 1000) {strip : Int} {ys : List Int} (ht : truthB b ys = true) {L : List Nat} (hL : ∀ x ∈ L, x < b.Events.length ∧ stp b x = strip) (hp : L.Pairwise fun x y => bfr b x y = true) (hl : L.length ≤ 1000) :
    lp (f13_b3 b strip ys (castL L, folB b L, 0) (allT b ys, 0) (earlyL b, 0)) 0 = some (.inl () : Unit ⊕ Bool) := by
  refine lp_thru (body := f13_b3 b strip ys (castL L, folB b L, 0) (allT b ys, 0) (earlyL b, 0)) L (.inl ()) (fun k => (k : Int)) (fun k x hx => ?_) ?_
  · have hk := get_lt hx
    obtain ⟨hxe, hxs⟩ := hL x (List.mem_of_getElem? hx)
    obtain ⟨q, q1, q2, q3, q4⟩ := event_at ok hxe
    have e45 : f45 b (x : Int) = some true := by
      rw [f45_eq b _ h2]
      congr 1
      exact inR_iff.2 (by omega)
    have hxd : L.getD k 0 = x := by have := getD_at hk; rw [hx] at this; exact (Option.some.inj this).symm
    unfold f13_b3
    rw [if_pos (by simp only [decide_eq_true_eq, cast_len]; omega)]
    simp only [cast_ix hx, e45, q1, q3, hxs, Option.bind_some, Bool.not_true, Bool.false_eq_true, if_false, bne_self_eq_false, wrap_cnt (show k ≤ 1000 by omega)]
    by_cases h0 : k = 0
    · subst h0
      simp
    · have hpos : decide ((0 : Int) < (k : Int)) = true := decide_eq_true (by omega)
      have a2 := getD_at (L := L) (k := k - 1) (by omega)
      obtain ⟨u, hu⟩ : ∃ u, u = L.getD (k - 1) 0 := ⟨_, rfl⟩
      rw [← hu] at a2
      obtain ⟨hue, hus⟩ := hL u (List.mem_of_getElem? a2)
      obtain ⟨r, r1, r2, r3, r4⟩ := event_at ok hue
      have hb : bfr b u x = true := by
        rw [List.pairwise_iff_getElem] at hp
        have := hp (k - 1) k (by omega) hk (by omega)
        have g1 : L[k - 1]'(by omega) = u := by rw [List.getElem?_eq_getElem (by omega)] at a2; exact Option.some.inj a2
        have g2 : L[k] = x := by rw [List.getElem?_eq_getElem hk] at hx; exact Option.some.inj hx
        rw [g1, g2] at this
        exact this
      have hw := bef_early ha hue hxe hb
      have d1 : decide (-tabAll b x 7 ≤ -tabAll b u 7) = false := decide_eq_false (by omega)
      obtain ⟨y1, y2, y3⟩ := yv_at ht hxe
      obtain ⟨w1, w2, w3⟩ := yv_at ht hue
      have hyr : ((if allT b ys = true then (some (decide (yv ys x ≤ yv ys u))) else (some false) : Option Bool)) = some false := by
        by_cases hal : allT b ys = true
        · rw [if_pos hal]
          have htr := (tr_iff ok).1 ((truth_all ok ht).1 hal)
          have := (tr_bound ok htr hxe hue).1
          unfold bfr at hb
          rw [decide_eq_true_eq] at hb
          congr 1
          exact decide_eq_false (by omega)
        · rw [if_neg hal]
      have hk0 : ((k : Int) == 0) = false := by simp; omega
      simp only [hpos, if_true, early_get hxe, early_get hue, pred_pos (show 0 < k by omega) (show k ≤ 1073741824 by omega), cast_ix a2, d1, y1, w1, Option.bind_some, Bool.false_eq_true, if_false, hyr, hk0]
      -- who may follow
      have e37 := f37_eq b r.Holder h1 h2 h3
      have hir : inR r.Holder 0 ((b.People.length : Int) - 1) = true := inR_iff.2 (by rw [r2]; omega)
      rw [ok, hir, Bool.and_self, if_pos rfl, r2, Int.toNat_natCast] at e37
      have hhl := heir_len b (hol b u) b.People.length
      have e4 := may_loop ok hk (by rw [hxd]; exact hxe) (folB b L) (heirL b (hol b u) b.People.length) (by omega)
      rw [hxd, heir_has q4] at e4
      have hfol := fol_spec b L
      rcases hfol with ⟨f1, f2⟩ | ⟨n, f1, f2, f3, f4, f5⟩
      · have hm := f2 k (by omega) hk
        rw [hxd, ← hu] at hm
        have hd : decide (0 ≤ folB b L) = false := by rw [f1]; rfl
        have hne : ((k : Int) != folB b L) = true := by rw [f1]; exact bne_iff_ne.2 (by omega)
        simp only [hd, Bool.false_eq_true, if_false, Option.bind_some, r1, r2, e37, e4, hm, hne]
        simp
      · have hd : decide (0 ≤ folB b L) = true := by rw [f1]; exact decide_eq_true (by omega)
        by_cases hkn : n < k
        · have hd2 : decide (folB b L < (k : Int)) = true := by rw [f1]; exact decide_eq_true (by omega)
          simp only [hd, hd2, if_true, Option.bind_some, Sum.elim_inl]
        · have hd2 : decide (folB b L < (k : Int)) = false := by rw [f1]; exact decide_eq_false (by omega)
          have hm : (mayB b (hol b u) (hol b x) == ((k : Int) != folB b L)) = true := by
            rw [f1]
            by_cases e : k = n
            · have hq : mayB b (hol b u) (hol b x) = false := by rw [← e, hxd, ← hu] at f4; exact f4
              rw [hq]; simp [e]
            · have hq := f5 k (by omega) (by omega)
              rw [hxd, ← hu] at hq
              rw [hq]; simp; omega
          simp only [hd, hd2, Bool.false_eq_true, if_false, if_true, Option.bind_some, r1, r2, e37, e4, hm]
          simp
  · unfold f13_b3
    rw [if_neg (by simp [cast_len])]
theorem landHeld_pure (x0 : TLandBook) (x1 : Int) (x2 : List Int) (hl : x2.length ≤ 9223372036854775807) : f13 x0 x1 x2 = some true := by
  unfold f13
  rw [f47_eq', Option.bind_some]
  by_cases hr : (shortB x0 && (bookOk x0 && agreeB x0)) = true
  · simp only [Bool.and_eq_true] at hr
    obtain ⟨hs, ok, ha⟩ := hr
    obtain ⟨h1, h2, h3⟩ := bk_le hs
    have hn := (book_parts ok).2.1.2
    rw [f33_eq, f29_eq x0 x2 hl, f35_eq x0 x1 h1 h2 h3, f27_eq x0 x2 h1 h2 h3, f28_eq x0 h1 h2 h3, known_pure]
    by_cases hst : inR x1 0 5 = true
    · by_cases ht : truthB x0 x2 = true
      · have hel : (earlyL x0).length = x0.Events.length := by simp [earlyL]
        simp only [hs, ok, ha, hst, ht, hel, evs_loop ok x1, Bool.and_self, Bool.not_true, Bool.false_eq_true, if_true, if_false, Option.bind_some, bne_self_eq_false]
        unfold lineV
        cases hq : linP x0 x1 x0.Events.length with
        | none =>
          obtain ⟨x, y, g1, g2, g3, g4, g5, g6, g7⟩ := lin_none ok ha x1 (Nat.le_refl _) hq
          obtain ⟨i, hi⟩ := List.getElem?_of_mem (mem_evs.2 ⟨g1, g4⟩ : x ∈ evs x0 x1 x0.Events.length)
          obtain ⟨k, hk⟩ := List.getElem?_of_mem (mem_evs.2 ⟨g2, g5⟩ : y ∈ evs x0 x1 x0.Events.length)
          have hev := evs_le x0 x1 x0.Events.length
          have := open_loop ok ha h1 h2 h3 (E := evs x0 x1 x0.Events.length) (fun x hx => (mem_evs.1 hx).1) (by omega) ([], 0, 8) rfl ⟨i, k, x, y, hi, hk, fun e => by
            subst e
            rw [hi] at hk
            exact g3 (Option.some.inj hk), g6, g7⟩
          simp [this]
        | some L =>
          obtain ⟨eL, hp⟩ := lin_same ok ha x1 (Nat.le_refl _) hq
          have hlen := linR_len x0 x1 x0.Events.length
          rw [← eL] at hlen
          have hlp := held_loop ok ha h1 h2 h3 ht (strip := x1) (L := L) (fun x hx => by rw [eL] at hx; exact mem_linR.1 hx) hp (by omega)
          have hle : (castL L).length = (castL (evs x0 x1 x0.Events.length)).length := by
            rw [cast_len, cast_len, eL, evs_len]
          have hne : (((castL L).length : Int) != ((castL (evs x0 x1 x0.Events.length)).length : Int)) = false := by rw [hle]; simp
          have hmid : ((if (((castL L).length : Int) != ((castL (evs x0 x1 x0.Events.length)).length : Int)) = true then (some true) else (if (decide (folB x0 L < (-1))) = true then (some true) else (if (folB x0 L == 0) = true then (some true) else (if (decide (((castL L).length : Int) ≤ folB x0 L)) = true then (some (folB x0 L != (-1))) else (some false)))) : Option Bool)) = some false := by
            rw [hne]
            rcases fol_spec x0 L with ⟨f1, _⟩ | ⟨n, f1, f2, f3, _⟩
            · rw [f1]
              cases decide (((castL L).length : Int) ≤ -1) <;> rfl
            · rw [f1]
              have d1 : decide ((n : Int) < -1) = false := decide_eq_false (by omega)
              have d2 : ((n : Int) == 0) = false := by simp; omega
              have d3 : decide (((castL L).length : Int) ≤ (n : Int)) = false := decide_eq_false (by rw [cast_len]; omega)
              rw [d1, d2, d3]
              rfl
          simp only [hmid, Option.bind_some, hlp, bne_self_eq_false, Bool.false_eq_true, if_false, Sum.elim_inl]
      · simp [hs, ok, ha, hst, ht]
    · simp [hs, ok, ha, hst]
  · have hr' : (shortB x0 && (bookOk x0 && agreeB x0)) = false := by simpa using hr
    rw [hr', known_pure]
    rfl
theorem landHeld (x0 : TLandBook) (x1 : Int) (x2 : List Int) (k0 : okTLandBook x0) (k1 : okI x1) (k2 : ∀ y ∈ x2, okI y) (hl : x2.length ≤ 9223372036854775807) : f13 x0 x1 x2 = some true := landHeld_pure x0 x1 x2 hl
end Go.Proofs.YtcaflmilfhhikaaDoor
