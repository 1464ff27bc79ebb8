/-
  TopYears, in plain Lean: the book of the first calls is as it must be.
-/
import Derived.Test.YtoklmemeanmfdaaGreatCh
import Derived.Test.YtoklmemeanmfdaaGreatOp
namespace Go.Proofs.YtoklmemeanmfdaaGreat
open Go.RowKit
set_option linter.unusedVariables false
set_option linter.unusedSimpArgs false

section
variable {p : TShipPass} {g : TSpan} {lo hi n : Nat} {r : List TShipCall}
theorem memC_at {n : Nat} {m : TLandMemory} (h : m ∈ memL g n) : ∃ i, i + 1 < n ∧ m = memC g i := by
  unfold memL at h
  rw [List.mem_map] at h
  obtain ⟨i, h1, rfl⟩ := h
  rw [List.mem_range] at h1
  exact ⟨i, by omega, rfl⟩
theorem book_ok (h1 : 1 ≤ n) (h7 : n ≤ 7) (hg : 1 ≤ g.Low ∧ g.Low ≤ g.High ∧ g.High ≤ 60) : La.bookOk (bookC g n) = true := by
  unfold La.bookOk
  simp only [Bool.and_eq_true, List.all_eq_true, decide_eq_true_eq, La.inR_iff]
  refine ⟨rfl, by show 1 ≤ ((1 : Nat) : Int) ∧ ((1 : Nat) : Int) ≤ 10; omega, ?_, ?_, ?_, ?_⟩
  · have hl : (bookC g n).Events.length = n := List.length_replicate
    rw [hl]; omega
  · show ((memL g n).length : Int) ≤ 10
    rw [memL_len]; omega
  · intro e he
    have he : e = ⟨0, 0⟩ := (List.mem_replicate.1 he).2
    subst he
    rfl
  · intro m hm
    obtain ⟨i, hi, rfl⟩ := memC_at (n := n) hm
    unfold La.memOk
    have hl : (bookC g n).Events.length = n := List.length_replicate
    simp only [Bool.and_eq_true, decide_eq_true_eq, La.inR_iff, hl]
    refine ⟨?_, ?_, ?_, ?_, ?_, ?_⟩
    · show 0 ≤ (i : Int) ∧ (i : Int) ≤ (n : Int) - 1; omega
    · show 0 ≤ ((i + 1 : Nat) : Int) ∧ ((i + 1 : Nat) : Int) ≤ (n : Int) - 1; omega
    · have : ((i : Int) == ((i + 1 : Nat) : Int)) = false := by simp; omega
      show (!((i : Int) == ((i + 1 : Nat) : Int))) = true
      rw [this]; rfl
    · show -1000 ≤ g.Low; omega
    · show g.Low ≤ g.High; omega
    · show g.High ≤ 1000; omega
theorem dayL_len (r : List TShipCall) : (dayL r).length = r.length := by simp [dayL]
theorem yv_day {i : Nat} {c : TShipCall} (h : r[i]? = some c) : La.yv (dayL r) i = c.Day := by
  unfold La.yv dayL
  rw [List.getD_eq_getElem?_getD, List.getElem?_map, h]; rfl
/-- The days are a truth of the book. -/
theorem day_mem (hr : ChainC p lo hi 0 r) (hg : g.Low = (lo : Int) ∧ g.High = (hi : Int)) {m : TLandMemory} (hm : m ∈ (bookC g r.length).Memories) : La.MemT (La.yv (dayL r)) m := by
  obtain ⟨i, hi', rfl⟩ := memC_at (n := r.length) hm
  have a : r[i]? = some r[i] := List.getElem?_eq_getElem (by omega)
  have b : r[i + 1]? = some r[i + 1] := List.getElem?_eq_getElem hi'
  have := chain_gap r 0 i _ _ hr a b
  unfold La.MemT
  show g.Low ≤ La.yv (dayL r) (((i + 1 : Nat) : Int)).toNat - La.yv (dayL r) ((i : Int)).toNat ∧ La.yv (dayL r) (((i + 1 : Nat) : Int)).toNat - La.yv (dayL r) ((i : Int)).toNat ≤ g.High
  rw [Int.toNat_natCast, Int.toNat_natCast, yv_day a, yv_day b]
  omega
theorem day_tr (hs : p.Swell.length ≤ 70) (hr : ChainC p lo hi 0 r) (hg : g.Low = (lo : Int) ∧ g.High = (hi : Int)) : La.Tr (bookC g r.length) (La.yv (dayL r)) := by
  refine ⟨fun e he => ?_, fun m hm => day_mem hr hg hm⟩
  have he : e < r.length := by
    have : (bookC g r.length).Events.length = r.length := List.length_replicate
    omega
  have a : r[e]? = some r[e] := List.getElem?_eq_getElem he
  have := chain_days r 0 e _ hr a
  rw [yv_day a]
  omega
theorem day_truth (hs : p.Swell.length ≤ 70) (hr : ChainC p lo hi 0 r) : La.truthB (bookC g r.length) (dayL r) = true := by
  unfold La.truthB
  have hl : (bookC g r.length).Events.length = r.length := List.length_replicate
  rw [Bool.and_eq_true, List.all_eq_true, hl, dayL_len]
  refine ⟨fun y hy => ?_, by simp⟩
  unfold dayL at hy
  obtain ⟨c, hc, rfl⟩ := List.mem_map.1 hy
  obtain ⟨i, hi', rfl⟩ := List.mem_iff_getElem.1 hc
  have := chain_days r 0 i _ hr (List.getElem?_eq_getElem hi')
  rw [La.inR_iff]
  omega
/-! ### The line -/
theorem hol_C {n e : Nat} : La.hol (bookC g n) e = 0 := by
  unfold La.hol
  show (((List.replicate n (⟨0, 0⟩ : TLandEvent))[e]?.map fun q : TLandEvent => q.Holder).getD 0).toNat = 0
  rw [List.getElem?_replicate]
  split <;> rfl
theorem stp_C {n e : Nat} : La.stp (bookC g n) e = 0 := by
  unfold La.stp
  show (((List.replicate n (⟨0, 0⟩ : TLandEvent))[e]?.map fun q : TLandEvent => q.Strip).getD 0) = 0
  rw [List.getElem?_replicate]
  split <;> rfl
theorem bfr_one (ok : La.bookOk (bookC g n) = true) (ha : La.agreeB (bookC g n) = true) (hg : 1 ≤ g.Low) {i : Nat} (hi : i + 1 < n) : La.bfr (bookC g n) i (i + 1) = true := by
  have hl : (bookC g n).Events.length = n := List.length_replicate
  have hin : i + 1 ∈ La.placesL (bookC g n).Events.length := La.ev_in (by omega)
  have h := (La.late_tr ok ha hin).2 (memC g i) (by
    show memC g i ∈ memL g n
    unfold memL
    exact List.mem_map.2 ⟨i, List.mem_range.2 (by omega), rfl⟩)
  unfold La.MemT at h
  have h : g.Low ≤ (La.tabAll (bookC g n) (i + 1) (((i + 1 : Nat) : Int)).toNat - La.tabAll (bookC g n) (i + 1) 7) - (La.tabAll (bookC g n) (i + 1) ((i : Int)).toNat - La.tabAll (bookC g n) (i + 1) 7) := h.1
  rw [Int.toNat_natCast, Int.toNat_natCast, La.tab_zero' ok ha hin] at h
  unfold La.bfr
  rw [decide_eq_true_eq]
  omega
theorem bfr_lt (ok : La.bookOk (bookC g n) = true) (ha : La.agreeB (bookC g n) = true) (hg : 1 ≤ g.Low) {i : Nat} : ∀ (k : Nat), i + 1 + k < n → La.bfr (bookC g n) i (i + 1 + k) = true
  | 0, h => bfr_one ok ha hg h
  | k + 1, h => by
    have hl : (bookC g n).Events.length = n := List.length_replicate
    exact La.bef_trans' ha (by omega) (by omega) (by omega) (bfr_lt ok ha hg k (by omega)) (bfr_one ok ha hg (i := i + 1 + k) (by omega))
theorem linP_C (ok : La.bookOk (bookC g n) = true) (ha : La.agreeB (bookC g n) = true) (hg : 1 ≤ g.Low) : ∀ j, j ≤ n → La.linP (bookC g n) 0 j = some (List.range j)
  | 0, _ => rfl
  | j + 1, hj => by
    have hl : (bookC g n).Events.length = n := List.length_replicate
    have hb : ∀ o, o < j → La.bfr (bookC g n) o j = true := fun o ho => by
      have := bfr_lt ok ha hg (i := o) (j - o - 1) (by omega)
      rwa [show o + 1 + (j - o - 1) = j by omega] at this
    have hnb : ∀ o, o < j → La.bfr (bookC g n) j o = false := fun o ho => by
      cases h : La.bfr (bookC g n) j o with
      | false => rfl
      | true =>
        have h1 := La.bef_trans' ha (by omega) (by omega) (by omega) (hb o ho) h
        rw [La.bef_irr ok ha (by omega)] at h1
        cases h1
    unfold La.linP
    rw [linP_C ok ha hg j (by omega), Option.bind_some, stp_C]
    rw [if_neg (by simp)]
    unfold La.insP
    have hall : (List.range j).all (fun o => La.bfr (bookC g n) j o || La.bfr (bookC g n) o j) = true := by
      rw [List.all_eq_true]
      intro o ho
      rw [List.mem_range] at ho
      rw [hb o ho, Bool.or_true]
    have hidx : (List.range j).findIdx (fun o => La.bfr (bookC g n) j o) = j := by
      have : (List.range j).findIdx (fun o => La.bfr (bookC g n) j o) = (List.range j).length := by
        rw [List.findIdx_eq_length]
        intro o ho
        rw [List.mem_range] at ho
        exact hnb o ho
      simpa using this
    rw [if_pos hall, hidx, List.take_of_length_le (by simp), List.drop_of_length_le (by simp), List.range_succ]
theorem mayB_C {a b : Nat} : La.mayB (bookC g n) 0 0 = false := by
  unfold La.mayB; simp
theorem folB_C : La.folB (bookC g n) (List.range n) = if 1 < n then 1 else -1 := by
  unfold La.folB
  rw [List.length_range]
  by_cases h : 1 < n
  · rw [if_pos h]
    obtain ⟨m, rfl⟩ : ∃ m, n = m + 2 := ⟨n - 2, by omega⟩
    have : (List.range' 1 (m + 2 - 1)) = 1 :: List.range' 2 m := rfl
    rw [this, List.find?_cons]
    rw [hol_C, hol_C, mayB_C (a := 0) (b := 0)]
    rfl
  · rw [if_neg h]
    have : n - 1 = 0 := by omega
    rw [this]
    rfl
end
/-! ### The law -/
theorem f7_true : f7 = some true := rfl
theorem book_lens (g : TSpan) {n : Nat} (h : n ≤ 7) : (bookC g n).People.length ≤ 1000 ∧ (bookC g n).Events.length ≤ 1000 ∧ (bookC g n).Memories.length ≤ 1000 := by
  have hl : (bookC g n).Events.length = n := List.length_replicate
  have hm : (bookC g n).Memories.length = n - 1 := memL_len g n
  exact ⟨by show 1 ≤ 1000; omega, by omega, by omega⟩
theorem topYears_some {p : TShipPass} {g : TSpan} {n : Nat} {r : List TShipCall} (hs : Sp.passShort p) (hp : Sp.PassOk p) (hg : 1 ≤ g.Low ∧ g.Low ≤ g.High ∧ g.High ≤ 60) (h1 : 1 ≤ n) (h7 : n ≤ 7) (hr : ChainC p g.Low.toNat g.High.toNat 0 r) (hn : r.length = n) (u : Int) :
    ((f9 p g (n : Int) r).bind fun y37 => if (!y37) = true then (some false) else ((lp (f3_b0 g (n : Int) (r, u)) ([], [], 0, (⟨[(⟨(-1), (-1)⟩ : TLandPerson)], [], []⟩ : TLandBook))).bind fun q53 => (f10 (⟨q53.2.2.People, q53.2.2.Events, q53.2.2.Memories⟩ : TLandBook) q53.1).bind fun y91 => (f11 (⟨q53.2.2.People, q53.2.2.Events, q53.2.2.Memories⟩ : TLandBook)).bind fun y93 => (f12 (⟨q53.2.2.People, q53.2.2.Events, q53.2.2.Memories⟩ : TLandBook) 0).bind fun y97 => ((if (y91.2 != 0) = true then (some true) else (if (y93.2 != 0) = true then (some true) else (if (y97.2.2 != 0) = true then (some true) else (if (!y91.1) = true then (some true) else (if ((y93.1.length : Int) != (n : Int)) = true then (some true) else ((f13 y97.1 q53.2.1).bind fun y107 => some (!y107)))))) : Option Bool)).bind fun q101 => if q101 = true then (some false) else ((lp (f3_b1 q53 (n : Int) y93) (0, (⟨q53.2.2.People, q53.2.2.Events, q53.2.2.Memories⟩ : TLandBook))).bind fun q115 => Sum.elim (fun p114 : TLandBook => ((if ((y97.2.1 == 1) == (decide (1 < (n : Int)))) = true then (if ((y97.2.1 == (-1)) == ((n : Int) == 1)) = true then ((f7).bind fun y130 => some y130) else (some false)) else (some false) : Option Bool)).bind fun q127 => some q127) (fun v134 : Bool => some v134) q115))) = some true := by
  have hgl : g.Low = (g.Low.toNat : Int) ∧ g.High = (g.High.toNat : Int) := by omega
  subst hn
  obtain ⟨l1, l2, l3⟩ := book_lens g h7
  have ok := book_ok (g := g) h1 h7 hg
  have htr := day_tr hs.2 hr hgl
  have ha : La.agreeB (bookC g r.length) = true := (La.agree_tr ok).2 ⟨_, htr⟩
  have hall : La.allT (bookC g r.length) (dayL r) = true := by
    unfold La.allT
    rw [List.all_eq_true]
    exact fun m hm => La.memB_iff.2 (day_mem hr hgl hm)
  have hlen : (bookC g r.length).Events.length = r.length := List.length_replicate
  have e10 : f10 (bookC g r.length) (dayL r) = some (true, 0) := by
    rw [La.f10_eq _ _ l1 l2 l3, ok, day_truth hs.2 hr, hall]; rfl
  have e11 : f11 (bookC g r.length) = some (La.earlyL (bookC g r.length), 0) := by
    rw [La.f11_eq _ l1 l2 l3, if_pos ok, if_pos ha]
  have e12 : f12 (bookC g r.length) 0 = some (ordL r.length, (if 1 < r.length then 1 else -1), 0) := by
    rw [La.f12_eq _ _ l1 l2 l3, ok, if_pos (show (true && La.inR 0 0 5) = true from rfl), if_pos ha]
    unfold La.lineV
    rw [hlen, linP_C ok ha hg.1 _ (Nat.le_refl _)]
    show some (La.castL (List.range r.length), La.folB (bookC g r.length) (List.range r.length), 0) = _
    rw [folB_C]; rfl
  have e13 : f13 (ordL r.length) (ordL r.length) = some true := La.f13_same (by rw [ordL_len]; omega)
  have hel : (La.earlyL (bookC g r.length)).length = r.length := by unfold La.earlyL; rw [List.length_map, List.length_range, hlen]
  have eb1 : ∀ q : List Int × List Int × TLandBook, q.1 = dayL r → ∀ B : TLandBook, lp (f3_b1 q (r.length : Int) (La.earlyL (bookC g r.length), 0)) (0, B) = some (.inl B) := by
    intro q hq B
    have h := lp_thru (body := f3_b1 q (r.length : Int) (La.earlyL (bookC g r.length), 0)) (dayL r) (Sum.inl B) (fun k => ((k : Int), B)) (fun k y hy => ?_) ?_
    · exact h
    · have hk := get_lt hy
      rw [dayL_len] at hk
      have hw : IntKind.i64.wrap ((k : Int) + 1) = ((k + 1 : Nat) : Int) := by rw [wrap_id] <;> omega
      obtain ⟨c, hc⟩ : ∃ c, r[k]? = some c := ⟨r[k], List.getElem?_eq_getElem hk⟩
      have hyc : y = c.Day := by
        unfold dayL at hy
        rw [List.getElem?_map, hc] at hy
        exact (Option.some.inj hy).symm
      have he : (La.earlyL (bookC g r.length))[k]? = some (-La.tabAll (bookC g r.length) k 7) := by
        unfold La.earlyL
        rw [List.getElem?_map, List.getElem?_range (by omega)]; rfl
      have hb := (La.tr_bound ok htr (i := k) (k := k) (by omega) (by omega)).2.2
      rw [yv_day hc] at hb
      unfold f3_b1
      rw [if_pos (by simpa using hk)]
      simp only [ix_nat, he, hq, hy, Option.bind_some, hw]
      rw [if_neg (by simp only [decide_eq_true_eq]; omega)]
    · unfold f3_b1
      rw [if_neg (by rw [dayL_len]; simp)]
  have hbl := book_loop g r (by omega) u
  rw [are_calls hp hs hgl (by omega) hr rfl (by omega), Option.bind_some, if_neg (by simp), hbl, Option.bind_some]
  show ((f10 (bookC g r.length) (dayL r)).bind _) = _
  rw [e10, Option.bind_some]
  show ((f11 (bookC g r.length)).bind _) = _
  rw [e11, Option.bind_some]
  show ((f12 (bookC g r.length) 0).bind _) = _
  rw [e12, Option.bind_some]
  simp only [hel, e13, Option.bind_some, bne_self_eq_false, Bool.false_eq_true, if_false, Bool.not_true]
  rw [eb1 _ rfl, Option.bind_some]
  simp only [Sum.elim_inl, f7_true, Option.bind_some]
  by_cases h : 1 < r.length
  · have a1 : decide (1 < (r.length : Int)) = true := decide_eq_true (by omega)
    have a2 : ((r.length : Int) == 1) = false := by simp; omega
    rw [if_pos h, a1, a2]; rfl
  · have a1 : decide (1 < (r.length : Int)) = false := decide_eq_false (by omega)
    have a2 : ((r.length : Int) == 1) = true := by simp; omega
    rw [if_neg h, a1, a2]; rfl
theorem topYears (x0 : TShipPass) (x1 : TSpan) (x2 : Int) (_ : okTShipPass x0) (_ : okTSpan x1) (_ : okI x2) : f3 x0 x1 x2 = some true := by
  unfold f3
  by_cases h60 : 60 < x0.Tides.length
  · rw [if_pos (by simp; omega)]; rfl
  · rw [if_neg (by simp; omega)]
    by_cases h70 : 70 < x0.Swell.length
    · rw [if_pos (by simp; omega)]; rfl
    · rw [if_neg (by simp; omega)]
      have hs : Sp.passShort x0 := ⟨by omega, by omega⟩
      simp only [Sp.f4_eq x0 hs, Sp.f5_eq, Sp.f6_eq, Option.bind_some]
      cases hp : Sp.passOk x0 with
      | false => rfl
      | true =>
        cases hg : Sp.spanR x1 1 60 with
        | false => rfl
        | true =>
          cases hm : Sp.inR x2 1 8 with
          | false => rfl
          | true =>
            by_cases h7 : 7 < x2
            · simp only [Bool.not_true, Bool.false_eq_true, if_false, Option.bind_some]
              rw [if_pos (by simpa using h7)]; rfl
            · simp only [Bool.not_true, Bool.false_eq_true, if_false, Option.bind_some]
              rw [if_neg (by simpa using h7), Sp.f8_eq x0 x1 x2 hs, hp, hg, hm]
              simp only [Bool.and_self, if_true, Option.bind_some]
              rw [Sp.spanR_iff] at hg
              rw [Sp.inR_iff] at hm
              unfold Sp.planA
              cases hr : Sp.srch x0 x1.Low.toNat x1.High.toNat x2.toNat 0 with
              | none => rfl
              | some r =>
                have hx : x2 = ((x2.toNat : Nat) : Int) := by omega
                have := topYears_some (n := x2.toNat) hs (Sp.passOk_iff hp) hg (by omega) (by omega) (srch_chain _ _ _ hr) (Sp.srch_len _ _ _ hr) 0
                rw [← hx] at this
                exact this
end Go.Proofs.YtoklmemeanmfdaaGreat
