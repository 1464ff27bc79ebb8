/-
  LandMore: a memory more never widens bounds, nor takes a line away (plain law).
-/
import Derived.Test.YtcaflmilfhhikaaDoorLj
import Derived.Test.YtcaflmilfhhikaaDoorLw
import Derived.Test.YtcaflmilfhhikaaDoorFm
import Derived.Test.YtcaflmilfhhikaaDoorBaseK
namespace Go.Proofs.YtcaflmilfhhikaaDoor
open Go.RowKit
set_option linter.unusedVariables false

theorem feas_all' {b : TLandBook} (ok : bookOk b = true) {y : Nat → Int} : Feas (placesL b.Events.length) (firstT b (bitI ((2 ^ b.Memories.length - 1 : Nat) : Int))) y ↔ (∀ e, e < b.Events.length → y 7 ≤ y e ∧ y e ≤ y 7 + 1000) ∧ ∀ m ∈ b.Memories, MemT y m := by
  obtain ⟨_, ⟨_, hn⟩, hl, hm, hF⟩ := book_parts ok
  rw [feas_first b _ hn hF]
  refine and_congr_right fun _ => ⟨fun k m hm => ?_, fun k j m hj _ => k m (List.mem_of_getElem? hj)⟩
  obtain ⟨j, hj⟩ := List.getElem?_of_mem hm
  exact k j m hj (all_bits hl (get_lt hj))
section
variable {b : TLandBook} {m : TLandMemory} (ok : bookOk b = true) (okx : bookOk (moreB b m) = true)
include ok okx
theorem more_agree (h : agreeB (moreB b m) = true) : agreeB b = true := by
  rw [agree_tr okx] at h
  rw [agree_tr ok]
  obtain ⟨ys, hy⟩ := h
  exact ⟨ys, (more_tr.1 hy).1⟩
theorem more_tab (h : agreeB (moreB b m) = true) {i k : Nat} (hi : i ∈ placesL b.Events.length) (hk : k ∈ placesL b.Events.length) : tabAll (moreB b m) i k ≤ tabAll b i k := by
  have hfx : Feas (placesL b.Events.length) (tabAll (moreB b m)) (tabAll (moreB b m) i) := clo_feas (tab_closed h) hi
  have hf1 : Feas (placesL b.Events.length) (firstT (moreB b m) (bitI ((2 ^ (moreB b m).Memories.length - 1 : Nat) : Int))) (tabAll (moreB b m) i) := feas_pass.1 hfx
  have h2 := (feas_all' okx).1 hf1
  have h3 : Feas (placesL b.Events.length) (tabAll b) (tabAll (moreB b m) i) := feas_pass.2 ((feas_all' ok).2 ⟨h2.1, fun q hq => h2.2 q (List.mem_append_left _ hq)⟩)
  have h4 := h3 i hi k hk
  have h0 : tabAll (moreB b m) i i = 0 := tab_zero' okx h hi
  omega
theorem more_bfr (h : agreeB (moreB b m) = true) {i k : Nat} (hi : i < b.Events.length) (hk : k < b.Events.length) (hb : bfr b i k = true) : bfr (moreB b m) i k = true := by
  have := more_tab ok okx h (ev_in hk) (ev_in hi)
  unfold bfr at *
  rw [decide_eq_true_eq] at *
  omega
theorem more_line (h : agreeB (moreB b m) = true) (strip : Int) (j : Nat) : ∀ L, j ≤ b.Events.length → linP b strip j = some L → linP (moreB b m) strip j = some L := by
  have ha := more_agree ok okx h
  induction j with
  | zero => intro L _ hL; cases hL; rfl
  | succ j ih =>
    intro L hj hL
    have e1 : linP b strip (j + 1) = (linP b strip j).bind fun L => if (stp b j != strip) = true then some L else insP b L j := rfl
    have e2 : linP (moreB b m) strip (j + 1) = (linP (moreB b m) strip j).bind fun L => if (stp (moreB b m) j != strip) = true then some L else insP (moreB b m) L j := rfl
    rw [e1] at hL
    obtain ⟨M, h1, h2⟩ := bnd hL
    have hs : stp (moreB b m) j = stp b j := rfl
    rw [e2, ih M (by omega) h1, Option.bind_some, hs]
    by_cases hst : (stp b j != strip) = true
    · rw [if_pos hst] at h2 ⊢
      exact h2
    · rw [if_neg hst] at h2 ⊢
      obtain ⟨eM, _⟩ := lin_same ok ha strip (show j ≤ b.Events.length by omega) h1
      have hin : ∀ o ∈ M, o < b.Events.length := fun o ho => by rw [eM] at ho; have := (mem_linR.1 ho).1; omega
      have asymm : ∀ {c : TLandBook}, bookOk c = true → agreeB c = true → ∀ i k, i < c.Events.length → k < c.Events.length → bfr c i k = true → bfr c k i = false := fun {c} okc hac i k hi hk hb => by
        cases hq : bfr c k i with
        | false => rfl
        | true =>
          have := bef_trans' hac hi hk hi hb hq
          rw [bef_irr okc hac hi] at this
          cases this
      unfold insP at h2
      split at h2
      · rename_i hall
        rw [List.all_eq_true] at hall
        have key : ∀ o ∈ M, bfr (moreB b m) j o = bfr b j o ∧ bfr (moreB b m) o j = bfr b o j := fun o ho => by
          have := hall o ho
          rw [Bool.or_eq_true] at this
          rcases this with g | g
          · have g1 := more_bfr ok okx h (show j < b.Events.length by omega) (hin o ho) g
            have g2 := asymm ok ha _ _ (show j < b.Events.length by omega) (hin o ho) g
            have g3 := asymm okx h _ _ (show j < (moreB b m).Events.length by show j < b.Events.length; omega) (hin o ho) g1
            rw [g, g1, g2, g3]
            exact ⟨rfl, rfl⟩
          · have g1 := more_bfr ok okx h (hin o ho) (show j < b.Events.length by omega) g
            have g2 := asymm ok ha _ _ (hin o ho) (show j < b.Events.length by omega) g
            have g3 := asymm okx h _ _ (hin o ho) (show j < (moreB b m).Events.length by show j < b.Events.length; omega) g1
            rw [g, g1, g2, g3]
            exact ⟨rfl, rfl⟩
        have f1 : M.findIdx (fun o => bfr (moreB b m) j o) = M.findIdx (fun o => bfr b j o) := findIdx_congr fun o ho => (key o ho).1
        have f2 : M.all (fun o => bfr (moreB b m) j o || bfr (moreB b m) o j) = true := List.all_eq_true.2 fun o ho => by rw [(key o ho).1, (key o ho).2]; exact hall o ho
        cases h2
        unfold insP
        rw [if_pos f2, f1]
      · cases h2
theorem more_lineV (h : agreeB (moreB b m) = true) (strip : Int) (hv : (lineV b strip).2.2 = 0) : lineV (moreB b m) strip = lineV b strip := by
  unfold lineV at hv ⊢
  cases hq : linP b strip b.Events.length with
  | none => rw [hq] at hv; cases hv
  | some L =>
    have e : linP (moreB b m) strip (moreB b m).Events.length = some L := more_line ok okx h strip b.Events.length L (Nat.le_refl _) hq
    rw [e]
    have hm : ∀ h p, mayB (moreB b m) h p = mayB b h p := fun h p => by unfold mayB pM pA; rfl
    have hh : ∀ e, hol (moreB b m) e = hol b e := fun e => by unfold hol; rfl
    show (castL L, folB (moreB b m) L, 0) = (castL L, folB b L, 0)
    unfold folB
    simp only [hm, hh]
theorem more_loop (h : agreeB (moreB b m) = true) (z : TLandBook) : lp (f8m_b0 (yearsL b, 0) (yearsL (moreB b m), 0)) (0, z) = some (.inl z : TLandBook ⊕ Bool) := by
  have hn := (book_parts ok).2.1.2
  have hyl : (yearsL b).length = b.Events.length := by simp [yearsL]
  have hh := lp_thru (body := f8m_b0 (yearsL b, 0) (yearsL (moreB b m), 0)) (yearsL b) (.inl z : TLandBook ⊕ Bool) (fun k => ((k : Int), z)) (fun k y hy => by
    have hk := get_lt hy
    rw [hyl] at hk
    have e1 : ix (yearsL b) (k : Int) = some ⟨-tabAll b k 7, tabAll b 7 k⟩ := by
      unfold yearsL
      rw [ix_nat, List.getElem?_map, List.getElem?_range hk]; rfl
    have e2 : ix (yearsL (moreB b m)) (k : Int) = some ⟨-tabAll (moreB b m) k 7, tabAll (moreB b m) 7 k⟩ := by
      unfold yearsL
      rw [ix_nat, List.getElem?_map, List.getElem?_range (show k < (moreB b m).Events.length from hk)]; rfl
    have t1 := more_tab ok okx h (ev_in hk) (in7 _)
    have t2 := more_tab ok okx h (in7 _) (ev_in hk)
    have d1 : decide (-tabAll (moreB b m) k 7 < -tabAll b k 7) = false := decide_eq_false (by omega)
    have d2 : decide (tabAll b 7 k < tabAll (moreB b m) 7 k) = false := decide_eq_false (by omega)
    unfold f8m_b0
    rw [if_pos (by simp only [decide_eq_true_eq, hyl]; omega)]
    simp only [e1, e2, Option.bind_some, d1, d2, Bool.false_eq_true, if_false, wrap_cnt (show k ≤ 1000 by omega)]) (by unfold f8m_b0; rw [if_neg (by simp)])
  exact hh
end
theorem landMore_pure (x0 : TLandBook) (x1 : TLandMemory) (x2 : Int) (hl : x0.Memories.length < 4398046511104) : f8m x0 x1 x2 = some true := by
  unfold f8m
  have a1 : appB 4398046511104 [] x0.Memories = some x0.Memories := by unfold appB; rw [if_pos (by simp; omega)]; rfl
  have a2 : appB 4398046511104 x0.Memories [x1] = some (x0.Memories ++ [x1]) := by unfold appB; rw [if_pos (by simp; omega)]
  rw [a1, Option.bind_some, a2, Option.bind_some, f14_eq, Option.bind_some]
  obtain ⟨X, hX⟩ : ∃ X, X = moreB x0 x1 := ⟨_, rfl⟩
  have hX' : (⟨x0.People, x0.Events, x0.Memories ++ [x1]⟩ : TLandBook) = X := by rw [hX]; rfl
  rw [hX']
  by_cases hs : shortB x0 = true
  · obtain ⟨h1, h2, h3⟩ := bk_le hs
    have p1 : X.People.length ≤ 1000 := by rw [hX]; exact h1
    have p2 : X.Events.length ≤ 1000 := by rw [hX]; exact h2
    have p3 : X.Memories.length ≤ 1000 := by
      rw [hX]
      show (x0.Memories ++ [x1]).length ≤ 1000
      have := short_parts hs
      rw [List.length_append, List.length_singleton]
      omega
    rw [if_neg (by simp [hs]), f18_eq x0 h1 h2 h3, f18_eq X p1 p2 p3, f33_eq, known_pure, f34_eq x0 h1 h2 h3, f34_eq X p1 p2 p3, f35_eq x0 x2 h1 h2 h3, f35_eq X x2 p1 p2 p3]
    by_cases ok : bookOk x0 = true
    · by_cases okx : bookOk X = true
      · by_cases hst : inR x2 0 5 = true
        · have okx' : bookOk (moreB x0 x1) = true := by rw [← hX]; exact okx
          by_cases ha : agreeB x0 = true
          · by_cases hax : agreeB X = true
            · have hax' : agreeB (moreB x0 x1) = true := by rw [← hX]; exact hax
              have hn := (book_parts ok).2.1.2
              have hlp := more_loop ok okx' hax' X
              rw [← hX] at hlp
              have hll : (((yearsL x0).length : Int) != ((yearsL X).length : Int)) = false := by rw [hX]; simp [yearsL, moreB]
              have hlv : (lineV x0 x2).2.2 = 0 ∨ (lineV x0 x2).2.2 = 8 := by
                unfold lineV
                cases linP x0 x2 x0.Events.length with
                | none => exact .inr rfl
                | some L => exact .inl rfl
              simp only [ok, okx, hst, ha, hax, Bool.and_self, Bool.not_true, Bool.false_eq_true, if_true, if_false, Option.bind_some, bne_self_eq_false, hll, hlp, Sum.elim_inl]
              rcases hlv with g | g
              · have e := more_lineV ok okx' hax' x2 g
                rw [← hX] at e
                have e20 := f20_same (l := (lineV x0 x2).1) (by
                  unfold lineV
                  rw [lin_iff ok ha]
                  have := linR_len x0 x2 x0.Events.length
                  split
                  · rename_i heq
                    split at heq
                    · cases heq
                      show (castL _).length ≤ 1000
                      rw [cast_len]; omega
                    · cases heq
                  · simp)
                rw [e]
                simp [g, e20]
              · simp [g]
            · simp [ok, okx, hst, ha, hax]
          · have hax : agreeB X = false := by
              cases hq : agreeB X with
              | false => rfl
              | true => exact absurd (more_agree ok okx' (by rw [← hX]; exact hq)) ha
            simp [ok, okx, hst, ha, hax]
        · simp [ok, okx, hst]
      · simp [ok, okx]
    · simp [ok]
  · have hs' : shortB x0 = false := by simpa using hs
    rw [if_pos (by simp [hs']), known_pure]
    rfl
theorem slice_roomB {H : Type} {enc : TypeId × Value → H} {P : Program} {W : World} {base fuel : Nat} {sp : Nat → Bool} {held : Bool} {T t e i o : Nat} {cs : List Value} {d : DataW H} {pl : List MemPlace} {a : Option Addr} {n c : Nat}
    (hf : fieldB P T i = some (t, o, 1)) (hft : P.underlying t = some (.slice e)) (h : DataW.trod enc P W base sp held fuel T cs = some (d, pl)) (hc : cs[o]? = some (.slice a n c)) {M : Nat} (hw : ∀ q ∈ d.weights P T, q ≤ M) : n * P.bytesOf e ≤ M := by
  unfold fieldB at hf
  split at hf
  · rename_i fs hu
    obtain ⟨f, h1, h2⟩ := Option.map_eq_some_iff.1 hf
    simp only [Prod.mk.injEq] at h2
    obtain ⟨rfl, rfl, h3⟩ := h2
    exact slice_room hu h1 hft rfl h3 h hc hw
  · cases hf
theorem landMore (x0 : TLandBook) (x1 : TLandMemory) (x2 : Int) (k0 : okTLandBook x0) (k1 : okTLandMemory x1) (k2 : okI x2) (hl : x0.Memories.length < 4398046511104) : f8m x0 x1 x2 = some true := landMore_pure x0 x1 x2 hl
end Go.Proofs.YtcaflmilfhhikaaDoor
