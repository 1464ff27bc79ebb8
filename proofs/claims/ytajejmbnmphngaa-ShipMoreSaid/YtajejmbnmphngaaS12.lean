/-
  Ship: less swell, more stock, and ships that come sooner.
-/
import Derived.Test.YtajejmbnmphngaaS8
namespace Go.Proofs.Ytajejmbnmphngaa
open Go.RowKit
set_option linter.unusedSimpArgs false
set_option linter.unusedVariables false

def passWith (p : TShipPass) (d : Nat) (sw : TSpan) : TShipPass := ⟨p.Tides, p.Depth, p.Draft, p.Swell.set d sw, ⟨p.Light.Low, p.Light.High⟩⟩
theorem goes_with (p : TShipPass) (d : Nat) (sw : TSpan) (c : TShipCall) (x : Int) : goes (passWith p d sw) c x = goes p c x := rfl
theorem pass_with {p : TShipPass} (hp : PassOk p) {d : Nat} {sw : TSpan} (h : 0 ≤ sw.Low ∧ sw.Low ≤ sw.High ∧ sw.High ≤ 1000) : passOk (passWith p d sw) = true := by
  unfold passOk swellOk
  simp only [Bool.and_eq_true, List.all_eq_true, inR_iff, spanR_iff]
  have h1 := hp.nt
  have h2 := hp.ns
  refine ⟨hp.tides, fun s hs => ?_, by simp only [passWith]; omega, hp.depth, hp.draft, by simp only [passWith, List.length_set]; omega, hp.light⟩
  rcases List.mem_or_eq_of_mem_set hs with hm | rfl
  · exact hp.swell s hm
  · exact h
theorem sw_with {p : TShipPass} {d : Nat} {sw : TSpan} (hd : d < p.Swell.length) : swAt (passWith p d sw) (d : Int) = sw := by
  unfold swAt passWith
  simp only [Int.toNat_natCast]
  rw [List.getElem?_set_self hd]; rfl
theorem storeOk_of {s : TShipStore} (h : StoreOk s) : storeOk s = true := by
  unfold storeOk stockOk useOk
  simp only [Bool.and_eq_true, List.all_eq_true, inR_iff, spanR_iff, lotOk, goodOk, decide_eq_true_eq]
  have := h.ns
  exact ⟨h.stock, h.use, fun l hl => ⟨h.goods l hl, h.ng l hl, h.weight l hl, h.cost l hl⟩, by omega, h.nu, h.gap, h.nl, h.hold⟩
def storeMore (s : TShipStore) (more high : Int) : TShipStore := ⟨s.Stock.map fun v => if v + more < 100000 then v + more else 100000, s.Use, ⟨s.Gap.Low, high⟩, s.Lots, s.Hold⟩
theorem more_short {s : TShipStore} (h : StoreShort s) (more high : Int) : StoreShort (storeMore s more high) := ⟨by simp only [storeMore, List.length_map]; exact h.stock, h.use, h.lots, h.goods⟩
theorem more_ok {s : TShipStore} (h : StoreOk s) {more high : Int} (hm : 0 ≤ more) (hh : s.Gap.Low ≤ high ∧ high ≤ s.Gap.High) : StoreOk (storeMore s more high) := by
  have hg := h.gap
  refine ⟨fun x hx => ?_, h.use, h.goods, fun l hl => by simp only [storeMore, List.length_map]; exact h.ng l hl, h.weight, h.cost, by simp only [storeMore, List.length_map]; exact h.ns, by simp only [storeMore, List.length_map]; exact h.nu, by simp only [storeMore]; omega, h.nl, h.hold⟩
  simp only [storeMore, List.mem_map] at hx
  obtain ⟨v, hv, rfl⟩ := hx
  have := h.stock v hv
  split <;> omega
theorem more_le {s : TShipStore} (hs : StoreOk s) {more high : Int} (hm : 0 ≤ more) (hh : s.Gap.Low ≤ high ∧ high ≤ s.Gap.High) {n : Nat} (hn : n ≤ 300) {load : List Int} {k : Nat} (hk : k < s.Stock.length) (w : Bool)
    (h : 0 ≤ kwOf (storeMore s more high) load (endT (storeMore s more high) n w) n k) : 0 ≤ kwOf s load (endT s n w) n k ∧ kwOf s load (endT s n w) n k ≤ kwOf (storeMore s more high) load (endT (storeMore s more high) n w) n k := by
  have hs' := more_ok hs hm hh
  have hgap := hs.gap
  have gw : ∀ x ∈ (endT s n w).Gaps, 1 ≤ x := fun x hx => by rw [end_gaps s n w x hx]; split <;> omega
  have gw' : ∀ x ∈ (endT (storeMore s more high) n w).Gaps, 1 ≤ x := fun x hx => by
    have := end_gaps (storeMore s more high) n w x hx
    simp only [storeMore] at this
    rw [this]; split <;> omega
  refine want_le gw gw' (fun i x y hx hy => ?_) (endT_ok hs' hn w).sum (Int.le_refl _) (goodsL_b hs (endT_ok hs hn w) load k).1 (Int.le_refl _) ?_ h
  · have h1 := end_gaps s n w x (List.mem_of_getElem? hx)
    have h2 := end_gaps (storeMore s more high) n w y (List.mem_of_getElem? hy)
    simp only [storeMore] at h2
    cases w <;> simp at h1 h2 <;> omega
  · have hst : s.Stock[k]? = some (s.Stock.getD k 0) := by rw [List.getD_eq_getElem?_getD, List.getElem?_eq_getElem hk]; rfl
    have hb := hs.stock _ (List.mem_of_getElem? hst)
    have e : (storeMore s more high).Stock.getD k 0 = if s.Stock.getD k 0 + more < 100000 then s.Stock.getD k 0 + more else 100000 := by
      simp only [storeMore]
      rw [List.getD_eq_getElem?_getD, List.getElem?_map, hst]; rfl
    rw [e]
    split <;> omega
theorem max_sub {a b : Int} (h1 : -100000 ≤ a ∧ a ≤ 100000) (h2 : 0 ≤ b ∧ b ≤ 1000) : (if 0 < IntKind.i64.wrap (a - b) then IntKind.i64.wrap (a - b) else 0) = if 0 < a - b then a - b else 0 := by
  rw [wrap_id (x := a - b) (by omega) (by omega)]
theorem shipMore (p : TShipPass) (d less : Int) (s : TShipStore) (load : List Int) (days more sooner : Int) (_ : okTShipPass p) (_ : okI d) (_ : okI less) (_ : okTShipStore s) (_ : ∀ y ∈ load, okI y) (_ : okI days) (_ : okI more) (_ : okI sooner) : f11 p d less s load days more sooner = some true := by
  obtain ⟨a, ha, has⟩ := f24_eq s
  unfold f11
  by_cases hps : passShort p
  rotate_left
  · simp [f16_F hps, known_pure]
  rw [f16_T hps, f19_eq p hps, f44_eq p d hps, ha]
  cases hp : passOk p with
  | false => simp [known_pure]
  | true =>
  cases hd : dayOk p d with
  | false => simp [known_pure]
  | true =>
  by_cases c1 : less < 0
  · simp [c1, known_pure]
  by_cases c2 : 1000 < less
  · simp [c1, c2, known_pure]
  cases a with
  | false => simp [c1, c2, known_pure]
  | true =>
  by_cases hl : load.length ≤ 10
  rotate_left
  · simp [c1, c2, ge10 hl, known_pure]
  have hss := has rfl
  rw [f27_eq s load days hss hl]
  cases hc : (storeOk s && (loadOk s load && daysOk days)) with
  | false => simp [c1, c2, ne10 hl, known_pure]
  | true =>
  by_cases c3 : more < 0
  · simp [c1, c2, c3, ne10 hl, known_pure]
  by_cases c4 : 100000 < more
  · simp [c1, c2, c3, c4, ne10 hl, known_pure]
  by_cases c5 : sooner < 0
  · simp [c1, c2, c3, c4, c5, ne10 hl, known_pure]
  by_cases c6 : 60 < sooner
  · simp [c1, c2, c3, c4, c5, c6, ne10 hl, known_pure]
  simp only [c1, c2, c3, c4, c5, c6, ne10 hl, decide_false, Bool.not_true, Bool.false_eq_true, if_false, Option.bind_some]
  obtain ⟨h1, h2, h3⟩ := f27_split hc
  have hs := storeOk_iff h1
  have hP := passOk_iff hp
  obtain ⟨w1, w2⟩ := sw_ix hP hd
  have hd' := dayOk_iff.1 hd
  obtain ⟨dn, hdn⟩ : ∃ dn : Nat, d = (dn : Int) := ⟨d.toNat, by omega⟩
  subst hdn
  have hlt : dn < p.Swell.length := by omega
  obtain ⟨sw, hsw⟩ : ∃ sw, sw = swAt p (dn : Int) := ⟨_, rfl⟩
  rw [← hsw] at w1 w2
  obtain ⟨sw', hsw'⟩ : ∃ sw' : TSpan, sw' = ⟨if 0 < sw.Low - less then sw.Low - less else 0, if 0 < sw.High - less then sw.High - less else 0⟩ := ⟨_, rfl⟩
  have hb' : 0 ≤ sw'.Low ∧ sw'.Low ≤ sw'.High ∧ sw'.High ≤ 1000 ∧ sw'.Low ≤ sw.Low ∧ sw'.High ≤ sw.High := by
    rw [hsw']
    simp only
    split <;> split <;> omega
  rw [app_short [] p.Swell (by simp; have := hps.2; omega), w1]
  simp only [List.nil_append, Option.bind_some]
  rw [w1, max_sub (a := sw.Low) ⟨by omega, by omega⟩ ⟨by omega, by omega⟩, max_sub (a := sw.High) ⟨by omega, by omega⟩ ⟨by omega, by omega⟩, ← hsw']
  have hset : setIx p.Swell (dn : Int) sw' = some (p.Swell.set dn sw') := by
    unfold setIx
    rw [if_pos ⟨by omega, by simp; omega⟩, Int.toNat_natCast]
  rw [hset]
  simp only [Option.bind_some]
  have hxs : passShort (passWith p dn sw') := ⟨hps.1, by simp only [passWith, List.length_set]; exact hps.2⟩
  have hx := pass_with hP (d := dn) (sw := sw') ⟨hb'.1, hb'.2.1, hb'.2.2.1⟩
  have hxd : dayOk (passWith p dn sw') (dn : Int) = true := by rw [dayOk_iff]; simp only [passWith, List.length_set]; omega
  have e45 : f45 (⟨p.Tides, p.Depth, p.Draft, p.Swell.set dn sw', (⟨p.Light.Low, p.Light.High⟩ : TSpan)⟩ : TShipPass) (dn : Int) = some (hoursL (passWith p dn sw') dn sw'.High, hoursL (passWith p dn sw') dn sw'.Low, 0) := by
    have := f45_eq (passWith p dn sw') (dn : Int) hxs
    rw [hx, hxd, sw_with hlt] at this
    exact this
  have e45' : f45 p (dn : Int) = some (hoursL p dn sw.High, hoursL p dn sw.Low, 0) := by
    have := f45_eq p (dn : Int) hps
    rw [hp, hd, ← hsw] at this
    exact this
  rw [e45, e45']
  have l24 : ∀ (q : TShipPass) (x : Int), decide ((24 : Int) < ((hoursL q (dn : Int) x).length : Int)) = false := fun q x => by
    have : (hoursL q (dn : Int) x).length ≤ 24 := hoursTo_len _ _ _ _
    simp only [decide_eq_false_iff_not]; omega
  simp only [Option.bind_some, l24, Bool.false_eq_true, if_false, show ((0 : Int) != 0) = false from rfl]
  obtain ⟨X, hX⟩ : ∃ X : TShipPass, X = passWith p dn sw' := ⟨_, rfl⟩
  rw [show (⟨p.Tides, p.Depth, p.Draft, p.Swell.set dn sw', (⟨p.Light.Low, p.Light.High⟩ : TSpan)⟩ : TShipPass) = X from hX.symm, ← hX]
  have hh := lp_thru (body := f11_b0 (hoursL p dn sw.High, hoursL p dn sw.Low, 0) (hoursL X dn sw'.High, hoursL X dn sw'.Low, 0)) (List.range 24) (Sum.inl X : TShipPass ⊕ Bool) (fun k => ((k : Int), X)) (fun k y hy => by
    obtain ⟨hk, rfl⟩ := range_get hy
    have hcp : callOk p ⟨(dn : Int), (y : Nat)⟩ = true := callOk_mk hd hk
    have hcx : callOk X ⟨(dn : Int), (y : Nat)⟩ = true := by rw [hX]; exact callOk_mk hxd hk
    have q1 : ∀ x, f46 (hoursL p (dn : Int) x) ((y : Nat) : Int) = some (goes p ⟨(dn : Int), (y : Nat)⟩ x) := fun x => has_hour hcp x
    have q2 : ∀ x, f46 (hoursL X (dn : Int) x) ((y : Nat) : Int) = some (goes p ⟨(dn : Int), (y : Nat)⟩ x) := fun x => by
      have := has_hour hcx x
      rw [hX] at this ⊢
      rw [goes_with] at this
      exact this
    have m1 : goes p ⟨(dn : Int), (y : Nat)⟩ sw.High = true → goes p ⟨(dn : Int), (y : Nat)⟩ sw'.High = true := goes_le (by omega)
    have m2 : goes p ⟨(dn : Int), (y : Nat)⟩ sw.Low = true → goes p ⟨(dn : Int), (y : Nat)⟩ sw'.Low = true := goes_le (by omega)
    unfold f11_b0
    rw [if_pos (by simp only [decide_eq_true_eq]; omega)]
    simp only
    rw [q1, q1, q2, q2, wrap_nat hk (by decide)]
    cases g1 : goes p ⟨(dn : Int), (y : Nat)⟩ sw.High <;> cases g2 : goes p ⟨(dn : Int), (y : Nat)⟩ sw.Low <;> simp_all) (by
    unfold f11_b0
    simp)
  rw [show ((0 : Int), X) = (fun k : Nat => ((k : Int), X)) 0 from rfl, hh]
  simp only [Option.bind_some, Sum.elim_inl]
  -- the store
  have hgap := hs.gap
  obtain ⟨high, hhigh⟩ : ∃ high, high = if s.Gap.Low < s.Gap.High - sooner then s.Gap.High - sooner else s.Gap.Low := ⟨_, rfl⟩
  have hhb : s.Gap.Low ≤ high ∧ high ≤ s.Gap.High := by rw [hhigh]; split <;> omega
  have hns := hs.ns
  have hst := lp_thru (body := f11_b1 s more) s.Stock ((⟨(storeMore s more high).Stock, s.Use, s.Gap, s.Lots, s.Hold⟩ : TShipStore), X) (fun k => ((k : Int), (⟨(s.Stock.take k).map fun v => if v + more < 100000 then v + more else 100000, s.Use, s.Gap, s.Lots, s.Hold⟩ : TShipStore), X)) (fun k y hy => by
    have hk := get_lt hy
    have hb := hs.stock y (List.mem_of_getElem? hy)
    unfold f11_b1
    rw [if_pos (by simpa using hk)]
    simp only
    rw [ix_nat, hy, Option.bind_some, wrap_id (x := y + more) (by omega) (by omega), app_short _ _ (by simp; omega), Option.bind_some, wrap_nat hk (by omega), map_take_snoc _ hy]) (by
    unfold f11_b1
    rw [if_neg (by simp)]
    simp [storeMore])
  rw [show ((0 : Int), (⟨[], s.Use, s.Gap, s.Lots, s.Hold⟩ : TShipStore), X) = (fun k : Nat => ((k : Int), (⟨(s.Stock.take k).map fun v => if v + more < 100000 then v + more else 100000, s.Use, s.Gap, s.Lots, s.Hold⟩ : TShipStore), X)) 0 from rfl, hst]
  simp only [Option.bind_some]
  rw [wrap_id (x := s.Gap.High - sooner) (by omega) (by omega), ← hhigh]
  obtain ⟨e, hn⟩ := day_nat h3
  obtain ⟨n, hnd⟩ : ∃ n, n = days.toNat := ⟨_, rfl⟩
  rw [← hnd] at e hn
  subst e
  have hs' := more_ok hs (more := more) (high := high) (by omega) hhb
  have hlo : loadOk (storeMore s more high) load = true := h2
  have e30 : f30 (⟨(storeMore s more high).Stock, s.Use, (⟨s.Gap.Low, high⟩ : TSpan), s.Lots, s.Hold⟩ : TShipStore) load (n : Int) = some (mayL (storeMore s more high) load n (storeMore s more high).Stock.length, 0) := by
    have := f30_eq (storeMore s more high) load (n : Int) (more_short hss more high) hl
    rw [storeOk_of hs', hlo, h3] at this
    exact this
  have e30' : f30 s load (n : Int) = some (mayL s load n s.Stock.length, 0) := by
    have := f30_eq s load (n : Int) hss hl
    rw [h1, h2, h3] at this
    exact this
  rw [e30, e30']
  have lm : (storeMore s more high).Stock.length = s.Stock.length := by simp [storeMore]
  simp only [Option.bind_some, may_len, lm, ne_int, decide_true, Bool.not_true, Bool.false_eq_true, if_false, show ((0 : Int) != 0) = false from rfl]
  obtain ⟨Y, hY⟩ : ∃ Y : TShipStore, Y = ⟨(storeMore s more high).Stock, s.Use, (⟨s.Gap.Low, high⟩ : TSpan), s.Lots, s.Hold⟩ := ⟨_, rfl⟩
  obtain ⟨Z, hZ⟩ : ∃ Z : TShipPass, Z = ⟨X.Tides, X.Depth, X.Draft, X.Swell, (⟨X.Light.Low, X.Light.High⟩ : TSpan)⟩ := ⟨_, rfl⟩
  rw [← hY, ← hZ]
  have hf := lp_thru (body := f11_b2 (mayL s load n s.Stock.length, 0) (mayL (storeMore s more high) load n s.Stock.length, 0)) (mayL s load n s.Stock.length) (Sum.inl (Y, Z) : (TShipStore × TShipPass) ⊕ Bool) (fun k => ((k : Int), Y, Z)) (fun k y hy => by
    have hk := get_lt hy
    rw [may_len] at hk
    have q1 := more_le hs (more := more) (high := high) (by omega) hhb hn (load := load) hk true
    have q2 := more_le hs (more := more) (high := high) (by omega) hhb hn (load := load) hk false
    unfold f11_b2
    rw [if_pos (by simp [may_len]; omega)]
    simp only
    rw [ix_nat, may_get (storeMore s more high) load hk, Option.bind_some, ix_nat, may_get s load hk]
    simp only [Option.bind_some]
    obtain ⟨A, hA⟩ : ∃ A, A = kwOf (storeMore s more high) load (endT (storeMore s more high) n true) n k := ⟨_, rfl⟩
    obtain ⟨A', hA'⟩ : ∃ A, A = kwOf s load (endT s n true) n k := ⟨_, rfl⟩
    obtain ⟨B, hB⟩ : ∃ A, A = kwOf (storeMore s more high) load (endT (storeMore s more high) n false) n k := ⟨_, rfl⟩
    obtain ⟨B', hB'⟩ : ∃ A, A = kwOf s load (endT s n false) n k := ⟨_, rfl⟩
    rw [← hA, ← hA'] at q1
    rw [← hB, ← hB'] at q2
    rw [← hA, ← hA', ← hB, ← hB', wrap_nat (show k < s.Stock.length from hk) (by omega)]
    by_cases d1 : 0 ≤ A
    · have d2 := q1 d1
      by_cases d3 : 0 ≤ B
      · have d4 := q2 d3
        simp [d1, d3, show ¬ A' < 0 by omega, show ¬ A < A' by omega, show ¬ B' < 0 by omega, show ¬ B < B' by omega]
      · simp [d1, d3, show ¬ A' < 0 by omega, show ¬ A < A' by omega]
    · by_cases d3 : 0 ≤ B
      · have d4 := q2 d3
        simp [d1, d3, show ¬ B' < 0 by omega, show ¬ B < B' by omega]
      · simp [d1, d3]) (by
    unfold f11_b2
    rw [if_neg (by simp)])
  rw [show ((0 : Int), Y, Z) = (fun k : Nat => ((k : Int), Y, Z)) 0 from rfl, hf]
  simp [known_pure]
end Go.Proofs.Ytajejmbnmphngaa
