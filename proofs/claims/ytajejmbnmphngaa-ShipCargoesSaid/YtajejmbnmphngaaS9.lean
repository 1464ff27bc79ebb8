/-
  Ship's rations.
-/
import Derived.Test.YtajejmbnmphngaaS8
namespace Go.Proofs.Ytajejmbnmphngaa
open Go.RowKit
set_option linter.unusedSimpArgs false
set_option linter.unusedVariables false

/-- The greatest number up to some one for which something holds, or 0. -/
def down (p : Nat → Bool) : Nat → Nat
  | 0 => 0
  | r + 1 => if p (r + 1) = true then r + 1 else down p r
theorem down_spec {p : Nat → Bool} (h0 : p 0 = true) : ∀ n, down p n ≤ n ∧ p (down p n) = true ∧ ∀ r, down p n < r → r ≤ n → p r = false
  | 0 => ⟨Nat.le_refl _, h0, fun r h1 h2 => by simp [down] at h1; omega⟩
  | n + 1 => by
    obtain ⟨h1, h2, h3⟩ := down_spec h0 n
    simp only [down]
    by_cases h : p (n + 1) = true
    · rw [if_pos h]
      exact ⟨Nat.le_refl _, h, fun r h4 h5 => by omega⟩
    · rw [if_neg h]
      refine ⟨by omega, h2, fun r h4 h5 => ?_⟩
      rcases Nat.lt_or_ge r (n + 1) with h6 | h6
      · exact h3 r h4 (by omega)
      · have : r = n + 1 := by omega
        subst this
        simpa using h
/-- The first day of want with a ration. -/
def wantR (s : TShipStore) (load : List Int) (t : TShipTruth) (n k : Nat) (r : Int) : Int := kw ((t.Uses.getD k 0 * r + 999) / 1000) (goodsL t load k) (s.Stock.getD k 0) (cm t.Gaps) n
def okR (s : TShipStore) (load : List Int) (n k : Nat) (r : Nat) : Bool := decide (wantR s load (endT s n true) n k (r : Int) < 0)
theorem wantR_le {s : TShipStore} {t : TShipTruth} (hs : StoreOk s) {n : Nat} (ht : TruthOk s (n : Int) t) (load : List Int) {k : Nat} (hk : k < s.Stock.length) {a b : Int} (ha : 0 ≤ a) (hab : a ≤ b) (h : 0 ≤ wantR s load t n k a) : 0 ≤ wantR s load t n k b := by
  have hgap := hs.gap
  have ga : ∀ x ∈ t.Gaps, 1 ≤ x := fun x hx => by have := ht.gaps x hx; omega
  obtain ⟨u1, u2, u3⟩ := use_of hs ht hk
  have hm : t.Uses.getD k 0 * a ≤ t.Uses.getD k 0 * b := Int.mul_le_mul_of_nonneg_left hab u2
  exact (want_le ga ga (fun i x y hx hy => by rw [hx] at hy; have := Option.some.inj hy; omega) ht.sum (by omega) (goodsL_b hs ht load k).1 (Int.le_refl _) (Int.le_refl _) h).1
theorem okR_mono {s : TShipStore} (hs : StoreOk s) {n : Nat} (hn : n ≤ 300) (load : List Int) {k : Nat} (hk : k < s.Stock.length) {a b : Nat} (hab : a ≤ b) (h : okR s load n k b = true) : okR s load n k a = true := by
  unfold okR at *
  rw [decide_eq_true_eq] at *
  rcases Int.lt_or_le (wantR s load (endT s n true) n k (a : Int)) 0 with h1 | h1
  · exact h1
  · have := wantR_le hs (endT_ok hs hn true) load hk (a := (a : Int)) (b := (b : Int)) (by omega) (by omega) h1
    omega
theorem okR_zero {s : TShipStore} (hs : StoreOk s) {n : Nat} (hn : n ≤ 300) (load : List Int) {k : Nat} (hk : k < s.Stock.length) : okR s load n k 0 = true := by
  have ht := endT_ok hs hn true
  have hgap := hs.gap
  have ga : ∀ x ∈ (endT s n true).Gaps, 1 ≤ x := fun x hx => by have := ht.gaps x hx; omega
  have hst : s.Stock[k]? = some (s.Stock.getD k 0) := by rw [List.getD_eq_getElem?_getD, List.getElem?_eq_getElem hk]; rfl
  have hsb := hs.stock _ (List.mem_of_getElem? hst)
  unfold okR wantR
  have e : ((endT s n true).Uses.getD k 0 * ((0 : Nat) : Int) + 999) / 1000 = 0 := by simp
  rw [e, decide_eq_true_eq, (kw_none (N := sh (endT s n true).Gaps) rfl (sh_N ga) n fun e he h => ?_).1]
  · decide
  · unfold need at h
    have h1 : 0 ≤ goodsL (endT s n true) load k * (sh (endT s n true).Gaps (e + 1) : Int) := Int.mul_nonneg (goodsL_b hs ht load k).1 (by omega)
    omega
theorem f76_eq {s : TShipStore} {t : TShipTruth} (hs : StoreOk s) {n : Nat} (ht : TruthOk s (n : Int) t) (hn : n ≤ 300) {load : List Int} (hl : load.length ≤ 10) (hi : incr load (s.Lots.length : Int) = true) {us : List Int} (hus : ∀ k, k < s.Stock.length → ∃ u, us[k]? = some u ∧ 0 ≤ u ∧ u ≤ 2000) :
    ∀ ks : List Nat, (∀ k ∈ ks, k < s.Stock.length) → f76 ⟨s, load, ⟨us, t.Gaps, t.Goods⟩⟩ (n : Int) (ks.map fun k : Nat => (k : Int)) = some (ks.all fun k => decide (kw (us.getD k 0) (goodsL t load k) (s.Stock.getD k 0) (cm t.Gaps) n < 0)) := by
  intro ks
  induction ks with
  | nil => intro _; rfl
  | cons k ks ih =>
    intro hks
    have ih := ih fun j hj => hks j (by simp [hj])
    have hk := hks k (by simp)
    obtain ⟨u, h1, h2, h3⟩ := hus k hk
    have e : us.getD k 0 = u := by rw [List.getD_eq_getElem?_getD, h1]; rfl
    unfold f76 at ih ⊢
    simp only [List.map_cons, allPan, List.all_cons]
    unfold f102
    rw [f72_eq hs ht hn hl hi hk h1 ⟨h2, h3⟩]
    simp only [Option.bind_some, e]
    by_cases hc : kw u (goodsL t load k) (s.Stock.getD k 0) (cm t.Gaps) n < 0
    · have : ¬ 0 ≤ kw u (goodsL t load k) (s.Stock.getD k 0) (cm t.Gaps) n := by omega
      simp only [this, hc, decide_false, decide_true, Bool.false_eq_true, if_false, Option.bind_some, Sum.elim_inl, Bool.true_and]
      exact ih
    · have : 0 ≤ kw u (goodsL t load k) (s.Stock.getD k 0) (cm t.Gaps) n := by omega
      simp only [this, hc, decide_true, decide_false, if_true, Option.bind_some, Sum.elim_inr, Bool.false_and]
theorem ration_b {u r : Int} (hu : 0 ≤ u ∧ u ≤ 1000) (hr : 0 ≤ r ∧ r ≤ 1001) : 0 ≤ u * r ∧ u * r ≤ 1001000 := by
  have h1 : 0 ≤ u * r := Int.mul_nonneg hu.1 hr.1
  have h2 : u * r ≤ 1000 * r := Int.mul_le_mul_of_nonneg_right hu.2 hr.1
  omega
theorem search_down {s : TShipStore} (hs : StoreOk s) {n : Nat} (hn : n ≤ 300) {load : List Int} (hl : load.length ≤ 10) (hi : incr load (s.Lots.length : Int) = true) {k : Nat} (hk : k < s.Stock.length) :
    ∀ (r : Nat) (us : List Int), r ≤ 1000 → us.length = s.Stock.length → (∀ j, j < s.Stock.length → ∃ u, us[j]? = some u ∧ 0 ≤ u ∧ u ≤ 2000) →
      ∃ res, lp (f32_b4 (n : Int) (k : Int) ((endT s n true).Uses.getD k 0)) ((r : Int), (⟨s, load, ⟨us, (endT s n true).Gaps, (endT s n true).Goods⟩⟩ : TStore)) = some res ∧ Sum.elim (fun _ : TStore => (some (0, 0) : Option (Int × Int))) (fun v => some v) res = some (((down (okR s load n k) r : Nat) : Int), 0)
  | 0, us, _, _, _ => ⟨.inl _, by rw [lp_eq]; unfold f32_b4; rfl, rfl⟩
  | r + 1, us, hr, hul, hub => by
    obtain ⟨u1, u2, u3⟩ := use_of hs (endT_ok hs hn true) hk
    obtain ⟨U, hU⟩ : ∃ U, U = (endT s n true).Uses.getD k 0 := ⟨_, rfl⟩
    rw [← hU] at u2 u3 ⊢
    obtain ⟨m1, m2⟩ := ration_b ⟨u2, u3⟩ (r := ((r + 1 : Nat) : Int)) ⟨by omega, by omega⟩
    have eU : IntKind.i64.wrap ((IntKind.i64.wrap ((IntKind.i64.wrap (U * ((r + 1 : Nat) : Int))) + 999)).tdiv 1000) = (U * ((r + 1 : Nat) : Int) + 999) / 1000 := by
      rw [wrap_id (x := U * ((r + 1 : Nat) : Int)) (by omega) (by omega), wrap_id (x := U * ((r + 1 : Nat) : Int) + 999) (by omega) (by omega), Int.tdiv_eq_ediv_of_nonneg (by omega), wrap_id (by omega) (by omega)]
    obtain ⟨V, hV⟩ : ∃ V, V = (U * ((r + 1 : Nat) : Int) + 999) / 1000 := ⟨_, rfl⟩
    rw [← hV] at eU
    have hVb : 0 ≤ V ∧ V ≤ 2000 := by omega
    obtain ⟨uk, k1, k2, k3⟩ := hub k hk
    have hset : setIx us (k : Int) V = some (us.set k V) := by
      unfold setIx
      rw [if_pos ⟨by omega, by simp; omega⟩, Int.toNat_natCast]
    have hub' : ∀ j, j < s.Stock.length → ∃ u, (us.set k V)[j]? = some u ∧ 0 ≤ u ∧ u ≤ 2000 := fun j hj => by
      by_cases hjk : k = j
      · subst hjk
        exact ⟨V, by rw [List.getElem?_set_self (by omega)], hVb⟩
      · rw [List.getElem?_set_ne hjk]; exact hub j hj
    have hs76 := f76_eq hs (endT_ok hs hn true) hn hl hi hub' [k] (by simpa using hk)
    have eg : (us.set k V).getD k 0 = V := by rw [List.getD_eq_getElem?_getD, List.getElem?_set_self (by omega)]; rfl
    have hok : ([k].all fun k => decide (kw ((us.set k V).getD k 0) (goodsL (endT s n true) load k) (s.Stock.getD k 0) (cm (endT s n true).Gaps) n < 0)) = okR s load n k (r + 1) := by
      simp only [List.all_cons, List.all_nil, Bool.and_true]
      unfold okR wantR
      rw [← hU, ← hV]
      rw [eg]
    have e76 : f76 (⟨(⟨s.Stock, s.Use, (⟨s.Gap.Low, s.Gap.High⟩ : TSpan), s.Lots, s.Hold⟩ : TShipStore), load, (⟨us.set k V, (endT s n true).Gaps, (endT s n true).Goods⟩ : TShipTruth)⟩ : TStore) (n : Int) [(k : Int)] = some (okR s load n k (r + 1)) := by
      rw [← hok]; exact hs76
    rw [lp_eq]
    unfold f32_b4
    rw [if_pos (by simp only [decide_eq_true_eq]; omega)]
    simp only
    rw [ix_nat, k1, Option.bind_some, eU, hset, Option.bind_some, e76, Option.bind_some]
    simp only [down]
    cases okR s load n k (r + 1) with
    | true => exact ⟨.inr (((r + 1 : Nat) : Int), 0), rfl, rfl⟩
    | false =>
      simp only [Bool.false_eq_true, if_false]
      rw [wrap_id (x := ((r + 1 : Nat) : Int) - 1) (by omega) (by omega), show ((r + 1 : Nat) : Int) - 1 = (r : Int) by omega, hU]
      exact search_down hs hn hl hi hk r (us.set k V) (by omega) (by rw [List.length_set]; exact hul) hub'
theorem f32_ends (s : TShipStore) (n : Nat) (hs : StoreOk s) (hss : StoreShort s) (hn : n ≤ 300) :
    lp (f32_b0 s) ([], 0) = some (endT s n true).Uses ∧ lp (f32_b1 s (n : Int)) (0, (⟨(endT s n true).Uses, [], []⟩ : TShipTruth)) = some ⟨(endT s n true).Uses, (endT s n true).Gaps, []⟩ ∧ lp (f32_b2 s) (0, (⟨(endT s n true).Uses, (endT s n true).Gaps, []⟩ : TShipTruth)) = some (endT s n true) := by
  have hg := hs.gap
  obtain ⟨gap, hgap⟩ : ∃ gap : Nat, s.Gap.High = (gap : Int) := ⟨s.Gap.High.toNat, by omega⟩
  have hgn : 1 ≤ gap ∧ gap ≤ 60 := by omega
  have hc := cnt_le (n := n) hgn.1
  have e : endT s n true = ⟨s.Use.map (·.High), List.replicate (cnt n gap) (gap : Int), s.Lots.map fun l => l.Goods.map (·.Low)⟩ := by
    unfold endT mkT
    simp only [if_true]
    rw [hgap]; rfl
  rw [e]
  simp only
  refine ⟨?_, ?_, ?_⟩
  · have h := lp_thru (body := f32_b0 s) s.Use (s.Use.map (·.High)) (fun k => ((s.Use.take k).map (·.High), (k : Int))) (fun k y hy => by
      have hk := get_lt hy
      have h9 := hss.use
      unfold f32_b0
      rw [if_pos (by simpa using hk)]
      simp only
      rw [ix_nat, hy, Option.bind_some]
      unfold f99
      rw [Option.bind_some, app_short _ _ (by simp; omega), Option.bind_some, wrap_nat hk (by omega), map_take_snoc (·.High) hy]) (by
      unfold f32_b0
      rw [if_neg (by simp)]
      simp)
    rw [show (([], (0 : Int)) : List Int × Int) = (fun k : Nat => ((s.Use.take k).map (·.High), (k : Int))) 0 from rfl, h]
  · exact gaps_lp (body := f32_b1 s (n : Int)) hgn hn (fun l => (⟨s.Use.map (·.High), l, []⟩ : TShipTruth)) (fun a l ha hl => by
      unfold f32_b1 f99
      rw [if_pos (by simpa using ha)]
      simp only [Option.bind_some, hgap]
      rw [app_short _ _ (by simp; omega)]; rfl) (fun a l ha => by
      unfold f32_b1
      rw [if_neg (by simpa using ha)])
  · have h3 : ∀ (l : TShipLot) (x : TShipTruth), l ∈ s.Lots → lp (f32_b3 l) ([], 0, x) = some (l.Goods.map (·.Low), x) := fun l x hml => by
      have h9 := hss.goods l hml
      have h := lp_thru (body := f32_b3 l) l.Goods (l.Goods.map (·.Low), x) (fun k => ((l.Goods.take k).map (·.Low), (k : Int), x)) (fun k y hy => by
        have hk := get_lt hy
        unfold f32_b3
        rw [if_pos (by simpa using hk)]
        simp only
        rw [ix_nat, hy, Option.bind_some]
        unfold f100
        rw [Option.bind_some, app_short _ _ (by simp; omega), Option.bind_some, wrap_nat hk (by omega), map_take_snoc (·.Low) hy]) (by
        unfold f32_b3
        rw [if_neg (by simp)]
        simp)
      rw [show (([], (0 : Int), x) : List Int × Int × TShipTruth) = (fun k : Nat => ((l.Goods.take k).map (·.Low), (k : Int), x)) 0 from rfl, h]
    have h := lp_thru (body := f32_b2 s) s.Lots (⟨s.Use.map (·.High), List.replicate (cnt n gap) (gap : Int), s.Lots.map fun l => l.Goods.map (·.Low)⟩ : TShipTruth) (fun k => ((k : Int), (⟨s.Use.map (·.High), List.replicate (cnt n gap) (gap : Int), (s.Lots.take k).map fun l => l.Goods.map (·.Low)⟩ : TShipTruth))) (fun k y hy => by
      have hk := get_lt hy
      have h9 := hss.lots
      unfold f32_b2
      rw [if_pos (by simpa using hk)]
      simp only
      rw [ix_nat, hy, Option.bind_some, h3 y _ (List.mem_of_getElem? hy), Option.bind_some]
      simp only
      rw [app_short _ _ (by simp; omega), Option.bind_some, wrap_nat hk (by omega), map_take_snoc _ hy]) (by
      unfold f32_b2
      rw [if_neg (by simp)]
      simp)
    rw [show ((0 : Int), (⟨s.Use.map (·.High), List.replicate (cnt n gap) (gap : Int), []⟩ : TShipTruth)) = (fun k : Nat => ((k : Int), (⟨s.Use.map (·.High), List.replicate (cnt n gap) (gap : Int), (s.Lots.take k).map fun l => l.Goods.map (·.Low)⟩ : TShipTruth))) 0 from rfl, h]
def kindOk (s : TShipStore) (k : Int) : Bool := decide (0 ≤ k) && decide (k < (s.Stock.length : Int))
theorem f33_eq (s : TShipStore) (k : Int) (hs : StoreOk s) : f33 s k = some (kindOk s k) := by
  unfold f33
  rw [wrap_pred (by have := hs.ns; omega), f65_eq, inR_pred]; rfl
theorem kind_nat {s : TShipStore} {k : Int} (h : kindOk s k = true) : k = ((k.toNat : Nat) : Int) ∧ k.toNat < s.Stock.length := by
  unfold kindOk at h
  simp only [Bool.and_eq_true, decide_eq_true_eq] at h
  omega
def rationB (s : TShipStore) (load : List Int) (n k : Nat) : Nat := down (okR s load n k) 1000
theorem f32_eq (s : TShipStore) (load : List Int) (d k : Int) (hss : StoreShort s) (hl : load.length ≤ 10) :
    f32 s load d k = some (if (storeOk s && (loadOk s load && (daysOk d && kindOk s k))) = true then (((rationB s load d.toNat k.toNat : Nat) : Int), 0) else (0, 2)) := by
  unfold f32
  rw [f68_eq s hss]
  cases h1 : storeOk s with
  | false => rfl
  | true =>
    have hs := storeOk_iff h1
    have hki : inR k 0 ((s.Stock.length : Int) - 1) = kindOk s k := by rw [inR_pred]; rfl
    simp only [Option.bind_some, Bool.not_true, Bool.false_eq_true, if_false, f69_eq s load hs hl, f70_eq, wrap_pred (show s.Stock.length ≤ 1073741824 by have := hs.ns; omega), f62_eq, hki]
    cases h2 : loadOk s load with
    | false => rfl
    | true =>
      cases h3 : daysOk d with
      | false => rfl
      | true =>
        cases h4 : kindOk s k with
        | false => rfl
        | true =>
          obtain ⟨e, hn⟩ := day_nat h3
          obtain ⟨n, hnd⟩ : ∃ n, n = d.toNat := ⟨_, rfl⟩
          rw [← hnd] at e hn ⊢
          subst e
          obtain ⟨e', hk⟩ := kind_nat h4
          obtain ⟨j, hjd⟩ : ∃ n, n = k.toNat := ⟨_, rfl⟩
          rw [← hjd] at e' hk ⊢
          subst e'
          obtain ⟨q1, q2, q3⟩ := f32_ends s n hs hss hn
          have ht := endT_ok hs hn true
          obtain ⟨u1, u2, u3⟩ := use_of hs ht hk
          have hub : ∀ i, i < s.Stock.length → ∃ u, (endT s n true).Uses[i]? = some u ∧ 0 ≤ u ∧ u ≤ 2000 := fun i hi => by
            obtain ⟨v1, v2, v3⟩ := use_of hs ht hi
            exact ⟨_, v1, v2, by omega⟩
          obtain ⟨res, r1, r2⟩ := search_down hs hn hl (incr_of h2) hk 1000 (endT s n true).Uses (by omega) ht.nu hub
          simp only [Bool.not_true, Bool.false_eq_true, if_false, if_true, Option.bind_some, Bool.and_self]
          rw [q1, Option.bind_some, q2, Option.bind_some, q3, Option.bind_some, ix_nat, u1, Option.bind_some, show (1000 : Int) = ((1000 : Nat) : Int) from rfl, r1, Option.bind_some]
          exact r2
theorem wantR_eq {s : TShipStore} {t : TShipTruth} (hs : StoreOk s) {n : Nat} (ht : TruthOk s (n : Int) t) (hn : n ≤ 300) {load : List Int} (hl : load.length ≤ 10) (hi : incr load (s.Lots.length : Int) = true) {k : Nat} (hk : k < s.Stock.length) {r : Int} (hr : 0 ≤ r ∧ r ≤ 1001) :
    ∃ x, f29 s load (n : Int) t (k : Int) r = some (wantR s load t n k r, x) := ⟨_, f29_eq hs ht hn hl hi hk hr⟩
/-- 'ref.Ration'. -/
theorem f34_eq (s : TShipStore) (load : List Int) (n k : Nat) (hs : StoreOk s) (hss : StoreShort s) (hn : n ≤ 300) (hl : load.length ≤ 10) (hi : incr load (s.Lots.length : Int) = true) (hk : k < s.Stock.length) :
    f34 s load (n : Int) (k : Int) = some ((rationB s load n k : Nat) : Int) := by
  obtain ⟨B, hB⟩ : ∃ B, B = rationB s load n k := ⟨_, rfl⟩
  obtain ⟨d1, d2, d3⟩ := down_spec (okR_zero hs hn load hk) 1000
  have hB' : down (okR s load n k) 1000 = B := hB.symm
  rw [hB'] at d1 d2 d3
  rw [← hB]
  have key : ∀ (m lo hi' : Nat), hi' - lo = m → lo ≤ B → B ≤ hi' → hi' ≤ 1000 → lp (f34_b0 s load (n : Int) (k : Int)) ((lo : Int), (hi' : Int)) = some (B : Int) := by
    intro m
    induction m using Nat.strongRecOn with
    | ind m ih =>
      intro lo hi' hm h1 h2 h3
      by_cases hlt : lo < hi'
      · obtain ⟨mid, hmid⟩ : ∃ mid : Nat, mid = hi' - (hi' - lo) / 2 := ⟨_, rfl⟩
        have e : IntKind.i64.wrap ((hi' : Int) - (IntKind.i64.wrap ((IntKind.i64.wrap ((hi' : Int) - (lo : Int))).tdiv 2))) = (mid : Int) := by
          rw [wrap_id (x := (hi' : Int) - (lo : Int)) (by omega) (by omega), Int.tdiv_eq_ediv_of_nonneg (by omega), wrap_id (x := ((hi' : Int) - (lo : Int)) / 2) (by omega) (by omega), wrap_id (by omega) (by omega)]
          omega
        obtain ⟨x, hx⟩ := wantR_eq hs (endT_ok hs hn true) hn hl hi hk (r := (mid : Int)) ⟨by omega, by omega⟩
        have hb : f34_b0 s load (n : Int) (k : Int) ((lo : Int), (hi' : Int)) = some (if okR s load n k mid = true then .inl ((mid : Int), (hi' : Int)) else .inl ((lo : Int), ((mid - 1 : Nat) : Int))) := by
          unfold f34_b0
          rw [if_pos (by simp only [decide_eq_true_eq]; omega)]
          simp only
          rw [e, f31_eq s n true hs hss hn, Option.bind_some, hx, Option.bind_some]
          simp only
          have ho : decide (wantR s load (endT s n true) n k (mid : Int) < 0) = okR s load n k mid := rfl
          rw [ho, wrap_id (x := (mid : Int) - 1) (by omega) (by omega), show (mid : Int) - 1 = ((mid - 1 : Nat) : Int) by omega]
          cases okR s load n k mid <;> rfl
        rw [lp_eq, hb]
        cases h4 : okR s load n k mid with
        | true =>
          have h5 : mid ≤ B := by
            rcases Nat.lt_or_ge B mid with h6 | h6
            · rw [d3 mid h6 (by omega)] at h4; cases h4
            · exact h6
          exact ih (hi' - mid) (by omega) mid hi' rfl h5 h2 h3
        | false =>
          have h5 : B < mid := by
            rcases Nat.lt_or_ge B mid with h6 | h6
            · exact h6
            · rw [okR_mono hs hn load hk h6 d2] at h4; cases h4
          exact ih (mid - 1 - lo) (by omega) lo (mid - 1) rfl h1 (by omega) (by omega)
      · have : lo = B := by omega
        subst this
        rw [lp_eq]
        have hb : f34_b0 s load (n : Int) (k : Int) ((lo : Int), (hi' : Int)) = some (.inr (lo : Int)) := by
          unfold f34_b0
          rw [if_neg (by simp only [decide_eq_true_eq]; omega)]
        rw [hb]
  unfold f34
  rw [show ((0 : Int), (1000 : Int)) = (((0 : Nat) : Int), ((1000 : Nat) : Int)) from rfl, key 1000 0 1000 rfl (Nat.zero_le _) d1 (Nat.le_refl _)]
  rfl
theorem shipRations (s : TShipStore) (load : List Int) (d k : Int) (_ : okTShipStore s) (_ : ∀ y ∈ load, okI y) (_ : okI d) (_ : okI k) : f7 s load d k = some true := by
  obtain ⟨a, ha, has⟩ := f24_eq s
  unfold f7
  rw [ha]
  cases a with
  | false => simp [known_pure]
  | true =>
    by_cases hl : load.length ≤ 10
    · have hss := has rfl
      simp only [Option.bind_some, Bool.not_true, Bool.false_eq_true, if_false, ne10 hl, f32_eq s load d k hss hl, f27_eq s load d hss hl]
      cases hc : (storeOk s && (loadOk s load && daysOk d)) with
      | false =>
        have e : (storeOk s && (loadOk s load && (daysOk d && kindOk s k))) = false := by
          revert hc
          cases storeOk s <;> cases loadOk s load <;> cases daysOk d <;> simp
        rw [e]
        simp [known_pure]
      | true =>
        obtain ⟨h1, h2, h3⟩ := f27_split hc
        have hs := storeOk_iff h1
        simp only [h1, h2, h3, Bool.true_and, f33_eq s k hs, Option.bind_some, Bool.not_true, Bool.false_eq_true, if_false]
        cases h4 : kindOk s k with
        | false => simp [known_pure]
        | true =>
          obtain ⟨e, hn⟩ := day_nat h3
          obtain ⟨n, hnd⟩ : ∃ n, n = d.toNat := ⟨_, rfl⟩
          rw [← hnd] at e hn ⊢
          subst e
          obtain ⟨e', hk⟩ := kind_nat h4
          obtain ⟨j, hjd⟩ : ∃ n, n = k.toNat := ⟨_, rfl⟩
          rw [← hjd] at e' hk ⊢
          subst e'
          simp [known_pure, f34_eq s load n j hs hss hn hl (incr_of h2) hk]
    · simp [ge10 hl, known_pure]
theorem ration_worst {s : TShipStore} {t : TShipTruth} (hs : StoreOk s) {n : Nat} (ht : TruthOk s (n : Int) t) (hn : n ≤ 300) {load : List Int} (hi : incr load (s.Lots.length : Int) = true) {k : Nat} (hk : k < s.Stock.length) {r : Int} (hr : 0 ≤ r) (h : 0 ≤ wantR s load t n k r) : 0 ≤ wantR s load (endT s n true) n k r := by
  have hin := (incr_iff.1 hi).1
  have hgap := hs.gap
  obtain ⟨u1, u2, u3⟩ := use_of hs ht hk
  have hub := ht.uses k _ u1
  have ga : ∀ x ∈ t.Gaps, 1 ≤ x := fun x hx => by have := ht.gaps x hx; omega
  have gw : ∀ x ∈ (endT s n true).Gaps, 1 ≤ x := fun x hx => by rw [end_gaps s n true x hx]; simp only [if_true]; omega
  refine (want_le gw ga (fun i x y hx hy => ?_) ht.sum ?_ (goodsL_b hs (endT_ok hs hn true) load k).1 (sum_le fun x hx => ?_) (Int.le_refl _) h).1
  · have h1 := end_gaps s n true x (List.mem_of_getElem? hx)
    have h2 := ht.gaps y (List.mem_of_getElem? hy)
    simp only [if_true] at h1
    omega
  · rw [end_uses hs n true hk]
    simp only [if_true]
    have : t.Uses.getD k 0 * r ≤ (s.Use.getD k ⟨0, 0⟩).High * r := Int.mul_le_mul_of_nonneg_right hub.2 hr
    omega
  · have hx' := hin x hx
    rw [gAt_end hs n true hk hx'.1 hx'.2]
    exact (gAt_span hs ht hk hx'.1 hx'.2).1
theorem shipRationed (s : TShipStore) (load : List Int) (d k : Int) (t : TShipTruth) (_ : okTShipStore s) (_ : ∀ y ∈ load, okI y) (_ : okI d) (_ : okI k) (_ : okTShipTruth t) : f8 s load d k t = some true := by
  obtain ⟨a, ha, has⟩ := f24_eq s
  obtain ⟨b, hb, hbs⟩ := f25_eq t
  unfold f8
  rw [ha, hb]
  cases a with
  | false => simp [known_pure]
  | true =>
    by_cases hl : load.length ≤ 10
    · cases b with
      | false => simp [ne10 hl, known_pure]
      | true =>
        have hss := has rfl
        have hts := hbs rfl
        simp only [Option.bind_some, Bool.not_true, Bool.false_eq_true, if_false, ne10 hl, f32_eq s load d k hss hl, f30_eq s load d hss hl, f27_eq s load d hss hl]
        cases hc : (storeOk s && (loadOk s load && daysOk d)) with
        | false => simp [known_pure]
        | true =>
          obtain ⟨h1, h2, h3⟩ := f27_split hc
          have hs := storeOk_iff h1
          simp only [h1, h2, h3, Bool.true_and, f33_eq s k hs, f28_eq s d t hs hts, Option.bind_some, Bool.not_true, Bool.false_eq_true, if_false]
          cases h5 : kindOk s k with
          | false => simp [known_pure]
          | true =>
            cases h4 : truthOk s d t with
            | false => simp [known_pure]
            | true =>
              obtain ⟨e, hn⟩ := day_nat h3
              obtain ⟨n, hnd⟩ : ∃ n, n = d.toNat := ⟨_, rfl⟩
              rw [← hnd] at e hn ⊢
              subst e
              obtain ⟨e', hk⟩ := kind_nat h5
              obtain ⟨j, hjd⟩ : ∃ n, n = k.toNat := ⟨_, rfl⟩
              rw [← hjd] at e' hk ⊢
              subst e'
              have ht := truthOk_iff.1 h4
              have hi := incr_of h2
              have htw := endT_ok hs hn true
              obtain ⟨d1, d2, d3⟩ := down_spec (okR_zero hs hn load hk) 1000
              obtain ⟨B, hB⟩ : ∃ B, B = rationB s load n j := ⟨_, rfl⟩
              have hB' : down (okR s load n j) 1000 = B := hB.symm
              rw [hB'] at d1 d2 d3
              rw [← hB]
              have o1 : decide (kwOf s load (endT s n true) n j < 0) = okR s load n j 1000 := by
                unfold okR wantR kwOf
                have e : ((endT s n true).Uses.getD j 0 * ((1000 : Nat) : Int) + 999) / 1000 = (endT s n true).Uses.getD j 0 := by omega
                rw [e]
              have o2 : (((B : Nat) : Int) == 1000) = okR s load n j 1000 := by
                cases ho : okR s load n j 1000 with
                | true =>
                  have : B = 1000 := by
                    rcases Nat.lt_or_ge B 1000 with h6 | h6
                    · rw [d3 1000 h6 (Nat.le_refl _)] at ho; cases ho
                    · omega
                  subst this; rfl
                | false =>
                  have : B ≠ 1000 := fun h => by subst h; rw [d2] at ho; cases ho
                  rw [beq_eq_false_iff_ne]; omega
              obtain ⟨x1, hx1⟩ := wantR_eq hs ht hn hl hi hk (r := ((B : Nat) : Int)) ⟨by omega, by omega⟩
              have w1 : ¬ 0 ≤ wantR s load t n j ((B : Nat) : Int) := fun h => by
                have := ration_worst hs ht hn hi hk (by omega) h
                unfold okR at d2
                rw [decide_eq_true_eq] at d2
                omega
              simp only [Bool.not_true, Bool.false_eq_true, if_false, if_true, Option.bind_some, may_len, ne_int, decide_true, show ((0 : Int) != 0) = false from rfl, show decide (((B : Nat) : Int) < 0) = false by simp, show decide ((1000 : Int) < ((B : Nat) : Int)) = false by simp; omega]
              rw [ix_nat, may_get s load hk, Option.bind_some]
              simp only
              rw [o1, o2, hx1]
              simp only [beq_self_eq_true, Bool.not_true, Bool.false_eq_true, if_false, Option.bind_some, w1, decide_false]
              cases ho : okR s load n j 1000 with
              | true => simp [known_pure]
              | false =>
                have hB1 : B < 1000 := by
                  rcases Nat.lt_or_ge B 1000 with h6 | h6
                  · exact h6
                  · have : B = 1000 := by omega
                    subst this
                    rw [d2] at ho; cases ho
                obtain ⟨x2, hx2⟩ := wantR_eq hs htw hn hl hi hk (r := ((B + 1 : Nat) : Int)) ⟨by omega, by omega⟩
                have w2 : 0 ≤ wantR s load (endT s n true) n j ((B + 1 : Nat) : Int) := by
                  have := d3 (B + 1) (by omega) (by omega)
                  unfold okR at this
                  rw [decide_eq_false_iff_not] at this
                  omega
                rw [f31_eq s n true hs hss hn, wrap_nat hB1 (by decide)]
                simp only [Bool.false_eq_true, if_false, Option.bind_some]
                rw [hx2]
                simp only [decide_eq_true w2, if_true, known_pure, Option.bind_some]
    · simp [ge10 hl, known_pure]
end Go.Proofs.Ytajejmbnmphngaa
