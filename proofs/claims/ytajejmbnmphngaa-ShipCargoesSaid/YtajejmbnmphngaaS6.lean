/-
  Ship: the program's way of keeping a kind; the truths at the ends.
-/
import Derived.Test.YtajejmbnmphngaaS5
namespace Go.Proofs.Ytajejmbnmphngaa
open Go.RowKit
set_option linter.unusedSimpArgs false
set_option linter.unusedVariables false

/-! ### When ships come -/
def sumTo (gaps : List Int) (i : Nat) : Int := (gaps.take i).sum
theorem sumTo_succ {gaps : List Int} {i : Nat} {y : Int} (h : gaps[i]? = some y) : sumTo gaps (i + 1) = sumTo gaps i + y := sum_take h
theorem sumTo_lt {gaps : List Int} (hg : ∀ g ∈ gaps, 1 ≤ g) : ∀ {j i : Nat}, i < j → j ≤ gaps.length → sumTo gaps i < sumTo gaps j
  | 0, _, h, _ => by omega
  | j + 1, i, h, hj => by
    have e := List.getElem?_eq_getElem (show j < gaps.length by omega)
    have hy := hg _ (List.mem_of_getElem? e)
    rw [sumTo_succ e]
    rcases Nat.lt_or_ge i j with h1 | h1
    · have := sumTo_lt hg h1 (by omega)
      omega
    · have : i = j := by omega
      subst this
      omega
def nxf (gaps : List Int) (i : Nat) : Int := if gaps.length = 0 then -1 else sumTo gaps (min i (gaps.length - 1) + 1)
def sh (gaps : List Int) : Nat → Nat
  | 0 => 0
  | d + 1 => if nxf gaps (sh gaps d) = (d : Int) then sh gaps d + 1 else sh gaps d
theorem sh_inv {gaps : List Int} (hg : ∀ g ∈ gaps, 1 ≤ g) : ∀ d : Nat, sh gaps d ≤ gaps.length ∧ (∀ i, i < sh gaps d → sumTo gaps (i + 1) < (d : Int)) ∧ (sh gaps d < gaps.length → (d : Int) ≤ sumTo gaps (sh gaps d + 1))
  | 0 => by
    refine ⟨Nat.zero_le _, fun i hi => by simp [sh] at hi, fun h => ?_⟩
    have h0 : sh gaps 0 = 0 := rfl
    rw [h0] at h ⊢
    have := sumTo_lt hg (i := 0) (j := 0 + 1) (by omega) (by omega)
    have e : sumTo gaps 0 = 0 := by simp [sumTo]
    omega
  | d + 1 => by
    obtain ⟨h1, h2, h3⟩ := sh_inv hg d
    simp only [sh]
    by_cases hn : nxf gaps (sh gaps d) = (d : Int)
    · rw [if_pos hn]
      unfold nxf at hn
      have hlen : gaps.length ≠ 0 := by
        intro h0
        rw [if_pos h0] at hn
        omega
      rw [if_neg hlen] at hn
      have hlt : sh gaps d < gaps.length := by
        rcases Nat.lt_or_ge (sh gaps d) gaps.length with h | h
        · exact h
        · have := h2 (gaps.length - 1) (by omega)
          rw [show min (sh gaps d) (gaps.length - 1) = gaps.length - 1 by omega] at hn
          omega
      rw [show min (sh gaps d) (gaps.length - 1) = sh gaps d by omega] at hn
      refine ⟨hlt, fun i hi => ?_, fun h => ?_⟩
      · rcases Nat.lt_or_ge i (sh gaps d) with h | h
        · have := h2 i h
          omega
        · have : i = sh gaps d := by omega
          subst this
          omega
      · have := sumTo_lt hg (i := sh gaps d + 1) (j := sh gaps d + 1 + 1) (by omega) (by omega)
        omega
    · rw [if_neg hn]
      refine ⟨h1, fun i hi => by have := h2 i hi; omega, fun h => ?_⟩
      have h4 := h3 h
      unfold nxf at hn
      rw [if_neg (by omega), show min (sh gaps d) (gaps.length - 1) = sh gaps d by omega] at hn
      omega
theorem cm_sh {gaps : List Int} (hg : ∀ g ∈ gaps, 1 ≤ g) (d : Nat) : cm gaps d = ((d : Int) == nxf gaps (sh gaps d)) := by
  obtain ⟨h1, h2, h3⟩ := sh_inv hg d
  rw [Bool.eq_iff_iff, beq_iff_eq, cm, List.any_eq_true]
  simp only [List.mem_range, beq_iff_eq]
  unfold nxf
  constructor
  · rintro ⟨i, hi, hs⟩
    have hs' : sumTo gaps (i + 1) = (d : Int) := hs
    rw [if_neg (by omega)]
    have h4 : ¬ i < sh gaps d := fun h => by have := h2 i h; omega
    have h5 := h3 (by omega)
    have h6 : i = sh gaps d := by
      rcases Nat.lt_or_ge (sh gaps d) i with h | h
      · have := sumTo_lt hg (i := sh gaps d + 1) (j := i + 1) (by omega) (by omega)
        omega
      · omega
    rw [show min (sh gaps d) (gaps.length - 1) = sh gaps d by omega, ← h6]
    exact hs'.symm
  · intro h
    by_cases hlen : gaps.length = 0
    · rw [if_pos hlen] at h; omega
    · rw [if_neg hlen] at h
      exact ⟨min (sh gaps d) (gaps.length - 1), by omega, h.symm⟩
theorem nxf_succ {gaps : List Int} {i : Nat} (hi : i < gaps.length) : nxf gaps (i + 1) = if i + 1 < gaps.length then nxf gaps i + gaps.getD (i + 1) 0 else nxf gaps i := by
  have e : ∀ j, nxf gaps j = sumTo gaps (min j (gaps.length - 1) + 1) := fun j => by unfold nxf; rw [if_neg (by omega)]
  rw [e, e]
  by_cases h : i + 1 < gaps.length
  · rw [if_pos h, show min (i + 1) (gaps.length - 1) = i + 1 by omega, show min i (gaps.length - 1) = i by omega]
    exact sumTo_succ (by rw [List.getD_eq_getElem?_getD, List.getElem?_eq_getElem h]; rfl)
  · rw [if_neg h, show min (i + 1) (gaps.length - 1) = gaps.length - 1 by omega, show min i (gaps.length - 1) = gaps.length - 1 by omega]
theorem nxf_b {gaps : List Int} (hg : ∀ g ∈ gaps, 0 ≤ g ∧ g ≤ 60) (hl : gaps.length ≤ 310) (i : Nat) : -1 ≤ nxf gaps i ∧ nxf gaps i ≤ 20000 := by
  unfold nxf
  split
  · omega
  · have hb := sum_bound (l := gaps.take (min i (gaps.length - 1) + 1)) (a := 0) (b := 60) (by decide) (by decide) fun x hx => hg x (List.mem_of_mem_take hx)
    have hlk : (gaps.take (min i (gaps.length - 1) + 1)).length ≤ 310 := by rw [List.length_take]; omega
    unfold sumTo
    omega
/-! ### The program's way -/
theorem f97_eq {s : TShipStore} {days : Int} {t : TShipTruth} (hs : StoreOk s) (ht : TruthOk s days t) {load : List Int} (hl : load.length ≤ 10) (hi : incr load (s.Lots.length : Int) = true) {k : Nat} (hk : k < s.Stock.length)
    {us : List Int} {u : Int} (hu : us[k]? = some u) (hub : 0 ≤ u ∧ u ≤ 2000) {x : Int} (hx : 0 ≤ x ∧ x ≤ 400000000) (b : Bool) :
    f97 ⟨s, load, ⟨us, t.Gaps, t.Goods⟩⟩ (k : Int) x b = some (if x + (if b = true then goodsL t load k else 0) < u then (0, true) else (x + (if b = true then goodsL t load k else 0) - u, false)) := by
  have hg := goodsL_b hs ht load k
  unfold f97
  have e1 : ((if b = true then ((lp (f97_b0 ⟨s, load, ⟨us, t.Gaps, t.Goods⟩⟩ (k : Int)) (x, 0)).bind fun q12 => some q12) else (some x) : Option Int)) = some (x + (if b = true then goodsL t load k else 0)) := by
    cases b with
    | false => simp
    | true =>
      rw [if_pos rfl, add_goods hs ht hl hi hk ⟨hx.1, by omega⟩ (fun a j y g r h1 h2 h3 => by
        unfold f97_b0
        simp only
        rw [if_pos (by simpa using get_lt h1), ix_nat, h1, Option.bind_some, h2, Option.bind_some, h3]; rfl) (fun a => by unfold f97_b0; simp)]
      simp
  rw [e1, Option.bind_some]
  simp only
  rw [ix_nat, hu, Option.bind_some]
  obtain ⟨x1, hx1⟩ : ∃ x1, x1 = x + (if b = true then goodsL t load k else 0) := ⟨_, rfl⟩
  rw [← hx1]
  have hx1b : 0 ≤ x1 ∧ x1 ≤ 500000000 := by rw [hx1]; split <;> omega
  by_cases c1 : x1 < u
  · simp [c1]
  · rw [wrap_id (x := x1 - u) (by omega) (by omega)]
    simp [c1]
theorem f72_eq {s : TShipStore} {t : TShipTruth} (hs : StoreOk s) {n : Nat} (ht : TruthOk s (n : Int) t) (hn : n ≤ 300) {load : List Int} (hl : load.length ≤ 10) (hi : incr load (s.Lots.length : Int) = true) {k : Nat} (hk : k < s.Stock.length)
    {us : List Int} {u : Int} (hu : us[k]? = some u) (hub : 0 ≤ u ∧ u ≤ 2000) :
    f72 ⟨s, load, ⟨us, t.Gaps, t.Goods⟩⟩ (k : Int) (n : Int) = some (kw u (goodsL t load k) (s.Stock.getD k 0) (cm t.Gaps) n, kx u (goodsL t load k) (s.Stock.getD k 0) (cm t.Gaps) n) := by
  have hgap := hs.gap
  have hst : s.Stock[k]? = some (s.Stock.getD k 0) := by rw [List.getD_eq_getElem?_getD, List.getElem?_eq_getElem hk]; rfl
  have hsb := hs.stock _ (List.mem_of_getElem? hst)
  obtain ⟨st, hstd⟩ : ∃ st, st = s.Stock.getD k 0 := ⟨_, rfl⟩
  rw [← hstd] at hst hsb ⊢
  obtain ⟨g, hg⟩ : ∃ g, g = goodsL t load k := ⟨_, rfl⟩
  have hgb := goodsL_b hs ht load k
  rw [← hg] at hgb ⊢
  have hgn : g ≤ 1000000 := by omega
  have hg1 : ∀ x ∈ t.Gaps, 1 ≤ x := fun x hx => by have := ht.gaps x hx; omega
  have hg2 : ∀ x ∈ t.Gaps, 0 ≤ x ∧ x ≤ 60 := fun x hx => by have := ht.gaps x hx; omega
  have hna := ht.na
  have h := lp_thru (body := f72_b0 ⟨s, load, ⟨us, t.Gaps, t.Goods⟩⟩ (k : Int) (n : Int)) (List.range n) (kw u g st (cm t.Gaps) n, kx u g st (cm t.Gaps) n)
    (fun d => (kw u g st (cm t.Gaps) d, kx u g st (cm t.Gaps) d, nxf t.Gaps (sh t.Gaps d), ((sh t.Gaps d : Nat) : Int), (d : Int))) (fun d y hy => by
    obtain ⟨hd, rfl⟩ := range_get hy
    obtain ⟨b1, b2⟩ := kx_b (c := cm t.Gaps) hub.1 hgb.1 hsb.1 y
    have hgy : g * (y : Int) ≤ 1000000 * 300 := Int.le_trans (Int.mul_le_mul_of_nonneg_right hgn (by omega)) (by omega)
    obtain ⟨i1, i2, i3⟩ := sh_inv hg1 y
    have nb := nxf_b hg2 (by omega) (sh t.Gaps y)
    unfold f72_b0
    rw [if_pos (by simp; omega)]
    simp only
    rw [← cm_sh hg1 y, wrap_nat hd (by omega)]
    have e1 : ((if cm t.Gaps y = true then (if (decide ((IntKind.i64.wrap (((sh t.Gaps y : Nat) : Int) + 1)) < (t.Gaps.length : Int))) = true then ((ix t.Gaps (IntKind.i64.wrap (((sh t.Gaps y : Nat) : Int) + 1))).bind fun y26 => some (IntKind.i64.wrap (nxf t.Gaps (sh t.Gaps y) + y26), IntKind.i64.wrap (((sh t.Gaps y : Nat) : Int) + 1))) else (some (nxf t.Gaps (sh t.Gaps y), IntKind.i64.wrap (((sh t.Gaps y : Nat) : Int) + 1)))) else (some (nxf t.Gaps (sh t.Gaps y), ((sh t.Gaps y : Nat) : Int))) : Option (Int × Int))) = some (nxf t.Gaps (sh t.Gaps (y + 1)), ((sh t.Gaps (y + 1) : Nat) : Int)) := by
      rw [wrap_id (x := ((sh t.Gaps y : Nat) : Int) + 1) (by omega) (by omega), show ((sh t.Gaps y : Nat) : Int) + 1 = ((sh t.Gaps y + 1 : Nat) : Int) by omega]
      cases hc : cm t.Gaps y with
      | false =>
        have hne : ¬ nxf t.Gaps (sh t.Gaps y) = (y : Int) := fun h => by
          rw [cm_sh hg1 y, h] at hc
          simp at hc
        simp only [sh, if_neg hne, Bool.false_eq_true, if_false]
      | true =>
        have heq : nxf t.Gaps (sh t.Gaps y) = (y : Int) := by
          rw [cm_sh hg1 y, beq_iff_eq] at hc
          exact hc.symm
        have hlt : sh t.Gaps y < t.Gaps.length := by
          have := (sh_inv hg1 (y + 1)).1
          simp only [sh, if_pos heq] at this
          omega
        simp only [sh, if_pos heq, if_true]
        rw [nxf_succ hlt, heq]
        by_cases h2 : sh t.Gaps y + 1 < t.Gaps.length
        · have hgt : t.Gaps[sh t.Gaps y + 1]? = some (t.Gaps.getD (sh t.Gaps y + 1) 0) := by rw [List.getD_eq_getElem?_getD, List.getElem?_eq_getElem h2]; rfl
          have hgtb := hg2 _ (List.mem_of_getElem? hgt)
          rw [if_pos (by simp; omega), if_pos h2, ix_nat, hgt, Option.bind_some, wrap_id (by omega) (by omega)]
        · rw [if_neg (by simp; omega), if_neg h2]
    rw [e1, Option.bind_some, f97_eq hs ht hl hi hk hu hub ⟨b1, by omega⟩, Option.bind_some, ← hg]
    simp only [kw, kx]
    by_cases c1 : kx u g st (cm t.Gaps) y + (if cm t.Gaps y = true then g else 0) < u
    · by_cases c3 : kw u g st (cm t.Gaps) y < 0
      · simp [c1, c3]
      · simp [c1, c3]
    · simp [c1]) (by
    unfold f72_b0
    rw [if_neg (by simp)]
    simp)
  unfold f72
  simp only
  rw [ix_nat, hst, Option.bind_some]
  have e0 : ((if (decide (0 < (t.Gaps.length : Int))) = true then ((ix t.Gaps 0).bind fun y12 => some y12) else (some (-1)) : Option Int)) = some (nxf t.Gaps 0) := by
    unfold nxf
    by_cases hlen : t.Gaps.length = 0
    · rw [if_neg (by rw [decide_eq_true_eq]; omega), if_pos hlen]
    · rw [if_pos (by rw [decide_eq_true_eq]; omega), if_neg hlen, show (0 : Int) = ((0 : Nat) : Int) from rfl, ix_nat, List.getElem?_eq_getElem (by omega), Option.bind_some, show min 0 (t.Gaps.length - 1) + 1 = 0 + 1 by omega, sumTo_succ (List.getElem?_eq_getElem (show 0 < t.Gaps.length by omega))]
      simp [sumTo]
  rw [e0, Option.bind_some]
  rw [show (((-1) : Int), st, nxf t.Gaps 0, (0 : Int), (0 : Int)) = (fun d : Nat => (kw u g st (cm t.Gaps) d, kx u g st (cm t.Gaps) d, nxf t.Gaps (sh t.Gaps d), ((sh t.Gaps d : Nat) : Int), (d : Int))) 0 from rfl, h]
  rfl
/-! ### The truths at the ends -/
def cnt (n gap : Nat) : Nat := (n + gap - 1) / gap
theorem cnt_lt {n gap j : Nat} (hg : 1 ≤ gap) : j < cnt n gap ↔ j * gap < n := by
  unfold cnt
  rw [Nat.lt_div_iff_mul_lt (by omega)]
  omega
theorem cnt_le {n gap : Nat} (hg : 1 ≤ gap) : cnt n gap ≤ n ∧ n ≤ cnt n gap * gap := by
  constructor
  · rcases Nat.lt_or_ge n (cnt n gap) with h | h
    · have := (cnt_lt hg).1 h
      have : n * 1 ≤ n * gap := Nat.mul_le_mul_left _ hg
      omega
    · exact h
  · rcases Nat.lt_or_ge (cnt n gap * gap) n with h | h
    · exact absurd ((cnt_lt hg).2 h) (Nat.lt_irrefl _)
    · exact h
def mkT (s : TShipStore) (n : Nat) (fu fg : TSpan → Int) : TShipTruth := ⟨s.Use.map fu, List.replicate (cnt n (fu s.Gap).toNat) (fu s.Gap), s.Lots.map fun l => l.Goods.map fg⟩
def endT (s : TShipStore) (n : Nat) (w : Bool) : TShipTruth := mkT s n (fun u => if w = true then u.High else u.Low) (fun g => if w = true then g.Low else g.High)
theorem map_take_snoc {α β : Type} {l : List α} {k : Nat} {y : α} (f : α → β) (h : l[k]? = some y) : (l.take (k + 1)).map f = (l.take k).map f ++ [f y] := by
  rw [List.take_add_one, h]; simp
theorem take_len {α : Type} {l : List α} {k : Nat} (n : Nat) (h : l.length ≤ n) : (l.take k).length ≤ n := by rw [List.length_take]; omega
/-- The days between ships, one after another. -/
theorem gaps_lp {σ : Type} {body : Int × σ → Option ((Int × σ) ⊕ σ)} {n gap : Nat} (hg : 1 ≤ gap ∧ gap ≤ 60) (hn : n ≤ 300) (mk : List Int → σ) (h1 : ∀ (a : Int) (l : List Int), a < (n : Int) → l.length ≤ 310 → body (a, mk l) = some (.inl (IntKind.i64.wrap (a + (gap : Int)), mk (l ++ [(gap : Int)])))) (h2 : ∀ (a : Int) l, ¬ a < (n : Int) → body (a, mk l) = some (.inr (mk l))) :
    lp body (0, mk []) = some (mk (List.replicate (cnt n gap) (gap : Int))) := by
  obtain ⟨c1, c2⟩ := cnt_le (n := n) hg.1
  have h := lp_thru (body := body) (List.range (cnt n gap)) (mk (List.replicate (cnt n gap) (gap : Int))) (fun j => (((j * gap : Nat) : Int), mk (List.replicate j (gap : Int)))) (fun j y hy => by
    obtain ⟨hj, rfl⟩ := range_get hy
    have h3 := (cnt_lt hg.1).1 hj
    have e1 : (y + 1) * gap = y * gap + gap := Nat.succ_mul y gap
    rw [h1 _ _ (by omega) (by rw [List.length_replicate]; omega), wrap_id (by omega) (by omega)]
    have e2 : ((y * gap : Nat) : Int) + (gap : Int) = (((y + 1) * gap : Nat) : Int) := by omega
    rw [e2, show List.replicate y (gap : Int) ++ [(gap : Int)] = List.replicate (y + 1) (gap : Int) by rw [List.replicate_succ']]) (by
    rw [List.length_range, h2 _ _ (by omega)])
  rw [show ((0 : Int), mk []) = (fun j : Nat => (((j * gap : Nat) : Int), mk (List.replicate j (gap : Int)))) 0 by simp, h]
theorem f111_eq (l : List TSpan) (f : TSpan → Int) (hl : l.length ≤ 8) : f111 l (fun z => some (f z)) = some (l.map f) := by
  have h := lp_thru (body := f111_b0 l fun z => some (f z)) l (l.map f) (fun k => ((l.take k).map f, (k : Int))) (fun k y hy => by
    have hk := get_lt hy
    unfold f111_b0
    rw [if_pos (by simpa using hk), ix_nat, hy, Option.bind_some, Option.bind_some, app_short _ _ (by simp; omega), Option.bind_some, wrap_nat hk (by omega), map_take_snoc f hy]) (by
    unfold f111_b0
    rw [if_neg (by simp)]
    simp)
  unfold f111
  rw [show (([], (0 : Int)) : List Int × Int) = (fun k : Nat => ((l.take k).map f, (k : Int))) 0 from rfl, h]; rfl
theorem f98_eq (s : TShipStore) (load : List Int) (n : Nat) (fu fg : TSpan → Int) (hs : StoreOk s) (hss : StoreShort s) (hn : n ≤ 300) (hfu : 1 ≤ fu s.Gap ∧ fu s.Gap ≤ 60) : f98 s load (n : Int) (fun z => some (fu z)) (fun z => some (fg z)) = some ⟨s, load, mkT s n fu fg⟩ := by
  obtain ⟨gap, hgap⟩ : ∃ gap : Nat, fu s.Gap = (gap : Int) := ⟨(fu s.Gap).toNat, by omega⟩
  have hgn : 1 ≤ gap ∧ gap ≤ 60 := by omega
  have hc := cnt_le (n := n) hgn.1
  unfold f98
  rw [f111_eq _ _ hss.use, Option.bind_some]
  have h1 := gaps_lp (body := f98_b0 s (n : Int) fun z => some (fu z)) hgn hn (fun l => (⟨s.Use.map fu, l, []⟩ : TShipTruth)) (fun a l ha hl => by
    unfold f98_b0
    rw [if_pos (by simpa using ha)]
    simp only [Option.bind_some, hgap]
    rw [app_short _ _ (by simp; omega)]; rfl) (fun a l ha => by
    unfold f98_b0
    rw [if_neg (by simpa using ha)])
  rw [h1, Option.bind_some]
  have h2 := lp_thru (body := f98_b1 s fun z => some (fg z)) s.Lots (⟨s.Use.map fu, List.replicate (cnt n gap) (gap : Int), s.Lots.map fun l => l.Goods.map fg⟩ : TShipTruth) (fun k => ((k : Int), (⟨s.Use.map fu, List.replicate (cnt n gap) (gap : Int), (s.Lots.take k).map fun l => l.Goods.map fg⟩ : TShipTruth))) (fun k y hy => by
    have hk := get_lt hy
    have h9 := hss.lots
    unfold f98_b1
    rw [if_pos (by simpa using hk)]
    simp only
    rw [ix_nat, hy, Option.bind_some, f111_eq _ _ (hss.goods y (List.mem_of_getElem? hy)), Option.bind_some, app_short _ _ (by simp; omega), Option.bind_some, wrap_nat hk (by omega), map_take_snoc _ hy]) (by
    unfold f98_b1
    rw [if_neg (by simp)]
    simp)
  rw [show ((0 : Int), (⟨s.Use.map fu, List.replicate (cnt n gap) (gap : Int), []⟩ : TShipTruth)) = (fun k : Nat => ((k : Int), (⟨s.Use.map fu, List.replicate (cnt n gap) (gap : Int), (s.Lots.take k).map fun l => l.Goods.map fg⟩ : TShipTruth))) 0 from rfl, h2, Option.bind_some]
  unfold mkT
  rw [hgap]
  rfl
theorem f74_eq (s : TShipStore) (load : List Int) (n : Nat) (hs : StoreOk s) (hss : StoreShort s) (hn : n ≤ 300) : f74 s load (n : Int) = some ⟨s, load, endT s n true⟩ := by
  have hg := hs.gap
  unfold f74
  rw [show (fun (z0 : TSpan) => f99 z0) = fun z => some z.High from rfl, show (fun (z0 : TSpan) => f100 z0) = fun z => some z.Low from rfl, f98_eq s load n (fun z => z.High) (fun z => z.Low) hs hss hn (by omega)]; rfl
theorem f75_eq (s : TShipStore) (load : List Int) (n : Nat) (hs : StoreOk s) (hss : StoreShort s) (hn : n ≤ 300) : f75 s load (n : Int) = some ⟨s, load, endT s n false⟩ := by
  have hg := hs.gap
  unfold f75
  rw [show (fun (z0 : TSpan) => f99 z0) = fun z => some z.High from rfl, show (fun (z0 : TSpan) => f100 z0) = fun z => some z.Low from rfl, f98_eq s load n (fun z => z.Low) (fun z => z.High) hs hss hn (by omega)]; rfl
/-- 'ref.End'. -/
theorem f31_eq (s : TShipStore) (n : Nat) (w : Bool) (hs : StoreOk s) (hss : StoreShort s) (hn : n ≤ 300) : f31 s (n : Int) w = some (endT s n w) := by
  have hg := hs.gap
  obtain ⟨fu, hfu⟩ : ∃ fu : TSpan → Int, fu = fun u => if w = true then u.High else u.Low := ⟨_, rfl⟩
  obtain ⟨fg, hfg⟩ : ∃ fg : TSpan → Int, fg = fun g => if w = true then g.Low else g.High := ⟨_, rfl⟩
  have eu : ∀ u : TSpan, ((if w = true then (some u.High) else (some u.Low) : Option Int)) = some (fu u) := fun u => by rw [hfu]; cases w <;> rfl
  have eg : ∀ u : TSpan, ((if w = true then (some u.Low) else (some u.High) : Option Int)) = some (fg u) := fun u => by rw [hfg]; cases w <;> rfl
  have hgb : 1 ≤ fu s.Gap ∧ fu s.Gap ≤ 60 := by rw [hfu]; cases w <;> simp <;> omega
  obtain ⟨gap, hgap⟩ : ∃ gap : Nat, fu s.Gap = (gap : Int) := ⟨(fu s.Gap).toNat, by omega⟩
  have hgn : 1 ≤ gap ∧ gap ≤ 60 := by omega
  have hc := cnt_le (n := n) hgn.1
  obtain ⟨z, hz⟩ : ∃ z : TShipTruth, z = ⟨[], [], []⟩ := ⟨_, rfl⟩
  unfold f31
  rw [← hz]
  have h0 := lp_thru (body := f31_b0 s w) s.Use ((⟨s.Use.map fu, [], []⟩ : TShipTruth), z) (fun k => ((k : Int), (⟨(s.Use.take k).map fu, [], []⟩ : TShipTruth), z)) (fun k y hy => by
    have hk := get_lt hy
    have h9 := hss.use
    unfold f31_b0
    rw [if_pos (by simpa using hk)]
    simp only
    rw [ix_nat, hy, Option.bind_some, eu, Option.bind_some, app_short _ _ (by simp; omega), Option.bind_some, wrap_nat hk (by omega), map_take_snoc fu hy]) (by
    unfold f31_b0
    rw [if_neg (by simp)]
    simp)
  rw [show ((0 : Int), z, z) = (fun k : Nat => ((k : Int), (⟨(s.Use.take k).map fu, [], []⟩ : TShipTruth), z)) 0 by rw [hz]; rfl, h0, Option.bind_some, eu, Option.bind_some, hgap]
  have h1 := gaps_lp (body := f31_b1 (gap : Int) (n : Int)) hgn hn (fun l => ((⟨s.Use.map fu, l, []⟩ : TShipTruth), z)) (fun a l ha hl => by
    unfold f31_b1
    rw [if_pos (by simpa using ha)]
    simp only
    rw [app_short _ _ (by simp; omega)]; rfl) (fun a l ha => by
    unfold f31_b1
    rw [if_neg (by simpa using ha)])
  rw [h1, Option.bind_some]
  have h3 : ∀ (i : Nat) (l : TShipLot) (x : TShipTruth × TShipTruth) , s.Lots[i]? = some l → lp (f31_b3 ((i : Int), x.1, x.2) s w) ([], 0, x.1, x.2) = some (l.Goods.map fg, x.1, x.2) := fun i l x hl => by
    have hml := List.mem_of_getElem? hl
    have h9 := hss.goods l hml
    have h8 := hs.ng l hml
    have h := lp_thru (body := f31_b3 ((i : Int), x.1, x.2) s w) l.Goods (l.Goods.map fg, x.1, x.2) (fun k => ((l.Goods.take k).map fg, (k : Int), x.1, x.2)) (fun k y hy => by
      have hk := get_lt hy
      unfold f31_b3
      rw [if_pos (by simp; omega)]
      simp only
      rw [ix_nat, hl, Option.bind_some, ix_nat, hy, Option.bind_some, eg, Option.bind_some, app_short _ _ (by simp; omega), Option.bind_some, wrap_nat hk (by omega), map_take_snoc fg hy]) (by
      unfold f31_b3
      rw [if_neg (by simp; omega)]
      simp)
    rw [show (([], (0 : Int), x.1, x.2) : List Int × Int × TShipTruth × TShipTruth) = (fun k : Nat => ((l.Goods.take k).map fg, (k : Int), x.1, x.2)) 0 from rfl, h]
  have h2 := lp_thru (body := f31_b2 s w) s.Lots ((⟨s.Use.map fu, List.replicate (cnt n gap) (gap : Int), s.Lots.map fun l => l.Goods.map fg⟩ : TShipTruth), z) (fun k => ((k : Int), (⟨s.Use.map fu, List.replicate (cnt n gap) (gap : Int), (s.Lots.take k).map fun l => l.Goods.map fg⟩ : TShipTruth), z)) (fun k y hy => by
    have hk := get_lt hy
    have h9 := hss.lots
    unfold f31_b2
    rw [if_pos (by simpa using hk)]
    simp only
    rw [h3 k y (_, z) hy, Option.bind_some]
    simp only
    rw [app_short _ _ (by simp; omega), Option.bind_some, wrap_nat hk (by omega), map_take_snoc _ hy]) (by
    unfold f31_b2
    rw [if_neg (by simp)]
    simp)
  simp only
  rw [show ((0 : Int), (⟨s.Use.map fu, List.replicate (cnt n gap) (gap : Int), []⟩ : TShipTruth), z) = (fun k : Nat => ((k : Int), (⟨s.Use.map fu, List.replicate (cnt n gap) (gap : Int), (s.Lots.take k).map fun l => l.Goods.map fg⟩ : TShipTruth), z)) 0 from rfl, h2, Option.bind_some]
  unfold endT mkT
  rw [← hfu, ← hfg, hgap]
  rfl
theorem mkT_ok {s : TShipStore} (hs : StoreOk s) {n : Nat} (hn : n ≤ 300) {fu fg : TSpan → Int} (hu : ∀ u : TSpan, u.Low ≤ u.High → u.Low ≤ fu u ∧ fu u ≤ u.High) (hg : ∀ u : TSpan, u.Low ≤ u.High → u.Low ≤ fg u ∧ fg u ≤ u.High) : TruthOk s (n : Int) (mkT s n fu fg) := by
  have hgap := hs.gap
  have hgb := hu s.Gap hgap.2.1
  obtain ⟨gap, hgp⟩ : ∃ gap : Nat, fu s.Gap = (gap : Int) := ⟨(fu s.Gap).toNat, by omega⟩
  have hc := cnt_le (n := n) (gap := gap) (by omega)
  unfold mkT
  rw [hgp, Int.toNat_natCast]
  refine ⟨by simp [hs.nu], by simp, by simp; omega, ?_, ?_, ?_, ?_, ?_⟩
  · intro k y hy
    simp only [List.getElem?_map, Option.map_eq_some_iff] at hy
    obtain ⟨u, h1, rfl⟩ := hy
    have e : s.Use.getD k ⟨0, 0⟩ = u := by rw [List.getD_eq_getElem?_getD, h1]; rfl
    rw [e]
    exact hu u (hs.use u (List.mem_of_getElem? h1)).2.1
  · intro r hr
    simp only [List.mem_map] at hr
    obtain ⟨l, hl, rfl⟩ := hr
    simp [hs.ng l hl]
  · intro i r hr k y hy
    simp only [List.getElem?_map, Option.map_eq_some_iff] at hr
    obtain ⟨l, hl, rfl⟩ := hr
    simp only [List.getElem?_map, Option.map_eq_some_iff] at hy
    obtain ⟨g, h1, rfl⟩ := hy
    have e : goodAt s i k = g := by
      unfold goodAt
      rw [hl, Option.map_some, Option.getD_some, List.getD_eq_getElem?_getD, h1]; rfl
    rw [e]
    exact hg g (hs.goods l (List.mem_of_getElem? hl) g (List.mem_of_getElem? h1)).2.1
  · intro g hg
    simp only [List.mem_replicate] at hg
    rw [hg.2]
    omega
  · simp only [List.sum_replicate_int]
    have : ((cnt n gap * gap : Nat) : Int) = (cnt n gap : Int) * (gap : Int) := by simp
    omega
theorem endT_ok {s : TShipStore} (hs : StoreOk s) {n : Nat} (hn : n ≤ 300) (w : Bool) : TruthOk s (n : Int) (endT s n w) := by
  unfold endT
  refine mkT_ok hs hn (fun u h => ?_) (fun u h => ?_) <;> cases w <;> simp <;> omega
end Go.Proofs.Ytajejmbnmphngaa
