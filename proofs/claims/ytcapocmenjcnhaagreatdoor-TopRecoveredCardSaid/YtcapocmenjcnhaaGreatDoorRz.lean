/-
 The reef's small functions in closed form (plain).
-/
import Derived.Test.YtcapocmenjcnhaaGreatDoorGx
set_option linter.unusedVariables false
set_option linter.unusedSimpArgs false
namespace Go.Proofs.YtcapocmenjcnhaaGreatDoor
open Go.RowKit
theorem vK {σ ρ : Type} {body : σ → Option (σ ⊕ ρ)} (m : Nat) (enc : Nat → σ) (r : ρ) (h1 : ∀ k, k < m → body (enc k) = some (.inl (enc (k + 1)))) (h2 : body (enc m) = some (.inr r)) : lp body (enc 0) = some r :=
 zky (List.replicate m ()) r enc (fun k y hy => h1 k (by have := jC hy; simpa using this)) (by rw [List.length_replicate]; exact h2)
theorem ofNat_lt {a b : Nat} : decide ((a : Int) < (b : Int)) = decide (a < b) := by
 by_cases h : a < b
 ·rw [decide_eq_true h, decide_eq_true (by omega)]
 ·rw [decide_eq_false h, decide_eq_false (by omega)]
theorem zjR {q i : Nat} (hq : q ≤ 1000) (hi : i ≤ 1000) : f28 (q : Int) (i : Int) = some (yZ q i) := by
 have key : lp (zdI (i : Int)) ((q : Int), 0) = some ((q / 2 ^ i : Nat) : Int) := by
  have := vK (body := zdI (i : Int)) i (fun k => (((q / 2 ^ k : Nat) : Int), (k : Int))) ((q / 2 ^ i : Nat) : Int) (fun k hk => by
   have hb : q / 2 ^ k ≤ q := Nat.div_le_self _ _
   have e0 : q / 2 ^ (k + 1) = q / 2 ^ k / 2 := by rw [Nat.pow_succ, ← Nat.div_div_eq_div_mul]
   unfold zdI
   rw [if_pos (by rw [ofNat_lt]; simpa using hk), e0]
   generalize q / 2 ^ k = z at hb
   have e1 : IntKind.i64.wrap ((z : Int).tdiv 2) = ((z / 2 : Nat) : Int) := by
    rw [Int.tdiv_eq_ediv_of_nonneg (by omega), wrap_in ⟨by omega, by omega⟩]
    omega
   rw [e1, wrap_in ⟨by omega, by omega⟩]
   rfl) (by
   unfold zdI
   rw [if_neg (by simp)])
  simpa using this
 unfold f28
 rw [key]
 simp only [Option.bind_some, Option.some.injEq]
 unfold yZ
 generalize q / 2 ^ i = z
 rw [Int.tmod_eq_emod_of_nonneg (by omega)]
 rw [Bool.eq_iff_iff]
 simp only [beq_iff_eq, decide_eq_true_eq]
 omega
theorem zxA {r : qz} (h : r.Places.length ≤ 4) : f17 r = some ((2 ^ r.Places.length : Nat) : Int) := by
 have key : lp (zdM r) (1, 0) = some ((2 ^ r.Places.length : Nat) : Int) := by
  have := vK (body := zdM r) r.Places.length (fun k => (((2 ^ k : Nat) : Int), (k : Int))) ((2 ^ r.Places.length : Nat) : Int) (fun k hk => by
   unfold zdM
   rw [if_pos (by rw [ofNat_lt]; simpa using hk)]
   have h3 : k ≤ 3 := by omega
   have h2 : 2 ^ k ≤ 8 := Nat.le_trans (Nat.pow_le_pow_right (by decide) h3) (by decide)
   have e1 : IntKind.i64.wrap (2 * ((2 ^ k : Nat) : Int)) = ((2 ^ (k + 1) : Nat) : Int) := by
    rw [Nat.pow_succ]
    generalize 2 ^ k = z at h2
    rw [wrap_in ⟨by omega, by omega⟩]
    omega
   rw [e1, wrap_in ⟨by omega, by omega⟩]
   rfl) (by
   unfold zdM
   rw [if_neg (by simp)])
  simpa using this
 unfold f17
 rw [key]
 rfl
theorem zhI (a b c : Int) : f16 a b c = some (decide (b ≤ a ∧ a ≤ c)) := by
 unfold f16
 by_cases h : b ≤ a
 ·simp [h]
 ·simp [h]
theorem zfE (a b c : Int) : f75 a b c = some (decide (b ≤ a ∧ a ≤ c)) := zhI a b c
def xk (r : qz) (l : List Nat) : Prop := (l.length : Int) = r.Seasons ∧ ∀ q ∈ l, q < 2 ^ r.Places.length
abbrev yj (l : List Nat) : List Int := l.map fun q : Nat => (q : Int)
theorem zow {r : qz} {l : List Int} (h : r.Places.length ≤ 4) (hl : l.length ≤ 1000) : ∃ b, f5 r l = some b ∧ (b = true ↔ ∃ m : List Nat, l = yj m ∧ xk r m) := by
 have h2 : 2 ^ r.Places.length ≤ 16 := Nat.le_trans (Nat.pow_le_pow_right (by decide) h) (by decide)
 have hpos : 1 ≤ 2 ^ r.Places.length := Nat.one_le_two_pow
 have key : lp (zgY r l) 0 = some (if zdb (fun _ y => decide (0 ≤ y ∧ y ≤ ((2 ^ r.Places.length : Nat) : Int) - 1)) 0 l = true then .inl () else .inr false) := by
  have := ze8 (body := zgY r l) l (fun _ y => decide (0 ≤ y ∧ y ≤ ((2 ^ r.Places.length : Nat) : Int) - 1)) (.inr false) (.inl ()) (fun k => (k : Int)) (fun k y hy => by
   have hk := jC hy
   unfold zgY
   rw [if_pos (by rw [ofNat_lt]; simpa using hk), qm, hy, Option.bind_some, zxA h, Option.bind_some, wrap_in ⟨by omega, by omega⟩, zhI, Option.bind_some, wrap_in ⟨by omega, by omega⟩]
   cases hd : decide (0 ≤ y ∧ y ≤ ((2 ^ r.Places.length : Nat) : Int) - 1) <;> simp) (by
   unfold zgY
   rw [if_neg (by simp)])
  exact this
 unfold f5
 rw [key]
 by_cases ha : zdb (fun _ y => decide (0 ≤ y ∧ y ≤ ((2 ^ r.Places.length : Nat) : Int) - 1)) 0 l = true
 ·rw [if_pos ha]
  refine ⟨_, rfl, ?_⟩
  rw [vW] at ha
  show ((l.length : Int) == r.Seasons) = true ↔ _
  rw [beq_iff_eq]
  constructor
  ·intro hs
   refine ⟨l.map Int.toNat, ?_, by rw [List.length_map]; exact hs, fun q hq => ?_⟩
   ·refine List.ext_getElem? fun j => ?_
    simp only [List.getElem?_map]
    cases hj : l[j]? with
    | none => rfl
    | some y =>
     have := of_decide_eq_true (ha j y hj)
     simp only [Option.map_some, Option.some.injEq]
     omega
   ·obtain ⟨y, hy, rfl⟩ := List.mem_map.1 hq
    obtain ⟨j, hj⟩ := List.getElem?_of_mem hy
    have := of_decide_eq_true (ha j y hj)
    omega
  ·rintro ⟨m, rfl, hm⟩
   rw [List.length_map]
   exact hm.1
 ·rw [if_neg ha]
  refine ⟨_, rfl, ?_⟩
  show false = true ↔ _
  constructor
  ·intro h; cases h
  ·rintro ⟨m, rfl, hm⟩
   refine absurd ?_ ha
   rw [vW]
   intro j y hj
   rw [List.getElem?_map] at hj
   cases hq : m[j]? with
   | none => rw [hq] at hj; cases hj
   | some q =>
    rw [hq] at hj
    cases hj
    have := hm.2 q (List.mem_of_getElem? hq)
    show decide (0 ≤ (q : Int) ∧ (q : Int) ≤ ((2 ^ r.Places.length : Nat) : Int) - 1) = true
    exact decide_eq_true ⟨by omega, by omega⟩
theorem zbA {ps : List zr} (h : ∀ p ∈ ps, 0 ≤ p.Worth ∧ p.Worth ≤ 1000000) (q : Nat) : ∀ i, 0 ≤ yi ps q i ∧ yi ps q i ≤ 1000000 * (i : Int)
 | 0 => by simp [yi]
 | i + 1 => by
  have ih := zbA h q i
  unfold yi
  split
  ·cases hp : ps[i]? with
   | none => simp; omega
   | some p => have := h p (List.mem_of_getElem? hp); simp; omega
  ·omega
theorem zau {ps : List zr} (h : ∀ p ∈ ps, 0 ≤ p.Worth ∧ p.Worth ≤ 1000000) (h4 : ps.length ≤ 4) (l : List Nat) : ∀ s, 0 ≤ z9 ps l s ∧ z9 ps l s ≤ 4000000 * (s : Int)
 | 0 => by simp [z9]
 | s + 1 => by
  have ih := zau h h4 l s
  have := zbA h (l.getD s 0) ps.length
  unfold z9
  omega
theorem kY {l : List Nat} {s : Nat} (h : s < l.length) : (yj l)[s]? = some ((l.getD s 0 : Nat) : Int) := by
 rw [List.getElem?_map, List.getElem?_eq_getElem h, List.getD_eq_getElem?_getD, List.getElem?_eq_getElem h]
 rfl
theorem zbt {l : List Nat} {n s : Nat} (h : ∀ q ∈ l, q < n) (hs : s < l.length) : l.getD s 0 < n := by
 rw [List.getD_eq_getElem?_getD, List.getElem?_eq_getElem hs]
 exact h _ (List.getElem_mem hs)
theorem zyF {r : qz} {l : List Nat} (hw : ∀ p ∈ r.Places, 0 ≤ p.Worth ∧ p.Worth ≤ 1000000) (h4 : r.Places.length ≤ 4) (hl : l.length ≤ 8) (hq : ∀ q ∈ l, q < 2 ^ r.Places.length) : f8 r (yj l) = some (z9 r.Places l l.length) := by
 have h2 : 2 ^ r.Places.length ≤ 16 := Nat.le_trans (Nat.pow_le_pow_right (by decide) h4) (by decide)
 have inner : ∀ s, s < l.length → lp (zgW (z9 r.Places l s, (s : Int)) r (yj l)) (z9 r.Places l s, 0) = some (z9 r.Places l (s + 1)) := by
  intro s hs
  have hls : (yj l).length = l.length := by simp
  have hqs := zbt hq hs
  have ht := zau hw h4 l s
  have := vK (body := zgW (z9 r.Places l s, (s : Int)) r (yj l)) r.Places.length (fun i => (z9 r.Places l s + yi r.Places (l.getD s 0) i, (i : Int))) (z9 r.Places l (s + 1)) (fun i hi => by
   have hb := zbA hw (l.getD s 0) i
   have hpi := List.getElem?_eq_getElem hi
   have hwi := hw _ (List.getElem_mem hi)
   unfold zgW
   rw [if_pos (by rw [ofNat_lt]; simpa using hi)]
   simp only [qm, kY hs, Option.bind_some, zjR (show l.getD s 0 ≤ 1000 by omega) (show i ≤ 1000 by omega)]
   rw [wrap_in (n := (i : Int) + 1) ⟨by omega, by omega⟩]
   have e : yi r.Places (l.getD s 0) (i + 1) = yi r.Places (l.getD s 0) i + if yZ (l.getD s 0) i then r.Places[i].Worth else 0 := by
    conv => lhs; unfold yi
    rw [hpi]; rfl
   rw [e]
   cases hbit : yZ (l.getD s 0) i with
   | true =>
    simp only [if_true, hpi, Option.bind_some]
    rw [wrap_in ⟨by omega, by omega⟩, Int.add_assoc]
    rfl
   | false => simp) (by
   unfold zgW
   rw [if_neg (by simp)]
   rfl)
  simpa [yi] using this
 have outer : lp (zgX r (yj l)) (0, 0) = some (z9 r.Places l l.length) := by
  have := vK (body := zgX r (yj l)) l.length (fun s => (z9 r.Places l s, (s : Int))) (z9 r.Places l l.length) (fun s hs => by
   unfold zgX
   rw [if_pos (by rw [List.length_map, ofNat_lt]; simpa using hs)]
   rw [show ((z9 r.Places l s, (s : Int)) : Int × Int).1 = z9 r.Places l s from rfl, inner s hs]
   simp only [Option.bind_some]
   rw [wrap_in (n := (s : Int) + 1) ⟨by omega, by omega⟩]
   rfl) (by
   unfold zgX
   rw [if_neg (by simp)])
  simpa [z9] using this
 unfold f8
 rw [outer]
 rfl
theorem znc {q i : Nat} (hq : q < 64) (hi : i ≤ 6) : clB (q : Int) i = yZ q i := by
 unfold clB
 rw [show min i IntKind.i64.bits = i by show min i 64 = i; omega, Int.fdiv_eq_ediv_of_nonneg _ (Int.le_of_lt (Int.pow_pos (by decide)))]
 have e : (q : Int) / 2 ^ i = ((q / 2 ^ i : Nat) : Int) := by simp
 rw [e]
 have ha := zj0 (P := 1) ⟨by decide, by decide⟩ (Nat.lt_of_le_of_lt (Nat.div_le_self q (2 ^ i)) hq)
 rw [show IntKind.i64.wrap (((2 ^ 1 : Nat) : Int) - 1) = 1 by decide, Nat.pow_one] at ha
 rw [ha]
 unfold yZ
 rw [Bool.eq_iff_iff]
 simp only [beq_iff_eq, decide_eq_true_eq]
 omega
theorem zki {x : qi} {q : Nat} (hw : ∀ p ∈ x.Reef.Places, 0 ≤ p.Worth ∧ p.Worth ≤ 1000000) (h4 : x.Reef.Places.length ≤ 4) (hq : q < 64) : ∀ (m i : Nat) (n : Int), 0 ≤ n ∧ n ≤ 1000000000 → i + m = x.Reef.Places.length → rg (zdJ x) (qK (q : Int) i m) (n + yi x.Reef.Places q i) = some (.inl (n + yi x.Reef.Places q x.Reef.Places.length))
 | 0, i, n, hn, h => by
  obtain rfl : i = x.Reef.Places.length := by omega
  rfl
 | m + 1, i, n, hn, h => by
  have hi : i < x.Reef.Places.length := by omega
  have hpi := List.getElem?_eq_getElem hi
  have hwi := hw _ (List.getElem_mem hi)
  have hb := zbA hw q i
  have ih := zki hw h4 hq m (i + 1) n hn (by omega)
  unfold qK
  rw [znc hq (by omega)]
  have e : yi x.Reef.Places q (i + 1) = yi x.Reef.Places q i + if yZ q i then x.Reef.Places[i].Worth else 0 := by
   conv => lhs; unfold yi
   rw [hpi]; rfl
  rw [e] at ih
  cases hbit : yZ q i with
  | true =>
   rw [hbit] at ih
   rw [if_pos rfl]
   unfold rg
   have hx : zdJ x (i : Int) (n + yi x.Reef.Places q i) = some (.inl (n + (yi x.Reef.Places q i + x.Reef.Places[i].Worth))) := by
    unfold zdJ
    rw [qm, hpi, Option.bind_some, wrap_in ⟨by omega, by omega⟩, Int.add_assoc]
   rw [hx]
   exact ih
  | false =>
   rw [hbit] at ih
   simpa using ih
theorem zxy {r : qz} {l : List Nat} (hw : ∀ p ∈ r.Places, 0 ≤ p.Worth ∧ p.Worth ≤ 1000000) (h4 : r.Places.length ≤ 4) (hl : l.length ≤ 8) (hp : xk r l) : f26 ⟨r, yj l⟩ = some (z9 r.Places l l.length) := by
 have h2 : 2 ^ r.Places.length ≤ 16 := Nat.le_trans (Nat.pow_le_pow_right (by decide) h4) (by decide)
 have outer : lp (zdK ⟨r, yj l⟩) (0, 0) = some (z9 r.Places l l.length) := by
  have := vK (body := zdK ⟨r, yj l⟩) l.length (fun s => ((s : Int), z9 r.Places l s)) (z9 r.Places l l.length) (fun s hs => by
   have ht := zau hw h4 l s
   have hqs := zbt hp.2 hs
   unfold zdK
   rw [if_pos (by show decide ((s : Int) < r.Seasons) = true; rw [← hp.1, ofNat_lt]; simpa using hs)]
   have hi : ix (qi.plan ⟨r, yj l⟩) (s : Int) = some ((l.getD s 0 : Nat) : Int) := (qm _ _).trans (kY hs)
   have hr := zki (x := ⟨r, yj l⟩) (q := l.getD s 0) hw h4 (by omega) r.Places.length 0 (z9 r.Places l s) ⟨ht.1, by omega⟩ (by simp)
   simp only [yi, Int.add_zero] at hr
   simp only [hi, Option.bind_some]
   rw [show (qz.Places (qi.Reef ⟨r, yj l⟩)) = r.Places from rfl, hr]
   simp only [Option.bind_some]
   rw [wrap_in (n := (s : Int) + 1) ⟨by omega, by omega⟩]
   rfl) (by
   unfold zdK
   rw [if_neg (by show ¬ decide ((l.length : Int) < r.Seasons) = true; rw [← hp.1]; simp)])
  simpa [z9] using this
 unfold f26
 rw [outer]
 rfl
def xd (ps : List zr) (q i : Nat) : List qy := ps.mapIdx fun j p => if j < i ∧ yZ q j = true then p.Shut else p.Open
abbrev jz (ps : List zr) (q : Nat) : List qy := xd ps q ps.length
theorem yT (ps : List zr) (q i : Nat) : (xd ps q i).length = ps.length := by simp [xd]
theorem jq {ps : List zr} {q i j : Nat} {p : zr} (hp : ps[j]? = some p) : (xd ps q i)[j]? = some (if j < i ∧ yZ q j = true then p.Shut else p.Open) := by
 unfold xd
 rw [List.getElem?_mapIdx, hp]
 rfl
theorem zqP {ps : List zr} {q i : Nat} (hi : i < ps.length) (hb : yZ q i = true) : (xd ps q i).set i ps[i].Shut = xd ps q (i + 1) := by
 refine List.ext_getElem? fun j => ?_
 by_cases hj : j < ps.length
 ·have hpj := List.getElem?_eq_getElem hj
  rw [jq hpj]
  by_cases h : i = j
  ·subst h
   rw [List.getElem?_set_self (by rw [yT]; exact hi), if_pos ⟨by omega, hb⟩]
  ·rw [List.getElem?_set_ne h, jq hpj]
   congr 1
   by_cases h2 : j < i ∧ yZ q j = true
   ·rw [if_pos h2, if_pos ⟨by omega, h2.2⟩]
   ·rw [if_neg h2, if_neg (fun h3 => h2 ⟨by omega, h3.2⟩)]
 ·rw [List.getElem?_eq_none (by rw [List.length_set, yT]; omega), List.getElem?_eq_none (by rw [yT]; omega)]
theorem zqC {ps : List zr} {q i : Nat} (hb : yZ q i = false) : xd ps q i = xd ps q (i + 1) := by
 unfold xd
 refine List.ext_getElem? fun j => ?_
 rw [List.getElem?_mapIdx, List.getElem?_mapIdx]
 cases ps[j]? with
 | none => rfl
 | some p =>
  simp only [Option.map_some, Option.some.injEq]
  by_cases h : j < i ∧ yZ q j = true
  ·rw [if_pos h, if_pos ⟨by omega, h.2⟩]
  ·rw [if_neg h, if_neg (fun h3 => h ⟨by
    have : j ≠ i := fun e => by subst e; rw [hb] at h3; exact absurd h3.2 (by decide)
    omega, h3.2⟩)]
theorem zh8 {x : qi} {q : Nat} (h4 : x.Reef.Places.length ≤ 4) (hq : q < 64) : ∀ (m i : Nat), i + m = x.Reef.Places.length → rg (zdG x) (qK (q : Int) i m) (xd x.Reef.Places q i) = some (.inl (jz x.Reef.Places q))
 | 0, i, h => by
  obtain rfl : i = x.Reef.Places.length := by omega
  rfl
 | m + 1, i, h => by
  have hi : i < x.Reef.Places.length := by omega
  have hpi := List.getElem?_eq_getElem hi
  have ih := zh8 h4 hq m (i + 1) (by omega)
  unfold qK
  rw [znc hq (by omega)]
  cases hbit : yZ q i with
  | true =>
   rw [if_pos rfl]
   unfold rg
   have hx : zdG x (i : Int) (xd x.Reef.Places q i) = some (.inl (xd x.Reef.Places q (i + 1))) := by
    unfold zdG
    rw [qm, hpi, Option.bind_some, qm, jq hpi, Option.bind_some]
    unfold jK
    rw [if_pos ⟨by omega, by rw [yT]; omega⟩]
    show some (Sum.inl ((xd x.Reef.Places q i).set i x.Reef.Places[i].Shut)) = _
    rw [zqP hi hbit]
   rw [hx]
   exact ih
  | false =>
   rw [zqC hbit]
   simpa using ih
theorem zjM {r : qz} {l : List Nat} {s : Nat} (h4 : r.Places.length ≤ 4) (hq : ∀ q ∈ l, q < 2 ^ r.Places.length) (hs : s < l.length) : f93 ⟨r, yj l⟩ (s : Int) = some (jz r.Places (l.getD s 0)) := by
 have h2 : 2 ^ r.Places.length ≤ 16 := Nat.le_trans (Nat.pow_le_pow_right (by decide) h4) (by decide)
 have hqs := zbt hq hs
 have outer : lp (zdH ⟨r, yj l⟩) (0, []) = some (r.Places.map (·.Open)) := by
  have := vK (body := zdH ⟨r, yj l⟩) r.Places.length (fun i => ((i : Int), (r.Places.take i).map (·.Open))) (r.Places.map (·.Open)) (fun i hi => by
   have hpi := List.getElem?_eq_getElem hi
   unfold zdH
   rw [if_pos (by rw [ofNat_lt]; simpa using hi)]
   simp only [qm, hpi, Option.bind_some]
   rw [kq _ _ (by simp; omega), Option.bind_some, wrap_in (n := (i : Int) + 1) ⟨by omega, by omega⟩, List.take_succ_eq_append_getElem hi, List.map_append]
   rfl) (by
   unfold zdH
   rw [if_neg (by simp), List.take_length])
  simpa using this
 have e0 : r.Places.map (·.Open) = xd r.Places (l.getD s 0) 0 := by
  refine List.ext_getElem? fun j => ?_
  unfold xd
  rw [List.getElem?_map, List.getElem?_mapIdx]
  cases r.Places[j]? with
  | none => rfl
  | some p => simp
 have hi : ix (qi.plan ⟨r, yj l⟩) (s : Int) = some ((l.getD s 0 : Nat) : Int) := (qm _ _).trans (kY hs)
 have hr := zh8 (x := ⟨r, yj l⟩) (q := l.getD s 0) h4 (by omega) r.Places.length 0 (by simp)
 unfold f93
 rw [outer, Option.bind_some, hi, Option.bind_some, e0]
 rw [show (qz.Places (qi.Reef ⟨r, yj l⟩)) = r.Places from rfl] at hr ⊢
 rw [hr]
 rfl
end Go.Proofs.YtcapocmenjcnhaaGreatDoor
/-
 The reef: what is as defined; plans as numbers; more fish (plain).
-/
namespace Go.Proofs.YtcapocmenjcnhaaGreatDoor
open Go.RowKit
theorem jJ {c : Bool} {X : Option Bool} {R : Prop} (h : ∃ b, X = some b ∧ (b = true → R)) : ∃ b, (if c = true then X else some false) = some b ∧ (b = true → c = true ∧ R) := by
 cases c with
 | true => obtain ⟨b, h1, h2⟩ := h; exact ⟨b, h1, fun e => ⟨rfl, h2 e⟩⟩
 | false => exact ⟨false, rfl, fun h => by cases h⟩
theorem zu8 (s : qy) (m : Int) : zjU s m = some (decide (0 ≤ s.Low ∧ s.Low ≤ s.High ∧ s.High ≤ m)) := by
 unfold zjU
 by_cases h : 0 ≤ s.Low <;> by_cases h2 : s.Low ≤ s.High <;> simp [h, h2]
def zhW (p : zr) (i n : Nat) : Prop := 0 ≤ p.Room ∧ p.Room ≤ 1000000 ∧ 0 ≤ p.Drift ∧ p.Drift ≤ 1000 ∧ -1 ≤ p.Into ∧ p.Into < (n : Int) ∧ p.Into ≠ (i : Int) ∧ 0 ≤ p.Count ∧ p.Count ≤ 1000000 ∧ 0 ≤ p.Goal ∧ p.Goal ≤ 1000000 ∧ 0 ≤ p.Worth ∧ p.Worth ≤ 1000000 ∧
  0 ≤ p.Grow.Low ∧ p.Grow.Low ≤ p.Grow.High ∧ p.Grow.High ≤ 2000 ∧ 0 ≤ p.Open.Low ∧ p.Open.Low ≤ p.Open.High ∧ p.Open.High ≤ 1000000 ∧ 0 ≤ p.Shut.Low ∧ p.Shut.Low ≤ p.Shut.High ∧ p.Shut.High ≤ 1000000
theorem ziJ (p : zr) (i n : Nat) (hn : n ≤ 1000) : ∃ b, f74 p (i : Int) (n : Int) = some b ∧ (b = true → zhW p i n) := by
 have first : ∃ q, (if (p.Into != (-1)) = true then ((f75 p.Into 0 (IntKind.i64.wrap ((n : Int) - 1))).bind fun y6 => if (!y6) = true then (some true) else (some (p.Into == (i : Int)))) else (some false) : Option Bool) = some q ∧ (q = false → -1 ≤ p.Into ∧ p.Into < (n : Int) ∧ p.Into ≠ (i : Int)) := by
  rw [zfE, wrap_in ⟨by omega, by omega⟩, Option.bind_some]
  by_cases h1 : p.Into = -1
  ·refine ⟨false, by simp [h1], fun _ => ⟨by omega, by omega, by omega⟩⟩
  ·rw [if_pos (by simpa using h1)]
   by_cases h2 : 0 ≤ p.Into ∧ p.Into ≤ (n : Int) - 1
   ·rw [decide_eq_true h2]
    refine ⟨_, rfl, fun h3 => ⟨by omega, by omega, by simpa using h3⟩⟩
   ·rw [decide_eq_false h2]
    exact ⟨true, rfl, fun h => by cases h⟩
 obtain ⟨q, hq, hh⟩ := first
 unfold f74
 rw [hq, Option.bind_some]
 cases q with
 | true => exact ⟨false, rfl, fun h => by cases h⟩
 | false =>
  have hi := hh rfl
  rw [if_neg (by decide)]
  simp only [zfE, zu8, Option.bind_some]
  obtain ⟨b, h1, h2⟩ := jJ (c := decide (0 ≤ p.Count ∧ p.Count ≤ 1000000)) (jJ (c := decide (0 ≤ p.Room ∧ p.Room ≤ 1000000)) (jJ (c := decide (0 ≤ p.Goal ∧ p.Goal ≤ 1000000)) (jJ (c := decide (0 ≤ p.Grow.Low ∧ p.Grow.Low ≤ p.Grow.High ∧ p.Grow.High ≤ 2000)) (jJ (c := decide (0 ≤ p.Drift ∧ p.Drift ≤ 1000))
   (jJ (c := decide (0 ≤ p.Open.Low ∧ p.Open.Low ≤ p.Open.High ∧ p.Open.High ≤ 1000000)) (jJ (c := decide (0 ≤ p.Shut.Low ∧ p.Shut.Low ≤ p.Shut.High ∧ p.Shut.High ≤ 1000000)) (jJ (c := decide (p.Shut.Low ≤ p.Open.Low)) (jJ (c := decide (p.Shut.High ≤ p.Open.High))
   (⟨decide (0 ≤ p.Worth ∧ p.Worth ≤ 1000000), rfl, id⟩ : ∃ b, some (decide (0 ≤ p.Worth ∧ p.Worth ≤ 1000000)) = some b ∧ (b = true → decide (0 ≤ p.Worth ∧ p.Worth ≤ 1000000) = true))))))))))
  refine ⟨b, by rw [h1]; rfl, fun e => ?_⟩
  simp only [decide_eq_true_eq] at h2
  have h2 := h2 e
  unfold zhW
  omega
def ReefOk (r : qz) : Prop := zbh r.Places ∧ 1 ≤ r.Places.length ∧ 0 ≤ r.Miss ∧ r.Miss ≤ 2000 ∧ 1 ≤ r.Seasons ∧ r.Seasons ≤ 4
theorem ztl (r : qz) (hl : r.Places.length ≤ 1000) : ∃ b, f24 r = some b ∧ (b = true → ReefOk r) := by
 have key : ∃ q, lp (zdL r) 0 = some q ∧ ((q = .inr false) ∨ (q = .inl () ∧ ∀ i p, r.Places[i]? = some p → zhW p i r.Places.length)) := by
  have h := ze8 (body := zdL r) r.Places (fun i p => (f74 p (i : Int) (r.Places.length : Int)).getD false) (.inr false) (.inl ()) (fun k => (k : Int)) (fun k y hy => by
   have hk := jC hy
   obtain ⟨b, hb, _⟩ := ziJ y k r.Places.length hl
   unfold zdL
   rw [if_pos (by rw [ofNat_lt]; simpa using hk), qm, hy, Option.bind_some, hb, Option.bind_some, wrap_in ⟨by omega, by omega⟩]
   cases b <;> rfl) (by
   unfold zdL
   rw [if_neg (by simp)])
  refine ⟨_, h, ?_⟩
  by_cases ha : zdb (fun i p => (f74 p (i : Int) (r.Places.length : Int)).getD false) 0 r.Places = true
  ·rw [if_pos ha]
   refine .inr ⟨rfl, fun i p hp => ?_⟩
   rw [vW] at ha
   obtain ⟨b, hb, hh⟩ := ziJ p i r.Places.length hl
   have := ha i p hp
   simp only [Nat.zero_add, hb, Option.getD_some] at this
   exact hh this
  ·rw [if_neg ha]; exact .inl rfl
 obtain ⟨q, hq, hh⟩ := key
 unfold f24
 rw [hq, Option.bind_some]
 rcases hh with rfl | ⟨rfl, hp⟩
 ·exact ⟨false, rfl, fun h => by cases h⟩
 ·rw [Sum.elim_inl]
  simp only [zfE, Option.bind_some]
  obtain ⟨b, h1, h2⟩ := jJ (c := decide ((1 : Int) ≤ (r.Places.length : Int) ∧ (r.Places.length : Int) ≤ 4)) (jJ (c := decide (0 ≤ r.Miss ∧ r.Miss ≤ 2000)) (⟨decide (1 ≤ r.Seasons ∧ r.Seasons ≤ 4), rfl, id⟩ : ∃ b, some (decide (1 ≤ r.Seasons ∧ r.Seasons ≤ 4)) = some b ∧ (b = true → decide (1 ≤ r.Seasons ∧ r.Seasons ≤ 4) = true)))
  refine ⟨b, by rw [h1]; rfl, fun e => ?_⟩
  simp only [decide_eq_true_eq] at h2
  have h2 := h2 e
  exact ⟨⟨by omega, hp⟩, by omega, by omega, by omega, by omega, by omega⟩
theorem zsw (r : qz) (hl : r.Places.length ≤ 1000) : ∃ e, zhK r = some e ∧ (e = 0 → f24 r = some true ∧ ReefOk r) := by
 obtain ⟨b, hb, hh⟩ := ztl r hl
 unfold zhK
 rw [hb, Option.bind_some]
 cases b with
 | true => exact ⟨0, rfl, fun _ => ⟨rfl, hh rfl⟩⟩
 | false => exact ⟨2, rfl, fun h => absurd h (by decide)⟩
theorem ReefOk.worth {r : qz} (h : ReefOk r) : ∀ p ∈ r.Places, 0 ≤ p.Worth ∧ p.Worth ≤ 1000000 := fun p hp => by
 obtain ⟨i, hi⟩ := List.getElem?_of_mem hp
 have := h.1.each i p hi
 omega
theorem ziK {r : qz} {l : List Nat} (h24 : f24 r = some true) (h4 : r.Places.length ≤ 4) (hl : l.length ≤ 8) (hp : xk r l) : f35 ⟨r, yj l⟩ = some true := by
 have h2 : 2 ^ r.Places.length ≤ 16 := Nat.le_trans (Nat.pow_le_pow_right (by decide) h4) (by decide)
 have h90 : ∀ q : Nat, q < 2 ^ r.Places.length → f90 (q : Int) ⟨r, yj l⟩ = some false := fun q hq => by
  unfold f90
  rw [show ((qz.Places (qi.Reef ⟨r, yj l⟩)).length : Int) = (r.Places.length : Int) from rfl, zhd (by omega), Option.bind_some, zfE, wrap_in ⟨by omega, by omega⟩, Option.bind_some, decide_eq_true ⟨by omega, by omega⟩]
  rfl
 have key : lp (zby (yj l) (fun z => f90 z ⟨r, yj l⟩)) 0 = some (.inl ()) := by
  have := zky (body := zby (yj l) (fun z => f90 z ⟨r, yj l⟩)) (yj l) (.inl ()) (fun k => (k : Int)) (fun k y hy => by
   have hk := jC hy
   rw [List.length_map] at hk
   rw [kY hk] at hy
   cases hy
   unfold zby
   rw [if_pos (by rw [List.length_map, ofNat_lt]; simpa using hk)]
   simp only [qm, kY hk, Option.bind_some, h90 _ (zbt hp.2 hk)]
   rw [wrap_in ⟨by omega, by omega⟩]
   rfl) (by
   unfold zby
   rw [if_neg (by simp)])
  exact this
 unfold f35
 rw [show qi.Reef ⟨r, yj l⟩ = r from rfl, h24, Option.bind_some, if_pos rfl]
 have e : ((qi.plan ⟨r, yj l⟩).length : Int) == r.Seasons := by
  rw [show (qi.plan ⟨r, yj l⟩) = yj l from rfl, List.length_map]
  exact beq_iff_eq.2 hp.1
 rw [if_pos e]
 unfold f89 znU
 rw [show (qi.plan ⟨r, yj l⟩) = yj l from rfl, key]
 rfl
theorem zjt {r : qz} {l : List Nat} {S : Nat} (h : ReefOk r) (hS : r.Seasons = (S : Int)) : TruthOk r.Places S (r.Places.map (·.Count)) (jI r.Places S) (jH (fun s => jz r.Places (l.getD s 0)) S) := by
 obtain ⟨hp, h1, _, _, _, h4⟩ := h
 refine ⟨hp, by omega, by simp, fun x hx => ?_, zaY _ _, zaX _ _, fun gs hg => ?_, fun ks hk => ?_⟩
 ·obtain ⟨p, hpm, rfl⟩ := List.mem_map.1 hx
  obtain ⟨i, hi⟩ := List.getElem?_of_mem hpm
  have := hp.each i p hi
  omega
 ·obtain ⟨s, _, rfl⟩ := List.mem_map.1 hg
  refine ⟨by simp, fun g hg => ?_⟩
  obtain ⟨p, hpm, rfl⟩ := List.mem_map.1 hg
  obtain ⟨i, hi⟩ := List.getElem?_of_mem hpm
  have := hp.each i p hi
  omega
 ·obtain ⟨s, _, rfl⟩ := List.mem_map.1 hk
  refine ⟨by simp [yT], fun k hk => ?_⟩
  obtain ⟨sp, hsp, rfl⟩ := List.mem_map.1 hk
  obtain ⟨i, hi⟩ := List.getElem?_of_mem hsp
  have hlt := jC hi
  rw [yT] at hlt
  have hpi := List.getElem?_eq_getElem hlt
  have := hp.each i _ hpi
  rw [jq hpi] at hi
  cases hi
  split <;> omega
theorem zfd : ∀ (ps : List zr) (X : List Int) (i : Nat), ps.length = X.length → (kC ps X i = none ↔ ∀ (j : Nat) (p : zr) (x : Int), ps[j]? = some p → X[j]? = some x → p.Goal ≤ x)
 | [], [], i, _ => by simp [kC]
 | [], _ :: _, _, h => by simp at h
 | _ :: _, [], _, h => by simp at h
 | p :: ps, x :: X, i, h => by
  have ih := zfd ps X (i + 1) (by simpa using h)
  unfold kC
  by_cases hx : x < p.Goal
  ·rw [if_pos hx]
   constructor
   ·intro h; cases h
   ·intro h; have := h 0 p x rfl rfl; omega
  ·rw [if_neg hx, ih]
   constructor
   ·intro hh j q y hq hy
    cases j with
    | zero => cases hq; cases hy; omega
    | succ j => exact hh j q y hq hy
   ·intro hh j q y hq hy
    exact hh (j + 1) q y hq hy
def TruthIn (r : qz) (l : List Nat) (t : qT) : Prop :=
 t.Starts.length = r.Places.length ∧ (t.Grows.length : Int) = r.Seasons ∧ (t.Takes.length : Int) = r.Seasons ∧
 (∀ (i : Nat) p x, r.Places[i]? = some p → t.Starts[i]? = some x → p.Count ≤ x ∧ x ≤ p.Count + (p.Count * r.Miss).tdiv 1000) ∧
 ∀ (s : Nat) g k, t.Grows[s]? = some g → t.Takes[s]? = some k → g.length = r.Places.length ∧ k.length = r.Places.length ∧
  ∀ (i : Nat) p y z, r.Places[i]? = some p → g[i]? = some y → k[i]? = some z → (p.Grow.Low ≤ y ∧ y ≤ p.Grow.High) ∧ (if yZ (l.getD s 0) i then p.Shut.Low else p.Open.Low) ≤ z ∧ z ≤ (if yZ (l.getD s 0) i then p.Shut.High else p.Open.High)
theorem zxt (x : Int) (s : qy) : f33 x s = some (decide (s.Low ≤ x ∧ x ≤ s.High)) := by unfold f33; rw [zhI]; rfl
theorem zjO (x : Int) (s : qy) : f91 x s = some (decide (s.Low ≤ x ∧ x ≤ s.High)) := by unfold f91; rw [zfE]; rfl
theorem zxs (p : zr) (b : Bool) : f34 p b = some (if b = true then p.Shut else p.Open) := by unfold f34; split <;> rfl
theorem ze4 {c m : Int} (hc : 0 ≤ c ∧ c ≤ 1000000) (hm : 0 ≤ m ∧ m ≤ 2000) : 0 ≤ c * m ∧ c * m ≤ 2000000000 ∧ (c * m).tdiv 1000 = c * m / 1000 := by
 have h0 : 0 ≤ c * m := Int.mul_nonneg hc.1 hm.1
 have h1 : c * m ≤ 1000000 * 2000 := Int.mul_le_mul hc.2 hm.2 hm.1 (by decide)
 exact ⟨h0, by omega, Int.tdiv_eq_ediv_of_nonneg h0⟩
theorem zxv {r : qz} {c : Int} (hc : 0 ≤ c ∧ c ≤ 1000000) (hm : 0 ≤ r.Miss ∧ r.Miss ≤ 2000) : f32 r c = some (c + (c * r.Miss).tdiv 1000) := by
 obtain ⟨h0, h1, h2⟩ := ze4 hc hm
 unfold f32
 rw [wrap_in (n := c * r.Miss) ⟨by omega, by omega⟩, wrap_in (n := (c * r.Miss).tdiv 1000) ⟨by omega, by omega⟩, wrap_in ⟨by omega, by omega⟩]
theorem TruthIn.ok {r : qz} {l : List Nat} {t : qT} {S : Nat} (h : ReefOk r) (hS : r.Seasons = (S : Int)) (ht : TruthIn r l t) : TruthOk r.Places S t.Starts t.Grows t.Takes := by
 obtain ⟨hp, h1, m0, m1, _, h4⟩ := h
 obtain ⟨t1, t2, t3, t4, t5⟩ := ht
 refine ⟨hp, by omega, t1, fun x hx => ?_, by omega, by omega, fun g hg => ?_, fun k hk => ?_⟩
 ·obtain ⟨i, hi⟩ := List.getElem?_of_mem hx
  have hlt := jC hi
  have hpi := List.getElem?_eq_getElem (l := r.Places) (i := i) (by omega)
  have h5 := t4 i _ _ hpi hi
  have h6 := hp.each i _ hpi
  obtain ⟨q0, q1, q2⟩ := ze4 (c := r.Places[i].Count) ⟨by omega, by omega⟩ ⟨m0, m1⟩
  omega
 ·obtain ⟨s, hs⟩ := List.getElem?_of_mem hg
  have hlt := jC hs
  have hks := List.getElem?_eq_getElem (l := t.Takes) (i := s) (by omega)
  obtain ⟨g1, g2, g3⟩ := t5 s _ _ hs hks
  refine ⟨g1, fun y hy => ?_⟩
  obtain ⟨i, hi⟩ := List.getElem?_of_mem hy
  have hil := jC hi
  have hpi := List.getElem?_eq_getElem (l := r.Places) (i := i) (by omega)
  have hzi := List.getElem?_eq_getElem (l := t.Takes[s]) (i := i) (by omega)
  have h6 := hp.each i _ hpi
  have := (g3 i _ _ _ hpi hi hzi).1
  omega
 ·obtain ⟨s, hs⟩ := List.getElem?_of_mem hk
  have hlt := jC hs
  have hgs := List.getElem?_eq_getElem (l := t.Grows) (i := s) (by omega)
  obtain ⟨g1, g2, g3⟩ := t5 s _ _ hgs hs
  refine ⟨g2, fun z hz => ?_⟩
  obtain ⟨i, hi⟩ := List.getElem?_of_mem hz
  have hil := jC hi
  have hpi := List.getElem?_eq_getElem (l := r.Places) (i := i) (by omega)
  have hyi := List.getElem?_eq_getElem (l := t.Grows[s]) (i := i) (by omega)
  have h6 := hp.each i _ hpi
  have := (g3 i _ _ _ hpi hyi hi).2
  split at this <;> omega
theorem zgw {r : qz} {l : List Nat} {t : qT} {S : Nat} (h : ReefOk r) (hS : r.Seasons = (S : Int)) (ht : TruthIn r l t) : ∀ s, s ≤ S → Leq (qn r.Places (jI r.Places S) (jH (fun s => jz r.Places (l.getD s 0)) S) (r.Places.map (·.Count)) s) (qn r.Places t.Grows t.Takes t.Starts s)
 | 0, _ => by
  obtain ⟨t1, t2, t3, t4, t5⟩ := ht
  refine ⟨by simp [qn, t1], fun j hj => ?_⟩
  simp only [qn, List.length_map] at hj ⊢
  have hpi := List.getElem?_eq_getElem hj
  have hxi := List.getElem?_eq_getElem (l := t.Starts) (i := j) (by omega)
  have := (t4 j _ _ hpi hxi).1
  rw [List.getD_eq_getElem?_getD, List.getD_eq_getElem?_getD, List.getElem?_map, hpi, hxi]
  exact this
 | s + 1, hs => by
  have ih := zgw h hS ht s (by omega)
  have hlo := zjt (l := l) h hS
  obtain ⟨t1, t2, t3, t4, t5⟩ := ht
  have hb := (hlo.bnd (s := s) (by omega)).1
  have hgs := List.getElem?_eq_getElem (l := t.Grows) (i := s) (by omega)
  have hks := List.getElem?_eq_getElem (l := t.Takes) (i := s) (by omega)
  obtain ⟨g1, g2, g3⟩ := t5 s _ _ hgs hks
  have eg : (jI r.Places S).getD s [] = r.Places.map (·.Grow.Low) := by
   rw [List.getD_eq_getElem?_getD]; unfold jI; rw [List.getElem?_map, List.getElem?_range (by omega)]; rfl
  have ek : (jH (fun s => jz r.Places (l.getD s 0)) S).getD s [] = (jz r.Places (l.getD s 0)).map (·.High) := by
   rw [List.getD_eq_getElem?_getD]; unfold jH; rw [List.getElem?_map, List.getElem?_range (by omega)]; rfl
  have eg' : t.Grows.getD s [] = t.Grows[s]'(by omega) := by rw [List.getD_eq_getElem?_getD, hgs]; rfl
  have ek' : t.Takes.getD s [] = t.Takes[s]'(by omega) := by rw [List.getD_eq_getElem?_getD, hks]; rfl
  unfold qn
  rw [eg, ek, eg', ek']
  refine zqW h.1 (by decide) hb (by rw [yY]; simp) (by simp) g1 (fun g hg => ?_) ⟨by simp [g1], fun j hj => ?_⟩ (by simp [yT]) g2 (fun j hj => ?_) ih
  ·obtain ⟨p, hpm, rfl⟩ := List.mem_map.1 hg
   obtain ⟨i, hi⟩ := List.getElem?_of_mem hpm
   have := h.1.each i p hi
   omega
  ·rw [List.length_map] at hj
   have hpi := List.getElem?_eq_getElem hj
   have hyi := List.getElem?_eq_getElem (l := t.Grows[s]) (i := j) (by omega)
   have hzi := List.getElem?_eq_getElem (l := t.Takes[s]) (i := j) (by omega)
   have := (g3 j _ _ _ hpi hyi hzi).1.1
   rw [List.getD_eq_getElem?_getD, List.getD_eq_getElem?_getD, List.getElem?_map, hpi, hyi]
   exact this
  ·have hpi := List.getElem?_eq_getElem hj
   have hyi := List.getElem?_eq_getElem (l := t.Grows[s]) (i := j) (by omega)
   have hzi := List.getElem?_eq_getElem (l := t.Takes[s]) (i := j) (by omega)
   have := (g3 j _ _ _ hpi hyi hzi).2.2
   rw [List.getD_eq_getElem?_getD, List.getD_eq_getElem?_getD, List.getElem?_map, jq hpi, hzi]
   simp only [Option.map_some, Option.getD_some]
   cases hbit : yZ (l.getD s 0) j with
   | true => rw [hbit] at this; rw [if_pos ⟨hj, rfl⟩]; simpa using this
   | false => rw [hbit] at this; rw [if_neg (by simp)]; simpa using this
end Go.Proofs.YtcapocmenjcnhaaGreatDoor
/-
 The reef: a truth that is one is found to be one (the walk).
-/
namespace Go.Proofs.YtcapocmenjcnhaaGreatDoor
open Go.RowKit
set_option maxRecDepth 20000
section
variable {P : Program} {F : Fr} {w : World} {od : Option Nat} {ty t u e : TypeId} {pos : String} {af : Array Edge} {gd : Option (Nat × Bool)} {X Y : Operand} {k : IntKind} {m n : Int} {q : Bool}
theorem zlJ (h : decide (m < n) = q) (hx : ev F X = .int k m) (hy : ev F Y = .int k n) : (execOp (ev F) ⟨od, .binOp .lss t X Y u, ty, pos, af, gd⟩).run P w = .ok (.value (.bool q)) w := h ▸ qa hx hy
theorem zdk (h : decide (n < m) = q) (hx : ev F X = .int k m) (hy : ev F Y = .int k n) : (execOp (ev F) ⟨od, .binOp .gtr t X Y u, ty, pos, af, gd⟩).run P w = .ok (.value (.bool q)) w := h ▸ zdp hx hy
theorem zg8 (h : (m == n) = q) (hx : ev F X = .int k m) (hy : ev F Y = .int k n) : (execOp (ev F) ⟨od, .binOp .eql t X Y u, ty, pos, af, gd⟩).run P w = .ok (.value (.bool q)) w := h ▸ zb6 hx hy
theorem xC (h : (m != n) = q) (hx : ev F X = .int k m) (hy : ev F Y = .int k n) : (execOp (ev F) ⟨od, .binOp .neq t X Y u, ty, pos, af, gd⟩).run P w = .ok (.value (.bool q)) w := h ▸ kw hx hy
theorem zlI {r : Int} (h : k.wrap (m - n) = r) (hx : ev F X = .int k m) (hy : ev F Y = .int k n) : (execOp (ev F) ⟨od, .binOp .sub t X Y u, ty, pos, af, gd⟩).run P w = .ok (.value (.int k r)) w := h ▸ xE hx hy
end
theorem c91 : zN Tryz.prog 91 = true := by kernel_rfl
theorem zxc {x : qi} {p : zr} (hc : 0 ≤ p.Count ∧ p.Count ≤ 1000000) (hm : 0 ≤ x.Reef.Miss ∧ x.Reef.Miss ≤ 2000) : f92 x p = some ⟨p.Count, p.Count + (p.Count * x.Reef.Miss).tdiv 1000⟩ := by
 obtain ⟨h0, h1, h2⟩ := ze4 hc hm
 unfold f92
 rw [wrap_in (n := p.Count * x.Reef.Miss) ⟨by omega, by omega⟩, wrap_in (n := (p.Count * x.Reef.Miss).tdiv 1000) ⟨by omega, by omega⟩, wrap_in ⟨by omega, by omega⟩]
theorem zcT {a : Nat} {n : Int} (h : (a : Int) = n) : ((a : Int) != n) = false := by rw [h]; simp
set_option maxHeartbeats 4000000 in
theorem zxq {G0 : Gm} {w0 : World} {a1 a2 a3 a4 a5 : Option Addr} {n1 c1 n2 c2 m3 c3 m4 c4 m5 c5 S : Nat} {r : qz} {l : List Nat} {t : qT} (hS0 : Sat G0 w0) (h1 : RSl zE 12 G0 a1 n1 c1 r.Places) (h2 : RSl zW 1 G0 a2 n2 c2 (yj l)) (h3 : RSl zW 1 G0 a3 m3 c3 t.Starts) (h4 : RSl (yd zW 1) 1 G0 a4 m4 c4 t.Grows) (h5 : RSl (yd zW 1) 1 G0 a5 m5 c5 t.Takes)
  (h : ReefOk r) (hs : r.Seasons = (S : Int)) (hp : xk r l) (ht : TruthIn r l t) : Calls Tryz.prog 36 [.agg #[.slice a1 n1 c1, iV r.Miss, iV r.Seasons, .slice a2 n2 c2], .agg #[.slice a3 m3 c3, .slice a4 m4 c4, .slice a5 m5 c5]].toArray w0 (qQ w0 (.bool true)) := by
 have hS := Since.start hS0
 have hO := xw G0 w0
 obtain ⟨ho, _, m0, m1, _, hS4⟩ := h
 have hm := ho.many
 have hlS : l.length = S := by have := hp.1; omega
 obtain ⟨t1, t2, t3, t4, t5⟩ := ht
 refine z8 (N := 125) (qS _ _) Tryz.func36 rfl rfl rfl rfl (zc (zb (zp rfl (zI (v := fun b => pV b) (cs := [.slice a1 n1 c1, iV r.Miss, iV r.Seasons, .slice a2 n2 c2]) (e := 91) (z6 rfl) hS.sat rfl fun bX G1 w1 hg1 hcX => ?_))))
 have hS := hS.grow hg1
 have hO := hO.grow hg1
 refine zp rfl (zI (v := fun b => pV b) (cs := [.slice a3 m3 c3, .slice a4 m4 c4, .slice a5 m5 c5]) (e := 52) (z6 rfl) hS.sat rfl fun bT G2 w2 hg2 hcT => ?_)
 have hS := hS.grow hg2
 have hO := hO.grow hg2
 have hcX := hcX.mono hg2.le
 have le := hg1.le.trans hg2.le
 have h1 := h1.mono zl le
 have h2 := h2.mono zm le
 have h3 := h3.mono zm le
 have h4 := h4.mono (zO zm) le
 have h5 := h5.mono (zO zm) le
 refine za (ze (v := .bool false) rfl) rfl (zd (zc (zb (za (zj vm rfl) rfl (za (zj jL rfl) rfl (za (zk n33 rfl (hS.sat.cell (hcX 0 _ rfl))) rfl (za (qu (m := r.Places.length) s33 rfl rfl h1.1) rfl (za (ze (v := iV (r.Places.length : Int)) rfl) rfl (zd ?_)))))))))
 refine zc (zc (zb (za (zj zia rfl) rfl (za (zk n24 rfl (hS.sat.cell (hcT 0 _ rfl))) rfl (za (qu (m := t.Starts.length) s24 rfl rfl h3.1) rfl (wr 1 rfl (za (xC (zcT (congrArg _ t1)) rfl rfl) rfl (wr 1 rfl ?_))))))))
 refine zo rfl rfl rfl rfl (za (zj zeT rfl) rfl (zo rfl rfl rfl rfl (za (zk n50 rfl (hS.sat.cell (hcT 1 _ rfl))) rfl (zo rfl rfl rfl rfl (za (qu (m := t.Grows.length) s50 rfl rfl h4.1) rfl ?_)))))
 refine zo rfl rfl rfl rfl (za (zj vm rfl) rfl (zo rfl rfl rfl rfl (za (zj zaQ rfl) rfl (zo rfl rfl rfl rfl (za (zk n3 rfl (hS.sat.cell (hcX 2 _ rfl))) rfl (zo rfl rfl rfl rfl (za (xC (zcT t2) rfl rfl) rfl (wr 2 rfl ?_))))))))
 refine zo rfl rfl rfl rfl (za (zj zeS rfl) rfl (zo rfl rfl rfl rfl (za (zk n50 rfl (hS.sat.cell (hcT 2 _ rfl))) rfl (zo rfl rfl rfl rfl (za (qu (m := t.Takes.length) s50 rfl rfl h5.1) rfl ?_)))))
 refine zo rfl rfl rfl rfl (za (zj vm rfl) rfl (zo rfl rfl rfl rfl (za (zj zaQ rfl) rfl (zo rfl rfl rfl rfl (za (zk n3 rfl (hS.sat.cell (hcX 2 _ rfl))) rfl (zo rfl rfl rfl rfl (za (xC (zcT t3) rfl rfl) rfl (wr 1 rfl (zd (zV false rfl rfl (zD ?_)))))))))))
 refine zc (zc (zb (za (zj vm rfl) rfl (za (zj jL rfl) rfl (za (zk n33 rfl (hS.sat.cell (hcX 0 _ rfl))) rfl (za (qu (m := r.Places.length) s33 rfl rfl h1.1) rfl (za (zf (v := iV 0) rfl) rfl (zd ?_))))))))
 refine zB (qZ (qJ r.Places.length (fun i F w => ∃ Fb, F = qC Fb [(2, pV bX), (3, pV bT), (5, iV (r.Places.length : Int)), (41, .slice a1 n1 c1), (42, iV (r.Places.length : Int)), (43, iV (i : Int))] ∧ Since w0.heap.size G0 w0 G2 w ∧ Owns G2 w w0.heap.size []) ?_ ?_ r.Places.length 0 _ _ (by omega) ⟨_, zi _ _ ⟨rfl, rfl, rfl, rfl, rfl, rfl, trivial⟩, hS, hO⟩))
 ·rintro i F w hi ⟨Fb, rfl, hS, hO⟩
  have hpi := List.getElem?_eq_getElem hi
  have hxi := List.getElem?_eq_getElem (l := t.Starts) (i := i) (by omega)
  have hpx : ix r.Places (i : Int) = some r.Places[i] := (qm _ _).trans hpi
  have hxx : ix t.Starts (i : Int) = some (t.Starts[i]'(by omega)) := (qm _ _).trans hxi
  have h6 := ho.each i _ hpi
  have h7 := t4 i _ _ hpi hxi
  refine zc (zb (za (qa rfl rfl) rfl (zd (zc (qf (decide ((i : Int) < (r.Places.length : Int))) (decide_eq_true (by omega)) rfl (zD ?_))))))
  refine zc (zB (zc (zb (za (zf (v := iV (i : Int)) rfl) rfl (xi s33 h1 hpx rfl rfl rfl ?_)))))
  rintro bp op _ hcp _ ⟨⟩
  refine za (zw g70 (cs := pC r.Places[i]) rfl rfl fun j v hj => hS.sat.cell (hcp j v hj)) rfl ?_
  refine zp rfl (zY (v := fun b => pV b) (cs := [iV 0, iV 0, iV 0, iV 0, iV 0, iV 0, iV 0, iV 0, iV 0, iV 0, iV 0, iV 0]) (e := 70) (by kernel_rfl) hS.sat hO rfl 12 1 rfl (by decide) fun bq w3 hb hO => ?_)
  have hS := hS.keep hb
  refine za (ze (v := iV (i : Int)) rfl) rfl (zp rfl (zM (vs := pC r.Places[i]) z70 hS hO (k := 0) rfl rfl rfl rfl rfl (zR rfl) (Nat.le_of_ble_eq_true rfl) fun w4 hS hO => zd ?_))
  have hO : Owns G2 w4 w0.heap.size [zeJ bq r.Places[i]] := hO
  have hS := hS.keep (zn w4)
  have hO := hO.below (zn w4)
  refine zc (zQ qA (fun _ w => Sat G2 w ∧ Owns G2 w w0.heap.size [zeJ bq r.Places[i]]) (.fl 0 (.fl 1 (.fl 2 (.fl 3 (.fl 4 (.fl 5 (.fl 6 (.on 7 (.on 8 (.fl 9 .nil)))))))))) (by kernel_rfl) rfl (by kernel_rfl) (fun _ => ⟨hS.sat, hO⟩) ?_)
  refine zh rfl (fun w hw => zj zia rfl) rfl (zh rfl (fun w hw => zk n24 rfl (hw.1.cell (hcT 0 _ rfl))) rfl (zh rfl (fun w hw => zf (v := iV (i : Int)) rfl) rfl (xH rfl s24 h3 hxx rfl rfl rfl ?_)))
  rintro bz oz _ hcz _ ⟨⟩
  refine zh rfl (fun w hw => zk n3 rfl (hw.1.cell (hcz 0 _ rfl))) rfl (zh rfl (fun w hw => zw g91 (cs := [.slice a1 n1 c1, iV r.Miss, iV r.Seasons, .slice a2 n2 c2]) rfl rfl fun j v hj => hw.1.cell (hcX j v hj)) rfl (zh rfl (fun w hw => zw g70 (cs := pC r.Places[i]) rfl rfl (yu hw.2 (k := 0) rfl 0 12)) rfl ?_))
  refine zt rfl rfl (zu c92 (zmW (x0 := ⟨r, yj l⟩) hS.sat h1 h2 (zxc (x := ⟨r, yj l⟩) (p := r.Places[i]) ⟨by omega, by omega⟩ ⟨m0, m1⟩)) rfl rfl fun w5 hb => ?_)
  have hS := hS.keep hb
  have hO := hO.below hb
  refine ⟨fun _ _ => ⟨hS.sat, hO⟩, ?_⟩
  refine zt rfl rfl (zu c91 (zjN hS.sat (zjO _ _)) rfl rfl fun w6 hb => ?_)
  have hS := hS.keep hb
  have hO := hO.below hb
  refine ⟨fun _ _ => ⟨hS.sat, hO⟩, ?_⟩
  rw [decide_eq_true h7]
  refine zh rfl (fun w hw => qI rfl) rfl (qk (zV (!true) rfl rfl (zD ?_)))
  refine zb (za (qO rfl rfl) rfl (za (zf (v := iV ((i + 1 : Nat) : Int)) (congrArg iV (yQ (by omega)))) rfl (zd ?_)))
  exact ⟨_, zi _ _ ⟨rfl, rfl, rfl, rfl, rfl, rfl, trivial⟩, hS, hO.drop 0⟩
 rintro F w ⟨Fb, rfl, hS, hO⟩
 refine qP (zc (zb (za (qa rfl rfl) rfl (zd (zc (zV (decide ((r.Places.length : Int) < (r.Places.length : Int))) (decide_eq_false (by omega)) rfl (ql rfl ?_)))))))
 refine zc (zc (zb (za (zj vm rfl) rfl (za (zj zaQ rfl) rfl (za (v := iV (S : Int)) (by rw [← hs]; exact zk n3 rfl (hS.sat.cell (hcX 2 _ rfl))) rfl (za (zf (v := iV 0) rfl) rfl (zd ?_)))))))
 refine zB (qZ (qJ S (fun s F w => ∃ Fb G, F = qC Fb [(2, pV bX), (3, pV bT), (5, iV (r.Places.length : Int)), (61, iV (S : Int)), (62, iV (s : Int))] ∧ Gle G2 G ∧ Since w0.heap.size G0 w0 G w ∧ Owns G w w0.heap.size []) ?_ ?_ S 0 _ _ (by omega) ⟨_, G2, zi _ _ ⟨rfl, rfl, rfl, rfl, rfl, trivial⟩, Gle.refl _, hS, hO⟩))
 ·rintro s F w hsS ⟨Fb, G, rfl, le, hS, hO⟩
  have hg := List.getElem?_eq_getElem (l := t.Grows) (i := s) (by omega)
  have hk := List.getElem?_eq_getElem (l := t.Takes) (i := s) (by omega)
  have hgx : ix t.Grows (s : Int) = some (t.Grows[s]'(by omega)) := (qm _ _).trans hg
  have hkx : ix t.Takes (s : Int) = some (t.Takes[s]'(by omega)) := (qm _ _).trans hk
  obtain ⟨g1, g2, g3⟩ := t5 s _ _ hg hk
  have h1 := h1.mono zl le
  have h2 := h2.mono zm le
  have h4 := h4.mono (zO zm) le
  have h5 := h5.mono (zO zm) le
  have hcX := hcX.mono le
  have hcT := hcT.mono le
  refine zc (zb (za (qa rfl rfl) rfl (zd (zc (qf (decide ((s : Int) < (S : Int))) (decide_eq_true (by omega)) rfl (zD ?_))))))
  refine zc (zB (zc (zb (za (zf (v := iV (s : Int)) rfl) rfl (za (ze (v := iV (s : Int)) rfl) rfl (zd ?_))))))
  refine zc (zc (zb (za (zj zeT rfl) rfl (za (zk n50 rfl (hS.sat.cell (hcT 1 _ rfl))) rfl (wr 1 rfl (xi s50 h4 hgx rfl rfl rfl ?_))))))
  rintro bg og _ hcg _ ⟨ag, ng, cg, rfl, hgs⟩
  refine za (zk n24 rfl (hS.sat.cell (hcg 0 _ rfl))) rfl (za (qu (m := (t.Grows[s]'(by omega)).length) s24 rfl rfl hgs.1) rfl (wr 1 rfl (za (xC (zcT (congrArg _ g1)) rfl rfl) rfl (wr 1 rfl ?_))))
  refine zo rfl rfl rfl rfl (za (zj zeS rfl) rfl (zo rfl rfl rfl rfl (za (zk n50 rfl (hS.sat.cell (hcT 2 _ rfl))) rfl (wr 1 rfl (zo rfl rfl rfl rfl (xi s50 h5 hkx rfl rfl rfl ?_))))))
  rintro bk ok _ hck _ ⟨ak, nk, ck, rfl, hks⟩
  refine zo rfl rfl rfl rfl (za (zk n24 rfl (hS.sat.cell (hck 0 _ rfl))) rfl (zo rfl rfl rfl rfl (za (qu (m := (t.Takes[s]'(by omega)).length) s24 rfl rfl hks.1) rfl (wr 1 rfl (zo rfl rfl rfl rfl (za (xC (zcT (congrArg _ g2)) rfl rfl) rfl (wr 1 rfl (zd (zV false rfl rfl (zD ?_))))))))))
  refine zc (zb (za (zw g91 (cs := [.slice a1 n1 c1, iV r.Miss, iV r.Seasons, .slice a2 n2 c2]) rfl rfl fun j v hj => hS.sat.cell (hcX j v hj)) rfl (wr 1 rfl ?_)))
  refine zp rfl (zS c93 (zmV (x0 := ⟨r, yj l⟩) hS.sat h1 h2 (zjM hm hp.2 (by omega))) rfl rfl fun v G3 w3 hg3 hv => ?_)
  obtain ⟨ra, rn, rc, rfl, hra⟩ := hv
  have hS := hS.grow hg3
  have hO := hO.grow hg3
  have le3 := le.trans hg3.le
  have h1 := h1.mono zl hg3.le
  have h4 := h4.mono (zO zm) hg3.le
  have h5 := h5.mono (zO zm) hg3.le
  have hcX := hcX.mono hg3.le
  have hcT := hcT.mono hg3.le
  refine za (ze (v := .slice ra rn rc) rfl) rfl (zd ?_)
  refine zc (zb (za (zj vm rfl) rfl (za (zj jL rfl) rfl (za (zk n33 rfl (hS.sat.cell (hcX 0 _ rfl))) rfl (za (qu (m := r.Places.length) s33 rfl rfl h1.1) rfl (za (zf (v := iV 0) rfl) rfl (zd ?_)))))))
  refine zB (qZ (qJ r.Places.length (fun i F w => ∃ Fb, F = qC Fb [(2, pV bX), (3, pV bT), (5, iV (r.Places.length : Int)), (61, iV (S : Int)), (62, iV (s : Int)), (8, iV (s : Int)), (9, .slice ra rn rc), (88, .slice a1 n1 c1), (89, iV (r.Places.length : Int)), (90, iV (i : Int))] ∧ Since w0.heap.size G0 w0 G3 w ∧ Owns G3 w w0.heap.size []) ?_ ?_ r.Places.length 0 _ _ (by omega) ⟨_, zi _ _ ⟨rfl, rfl, rfl, rfl, rfl, rfl, rfl, rfl, rfl, rfl, trivial⟩, hS, hO⟩))
  ·rintro i F w hi ⟨Fb, rfl, hS, hO⟩
   have hpi := List.getElem?_eq_getElem hi
   have hyi := List.getElem?_eq_getElem (l := t.Grows[s]'(by omega)) (i := i) (by omega)
   have hzi := List.getElem?_eq_getElem (l := t.Takes[s]'(by omega)) (i := i) (by omega)
   have hpx : ix r.Places (i : Int) = some r.Places[i] := (qm _ _).trans hpi
   have hyx : ix (t.Grows[s]'(by omega)) (i : Int) = some ((t.Grows[s]'(by omega))[i]'(by omega)) := (qm _ _).trans hyi
   have hzx : ix (t.Takes[s]'(by omega)) (i : Int) = some ((t.Takes[s]'(by omega))[i]'(by omega)) := (qm _ _).trans hzi
   have htx : ix (jz r.Places (l.getD s 0)) (i : Int) = some (if i < r.Places.length ∧ yZ (l.getD s 0) i = true then r.Places[i].Shut else r.Places[i].Open) := (qm _ _).trans (jq hpi)
   obtain ⟨q1, q2⟩ := g3 i _ _ _ hpi hyi hzi
   have q3 : ((if i < r.Places.length ∧ yZ (l.getD s 0) i = true then r.Places[i].Shut else r.Places[i].Open).Low ≤ (t.Takes[s]'(by omega))[i]'(by omega) ∧ (t.Takes[s]'(by omega))[i]'(by omega) ≤ (if i < r.Places.length ∧ yZ (l.getD s 0) i = true then r.Places[i].Shut else r.Places[i].Open).High) := by
    cases hb : yZ (l.getD s 0) i with
    | true => rw [hb] at q2; rw [if_pos ⟨hi, rfl⟩]; simpa using q2
    | false => rw [hb] at q2; rw [if_neg (by simp)]; simpa using q2
   refine zc (zb (za (qa rfl rfl) rfl (zd (zc (qf (decide ((i : Int) < (r.Places.length : Int))) (decide_eq_true (by omega)) rfl (zD ?_))))))
   refine zc (zB (zc (zb (za (zf (v := iV (i : Int)) rfl) rfl (xi s33 h1 hpx rfl rfl rfl ?_)))))
   rintro bp op _ hcp _ ⟨⟩
   refine za (zw g70 (cs := pC r.Places[i]) rfl rfl fun j v hj => hS.sat.cell (hcp j v hj)) rfl ?_
   refine zp rfl (zY (v := fun b => pV b) (cs := [iV 0, iV 0, iV 0, iV 0, iV 0, iV 0, iV 0, iV 0, iV 0, iV 0, iV 0, iV 0]) (e := 70) (by kernel_rfl) hS.sat hO rfl 12 1 rfl (by decide) fun bq w3 hb hO => ?_)
   have hS := hS.keep hb
   refine za (ze (v := iV (i : Int)) rfl) rfl (zp rfl (zM (vs := pC r.Places[i]) z70 hS hO (k := 0) rfl rfl rfl rfl rfl (zR rfl) (Nat.le_of_ble_eq_true rfl) fun w4 hS hO => zd ?_))
   have hO : Owns G3 w4 w0.heap.size [zeJ bq r.Places[i]] := hO
   have hS := hS.keep (zn w4)
   have hO := hO.below (zn w4)
   refine zc (zQ qA (fun _ w => Sat G3 w ∧ Owns G3 w w0.heap.size [zeJ bq r.Places[i]]) (.fl 0 (.fl 1 (.fl 2 (.fl 3 (.fl 4 (.fl 5 (.fl 6 (.fl 7 (.fl 8 (.fl 9 (.on 10 (.fl 11 (.fl 12 (.fl 13 (.fl 14 (.fl 15 (.fl 16 (.fl 17 (.fl 18 (.fl 19 (.fl 20 (.fl 21 (.fl 22 (.fl 23 (.fl 24 (.on 25 (.fl 26 (.fl 27 (.nil))))))))))))))))))))))))))))) (by kernel_rfl) rfl (by kernel_rfl) (fun _ => ⟨hS.sat, hO⟩) ?_)
   refine zh rfl (fun w hw => zj zeT rfl) rfl (zh rfl (fun w hw => zk n50 rfl (hw.1.cell (hcT 1 _ rfl))) rfl (zh rfl (fun w hw => zf (v := iV (s : Int)) rfl) rfl (xH rfl s50 h4 hgx rfl rfl rfl ?_)))
   rintro bg og _ hcg _ ⟨ag, ng, cg, rfl, hgs⟩
   refine zh rfl (fun w hw => zk n24 rfl (hw.1.cell (hcg 0 _ rfl))) rfl (zh rfl (fun w hw => zf (v := iV (i : Int)) rfl) rfl (xH rfl s24 hgs hyx rfl rfl rfl ?_))
   rintro by' oy _ hcy _ ⟨⟩
   refine zh rfl (fun w hw => zk n3 rfl (hw.1.cell (hcy 0 _ rfl))) rfl (zh rfl (fun w hw => zj zoe rfl) rfl (zh rfl (fun w hw => zw g23 (cs := [iV r.Places[i].Grow.Low, iV r.Places[i].Grow.High]) rfl rfl (yu hw.2 (k := 0) rfl 2 2)) rfl ?_))
   refine zt rfl rfl (zu c91 (zjN (x1 := r.Places[i].Grow) hS.sat (zjO _ _)) rfl rfl fun w5 hb => ?_)
   have hS := hS.keep hb
   have hO := hO.below hb
   refine ⟨fun _ _ => ⟨hS.sat, hO⟩, ?_⟩
   rw [decide_eq_true q1]
   refine zh rfl (fun w hw => qI rfl) rfl (zh rfl (fun w hw => zf (v := .bool false) rfl) rfl ?_)
   refine zX rfl rfl (b := false) rfl rfl rfl (fun w hw => zj zeS rfl) rfl (zX rfl rfl (b := false) rfl rfl rfl (fun w hw => zk n50 rfl (hw.1.cell (hcT 2 _ rfl))) rfl (zX rfl rfl (b := false) rfl rfl rfl (fun w hw => zf (v := iV (s : Int)) rfl) rfl (kM rfl rfl (b' := false) rfl rfl rfl s50 h5 hkx rfl rfl rfl ?_)))
   rintro bk ok _ hck _ ⟨ak, nk, ck, rfl, hks⟩
   refine zX rfl rfl (b := false) rfl rfl rfl (fun w hw => zk n24 rfl (hw.1.cell (hck 0 _ rfl))) rfl (zX rfl rfl (b := false) rfl rfl rfl (fun w hw => zf (v := iV (i : Int)) rfl) rfl (kM rfl rfl (b' := false) rfl rfl rfl s24 hks hzx rfl rfl rfl ?_))
   rintro bz oz _ hcz _ ⟨⟩
   refine zX rfl rfl (b := false) rfl rfl rfl (fun w hw => zk n3 rfl (hw.1.cell (hcz 0 _ rfl))) rfl (zX rfl rfl (b := false) rfl rfl rfl (fun w hw => zf (v := .slice ra rn rc) rfl) rfl (zX rfl rfl (b := false) rfl rfl rfl (fun w hw => zf (v := iV (i : Int)) rfl) rfl (kM rfl rfl (b' := false) rfl rfl rfl s39 hra htx rfl rfl rfl ?_)))
   rintro bs os _ hcs _ ⟨⟩
   refine zX rfl rfl (b := false) rfl rfl rfl (fun w hw => zw g23 rfl rfl fun j v hj => hw.1.cell (hcs j v hj)) rfl ?_
   refine kB rfl rfl rfl (b := false) rfl rfl rfl (zu c91 (zjN hS.sat (zjO _ _)) rfl rfl fun w6 hb => ?_)
   have hS := hS.keep hb
   have hO := hO.below hb
   refine ⟨fun _ _ => ⟨hS.sat, hO⟩, ?_⟩
   rw [decide_eq_true q3]
   refine zX rfl rfl (b := false) rfl rfl rfl (fun w hw => qI rfl) rfl (zh rfl (fun w hw => xg (v := .bool (!true)) rfl rfl rfl) rfl (qk (zV (!true) rfl rfl (zD ?_))))
   refine zb (za (qO rfl rfl) rfl (za (zf (v := iV ((i + 1 : Nat) : Int)) (congrArg iV (yQ (by omega)))) rfl (zd ?_)))
   exact ⟨_, zi _ _ ⟨rfl, rfl, rfl, rfl, rfl, rfl, rfl, rfl, rfl, rfl, trivial⟩, hS, hO.drop 0⟩
  rintro F w ⟨Fb, rfl, hS, hO⟩
  refine qP (zc (zb (za (qa rfl rfl) rfl (zd (zc (zV (decide ((r.Places.length : Int) < (r.Places.length : Int))) (decide_eq_false (by omega)) rfl (ql rfl ?_)))))))
  refine zb (za (qO rfl rfl) rfl (za (zf (v := iV ((s + 1 : Nat) : Int)) (congrArg iV (yQ (by omega)))) rfl (zd ?_)))
  exact ⟨_, G3, zi _ _ ⟨rfl, rfl, rfl, rfl, rfl, trivial⟩, le3, hS, hO⟩
 rintro F w ⟨Fb, G, rfl, le, hS, hO⟩
 refine qP (zc (zb (za (qa rfl rfl) rfl (zd (zc (zV (decide ((S : Int) < (S : Int))) (decide_eq_false (by omega)) rfl (ql rfl ?_)))))))
 refine zc (zb (za (ze (v := .bool true) rfl) rfl (zd (zH ?_))))
 exact ⟨rfl, hS.below⟩
end Go.Proofs.YtcapocmenjcnhaaGreatDoor
/-
 The reef: truths, tested; plans as numbers (plain).
-/
namespace Go.Proofs.YtcapocmenjcnhaaGreatDoor
open Go.RowKit
theorem ztp {r : qz} {l : List Nat} {t : qT} {S : Nat} (h : ReefOk r) (hS : r.Seasons = (S : Int)) (hp : xk r l) : ∃ b, f11 r (yj l) t = some b ∧ (b = true → TruthIn r l t) := by
 obtain ⟨ho, h1, m0, m1, _, h4⟩ := h
 have hm := ho.many
 have h16 : 2 ^ r.Places.length ≤ 16 := Nat.le_trans (Nat.pow_le_pow_right (by decide) hm) (by decide)
 have hlS : l.length = S := by have := hp.1; omega
 unfold f11
 by_cases g1 : ¬ ((t.Starts.length : Int) = (r.Places.length : Int))
 ·rw [if_pos (by simpa using g1)]; exact ⟨false, rfl, fun h => by cases h⟩
 have g1 := Decidable.not_not.1 g1
 rw [if_neg (by simpa using g1)]
 by_cases g2 : ¬ ((t.Grows.length : Int) = r.Seasons)
 ·rw [if_pos (by simpa using g2)]; exact ⟨false, rfl, fun h => by cases h⟩
 have g2 := Decidable.not_not.1 g2
 rw [if_neg (by simpa using g2), Option.bind_some]
 by_cases g3 : ¬ ((t.Takes.length : Int) = r.Seasons)
 ·rw [if_pos (by simpa using g3)]; exact ⟨false, rfl, fun h => by cases h⟩
 have g3 := Decidable.not_not.1 g3
 rw [if_neg (by simpa using g3)]
 have st : ∃ q, lp (zdQ r t) 0 = some q ∧ (q = .inr false ∨ (q = .inl () ∧ ∀ (i : Nat) p x, r.Places[i]? = some p → t.Starts[i]? = some x → p.Count ≤ x ∧ x ≤ p.Count + (p.Count * r.Miss).tdiv 1000)) := by
  have hh := ze8 (body := zdQ r t) r.Places (fun i p => decide (p.Count ≤ t.Starts.getD i 0 ∧ t.Starts.getD i 0 ≤ p.Count + (p.Count * r.Miss).tdiv 1000)) (.inr false) (.inl ()) (fun k => (k : Int)) (fun k y hy => by
   have hk := jC hy
   have hy2 := ho.each k y hy
   unfold zdQ
   rw [if_pos (by rw [ofNat_lt]; simpa using hk), zcZ (Y := t.Starts) (i := k) (by omega), Option.bind_some, qm, hy, Option.bind_some, zxv ⟨by omega, by omega⟩ ⟨m0, m1⟩, Option.bind_some, zhI, Option.bind_some, wrap_in ⟨by omega, by omega⟩]
   cases decide (y.Count ≤ t.Starts.getD k 0 ∧ t.Starts.getD k 0 ≤ y.Count + (y.Count * r.Miss).tdiv 1000) <;> rfl) (by
   unfold zdQ
   rw [if_neg (by simp)])
  refine ⟨_, hh, ?_⟩
  by_cases ha : zdb (fun i p => decide (p.Count ≤ t.Starts.getD i 0 ∧ t.Starts.getD i 0 ≤ p.Count + (p.Count * r.Miss).tdiv 1000)) 0 r.Places = true
  ·rw [if_pos ha]
   refine .inr ⟨rfl, fun i p x hpi hx => ?_⟩
   rw [vW] at ha
   have := of_decide_eq_true (ha i p hpi)
   rw [Nat.zero_add, List.getD_eq_getElem?_getD, hx] at this
   exact this
  ·rw [if_neg ha]; exact .inl rfl
 obtain ⟨q, hq, hh⟩ := st
 rw [hq, Option.bind_some]
 rcases hh with rfl | ⟨rfl, hst⟩
 ·exact ⟨false, rfl, fun h => by cases h⟩
 rw [Sum.elim_inl]
 have inner : ∀ s g k, s < S → t.Grows[s]? = some g → t.Takes[s]? = some k → g.length = r.Places.length → k.length = r.Places.length → ∃ q, lp (zdO (s : Int) r (yj l) t) 0 = some q ∧ (q = .inr false ∨ (q = .inl () ∧ ∀ (i : Nat) p y z, r.Places[i]? = some p → g[i]? = some y → k[i]? = some z → (p.Grow.Low ≤ y ∧ y ≤ p.Grow.High) ∧ (if yZ (l.getD s 0) i then p.Shut.Low else p.Open.Low) ≤ z ∧ z ≤ (if yZ (l.getD s 0) i then p.Shut.High else p.Open.High))) := by
  intro s g k hs hg hk gl kl
  have hsl : s < l.length := by omega
  have hqs := zbt hp.2 hsl
  have hh := ze8 (body := zdO (s : Int) r (yj l) t) r.Places (fun i p => decide (p.Grow.Low ≤ g.getD i 0 ∧ g.getD i 0 ≤ p.Grow.High) && decide ((if yZ (l.getD s 0) i = true then p.Shut else p.Open).Low ≤ k.getD i 0 ∧ k.getD i 0 ≤ (if yZ (l.getD s 0) i = true then p.Shut else p.Open).High)) (.inr false) (.inl ()) (fun k => (k : Int)) (fun i p hi => by
   have hil := jC hi
   unfold zdO
   rw [if_pos (by rw [ofNat_lt]; simpa using hil)]
   simp only [qm (xs := t.Grows), qm (xs := t.Takes), qm (xs := r.Places), qm (xs := yj l), hg, hk, hi, kY hsl, Option.bind_some, zcZ (Y := g) (i := i) (by omega), zcZ (Y := k) (i := i) (by omega), zxt, zxs, zjR (show l.getD s 0 ≤ 1000 by omega) (show i ≤ 1000 by omega)]
   rw [wrap_in (n := (i : Int) + 1) ⟨by omega, by omega⟩]
   cases decide (p.Grow.Low ≤ g.getD i 0 ∧ g.getD i 0 ≤ p.Grow.High) with
   | false => rfl
   | true =>
    cases decide ((if yZ (l.getD s 0) i = true then p.Shut else p.Open).Low ≤ k.getD i 0 ∧ k.getD i 0 ≤ (if yZ (l.getD s 0) i = true then p.Shut else p.Open).High) <;> rfl) (by
   unfold zdO
   rw [if_neg (by simp)])
  refine ⟨_, hh, ?_⟩
  by_cases ha : zdb (fun i p => decide (p.Grow.Low ≤ g.getD i 0 ∧ g.getD i 0 ≤ p.Grow.High) && decide ((if yZ (l.getD s 0) i = true then p.Shut else p.Open).Low ≤ k.getD i 0 ∧ k.getD i 0 ≤ (if yZ (l.getD s 0) i = true then p.Shut else p.Open).High)) 0 r.Places = true
  ·rw [if_pos ha]
   refine .inr ⟨rfl, fun i p y z hpi hy hz => ?_⟩
   rw [vW] at ha
   have := ha i p hpi
   have e1 : g.getD i 0 = y := by rw [List.getD_eq_getElem?_getD, hy]; rfl
   have e2 : k.getD i 0 = z := by rw [List.getD_eq_getElem?_getD, hz]; rfl
   rw [Nat.zero_add, e1, e2, Bool.and_eq_true] at this
   have q1 := of_decide_eq_true this.1
   have q2 := of_decide_eq_true this.2
   refine ⟨q1, ?_⟩
   cases hb : yZ (l.getD s 0) i with
   | true => rw [hb] at q2; simpa using q2
   | false => rw [hb] at q2; simpa using q2
  ·rw [if_neg ha]; exact .inl rfl
 have se : ∃ q, lp (zdP r (yj l) t) 0 = some q ∧ (q = .inr false ∨ (q = .inl () ∧ ∀ (s : Nat) g k, t.Grows[s]? = some g → t.Takes[s]? = some k → g.length = r.Places.length ∧ k.length = r.Places.length ∧
   ∀ (i : Nat) p y z, r.Places[i]? = some p → g[i]? = some y → k[i]? = some z → (p.Grow.Low ≤ y ∧ y ≤ p.Grow.High) ∧ (if yZ (l.getD s 0) i then p.Shut.Low else p.Open.Low) ≤ z ∧ z ≤ (if yZ (l.getD s 0) i then p.Shut.High else p.Open.High))) := by
  have go : ∀ (m s : Nat), s + m = S → ∃ q, lp (zdP r (yj l) t) (s : Int) = some q ∧ (q = .inr false ∨ (q = .inl () ∧ ∀ (s' : Nat) g k, s ≤ s' → t.Grows[s']? = some g → t.Takes[s']? = some k → g.length = r.Places.length ∧ k.length = r.Places.length ∧
   ∀ (i : Nat) p y z, r.Places[i]? = some p → g[i]? = some y → k[i]? = some z → (p.Grow.Low ≤ y ∧ y ≤ p.Grow.High) ∧ (if yZ (l.getD s' 0) i then p.Shut.Low else p.Open.Low) ≤ z ∧ z ≤ (if yZ (l.getD s' 0) i then p.Shut.High else p.Open.High))) := by
   intro m
   induction m with
   | zero =>
    intro s hs
    refine ⟨.inl (), ?_, .inr ⟨rfl, fun s' g k hs' hg => ?_⟩⟩
    ·rw [zbU]
     unfold zdP
     rw [if_neg (by rw [hS]; simp; omega)]
    ·have := jC hg; omega
   | succ m ih =>
    intro s hs
    obtain ⟨q', hq', hh'⟩ := ih (s + 1) (by omega)
    have hg := List.getElem?_eq_getElem (l := t.Grows) (i := s) (by omega)
    have hk := List.getElem?_eq_getElem (l := t.Takes) (i := s) (by omega)
    rw [zbU]
    unfold zdP
    rw [if_pos (by rw [hS]; simp; omega), qm, hg, Option.bind_some]
    by_cases l1 : ¬ ((((t.Grows[s]'(by omega)).length : Nat) : Int) = (r.Places.length : Int))
    ·rw [if_pos (by simpa using l1)]; exact ⟨.inr false, rfl, .inl rfl⟩
    have l1 := Decidable.not_not.1 l1
    rw [if_neg (by simpa using l1), qm, hk, Option.bind_some, Option.bind_some]
    by_cases l2 : ¬ ((((t.Takes[s]'(by omega)).length : Nat) : Int) = (r.Places.length : Int))
    ·rw [if_pos (by simpa using l2)]; exact ⟨.inr false, rfl, .inl rfl⟩
    have l2 := Decidable.not_not.1 l2
    rw [if_neg (by simpa using l2)]
    obtain ⟨q2, hq2, hh2⟩ := inner s _ _ (by omega) hg hk (by omega) (by omega)
    rw [hq2, Option.bind_some]
    rcases hh2 with rfl | ⟨rfl, hin⟩
    ·exact ⟨.inr false, rfl, .inl rfl⟩
    rw [Sum.elim_inl, wrap_in ⟨by omega, by omega⟩]
    refine ⟨q', hq', hh'.imp id fun ⟨e, hh⟩ => ⟨e, fun s' g k hs' hg' hk' => ?_⟩⟩
    by_cases e2 : s' = s
    ·subst e2
     rw [hg] at hg'
     rw [hk] at hk'
     cases hg'
     cases hk'
     exact ⟨by omega, by omega, hin⟩
    ·exact hh s' g k (by omega) hg' hk'
  obtain ⟨q, hq, hh⟩ := go S 0 (by omega)
  exact ⟨q, hq, hh.imp id fun ⟨e, hh⟩ => ⟨e, fun s g k => hh s g k (Nat.zero_le _)⟩⟩
 obtain ⟨q2, hq2, hh2⟩ := se
 rw [hq2, Option.bind_some]
 rcases hh2 with rfl | ⟨rfl, hse⟩
 ·exact ⟨false, rfl, fun h => by cases h⟩
 ·exact ⟨true, rfl, fun _ => ⟨by omega, g2, g3, hst, hse⟩⟩
def zdS (P S a : Nat) : List Nat := (List.range S).map (digN P S a)
theorem zeV (P S a : Nat) : jM P S a = yj (zdS P S a) := by unfold jM yj zdS; rw [List.map_map]; rfl
theorem zvr {r : qz} {P S a : Nat} (hP : r.Places.length = P) (hS : r.Seasons = (S : Int)) : xk r (zdS P S a) := by
 refine ⟨by simp [zdS, hS], fun q hq => ?_⟩
 obtain ⟨s, _, rfl⟩ := List.mem_map.1 hq
 rw [hP]
 exact Nat.mod_lt _ (Nat.pos_of_ne_zero (by simp))
theorem zsz {P S : Nat} (hS : 1 ≤ S ∧ S ≤ 2) {l : List Nat} (hl : l.length = S) (hq : ∀ q ∈ l, q < 2 ^ P) : ∃ a, a < 2 ^ (P * S) ∧ zdS P S a = l := by
 have : S = 1 ∨ S = 2 := by omega
 have hpos : 0 < 2 ^ P := Nat.pos_of_ne_zero (by simp)
 rcases this with rfl | rfl
 ·match l, hl with
  | [q], _ =>
   have hq0 := hq q (by simp)
   refine ⟨q, by simpa using hq0, ?_⟩
   show [digN P 1 q 0] = [q]
   unfold digN
   simp [Nat.mod_eq_of_lt hq0]
 ·match l, hl with
  | [q, u], _ =>
   have hq0 := hq q (by simp)
   have hu0 := hq u (by simp)
   refine ⟨q * 2 ^ P + u, ?_, ?_⟩
   ·rw [Nat.mul_comm P 2, Nat.two_mul, Nat.pow_add]
    have := Nat.mul_le_mul_right (2 ^ P) (show q + 1 ≤ 2 ^ P by omega)
    rw [Nat.add_mul, Nat.one_mul] at this
    omega
   ·show [digN P 2 (q * 2 ^ P + u) 0, digN P 2 (q * 2 ^ P + u) 1] = [q, u]
    have e0 : digN P 2 (q * 2 ^ P + u) 0 = q := by
     unfold digN
     rw [show P * (2 - 1 - 0) = P by simp, Nat.add_comm, Nat.add_mul_div_right _ _ hpos, Nat.div_eq_of_lt hu0, Nat.zero_add, Nat.mod_eq_of_lt hq0]
    have e1 : digN P 2 (q * 2 ^ P + u) 1 = u := by
     unfold digN
     rw [show P * (2 - 1 - 1) = 0 by simp, Nat.pow_zero, Nat.div_one, Nat.add_comm, Nat.add_mul_mod_self_right, Nat.mod_eq_of_lt hu0]
    rw [e0, e1]
end Go.Proofs.YtcapocmenjcnhaaGreatDoor
/-
 The best plan of a reef: what is found, as a law of plans.
-/
namespace Go.Proofs.YtcapocmenjcnhaaGreatDoor
open Go.RowKit
set_option maxRecDepth 20000
def vD (r : qz) (S : Nat) (l : List Nat) : Option (Nat × Int) := kC r.Places (qn r.Places (jI r.Places S) (jH (fun s => jz r.Places (l.getD s 0)) S) (r.Places.map (·.Count)) S) 0
theorem zfH (P S a : Nat) : (zdS P S a).length = S := by simp [zdS]
theorem zc5 {r : qz} {l : List Nat} {S : Nat} (hs : r.Seasons = (S : Int)) (hp : xk r l) : l.length = S := by have := hp.1; omega
section
variable {G0 : Gm} {w0 : World} {a1 a2 a3 a4 a5 : Option Addr} {n1 c1 n2 c2 m3 c3 m4 c4 m5 c5 S : Nat} {r : qz} {l : List Nat}
theorem zvA (hS0 : Sat G0 w0) (h1 : RSl zE 12 G0 a1 n1 c1 r.Places) (h : ReefOk r) (h24 : f24 r = some true) (hs : r.Seasons = (S : Int)) (h3 : r.Places.length ≤ 3) (hS2 : S ≤ 2) :
  Calls Tryz.prog 7 [.agg #[.slice a1 n1 c1, iV r.Miss, iV r.Seasons]].toArray w0 (yP G0 w0 (fun G v => (∃ l ra rn rc, xk r l ∧ vD r S l = none ∧ (∀ m, xk r m → vD r S m = none → z9 r.Places l S ≤ z9 r.Places m S) ∧ v = .tuple #[.slice ra rn rc, iV (z9 r.Places l S), iV 0] ∧ RSl zW 1 G ra rn rc (yj l)) ∨ ((∀ m, xk r m → vD r S m ≠ none) ∧ v = .tuple #[.slice none 0 0, iV 0, iV 5]))) := by
 have h1S : 1 ≤ S := by have := h.2.2.2.2.1; omega
 have h1P : 1 ≤ r.Places.length := h.2.1
 have hw := h.worth
 have hd : ∀ a, xk r (zdS r.Places.length S a) := fun a => zvr rfl hs
 have onto : ∀ m, xk r m → ∃ a, a < 2 ^ (r.Places.length * S) ∧ zdS r.Places.length S a = m := fun m hm => zsz ⟨h1S, hS2⟩ (zc5 hs hm) hm.2
 refine (zyG (P := r.Places.length) (S := S) (tk := fun a s => jz r.Places ((zdS r.Places.length S a).getD s 0)) (lk := fun a => vD r S (zdS r.Places.length S a)) (cost := fun a => z9 r.Places (zdS r.Places.length S a) S) hS0 h1 h24 hs rfl ⟨h1P, h3⟩ ⟨h1S, hS2⟩ (fun a _ s hsS => ⟨?_, ?_⟩) (fun a _ => zjt h hs) (fun a _ => rfl) (fun a _ => ?_)).mono ?_
 ·rw [zeV]
  exact zjM (by omega) (hd a).2 (by rw [zfH]; exact hsS)
 ·rw [yT]; omega
 ·rw [zeV, zxy hw (by omega) (by rw [zfH]; omega) (hd a), zfH]
 ·rintro e w' ⟨v, G', h2, h4, h5⟩
  refine ⟨v, G', h2, h4, h5.imp ?_ ?_⟩
  ·rintro ⟨a, ra, rn, rc, ha, hlk, hbest, rfl, hr⟩
   refine ⟨zdS r.Places.length S a, ra, rn, rc, hd a, hlk, fun m hm hlm => ?_, rfl, by rw [← zeV]; exact hr⟩
   obtain ⟨b, hb, rfl⟩ := onto m hm
   exact hbest b hb hlm
  ·rintro ⟨hno, rfl⟩
   refine ⟨fun m hm => ?_, rfl⟩
   obtain ⟨b, hb, rfl⟩ := onto m hm
   exact hno b hb
theorem zh6 (hS0 : Sat G0 w0) (h1 : RSl zE 12 G0 a1 n1 c1 r.Places) (h2 : RSl zW 1 G0 a2 n2 c2 (yj l)) (h : ReefOk r) (h24 : f24 r = some true) (hs : r.Seasons = (S : Int)) (hp : xk r l) :
  Calls Tryz.prog 88 [.agg #[.slice a1 n1 c1, iV r.Miss, iV r.Seasons], .slice a2 n2 c2].toArray w0 (qQ w0 (zhc (vD r S l))) := by
 have h1S : 1 ≤ S := by have := h.2.2.2.2.1; omega
 have h4S : S ≤ 4 := by have := h.2.2.2.2.2; omega
 have hl := zc5 hs hp
 have hm := h.1.many
 exact zxf (x := ⟨r, yj l⟩) (tk := fun s => jz r.Places (l.getD s 0)) hS0 h1 h2 hs h1S (fun s hsS => ⟨zjM hm hp.2 (by omega), by rw [yT]; omega⟩) (zjt h hs) (ziK h24 hm (by omega) hp)
theorem zt0 {t : qT} (hS0 : Sat G0 w0) (h1 : RSl zE 12 G0 a1 n1 c1 r.Places) (h2 : RSl zW 1 G0 a2 n2 c2 (yj l)) (h3 : RSl zW 1 G0 a3 m3 c3 t.Starts) (h4 : RSl (yd zW 1) 1 G0 a4 m4 c4 t.Grows) (h5 : RSl (yd zW 1) 1 G0 a5 m5 c5 t.Takes)
  (h : ReefOk r) (h24 : f24 r = some true) (hs : r.Seasons = (S : Int)) (hp : xk r l) (ht : TruthIn r l t) :
  Calls Tryz.prog 12 [.agg #[.slice a1 n1 c1, iV r.Miss, iV r.Seasons], .slice a2 n2 c2, .agg #[.slice a3 m3 c3, .slice a4 m4 c4, .slice a5 m5 c5]].toArray w0 (yP G0 w0 (fun G v => ∃ ra rn rc l0 l1 l2 l3 l4, v = .tuple #[.slice ra rn rc, .agg #[iV l0, iV l1, iV l2, iV l3, iV l4], iV 0] ∧ RSl (yd zW 1) 1 G ra rn rc (yk r.Places t.Grows t.Takes t.Starts S))) := by
 have h4S : S ≤ 4 := by have := h.2.2.2.2.2; omega
 have hl := zc5 hs hp
 exact zxD (x := ⟨r, yj l⟩) hS0 h1 h2 h3 h4 h5 hs (ht.ok h hs) (ziK h24 h.1.many (by omega) hp) fun G w le hS => zxq hS (h1.mono zl le) (h2.mono zm le) (h3.mono zm le) (h4.mono (zO zm) le) (h5.mono (zO zm) le) h hs hp ht
end
theorem zuh {r : qz} {l : List Nat} {t : qT} {S : Nat} (h : ReefOk r) (hs : r.Seasons = (S : Int)) (ht : TruthIn r l t) (hl : vD r S l = none) {j : Nat} {p : zr} {x : Int} (hp : r.Places[j]? = some p) (hx : (qn r.Places t.Grows t.Takes t.Starts S)[j]? = some x) : p.Goal ≤ x := by
 have hle := zgw h hs ht S (Nat.le_refl _)
 have hlen : r.Places.length = (qn r.Places (jI r.Places S) (jH (fun s => jz r.Places (l.getD s 0)) S) (r.Places.map (·.Count)) S).length := by rw [yY, List.length_map]
 have hj := jC hp
 have h0 := (zfd _ _ 0 hlen).1 hl j p _ hp (List.getElem?_eq_getElem (by omega))
 have h2 := hle.2 j (by omega)
 rw [List.getD_eq_getElem?_getD, List.getD_eq_getElem?_getD, hx, List.getElem?_eq_getElem (by omega)] at h2
 exact Int.le_trans h0 h2
theorem zqK {ps : List zr} {Gr Tk : List (List Int)} {X : List Int} {S : Nat} (hS : 1 ≤ S) : (yk ps Gr Tk X S).length = S ∧ (yk ps Gr Tk X S)[S - 1]? = some (qn ps Gr Tk X S) := by
 unfold yk
 refine ⟨by simp, ?_⟩
 rw [List.getElem?_map, List.getElem?_range (by omega), Option.map_some]
 congr 2
 omega
end Go.Proofs.YtcapocmenjcnhaaGreatDoor
