/-
 The cooling system's small functions in closed form (plain).
-/
import Derived.Test.YtihedfkcccaonaaGreatDoorXy
import Derived.Test.YtihedfkcccaonaaGreatDoorGx
import Derived.Laws.RangeString
import Derived.Test.YtihedfkcccaonaaGreatDoorGy
import Derived.Test.YtihedfkcccaonaaGreatDoorKnF
namespace Go.Proofs.YtihedfkcccaonaaGreatDoor
set_option maxRecDepth 20000
theorem zaO (a b c : Int) : f76 a b c = some (decide (b ≤ a ∧ a ≤ c)) := by
 unfold f76
 by_cases h : b ≤ a
 ·rw [if_pos (decide_eq_true h)]; simp [h]
 ·rw [if_neg (by simp [h])]; simp [h]
theorem zpE (a b c : Int) : f19 a b c = some (decide (b ≤ a ∧ a ≤ c)) := zaO a b c
theorem zbF {a lo hi : Int} {X : Option Bool} {R : Prop} (h : ∃ b, X = some b ∧ (b = true → R)) : ∃ b, ((f76 a lo hi).bind fun y => if y = true then X else some false) = some b ∧ (b = true → (lo ≤ a ∧ a ≤ hi) ∧ R) := by
 rw [zaO, Option.bind_some]
 by_cases hc : lo ≤ a ∧ a ≤ hi
 ·obtain ⟨b, h1, h2⟩ := h
  rw [if_pos (decide_eq_true hc)]
  exact ⟨b, h1, fun e => ⟨hc, h2 e⟩⟩
 ·rw [if_neg (by simpa using hc)]
  exact ⟨false, rfl, fun h => by cases h⟩
theorem ztA (p q : Int) : ∃ b, f5 p q = some b ∧ (b = true ↔ (0 ≤ p ∧ p ≤ 12) ∧ 0 ≤ q ∧ q ≤ 8) := by
 unfold f5
 rw [zpE, zpE]
 by_cases h1 : 0 ≤ p ∧ p ≤ 12
 ·rw [Option.bind_some, if_pos (decide_eq_true h1), Option.bind_some, Option.bind_some]
  refine ⟨_, rfl, ?_⟩
  rw [decide_eq_true_iff]
  exact ⟨fun h => ⟨h1, h⟩, fun h => h.2⟩
 ·rw [Option.bind_some, if_neg (by simpa using h1)]
  exact ⟨false, rfl, fun h => absurd h (by decide), fun h => absurd h.1 h1⟩
theorem zx2 {x : zn} (hc : CostOk x) {p q : Int} (hp : 0 ≤ p ∧ p ≤ 12) (hq : 0 ≤ q ∧ q ≤ 8) : f8 x p q = some (keyC x (p, q)) := by
 obtain ⟨⟨m1, m2⟩, m3, m4⟩ := hc.mul (s := (p, q)) hp hq
 simp only at m1 m2 m3 m4
 unfold f8 keyC
 rw [qt (n := p * x.Panel) ⟨by omega, by omega⟩, qt (n := q * x.Battery) ⟨by omega, by omega⟩, qt ⟨by omega, by omega⟩]
def zfJ (l : zE) : Prop := (0 ≤ l.Need ∧ l.Need ≤ 1000000) ∧ 0 ≤ l.Keep ∧ l.Keep ≤ 1000000
theorem zvY (l : zE) : ∃ b, f78 l = some b ∧ (b = false → zfJ l) := by
 unfold f78
 rw [zaO, zaO]
 by_cases h1 : 0 ≤ l.Need ∧ l.Need ≤ 1000000
 ·rw [Option.bind_some, if_neg (by simp [h1]), Option.bind_some, Option.bind_some]
  exact ⟨_, rfl, fun e => ⟨h1, by simpa using e⟩⟩
 ·rw [Option.bind_some, if_pos (by rw [decide_eq_false h1]; rfl)]
  exact ⟨true, rfl, fun h => by cases h⟩
theorem zv0 (ls : List zE) (hl : ls.length ≤ 1000) : ∃ b, f77 ls (fun z0 : zE => f78 z0) = some b ∧ (b = false → ∀ l ∈ ls, zfJ l) := by
 have key : ∀ (m k : Nat), k + m = ls.length → ∃ q, lp (zbf ls (fun z0 : zE => f78 z0)) (k : Int) = some q ∧ ((q = .inl () ∧ ∀ i (h : i < ls.length), k ≤ i → zfJ ls[i]) ∨ ∃ j : Nat, q = .inr (j : Int)) := by
  intro m
  induction m with
  | zero =>
   intro k hk
   rw [yR]
   unfold zbf
   rw [if_neg (by simp; omega)]
   exact ⟨_, rfl, .inl ⟨rfl, fun i h h2 => by omega⟩⟩
  | succ m ih =>
   intro k hk
   rw [yR]
   unfold zbf
   have hlt : k < ls.length := by omega
   rw [if_pos (by simp; omega), yo hlt, Option.bind_some]
   obtain ⟨b, h1, h2⟩ := zvY ls[k]
   rw [show (fun z0 : zE => f78 z0) ls[k] = some b from h1, Option.bind_some]
   cases b with
   | true => rw [if_pos rfl]; exact ⟨_, rfl, .inr ⟨k, rfl⟩⟩
   | false =>
    rw [if_neg (by decide), xS (by omega)]
    obtain ⟨q, q1, q2⟩ := ih (k + 1) (by omega)
    refine ⟨q, q1, q2.imp (fun ⟨e, h⟩ => ⟨e, fun i hi hki => ?_⟩) id⟩
    rcases Nat.lt_or_ge k i with h' | h'
    ·exact h i hi h'
    ·obtain rfl : i = k := by omega
     exact h2 rfl
 obtain ⟨q, q1, q2⟩ := key ls.length 0 (by omega)
 unfold f77 zsx
 rw [show lp (zbf ls (fun z0 : zE => f78 z0)) 0 = some q from q1]
 rcases q2 with ⟨rfl, h⟩ | ⟨j, rfl⟩
 ·exact ⟨false, rfl, fun _ l hl => by obtain ⟨i, hi, rfl⟩ := List.mem_iff_getElem.1 hl; exact h i hi (Nat.zero_le _)⟩
 ·exact ⟨true, by show some (decide (0 ≤ (j : Int))) = _; rw [decide_eq_true (by omega)], fun h => by cases h⟩
def SyOk (x : zn) : Prop := (0 ≤ x.Sunny ∧ x.Sunny ≤ 1000000) ∧ (0 ≤ x.Cloudy ∧ x.Cloudy ≤ x.Sunny) ∧ (0 ≤ x.Size ∧ x.Size ≤ 1000000) ∧ (0 ≤ x.Fade ∧ x.Fade ≤ 1000) ∧ (0 ≤ x.Start ∧ x.Start ≤ 1000) ∧ (1 ≤ (x.Loads.length : Int) ∧ (x.Loads.length : Int) ≤ 5) ∧ (∀ l ∈ x.Loads, zfJ l) ∧ (1 ≤ x.Days ∧ x.Days ≤ 10) ∧ (1 ≤ x.Window ∧ x.Window ≤ x.Days) ∧ (0 ≤ x.Most ∧ x.Most ≤ x.Window) ∧ (0 ≤ x.Panel ∧ x.Panel ≤ 1000000) ∧ 0 ≤ x.Battery ∧ x.Battery ≤ 1000000
theorem zyN {x : zn} (hl : x.Loads.length ≤ 1000) {X : Option Bool} {R : Prop} (h : ∃ b, X = some b ∧ (b = true → R)) : ∃ b, ((f77 x.Loads (fun z0 : zE => f78 z0)).bind fun y => if (!y) = true then X else some false) = some b ∧ (b = true → (∀ l ∈ x.Loads, zfJ l) ∧ R) := by
 obtain ⟨c, h1, h2⟩ := zv0 x.Loads hl
 rw [h1, Option.bind_some]
 cases c with
 | true => exact ⟨false, rfl, fun h => by cases h⟩
 | false =>
  obtain ⟨b, h3, h4⟩ := h
  exact ⟨b, h3, fun e => ⟨h2 rfl, h4 e⟩⟩
theorem zwc (x : zn) (hl : x.Loads.length ≤ 1000) : ∃ b, f26 x = some b ∧ (b = true → SyOk x) := by
 have last : ∃ b, ((f76 x.Battery 0 1000000).bind fun y => some y) = some b ∧ (b = true → 0 ≤ x.Battery ∧ x.Battery ≤ 1000000) := by
  rw [zaO, Option.bind_some]
  exact ⟨_, rfl, fun e => of_decide_eq_true e⟩
 obtain ⟨b, h1, h2⟩ := zbF (a := x.Sunny) (lo := 0) (hi := 1000000) (zbF (a := x.Cloudy) (lo := 0) (hi := x.Sunny) (zbF (a := x.Size) (lo := 0) (hi := 1000000) (zbF (a := x.Fade) (lo := 0) (hi := 1000) (zbF (a := x.Start) (lo := 0) (hi := 1000) (zbF (a := (x.Loads.length : Int)) (lo := 1) (hi := 5) (zyN hl (zbF (a := x.Days) (lo := 1) (hi := 10) (zbF (a := x.Window) (lo := 1) (hi := x.Days) (zbF (a := x.Most) (lo := 0) (hi := x.Window) (zbF (a := x.Panel) (lo := 0) (hi := 1000000) last))))))))))
 refine ⟨b, ?_, h2⟩
 unfold f26
 rw [h1]
 rfl
theorem zsI (x : zn) (hl : x.Loads.length ≤ 1000) : ∃ e, zhF x = some e ∧ (e = 0 → f26 x = some true ∧ SyOk x) := by
 obtain ⟨b, h1, h2⟩ := zwc x hl
 unfold zhF
 rw [h1, Option.bind_some]
 cases b with
 | false => exact ⟨2, rfl, fun h => by cases h⟩
 | true => exact ⟨0, rfl, fun _ => ⟨rfl, h2 rfl⟩⟩
theorem SyOk.cost {x : zn} (h : SyOk x) : CostOk x := ⟨h.2.2.2.2.2.2.2.2.2.2.1, h.2.2.2.2.2.2.2.2.2.2.2⟩
theorem zqZ {n : Nat} (h : n ≤ 5) : zmp .i64 1 (n : Int) = some ((2 ^ n : Nat) : Int) := by
 have : n = 0 ∨ n = 1 ∨ n = 2 ∨ n = 3 ∨ n = 4 ∨ n = 5 := by omega
 rcases this with rfl | rfl | rfl | rfl | rfl | rfl <;> decide
theorem ziS {x : zn} (h26 : f26 x = some true) (h : SyOk x) {p q : Int} (hp : 0 ≤ p ∧ p ≤ 12) (hq : 0 ≤ q ∧ q ≤ 8) : f37 x ⟨p, q⟩ 0 = some true := by
 have hl := h.2.2.2.2.2.1
 have hpw : 1 ≤ 2 ^ x.Loads.length ∧ 2 ^ x.Loads.length ≤ 2 ^ 5 := ⟨Nat.one_le_two_pow, Nat.pow_le_pow_right (by decide) (by omega)⟩
 unfold f37
 rw [h26, Option.bind_some, if_pos rfl, zaO, Option.bind_some, if_pos (decide_eq_true hp), zaO, Option.bind_some, if_pos (decide_eq_true hq), zqZ (by omega), Option.bind_some, zaO, qt ⟨by omega, by omega⟩, Option.bind_some, Option.bind_some, decide_eq_true (by omega)]
theorem kD {n : Nat} (h : n ≤ 100000) : IntKind.i64.wrap (n : Int) = (n : Int) := qt ⟨by omega, by omega⟩
def cntC (w : List UInt8) : Nat → Nat → Nat
 | _, 0 => 0
 | i, m + 1 => (if w[i]? = some 99 then 1 else 0) + cntC w (i + 1) m
theorem zi2 (w : List UInt8) (f W : Nat) : ∀ m i, i + m ≤ W → cntC ((w.drop f).take W) i m = cntC w (f + i) m
 | 0, _, _ => rfl
 | m + 1, i, h => by
  have ih := zi2 w f W m (i + 1) (by omega)
  show (if ((w.drop f).take W)[i]? = some 99 then 1 else 0) + cntC ((w.drop f).take W) (i + 1) m = (if w[f + i]? = some 99 then 1 else 0) + cntC w (f + i + 1) m
  have e : ((w.drop f).take W)[i]? = w[f + i]? := by rw [List.getElem?_take, if_pos (show i < W by omega), List.getElem?_drop]
  rw [ih, e, Nat.add_assoc]
def Letters (w : List UInt8) : Prop := ∀ c ∈ w, c = 115 ∨ c = 99
theorem zx5 {y : UInt8} : ((y.toNat : Int) == 99) = decide (y = 99) := by
 rw [show ((y.toNat : Int) == 99) = decide ((y.toNat : Int) = 99) from rfl]
 congr 1
 exact propext ⟨fun h => UInt8.toNat_inj.1 (show y.toNat = 99 by omega), fun h => by rw [h]; rfl⟩
section
variable {x : zn} {w : List UInt8} {W : Nat}
theorem zpN (hW : x.Window = (W : Int)) {f : Nat} (hf : f + W ≤ w.length) (hl : w.length ≤ 1000) : ∀ (m i n : Nat), i + m = f + W → n ≤ i → lp (zaS (f : Int) x w) ((n : Int), (i : Int)) = some ((n + cntC w i m : Nat) : Int)
 | 0, i, n, h, hn => by
  rw [yR]
  unfold zaS
  rw [hW, show ((f : Int) + (W : Int)) = ((f + W : Nat) : Int) by omega, kD (by omega)]
  rw [if_neg (by simp; omega)]
  rfl
 | m + 1, i, n, h, hn => by
  have ih := zpN hW hf hl m (i + 1)
  have hi : i < w.length := by omega
  rw [yR]
  conv => lhs; unfold zaS
  simp only [hW]
  rw [show ((f : Int) + (W : Int)) = ((f + W : Nat) : Int) by omega, kD (by omega), if_pos (by simp; omega), yo hi, Option.bind_some, zx5]
  by_cases hc : w[i] = 99
  ·rw [if_pos (decide_eq_true hc), Option.bind_some, xS (by omega), xS (by omega)]
   have := ih (n + 1) (by omega) (by omega)
   unfold zaS at this
   simp only [hW] at this
   rw [show ((f : Int) + (W : Int)) = ((f + W : Nat) : Int) by omega, kD (by omega)] at this
   simp only
   rw [this]
   congr 2
   rw [show cntC w i (m + 1) = (if w[i]? = some 99 then 1 else 0) + cntC w (i + 1) m from rfl, List.getElem?_eq_getElem hi, hc, if_pos rfl]
   omega
  ·rw [if_neg (by simpa using hc), Option.bind_some, xS (by omega)]
   have := ih n (by omega) (by omega)
   unfold zaS at this
   simp only [hW] at this
   rw [show ((f : Int) + (W : Int)) = ((f + W : Nat) : Int) by omega, kD (by omega)] at this
   simp only
   rw [this]
   congr 2
   rw [show cntC w i (m + 1) = (if w[i]? = some 99 then 1 else 0) + cntC w (i + 1) m from rfl, List.getElem?_eq_getElem hi, if_neg (by simpa using hc)]
   omega
theorem zpO (hW : x.Window = (W : Int)) (hW1 : 1 ≤ W) (hW2 : W ≤ 1000) (hl : w.length ≤ 1000) : ∃ b, f13 x w = some b ∧ (b = true → ∀ f, f + W ≤ w.length → (cntC w f W : Int) ≤ x.Most) := by
 have key : ∀ (m f : Nat), f + m = w.length + 1 → ∃ q, lp (vY x w) (f : Int) = some q ∧ ((q = .inl () ∧ ∀ g, f ≤ g → g + W ≤ w.length → (cntC w g W : Int) ≤ x.Most) ∨ q = .inr false) := by
  intro m
  induction m with
  | zero =>
   intro f h
   rw [yR]
   conv => enter [1, q, 1]; unfold vY
   rw [hW, show ((f : Int) + (W : Int)) = ((f + W : Nat) : Int) by omega, kD (by omega), if_neg (by simp; omega)]
   exact ⟨_, rfl, .inl ⟨rfl, fun g h1 h2 => by omega⟩⟩
  | succ m ih =>
   intro f h
   rw [yR]
   by_cases hf : f + W ≤ w.length
   ·have e : vY x w (f : Int) = (if x.Most < (cntC w f W : Int) then some (.inr (.inr false)) else some (.inl ((f + 1 : Nat) : Int))) := by
     unfold vY
     rw [hW, show ((f : Int) + (W : Int)) = ((f + W : Nat) : Int) by omega, kD (by omega), if_pos (by simp; omega)]
     have := zpN hW hf hl W f 0 rfl (Nat.zero_le _)
     rw [show lp (zaS (f : Int) x w) (0, (f : Int)) = some ((0 + cntC w f W : Nat) : Int) from this, Option.bind_some, Nat.zero_add, xS (by omega)]
     simp
    rw [e]
    split
    ·rename_i h2
     split at h2
     ·cases h2
     ·cases h2
    ·rename_i s' h2
     split at h2
     ·cases h2
     ·rename_i hm
      cases h2
      obtain ⟨q, q1, q2⟩ := ih (f + 1) (by omega)
      refine ⟨q, q1, q2.imp (fun ⟨e, h⟩ => ⟨e, fun g g1 g2 => ?_⟩) id⟩
      rcases Nat.lt_or_ge f g with h' | h'
      ·exact h g h' g2
      ·obtain rfl : g = f := by omega
       omega
    ·rename_i q h2
     split at h2
     ·cases h2
      exact ⟨_, rfl, .inr rfl⟩
     ·cases h2
   ·have e : vY x w (f : Int) = some (.inr (.inl ())) := by
     unfold vY
     rw [hW, show ((f : Int) + (W : Int)) = ((f + W : Nat) : Int) by omega, kD (by omega), if_neg (by simp; omega)]
    rw [e]
    exact ⟨_, rfl, .inl ⟨rfl, fun g h1 h2 => by omega⟩⟩
 obtain ⟨q, q1, q2⟩ := key (w.length + 1) 0 (by omega)
 unfold f13
 rw [show lp (vY x w) 0 = some q from q1, Option.bind_some]
 rcases q2 with ⟨rfl, h⟩ | rfl
 ·exact ⟨true, rfl, fun _ f hf => h f (Nat.zero_le _) hf⟩
 ·exact ⟨false, rfl, fun h => by cases h⟩
end
theorem zeg {y : List UInt8} {i : Nat} (hi : i < y.length) (h : y[i].toNat < 128) : xV y i = ((y[i].toNat : Int), 1) := by
 have e := Go.decode_ascii ⟨y.toArray⟩ i hi h
 unfold xV
 rw [e]
 rfl
theorem Letters.lt {w : List UInt8} (h : Letters w) {i : Nat} (hi : i < w.length) : w[i].toNat < 128 := by
 rcases h _ (List.getElem_mem hi) with e | e <;> rw [e] <;> decide
theorem Letters.sub {w : List UInt8} (h : Letters w) (f W : Nat) : Letters ((w.drop f).take W) := fun c hc => h c (List.mem_of_mem_drop (List.mem_of_mem_take hc))
theorem zlU {y : List UInt8} (hy : Letters y) (hl : y.length ≤ 1000) : ∀ (m i n : Nat), i + m = y.length → n ≤ i → lp (vX y) ((n : Int), i) = some (((n + cntC y i m : Nat) : Int), y.length)
 | 0, i, n, h, hn => by
  rw [yR]
  unfold vX
  rw [if_neg (by simp; omega)]
  simp only [cntC, Nat.add_zero]
  rw [show i = y.length by omega]
 | m + 1, i, n, h, hn => by
  have ih := zlU hy hl m (i + 1)
  have hi : i < y.length := by omega
  have e : vX y ((n : Int), i) = some (.inl (((n + (if y[i]? = some 99 then 1 else 0) : Nat) : Int), i + 1)) := by
   unfold vX
   simp only
   rw [if_pos (by simpa using hi), zeg hi (hy.lt hi)]
   simp only
   rw [zx5, List.getElem?_eq_getElem hi]
   by_cases hc : y[i] = 99
   ·rw [if_pos (decide_eq_true hc), hc, if_pos rfl, xS (by omega)]
   ·rw [if_neg (by simpa using hc), if_neg (by simpa using hc), Nat.add_zero]
    rfl
  rw [yR, e]
  simp only
  rw [ih _ (by omega) (by split <;> omega)]
  congr 2
  simp only [cntC]
  omega
theorem zlV {x : zn} {w : List UInt8} {W D : Nat} (hw : Letters w) (hW : x.Window = (W : Int)) (hD : x.Days = (D : Int)) (hW1 : 1 ≤ W) (hWD : W ≤ D) (hl : w.length = D) (hl2 : D ≤ 1000) : ∃ b, zks x w = some b ∧ ((∀ f, f + W ≤ D → (cntC w f W : Int) ≤ x.Most) → b = true) := by
 have key : ∀ (m f : Nat), f + m = D - W + 1 → ∃ q, lp (kU x w) (f : Int) = some q ∧ (q = .inl () ∨ (q = .inr false ∧ ∃ g, g + W ≤ D ∧ ¬ (cntC w g W : Int) ≤ x.Most)) := by
  intro m
  induction m with
  | zero =>
   intro f h
   have e : kU x w (f : Int) = some (.inr (.inl ())) := by
    unfold kU
    rw [hW, hD, show ((D : Int) - (W : Int)) = ((D - W : Nat) : Int) by omega, kD (by omega), xS (by omega), if_neg (by simp; omega)]
   rw [yR, e]
   exact ⟨_, rfl, .inl rfl⟩
  | succ m ih =>
   intro f h
   have hsub : zjE w (f : Int) ((f + W : Nat) : Int) = some ((w.drop f).take W) := by
    unfold zjE
    rw [if_pos ⟨by omega, by omega, by omega⟩]
    congr 2
    omega
   have hlen : ((w.drop f).take W).length = W := by simp; omega
   have e : kU x w (f : Int) = (if x.Most < (cntC w f W : Int) then some (.inr (.inr false)) else some (.inl ((f + 1 : Nat) : Int))) := by
    unfold kU
    rw [hW, hD, show ((D : Int) - (W : Int)) = ((D - W : Nat) : Int) by omega, kD (by omega), xS (by omega), if_pos (by simp; omega), show ((f : Int) + (W : Int)) = ((f + W : Nat) : Int) by omega, kD (by omega), hsub, Option.bind_some]
    have := zlU (hw.sub f W) (by omega) W 0 0 (by rw [hlen, Nat.zero_add]) (Nat.le_refl _)
    rw [show lp (vX ((w.drop f).take W)) (0, 0) = _ from this, Option.bind_some, Nat.zero_add, zi2 w f W W 0 (by omega), Nat.add_zero, xS (by omega)]
    simp
   rw [yR, e]
   by_cases hm : x.Most < (cntC w f W : Int)
   ·rw [if_pos hm]
    exact ⟨_, rfl, .inr ⟨rfl, f, by omega, by omega⟩⟩
   ·rw [if_neg hm]
    exact ih (f + 1) (by omega)
 obtain ⟨q, q1, q2⟩ := key (D - W + 1) 0 (by omega)
 unfold zks
 rw [show lp (kU x w) 0 = some q from q1, Option.bind_some]
 rcases q2 with rfl | ⟨rfl, g, h1, h2⟩
 ·exact ⟨true, rfl, fun _ => rfl⟩
 ·exact ⟨false, rfl, fun h => absurd (h g h1) h2⟩
theorem zdC : ∀ D s, Letters (wOf D s)
 | 0, _ => fun c hc => by cases hc
 | D + 1, s => fun c hc => by
  unfold wOf at hc
  rcases List.mem_cons.1 hc with rfl | hc
  ·split
   ·exact .inr rfl
   ·exact .inl rfl
  ·exact zdC D s c hc
theorem zkP : ∀ (D s E : Nat), D ≤ E → wOf D (s + 2 ^ E) = wOf D s
 | 0, _, _, _ => rfl
 | D + 1, s, E, h => by
  unfold wOf
  rw [zkP D s E (by omega)]
  have e : (s + 2 ^ E) / 2 ^ D % 2 = s / 2 ^ D % 2 := by
   obtain ⟨k, rfl⟩ : ∃ k, E = D + 1 + k := ⟨E - (D + 1), by omega⟩
   rw [show 2 ^ (D + 1 + k) = 2 ^ D * (2 * 2 ^ k) by rw [Nat.pow_add, Nat.pow_succ, Nat.mul_assoc], Nat.add_mul_div_left _ _ (Nat.two_pow_pos D)]
   omega
  rw [e]
theorem zhZ : ∀ (w : List UInt8), Letters w → ∃ s, s < 2 ^ w.length ∧ wOf w.length s = w
 | [], _ => ⟨0, by decide, rfl⟩
 | c :: w, h => by
  obtain ⟨s, h1, h2⟩ := zhZ w fun d hd => h d (by simp [hd])
  have hp : 2 ^ (w.length + 1) = 2 ^ w.length + 2 ^ w.length := by rw [Nat.pow_succ]; omega
  have h0 : s / 2 ^ w.length = 0 := Nat.div_eq_of_lt h1
  rcases h c (by simp) with rfl | rfl
  ·refine ⟨s, by rw [List.length_cons, hp]; omega, ?_⟩
   show _ :: wOf w.length s = _
   rw [h0, h2]
   rfl
  ·refine ⟨s + 2 ^ w.length, by rw [List.length_cons, hp]; omega, ?_⟩
   show _ :: wOf w.length (s + 2 ^ w.length) = _
   rw [zkP _ _ _ (Nat.le_refl _), h2, Nat.add_div_right _ (Nat.two_pow_pos _), h0]
   rfl
theorem zwj (x : zn) (w : List UInt8) (hl : w.length ≤ 1000) : ∃ b, f12 x w = some b ∧ (b = true → (w.length : Int) = x.Days ∧ Letters w) := by
 have key : ∀ (m k : Nat), k + m = w.length → ∃ q, lp (zaT w) (k : Int) = some q ∧ ((q = .inl () ∧ ∀ i (h : i < w.length), k ≤ i → w[i] = 115 ∨ w[i] = 99) ∨ q = .inr false) := by
  intro m
  induction m with
  | zero =>
   intro k hk
   have e : zaT w (k : Int) = some (.inr (.inl ())) := by
    unfold zaT
    rw [if_neg (by simp; omega)]
   rw [yR, e]
   exact ⟨_, rfl, .inl ⟨rfl, fun i h h2 => by omega⟩⟩
  | succ m ih =>
   intro k hk
   have hlt : k < w.length := by omega
   have ne : ∀ (y : UInt8) (c : Nat) (d : UInt8), d.toNat = c → ((y.toNat : Int) != (c : Int)) = decide (y ≠ d) := fun y c d hd => by
    rw [show ((y.toNat : Int) != (c : Int)) = !decide ((y.toNat : Int) = (c : Int)) from rfl, ← decide_not]
    congr 1
    exact propext ⟨fun h e => h (by rw [e, hd]), fun h e => h (UInt8.toNat_inj.1 (by omega))⟩
   have e : zaT w (k : Int) = (if w[k] = 115 ∨ w[k] = 99 then some (.inl ((k + 1 : Nat) : Int)) else some (.inr (.inr false))) := by
    unfold zaT
    rw [if_pos (by simp; omega), yo hlt, Option.bind_some, Option.bind_some, show ((w[k].toNat : Int) != 115) = decide (w[k] ≠ 115) from ne _ 115 115 rfl, show ((w[k].toNat : Int) != 99) = decide (w[k] ≠ 99) from ne _ 99 99 rfl, xS (by omega)]
    by_cases h1 : w[k] = 115
    ·rw [if_neg (by simpa using h1), Option.bind_some, if_neg (by decide), if_pos (.inl h1)]
    ·rw [if_pos (by simpa using h1), Option.bind_some]
     by_cases h2 : w[k] = 99
     ·rw [if_neg (by simpa using h2), if_pos (.inr h2)]
     ·rw [if_pos (by simpa using h2), if_neg (fun h => h.elim h1 h2)]
   rw [yR, e]
   by_cases hc : w[k] = 115 ∨ w[k] = 99
   ·rw [if_pos hc]
    obtain ⟨q, q1, q2⟩ := ih (k + 1) (by omega)
    refine ⟨q, q1, q2.imp (fun ⟨e, h⟩ => ⟨e, fun i hi hki => ?_⟩) id⟩
    rcases Nat.lt_or_ge k i with h' | h'
    ·exact h i hi h'
    ·obtain rfl : i = k := by omega
     exact hc
   ·rw [if_neg hc]
    exact ⟨_, rfl, .inr rfl⟩
 obtain ⟨q, q1, q2⟩ := key w.length 0 (by omega)
 unfold f12
 rw [show lp (zaT w) 0 = some q from q1, Option.bind_some]
 rcases q2 with ⟨rfl, h⟩ | rfl
 ·exact ⟨_, rfl, fun e => ⟨by simpa using e, fun c hc => by obtain ⟨i, hi, rfl⟩ := List.mem_iff_getElem.1 hc; exact h i hi (Nat.zero_le _)⟩⟩
 ·exact ⟨false, rfl, fun h => by cases h⟩
theorem zpA {x : zn} {w : List UInt8} (hw : Letters w) (hl : (w.length : Int) = x.Days) : f38 w x.Days [115, 99] = some true := by
 have inner : ∀ k (hk : k < w.length), lp (jV k w [115, 99]) (false, 0, k + (xV w k).2) = some (true, 2, k + 1) := fun k hk => by
  have d0 : xV [115, 99] 0 = (115, 1) := zeg (y := [115, 99]) (i := 0) (by decide) (by decide)
  have d1 : xV [115, 99] 1 = (99, 1) := zeg (y := [115, 99]) (i := 1) (by decide) (by decide)
  have dk := zeg hk (hw.lt hk)
  have e3 : ∀ q : Nat, jV k w [115, 99] (true, 2, q) = some (.inr (true, 2, q)) := fun q => rfl
  rcases hw _ (List.getElem_mem hk) with h | h
  ·have e1 : jV k w [115, 99] (false, 0, k + 1) = some (.inl (true, 1, k + 1)) := by
    unfold jV
    simp only [dk, d0, h]
    rfl
   have e2 : jV k w [115, 99] (true, 1, k + 1) = some (.inl (true, 2, k + 1)) := by
    unfold jV
    simp only [d1]
    rfl
   rw [dk, yR, e1]
   simp only
   rw [yR, e2]
   simp only
   rw [yR, e3]
  ·have e1 : jV k w [115, 99] (false, 0, k + 1) = some (.inl (false, 1, k + 1)) := by
    unfold jV
    simp only [dk, d0, h]
    rfl
   have e2 : jV k w [115, 99] (false, 1, k + 1) = some (.inl (true, 2, k + 1)) := by
    unfold jV
    simp only [dk, d1, h]
    rfl
   rw [dk, yR, e1]
   simp only
   rw [yR, e2]
   simp only
   rw [yR, e3]
 have key : ∀ (m k : Nat), k + m = w.length → lp (zaP w [115, 99]) k = some (.inl w.length) := by
  intro m
  induction m with
  | zero =>
   intro k hk
   have e : zaP w [115, 99] k = some (.inr (.inl k)) := by
    unfold zaP
    rw [if_neg (by simp; omega)]
   rw [yR, e, show k = w.length by omega]
  | succ m ih =>
   intro k hk
   have hlt : k < w.length := by omega
   have e : zaP w [115, 99] k = some (.inl (k + 1)) := by
    unfold zaP
    rw [if_pos (by simpa using hlt), inner k hlt]
    rfl
   rw [yR, e]
   exact ih (k + 1) (by omega)
 unfold f38
 rw [show lp (zaP w [115, 99]) 0 = some (.inl w.length) from key w.length 0 (by omega), Option.bind_some, Sum.elim_inl, hl]
 simp
theorem zpx (i : Nat) (hi : i ≤ 1000) : ∀ (m k c : Nat), k + m = i → c ≤ 100000 → lp (zbT (i : Int)) ((c : Int), (k : Int)) = some ((c / 2 ^ m : Nat) : Int)
 | 0, k, c, h, hc => by
  rw [yR]
  unfold zbT
  rw [if_neg (by simp; omega), Nat.pow_zero, Nat.div_one]
 | m + 1, k, c, h, hc => by
  have ih := zpx i hi m (k + 1) (c / 2) (by omega) (by omega)
  have e : zbT (i : Int) ((c : Int), (k : Int)) = some (.inl (((c / 2 : Nat) : Int), ((k + 1 : Nat) : Int))) := by
   unfold zbT
   simp only
   rw [if_pos (by simp; omega), Int.tdiv_eq_ediv_of_nonneg (by omega), show (c : Int) / 2 = ((c / 2 : Nat) : Int) by omega, kD (by omega), xS (by omega)]
  rw [yR, e]
  simp only
  rw [ih, Nat.pow_succ, Nat.mul_comm, Nat.div_div_eq_div_mul]
theorem zuU {c i : Nat} (hi : i ≤ 1000) (hc : c ≤ 100000) : f41 (c : Int) (i : Int) = some (decide (c / 2 ^ i % 2 = 1)) := by
 unfold f41
 rw [show lp (zbT (i : Int)) ((c : Int), 0) = _ from zpx i hi i 0 c (by omega) hc, Option.bind_some]
 congr 1
 rw [Int.tmod_eq_emod_of_nonneg (Int.natCast_nonneg _), show ((c / 2 ^ i : Nat) : Int) % 2 = ((c / 2 ^ i % 2 : Nat) : Int) by omega]
 rw [show (((c / 2 ^ i % 2 : Nat) : Int) == 1) = decide (((c / 2 ^ i % 2 : Nat) : Int) = 1) from rfl]
 congr 1
 exact propext ⟨fun h => by omega, fun h => by omega⟩
theorem zpM {x : zn} (hl : x.Loads.length ≤ 1000) {c : Nat} (hc : c ≤ 100000) {en : Int} (h : dnB x.Loads c = false) : f15 x ⟨en, (c : Int)⟩ = some (-1) := by
 have hn : ∀ i (hi : i < x.Loads.length), dnL x.Loads[i] c i = false := fun i hi => by
  cases hd : dnL x.Loads[i] c i with
  | false => rfl
  | true => rw [zi0 hi hd] at h; cases h
 have key : ∀ (m k : Nat), k + m = x.Loads.length → lp (zaR x ⟨en, (c : Int)⟩) (k : Int) = some (.inl ()) := by
  intro m
  induction m with
  | zero =>
   intro k hk
   have e : zaR x ⟨en, (c : Int)⟩ (k : Int) = some (.inr (.inl ())) := by
    unfold zaR
    rw [if_neg (by simp; omega)]
   rw [yR, e]
  | succ m ih =>
   intro k hk
   have hlt : k < x.Loads.length := by omega
   have e : zaR x ⟨en, (c : Int)⟩ (k : Int) = some (.inl ((k + 1 : Nat) : Int)) := by
    have hk2 := hn k hlt
    unfold dnL at hk2
    unfold zaR
    rw [if_pos (by simp; omega), yo hlt, Option.bind_some, xS (by omega)]
    cases hm : x.Loads[k].Must with
    | false => rfl
    | true =>
     rw [hm, Bool.true_and] at hk2
     have h1 : c / 2 ^ k % 2 = 1 := by have := of_decide_eq_false hk2; omega
     rw [if_pos rfl, zuU (by omega) hc, Option.bind_some, Option.bind_some, decide_eq_true h1]
     rfl
   rw [yR, e]
   exact ih (k + 1) (by omega)
 unfold f15
 rw [show lp (zaR x ⟨en, (c : Int)⟩) 0 = some (.inl ()) from key x.Loads.length 0 (by omega)]
 rfl
theorem SyOk.cell {x : zn} (h : SyOk x) (h4 : x.Days ≤ 4) : CellOk x := by
 obtain ⟨h1, h2, h3, h5, h6, h7, h8, h9, h10, h11, _⟩ := h
 refine ⟨h2, h1.2, h3, h5, h6, by omega, by omega, by omega, ⟨by omega, fun l hl => ?_⟩, fun s => ?_⟩
 ·obtain ⟨q1, q2⟩ := h8 l hl
  exact ⟨q1.1, q1.2, q2.1, q2.2⟩
 ·obtain ⟨b, hb, _⟩ := zlV (x := x) (w := wOf x.Days.toNat s) (W := x.Window.toNat) (D := x.Days.toNat) (zdC _ _) (by omega) (by omega) (by omega) (by omega) (vD _ _) (by omega)
  exact ⟨b, hb⟩
theorem zwF {x : zn} (h : SyOk x) (h4 : x.Days ≤ 4) {w : List UInt8} (hw : Letters w) (hl : (w.length : Int) = x.Days) (hal : f13 x w = some true) {p q : Int} (hp : 0 ≤ p ∧ p ≤ 12) (hq : 0 ≤ q ∧ q ≤ 8) (hf : qI x p q = false) {k : Nat} (hk : k < x.Days.toNat) :
  ∃ (en : Int) (c : Nat), (zfn x p q w x.Days.toNat)[k]? = some (en, (c : Int)) ∧ c < 32 ∧ f15 x ⟨en, (c : Int)⟩ = some (-1) := by
 have hx := h.cell h4
 obtain ⟨h1, h2, h3, h5, h6, h7, h8, h9, h10, h11, _⟩ := h
 have hwl : w.length = x.Days.toNat := by omega
 obtain ⟨b, hb, hb2⟩ := zpO (x := x) (w := w) (W := x.Window.toNat) (by omega) (by omega) (by omega) (by omega)
 rw [hal] at hb
 cases hb
 obtain ⟨b, hb3, hb4⟩ := zlV (x := x) (w := w) (W := x.Window.toNat) (D := x.Days.toNat) hw (by omega) (by omega) (by omega) (by omega) hwl (by omega)
 have hbt := hb4 (fun f hf2 => hb2 rfl f (by omega))
 obtain ⟨s, hs1, hs2⟩ := zhZ w hw
 rw [hwl] at hs1 hs2
 have hmem : w ∈ jp x x.Days.toNat 0 (2 ^ x.Days.toNat) := zcQ.2 ⟨s, Nat.zero_le _, by omega, hs2.symm, by unfold zqv; rw [hb3, hbt]; rfl⟩
 have hbad : zbu x p q w = false := by
  cases hbd : zbu x p q w with
  | false => rfl
  | true =>
   have : qI x p q = true := List.any_eq_true.2 ⟨w, hmem, hbd⟩
   rw [hf] at this
   cases this
 have hbk : zhL (jf x none 0 0 p q 0 w) x.Loads 0 (vG x q) k = false := by
  cases hbd : zhL (jf x none 0 0 p q 0 w) x.Loads 0 (vG x q) k with
  | false => rfl
  | true =>
   have : zbu x p q w = true := List.any_eq_true.2 ⟨k, List.mem_range.2 hk, hbd⟩
   rw [hbad] at this
   cases this
 obtain ⟨c, hc, hc2⟩ := znH (o := 0) (hx.sys (a := none) (n := 0) (c := 0) hp hq 0 w) hx.ls (hx.bd hq) (k := k) (by show k < w.length; omega)
 refine ⟨(stK (jf x none 0 0 p q 0 w) x.Loads 0 (vG x q) (k + 1)).en, c, ?_, hc2, zpM (by omega) (by omega) ?_⟩
 ·unfold zfn
  rw [List.getElem?_map, List.getElem?_range hk, Option.map_some, hc]
 ·unfold zhL at hbk
  rw [hc] at hbk
  exact hbk
open Go.RowKit
theorem zaI {c : Bool} {X : Option Bool} {R : Prop} (h : ∃ b, X = some b ∧ (b = true → R)) : ∃ b, (if c = true then X else some false) = some b ∧ (b = true → c = true ∧ R) := by
 cases c with
 | true => obtain ⟨b, h1, h2⟩ := h; exact ⟨b, h1, fun e => ⟨rfl, h2 e⟩⟩
 | false => exact ⟨false, rfl, fun h => by cases h⟩
section
variable {P : Program} {F : Fr} {w : World} {od : Option Nat} {ty t u e : TypeId} {pos : String} {af : Array Edge} {gd : Option (Nat × Bool)} {X Y : Operand} {k : IntKind} {m n : Int} {q : Bool}
theorem znz (h : decide (m < n) = q) (hx : ev F X = .int k m) (hy : ev F Y = .int k n) : (execOp (ev F) ⟨od, .binOp .lss t X Y u, ty, pos, af, gd⟩).run P w = .ok (.value (.bool q)) w := h ▸ zN hx hy
theorem znA (h : decide (n < m) = q) (hx : ev F X = .int k m) (hy : ev F Y = .int k n) : (execOp (ev F) ⟨od, .binOp .gtr t X Y u, ty, pos, af, gd⟩).run P w = .ok (.value (.bool q)) w := h ▸ ve hx hy
theorem zgU (h : (m == n) = q) (hx : ev F X = .int k m) (hy : ev F Y = .int k n) : (execOp (ev F) ⟨od, .binOp .eql t X Y u, ty, pos, af, gd⟩).run P w = .ok (.value (.bool q)) w := h ▸ xu hx hy
theorem jx (h : (m != n) = q) (hx : ev F X = .int k m) (hy : ev F Y = .int k n) : (execOp (ev F) ⟨od, .binOp .neq t X Y u, ty, pos, af, gd⟩).run P w = .ok (.value (.bool q)) w := h ▸ jy hx hy
end
theorem zrp {a : Nat} {n : Int} (h : (a : Int) = n) : ((a : Int) != n) = false := by rw [h]; simp
theorem ziU (x : zC) : ∀ (m k : Nat), k + m = 8 → ∃ q, lp (zdn x) (k : Int) = some q ∧ (q = .inr false ∨ (q = .inl () ∧ ∀ i y, k ≤ i → i < 8 → x.Store.Lots[i]? = some y → y.Goods.length ≤ 8))
 | 0, k, h => by
  refine ⟨.inl (), ?_, .inr ⟨rfl, fun i y h1 h2 => by omega⟩⟩
  rw [yR]
  unfold zdn
  by_cases h1 : (k : Int) < (x.Store.Lots.length : Int)
  ·rw [if_pos (by simpa using h1), Option.bind_some, if_neg (by simp; omega)]
  ·rw [if_neg (by simpa using h1)]; rfl
 | m + 1, k, h => by
  rw [yR]
  unfold zdn
  by_cases h1 : k < x.Store.Lots.length
  ·rw [if_pos (by simpa using h1), Option.bind_some, if_pos (by simp; omega)]
   have e : ix x.Store.Lots (k : Int) = some x.Store.Lots[k] := by unfold ix; rw [if_pos (by omega)]; first | simp [h1] | simpa using List.getElem?_eq_getElem h1
   rw [e, Option.bind_some]
   by_cases h2 : 8 < x.Store.Lots[k].Goods.length
   ·rw [if_pos (by simp only [decide_eq_true_eq]; omega)]
    exact ⟨_, rfl, .inl rfl⟩
   ·rw [if_neg (by simp only [decide_eq_true_eq]; omega)]
    obtain ⟨q, hq, hh⟩ := ziU x m (k + 1) (by omega)
    have hw : IntKind.i64.wrap ((k : Int) + 1) = ((k + 1 : Nat) : Int) := by rw [IntKind.wrap_i64]; omega
    rw [hw]
    refine ⟨q, hq, hh.imp id fun ⟨e1, e2⟩ => ⟨e1, fun i y h3 h4 h5 => ?_⟩⟩
    by_cases hi : i = k
    ·subst hi
     rw [List.getElem?_eq_getElem h1] at h5
     cases h5
     omega
    ·exact e2 i y (by omega) h4 h5
  ·rw [if_neg (by simpa using h1)]
   refine ⟨.inl (), rfl, .inr ⟨rfl, fun i y h3 h4 h5 => ?_⟩⟩
   have := (List.getElem?_eq_some_iff.1 h5).1
   omega
theorem zpF (x : zC) : ∃ b, f16 x = some b ∧ (b = true → Kl x ∧ x.System.Loads.length ≤ 7 ∧ x.System.Days ≤ 4) := by
 obtain ⟨q, hq, hh⟩ := ziU x 8 0 rfl
 have hq : lp (zdn x) 0 = some q := hq
 unfold f16
 rw [hq, Option.bind_some]
 rcases hh with rfl | ⟨rfl, hg⟩
 ·exact ⟨false, rfl, fun h => by cases h⟩
 ·rw [Sum.elim_inl]
  obtain ⟨b, h1, h2⟩ := zaI (c := decide ((x.Islet.Wells.length : Int) ≤ 8)) (zaI (c := decide ((x.Islet.Months.length : Int) ≤ 4)) (zaI (c := decide ((x.Book.People.length : Int) ≤ 12)) (zaI (c := decide ((x.Book.Events.length : Int) ≤ 9)) (zaI (c := decide ((x.Book.Memories.length : Int) ≤ 12))
   (zaI (c := decide ((x.Reef.Places.length : Int) ≤ 3)) (zaI (c := decide (x.Reef.Seasons ≤ 2)) (zaI (c := decide ((x.Sea.Infested.length : Int) ≤ 10)) (zaI (c := decide ((x.Sea.Clean.length : Int) ≤ 10)) (zaI (c := decide ((x.Sea.Trips.length : Int) ≤ 8)) (zaI (c := decide ((x.Store.Stock.length : Int) ≤ 8))
   (zaI (c := decide ((x.Store.Use.length : Int) ≤ 8)) (zaI (c := decide ((x.Store.Lots.length : Int) ≤ 8)) (zaI (c := decide ((x.System.Loads.length : Int) ≤ 7)) (zaI (c := decide (x.System.Days ≤ 4)) (zaI (c := decide ((x.Fishing.Roads.length : Int) ≤ 10)) (zaI (c := decide ((x.Fishing.Zones.length : Int) ≤ 5))
   (⟨decide ((x.Fishing.Berths.length : Int) ≤ 5), rfl, id⟩ : ∃ b, some (decide ((x.Fishing.Berths.length : Int) ≤ 5)) = some b ∧ (b = true → decide ((x.Fishing.Berths.length : Int) ≤ 5) = true))))))))))))))))))
  refine ⟨b, by rw [h1]; rfl, fun e => ?_⟩
  simp only [decide_eq_true_eq] at h2
  have h2 := h2 e
  refine ⟨⟨by omega, by omega, by omega, by omega, by omega, by omega, by omega, by omega, by omega, by omega, by omega, by omega, by omega, by omega, by omega, by omega, fun y hy => ?_⟩, by omega, by omega⟩
  obtain ⟨i, hi⟩ := List.getElem?_of_mem hy
  have hlt := (List.getElem?_eq_some_iff.1 hi).1
  have := hg i y (Nat.zero_le _) (by omega) hi
  omega
section
variable {P : Program} {F : Fr} {w : World} {od : Option Nat} {ty t u e : TypeId} {pos : String} {af : Array Edge} {gd : Option (Nat × Bool)} {X Y : Operand} {k : IntKind} {m n : Int} {q : Bool}
theorem zmv (hT : P.underlying t = some (.pointer e)) (hx : ev F X = .pointer none) (hy : ev F Y = .pointer none) : (execOp (ev F) ⟨od, .binOp .eql t X Y u, ty, pos, af, gd⟩).run P w = .ok (.value (.bool true)) w := by
 have h : ∀ d : Nat, (Op.equalIn (d + 1) t (.pointer none) (.pointer none)).run P w = .ok true w := fun d => by simp [Op.equalIn, run_underlying hT]
 simp [execOp, hx, hy, eqGuard, binOp, Op.equal, Op.maxDepth, h 9999]
end
theorem zwI : zJ Tryz.prog 4 = true := by kernel_rfl
theorem zyu : zJ Tryz.prog 5 = true := by kernel_rfl
theorem znd : zJ Tryz.prog 6 = true := by kernel_rfl
theorem zAy : zJ Tryz.prog 7 = true := by kernel_rfl
theorem zAx : zJ Tryz.prog 8 = true := by kernel_rfl
theorem zyh : zJ Tryz.prog 9 = true := by kernel_rfl
theorem ztZ : zJ Tryz.prog 10 = true := by kernel_rfl
theorem ztY : zJ Tryz.prog 11 = true := by kernel_rfl
theorem zyL : zJ Tryz.prog 12 = true := by kernel_rfl
theorem zyK : zJ Tryz.prog 13 = true := by kernel_rfl
theorem zyJ : zJ Tryz.prog 14 = true := by kernel_rfl
theorem zyI : zJ Tryz.prog 15 = true := by kernel_rfl
theorem zml {G : Gm} {cc : List Value} {x : zC} (h : qc G cc x) : ∃ (a1 : Option Addr) (n1 c1 : Nat), (cc.drop 34).take 11 = xq x.System a1 n1 c1 ∧ RSl zO 3 G a1 n1 c1 x.System.Loads := by
 obtain ⟨b0, m0, d0, b1, m1, d1, b2, m2, d2, b3, m3, d3, b4, m4, d4, b5, m5, d5, b6, m6, d6, b7, m7, d7, b8, m8, d8, b9, m9, d9, b10, m10, d10, b11, m11, d11, b12, m12, d12, b13, m13, d13, b14, m14, d14, b15, m15, d15, rfl, h0, h1, h2, h3, h4, h5, h6, h7, h8, h9, h10, h11, h12, h13, h14, h15⟩ := h
 exact ⟨_, _, _, rfl, h12⟩
theorem zsV {x : zC} {e0 e1 e2 e3 e4 e5 e6 : Int} (h : zdr x e0 e1 e2 e3 e4 e5 e6 = 0) : 0 ≤ x.Money ∧ x.Money ≤ 1000000000 := by
 unfold zdr at h
 cases h1 : (tmB x && ([e0, e1, e2, e3, e4, e5, e6].all fun e => decide (e = 0))) with
 | false => rw [h1] at h; cases h
 | true =>
  have h2 := (Bool.and_eq_true_iff.1 h1).1
  unfold tmB at h2
  exact of_decide_eq_true (Bool.and_eq_true_iff.1 h2).2
theorem CoP.coW {G : Gm} {w : World} {B b : Nat} {cc : List Value} {L : List Row} {va : Value} {x : zn} {np nb mo : Int} (h : CoP G cc va x np nb mo) (hO : Owns G w B (rowC b cc :: L)) : CoW w b va := ⟨zr hO (k := 0) rfl h.c60, zr hO (k := 0) rfl h.c61⟩
theorem zgG {G : Gm} {w : World} {B b : Nat} {cc : List Value} {L : List Row} {va : Value} {x : zn} {p q mo : Int} (hS : Sat G w) (h : CoP G cc va x p q mo) (hO : Owns G w B (rowC b cc :: L)) (hx : CellOk x) (hp : 0 ≤ p ∧ p ≤ 12) (hq : 0 ≤ q ∧ q ≤ 8) (H : f37 x ⟨p, q⟩ 0 = some true) :
  Calls Tryz.prog 11 [pV b].toArray w (yL G w fun _ v => FaultV x p q v) := by
 obtain ⟨a, n, c, s, h1⟩ := h.sy
 exact f11_ok hS (h.coW hO) (fun j v hj => zr hO (k := 0) rfl (s j v hj)) (zr hO (k := 0) rfl h.c52) (zr hO (k := 0) rfl h.c53) h1 hx hp hq H
set_option maxHeartbeats 8000000 in
theorem zx4 {G0 : Gm} {w0 : World} (hS0 : Sat G0 w0) {cc : List Value} {x : zC} (hA : qc G0 cc x) (ok : qP x) {y : List UInt8} {p q : Int}
  {el : TypeId} {fz : Nat × Nat} (hW : w0.heap[1]? = some (.cells Ev.pw.toArray el fz)) : Calls Tryz.prog 3 [.agg cc.toArray, .string ⟨y.toArray⟩, iV p, iV q].toArray w0 (qW w0 (.bool true)) := by
 have hS := Since.start hS0
 have hO := je G0 w0
 have h2B : 2 ≤ w0.heap.size := (Array.getElem?_eq_some_iff.1 hW).1
 have kn : ∀ {w : World}, Below w0.heap.size w0 w → Calls Tryz.prog 6 [].toArray w (qW w (.bool true)) := fun {w} hb => Ev.known20_ok w (by rw [hb.block 1 (by omega)]; exact hW)
 have hl := zmb hA
 obtain ⟨t16, t50⟩ := zjl hA
 obtain ⟨bb1, e16, hKl⟩ := zpF x
 obtain ⟨r26, e26, hr26⟩ : ∃ r, (bb1 = true → zhF x.System = some r) ∧ (bb1 = true → r = 0 → f26 x.System = some true ∧ SyOk x.System) := by
  cases bb1 with
  | false => exact ⟨(0 : Int), (fun h => by cases h), (fun h => by cases h)⟩
  | true =>
   obtain ⟨_, k1, k2⟩ := hKl rfl
   obtain ⟨e, h1, h2⟩ := zsI x.System (by omega)
   exact ⟨e, fun _ => h1, fun _ => h2⟩
 obtain ⟨b17, e0, e1, e2, e3, e4, e6, hD⟩ := zwy hS0 hA ok
 refine qb (N := 199) (yd _ _) Tryz.func3 rfl rfl rfl rfl (zd (zb (zm rfl (zP (v := fun b => pV b) (cs := cc) (e := 49) (qu rfl) hS.sat rfl fun b4 G1 w1 hg1 hc4 => ?_))))
 have hS := hS.grow hg1
 have hO := hO.grow hg1
 have le1 := hg1.le
 have hA := qv _ _ _ _ le1 hA
 have hD := hD.mono le1
 obtain ⟨a1, n1, c1, hse, h1⟩ := zml hA
 refine za (zf (v := .bool false) rfl) rfl (ze (zd ?_))
 have hS := hS.keep (zj w1)
 have hO := hO.below (zj w1)
 refine zM qw (fun _ w => Sat G1 w) (.fl 0 (.fl 2 (.on 1 (.on 3 (.on 4 (.on 5 .nil)))))) (by kernel_rfl) rfl (by kernel_rfl) (fun _ => hS.sat) ?_
 refine zh rfl (fun w hw => zu (cs := cc) ze0 rfl hl fun j v hj => hw.cell (hc4 j v hj)) rfl (zh rfl (fun w hw => zu (cs := cc) ze0 rfl hl fun j v hj => hw.cell (hc4 j v hj)) rfl ?_)
 refine zD rfl rfl (z9 (fi := []) (al := [.agg cc.toArray]) (ca := []) zwI (zpw hS hO hA ok e16 e26 (fun h => (hKl h).1) hD) rfl rfl rfl fun v G2 w2 L2 le2 hS hO hv => ⟨fun _ _ => hS.sat.le le2, ?_⟩)
 rcases hv with ⟨rfl, z2, hno⟩ | ⟨hop, b, cc', rfl, rfl, hcs⟩
 ·rw [z2] at hO
  refine zD rfl rfl (z9 (fi := []) (al := [.agg cc.toArray]) (ca := []) zwI (zpw hS hO (qv _ _ _ _ le2 hA) ok e16 e26 (fun h => (hKl h).1) (hD.mono le2)) rfl rfl rfl fun v G3 w3 L3 le3 hS hO hv => ⟨fun _ _ => hS.sat.le (le2.trans le3), ?_⟩)
  rcases hv with ⟨rfl, _, _⟩ | ⟨hop, _⟩
  ·refine zD rfl rfl (zY (zf (v := .pointer none) rfl) rfl ⟨fun _ h => zR (by kernel_rfl) h, zD rfl rfl (zY (zf (v := .pointer none) rfl) rfl ⟨fun _ h => zR (by kernel_rfl) h, qp ?_⟩)⟩)
   refine zd (zd (zb (za (zc (v := .pointer none) rfl) rfl (za (zmv Tryz.underlying50 rfl rfl) rfl (wr 15 rfl (ze (zQ true rfl rfl (zd (zb ?_)))))))))
   refine zm rfl (zy znd (kn hS.below) rfl rfl fun w4 hb => ?_)
   refine za (zf (v := .bool true) rfl) rfl (ze (zF ?_))
   exact ⟨rfl, (hS.keep hb).below⟩
  ·rw [hno] at hop; cases hop
 have hop2 := hop
 unfold opE at hop2
 simp only [Bool.and_eq_true, decide_eq_true_eq] at hop2
 obtain ⟨hb1, hb2, hE0⟩ := hop2
 obtain ⟨h26, hSy⟩ := hr26 hb1 (znc hE0)
 obtain ⟨mo0, mo1⟩ := zsV hE0
 obtain ⟨_, k1, k2⟩ := hKl hb1
 have hCell := hSy.cell k2
 have hCost := hSy.cost
 refine zD rfl rfl (z9 (fi := []) (al := [.agg cc.toArray]) (ca := []) zwI (zpw hS hO (qv _ _ _ _ le2 hA) ok e16 e26 (fun h => (hKl h).1) (hD.mono le2)) rfl rfl rfl fun v G3 w3 L3 le3 hS hO hv => ⟨fun _ _ => hS.sat.le (le2.trans le3), ?_⟩)
 rcases hv with ⟨_, _, hno⟩ | ⟨_, bq, ccq, rfl, rfl, hcq⟩
 ·rw [hop] at hno; cases hno
 have hcs := hcs.grow le3
 have le13 := le2.trans le3
 have hc4 := hc4.mono le13
 have h1 := h1.mono zx le13
 have sec : ∀ {w : World} {G : Gm}, Gle G3 G → Sat G w → ∀ (j : Nat) v, (xq x.System a1 n1 c1)[j]? = some v → w.cell? ⟨b4, 0 + 34 + j, none⟩ = some v := fun le hw j v hj => hw.cell (le.cell (hc4.drop_take 34 11 j v (by rw [hse]; exact hj)))
 have moc : ∀ {w : World} {G : Gm}, Gle G3 G → Sat G w → w.cell? ⟨b4, 0 + 50, none⟩ = some (iV x.Money) := fun le hw => hw.cell (le.cell (hc4 50 _ t50))
 refine zD rfl rfl (zY (zf (v := pV b) rfl) rfl ⟨fun _ h => zR (by kernel_rfl) h, zD rfl rfl (zY (zf (v := pV bq) rfl) rfl ⟨fun _ h => zR (by kernel_rfl) h, qp ?_⟩)⟩)
 refine zd (zd (zZ (fun F w => ∃ Fb qq, F = qi Fb [(1, .string ⟨y.toArray⟩), (2, iV p), (3, iV q), (4, pV b4), (9, pV b), (10, pV bq), (44, .bool qq)] ∧ Since w0.heap.size G0 w0 G3 w ∧ Owns G3 w w0.heap.size [rowC bq ccq, rowA 0 (.slice none 0 0) [], rowC b cc', rowA 0 (.slice none 0 0) []] ∧
  (qq = false → y.length ≤ 10 ∧ (0 ≤ p ∧ p ≤ 12) ∧ 0 ≤ q ∧ q ≤ 8)) ?_ ?_))
 ·refine zb (za (zc (v := pV b) rfl) rfl (za (rn_eqlSNc Tryz.underlying50 rfl rfl) rfl (wr 2 rfl (zl rfl rfl rfl rfl (za (rn_eqlSNc Tryz.underlying50 rfl rfl) rfl (wr 3 rfl (zl rfl rfl rfl rfl (za (zch Tryz.underlying9 rfl rfl) rfl (zl rfl rfl rfl rfl ?_)))))))))
  rcases qo (decide ((10 : Int) < (y.length : Int))) with q1 | q1
  ·exact za (znA q1 rfl rfl) rfl (wr 7 rfl (ze ⟨_, true, zi _ _ ⟨rfl, rfl, rfl, rfl, rfl, rfl, rfl, trivial⟩, hS, hO, fun h => by cases h⟩))
  obtain ⟨q5, e5', i5⟩ := ztA p q
  refine za (znA q1 rfl rfl) rfl (wr 4 rfl (zl rfl rfl rfl rfl ?_))
  refine zm rfl (zy zyu (ztz hS.sat e5') rfl rfl fun w4 hb => ?_)
  have hS := hS.keep hb
  have hO := hO.below hb
  cases q5 with
  | false => exact zl rfl rfl rfl rfl (za (qE rfl) rfl (wr 1 rfl (ze ⟨_, true, zi _ _ ⟨rfl, rfl, rfl, rfl, rfl, rfl, rfl, trivial⟩, hS, hO, fun h => by cases h⟩)))
  | true => exact zl rfl rfl rfl rfl (za (qE rfl) rfl (wr 1 rfl (ze ⟨_, false, zi _ _ ⟨rfl, rfl, rfl, rfl, rfl, rfl, rfl, trivial⟩, hS, hO, fun _ => ⟨by have := of_decide_eq_false q1; omega, i5.1 rfl⟩⟩)))
 rintro F w ⟨Fb, qq, rfl, hS, hO, hqq⟩
 refine zV rfl (fun hb => ?_) (fun hb => zq ?_)
 ·refine zd (zb (zm rfl (zy znd (kn hS.below) rfl rfl fun w3 hb => za (zf (v := .bool true) rfl) rfl (ze (zF ?_)))))
  exact ⟨rfl, (hS.keep hb).below⟩
 obtain ⟨hy10, hp, hq⟩ := hqq hb
 obtain ⟨pn, rfl⟩ := Int.eq_ofNat_of_zero_le hp.1
 obtain ⟨qn, rfl⟩ := Int.eq_ofNat_of_zero_le hq.1
 refine zd (zb (za (zk gd49_6 rfl) rfl (za (zu jZ (cs := xq x.System a1 n1 c1) rfl rfl (sec (Gle.refl _) hS.sat)) rfl ?_)))
 refine zm rfl (zS zAy (zx3 hS.sat h1 hCell hCost h26) rfl rfl fun v G4 w4 hg4 hv => ?_)
 have hS := hS.grow hg4
 have hO := hO.grow hg4
 have hcs := hcs.grow hg4.le
 have hcq := hcq.grow hg4.le
 have h1 := h1.mono zx hg4.le
 obtain ⟨bp, bb, n, e, rfl, hE⟩ : ∃ (bp bb : Nat) (n e : Int), v = .tuple #[iV (bp : Int), iV (bb : Int), iV n, iV e] ∧ ((e = 0 ∧ bp ≤ 12 ∧ bb ≤ 8 ∧ n = (bp : Int) * x.System.Panel + (bb : Int) * x.System.Battery ∧ qI x.System bp bb = false ∧ ∀ t ∈ stL 117, qI x.System t.1 t.2 = false → n ≤ keyC x.System t) ∨ (e = 5 ∧ ∀ t ∈ stL 117, qI x.System t.1 t.2 = true)) := by
  rcases hv with ⟨⟨s1, s2⟩, hs, rfl, hf, hmin⟩ | ⟨rfl, hall⟩
  ·obtain ⟨i1, i2, i3, i4⟩ := zd3.1 hs
   simp only at i1 i2 i3 i4 hf
   obtain ⟨bp, rfl⟩ := Int.eq_ofNat_of_zero_le i1
   obtain ⟨bb, rfl⟩ := Int.eq_ofNat_of_zero_le i3
   exact ⟨bp, bb, _, 0, rfl, .inl ⟨rfl, by omega, by omega, rfl, hf, hmin⟩⟩
  ·exact ⟨0, 0, 0, 5, rfl, .inr ⟨rfl, hall⟩⟩
 refine za (zc (v := .tuple #[iV (bp : Int), iV (bb : Int), iV n, iV e]) rfl) rfl (za (zL rfl rfl) rfl (za (zL rfl rfl) rfl (za (zL rfl rfl) rfl (za (zL rfl rfl) rfl (za (zf (v := iV (bp : Int)) rfl) rfl (za (zf (v := iV (bb : Int)) rfl) rfl (za (zf (v := iV n) rfl) rfl (za (zf (v := iV e) rfl) rfl (ze ?_)))))))))
 refine zd (zd (zZ (fun F w => ∃ Fb, F = qi Fb [(1, .string ⟨y.toArray⟩), (2, iV (pn : Int)), (3, iV (qn : Int)), (4, pV b4), (9, pV b), (10, pV bq), (11, iV (bp : Int)), (12, iV (bb : Int)), (13, iV n), (14, iV e), (69, .bool false)] ∧ Since w0.heap.size G0 w0 G4 w ∧ Owns G4 w w0.heap.size [rowC bq ccq, rowA 0 (.slice none 0 0) [], rowC b cc', rowA 0 (.slice none 0 0) []]) ?_ ?_))
 ·rcases hE with ⟨rfl, hbp, hbb, _⟩ | ⟨rfl, _⟩
  ·obtain ⟨q5, e5', i5⟩ := ztA (bp : Int) (bb : Int)
   obtain rfl : q5 = true := i5.2 ⟨⟨by omega, by omega⟩, by omega, by omega⟩
   refine zb (wr 1 rfl (za (jx (q := false) rfl rfl rfl) rfl (wr 6 rfl (zl rfl rfl rfl rfl (za (zgU (q := true) rfl rfl rfl) rfl (wr 3 rfl (zl rfl rfl rfl rfl ?_)))))))
   refine zm rfl (zy zyu (ztz hS.sat e5') rfl rfl fun w5 hb => ?_)
   exact zl rfl rfl rfl rfl (za (qE rfl) rfl (wr 2 rfl (ze ⟨_, zi _ _ ⟨rfl, rfl, rfl, rfl, rfl, rfl, rfl, rfl, rfl, rfl, rfl, trivial⟩, hS.keep hb, hO.below hb⟩)))
  ·exact zb (wr 1 rfl (za (jx (q := true) rfl rfl rfl) rfl (wr 2 rfl (zl rfl rfl rfl rfl (za (jx (q := false) rfl rfl rfl) rfl (wr 3 rfl (zl rfl rfl rfl rfl (za (zgU (q := false) rfl rfl rfl) rfl (wr 7 rfl (ze ⟨_, zi _ _ ⟨rfl, rfl, rfl, rfl, rfl, rfl, rfl, rfl, rfl, rfl, rfl, trivial⟩, hS, hO⟩))))))))))
 rintro F w ⟨Fb, rfl, hS, hO⟩
 refine zH false rfl rfl (zq ?_)
 obtain ⟨mc, hmc⟩ : ∃ mc, mc = (pn : Int) * x.System.Panel + (qn : Int) * x.System.Battery := ⟨_, rfl⟩
 obtain ⟨⟨c1', c2'⟩, c3', c4'⟩ := hCost.mul (s := ((pn : Int), (qn : Int))) hp hq
 simp only at c1' c2' c3' c4'
 refine zd (zb (za (zk gd49_6 rfl) rfl (za (zu jZ (cs := xq x.System a1 n1 c1) rfl rfl (sec hg4.le hS.sat)) rfl (wr 2 rfl ?_))))
 refine zm rfl (zy zAx (zx1 hS.sat h1 (r := mc) (by rw [zx2 hCost hp hq, hmc]; rfl)) rfl rfl fun w5 hb => ?_)
 have hS := hS.keep hb
 have hO := hO.below hb
 refine za (zf (v := iV mc) rfl) rfl (ze ?_)
 have h37 := ziS h26 hSy hp hq
 refine zd (zZ (fun F w => ∃ Fb G, F = qi Fb [(1, .string ⟨y.toArray⟩), (4, pV b4), (9, pV b), (11, iV (bp : Int)), (12, iV (bb : Int)), (13, iV n), (14, iV e)] ∧ Gle G4 G ∧ Since w0.heap.size G0 w0 G w ∧ Owns G w w0.heap.size [rowC b cc', rowA 0 (.slice none 0 0) []]) ?_ ?_)
 ·refine zd (zb (wr 1 rfl (za (zk gd49_8 rfl) rfl (za (zo n3 rfl (moc hg4.le hS.sat)) rfl (za (yW rfl rfl) rfl (ze (zV rfl (fun hb => ?_) (fun hb => zq ?_))))))))
  ·have hle : mc ≤ x.Money := of_decide_eq_true hb
   have wM : IntKind.i64.wrap (x.Money - mc) = x.Money - (pn : Int) * x.System.Panel - (qn : Int) * x.System.Battery := by rw [qt ⟨by omega, by omega⟩]; omega
   refine zd (zd (zb (wr 3 rfl ?_)))
   refine zm rfl (z9 (fi := []) (al := [pV bq, iV (pn : Int), iV (qn : Int)]) (ca := []) zyh (f9_ok (p := pn) (q := qn) hS hO h2B hcq (by omega) (by omega) hCost (by omega) mo1) rfl rfl rfl fun v G6 w6 L6 le6 hS hO hv => ?_)
   obtain ⟨rfl, ccz, adz, cpz, acz, nz, hL6, hcz⟩ := hv
   rw [hL6] at hO
   refine za (qE rfl) rfl (wr 2 rfl (zl rfl rfl rfl rfl (za (zu (cs := cc) ze0 rfl hl fun j v hj => hS.sat.cell ((hg4.le.trans le6).cell (hc4 j v hj))) rfl (wr 1 rfl (zl rfl rfl rfl rfl ?_)))))
   refine zm rfl (zy ztZ (f10_ok hS.sat (hcz.coW hO) (zr hO (k := 0) rfl hcz.c50) t50 wM) rfl rfl fun w7 hb => ?_)
   have hS := hS.keep hb
   have hO := hO.below hb
   refine zl rfl rfl rfl rfl (za (qE rfl) rfl (wr 1 rfl (ze (zH false rfl rfl (zq ?_)))))
   refine zd (zb (wr 1 rfl ?_))
   refine zm rfl (zS ztY (zgG hS.sat hcz hO hCell hp hq h37) rfl rfl fun v G7 w8 hg7 hv => ?_)
   obtain ⟨u, d, i, rfl⟩ := hv
   have hS := hS.grow hg7
   have hO := hO.grow hg7
   obtain ⟨fe, hfe⟩ : ∃ fe, fe = (if qI x.System (pn : Int) (qn : Int) = true then (0 : Int) else 5) := ⟨_, rfl⟩
   rw [← hfe]
   refine za (zc (v := .tuple #[.agg #[.string ⟨u.toArray⟩, iV d, iV i], iV fe]) rfl) rfl (za (v := .agg #[.string ⟨u.toArray⟩, iV d, iV i]) (zL (vs := #[.agg #[.string ⟨u.toArray⟩, iV d, iV i], iV fe]) rfl rfl) rfl (za (v := iV fe) (zL (vs := #[.agg #[.string ⟨u.toArray⟩, iV d, iV i], iV fe]) rfl rfl) rfl ?_))
   refine zm rfl (z7 (v := fun b => pV b) (cs := [.string ⟨#[]⟩, iV 0, iV 0]) (e := 61) (by kernel_rfl) hS.sat hO rfl 3 1 rfl (by decide) fun b16 w9 hb hO => ?_)
   have hS := hS.keep hb
   refine zm rfl (zG (vs := [.string ⟨u.toArray⟩, iV d, iV i]) z61 hS hO (k := 0) rfl rfl rfl rfl rfl (zU rfl) (nQl rfl) fun w10 hS hO => ?_)
   have hO : Owns G7 w10 w0.heap.size [rowC b cc', rowA 0 (.slice none 0 0) []] := ((hO.drop 0).drop 0).drop 0
   refine za (zf (v := iV fe) rfl) rfl (ze ?_)
   refine zd (zZ (fun F w => ∃ Fb, F = qi Fb [(1, .string ⟨y.toArray⟩), (4, pV b4), (9, pV b), (11, iV (bp : Int)), (12, iV (bb : Int)), (13, iV n), (14, iV e), (114, .bool false)] ∧ Since w0.heap.size G0 w0 G7 w ∧ Owns G7 w w0.heap.size [rowC b cc', rowA 0 (.slice none 0 0) []]) ?_ ?_)
   ·by_cases hf : qI x.System (pn : Int) (qn : Int) = true
    ·rw [if_pos hf] at hfe
     subst hfe
     refine zb (wr 1 rfl (za (jx (q := false) rfl rfl rfl) rfl (wr 6 rfl (zl rfl rfl rfl rfl (za (zgU (q := false) rfl rfl rfl) rfl (wr 4 rfl (zbp rfl rfl rfl rfl (zbp rfl rfl rfl rfl (zbp rfl rfl rfl rfl (wr 3 rfl (ze ?_)))))))))))
     exact ⟨_, zi _ _ ⟨rfl, rfl, rfl, rfl, rfl, rfl, rfl, rfl, trivial⟩, hS, hO⟩
    ·rw [if_neg hf] at hfe
     subst hfe
     have hst : ((pn : Int), (qn : Int)) ∈ stL 117 := zd3.2 ⟨hp.1, hp.2, hq.1, hq.2⟩
     rcases hE with ⟨rfl, hbp, hbb, hn, hfb, hmin⟩ | ⟨rfl, hall⟩
     ·have hnm : decide (mc < n) = false := decide_eq_false (by have h := hmin _ hst (by simpa using hf); have : keyC x.System ((pn : Int), (qn : Int)) = mc := hmc.symm; omega)
      refine zb (wr 1 rfl (za (jx (q := true) rfl rfl rfl) rfl (wr 2 rfl (zl rfl rfl rfl rfl (za (jx (q := false) rfl rfl rfl) rfl (wr 3 rfl (zl rfl rfl rfl rfl (za (zgU (q := true) rfl rfl rfl) rfl (wr 2 rfl (zl rfl rfl rfl rfl (za (jx (q := false) rfl rfl rfl) rfl (wr 3 rfl (zl rfl rfl rfl rfl (za (znz hnm rfl rfl) rfl (wr 3 rfl (ze ?_))))))))))))))))
      exact ⟨_, zi _ _ ⟨rfl, rfl, rfl, rfl, rfl, rfl, rfl, rfl, trivial⟩, hS, hO⟩
     ·exact absurd (hall _ hst) hf
   ·rintro F w ⟨Fb, rfl, hS, hO⟩
    exact zH false rfl rfl (zq ⟨_, G7, zi _ _ ⟨rfl, rfl, rfl, rfl, rfl, rfl, rfl, trivial⟩, le6.trans hg7.le, hS, hO⟩)
  ·exact ⟨_, G4, zi _ _ ⟨rfl, rfl, rfl, rfl, rfl, rfl, rfl, trivial⟩, Gle.refl _, hS, (hO.drop 0).drop 0⟩
 rintro F w ⟨Fb, G5, rfl, le45, hS, hO⟩
 have le35 := hg4.le.trans le45
 have hcs := hcs.grow le45
 have h1 := h1.mono zx le45
 rcases hE with ⟨rfl, hbp, hbb, hn, hfb, hmin⟩ | ⟨rfl, hall⟩
 ·have hbp' : 0 ≤ (bp : Int) ∧ (bp : Int) ≤ 12 := ⟨by omega, by omega⟩
  have hbb' : 0 ≤ (bb : Int) ∧ (bb : Int) ≤ 8 := ⟨by omega, by omega⟩
  obtain ⟨⟨d1', d2'⟩, d3', d4'⟩ := hCost.mul (s := ((bp : Int), (bb : Int))) hbp' hbb'
  simp only at d1' d2' d3' d4'
  have h37b := ziS h26 hSy hbp' hbb'
  refine zd (zd (zb (wr 1 rfl (za (jx (q := false) rfl rfl rfl) rfl (wr 2 rfl (zl rfl rfl rfl rfl (za (zk gd49_8 rfl) rfl (zl rfl rfl rfl rfl (za (zo n3 rfl (moc le35 hS.sat)) rfl (zl rfl rfl rfl rfl (za (ve rfl rfl) rfl (wr 1 rfl (ze (zV rfl (fun hb => ?_) (fun hb => zq ?_)))))))))))))))
  ·refine zd (zb (zm rfl (zy znd (kn hS.below) rfl rfl fun w3 hb => za (zf (v := .bool true) rfl) rfl (ze (zF ?_)))))
   exact ⟨rfl, (hS.keep hb).below⟩
  have hle : n ≤ x.Money := by have := of_decide_eq_false hb; omega
  have wM : IntKind.i64.wrap (x.Money - n) = x.Money - (bp : Int) * x.System.Panel - (bb : Int) * x.System.Battery := by rw [qt ⟨by omega, by omega⟩]; omega
  refine zd (zd (zb (wr 3 rfl ?_)))
  refine zm rfl (z9 (fi := []) (al := [pV b, iV (bp : Int), iV (bb : Int)]) (ca := []) zyh (f9_ok (p := bp) (q := bb) hS hO h2B hcs hbp hbb hCost (by omega) mo1) rfl rfl rfl fun v G6 w6 L6 le6 hS hO hv => ?_)
  obtain ⟨rfl, ccz, adz, cpz, acz, nz, hL6, hcz⟩ := hv
  rw [hL6] at hO
  refine za (qE rfl) rfl (wr 2 rfl (zl rfl rfl rfl rfl (za (zu (cs := cc) ze0 rfl hl fun j v hj => hS.sat.cell ((le35.trans le6).cell (hc4 j v hj))) rfl (wr 1 rfl (zl rfl rfl rfl rfl ?_)))))
  refine zm rfl (zy ztZ (f10_ok hS.sat (hcz.coW hO) (zr hO (k := 0) rfl hcz.c50) t50 wM) rfl rfl fun w7 hb => ?_)
  have hS := hS.keep hb
  have hO := hO.below hb
  refine zl rfl rfl rfl rfl (za (qE rfl) rfl (wr 1 rfl (ze (zH false rfl rfl (zq ?_)))))
  refine zd (zb (wr 1 rfl ?_))
  refine zm rfl (zS ztY (zgG hS.sat hcz hO hCell hbp' hbb' h37b) rfl rfl fun v G7 w8 hg7 hv => ?_)
  obtain ⟨u, d, i, rfl⟩ := hv
  have hS := hS.grow hg7
  have hO := hO.grow hg7
  rw [if_neg (by rw [hfb]; decide)]
  refine za (zc (v := .tuple #[.agg #[.string ⟨u.toArray⟩, iV d, iV i], iV 5]) rfl) rfl (za (v := .agg #[.string ⟨u.toArray⟩, iV d, iV i]) (zL (vs := #[.agg #[.string ⟨u.toArray⟩, iV d, iV i], iV 5]) rfl rfl) rfl (za (v := iV 5) (zL (vs := #[.agg #[.string ⟨u.toArray⟩, iV d, iV i], iV 5]) rfl rfl) rfl ?_))
  refine zm rfl (z7 (v := fun b => pV b) (cs := [.string ⟨#[]⟩, iV 0, iV 0]) (e := 61) (by kernel_rfl) hS.sat hO rfl 3 1 rfl (by decide) fun b18 w9 hb hO => ?_)
  have hS := hS.keep hb
  refine zm rfl (zG (vs := [.string ⟨u.toArray⟩, iV d, iV i]) z61 hS hO (k := 0) rfl rfl rfl rfl rfl (zU rfl) (nQl rfl) fun w10 hS hO => ?_)
  refine za (zf (v := iV 5) rfl) rfl (ze ?_)
  refine zd (zd (zb (wr 1 rfl (za (jx (q := false) rfl rfl rfl) rfl (ze (zH false rfl rfl (zq ?_)))))))
  have le37 := (le35.trans le6).trans hg7.le
  have h1 := h1.mono zx (le6.trans hg7.le)
  obtain ⟨q12, e12, i12⟩ := zwj x.System y (by omega)
  obtain ⟨s1, s2, s3, s4, s5, s6, s7, s8, s9, s10, s11⟩ := hSy
  obtain ⟨q13, e13, i13⟩ := zpO (x := x.System) (w := y) (W := x.System.Window.toNat) (by omega) (by omega) (by omega) (by omega)
  have hSy : SyOk x.System := ⟨s1, s2, s3, s4, s5, s6, s7, s8, s9, s10, s11⟩
  refine zd (zd (zZ (fun F w => ∃ Fb qq, F = qi Fb [(1, .string ⟨y.toArray⟩), (4, pV b4), (11, iV (bp : Int)), (12, iV (bb : Int)), (154, .bool qq)] ∧ Since w0.heap.size G0 w0 G7 w ∧ Owns G7 w w0.heap.size [] ∧ (qq = false → q12 = true ∧ q13 = true)) ?_ ?_))
  ·have hO : Owns G7 w10 w0.heap.size [] := (((hO.drop 0).drop 0).drop 0)
   refine zb (za (zk gd49_6 rfl) rfl (za (zu jZ (cs := xq x.System a1 n1 c1) rfl rfl (sec le37 hS.sat)) rfl (wr 1 rfl ?_)))
   refine zm rfl (zy zyL (zwi hS.sat h1 e12) rfl rfl fun w11 hb => ?_)
   have hS := hS.keep hb
   have hO := hO.below hb
   cases q12 with
   | false => exact za (qE rfl) rfl (wr 7 rfl (ze ⟨_, true, zi _ _ ⟨rfl, rfl, rfl, rfl, rfl, trivial⟩, hS, hO, fun h => by cases h⟩))
   | true =>
   refine za (qE rfl) rfl (wr 1 rfl (zl rfl rfl rfl rfl (za (zk gd49_6 rfl) rfl (zl rfl rfl rfl rfl (za (zu jZ (cs := xq x.System a1 n1 c1) rfl rfl (sec le37 hS.sat)) rfl (wr 1 rfl (zl rfl rfl rfl rfl ?_)))))))
   refine zm rfl (zy zyK (zwh hS.sat h1 e13) rfl rfl fun w12 hb => ?_)
   have hS := hS.keep hb
   have hO := hO.below hb
   cases q13 with
   | false => exact zl rfl rfl rfl rfl (za (qE rfl) rfl (wr 1 rfl (ze ⟨_, true, zi _ _ ⟨rfl, rfl, rfl, rfl, rfl, trivial⟩, hS, hO, fun h => by cases h⟩)))
   | true => exact zl rfl rfl rfl rfl (za (qE rfl) rfl (wr 1 rfl (ze ⟨_, false, zi _ _ ⟨rfl, rfl, rfl, rfl, rfl, trivial⟩, hS, hO, fun _ => ⟨rfl, rfl⟩⟩)))
  rintro F w ⟨Fb, qq, rfl, hS, hO, hq2⟩
  refine zV rfl (fun hb => ?_) (fun hb => zq ?_)
  ·refine zd (zb (zm rfl (zy znd (kn hS.below) rfl rfl fun w3 hb => za (zf (v := .bool true) rfl) rfl (ze (zF ?_)))))
   exact ⟨rfl, (hS.keep hb).below⟩
  obtain ⟨rfl, rfl⟩ := hq2 hb
  obtain ⟨hyl, hyL⟩ := i12 rfl
  have h38 := zpA hyL hyl
  refine zd (zb (za (zk gd49_6 rfl) rfl (za (zu jZ (cs := xq x.System a1 n1 c1) rfl rfl (sec le37 hS.sat)) rfl (wr 3 rfl ?_))))
  refine zm rfl (zS zyJ (zwg hS.sat h1 hCell hbp' hbb' h37b h38 (by omega)) rfl rfl fun v G8 w11 hg8 hv => ?_)
  obtain ⟨da, dc, l0, l1, l2, l3, l4, l5, rfl, hd⟩ := hv
  have hS := hS.grow hg8
  have hO := hO.grow hg8
  have le38 := le37.trans hg8.le
  have h1 := h1.mono zx hg8.le
  refine za (zc (v := .tuple #[.slice da x.System.Days.toNat dc, .agg #[iV l0, iV l1, iV l2, iV l3, iV l4, iV l5], iV 0]) rfl) rfl (za (zL rfl rfl) rfl (za (zL rfl rfl) rfl (za (zL rfl rfl) rfl ?_)))
  refine zm rfl (z7 (v := fun b => pV b) (cs := [iV 0, iV 0, iV 0, iV 0, iV 0, iV 0]) (e := 67) (by kernel_rfl) hS.sat hO rfl 6 1 rfl (by decide) fun b21 w12 hb hO => ?_)
  have hS := hS.keep hb
  refine za (zf (v := .slice da x.System.Days.toNat dc) rfl) rfl ?_
  refine zm rfl (zG (vs := [iV l0, iV l1, iV l2, iV l3, iV l4, iV l5]) zwY hS hO (k := 0) rfl rfl rfl rfl rfl (zU rfl) (nQl rfl) fun w13 hS hO => ?_)
  refine za (zf (v := iV 0) rfl) rfl (ze ?_)
  have nD : ((x.System.Days.toNat : Int) != x.System.Days) = false := zrp (by omega)
  refine zd (zd (zb (wr 1 rfl (za (jx (q := false) rfl rfl rfl) rfl (wr 2 rfl (zl rfl rfl rfl rfl (za (ji (m := x.System.Days.toNat) zmq rfl rfl rfl) rfl (zl rfl rfl rfl rfl (za (zk gd49_6 rfl) rfl (zl rfl rfl rfl rfl (za (zk zf7 rfl) rfl (zl rfl rfl rfl rfl (za (zo n3 rfl (sec le38 hS.sat 6 _ rfl)) rfl (zl rfl rfl rfl rfl (za (jx nD rfl rfl) rfl (wr 1 rfl (ze (zH false rfl rfl (zq ?_)))))))))))))))))))
  refine zd (zd (zb (za (zf (v := iV 0) rfl) rfl (ze ?_))))
  refine zp (qh (qN x.System.Days.toNat (fun i F w => ∃ Fb, F = qi Fb [(4, pV b4), (20, .slice da x.System.Days.toNat dc), (23, iV (i : Int))] ∧ Since w0.heap.size G0 w0 G8 w) ?_ ?_ x.System.Days.toNat 0 _ _ (by omega) ⟨_, zi _ _ ⟨rfl, rfl, rfl, trivial⟩, hS⟩))
  ·rintro i F w hi ⟨Fb, rfl, hS⟩
   obtain ⟨en, c, hday, hc, h15⟩ := zwF hSy k2 hyL hyl e13 hbp' hbb' hfb hi
   have hix := (zo6 _ _).trans hday
   have hnc : decide ((c : Int) < 0) = false := decide_eq_false (by omega)
   refine zd (zd (zb (wr 2 rfl (za (ji (m := x.System.Days.toNat) zmq rfl rfl rfl) rfl (za (zN rfl rfl) rfl (ze (zQ (decide ((i : Int) < (x.System.Days.toNat : Int))) (decide_eq_true (by omega)) rfl (zq ?_))))))))
   have hS := hS.keep (zj w)
   refine zd (zp (zd (zM qw (fun _ w => Sat G8 w) (.fl 0 (.fl 1 (.fl 2 (.fl 3 (.fl 4 (.fl 5 (.fl 6 (.fl 7 (.fl 8 (.fl 9 (.fl 10 (.fl 11 (.fl 12 (.on 13 (.fl 14 (.fl 15 .nil)))))))))))))))) (by kernel_rfl) rfl (by kernel_rfl) (fun _ => hS.sat) ?_)))
   refine zh rfl (fun w hw => zc (v := .slice da x.System.Days.toNat dc) rfl) rfl (zh rfl (fun w hw => zc (v := iV (i : Int)) rfl) rfl (zwT rfl zmq hd hix rfl rfl rfl ?_))
   rintro bx ox _ hcx _ ⟨⟩
   refine zh rfl (fun w hw => zk ztk rfl) rfl (zh rfl (fun w hw => zo n3 rfl (hw.cell (hcx 1 _ rfl))) rfl (zh rfl (fun w hw => znz hnc rfl rfl) rfl (zh rfl (fun w hw => zc (v := .bool false) rfl) rfl ?_)))
   refine qF rfl rfl (b := false) rfl rfl rfl (fun w hw => zk gd49_6 rfl) rfl (qF rfl rfl (b := false) rfl rfl rfl (fun w hw => zu jZ (cs := xq x.System a1 n1 c1) rfl rfl (sec le38 hw)) rfl ?_)
   refine qF rfl rfl (b := false) rfl rfl rfl (fun w hw => zc (v := .slice da x.System.Days.toNat dc) rfl) rfl (qF rfl rfl (b := false) rfl rfl rfl (fun w hw => zc (v := iV (i : Int)) rfl) rfl ?_)
   refine zs8 rfl rfl (b' := false) rfl rfl rfl zmq hd hix rfl rfl rfl ?_
   rintro bz oz _ hcz _ ⟨⟩
   refine qF rfl rfl (b := false) rfl rfl rfl (fun w hw => zu zt3 (cs := [iV en, iV (c : Int)]) rfl rfl fun j v hj => hw.cell (hcz j v hj)) rfl ?_
   refine zkD rfl rfl rfl (b := false) rfl rfl rfl (zy zyI (zwf (x1 := ⟨en, (c : Int)⟩) hS.sat h1 h15) rfl rfl fun w14 hb => ?_)
   have hS := hS.keep hb
   refine ⟨fun _ _ => hS.sat, ?_⟩
   refine qF rfl rfl (b := false) rfl rfl rfl (fun w hw => jx (q := false) rfl rfl rfl) rfl (zh rfl (fun w hw => xc (v := .bool false) rfl rfl rfl) rfl (qp (zH false rfl rfl (zq ?_))))
   refine zb (wr 1 rfl (za (jz rfl rfl) rfl (za (zf (v := iV ((i + 1 : Nat) : Int)) (congrArg iV (xS (by omega)))) rfl (ze ?_))))
   exact ⟨_, zi _ _ ⟨rfl, rfl, rfl, trivial⟩, hS⟩
  ·rintro F w ⟨Fb, rfl, hS⟩
   refine qg (zd (zd (zb (wr 2 rfl (za (ji (m := x.System.Days.toNat) zmq rfl rfl rfl) rfl (za (zN rfl rfl) rfl (ze (zH (decide ((x.System.Days.toNat : Int) < (x.System.Days.toNat : Int))) (decide_eq_false (by omega)) rfl (zW rfl ?_)))))))))
   refine zd (zb (zm rfl (zy znd (kn hS.below) rfl rfl fun w3 hb => za (zf (v := .bool true) rfl) rfl (ze (zF ?_)))))
   exact ⟨rfl, (hS.keep hb).below⟩
 ·refine zd (zd (zb (wr 1 rfl (za (jx (q := true) rfl rfl rfl) rfl (wr 6 rfl (ze (zQ true rfl rfl (zd (zb ?_)))))))))
  refine zm rfl (zy znd (kn hS.below) rfl rfl fun w4 hb => za (zf (v := .bool true) rfl) rfl (ze (zF ?_)))
  exact ⟨rfl, (hS.keep hb).below⟩
end Go.Proofs.YtihedfkcccaonaaGreatDoor
