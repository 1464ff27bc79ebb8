/-
 Lists that are read; facts of the program's tables.
-/
import Derived.Test.YtihedfkcccaonaaGreatDoorWx
namespace Go.Proofs.YtihedfkcccaonaaGreatDoor
open Go.RowKit
set_option maxRecDepth 20000
theorem qw : Tryz.prog.follows .mixedOrders = true := by kernel_rfl
theorem s24 : slB Tryz.prog 24 = some (3, 1, 8) := by kernel_rfl
theorem n3 : naB Tryz.prog 3 = true := by kernel_rfl
theorem n4 : naB Tryz.prog 4 = true := by kernel_rfl
theorem z3 : szB Tryz.prog 3 = some 1 := by kernel_rfl
theorem z4 : szB Tryz.prog 4 = some 1 := by kernel_rfl
theorem z24 : szB Tryz.prog 24 = some 1 := by kernel_rfl
theorem qN {κ : Ctx} {P : Program} {N : Nat} {n r : Fr → World → Prop} {x : List (Nat × (Fr → World → Prop))} {p : List PanicEntry → Fr → World → Prop} {c : Code} (m : Nat) (J : Nat → Fr → World → Prop)
  (step : ∀ i F w, i < m → J i F w → WC κ P N c ⟨J (i + 1), r, x, p⟩ F w) (last : ∀ F w, J m F w → WI κ P N c ⟨n, r, x, p⟩ F w) : ∀ (d i : Nat) (F : Fr) (w : World), i + d = m → J i F w → WI κ P N c ⟨n, r, x, p⟩ F w
 | 0, i, F, w, h, hJ => last F w (by obtain rfl : i = m := h; exact hJ)
 | d + 1, i, F, w, h, hJ => qg (zhS (fun e F' w' he => by
   cases e with
   | normal => exact qN m J step last d (i + 1) F' w' (by omega) he
   | _ => exact he) (step i F w (by omega) hJ))
theorem kX {α : Type} (xs ys : List α) (h : xs.length + ys.length ≤ 1073741824) : app xs ys = some (xs ++ ys) := by simp [app, h]
theorem xS {i : Nat} (h : i < 1000) : IntKind.i64.wrap ((i : Int) + 1) = ((i + 1 : Nat) : Int) := by rw [IntKind.wrap_i64]; omega
theorem qt {n : Int} (h : -9000000000000000000 ≤ n ∧ n ≤ 9000000000000000000) : IntKind.i64.wrap n = n := by rw [IntKind.wrap_i64]; omega
def Src (w : World) (a : Option Addr) (n : Nat) (xs : List Int) : Prop := n = xs.length ∧ n ≤ maxLen ∧ (a = none → xs = []) ∧ ∀ ad, a = some ad → ∀ (j : Nat) y, xs[j]? = some y → w.cell? (ad.add j) = some (.int .i64 y)
theorem RSl.src {G : Gm} {w : World} {a : Option Addr} {n c : Nat} {xs : List Int} (hS : Sat G w) (h : RSl yD 1 G a n c xs) : Src w a n xs := by
 obtain ⟨h1, ⟨h2, h3⟩, h4⟩ := h
 refine ⟨h1, h2, fun e => ?_, fun ad e j y hj => ?_⟩
 ·cases xs with
  | nil => rfl
  | cons x xs => obtain ⟨b, off, cs, e2, _⟩ := h4 0 x rfl; rw [e] at e2; cases e2
 ·obtain ⟨b, off, cs, e2, hc, hl, hr⟩ := h4 j y hj
  rw [e] at e2
  cases e2
  have hr : cs = [.int .i64 y] := hr
  subst hr
  have := hS.cell (hc 0 _ rfl)
  rw [xf]
  simpa using this
theorem Owns.src {G G0 : Gm} {w w0 : World} {B : Nat} {L : List Row} {k n c : Nat} {a : Option Addr} {cells : List Value} {xs : List Int} (hS : Since B G0 w0 G w) (hO : Owns G w B L) (hk : L[k]? = some ⟨3, 1, n, .slice a n c, cells⟩) (hn : n = xs.length) (hrd : Rd yD 1 G cells xs) : Src w a n xs := by
 subst hn
 obtain ⟨G', le, hS', _, hs⟩ := hO.freezeS hS zT (k := k) hk hrd rfl
 exact RSl.src hS'.sat hs
section
variable {κ : Ctx} {p : List PanicEntry → Fr → World → Prop} {P : Program} {N : Nat} {F : Fr} {w : World} {K : Fr → World → Prop} {d : Nat} {ty : TypeId} {pos : String} {af : Array Edge} {gd : Option (Nat × Bool)} {G G0 : Gm} {w0 : World} {B : Nat} {L : List Row}
end
theorem zuS {f g : Nat → Int} {a b q : Nat} (hq : a ≤ q) (hqb : q < b) (hg : ∀ k, g k = if a ≤ k ∧ k < q then f (k + 1) else if k = q then f a else f k) (hs : ∀ i j, a + 1 ≤ i → i ≤ j → j < b → f i ≤ f j) (h1 : ∀ k, a + 1 ≤ k → k ≤ q → f k ≤ f a) (h2 : ∀ k, q < k → k < b → f a ≤ f k) :
  ∀ i j, a ≤ i → i ≤ j → j < b → g i ≤ g j := by
 intro i j h3 h4 h5
 rw [hg i, hg j]
 by_cases c1 : i < q
 ·rw [if_pos ⟨h3, c1⟩]
  by_cases c2 : j < q
  ·rw [if_pos ⟨by omega, c2⟩]; exact hs _ _ (by omega) (by omega) (by omega)
  ·rw [if_neg (by omega)]
   by_cases c3 : j = q
   ·rw [if_pos c3]; exact h1 _ (by omega) (by omega)
   ·rw [if_neg c3]; exact hs _ _ (by omega) (by omega) (by omega)
 ·rw [if_neg (by omega)]
  by_cases c3 : i = q
  ·rw [if_pos c3, if_neg (by omega)]
   by_cases c4 : j = q
   ·rw [if_pos c4]; omega
   ·rw [if_neg c4]; exact h2 _ (by omega) (by omega)
  ·rw [if_neg c3, if_neg (by omega), if_neg (by omega)]; exact hs _ _ (by omega) (by omega) (by omega)
theorem ziB {f g : Nat → Int} {a m q : Nat} (haq : a ≤ q) (hq : q ≤ m) (hg : ∀ k, g k = if q < k ∧ k ≤ m then f (k - 1) else if k = q then f m else f k) (hs : ∀ i j, a ≤ i → i ≤ j → j < m → f i ≤ f j) (h1 : ∀ k, a ≤ k → k < q → f k ≤ f m) (h2 : ∀ k, q ≤ k → k < m → f m ≤ f k) :
  ∀ i j, a ≤ i → i ≤ j → j < m + 1 → g i ≤ g j := by
 intro i j h3 h4 h5
 rw [hg i, hg j]
 by_cases c1 : q < i
 ·rw [if_pos ⟨c1, by omega⟩, if_pos ⟨by omega, by omega⟩]; exact hs _ _ (by omega) (by omega) (by omega)
 ·rw [if_neg (by omega)]
  by_cases c2 : i = q
  ·rw [if_pos c2]
   by_cases c3 : q < j
   ·rw [if_pos ⟨c3, by omega⟩]; exact h2 _ (by omega) (by omega)
   ·rw [if_neg (by omega), if_pos (by omega)]; omega
  ·rw [if_neg c2]
   by_cases c3 : q < j
   ·rw [if_pos ⟨c3, by omega⟩]; exact hs _ _ (by omega) (by omega) (by omega)
   ·rw [if_neg (by omega)]
    by_cases c4 : j = q
    ·rw [if_pos c4]; exact h1 _ (by omega) (by omega)
    ·rw [if_neg c4]; exact hs _ _ (by omega) (by omega) (by omega)
theorem zkR {f : Nat → Int} {a m b mid n s0 r0 s : Nat} (ham : a < m) (hmb : m < b) (hmid : mid = (a + b) / 2) (hn : n = mid + m) (h0 : (mid < m ∧ s0 = n - b ∧ r0 = mid) ∨ (m ≤ mid ∧ s0 = a ∧ r0 = m)) (hs : s0 ≤ s ∧ s ≤ r0)
  (hu : ∀ i j, a ≤ i → i ≤ j → j < m → f i ≤ f j) (hv : ∀ i j, m ≤ i → i ≤ j → j < b → f i ≤ f j) (h1 : ∀ k, s0 ≤ k → k < s → f k ≤ f (n - 1 - k)) (h2 : ∀ k, s ≤ k → k < r0 → f (n - 1 - k) < f k) :
  (∀ i j, (a ≤ i ∧ i < s) ∨ (m ≤ i ∧ i < n - s) → (s ≤ j ∧ j < m) ∨ (n - s ≤ j ∧ j < b) → f i ≤ f j) ∧ a ≤ s ∧ s ≤ mid ∧ s ≤ m ∧ m ≤ n - s ∧ n - s ≤ b ∧ mid ≤ n - s := by
 have hab : a ≤ s0 := by omega
 refine ⟨fun i j hi hj => ?_, by omega, by omega, by omega, by omega, by omega, by omega⟩
 rcases hi with ⟨i1, i2⟩ | ⟨i1, i2⟩
 ·rcases hj with ⟨j1, j2⟩ | ⟨j1, j2⟩
  ·exact hu _ _ i1 (by omega) j2
  ·have g0 : s0 ≤ s - 1 := by omega
   have g1 := h1 (s - 1) g0 (by omega)
   rw [show n - 1 - (s - 1) = n - s by omega] at g1
   have g2 := hu i (s - 1) i1 (by omega) (by omega)
   have g3 := hv (n - s) j (by omega) j1 j2
   omega
 ·rcases hj with ⟨j1, j2⟩ | ⟨j1, j2⟩
  ·have g1 := h2 s (Nat.le_refl _) (by omega)
   have g2 := hv i (n - 1 - s) i1 (by omega) (by omega)
   have g3 := hu s j (by omega) j1 j2
   omega
  ·exact hv _ _ i1 (by omega) j2
section
variable {α : Type}
def swp (D : List α) (i j : Nat) : List α := match D[i]?, D[j]? with
 | some x, some y => (D.set i y).set j x
 | _, _ => D
theorem zc0 {D : List α} {i j : Nat} (hi : i < D.length) (hj : j < D.length) : swp D i j = (D.set i D[j]).set j D[i] := by
 unfold swp
 rw [List.getElem?_eq_getElem hi, List.getElem?_eq_getElem hj]
theorem zqW (D : List α) (i j : Nat) : (swp D i j).length = D.length := by
 unfold swp
 split <;> simp
theorem zcb {D : List α} {i j : Nat} (hi : i < D.length) (hj : j < D.length) (k : Nat) : (swp D i j)[k]? = if k = j then D[i]? else if k = i then D[j]? else D[k]? := by
 rw [zc0 hi hj, List.getElem?_set, List.getElem?_set]
 by_cases h1 : k = j
 ·rw [if_pos h1, if_pos h1.symm, if_pos (by simpa using hj), List.getElem?_eq_getElem hi]
 ·rw [if_neg h1, if_neg (show ¬ j = k from fun h => h1 h.symm)]
  by_cases h2 : k = i
  ·rw [if_pos h2, if_pos h2.symm, if_pos hi, List.getElem?_eq_getElem hj]
  ·rw [if_neg h2, if_neg (show ¬ i = k from fun h => h2 h.symm)]
structure Mv (a b : Nat) (D E : List α) : Prop where
 len : E.length = D.length
 perm : E.Perm D
 out : ∀ k, k < a ∨ b ≤ k → E[k]? = D[k]?
 inn : ∀ k, a ≤ k → k < b → ∃ j, a ≤ j ∧ j < b ∧ E[k]? = D[j]?
theorem Mv.refl (a b : Nat) (D : List α) : Mv a b D D := ⟨rfl, .refl _, fun _ _ => rfl, fun k h1 h2 => ⟨k, h1, h2, rfl⟩⟩
theorem Mv.trans {a b : Nat} {D E F : List α} (h : Mv a b D E) (h' : Mv a b E F) : Mv a b D F :=
 ⟨h'.len.trans h.len, h'.perm.trans h.perm, fun k hk => (h'.out k hk).trans (h.out k hk), fun k h1 h2 => by
  obtain ⟨j, j1, j2, j3⟩ := h'.inn k h1 h2
  obtain ⟨i, i1, i2, i3⟩ := h.inn j j1 j2
  exact ⟨i, i1, i2, j3.trans i3⟩⟩
theorem Mv.wide {a b a' b' : Nat} {D E : List α} (h : Mv a b D E) (ha : a' ≤ a) (hb : b ≤ b') : Mv a' b' D E :=
 ⟨h.len, h.perm, fun k hk => h.out k (by omega), fun k h1 h2 => by
  by_cases hk : a ≤ k ∧ k < b
  ·obtain ⟨j, j1, j2, j3⟩ := h.inn k hk.1 hk.2
   exact ⟨j, by omega, by omega, j3⟩
  ·exact ⟨k, h1, h2, h.out k (by omega)⟩⟩
theorem Mv.swp {a b i j : Nat} {D : List α} (hi : a ≤ i ∧ i < b) (hj : a ≤ j ∧ j < b) (hb : b ≤ D.length) : Mv a b D (swp D i j) := by
 have h1 : i < D.length := by omega
 have h2 : j < D.length := by omega
 refine ⟨zqW _ _ _, by rw [zc0 h1 h2]; exact List.set_set_perm h1 h2, fun k hk => ?_, fun k k1 k2 => ?_⟩
 ·rw [zcb h1 h2, if_neg (by omega), if_neg (by omega)]
 ·rw [zcb h1 h2]
  split
  ·exact ⟨i, hi.1, hi.2, rfl⟩
  ·split
   ·exact ⟨j, hj.1, hj.2, rfl⟩
   ·exact ⟨k, k1, k2, rfl⟩
def kf (c : α → Int) (D : List α) (k : Nat) : Int := (D[k]?.map c).getD 0
theorem yn (c : α → Int) {D E : List α} {k j : Nat} (h : E[k]? = D[j]?) : kf c E k = kf c D j := by unfold kf; rw [h]
theorem jX (c : α → Int) {D : List α} {k : Nat} {x : α} (h : D[k]? = some x) : kf c D k = c x := by unfold kf; rw [h]; rfl
def Sr (c : α → Int) (D : List α) (a b : Nat) : Prop := ∀ i j, a ≤ i → i ≤ j → j < b → kf c D i ≤ kf c D j
theorem Sr.out {c : α → Int} {D E : List α} {a b a' b' : Nat} (h : Sr c D a b) (hm : Mv a' b' D E) (hd : b ≤ a' ∨ b' ≤ a) : Sr c E a b := fun i j h1 h2 h3 => by
 rw [yn c (hm.out i (by omega)), yn c (hm.out j (by omega))]
 exact h i j h1 h2 h3
theorem Sr.one (c : α → Int) (D : List α) {a b : Nat} (h : b ≤ a + 1) : Sr c D a b := fun i j h1 h2 h3 => by
 obtain rfl : i = j := by omega
 exact Int.le_refl _
def Up (D E : List α) (a q : Nat) : Prop := ∀ k, E[k]? = if a ≤ k ∧ k < q then D[k + 1]? else if k = q then D[a]? else D[k]?
theorem Up.start (D : List α) (a : Nat) : Up D D a a := fun k => by
 rw [if_neg (by omega)]
 split
 ·rename_i h; rw [h]
 ·rfl
theorem Up.step {D E : List α} {a q : Nat} (h : Up D E a q) (ha : a ≤ q) (hq : q + 1 < E.length) : Up D (Go.Proofs.YtihedfkcccaonaaGreatDoor.swp E q (q + 1)) a (q + 1) := fun k => by
 rw [zcb (by omega) hq]
 by_cases h1 : k = q + 1
 ·rw [if_pos h1, h q, if_neg (by omega), if_pos rfl, if_neg (by omega), if_pos h1]
 ·rw [if_neg h1]
  by_cases h2 : k = q
  ·rw [if_pos h2, h (q + 1), if_neg (by omega), if_neg (by omega), if_pos ⟨by omega, by omega⟩, h2]
  ·rw [if_neg h2, h k]
   by_cases h3 : a ≤ k ∧ k < q
   ·rw [if_pos h3, if_pos ⟨h3.1, by omega⟩]
   ·rw [if_neg h3, if_neg h2, if_neg (by omega), if_neg h1]
theorem Up.kf {D E : List α} {a q : Nat} (h : Up D E a q) (c : α → Int) (k : Nat) : Go.Proofs.YtihedfkcccaonaaGreatDoor.kf c E k = if a ≤ k ∧ k < q then Go.Proofs.YtihedfkcccaonaaGreatDoor.kf c D (k + 1) else if k = q then Go.Proofs.YtihedfkcccaonaaGreatDoor.kf c D a else Go.Proofs.YtihedfkcccaonaaGreatDoor.kf c D k := by
 have := h k
 unfold Go.Proofs.YtihedfkcccaonaaGreatDoor.kf
 rw [this]
 split
 ·rfl
 ·split <;> rfl
def Dn (D E : List α) (m q : Nat) : Prop := ∀ k, E[k]? = if q < k ∧ k ≤ m then D[k - 1]? else if k = q then D[m]? else D[k]?
theorem Dn.start (D : List α) (m : Nat) : Dn D D m m := fun k => by
 rw [if_neg (by omega)]
 split
 ·rename_i h; rw [h]
 ·rfl
theorem Dn.step {D E : List α} {m q : Nat} (h : Dn D E m (q + 1)) (hq : q + 1 ≤ m) (hm : m < E.length) : Dn D (Go.Proofs.YtihedfkcccaonaaGreatDoor.swp E (q + 1) q) m q := fun k => by
 rw [zcb (by omega) (by omega)]
 by_cases h1 : k = q
 ·rw [if_pos h1, h (q + 1), if_neg (by omega), if_pos rfl, if_neg (by omega), if_pos h1]
 ·rw [if_neg h1]
  by_cases h2 : k = q + 1
  ·rw [if_pos h2, h q, if_neg (by omega), if_neg (by omega), if_pos ⟨by omega, by omega⟩, h2]; rfl
  ·rw [if_neg h2, h k]
   by_cases h3 : q + 1 < k ∧ k ≤ m
   ·rw [if_pos h3, if_pos ⟨by omega, h3.2⟩]
   ·rw [if_neg h3, if_neg h2, if_neg (by omega), if_neg h1]
theorem Dn.kf {D E : List α} {m q : Nat} (h : Dn D E m q) (c : α → Int) (k : Nat) : Go.Proofs.YtihedfkcccaonaaGreatDoor.kf c E k = if q < k ∧ k ≤ m then Go.Proofs.YtihedfkcccaonaaGreatDoor.kf c D (k - 1) else if k = q then Go.Proofs.YtihedfkcccaonaaGreatDoor.kf c D m else Go.Proofs.YtihedfkcccaonaaGreatDoor.kf c D k := by
 have := h k
 unfold Go.Proofs.YtihedfkcccaonaaGreatDoor.kf
 rw [this]
 split
 ·rfl
 ·split <;> rfl
def Swr (D E : List α) (a b i : Nat) : Prop := ∀ k, E[k]? = if a ≤ k ∧ k < a + i then D[k - a + b]? else if b ≤ k ∧ k < b + i then D[k - b + a]? else D[k]?
theorem Swr.start (D : List α) (a b : Nat) : Swr D D a b 0 := fun k => by rw [if_neg (by omega), if_neg (by omega)]
theorem Swr.step {D E : List α} {a b i : Nat} (h : Swr D E a b i) (hab : a + i < b) (hb : b + i < E.length) : Swr D (Go.Proofs.YtihedfkcccaonaaGreatDoor.swp E (a + i) (b + i)) a b (i + 1) := fun k => by
 rw [zcb (by omega) hb]
 by_cases h1 : k = b + i
 ·rw [if_pos h1, h (a + i), if_neg (by omega), if_neg (by omega), if_neg (by omega), if_pos ⟨by omega, by omega⟩, h1]
  congr 1; omega
 ·rw [if_neg h1]
  by_cases h2 : k = a + i
  ·rw [if_pos h2, h (b + i), if_neg (by omega), if_neg (by omega), if_pos ⟨by omega, by omega⟩, h2]
   congr 1; omega
  ·rw [if_neg h2, h k]
   by_cases h3 : a ≤ k ∧ k < a + i
   ·rw [if_pos h3, if_pos ⟨h3.1, by omega⟩]
   ·rw [if_neg h3, if_neg (show ¬ (a ≤ k ∧ k < a + (i + 1)) by omega)]
    by_cases h4 : b ≤ k ∧ k < b + i
    ·rw [if_pos h4, if_pos ⟨h4.1, by omega⟩]
    ·rw [if_neg h4, if_neg (by omega)]
def Rot (D E : List α) (s m e : Nat) : Prop := ∀ k, E[k]? = if s ≤ k ∧ k < s + (e - m) then D[k - s + m]? else if s + (e - m) ≤ k ∧ k < e then D[k - (s + (e - m)) + s]? else D[k]?
def Rst (D E : List α) (s m e i j : Nat) : Prop := ∀ F, Rot E F (m - i) m (m + j) → Rot D F s m e
theorem Rst.start {D : List α} {s m e : Nat} (hs : s ≤ m) (he : m ≤ e) : Rst D D s m e (m - s) (e - m) := fun F h => by
 rw [show m - (m - s) = s by omega, show m + (e - m) = e by omega] at h
 exact h
theorem Rst.more {D E E' : List α} {s m e i j : Nat} (h : Rst D E s m e i j) (hj : j < i) (hi : i ≤ m) (hE : Swr E E' (m - i) m j) : Rst D E' s m e (i - j) j := fun F hF => h F fun k => by
 rw [hF k, show m - (i - j) = m - i + j by omega, show m + j - m = j by omega, show m - i + j + j = m - i + 2 * j by omega]
 by_cases c1 : m - i ≤ k ∧ k < m - i + j
 ·rw [if_neg (by omega), if_neg (by omega), if_pos c1, hE k, if_pos c1]
 ·rw [if_neg c1]
  by_cases c2 : m - i + j ≤ k ∧ k < m + j
  ·rw [if_pos c2]
   by_cases c3 : k < m - i + 2 * j
   ·rw [if_pos (by omega), hE, if_neg (by omega), if_pos (by omega)]
    congr 1; omega
   ·rw [if_neg (by omega), if_pos (by omega), hE, if_neg (by omega), if_neg (by omega)]
    congr 1; omega
  ·rw [if_neg c2, if_neg (by omega), if_neg (by omega), hE, if_neg c1, if_neg (by omega)]
theorem Rst.less {D E E' : List α} {s m e i j : Nat} (h : Rst D E s m e i j) (hj : i < j) (hi : i ≤ m) (hE : Swr E E' (m - i) (m + j - i) i) : Rst D E' s m e i (j - i) := fun F hF => h F fun k => by
 rw [hF k, show m + (j - i) - m = j - i by omega, show m + j - m = j by omega]
 by_cases c1 : m - i ≤ k ∧ k < m - i + j
 ·rw [if_pos c1]
  by_cases c2 : k < m - i + (j - i)
  ·rw [if_pos (by omega), hE, if_neg (by omega), if_neg (by omega)]
  ·rw [if_neg (by omega), if_pos (by omega), hE, if_pos (by omega)]
   congr 1; omega
 ·rw [if_neg c1]
  by_cases c2 : m - i + j ≤ k ∧ k < m + j
  ·rw [if_pos c2, if_neg (by omega), if_neg (by omega), hE, if_neg (by omega), if_pos (by omega)]
   congr 1; omega
  ·rw [if_neg c2, if_neg (by omega), if_neg (by omega), hE, if_neg (by omega), if_neg (by omega)]
theorem Rst.last {D E E' : List α} {s m e i : Nat} (h : Rst D E s m e i i) (hi : i ≤ m) (hE : Swr E E' (m - i) m i) : Rot D E' s m e := h E' fun k => by
 rw [hE k, show m + i - m = i by omega, show m - i + i = m by omega]
theorem znC {c : α → Int} {D E H K : List α} {a m b mid n s0 r0 s : Nat} (ham : a < m) (hmb : m < b) (hmid : mid = (a + b) / 2) (hn : n = mid + m) (h0 : (mid < m ∧ s0 = n - b ∧ r0 = mid) ∨ (m ≤ mid ∧ s0 = a ∧ r0 = m)) (hs : s0 ≤ s ∧ s ≤ r0)
  (hu : Sr c D a m) (hv : Sr c D m b) (h1 : ∀ k, s0 ≤ k → k < s → kf c D k ≤ kf c D (n - 1 - k)) (h2 : ∀ k, s ≤ k → k < r0 → kf c D (n - 1 - k) < kf c D k)
  (hR : Rot D E s m (n - s)) (hH : Mv a mid E H) (sH : Sr c H a mid) (hK : Mv mid b H K) (sK : Sr c K mid b) : Sr c K a b := by
 obtain ⟨key, k1, k2, k3, k4, k5, k6⟩ := zkR (f := kf c D) ham hmb hmid hn h0 hs hu hv h1 h2
 intro i j i1 i2 i3
 by_cases c1 : j < mid
 ·rw [yn c (hK.out i (by omega)), yn c (hK.out j (by omega))]
  exact sH i j i1 i2 c1
 ·by_cases c2 : mid ≤ i
  ·exact sK i j c2 i2 i3
  ·obtain ⟨x, x1, x2, x3⟩ := hH.inn i i1 (by omega)
   obtain ⟨y, y1, y2, y3⟩ := hK.inn j (by omega) i3
   have hj : kf c K j = kf c D (if y < n - s then y - mid + s else y) := by
    rw [yn c y3, yn c (hH.out y (by omega))]
    refine yn c ?_
    rw [hR y, show s + (n - s - m) = mid by omega, if_neg (by omega)]
    by_cases c4 : y < n - s
    ·rw [if_pos (by omega), if_pos c4]
    ·rw [if_neg (by omega), if_neg c4]
   have hi : kf c K i = kf c D (if x < s then x else x - s + m) := by
    rw [yn c (hK.out i (by omega)), yn c x3]
    refine yn c ?_
    rw [hR x, show s + (n - s - m) = mid by omega]
    by_cases c3 : x < s
    ·rw [if_neg (by omega), if_neg (by omega), if_pos c3]
    ·rw [if_pos ⟨by omega, x2⟩, if_neg c3]
   rw [hi, hj]
   refine key _ _ ?_ ?_
   ·split <;> omega
   ·split <;> omega
theorem znB {c : α → Int} {D E : List α} {a m b mid s e : Nat} (hmid : mid = s + (e - m)) (hs : a ≤ s) (hsm : s ≤ m) (hme : m ≤ e) (heb : e ≤ b) (hu : Sr c D a m) (hv : Sr c D m b) (hR : Rot D E s m e) : Sr c E a s ∧ Sr c E s mid ∧ Sr c E mid e ∧ Sr c E e b := by
 have A : ∀ k, k < s → kf c E k = kf c D k := fun k hk => yn c (by rw [hR, if_neg (by omega), if_neg (by omega)])
 have B : ∀ k, s ≤ k → k < mid → kf c E k = kf c D (k - s + m) := fun k h1 h2 => yn c (by rw [hR, if_pos (by omega)])
 have C : ∀ k, mid ≤ k → k < e → kf c E k = kf c D (k - (s + (e - m)) + s) := fun k h1 h2 => yn c (by rw [hR, if_neg (by omega), if_pos (by omega)])
 have F : ∀ k, e ≤ k → kf c E k = kf c D k := fun k hk => yn c (by rw [hR, if_neg (by omega), if_neg (by omega)])
 refine ⟨fun i j h1 h2 h3 => ?_, fun i j h1 h2 h3 => ?_, fun i j h1 h2 h3 => ?_, fun i j h1 h2 h3 => ?_⟩
 ·rw [A i (by omega), A j h3]
  exact hu i j h1 h2 (by omega)
 ·rw [B i h1 (by omega), B j (by omega) h3]
  exact hv _ _ (by omega) (by omega) (by omega)
 ·rw [C i h1 (by omega), C j (by omega) h3]
  exact hu _ _ (by omega) (by omega) (by omega)
 ·rw [F i h1, F j (by omega)]
  exact hv i j (by omega) h2 h3
end
theorem jr : slB Tryz.prog 89 = some (91, 2, 16) := by kernel_rfl
theorem xH : agB Tryz.prog 91 = some 2 := by kernel_rfl
theorem zbq : szB Tryz.prog 91 = some 2 := by kernel_rfl
theorem zqc : zJ Tryz.prog 272 = true := by kernel_rfl
theorem zyF : zJ Tryz.prog 208 = true := by kernel_rfl
def RSt : Gm → List Value → Int × Int → Prop := fun _ cs y => cs = [iV y.1, iV y.2]
theorem za0 : zam RSt := fun _ _ _ _ _ h => h
abbrev rowS (a : Option Addr) (n c : Nat) (cells : List Value) : Row := ⟨91, 2, n, .slice a n c, cells⟩
section
variable {P : Program} {F : Fr} {w : World} {d : Option Nat} {t u : TypeId} {ty : TypeId} {pos : String} {af : Array Edge} {gd : Option (Nat × Bool)} {x y : Operand} {m n : Nat}
theorem zgR {n : Nat} (h : n ≤ 4000) : IntKind.i64.wrap (n : Int) = (n : Int) := qt ⟨by omega, by omega⟩
theorem zX (hx : ev F x = iV (m : Int)) (hy : ev F y = iV (n : Int)) (h : m + n ≤ 4000) : (execOp (ev F) ⟨d, .binOp .add t x y u, ty, pos, af, gd⟩).run P w = .ok (.value (iV ((m + n : Nat) : Int))) w := by
 rw [jz hx hy, show ((m : Int) + (n : Int)) = ((m + n : Nat) : Int) by omega, zgR h]
theorem qH (hx : ev F x = iV (m : Int)) (hy : ev F y = iV (n : Int)) (h1 : n ≤ m) (h : m ≤ 4000) : (execOp (ev F) ⟨d, .binOp .sub t x y u, ty, pos, af, gd⟩).run P w = .ok (.value (iV ((m - n : Nat) : Int))) w := by
 rw [vd hx hy, show ((m : Int) - (n : Int)) = ((m - n : Nat) : Int) by omega, zgR (by omega)]
end
theorem yt {u v : Value} (hu : u.oneCell' = true) (hv : v.oneCell' = true) : ∀ x ∈ [u, v], x.oneCell' = true := fun x hx => by
 rcases List.mem_cons.1 hx with rfl | hx
 ·exact hu
 ·obtain rfl := List.mem_singleton.1 hx; exact hv
theorem x7 {α : Type} {D : List α} {i : Nat} (h : i < D.length) (y : α) : zet D (i : Int) y = some (D.set i y) := by
 unfold zet
 rw [if_pos ⟨by omega, by omega⟩]
 rfl
theorem yo {α : Type} {D : List α} {i : Nat} (h : i < D.length) : ix D (i : Int) = some D[i] := (zo6 _ _).trans (List.getElem?_eq_getElem h)
theorem kZ {σ : Type} {κ : Ctx} {P : Program} {N : Nat} {n r : Fr → World → Prop} {x : List (Nat × (Fr → World → Prop))} {p : List PanicEntry → Fr → World → Prop} {c : Code} (μ : σ → Nat) (J : σ → Fr → World → Prop)
  (step : ∀ s F w, J s F w → WC κ P N c ⟨fun F' w' => ∃ s', μ s' < μ s ∧ J s' F' w', r, x, p⟩ F w) (s : σ) (F : Fr) (w : World) (h : J s F w) : WI κ P N c ⟨n, r, x, p⟩ F w := by
 have key : ∀ d s F w, μ s < d → J s F w → WI κ P N c ⟨n, r, x, p⟩ F w := by
  intro d
  induction d with
  | zero => intro s F w h; omega
  | succ d ih =>
   intro s F w hd hJ
   refine qg (zhS (fun e F' w' he => ?_) (step s F w hJ))
   cases e with
   | normal =>
    obtain ⟨s', h1, h2⟩ := he
    exact ih s' F' w' (by omega) h2
   | _ => exact he
 exact key _ s F w (Nat.lt_succ_self _) h
section
variable {B : Nat} {G0 Gc : Gm} {w0 wc : World} {Lq : List Row} {a : Option Addr} {n c : Nat} {cells : List Value} {D : List (Int × Int)} {fv : Value}
theorem zhE {i j m : Nat} (hS : Since B G0 w0 Gc wc) (hO : Owns Gc wc B (rowS a n c cells :: Lq)) (hr : Rd RSt 2 Gc cells D) (hn : n = D.length) (hij : i + m ≤ j) (hj : j + m ≤ n) (hD : n ≤ 1000) :
  Calls Tryz.prog 272 [.slice a n c, iV (i : Int), iV (j : Int), iV (m : Int), fv].toArray wc (jP B G0 w0 Gc wc (fun G' L' _ => ∃ cells' E, L' = rowS a n c cells' :: Lq ∧ Rd RSt 2 G' cells' E ∧ Swr D E i j m ∧ Mv i (j + m) D E)) := by
 refine yP (N := 38) (rs := []) hO.base Tryz.func272 rfl rfl rfl rfl (zd (zb (za (zf (v := iV 0) rfl) rfl (ze ?_))))
 refine zp (qh (qN m (fun k F w => ∃ Fb cells E, F = qi Fb [(0, .slice a n c), (1, iV (i : Int)), (2, iV (j : Int)), (3, iV (m : Int)), (10, iV (k : Int))] ∧ Since B G0 w0 Gc w ∧ Owns Gc w B (rowS a n c cells :: Lq) ∧ Rd RSt 2 Gc cells E ∧ Swr D E i j k ∧ Mv i (j + m) D E) ?_ ?_ m 0 _ _ (by omega) ⟨_, cells, D, zi _ _ ⟨rfl, rfl, rfl, rfl, rfl, trivial⟩, hS, hO, hr, Swr.start _ _ _, Mv.refl _ _ _⟩))
 ·rintro k F w hk ⟨Fb, cells, E, rfl, hS, hO, hr, hs, hm⟩
  have hl : n = E.length := by rw [hm.len]; exact hn
  have h1 : i + k < E.length := by omega
  have h2 : j + k < E.length := by omega
  refine zd (zd (zb (za (zc (v := iV (k : Int)) rfl) rfl (za (zc (v := iV (m : Int)) rfl) rfl (za (zN rfl rfl) rfl (ze (zQ (decide ((k : Int) < (m : Int))) (decide_eq_true (by omega)) rfl (zq ?_))))))))
  refine zd (zp (zM qw (C2 [13, 19] (fun _ => True) (fun w => Owns Gc w B (rowS a n c cells :: Lq))) (.fl 0 (.fl 1 (.fl 2 (.fl 3 (.fl 4 (.fl 5 (.fl 6 (.fl 7 (.fl 8 (.fl 9 (.fl 10 (.fl 11 (.fl 12 (.fl 13 (.fl 14 (.fl 15 (.fl 16 (.fl 17 (.fl 18 (.fl 19 (.fl 20 (.on 21 (.fl 22 (.on 23 .nil)))))))))))))))))))))))) (by kernel_rfl) rfl (by kernel_rfl) (fun _ => ⟨trivial, fun _ => hO.below (zj _)⟩) ?_))
  have hS := hS.keep (zj w)
  have hO := hO.below (zj w)
  refine zh rfl (fun w hw => zc (v := .slice a n c) rfl) rfl (zh rfl (fun w hw => zc (v := iV (i : Int)) rfl) rfl (zh rfl (fun w hw => zc (v := iV (k : Int)) rfl) rfl (zh rfl (fun w hw => zX (m := i) (n := k) rfl rfl (by omega)) rfl ?_)))
  refine zh rfl (fun w hw => zc (v := .slice a n c) rfl) rfl (zh rfl (fun w hw => zc (v := iV (j : Int)) rfl) rfl (zh rfl (fun w hw => zc (v := iV (k : Int)) rfl) rfl (zh rfl (fun w hw => zX (m := j) (n := k) rfl rfl (by omega)) rfl ?_)))
  refine zh rfl (fun w hw => zc (v := .slice a n c) rfl) rfl (zh rfl (fun w hw => zc (v := iV (j : Int)) rfl) rfl (zh rfl (fun w hw => zc (v := iV (k : Int)) rfl) rfl (zh rfl (fun w hw => zX (m := j) (n := k) rfl rfl (by omega)) rfl ?_)))
  refine q9 rfl jr hO (k := 0) rfl hl hr (yo h2) rfl rfl rfl ?_
  rintro b1 o1 _ hb1 _ hc1 ⟨⟩
  refine zh rfl (fun w hw => zu xH (cs := [iV E[j + k].1, iV E[j + k].2]) rfl rfl fun t v ht => qR (hw.2 rfl) (k := 0) rfl hb1 _ t (hc1 t v ht)) rfl ?_
  refine zh rfl (fun w hw => zc (v := .slice a n c) rfl) rfl (zh rfl (fun w hw => zc (v := iV (i : Int)) rfl) rfl (zh rfl (fun w hw => zc (v := iV (k : Int)) rfl) rfl (zh rfl (fun w hw => zX (m := i) (n := k) rfl rfl (by omega)) rfl ?_)))
  refine q9 rfl jr hO (k := 0) rfl hl hr (yo h1) rfl rfl rfl ?_
  rintro b2 o2 _ hb2 _ hc2 ⟨⟩
  refine zh rfl (fun w hw => zu xH (cs := [iV E[i + k].1, iV E[i + k].2]) rfl rfl fun t v ht => qR (hw.2 rfl) (k := 0) rfl hb2 _ t (hc2 t v ht)) rfl ?_
  refine q9 rfl jr hO (k := 0) rfl hl hr (yo h1) rfl rfl rfl ?_
  rintro b3 o3 _ hb3 _ hc3 ⟨⟩
  refine zD rfl rfl (yZ (vs := [iV E[j + k].1, iV E[j + k].2]) (cs := [iV E[i + k].1, iV E[i + k].2]) (j := 0) (y := E[j + k]) zbq hS hO (k := 0) rfl hl rfl hr hb3 rfl hc3 (x7 h1 _) rfl rfl rfl rfl rfl (yt rfl rfl) (nQl rfl) (fun w9 cells9 hS hO hr => ⟨zlh trivial (zhm (by kernel_rfl)), ?_⟩))
  have hO : Owns Gc w9 B (rowS a n c cells9 :: Lq) := hO
  have hl2 : n = (E.set (i + k) E[j + k]).length := by rw [List.length_set]; exact hl
  have h2' : j + k < (E.set (i + k) E[j + k]).length := by omega
  refine q9 rfl jr hO (k := 0) rfl hl2 hr (yo h2') rfl rfl rfl ?_
  rintro b4 o4 _ hb4 _ hc4 ⟨⟩
  refine zD rfl rfl (yZ (vs := [iV E[i + k].1, iV E[i + k].2]) (cs := [iV _, iV _]) (j := 0) (y := E[i + k]) zbq hS hO (k := 0) rfl hl2 rfl hr hb4 rfl hc4 (x7 h2' _) rfl rfl rfl rfl rfl (yt rfl rfl) (nQl rfl) (fun w8 cells8 hS hO hr => ⟨fun _ h => zR (by kernel_rfl) h, qp ?_⟩))
  rw [← zc0 h1 h2] at hr
  refine zb (za (zc (v := iV (k : Int)) rfl) rfl (za (zX (m := k) (n := 1) rfl rfl (by omega)) rfl (za (zf (v := iV ((k + 1 : Nat) : Int)) rfl) rfl (ze ?_))))
  exact ⟨_, cells8, _, zi _ _ ⟨rfl, rfl, rfl, rfl, rfl, trivial⟩, hS, hO, hr, hs.step (by omega) h2, hm.trans (Mv.swp ⟨by omega, by omega⟩ ⟨by omega, by omega⟩ (by omega))⟩
 ·rintro F w ⟨Fb, cells, E, rfl, hS, hO, hr, hs, hm⟩
  refine qg (zd (zd (zb (za (zc (v := iV (m : Int)) rfl) rfl (za (zc (v := iV (m : Int)) rfl) rfl (za (zN rfl rfl) rfl (ze (zH (decide ((m : Int) < (m : Int))) (decide_eq_false (by omega)) rfl (zW rfl ?_)))))))))
  exact ⟨[], trivial, Gc, _, Gle.refl _, hS, hO, cells, E, rfl, hr, hs, hm⟩
theorem zsp {s m e : Nat} (hS : Since B G0 w0 Gc wc) (hO : Owns Gc wc B (rowS a n c cells :: Lq)) (hr : Rd RSt 2 Gc cells D) (hn : n = D.length) (hsm : s < m) (hme : m < e) (he : e ≤ n) (hD : n ≤ 1000) :
  Calls Tryz.prog 208 [.slice a n c, iV (s : Int), iV (m : Int), iV (e : Int), fv].toArray wc (jP B G0 w0 Gc wc (fun G' L' _ => ∃ cells' E, L' = rowS a n c cells' :: Lq ∧ Rd RSt 2 G' cells' E ∧ Rot D E s m e ∧ Mv s e D E)) := by
 refine yP (N := 58) (rs := []) hO.base Tryz.func208 rfl rfl rfl rfl (zd (zb (za (zc (v := iV (m : Int)) rfl) rfl (za (zc (v := iV (s : Int)) rfl) rfl (za (qH (m := m) (n := s) rfl rfl (by omega) (by omega)) rfl (za (zf (v := iV ((m - s : Nat) : Int)) rfl) rfl (ze ?_)))))))
 refine zd (zb (za (zc (v := iV (e : Int)) rfl) rfl (za (zc (v := iV (m : Int)) rfl) rfl (za (qH (m := e) (n := m) rfl rfl (by omega) (by omega)) rfl (za (zf (v := iV ((e - m : Nat) : Int)) rfl) rfl (ze ?_))))))
 refine zd (zZ (fun F w => ∃ Fb, ∃ i : Nat, ∃ G cells E, F = qi Fb [(0, .slice a n c), (1, iV (s : Int)), (2, iV (m : Int)), (3, iV (e : Int)), (4, fv), (10, iV (i : Int))] ∧ 0 < i ∧ i ≤ m - s ∧ i ≤ e - m ∧ Gle Gc G ∧ Since B G0 w0 G w ∧ Owns G w B (rowS a n c cells :: Lq) ∧ Rd RSt 2 G cells E ∧ Rst D E s m e i i ∧ Mv s e D E) ?_ ?_)
 ·refine zp (qh (kZ (fun ij : Nat × Nat => ij.1 + ij.2) (fun ij F w => ∃ Fb G cells E, F = qi Fb [(0, .slice a n c), (1, iV (s : Int)), (2, iV (m : Int)), (3, iV (e : Int)), (4, fv), (10, iV (ij.1 : Int)), (11, iV (ij.2 : Int))] ∧ 0 < ij.1 ∧ 0 < ij.2 ∧ ij.1 ≤ m - s ∧ ij.2 ≤ e - m ∧ Gle Gc G ∧ Since B G0 w0 G w ∧ Owns G w B (rowS a n c cells :: Lq) ∧ Rd RSt 2 G cells E ∧ Rst D E s m e ij.1 ij.2 ∧ Mv s e D E) ?_ (m - s, e - m) _ _ ⟨_, Gc, cells, D, zi _ _ ⟨rfl, rfl, rfl, rfl, rfl, rfl, rfl, trivial⟩, by simp; omega, by simp; omega, Nat.le_refl _, Nat.le_refl _, Gle.refl _, hS, hO, hr, Rst.start (by omega) (by omega), Mv.refl _ _ _⟩))
  rintro ⟨i, j⟩ F w ⟨Fb, G, cells, E, rfl, i0, j0, i1, j1, le, hS, hO, hr, hs, hm⟩
  simp only at i0 j0 i1 j1 hs
  have hl : n = E.length := by rw [hm.len]; exact hn
  refine zd (zd (zb (za (zc (v := iV (i : Int)) rfl) rfl (za (zc (v := iV (j : Int)) rfl) rfl (za (jy rfl rfl) rfl (ze (zV rfl (fun hb => ?_) (fun hb => ?_))))))))
  ·have hne : i ≠ j := by intro h; subst h; simp at hb
   refine zq (zp (zd (zb (za (zc (v := iV (i : Int)) rfl) rfl (za (zc (v := iV (j : Int)) rfl) rfl (za (ve rfl rfl) rfl (ze (zV rfl (fun hb => ?_) (fun hb => ?_)))))))))
   ·have hji : j < i := by have := of_decide_eq_true hb; omega
    refine zd (zb (za (zc (v := .slice a n c) rfl) rfl (za (zc (v := iV (m : Int)) rfl) rfl (za (zc (v := iV (i : Int)) rfl) rfl (za (qH (m := m) (n := i) rfl rfl (by omega) (by omega)) rfl (za (zc (v := iV (m : Int)) rfl) rfl (za (zc (v := iV (j : Int)) rfl) rfl (za (zc (v := fv) rfl) rfl ?_))))))))
    refine zm rfl (z9 (fi := []) (al := [.slice a n c, iV ((m - i : Nat) : Int), iV (m : Int), iV (j : Int), fv]) (ca := []) zqc (zhE hS hO hr hl (by omega) (by omega) hD) rfl rfl rfl fun v G1 w1 L1 le1 hS hO hv => ?_)
    obtain ⟨cells1, E1, rfl, hr, hE, hM⟩ := hv
    refine ze (zb (za (zc (v := iV (i : Int)) rfl) rfl (za (zc (v := iV (j : Int)) rfl) rfl (za (qH (m := i) (n := j) rfl rfl (by omega) (by omega)) rfl (za (zf (v := iV ((i - j : Nat) : Int)) rfl) rfl (ze ?_))))))
    exact ⟨(i - j, j), by simp; omega, _, G1, cells1, E1, zi _ _ ⟨rfl, rfl, rfl, rfl, rfl, rfl, rfl, trivial⟩, by simp; omega, j0, by simp; omega, j1, le.trans le1, hS, hO, hr, hs.more hji (by omega) hE, hm.trans (hM.wide (by omega) (by omega))⟩
   ·have hji : i < j := by have := of_decide_eq_false hb; omega
    refine zd (zb (za (zc (v := .slice a n c) rfl) rfl (za (zc (v := iV (m : Int)) rfl) rfl (za (zc (v := iV (i : Int)) rfl) rfl (za (qH (m := m) (n := i) rfl rfl (by omega) (by omega)) rfl (za (zc (v := iV (m : Int)) rfl) rfl (za (zc (v := iV (j : Int)) rfl) rfl (za (zX (m := m) (n := j) rfl rfl (by omega)) rfl (za (zc (v := iV (i : Int)) rfl) rfl (za (qH (m := m + j) (n := i) rfl rfl (by omega) (by omega)) rfl (za (zc (v := iV (i : Int)) rfl) rfl (za (zc (v := fv) rfl) rfl ?_))))))))))))
    refine zm rfl (z9 (fi := []) (al := [.slice a n c, iV ((m - i : Nat) : Int), iV ((m + j - i : Nat) : Int), iV (i : Int), fv]) (ca := []) zqc (zhE hS hO hr hl (by omega) (by omega) hD) rfl rfl rfl fun v G1 w1 L1 le1 hS hO hv => ?_)
    obtain ⟨cells1, E1, rfl, hr, hE, hM⟩ := hv
    refine ze (zb (za (zc (v := iV (j : Int)) rfl) rfl (za (zc (v := iV (i : Int)) rfl) rfl (za (qH (m := j) (n := i) rfl rfl (by omega) (by omega)) rfl (za (zf (v := iV ((j - i : Nat) : Int)) rfl) rfl (ze ?_))))))
    exact ⟨(i, j - i), by simp; omega, _, G1, cells1, E1, zi _ _ ⟨rfl, rfl, rfl, rfl, rfl, rfl, rfl, trivial⟩, i0, by simp; omega, i1, by simp; omega, le.trans le1, hS, hO, hr, hs.less hji (by omega) hE, hm.trans (hM.wide (by omega) (by omega))⟩
  ·have hne : i = j := by
    have h : (i : Int) = (j : Int) := by simpa using hb
    omega
   subst hne
   exact zW rfl ⟨_, i, G, cells, E, zi _ _ ⟨rfl, rfl, rfl, rfl, rfl, rfl, trivial⟩, i0, i1, j1, le, hS, hO, hr, hs, hm⟩
 ·rintro F w ⟨Fb, i, G, cells, E, rfl, i0, i1, j1, le, hS, hO, hr, hs, hm⟩
  have hl : n = E.length := by rw [hm.len]; exact hn
  refine zb (za (zc (v := .slice a n c) rfl) rfl (za (zc (v := iV (m : Int)) rfl) rfl (za (zc (v := iV (i : Int)) rfl) rfl (za (qH (m := m) (n := i) rfl rfl (by omega) (by omega)) rfl (za (zc (v := iV (m : Int)) rfl) rfl (za (zc (v := iV (i : Int)) rfl) rfl (za (zc (v := fv) rfl) rfl ?_)))))))
  refine zm rfl (z9 (fi := []) (al := [.slice a n c, iV ((m - i : Nat) : Int), iV (m : Int), iV (i : Int), fv]) (ca := []) zqc (zhE hS hO hr hl (by omega) (by omega) hD) rfl rfl rfl fun v G1 w1 L1 le1 hS hO hv => ?_)
  obtain ⟨cells1, E1, rfl, hr, hE, hM⟩ := hv
  exact ze ⟨[], trivial, G1, _, le.trans le1, hS, hO, cells1, E1, rfl, hr, hs.last (by omega) hE, hm.trans (hM.wide (by omega) (by omega))⟩
end
theorem znf {p : Int × Int → Bool} {key : Int × Int → Int} {D E : List (Int × Int)} {n : Nat} {s : Int × Int} (hs : Sr key E 0 n) (hl : E.length = n) (hp : E.Perm D) (h : E.find? p = some s) : s ∈ D ∧ p s = true ∧ ∀ x ∈ D, p x = true → key s ≤ key x := by
 obtain ⟨h1, i, hi, h2, h3⟩ := List.find?_eq_some_iff_getElem.1 h
 refine ⟨hp.mem_iff.1 (h2 ▸ List.getElem_mem hi), h1, fun x hx hpx => ?_⟩
 obtain ⟨j, hj, rfl⟩ := List.mem_iff_getElem.1 (hp.mem_iff.2 hx)
 rcases Nat.lt_or_ge j i with hji | hji
 ·have := h3 j hji
  rw [hpx] at this
  cases this
 ·have := hs i j (Nat.zero_le _) hji (by omega)
  rw [jX key (List.getElem?_eq_getElem hi), jX key (List.getElem?_eq_getElem hj), h2] at this
  exact this
theorem zng {p : Int × Int → Bool} {D E : List (Int × Int)} (hp : E.Perm D) (h : E.find? p = none) : ∀ x ∈ D, p x = false := fun x hx => by
 have := List.find?_eq_none.1 h x (hp.mem_iff.2 hx)
 simpa using this
def CmpOk (B : Nat) (G0 Gc : Gm) (w0 : World) (Lq : List Row) (a : Option Addr) (n c kc : Nat) (ca : List Value) (key : Int × Int → Int) (D : List (Int × Int)) : Prop :=
 zJ Tryz.prog kc = true ∧ ∀ G w cells, Gle Gc G → Since B G0 w0 G w → Owns G w B (rowS a n c cells :: Lq) → ∀ x ∈ D, ∀ y ∈ D, ∃ r : Int, (r < 0 ↔ key x < key y) ∧ Calls Tryz.prog kc ([] ++ [Value.agg #[iV x.1, iV x.2], .agg #[iV y.1, iV y.2]] ++ ca).toArray w (qW w (iV r))
theorem CmpOk.le {B : Nat} {G0 Gc G : Gm} {w0 : World} {Lq : List Row} {a : Option Addr} {n c kc : Nat} {ca : List Value} {key : Int × Int → Int} {D E : List (Int × Int)} (h : CmpOk B G0 Gc w0 Lq a n c kc ca key D) (le : Gle Gc G) (hp : E.Perm D) : CmpOk B G0 G w0 Lq a n c kc ca key E :=
 ⟨h.1, fun G w cells l hS hO x hx y hy => h.2 G w cells (le.trans l) hS hO x (hp.mem_iff.1 hx) y (hp.mem_iff.1 hy)⟩
section
variable {B : Nat} {G0 Gc : Gm} {w0 wc : World} {Lq : List Row} {a : Option Addr} {n c kc : Nat} {cells ca : List Value} {D : List (Int × Int)} {key : Int × Int → Int}
set_option maxHeartbeats 2000000 in
theorem zbe {s e : Nat} (hS : Since B G0 w0 Gc wc) (hO : Owns Gc wc B (rowS a n c cells :: Lq)) (hr : Rd RSt 2 Gc cells D) (hn : n = D.length) (hse : s < e) (he : e ≤ n) (hD : n ≤ 1000) (hcmp : CmpOk B G0 Gc w0 Lq a n c kc ca key D) :
  Calls Tryz.prog 161 [.slice a n c, iV (s : Int), iV (e : Int), .func (.func kc) #[] ca.toArray].toArray wc (jP B G0 w0 Gc wc (fun G' L' _ => ∃ cells' E, L' = rowS a n c cells' :: Lq ∧ Rd RSt 2 G' cells' E ∧ Sr key E s e ∧ Mv s e D E)) := by
 refine yP (N := 53) (rs := []) hO.base Tryz.func161 rfl rfl rfl rfl (zd (zb (za (zc (v := iV (s : Int)) rfl) rfl (za (zX (m := s) (n := 1) rfl rfl (by omega)) rfl (za (zf (v := iV ((s + 1 : Nat) : Int)) rfl) rfl (ze ?_))))))
 refine zp (qh (kZ (fun i : Nat => e - i) (fun i F w => ∃ Fb G cells E, F = qi Fb [(0, .slice a n c), (1, iV (s : Int)), (2, iV (e : Int)), (3, .func (.func kc) #[] ca.toArray), (8, iV (i : Int))] ∧ s < i ∧ i ≤ e ∧ Gle Gc G ∧ Since B G0 w0 G w ∧ Owns G w B (rowS a n c cells :: Lq) ∧ Rd RSt 2 G cells E ∧ Sr key E s i ∧ Mv s e D E) ?_ (s + 1) _ _ ⟨_, Gc, cells, D, zi _ _ ⟨rfl, rfl, rfl, rfl, rfl, trivial⟩, Nat.lt_succ_self _, hse, Gle.refl _, hS, hO, hr, Sr.one _ _ (Nat.le_refl _), Mv.refl _ _ _⟩))
 rintro i F w ⟨Fb, G, cells, D1, rfl, i0, i1, le, hS, hO, hr, hs, hm⟩
 refine zd (zd (zb (za (zc (v := iV (i : Int)) rfl) rfl (za (zc (v := iV (e : Int)) rfl) rfl (za (zN rfl rfl) rfl (ze (zV rfl (fun hb => ?_) (fun hb => ?_))))))))
 ·have hie : i < e := by have := of_decide_eq_true hb; omega
  refine zq (zd (zp (zd (zb (za (zc (v := iV (i : Int)) rfl) rfl (za (zf (v := iV (i : Int)) rfl) rfl (ze ?_)))))))
  have hl1 : n = D1.length := by rw [hm.len]; exact hn
  have hcmp := hcmp.le le hm.perm
  refine zZ (fun F w => ∃ Fb G cells E, F = qi Fb [(0, .slice a n c), (1, iV (s : Int)), (2, iV (e : Int)), (3, .func (.func kc) #[] ca.toArray), (8, iV (i : Int))] ∧ Gle Gc G ∧ Since B G0 w0 G w ∧ Owns G w B (rowS a n c cells :: Lq) ∧ Rd RSt 2 G cells E ∧ Sr key E s (i + 1) ∧ Mv s e D E) ?_ ?_
  ·refine zp (qh (kZ (fun j : Nat => j) (fun j F w => ∃ Fb cells E, F = qi Fb [(0, .slice a n c), (1, iV (s : Int)), (2, iV (e : Int)), (3, .func (.func kc) #[] ca.toArray), (8, iV (i : Int)), (9, iV (j : Int))] ∧ s ≤ j ∧ j ≤ i ∧ Since B G0 w0 G w ∧ Owns G w B (rowS a n c cells :: Lq) ∧ Rd RSt 2 G cells E ∧ Dn D1 E i j ∧ (∀ k, j ≤ k → k < i → kf key D1 i ≤ kf key D1 k) ∧ Mv s e D1 E) ?_ i _ _ ⟨_, cells, D1, zi _ _ ⟨rfl, rfl, rfl, rfl, rfl, rfl, trivial⟩, Nat.le_of_lt i0, Nat.le_refl _, hS, hO, hr, Dn.start _ _, fun k h1 h2 => by omega, Mv.refl _ _ _⟩))
   rintro j F w ⟨Fb, cells, E, rfl, j0, j1, hS, hO, hr, hd, hk, hm2⟩
   have hl : n = E.length := by rw [hm2.len]; exact hl1
   have hfin : (∀ k, s ≤ k → k < j → kf key D1 k ≤ kf key D1 i) → Sr key E s (i + 1) := fun h => ziB j0 j1 (hd.kf key) hs h hk
   refine zd (zd (zM qw (fun _ w => Owns G w B (rowS a n c cells :: Lq)) (.fl 0 (.fl 1 (.fl 2 (.fl 3 (.fl 4 (.fl 5 (.fl 6 (.fl 7 (.fl 8 (.fl 9 (.fl 10 (.fl 11 (.fl 12 (.fl 13 (.on 14 (.fl 15 (.fl 16 .nil))))))))))))))))) (by kernel_rfl) rfl (by kernel_rfl) (fun _ => hO.below (zj _)) ?_))
   have hS := hS.keep (zj w)
   have hO := hO.below (zj w)
   rcases Nat.lt_or_ge s j with hsj | hsj
   ·obtain ⟨q, rfl⟩ : ∃ q, j = q + 1 := ⟨j - 1, by omega⟩
    have hp : q + 1 < E.length := by omega
    have ho : q < E.length := by omega
    refine zh rfl (fun w hw => zc (v := iV ((q + 1 : Nat) : Int)) rfl) rfl (zh rfl (fun w hw => zc (v := iV (s : Int)) rfl) rfl (zh (v := .bool true) rfl (fun w hw => (ve (m := ((q + 1 : Nat) : Int)) (n := (s : Int)) rfl rfl).trans (by rw [decide_eq_true (by omega)])) rfl (zh rfl (fun w hw => zc (v := .bool true) rfl) rfl ?_)))
    refine qF rfl rfl (b := true) rfl rfl rfl (fun w hw => zc (v := .func (.func kc) #[] ca.toArray) rfl) rfl (qF rfl rfl (b := true) rfl rfl rfl (fun w hw => zc (v := .slice a n c) rfl) rfl (qF rfl rfl (b := true) rfl rfl rfl (fun w hw => zc (v := iV ((q + 1 : Nat) : Int)) rfl) rfl (zjq rfl rfl (b' := true) rfl rfl rfl jr hO (k := 0) rfl hl hr (yo hp) rfl rfl rfl ?_)))
    rintro b1 o1 _ hb1 _ hc1 ⟨⟩
    refine qF rfl rfl (b := true) rfl rfl rfl (fun w hw => zu xH (cs := [iV E[q + 1].1, iV E[q + 1].2]) rfl rfl fun t v ht => qR hw (k := 0) rfl hb1 _ t (hc1 t v ht)) rfl ?_
    refine qF rfl rfl (b := true) rfl rfl rfl (fun w hw => zc (v := .slice a n c) rfl) rfl (qF rfl rfl (b := true) rfl rfl rfl (fun w hw => zc (v := iV ((q + 1 : Nat) : Int)) rfl) rfl (qF rfl rfl (b := true) rfl rfl rfl (fun w hw => qH (m := q + 1) (n := 1) rfl rfl (by omega) (by omega)) rfl (zjq rfl rfl (b' := true) rfl rfl rfl jr hO (k := 0) rfl hl hr (yo ho) rfl rfl rfl ?_)))
    rintro b2 o2 _ hb2 _ hc2 ⟨⟩
    refine qF rfl rfl (b := true) rfl rfl rfl (fun w hw => zu xH (cs := [iV E[q].1, iV E[q].2]) rfl rfl fun t v ht => qR hw (k := 0) rfl hb2 _ t (hc2 t v ht)) rfl ?_
    obtain ⟨r, hrk, hcall⟩ := (hcmp.le (Gle.refl _) hm2.perm).2 G w.drew cells (Gle.refl _) hS hO E[q + 1] (List.getElem_mem _) E[q] (List.getElem_mem _)
    refine zkD rfl rfl rfl (b := true) rfl rfl rfl (ym (fi := []) (al := [.agg #[iV E[q + 1].1, iV E[q + 1].2], .agg #[iV E[q].1, iV E[q].2]]) (ca := ca) hcmp.1 hcall rfl rfl rfl fun w2 hb => ⟨fun _ _ => hO.below hb, ?_⟩)
    have hS := hS.keep hb
    have hO := hO.below hb
    have ek1 : kf key D1 i = key E[q + 1] := by rw [← yn key (show E[q + 1]? = D1[i]? by rw [hd, if_neg (by omega), if_pos rfl]), jX key (List.getElem?_eq_getElem hp)]
    have ek2 : kf key D1 q = key E[q] := by rw [← yn key (show E[q]? = D1[q]? by rw [hd, if_neg (by omega), if_neg (by omega)]), jX key (List.getElem?_eq_getElem ho)]
    refine qF rfl rfl (b := true) rfl rfl rfl (fun w hw => zN rfl rfl) rfl (zh rfl (fun w hw => yy (v := .bool (decide (r < 0))) rfl rfl rfl) rfl (qp (zV rfl (fun hb => ?_) (fun hb => ?_))))
    ·have hlt := hrk.1 (of_decide_eq_true hb)
     refine zq (zd (zp ?_))
     refine zM qw (C2 [9, 13] (fun _ => True) (fun w => Owns G w B (rowS a n c cells :: Lq))) (.fl 0 (.fl 1 (.fl 2 (.fl 3 (.fl 4 (.fl 5 (.fl 6 (.fl 7 (.fl 8 (.fl 9 (.fl 10 (.fl 11 (.fl 12 (.fl 13 (.fl 14 (.on 15 (.fl 16 (.on 17 .nil)))))))))))))))))) (by kernel_rfl) rfl (by kernel_rfl) (fun _ => ⟨trivial, fun _ => hO.below (zj _)⟩) ?_
     have hS := hS.keep (zj w2)
     have hO := hO.below (zj w2)
     refine zh rfl (fun w hw => zc (v := .slice a n c) rfl) rfl (zh rfl (fun w hw => zc (v := iV ((q + 1 : Nat) : Int)) rfl) rfl (zh rfl (fun w hw => zc (v := .slice a n c) rfl) rfl (zh rfl (fun w hw => zc (v := iV ((q + 1 : Nat) : Int)) rfl) rfl (zh rfl (fun w hw => qH (m := q + 1) (n := 1) rfl rfl (by omega) (by omega)) rfl (zh rfl (fun w hw => zc (v := .slice a n c) rfl) rfl (zh rfl (fun w hw => zc (v := iV ((q + 1 : Nat) : Int)) rfl) rfl (zh rfl (fun w hw => qH (m := q + 1) (n := 1) rfl rfl (by omega) (by omega)) rfl (q9 rfl jr hO (k := 0) rfl hl hr (yo ho) rfl rfl rfl ?_))))))))
     rintro b1 o1 _ hb1 _ hc1 ⟨⟩
     refine zh rfl (fun w hw => zu xH (cs := [iV E[q].1, iV E[q].2]) rfl rfl fun t v ht => qR (hw.2 rfl) (k := 0) rfl hb1 _ t (hc1 t v ht)) rfl (zh rfl (fun w hw => zc (v := .slice a n c) rfl) rfl (zh rfl (fun w hw => zc (v := iV ((q + 1 : Nat) : Int)) rfl) rfl (q9 rfl jr hO (k := 0) rfl hl hr (yo hp) rfl rfl rfl ?_)))
     rintro b2 o2 _ hb2 _ hc2 ⟨⟩
     refine zh rfl (fun w hw => zu xH (cs := [iV E[q + 1].1, iV E[q + 1].2]) rfl rfl fun t v ht => qR (hw.2 rfl) (k := 0) rfl hb2 _ t (hc2 t v ht)) rfl (q9 rfl jr hO (k := 0) rfl hl hr (yo hp) rfl rfl rfl ?_)
     rintro b3 o3 _ hb3 _ hc3 ⟨⟩
     refine zD rfl rfl (yZ (vs := [iV E[q].1, iV E[q].2]) (cs := [iV E[q + 1].1, iV E[q + 1].2]) (j := 0) (y := E[q]) zbq hS hO (k := 0) rfl hl rfl hr hb3 rfl hc3 (x7 hp _) rfl rfl rfl rfl rfl (yt rfl rfl) (nQl rfl) (fun w9 cells9 hS hO hr => ⟨zlh trivial (zhm (by kernel_rfl)), ?_⟩))
     have hO : Owns G w9 B (rowS a n c cells9 :: Lq) := hO
     have hl2 : n = (E.set (q + 1) E[q]).length := by rw [List.length_set]; exact hl
     have ho2 : q < (E.set (q + 1) E[q]).length := by omega
     refine q9 rfl jr hO (k := 0) rfl hl2 hr (yo ho2) rfl rfl rfl ?_
     rintro b4 o4 _ hb4 _ hc4 ⟨⟩
     refine zD rfl rfl (yZ (vs := [iV E[q + 1].1, iV E[q + 1].2]) (cs := [iV _, iV _]) (j := 0) (y := E[q + 1]) zbq hS hO (k := 0) rfl hl2 rfl hr hb4 rfl hc4 (x7 ho2 _) rfl rfl rfl rfl rfl (yt rfl rfl) (nQl rfl) (fun w8 cells8 hS hO hr => ⟨fun _ h => zR (by kernel_rfl) h, qp ?_⟩))
     rw [← zc0 hp ho] at hr
     refine zb (za (zc (v := iV ((q + 1 : Nat) : Int)) rfl) rfl (za (qH (m := q + 1) (n := 1) rfl rfl (by omega) (by omega)) rfl (za (zf (v := iV (q : Int)) rfl) rfl (ze ?_))))
     refine ⟨q, Nat.lt_succ_self _, _, cells8, _, zi _ _ ⟨rfl, rfl, rfl, rfl, rfl, rfl, trivial⟩, by omega, by omega, hS, hO, hr, hd.step j1 (by omega), fun k k1 k2 => ?_, hm2.trans (Mv.swp ⟨by omega, by omega⟩ ⟨by omega, by omega⟩ (by omega))⟩
     rcases Nat.lt_or_ge q k with h | h
     ·exact hk k h k2
     ·obtain rfl : k = q := by omega
      rw [ek1, ek2]
      exact Int.le_of_lt hlt
    ·have hge : ¬ key E[q + 1] < key E[q] := fun h => by have := of_decide_eq_false hb; exact this (hrk.2 h)
     refine zW rfl ⟨_, G, cells, E, zi _ _ ⟨rfl, rfl, rfl, rfl, rfl, trivial⟩, le, hS, hO, hr, hfin fun k k1 k2 => ?_, hm.trans hm2⟩
     have := hs k q k1 (by omega) (by omega)
     rw [ek1]
     omega
   ·obtain rfl : j = s := by omega
    refine zh rfl (fun w hw => zc (v := iV (j : Int)) rfl) rfl (zh rfl (fun w hw => zc (v := iV (j : Int)) rfl) rfl (zh (v := .bool false) rfl (fun w hw => (ve (m := (j : Int)) (n := (j : Int)) rfl rfl).trans (by rw [decide_eq_false (by omega)])) rfl (zh rfl (fun w hw => zc (v := .bool false) rfl) rfl ?_)))
    refine ye rfl rfl (b := false) rfl rfl rfl rfl (ye rfl rfl (b := false) rfl rfl rfl rfl (ye rfl rfl (b := false) rfl rfl rfl rfl (ye rfl rfl (b := false) rfl rfl rfl rfl (ye rfl rfl (b := false) rfl rfl rfl rfl (ye rfl rfl (b := false) rfl rfl rfl rfl (ye rfl rfl (b := false) rfl rfl rfl rfl (ye rfl rfl (b := false) rfl rfl rfl rfl (ye rfl rfl (b := false) rfl rfl rfl rfl (ye rfl rfl (b := false) rfl rfl rfl rfl (zjp rfl rfl (b := false) rfl rfl rfl rfl (fun _ _ => hO) (ye rfl rfl (b := false) rfl rfl rfl rfl ?_)))))))))))
    exact zh rfl (fun w hw => xc (v := .bool false) rfl rfl rfl) rfl (qp (zH false rfl rfl (zW rfl ⟨_, G, cells, E, zi _ _ ⟨rfl, rfl, rfl, rfl, rfl, trivial⟩, le, hS, hO, hr, hfin fun k k1 k2 => by omega, hm.trans hm2⟩)))
  ·rintro F w ⟨Fb, G, cells, E, rfl, le, hS, hO, hr, hs, hm⟩
   refine zb (za (zc (v := iV (i : Int)) rfl) rfl (za (zX (m := i) (n := 1) rfl rfl (by omega)) rfl (za (zf (v := iV ((i + 1 : Nat) : Int)) rfl) rfl (ze ?_))))
   exact ⟨i + 1, by omega, _, G, cells, E, zi _ _ ⟨rfl, rfl, rfl, rfl, rfl, trivial⟩, by omega, by omega, le, hS, hO, hr, hs, hm⟩
 ·have hie : i = e := by have := of_decide_eq_false hb; omega
  subst hie
  exact zW rfl ⟨[], trivial, G, _, le, hS, hO, cells, D1, rfl, hr, hs, hm⟩
end
theorem zw2 : Tryz.prog.underlying 3 = some (.int .i64) := by kernel_rfl
theorem zte : Tryz.prog.underlying 310 = some (.int .u64) := by kernel_rfl
theorem zgJ : zJ Tryz.prog 161 = true := by kernel_rfl
theorem zfx : zJ Tryz.prog 162 = true := by kernel_rfl
section
variable {F : Fr} {w : World} {d : Option Nat} {t u ty : TypeId} {pos : String} {af : Array Edge} {gd : Option (Nat × Bool)} {x y : Operand} {n : Nat}
theorem zk2 (hx : ev F x = iV (n : Int)) (h : n ≤ 4000) : (execOp (ev F) ⟨d, .convert 3 310 x, ty, pos, af, gd⟩).run Tryz.prog w = .ok (.value (.int .u64 (n : Int))) w := by
 rw [zk3 zw2 zte hx, show IntKind.u64.wrap (n : Int) = (n : Int) by rw [IntKind.wrap_u64]; omega]
theorem zk4 (hx : ev F x = .int .u64 (n : Int)) (h : n ≤ 4000) : (execOp (ev F) ⟨d, .convert 310 3 x, ty, pos, af, gd⟩).run Tryz.prog w = .ok (.value (iV (n : Int))) w := by
 rw [zk3 zte zw2 hx, zgR h]
theorem zk0 (hx : ev F x = .int .u64 (n : Int)) (hy : ev F y = .int .u64 1) : (execOp (ev F) ⟨d, .binOp .shr t x y u, ty, pos, af, gd⟩).run Tryz.prog w = .ok (.value (.int .u64 ((n / 2 : Nat) : Int))) w := by
 refine zg7 hx hy ?_
 unfold znK
 rw [if_neg (by omega), show min ((1 : Int).toNat) IntKind.u64.bits = 1 from rfl, Int.fdiv_eq_ediv_of_nonneg _ (by decide)]
 simp
end
theorem Rot.triv {α : Type} {D : List α} {s m e : Nat} (h : (m ≤ s ∧ s = m ∧ m ≤ e) ∨ (e ≤ m ∧ e = m ∧ s ≤ m)) : Rot D D s m e := fun k => by
 split
 ·congr 1; omega
 ·split
  ·congr 1; omega
  ·rfl
section
variable {B : Nat} {G0 Gc : Gm} {w0 wc : World} {Lq : List Row} {a : Option Addr} {n c kc : Nat} {cells ca : List Value} {D : List (Int × Int)} {key : Int × Int → Int}
set_option maxHeartbeats 2000000 in
theorem zpK {s m e : Nat} (hS : Since B G0 w0 Gc wc) (hO : Owns Gc wc B (rowS a n c cells :: Lq)) (hr : Rd RSt 2 Gc cells D) (hn : n = D.length) (hsm : s < m) (hme : m < e) (he : e ≤ n) (hD : n ≤ 1000) (hcmp : CmpOk B G0 Gc w0 Lq a n c kc ca key D) (hu : Sr key D s m) (hv : Sr key D m e) (h1 : m - s = 1) :
  Calls Tryz.prog 162 [.slice a n c, iV (s : Int), iV (m : Int), iV (e : Int), .func (.func kc) #[] ca.toArray].toArray wc (jP B G0 w0 Gc wc (fun G' L' _ => ∃ cells' E, L' = rowS a n c cells' :: Lq ∧ Rd RSt 2 G' cells' E ∧ Sr key E s e ∧ Mv s e D E)) := by
 have hxs : s < D.length := by omega
 have hxm : m < D.length := by omega
 refine yP (N := 220) (rs := []) hO.base Tryz.func162 rfl rfl rfl rfl (zd ?_)
 refine zd (zb (za (zc (v := iV (m : Int)) rfl) rfl (za (zc (v := iV (s : Int)) rfl) rfl (za (qH (m := m) (n := s) rfl rfl (by omega) (by omega)) rfl (za (xu rfl rfl) rfl (ze (zQ (((m - s : Nat) : Int) == 1) (by simp; omega) rfl ?_)))))))
 refine zd (zb (za (zc (v := iV (m : Int)) rfl) rfl (za (zf (v := iV (m : Int)) rfl) rfl (ze ?_))))
 refine zd (zb (za (zc (v := iV (e : Int)) rfl) rfl (za (zf (v := iV (e : Int)) rfl) rfl (ze ?_))))
 refine zd ?_
 refine zZ (fun F w => ∃ Fb, ∃ i : Nat, F = qi Fb [(0, .slice a n c), (1, iV (s : Int)), (4, .func (.func kc) #[] ca.toArray), (10, iV (i : Int))] ∧ m ≤ i ∧ i ≤ e ∧ Since B G0 w0 Gc w ∧ Owns Gc w B (rowS a n c cells :: Lq) ∧ (∀ k, m ≤ k → k < i → kf key D k < kf key D s) ∧ (∀ k, i ≤ k → k < e → kf key D s ≤ kf key D k)) ?_ ?_
 ·refine zp (qh (kZ (fun ij : Nat × Nat => ij.2 - ij.1) (fun ij F w => ∃ Fb, F = qi Fb [(0, .slice a n c), (1, iV (s : Int)), (4, .func (.func kc) #[] ca.toArray), (10, iV (ij.1 : Int)), (11, iV (ij.2 : Int))] ∧ m ≤ ij.1 ∧ ij.1 ≤ ij.2 ∧ ij.2 ≤ e ∧ Since B G0 w0 Gc w ∧ Owns Gc w B (rowS a n c cells :: Lq) ∧ (∀ k, m ≤ k → k < ij.1 → kf key D k < kf key D s) ∧ (∀ k, ij.2 ≤ k → k < e → kf key D s ≤ kf key D k)) ?_ (m, e) _ _ ⟨_, zi _ _ ⟨rfl, rfl, rfl, rfl, rfl, trivial⟩, Nat.le_refl _, by simp; omega, Nat.le_refl _, hS, hO, fun k h1 h2 => by simp at h2; omega, fun k h1 h2 => by simp at h1; omega⟩))
  rintro ⟨i, j⟩ F w ⟨Fb, rfl, i0, i1, i2, hS, hO, g1, g2⟩
  simp only at i0 i1 i2 g1 g2
  refine zd (zd (zb (za (zc (v := iV (i : Int)) rfl) rfl (za (zc (v := iV (j : Int)) rfl) rfl (za (zN rfl rfl) rfl (ze (zV rfl (fun hb => ?_) (fun hb => ?_))))))))
  ·have hij : i < j := by have := of_decide_eq_true hb; omega
   refine zq (zp (zd (zb (za (zc (v := iV ((i : Nat) : Int)) rfl) rfl (za (zc (v := iV ((j : Nat) : Int)) rfl) rfl (za (zX (m := i) (n := j) rfl rfl (by omega)) rfl (za (zk2 (n := i + j) rfl (by omega)) rfl (za (zk0 (n := i + j) rfl rfl) rfl (za (zk4 (n := (i + j) / 2) rfl (by omega)) rfl (za (zf (v := iV (((i + j) / 2 : Nat) : Int)) rfl) rfl (ze ?_)))))))))))
   have hh1 : i ≤ (i + j) / 2 := by omega
   have hh2 : (i + j) / 2 < j := by omega
   generalize (i + j) / 2 = h at hh1 hh2
   have hx1 : h < D.length := by omega
   have hx2 := hxs
   refine zd ?_
   refine zM qw (fun _ w => Owns Gc w B (rowS a n c cells :: Lq)) (.fl 0 (.fl 1 (.fl 2 (.fl 3 (.fl 4 (.fl 5 (.fl 6 (.fl 7 (.fl 8 (.on 9 (.fl 10 .nil))))))))))) (by kernel_rfl) rfl (by kernel_rfl) (fun _ => hO.below (zj _)) ?_
   have hS := hS.keep (zj w)
   have hO := hO.below (zj w)
   refine zh rfl (fun w hw => zc (v := .func (.func kc) #[] ca.toArray) rfl) rfl (zh rfl (fun w hw => zc (v := .slice a n c) rfl) rfl (zh rfl (fun w hw => zc (v := iV ((h : Nat) : Int)) rfl) rfl (q9 rfl jr hO (k := 0) rfl hn hr (yo hx1) rfl rfl rfl ?_)))
   rintro b1 o1 _ hb1 _ hc1 ⟨⟩
   refine zh rfl (fun w hw => zu xH (cs := [iV D[h].1, iV D[h].2]) rfl rfl fun t v ht => qR hw (k := 0) rfl hb1 _ t (hc1 t v ht)) rfl (zh rfl (fun w hw => zc (v := .slice a n c) rfl) rfl (zh rfl (fun w hw => zc (v := iV (s : Int)) rfl) rfl (q9 rfl jr hO (k := 0) rfl hn hr (yo hx2) rfl rfl rfl ?_)))
   rintro b2 o2 _ hb2 _ hc2 ⟨⟩
   refine zh rfl (fun w hw => zu xH (cs := [iV D[s].1, iV D[s].2]) rfl rfl fun t v ht => qR hw (k := 0) rfl hb2 _ t (hc2 t v ht)) rfl ?_
   obtain ⟨r, hrk, hcall⟩ := hcmp.2 Gc (World.drew w) cells (Gle.refl _) hS hO D[h] (List.getElem_mem _) D[s] (List.getElem_mem _)
   refine zD rfl rfl (ym (fi := []) (al := [.agg #[iV D[h].1, iV D[h].2], .agg #[iV D[s].1, iV D[s].2]]) (ca := ca) hcmp.1 hcall rfl rfl rfl fun w2 hb => ⟨fun _ _ => hO.below hb, ?_⟩)
   have hS := hS.keep hb
   have hO := hO.below hb
   refine zh rfl (fun w hw => zN rfl rfl) rfl (qp (zV rfl (fun hb => ?_) (fun hb => ?_)))
   ·have hlt := hrk.1 (of_decide_eq_true hb)
    have hg : ∀ k, m ≤ k → k < h + 1 → kf key D k < kf key D s := fun k k1 k2 => by
     have := hv k h k1 (by omega) (by omega)
     rw [jX key (List.getElem?_eq_getElem hx1)] at this
     rw [jX key (List.getElem?_eq_getElem hx2)]
     omega
    refine zb (za (zc (v := iV ((h : Nat) : Int)) rfl) rfl (za (zX (m := h) (n := 1) rfl rfl (by omega)) rfl (za (zf (v := iV ((h + 1 : Nat) : Int)) rfl) rfl (ze ?_))))
    exact ⟨(h + 1, j), by simp; omega, _, zi _ _ ⟨rfl, rfl, rfl, rfl, rfl, trivial⟩, by simp; omega, by simp; omega, i2, hS, hO, hg, g2⟩
   ·have hge : ¬ key D[h] < key D[s] := fun h => by have := of_decide_eq_false hb; exact this (hrk.2 h)
    have hg : ∀ k, h ≤ k → k < e → kf key D s ≤ kf key D k := fun k k1 k2 => by
     have := hv h k (by omega) k1 (by omega)
     rw [jX key (List.getElem?_eq_getElem hx1)] at this
     rw [jX key (List.getElem?_eq_getElem hx2)]
     omega
    refine zb (za (zc (v := iV ((h : Nat) : Int)) rfl) rfl (za (zf (v := iV ((h : Nat) : Int)) rfl) rfl (ze ?_)))
    exact ⟨(i, h), by simp; omega, _, zi _ _ ⟨rfl, rfl, rfl, rfl, rfl, trivial⟩, i0, by simp; omega, by simp; omega, hS, hO, g1, hg⟩
  ·have hij : i = j := by have := of_decide_eq_false hb; omega
   subst hij
   exact zW rfl ⟨_, i, zi _ _ ⟨rfl, rfl, rfl, rfl, trivial⟩, i0, i2, hS, hO, g1, g2⟩
 ·rintro F w ⟨Fb, q, rfl, q0, q1, hS, hO, g1, g2⟩
  refine zd (zd (zb (za (zc (v := iV (s : Int)) rfl) rfl (za (zf (v := iV (s : Int)) rfl) rfl (ze ?_)))))
  refine zZ (fun F w => ∃ cells E, Since B G0 w0 Gc w ∧ Owns Gc w B (rowS a n c cells :: Lq) ∧ Rd RSt 2 Gc cells E ∧ Sr key E s e ∧ Mv s e D E) ?_ (fun F w ⟨cells, E, hS, hO, hr, hs, hm⟩ => zF ⟨[], trivial, Gc, _, Gle.refl _, hS, hO, cells, E, rfl, hr, hs, hm⟩)
  refine zp (qh (kZ (fun k : Nat => q - k) (fun k F w => ∃ Fb cells E, F = qi Fb [(0, .slice a n c), (10, iV (q : Int)), (13, iV (k : Int))] ∧ s ≤ k ∧ k + 1 ≤ q ∧ Since B G0 w0 Gc w ∧ Owns Gc w B (rowS a n c cells :: Lq) ∧ Rd RSt 2 Gc cells E ∧ Up D E s k ∧ Mv s e D E) ?_ s _ _ ⟨_, cells, D, zi _ _ ⟨rfl, rfl, rfl, trivial⟩, Nat.le_refl _, by omega, hS, hO, hr, Up.start _ _, Mv.refl _ _ _⟩))
  rintro k F w ⟨Fb, cells, E, rfl, k0, k1, hS, hO, hr, hup, hm⟩
  have hl : n = E.length := by rw [hm.len]; exact hn
  refine zd (zd (zb (za (zc (v := iV (k : Int)) rfl) rfl (za (zc (v := iV (q : Int)) rfl) rfl (za (qH (m := q) (n := 1) rfl rfl (by omega) (by omega)) rfl (za (zN rfl rfl) rfl (ze (zV rfl (fun hb => ?_) (fun hb => ?_)))))))))
  ·have hkq : k < q - 1 := by have := of_decide_eq_true hb; omega
   have hp : k < E.length := by omega
   have ho : k + 1 < E.length := by omega
   refine zq (zd (zp ?_))
   refine zM qw (C2 [9, 13] (fun _ => True) (fun w => Owns Gc w B (rowS a n c cells :: Lq))) (.fl 0 (.fl 1 (.fl 2 (.fl 3 (.fl 4 (.fl 5 (.fl 6 (.fl 7 (.fl 8 (.fl 9 (.fl 10 (.fl 11 (.fl 12 (.fl 13 (.fl 14 (.on 15 (.fl 16 (.on 17 .nil)))))))))))))))))) (by kernel_rfl) rfl (by kernel_rfl) (fun _ => ⟨trivial, fun _ => hO.below (zj _)⟩) ?_
   have hS := hS.keep (zj w)
   have hO := hO.below (zj w)
   refine zh rfl (fun w hw => zc (v := .slice a n c) rfl) rfl (zh rfl (fun w hw => zc (v := iV ((k : Nat) : Int)) rfl) rfl (zh rfl (fun w hw => zc (v := .slice a n c) rfl) rfl (zh rfl (fun w hw => zc (v := iV ((k : Nat) : Int)) rfl) rfl (zh rfl (fun w hw => zX (m := k) (n := 1) rfl rfl (by omega)) rfl (zh rfl (fun w hw => zc (v := .slice a n c) rfl) rfl (zh rfl (fun w hw => zc (v := iV ((k : Nat) : Int)) rfl) rfl (zh rfl (fun w hw => zX (m := k) (n := 1) rfl rfl (by omega)) rfl (q9 rfl jr hO (k := 0) rfl hl hr (yo ho) rfl rfl rfl ?_))))))))
   rintro b1 o1 _ hb1 _ hc1 ⟨⟩
   refine zh rfl (fun w hw => zu xH (cs := [iV E[k + 1].1, iV E[k + 1].2]) rfl rfl fun t v ht => qR (hw.2 rfl) (k := 0) rfl hb1 _ t (hc1 t v ht)) rfl (zh rfl (fun w hw => zc (v := .slice a n c) rfl) rfl (zh rfl (fun w hw => zc (v := iV ((k : Nat) : Int)) rfl) rfl (q9 rfl jr hO (k := 0) rfl hl hr (yo hp) rfl rfl rfl ?_)))
   rintro b2 o2 _ hb2 _ hc2 ⟨⟩
   refine zh rfl (fun w hw => zu xH (cs := [iV E[k].1, iV E[k].2]) rfl rfl fun t v ht => qR (hw.2 rfl) (k := 0) rfl hb2 _ t (hc2 t v ht)) rfl (q9 rfl jr hO (k := 0) rfl hl hr (yo hp) rfl rfl rfl ?_)
   rintro b3 o3 _ hb3 _ hc3 ⟨⟩
   refine zD rfl rfl (yZ (vs := [iV E[k + 1].1, iV E[k + 1].2]) (cs := [iV E[k].1, iV E[k].2]) (j := 0) (y := E[k + 1]) zbq hS hO (k := 0) rfl hl rfl hr hb3 rfl hc3 (x7 hp _) rfl rfl rfl rfl rfl (yt rfl rfl) (nQl rfl) (fun w9 cells9 hS hO hr => ⟨zlh trivial (zhm (by kernel_rfl)), ?_⟩))
   have hO : Owns Gc w9 B (rowS a n c cells9 :: Lq) := hO
   have hl2 : n = (E.set (k) E[k + 1]).length := by rw [List.length_set]; exact hl
   have ho2 : k + 1 < (E.set (k) E[k + 1]).length := by omega
   refine q9 rfl jr hO (k := 0) rfl hl2 hr (yo ho2) rfl rfl rfl ?_
   rintro b4 o4 _ hb4 _ hc4 ⟨⟩
   refine zD rfl rfl (yZ (vs := [iV E[k].1, iV E[k].2]) (cs := [iV _, iV _]) (j := 0) (y := E[k]) zbq hS hO (k := 0) rfl hl2 rfl hr hb4 rfl hc4 (x7 ho2 _) rfl rfl rfl rfl rfl (yt rfl rfl) (nQl rfl) (fun w8 cells8 hS hO hr => ⟨fun _ h => zR (by kernel_rfl) h, qp ?_⟩))
   rw [← zc0 hp ho] at hr
   refine zb (za (zc (v := iV (k : Int)) rfl) rfl (za (zX (m := k) (n := 1) rfl rfl (by omega)) rfl (za (zf (v := iV ((k + 1 : Nat) : Int)) rfl) rfl (ze ?_))))
   exact ⟨k + 1, by omega, _, cells8, _, zi _ _ ⟨rfl, rfl, rfl, trivial⟩, by omega, by omega, hS, hO, hr, hup.step k0 ho, hm.trans (Mv.swp ⟨by omega, by omega⟩ ⟨by omega, by omega⟩ (by omega))⟩
  ·have hkq : q = k + 1 := by have := of_decide_eq_false hb; omega
   subst hkq
   refine zW rfl ⟨cells, E, hS, hO, hr, ?_, hm⟩
   refine zuS k0 (by omega) (hup.kf key) (fun i j i1 i2 i3 => hv i j (by omega) i2 i3) (fun i i1 i2 => Int.le_of_lt (g1 i (by omega) (by omega))) (fun i i1 i2 => g2 i (by omega) i2)
set_option maxHeartbeats 2000000 in
theorem zpJ {s m e : Nat} (hS : Since B G0 w0 Gc wc) (hO : Owns Gc wc B (rowS a n c cells :: Lq)) (hr : Rd RSt 2 Gc cells D) (hn : n = D.length) (hsm : s < m) (hme : m < e) (he : e ≤ n) (hD : n ≤ 1000) (hcmp : CmpOk B G0 Gc w0 Lq a n c kc ca key D) (hu : Sr key D s m) (hv : Sr key D m e) (h1 : m - s ≠ 1) (h2 : e - m = 1) :
  Calls Tryz.prog 162 [.slice a n c, iV (s : Int), iV (m : Int), iV (e : Int), .func (.func kc) #[] ca.toArray].toArray wc (jP B G0 w0 Gc wc (fun G' L' _ => ∃ cells' E, L' = rowS a n c cells' :: Lq ∧ Rd RSt 2 G' cells' E ∧ Sr key E s e ∧ Mv s e D E)) := by
 have hxs : s < D.length := by omega
 have hxm : m < D.length := by omega
 refine yP (N := 220) (rs := []) hO.base Tryz.func162 rfl rfl rfl rfl (zd ?_)
 refine zd (zb (za (zc (v := iV (m : Int)) rfl) rfl (za (zc (v := iV (s : Int)) rfl) rfl (za (qH (m := m) (n := s) rfl rfl (by omega) (by omega)) rfl (za (xu rfl rfl) rfl (ze (zH (((m - s : Nat) : Int) == 1) (by simp; omega) rfl (zq (zd ?_)))))))))
 refine zd (zb (za (zc (v := iV (e : Int)) rfl) rfl (za (zc (v := iV (m : Int)) rfl) rfl (za (qH (m := e) (n := m) rfl rfl (by omega) (by omega)) rfl (za (xu rfl rfl) rfl (ze (zQ (((e - m : Nat) : Int) == 1) (by simp; omega) rfl ?_)))))))
 refine zd (zb (za (zc (v := iV (s : Int)) rfl) rfl (za (zf (v := iV (s : Int)) rfl) rfl (ze ?_))))
 refine zd (zb (za (zc (v := iV (m : Int)) rfl) rfl (za (zf (v := iV (m : Int)) rfl) rfl (ze ?_))))
 refine zd ?_
 refine zZ (fun F w => ∃ Fb, ∃ i : Nat, F = qi Fb [(0, .slice a n c), (1, iV (s : Int)), (2, iV (m : Int)), (4, .func (.func kc) #[] ca.toArray), (14, iV (i : Int))] ∧ s ≤ i ∧ i ≤ m ∧ Since B G0 w0 Gc w ∧ Owns Gc w B (rowS a n c cells :: Lq) ∧ (∀ k, s ≤ k → k < i → kf key D k ≤ kf key D m) ∧ (∀ k, i ≤ k → k < m → kf key D m < kf key D k)) ?_ ?_
 ·refine zp (qh (kZ (fun ij : Nat × Nat => ij.2 - ij.1) (fun ij F w => ∃ Fb, F = qi Fb [(0, .slice a n c), (1, iV (s : Int)), (2, iV (m : Int)), (4, .func (.func kc) #[] ca.toArray), (14, iV (ij.1 : Int)), (15, iV (ij.2 : Int))] ∧ s ≤ ij.1 ∧ ij.1 ≤ ij.2 ∧ ij.2 ≤ m ∧ Since B G0 w0 Gc w ∧ Owns Gc w B (rowS a n c cells :: Lq) ∧ (∀ k, s ≤ k → k < ij.1 → kf key D k ≤ kf key D m) ∧ (∀ k, ij.2 ≤ k → k < m → kf key D m < kf key D k)) ?_ (s, m) _ _ ⟨_, zi _ _ ⟨rfl, rfl, rfl, rfl, rfl, rfl, trivial⟩, Nat.le_refl _, by simp; omega, Nat.le_refl _, hS, hO, fun k h1 h2 => by simp at h2; omega, fun k h1 h2 => by simp at h1; omega⟩))
  rintro ⟨i, j⟩ F w ⟨Fb, rfl, i0, i1, i2, hS, hO, g1, g2⟩
  simp only at i0 i1 i2 g1 g2
  refine zd (zd (zb (za (zc (v := iV (i : Int)) rfl) rfl (za (zc (v := iV (j : Int)) rfl) rfl (za (zN rfl rfl) rfl (ze (zV rfl (fun hb => ?_) (fun hb => ?_))))))))
  ·have hij : i < j := by have := of_decide_eq_true hb; omega
   refine zq (zp (zd (zb (za (zc (v := iV ((i : Nat) : Int)) rfl) rfl (za (zc (v := iV ((j : Nat) : Int)) rfl) rfl (za (zX (m := i) (n := j) rfl rfl (by omega)) rfl (za (zk2 (n := i + j) rfl (by omega)) rfl (za (zk0 (n := i + j) rfl rfl) rfl (za (zk4 (n := (i + j) / 2) rfl (by omega)) rfl (za (zf (v := iV (((i + j) / 2 : Nat) : Int)) rfl) rfl (ze ?_)))))))))))
   have hh1 : i ≤ (i + j) / 2 := by omega
   have hh2 : (i + j) / 2 < j := by omega
   generalize (i + j) / 2 = h at hh1 hh2
   have hx1 := hxm
   have hx2 : h < D.length := by omega
   refine zd ?_
   refine zM qw (fun _ w => Owns Gc w B (rowS a n c cells :: Lq)) (.fl 0 (.fl 1 (.fl 2 (.fl 3 (.fl 4 (.fl 5 (.fl 6 (.fl 7 (.fl 8 (.on 9 (.fl 10 (.fl 11 .nil)))))))))))) (by kernel_rfl) rfl (by kernel_rfl) (fun _ => hO.below (zj _)) ?_
   have hS := hS.keep (zj w)
   have hO := hO.below (zj w)
   refine zh rfl (fun w hw => zc (v := .func (.func kc) #[] ca.toArray) rfl) rfl (zh rfl (fun w hw => zc (v := .slice a n c) rfl) rfl (zh rfl (fun w hw => zc (v := iV (m : Int)) rfl) rfl (q9 rfl jr hO (k := 0) rfl hn hr (yo hx1) rfl rfl rfl ?_)))
   rintro b1 o1 _ hb1 _ hc1 ⟨⟩
   refine zh rfl (fun w hw => zu xH (cs := [iV D[m].1, iV D[m].2]) rfl rfl fun t v ht => qR hw (k := 0) rfl hb1 _ t (hc1 t v ht)) rfl (zh rfl (fun w hw => zc (v := .slice a n c) rfl) rfl (zh rfl (fun w hw => zc (v := iV ((h : Nat) : Int)) rfl) rfl (q9 rfl jr hO (k := 0) rfl hn hr (yo hx2) rfl rfl rfl ?_)))
   rintro b2 o2 _ hb2 _ hc2 ⟨⟩
   refine zh rfl (fun w hw => zu xH (cs := [iV D[h].1, iV D[h].2]) rfl rfl fun t v ht => qR hw (k := 0) rfl hb2 _ t (hc2 t v ht)) rfl ?_
   obtain ⟨r, hrk, hcall⟩ := hcmp.2 Gc (World.drew w) cells (Gle.refl _) hS hO D[m] (List.getElem_mem _) D[h] (List.getElem_mem _)
   refine zD rfl rfl (ym (fi := []) (al := [.agg #[iV D[m].1, iV D[m].2], .agg #[iV D[h].1, iV D[h].2]]) (ca := ca) hcmp.1 hcall rfl rfl rfl fun w2 hb => ⟨fun _ _ => hO.below hb, ?_⟩)
   have hS := hS.keep hb
   have hO := hO.below hb
   refine zh rfl (fun w hw => zN rfl rfl) rfl (zh rfl (fun w hw => qE rfl) rfl (qp (zV rfl (fun hb => ?_) (fun hb => ?_))))
   ·have hge : ¬ key D[m] < key D[h] := fun h => by have := hrk.2 h; simp [this] at hb
    have hg : ∀ k, s ≤ k → k < h + 1 → kf key D k ≤ kf key D m := fun k k1 k2 => by
     have := hu k h k1 (by omega) (by omega)
     rw [jX key (List.getElem?_eq_getElem hx2)] at this
     rw [jX key (List.getElem?_eq_getElem hx1)]
     omega
    refine zb (za (zc (v := iV ((h : Nat) : Int)) rfl) rfl (za (zX (m := h) (n := 1) rfl rfl (by omega)) rfl (za (zf (v := iV ((h + 1 : Nat) : Int)) rfl) rfl (ze ?_))))
    exact ⟨(h + 1, j), by simp; omega, _, zi _ _ ⟨rfl, rfl, rfl, rfl, rfl, rfl, trivial⟩, by simp; omega, by simp; omega, i2, hS, hO, hg, g2⟩
   ·have hlt : key D[m] < key D[h] := hrk.1 (by simpa using hb)
    have hg : ∀ k, h ≤ k → k < m → kf key D m < kf key D k := fun k k1 k2 => by
     have := hu h k (by omega) k1 (by omega)
     rw [jX key (List.getElem?_eq_getElem hx2)] at this
     rw [jX key (List.getElem?_eq_getElem hx1)]
     omega
    refine zb (za (zc (v := iV ((h : Nat) : Int)) rfl) rfl (za (zf (v := iV ((h : Nat) : Int)) rfl) rfl (ze ?_)))
    exact ⟨(i, h), by simp; omega, _, zi _ _ ⟨rfl, rfl, rfl, rfl, rfl, rfl, trivial⟩, i0, by simp; omega, by simp; omega, hS, hO, g1, hg⟩
  ·have hij : i = j := by have := of_decide_eq_false hb; omega
   subst hij
   exact zW rfl ⟨_, i, zi _ _ ⟨rfl, rfl, rfl, rfl, rfl, trivial⟩, i0, i2, hS, hO, g1, g2⟩
 ·rintro F w ⟨Fb, q, rfl, q0, q1, hS, hO, g1, g2⟩
  refine zd (zd (zb (za (zc (v := iV (m : Int)) rfl) rfl (za (zf (v := iV (m : Int)) rfl) rfl (ze ?_)))))
  refine zZ (fun F w => ∃ cells E, Since B G0 w0 Gc w ∧ Owns Gc w B (rowS a n c cells :: Lq) ∧ Rd RSt 2 Gc cells E ∧ Sr key E s e ∧ Mv s e D E) ?_ (fun F w ⟨cells, E, hS, hO, hr, hs, hm⟩ => zF ⟨[], trivial, Gc, _, Gle.refl _, hS, hO, cells, E, rfl, hr, hs, hm⟩)
  refine zp (qh (kZ (fun k : Nat => k) (fun k F w => ∃ Fb cells E, F = qi Fb [(0, .slice a n c), (14, iV (q : Int)), (17, iV (k : Int))] ∧ q ≤ k ∧ k ≤ m ∧ Since B G0 w0 Gc w ∧ Owns Gc w B (rowS a n c cells :: Lq) ∧ Rd RSt 2 Gc cells E ∧ Dn D E m k ∧ Mv s e D E) ?_ m _ _ ⟨_, cells, D, zi _ _ ⟨rfl, rfl, rfl, trivial⟩, q1, Nat.le_refl _, hS, hO, hr, Dn.start _ _, Mv.refl _ _ _⟩))
  rintro k F w ⟨Fb, cells, E, rfl, k0, k1, hS, hO, hr, hdn, hm⟩
  have hl : n = E.length := by rw [hm.len]; exact hn
  refine zd (zd (zb (za (zc (v := iV (k : Int)) rfl) rfl (za (zc (v := iV (q : Int)) rfl) rfl (za (ve rfl rfl) rfl (ze (zV rfl (fun hb => ?_) (fun hb => ?_))))))))
  ·have hkq : q < k := by have := of_decide_eq_true hb; omega
   obtain ⟨k, rfl⟩ : ∃ j, k = j + 1 := ⟨k - 1, by omega⟩
   have hp : k + 1 < E.length := by omega
   have ho : k < E.length := by omega
   refine zq (zd (zp ?_))
   refine zM qw (C2 [9, 13] (fun _ => True) (fun w => Owns Gc w B (rowS a n c cells :: Lq))) (.fl 0 (.fl 1 (.fl 2 (.fl 3 (.fl 4 (.fl 5 (.fl 6 (.fl 7 (.fl 8 (.fl 9 (.fl 10 (.fl 11 (.fl 12 (.fl 13 (.fl 14 (.on 15 (.fl 16 (.on 17 .nil)))))))))))))))))) (by kernel_rfl) rfl (by kernel_rfl) (fun _ => ⟨trivial, fun _ => hO.below (zj _)⟩) ?_
   have hS := hS.keep (zj w)
   have hO := hO.below (zj w)
   refine zh rfl (fun w hw => zc (v := .slice a n c) rfl) rfl (zh rfl (fun w hw => zc (v := iV ((k + 1 : Nat) : Int)) rfl) rfl (zh rfl (fun w hw => zc (v := .slice a n c) rfl) rfl (zh rfl (fun w hw => zc (v := iV ((k + 1 : Nat) : Int)) rfl) rfl (zh rfl (fun w hw => qH (m := k + 1) (n := 1) rfl rfl (by omega) (by omega)) rfl (zh rfl (fun w hw => zc (v := .slice a n c) rfl) rfl (zh rfl (fun w hw => zc (v := iV ((k + 1 : Nat) : Int)) rfl) rfl (zh rfl (fun w hw => qH (m := k + 1) (n := 1) rfl rfl (by omega) (by omega)) rfl (q9 rfl jr hO (k := 0) rfl hl hr (yo ho) rfl rfl rfl ?_))))))))
   rintro b1 o1 _ hb1 _ hc1 ⟨⟩
   refine zh rfl (fun w hw => zu xH (cs := [iV E[k].1, iV E[k].2]) rfl rfl fun t v ht => qR (hw.2 rfl) (k := 0) rfl hb1 _ t (hc1 t v ht)) rfl (zh rfl (fun w hw => zc (v := .slice a n c) rfl) rfl (zh rfl (fun w hw => zc (v := iV ((k + 1 : Nat) : Int)) rfl) rfl (q9 rfl jr hO (k := 0) rfl hl hr (yo hp) rfl rfl rfl ?_)))
   rintro b2 o2 _ hb2 _ hc2 ⟨⟩
   refine zh rfl (fun w hw => zu xH (cs := [iV E[k + 1].1, iV E[k + 1].2]) rfl rfl fun t v ht => qR (hw.2 rfl) (k := 0) rfl hb2 _ t (hc2 t v ht)) rfl (q9 rfl jr hO (k := 0) rfl hl hr (yo hp) rfl rfl rfl ?_)
   rintro b3 o3 _ hb3 _ hc3 ⟨⟩
   refine zD rfl rfl (yZ (vs := [iV E[k].1, iV E[k].2]) (cs := [iV E[k + 1].1, iV E[k + 1].2]) (j := 0) (y := E[k]) zbq hS hO (k := 0) rfl hl rfl hr hb3 rfl hc3 (x7 hp _) rfl rfl rfl rfl rfl (yt rfl rfl) (nQl rfl) (fun w9 cells9 hS hO hr => ⟨zlh trivial (zhm (by kernel_rfl)), ?_⟩))
   have hO : Owns Gc w9 B (rowS a n c cells9 :: Lq) := hO
   have hl2 : n = (E.set (k + 1) E[k]).length := by rw [List.length_set]; exact hl
   have ho2 : k < (E.set (k + 1) E[k]).length := by omega
   refine q9 rfl jr hO (k := 0) rfl hl2 hr (yo ho2) rfl rfl rfl ?_
   rintro b4 o4 _ hb4 _ hc4 ⟨⟩
   refine zD rfl rfl (yZ (vs := [iV E[k + 1].1, iV E[k + 1].2]) (cs := [iV _, iV _]) (j := 0) (y := E[k + 1]) zbq hS hO (k := 0) rfl hl2 rfl hr hb4 rfl hc4 (x7 ho2 _) rfl rfl rfl rfl rfl (yt rfl rfl) (nQl rfl) (fun w8 cells8 hS hO hr => ⟨fun _ h => zR (by kernel_rfl) h, qp ?_⟩))
   rw [← zc0 hp ho] at hr
   refine zb (za (zc (v := iV ((k + 1 : Nat) : Int)) rfl) rfl (za (qH (m := k + 1) (n := 1) rfl rfl (by omega) (by omega)) rfl (za (zf (v := iV (k : Int)) rfl) rfl (ze ?_))))
   exact ⟨k, Nat.lt_succ_self _, _, cells8, _, zi _ _ ⟨rfl, rfl, rfl, trivial⟩, by omega, by omega, hS, hO, hr, hdn.step k1 (by omega), hm.trans (Mv.swp ⟨by omega, by omega⟩ ⟨by omega, by omega⟩ (by omega))⟩
  ·have hkq : k = q := by have := of_decide_eq_false hb; omega
   subst hkq
   refine zW rfl ⟨cells, E, hS, hO, hr, ?_, hm⟩
   obtain rfl : e = m + 1 := by omega
   exact ziB q0 k1 (hdn.kf key) hu g1 (fun i i1 i2 => Int.le_of_lt (g2 i i1 i2))
set_option maxHeartbeats 2000000 in
theorem zpL {s m e : Nat} (hS : Since B G0 w0 Gc wc) (hO : Owns Gc wc B (rowS a n c cells :: Lq)) (hr : Rd RSt 2 Gc cells D) (hn : n = D.length) (hsm : s < m) (hme : m < e) (he : e ≤ n) (hD : n ≤ 1000) (hcmp : CmpOk B G0 Gc w0 Lq a n c kc ca key D) (hu : Sr key D s m) (hv : Sr key D m e) (h1 : m - s ≠ 1) (h2 : e - m ≠ 1)
  (ih : ∀ {Gc : Gm} {wc : World} {cells : List Value} {D : List (Int × Int)} (s' m' e' : Nat), e' - s' < e - s → Since B G0 w0 Gc wc → Owns Gc wc B (rowS a n c cells :: Lq) → Rd RSt 2 Gc cells D → n = D.length → s' < m' → m' < e' → e' ≤ n → CmpOk B G0 Gc w0 Lq a n c kc ca key D → Sr key D s' m' → Sr key D m' e' →
   Calls Tryz.prog 162 [.slice a n c, iV (s' : Int), iV (m' : Int), iV (e' : Int), .func (.func kc) #[] ca.toArray].toArray wc (jP B G0 w0 Gc wc (fun G' L' _ => ∃ cells' E, L' = rowS a n c cells' :: Lq ∧ Rd RSt 2 G' cells' E ∧ Sr key E s' e' ∧ Mv s' e' D E))) :
  Calls Tryz.prog 162 [.slice a n c, iV (s : Int), iV (m : Int), iV (e : Int), .func (.func kc) #[] ca.toArray].toArray wc (jP B G0 w0 Gc wc (fun G' L' _ => ∃ cells' E, L' = rowS a n c cells' :: Lq ∧ Rd RSt 2 G' cells' E ∧ Sr key E s e ∧ Mv s e D E)) := by
 have hxs : s < D.length := by omega
 have hxm : m < D.length := by omega
 refine yP (N := 220) (rs := []) hO.base Tryz.func162 rfl rfl rfl rfl (zd ?_)
 refine zd (zb (za (zc (v := iV (m : Int)) rfl) rfl (za (zc (v := iV (s : Int)) rfl) rfl (za (qH (m := m) (n := s) rfl rfl (by omega) (by omega)) rfl (za (xu rfl rfl) rfl (ze (zH (((m - s : Nat) : Int) == 1) (by simp; omega) rfl (zq (zd ?_)))))))))
 refine zd (zb (za (zc (v := iV (e : Int)) rfl) rfl (za (zc (v := iV (m : Int)) rfl) rfl (za (qH (m := e) (n := m) rfl rfl (by omega) (by omega)) rfl (za (xu rfl rfl) rfl (ze (zH (((e - m : Nat) : Int) == 1) (by simp; omega) rfl (zq (zd ?_)))))))))
 refine zb (za (zc (v := iV ((s : Nat) : Int)) rfl) rfl (za (zc (v := iV ((e : Nat) : Int)) rfl) rfl (za (zX (m := s) (n := e) rfl rfl (by omega)) rfl (za (zk2 (n := s + e) rfl (by omega)) rfl (za (zk0 (n := s + e) rfl rfl) rfl (za (zk4 (n := (s + e) / 2) rfl (by omega)) rfl (za (zf (v := iV (((s + e) / 2 : Nat) : Int)) rfl) rfl (ze ?_))))))))
 refine zd (zb (za (zc (v := iV (((s + e) / 2 : Nat) : Int)) rfl) rfl (za (zc (v := iV (m : Int)) rfl) rfl (za (zX (m := (s + e) / 2) (n := m) rfl rfl (by omega)) rfl (za (zf (v := iV (((s + e) / 2 + m : Nat) : Int)) rfl) rfl (ze ?_))))))
 refine zd (zb (za (zf (v := iV 0) rfl) rfl (za (zf (v := iV 0) rfl) rfl (ze ?_))))
 refine zd (zZ (fun F w => ∃ Fb, ∃ s0 r0 : Nat, F = qi Fb [(0, .slice a n c), (1, iV (s : Int)), (2, iV (m : Int)), (3, iV (e : Int)), (4, .func (.func kc) #[] ca.toArray), (18, iV (((s + e) / 2 : Nat) : Int)), (19, iV (((s + e) / 2 + m : Nat) : Int)), (20, iV (s0 : Int)), (21, iV (r0 : Int))] ∧ Since B G0 w0 Gc w ∧ Owns Gc w B (rowS a n c cells :: Lq) ∧ (((s + e) / 2 < m ∧ s0 = (s + e) / 2 + m - e ∧ r0 = (s + e) / 2) ∨ (m ≤ (s + e) / 2 ∧ s0 = s ∧ r0 = m))) ?_ ?_)
 ·refine zd (zb (za (zc (v := iV (m : Int)) rfl) rfl (za (zc (v := iV (((s + e) / 2 : Nat) : Int)) rfl) rfl (za (ve rfl rfl) rfl (ze (zV rfl (fun hb => ?_) (fun hb => ?_)))))))
  ·have hlt : (s + e) / 2 < m := by have := of_decide_eq_true hb; omega
   refine zd (zb (za (zc (v := iV (((s + e) / 2 + m : Nat) : Int)) rfl) rfl (za (zc (v := iV (e : Int)) rfl) rfl (za (qH (m := (s + e) / 2 + m) (n := e) rfl rfl (by omega) (by omega)) rfl (za (zf (v := iV (((s + e) / 2 + m - e : Nat) : Int)) rfl) rfl (ze ?_))))))
   refine zb (za (zc (v := iV (((s + e) / 2 : Nat) : Int)) rfl) rfl (za (zf (v := iV (((s + e) / 2 : Nat) : Int)) rfl) rfl (ze ?_)))
   exact ⟨_, _, _, zi _ _ ⟨rfl, rfl, rfl, rfl, rfl, rfl, rfl, rfl, rfl, trivial⟩, hS, hO, .inl ⟨hlt, rfl, rfl⟩⟩
  ·have hlt : m ≤ (s + e) / 2 := by have := of_decide_eq_false hb; omega
   refine zd (zb (za (zc (v := iV (s : Int)) rfl) rfl (za (zf (v := iV (s : Int)) rfl) rfl (ze ?_))))
   refine zb (za (zc (v := iV (m : Int)) rfl) rfl (za (zf (v := iV (m : Int)) rfl) rfl (ze ?_)))
   exact ⟨_, _, _, zi _ _ ⟨rfl, rfl, rfl, rfl, rfl, rfl, rfl, rfl, rfl, trivial⟩, hS, hO, .inr ⟨hlt, rfl, rfl⟩⟩
 rintro F w ⟨Fb, s0, r0, rfl, hS, hO, h0⟩
 refine zd (zb (za (zc (v := iV (((s + e) / 2 + m : Nat) : Int)) rfl) rfl (za (qH (m := (s + e) / 2 + m) (n := 1) rfl rfl (by omega) (by omega)) rfl (za (zf (v := iV (((s + e) / 2 + m - 1 : Nat) : Int)) rfl) rfl (ze ?_)))))
 refine zd ?_
 have hb0 : s ≤ s0 ∧ s0 ≤ r0 ∧ r0 ≤ m ∧ s0 < e := by omega
 refine zZ (fun F w => ∃ Fb, ∃ i : Nat, F = qi Fb [(0, .slice a n c), (1, iV (s : Int)), (2, iV (m : Int)), (3, iV (e : Int)), (4, .func (.func kc) #[] ca.toArray), (18, iV (((s + e) / 2 : Nat) : Int)), (19, iV (((s + e) / 2 + m : Nat) : Int)), (22, iV (((s + e) / 2 + m - 1 : Nat) : Int)), (20, iV (i : Int))] ∧ s0 ≤ i ∧ i ≤ r0 ∧ Since B G0 w0 Gc w ∧ Owns Gc w B (rowS a n c cells :: Lq) ∧ (∀ k, s0 ≤ k → k < i → kf key D k ≤ kf key D ((s + e) / 2 + m - 1 - k)) ∧ (∀ k, i ≤ k → k < r0 → kf key D ((s + e) / 2 + m - 1 - k) < kf key D k)) ?_ ?_
 ·refine zp (qh (kZ (fun ij : Nat × Nat => ij.2 - ij.1) (fun ij F w => ∃ Fb, F = qi Fb [(0, .slice a n c), (1, iV (s : Int)), (2, iV (m : Int)), (3, iV (e : Int)), (4, .func (.func kc) #[] ca.toArray), (18, iV (((s + e) / 2 : Nat) : Int)), (19, iV (((s + e) / 2 + m : Nat) : Int)), (22, iV (((s + e) / 2 + m - 1 : Nat) : Int)), (20, iV (ij.1 : Int)), (21, iV (ij.2 : Int))] ∧ s0 ≤ ij.1 ∧ ij.1 ≤ ij.2 ∧ ij.2 ≤ r0 ∧ Since B G0 w0 Gc w ∧ Owns Gc w B (rowS a n c cells :: Lq) ∧ (∀ k, s0 ≤ k → k < ij.1 → kf key D k ≤ kf key D ((s + e) / 2 + m - 1 - k)) ∧ (∀ k, ij.2 ≤ k → k < r0 → kf key D ((s + e) / 2 + m - 1 - k) < kf key D k)) ?_ (s0, r0) _ _ ⟨_, zi _ _ ⟨rfl, rfl, rfl, rfl, rfl, rfl, rfl, rfl, rfl, rfl, trivial⟩, Nat.le_refl _, by simp; omega, Nat.le_refl _, hS, hO, fun k h1 h2 => by simp at h2; omega, fun k h1 h2 => by simp at h1; omega⟩))
  rintro ⟨i, j⟩ F w ⟨Fb, rfl, i0, i1, i2, hS, hO, g1, g2⟩
  simp only at i0 i1 i2 g1 g2
  refine zd (zd (zb (za (zc (v := iV (i : Int)) rfl) rfl (za (zc (v := iV (j : Int)) rfl) rfl (za (zN rfl rfl) rfl (ze (zV rfl (fun hb => ?_) (fun hb => ?_))))))))
  ·have hij : i < j := by have := of_decide_eq_true hb; omega
   refine zq (zp (zd (zb (za (zc (v := iV ((i : Nat) : Int)) rfl) rfl (za (zc (v := iV ((j : Nat) : Int)) rfl) rfl (za (zX (m := i) (n := j) rfl rfl (by omega)) rfl (za (zk2 (n := i + j) rfl (by omega)) rfl (za (zk0 (n := i + j) rfl rfl) rfl (za (zk4 (n := (i + j) / 2) rfl (by omega)) rfl (za (zf (v := iV (((i + j) / 2 : Nat) : Int)) rfl) rfl (ze ?_)))))))))))
   have hh1 : i ≤ (i + j) / 2 := by omega
   have hh2 : (i + j) / 2 < j := by omega
   generalize (i + j) / 2 = h at hh1 hh2
   have hx1 : (s + e) / 2 + m - 1 - h < D.length := by omega
   have hx2 : h < D.length := by omega
   refine zd ?_
   refine zM qw (fun _ w => Owns Gc w B (rowS a n c cells :: Lq)) (.fl 0 (.fl 1 (.fl 2 (.fl 3 (.fl 4 (.fl 5 (.fl 6 (.fl 7 (.fl 8 (.fl 9 (.fl 10 (.on 11 (.fl 12 (.fl 13 .nil)))))))))))))) (by kernel_rfl) rfl (by kernel_rfl) (fun _ => hO.below (zj _)) ?_
   have hS := hS.keep (zj w)
   have hO := hO.below (zj w)
   refine zh rfl (fun w hw => zc (v := .func (.func kc) #[] ca.toArray) rfl) rfl (zh rfl (fun w hw => zc (v := .slice a n c) rfl) rfl (zh rfl (fun w hw => zc (v := iV (((s + e) / 2 + m - 1 : Nat) : Int)) rfl) rfl (zh rfl (fun w hw => zc (v := iV ((h : Nat) : Int)) rfl) rfl (zh rfl (fun w hw => qH (m := (s + e) / 2 + m - 1) (n := h) rfl rfl (by omega) (by omega)) rfl (q9 rfl jr hO (k := 0) rfl hn hr (yo hx1) rfl rfl rfl ?_)))))
   rintro b1 o1 _ hb1 _ hc1 ⟨⟩
   refine zh rfl (fun w hw => zu xH (cs := [iV D[(s + e) / 2 + m - 1 - h].1, iV D[(s + e) / 2 + m - 1 - h].2]) rfl rfl fun t v ht => qR hw (k := 0) rfl hb1 _ t (hc1 t v ht)) rfl (zh rfl (fun w hw => zc (v := .slice a n c) rfl) rfl (zh rfl (fun w hw => zc (v := iV ((h : Nat) : Int)) rfl) rfl (q9 rfl jr hO (k := 0) rfl hn hr (yo hx2) rfl rfl rfl ?_)))
   rintro b2 o2 _ hb2 _ hc2 ⟨⟩
   refine zh rfl (fun w hw => zu xH (cs := [iV D[h].1, iV D[h].2]) rfl rfl fun t v ht => qR hw (k := 0) rfl hb2 _ t (hc2 t v ht)) rfl ?_
   obtain ⟨r, hrk, hcall⟩ := hcmp.2 Gc (World.drew w) cells (Gle.refl _) hS hO D[(s + e) / 2 + m - 1 - h] (List.getElem_mem _) D[h] (List.getElem_mem _)
   refine zD rfl rfl (ym (fi := []) (al := [.agg #[iV D[(s + e) / 2 + m - 1 - h].1, iV D[(s + e) / 2 + m - 1 - h].2], .agg #[iV D[h].1, iV D[h].2]]) (ca := ca) hcmp.1 hcall rfl rfl rfl fun w2 hb => ⟨fun _ _ => hO.below hb, ?_⟩)
   have hS := hS.keep hb
   have hO := hO.below hb
   refine zh rfl (fun w hw => zN rfl rfl) rfl (zh rfl (fun w hw => qE rfl) rfl (qp (zV rfl (fun hb => ?_) (fun hb => ?_))))
   ·have hge : ¬ key D[(s + e) / 2 + m - 1 - h] < key D[h] := fun h => by have := hrk.2 h; simp [this] at hb
    have hg : ∀ k, s0 ≤ k → k < h + 1 → kf key D k ≤ kf key D ((s + e) / 2 + m - 1 - k) := fun k k1 k2 => by
     have t1 := hu k h (by omega) (by omega) (by omega)
     have t2 := hv ((s + e) / 2 + m - 1 - h) ((s + e) / 2 + m - 1 - k) (by omega) (by omega) (by omega)
     rw [jX key (List.getElem?_eq_getElem hx2)] at t1
     rw [jX key (List.getElem?_eq_getElem hx1)] at t2
     omega
    refine zb (za (zc (v := iV ((h : Nat) : Int)) rfl) rfl (za (zX (m := h) (n := 1) rfl rfl (by omega)) rfl (za (zf (v := iV ((h + 1 : Nat) : Int)) rfl) rfl (ze ?_))))
    exact ⟨(h + 1, j), by simp; omega, _, zi _ _ ⟨rfl, rfl, rfl, rfl, rfl, rfl, rfl, rfl, rfl, rfl, trivial⟩, by simp; omega, by simp; omega, i2, hS, hO, hg, g2⟩
   ·have hlt : key D[(s + e) / 2 + m - 1 - h] < key D[h] := hrk.1 (by simpa using hb)
    have hg : ∀ k, h ≤ k → k < r0 → kf key D ((s + e) / 2 + m - 1 - k) < kf key D k := fun k k1 k2 => by
     have t1 := hu h k (by omega) (by omega) (by omega)
     have t2 := hv ((s + e) / 2 + m - 1 - k) ((s + e) / 2 + m - 1 - h) (by omega) (by omega) (by omega)
     rw [jX key (List.getElem?_eq_getElem hx2)] at t1
     rw [jX key (List.getElem?_eq_getElem hx1)] at t2
     omega
    refine zb (za (zc (v := iV ((h : Nat) : Int)) rfl) rfl (za (zf (v := iV ((h : Nat) : Int)) rfl) rfl (ze ?_)))
    exact ⟨(i, h), by simp; omega, _, zi _ _ ⟨rfl, rfl, rfl, rfl, rfl, rfl, rfl, rfl, rfl, rfl, trivial⟩, i0, by simp; omega, by simp; omega, hS, hO, g1, hg⟩
  ·have hij : i = j := by have := of_decide_eq_false hb; omega
   subst hij
   exact zW rfl ⟨_, i, zi _ _ ⟨rfl, rfl, rfl, rfl, rfl, rfl, rfl, rfl, rfl, trivial⟩, i0, i2, hS, hO, g1, g2⟩
 rintro F w ⟨Fb, q, rfl, q0, q1, hS, hO, g1, g2⟩
 obtain ⟨key2, k1, k2, k3, k4, k5, k6⟩ := zkR (f := kf key D) hsm hme rfl rfl h0 ⟨q0, q1⟩ hu hv (fun k a b => by have := g1 k a b; rwa [show (s + e) / 2 + m - 1 - k = (s + e) / 2 + m - 1 - k from rfl]) (fun k a b => g2 k a b)
 refine zd (zb (za (zc (v := iV (((s + e) / 2 + m : Nat) : Int)) rfl) rfl (za (zc (v := iV (q : Int)) rfl) rfl (za (qH (m := (s + e) / 2 + m) (n := q) rfl rfl (by omega) (by omega)) rfl (za (zf (v := iV (((s + e) / 2 + m - q : Nat) : Int)) rfl) rfl (ze ?_))))))
 refine zd (zZ (fun F w => ∃ Fb G cells E, F = qi Fb [(0, .slice a n c), (1, iV (s : Int)), (2, iV (m : Int)), (3, iV (e : Int)), (4, .func (.func kc) #[] ca.toArray), (18, iV (((s + e) / 2 : Nat) : Int)), (20, iV (q : Int)), (24, iV (((s + e) / 2 + m - q : Nat) : Int))] ∧ Gle Gc G ∧ Since B G0 w0 G w ∧ Owns G w B (rowS a n c cells :: Lq) ∧ Rd RSt 2 G cells E ∧ Rot D E q m ((s + e) / 2 + m - q) ∧ Mv s e D E) ?_ ?_)
 ·rcases Nat.lt_or_ge (q) (m) with l1 | l1
  ·rcases Nat.lt_or_ge (m) ((s + e) / 2 + m - q) with l2 | l2
   ·refine zd (zb (za (zc (v := iV ((q : Nat) : Int)) rfl) rfl (za (zc (v := iV ((m : Nat) : Int)) rfl) rfl (za (v := .bool true) ((zN (m := ((q : Nat) : Int)) (n := ((m : Nat) : Int)) rfl rfl).trans (by rw [decide_eq_true (by omega)])) rfl (za (zc (v := .bool true) rfl) rfl (zl rfl (b := true) rfl rfl rfl (za (zc (v := iV ((m : Nat) : Int)) rfl) rfl (zl rfl (b := true) rfl rfl rfl (za (zc (v := iV (((s + e) / 2 + m - q : Nat) : Int)) rfl) rfl (zl rfl (b := true) rfl rfl rfl (za (v := .bool true) ((zN (m := ((m : Nat) : Int)) (n := (((s + e) / 2 + m - q : Nat) : Int)) rfl rfl).trans (by rw [decide_eq_true (by omega)])) rfl (za (yy (v := .bool true) rfl rfl rfl) rfl (ze (zQ true rfl rfl ?_))))))))))))))
    refine zb (za (zc (v := .slice a n c) rfl) rfl (za (zc (v := iV ((q : Nat) : Int)) rfl) rfl (za (zc (v := iV ((m : Nat) : Int)) rfl) rfl (za (zc (v := iV (((s + e) / 2 + m - q : Nat) : Int)) rfl) rfl (za (zc (v := .func (.func kc) #[] ca.toArray) rfl) rfl (?_))))))
    refine zm rfl (z9 (fi := []) (al := [.slice a n c, iV ((q : Nat) : Int), iV ((m : Nat) : Int), iV (((s + e) / 2 + m - q : Nat) : Int), .func (.func kc) #[] ca.toArray]) (ca := []) zyF (zsp hS hO hr hn (by omega) (by omega) (by omega) hD) rfl rfl rfl fun v G1 w1 L1 le1 hS hO hv => ?_)
    obtain ⟨cells1, E1, rfl, hr, hE, hM⟩ := hv
    exact ze ⟨_, G1, cells1, E1, zi _ _ ⟨rfl, rfl, rfl, rfl, rfl, rfl, rfl, rfl, trivial⟩, le1, hS, hO, hr, hE, hM.wide (by omega) (by omega)⟩
   ·refine zd (zb (za (zc (v := iV ((q : Nat) : Int)) rfl) rfl (za (zc (v := iV ((m : Nat) : Int)) rfl) rfl (za (v := .bool true) ((zN (m := ((q : Nat) : Int)) (n := ((m : Nat) : Int)) rfl rfl).trans (by rw [decide_eq_true (by omega)])) rfl (za (zc (v := .bool true) rfl) rfl (zl rfl (b := true) rfl rfl rfl (za (zc (v := iV ((m : Nat) : Int)) rfl) rfl (zl rfl (b := true) rfl rfl rfl (za (zc (v := iV (((s + e) / 2 + m - q : Nat) : Int)) rfl) rfl (zl rfl (b := true) rfl rfl rfl (za (v := .bool false) ((zN (m := ((m : Nat) : Int)) (n := (((s + e) / 2 + m - q : Nat) : Int)) rfl rfl).trans (by rw [decide_eq_false (by omega)])) rfl (za (yy (v := .bool false) rfl rfl rfl) rfl (ze (zH false rfl rfl ?_))))))))))))))
    exact zq ⟨_, Gc, cells, D, zi _ _ ⟨rfl, rfl, rfl, rfl, rfl, rfl, rfl, rfl, trivial⟩, Gle.refl _, hS, hO, hr, Rot.triv (by omega), Mv.refl _ _ _⟩
  ·refine zd (zb (za (zc (v := iV ((q : Nat) : Int)) rfl) rfl (za (zc (v := iV ((m : Nat) : Int)) rfl) rfl (za (v := .bool false) ((zN (m := ((q : Nat) : Int)) (n := ((m : Nat) : Int)) rfl rfl).trans (by rw [decide_eq_false (by omega)])) rfl (za (zc (v := .bool false) rfl) rfl (qd rfl (b := false) rfl rfl rfl rfl (qd rfl (b := false) rfl rfl rfl rfl (qd rfl (b := false) rfl rfl rfl rfl (za (xc (v := .bool false) rfl rfl rfl) rfl (ze (zH false rfl rfl ?_)))))))))))
   exact zq ⟨_, Gc, cells, D, zi _ _ ⟨rfl, rfl, rfl, rfl, rfl, rfl, rfl, rfl, trivial⟩, Gle.refl _, hS, hO, hr, Rot.triv (by omega), Mv.refl _ _ _⟩
 rintro F w ⟨Fb, G, cells, E, rfl, le, hS, hO, hr, hrot, hm⟩
 have hl : n = E.length := by rw [hm.len]; exact hn
 obtain ⟨r1, r2, r3, r4⟩ := znB (c := key) (a := s) (b := e) (show (s + e) / 2 = q + ((s + e) / 2 + m - q - m) by omega) k1 k3 k4 k5 hu hv hrot
 obtain ⟨E0, hE0⟩ : ∃ E0, E0 = E := ⟨_, rfl⟩
 obtain ⟨G0', hG0⟩ : ∃ G', G' = G := ⟨_, rfl⟩
 refine zd (zZ (fun F w => ∃ Fb G cells E, F = qi Fb [(0, .slice a n c), (1, iV (s : Int)), (2, iV (m : Int)), (3, iV (e : Int)), (4, .func (.func kc) #[] ca.toArray), (18, iV (((s + e) / 2 : Nat) : Int)), (20, iV (q : Int)), (24, iV (((s + e) / 2 + m - q : Nat) : Int))] ∧ Gle G0' G ∧ Since B G0 w0 G w ∧ Owns G w B (rowS a n c cells :: Lq) ∧ Rd RSt 2 G cells E ∧ Mv s ((s + e) / 2) E0 E ∧ Sr key E s ((s + e) / 2)) ?_ ?_)
 ·subst hE0
  subst hG0
  rcases Nat.lt_or_ge (s) (q) with l1 | l1
  ·rcases Nat.lt_or_ge (q) ((s + e) / 2) with l2 | l2
   ·refine zd (zb (za (zc (v := iV ((s : Nat) : Int)) rfl) rfl (za (zc (v := iV ((q : Nat) : Int)) rfl) rfl (za (v := .bool true) ((zN (m := ((s : Nat) : Int)) (n := ((q : Nat) : Int)) rfl rfl).trans (by rw [decide_eq_true (by omega)])) rfl (za (zc (v := .bool true) rfl) rfl (zl rfl (b := true) rfl rfl rfl (za (zc (v := iV ((q : Nat) : Int)) rfl) rfl (zl rfl (b := true) rfl rfl rfl (za (zc (v := iV (((s + e) / 2 : Nat) : Int)) rfl) rfl (zl rfl (b := true) rfl rfl rfl (za (v := .bool true) ((zN (m := ((q : Nat) : Int)) (n := (((s + e) / 2 : Nat) : Int)) rfl rfl).trans (by rw [decide_eq_true (by omega)])) rfl (za (yy (v := .bool true) rfl rfl rfl) rfl (ze (zQ true rfl rfl ?_))))))))))))))
    refine zb (za (zc (v := .slice a n c) rfl) rfl (za (zc (v := iV ((s : Nat) : Int)) rfl) rfl (za (zc (v := iV ((q : Nat) : Int)) rfl) rfl (za (zc (v := iV (((s + e) / 2 : Nat) : Int)) rfl) rfl (za (zc (v := .func (.func kc) #[] ca.toArray) rfl) rfl (?_))))))
    refine zm rfl (z9 (fi := []) (al := [.slice a n c, iV ((s : Nat) : Int), iV ((q : Nat) : Int), iV (((s + e) / 2 : Nat) : Int), .func (.func kc) #[] ca.toArray]) (ca := []) zfx (ih s q ((s + e) / 2) (by omega) hS hO hr hl l1 l2 (by omega) (hcmp.le le hm.perm) r1 r2) rfl rfl rfl fun v G1 w1 L1 le1 hS hO hv => ?_)
    obtain ⟨cells1, E1, rfl, hr, hE, hM⟩ := hv
    exact ze ⟨_, G1, cells1, E1, zi _ _ ⟨rfl, rfl, rfl, rfl, rfl, rfl, rfl, rfl, trivial⟩, le1, hS, hO, hr, hM, hE⟩
   ·refine zd (zb (za (zc (v := iV ((s : Nat) : Int)) rfl) rfl (za (zc (v := iV ((q : Nat) : Int)) rfl) rfl (za (v := .bool true) ((zN (m := ((s : Nat) : Int)) (n := ((q : Nat) : Int)) rfl rfl).trans (by rw [decide_eq_true (by omega)])) rfl (za (zc (v := .bool true) rfl) rfl (zl rfl (b := true) rfl rfl rfl (za (zc (v := iV ((q : Nat) : Int)) rfl) rfl (zl rfl (b := true) rfl rfl rfl (za (zc (v := iV (((s + e) / 2 : Nat) : Int)) rfl) rfl (zl rfl (b := true) rfl rfl rfl (za (v := .bool false) ((zN (m := ((q : Nat) : Int)) (n := (((s + e) / 2 : Nat) : Int)) rfl rfl).trans (by rw [decide_eq_false (by omega)])) rfl (za (yy (v := .bool false) rfl rfl rfl) rfl (ze (zH false rfl rfl ?_))))))))))))))
    exact zq ⟨_, _, cells, _, zi _ _ ⟨rfl, rfl, rfl, rfl, rfl, rfl, rfl, rfl, trivial⟩, Gle.refl _, hS, hO, hr, Mv.refl _ _ _, by
     rcases Nat.lt_or_ge s q with h | h
     ·have hq : q = (s + e) / 2 := by omega
      rw [← hq]
      exact r1
     ·have hq : q = s := by omega
      rw [hq] at r2
      exact r2⟩
  ·refine zd (zb (za (zc (v := iV ((s : Nat) : Int)) rfl) rfl (za (zc (v := iV ((q : Nat) : Int)) rfl) rfl (za (v := .bool false) ((zN (m := ((s : Nat) : Int)) (n := ((q : Nat) : Int)) rfl rfl).trans (by rw [decide_eq_false (by omega)])) rfl (za (zc (v := .bool false) rfl) rfl (qd rfl (b := false) rfl rfl rfl rfl (qd rfl (b := false) rfl rfl rfl rfl (qd rfl (b := false) rfl rfl rfl rfl (za (xc (v := .bool false) rfl rfl rfl) rfl (ze (zH false rfl rfl ?_)))))))))))
   exact zq ⟨_, _, cells, _, zi _ _ ⟨rfl, rfl, rfl, rfl, rfl, rfl, rfl, rfl, trivial⟩, Gle.refl _, hS, hO, hr, Mv.refl _ _ _, by
    rcases Nat.lt_or_ge s q with h | h
    ·have hq : q = (s + e) / 2 := by omega
     rw [← hq]
     exact r1
    ·have hq : q = s := by omega
     rw [hq] at r2
     exact r2⟩
 subst hE0
 subst hG0
 rintro F w ⟨Fb, G2, cells2, H, rfl, le2, hS, hO, hr, hH, sH⟩
 have hl2 : n = H.length := by rw [hH.len]; exact hl
 have fin : ∀ {F : Fr} {G3 : Gm} {w3 : World} {cells3 : List Value} {K : List (Int × Int)}, Gle G2 G3 → Since B G0 w0 G3 w3 → Owns G3 w3 B (rowS a n c cells3 :: Lq) → Rd RSt 2 G3 cells3 K → Mv ((s + e) / 2) e H K → Sr key K ((s + e) / 2) e → ∃ vs, ResOk Tryz.prog F w3 [] vs ∧ ∃ G' L', Gle Gc G' ∧ Since B G0 w0 G' w3 ∧ Owns G' w3 B L' ∧ ∃ cells' E, L' = rowS a n c cells' :: Lq ∧ Rd RSt 2 G' cells' E ∧ Sr key E s e ∧ Mv s e D E :=
  fun {F G3 w3 cells3 K} l3 hS hO hr hK sK => ⟨[], trivial, G3, _, (le.trans le2).trans l3, hS, hO, cells3, K, rfl, hr, znC hsm hme rfl rfl h0 ⟨q0, q1⟩ hu hv g1 g2 hrot hH sH hK sK, hm.trans ((hH.wide (Nat.le_refl _) (by omega)).trans (hK.wide (by omega) (Nat.le_refl _)))⟩
 rcases Nat.lt_or_ge ((s + e) / 2) ((s + e) / 2 + m - q) with l1 | l1
 ·rcases Nat.lt_or_ge ((s + e) / 2 + m - q) (e) with l2 | l2
  ·refine zd (zb (za (zc (v := iV (((s + e) / 2 : Nat) : Int)) rfl) rfl (za (zc (v := iV (((s + e) / 2 + m - q : Nat) : Int)) rfl) rfl (za (v := .bool true) ((zN (m := (((s + e) / 2 : Nat) : Int)) (n := (((s + e) / 2 + m - q : Nat) : Int)) rfl rfl).trans (by rw [decide_eq_true (by omega)])) rfl (za (zc (v := .bool true) rfl) rfl (zl rfl (b := true) rfl rfl rfl (za (zc (v := iV (((s + e) / 2 + m - q : Nat) : Int)) rfl) rfl (zl rfl (b := true) rfl rfl rfl (za (zc (v := iV ((e : Nat) : Int)) rfl) rfl (zl rfl (b := true) rfl rfl rfl (za (v := .bool true) ((zN (m := (((s + e) / 2 + m - q : Nat) : Int)) (n := ((e : Nat) : Int)) rfl rfl).trans (by rw [decide_eq_true (by omega)])) rfl (za (yy (v := .bool true) rfl rfl rfl) rfl (ze (zQ true rfl rfl ?_))))))))))))))
   refine zb (za (zc (v := .slice a n c) rfl) rfl (za (zc (v := iV (((s + e) / 2 : Nat) : Int)) rfl) rfl (za (zc (v := iV (((s + e) / 2 + m - q : Nat) : Int)) rfl) rfl (za (zc (v := iV ((e : Nat) : Int)) rfl) rfl (za (zc (v := .func (.func kc) #[] ca.toArray) rfl) rfl (?_))))))
   refine zm rfl (z9 (fi := []) (al := [.slice a n c, iV (((s + e) / 2 : Nat) : Int), iV (((s + e) / 2 + m - q : Nat) : Int), iV ((e : Nat) : Int), .func (.func kc) #[] ca.toArray]) (ca := []) zfx (ih ((s + e) / 2) ((s + e) / 2 + m - q) e (by omega) hS hO hr hl2 l1 l2 he (hcmp.le (le.trans le2) (hH.perm.trans hm.perm)) (r3.out hH (.inr (Nat.le_refl _))) (r4.out hH (.inr (by omega)))) rfl rfl rfl fun v G1 w1 L1 le1 hS hO hv => ?_)
   obtain ⟨cells1, E1, rfl, hr, hE, hM⟩ := hv
   exact ze (fin le1 hS hO hr hM hE)
  ·refine zd (zb (za (zc (v := iV (((s + e) / 2 : Nat) : Int)) rfl) rfl (za (zc (v := iV (((s + e) / 2 + m - q : Nat) : Int)) rfl) rfl (za (v := .bool true) ((zN (m := (((s + e) / 2 : Nat) : Int)) (n := (((s + e) / 2 + m - q : Nat) : Int)) rfl rfl).trans (by rw [decide_eq_true (by omega)])) rfl (za (zc (v := .bool true) rfl) rfl (zl rfl (b := true) rfl rfl rfl (za (zc (v := iV (((s + e) / 2 + m - q : Nat) : Int)) rfl) rfl (zl rfl (b := true) rfl rfl rfl (za (zc (v := iV ((e : Nat) : Int)) rfl) rfl (zl rfl (b := true) rfl rfl rfl (za (v := .bool false) ((zN (m := (((s + e) / 2 + m - q : Nat) : Int)) (n := ((e : Nat) : Int)) rfl rfl).trans (by rw [decide_eq_false (by omega)])) rfl (za (yy (v := .bool false) rfl rfl rfl) rfl (ze (zH false rfl rfl ?_))))))))))))))
   refine zq (fin (Gle.refl _) hS hO hr (Mv.refl _ _ _) ?_)
   rcases Nat.lt_or_ge ((s + e) / 2 + m - q) e with h | h
   ·have hq : (s + e) / 2 + m - q = (s + e) / 2 := by omega
    rw [hq] at r4
    exact r4.out hH (.inr (Nat.le_refl _))
   ·have hq : (s + e) / 2 + m - q = e := by omega
    rw [hq] at r3
    exact r3.out hH (.inr (Nat.le_refl _))
 ·refine zd (zb (za (zc (v := iV (((s + e) / 2 : Nat) : Int)) rfl) rfl (za (zc (v := iV (((s + e) / 2 + m - q : Nat) : Int)) rfl) rfl (za (v := .bool false) ((zN (m := (((s + e) / 2 : Nat) : Int)) (n := (((s + e) / 2 + m - q : Nat) : Int)) rfl rfl).trans (by rw [decide_eq_false (by omega)])) rfl (za (zc (v := .bool false) rfl) rfl (qd rfl (b := false) rfl rfl rfl rfl (qd rfl (b := false) rfl rfl rfl rfl (qd rfl (b := false) rfl rfl rfl rfl (za (xc (v := .bool false) rfl rfl rfl) rfl (ze (zH false rfl rfl ?_)))))))))))
  refine zq (fin (Gle.refl _) hS hO hr (Mv.refl _ _ _) ?_)
  rcases Nat.lt_or_ge ((s + e) / 2 + m - q) e with h | h
  ·have hq : (s + e) / 2 + m - q = (s + e) / 2 := by omega
   rw [hq] at r4
   exact r4.out hH (.inr (Nat.le_refl _))
  ·have hq : (s + e) / 2 + m - q = e := by omega
   rw [hq] at r3
   exact r3.out hH (.inr (Nat.le_refl _))
theorem zcI : ∀ (d : Nat) {Gc : Gm} {wc : World} {cells : List Value} {D : List (Int × Int)} {s m e : Nat}, e - s ≤ d → Since B G0 w0 Gc wc → Owns Gc wc B (rowS a n c cells :: Lq) → Rd RSt 2 Gc cells D → n = D.length → s < m → m < e → e ≤ n → n ≤ 1000 → CmpOk B G0 Gc w0 Lq a n c kc ca key D → Sr key D s m → Sr key D m e →
  Calls Tryz.prog 162 [.slice a n c, iV (s : Int), iV (m : Int), iV (e : Int), .func (.func kc) #[] ca.toArray].toArray wc (jP B G0 w0 Gc wc (fun G' L' _ => ∃ cells' E, L' = rowS a n c cells' :: Lq ∧ Rd RSt 2 G' cells' E ∧ Sr key E s e ∧ Mv s e D E)) := by
 intro d
 induction d with
 | zero => intro Gc wc cells D s m e hd _ _ _ _ h1 h2; omega
 | succ d ih =>
  intro Gc wc cells D s m e hd hS hO hr hn h1 h2 he hD hcmp hu hv
  by_cases c1 : m - s = 1
  ·exact zpK hS hO hr hn h1 h2 he hD hcmp hu hv c1
  ·by_cases c2 : e - m = 1
   ·exact zpJ hS hO hr hn h1 h2 he hD hcmp hu hv c1 c2
   ·exact zpL hS hO hr hn h1 h2 he hD hcmp hu hv c1 c2 fun s' m' e' hd' hS hO hr hn a1 a2 a3 hc hu hv => ih (by omega) hS hO hr hn a1 a2 a3 hD hc hu hv
end
end Go.Proofs.YtihedfkcccaonaaGreatDoor
