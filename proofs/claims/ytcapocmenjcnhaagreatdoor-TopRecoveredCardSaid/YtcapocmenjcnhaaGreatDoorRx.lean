/-
 Plain loops: what a loop over the elements of a list gives, as a recursion over the list.
-/
import Derived.Test.YtcapocmenjcnhaaGreatDoorFr
import Derived.Test.YtcapocmenjcnhaaGreatDoorWx
set_option linter.unusedVariables false
set_option linter.unusedSimpArgs false
namespace Go.Proofs.YtcapocmenjcnhaaGreatDoor
open Go.RowKit
theorem ztL {x : Int} (h1 : -9223372036854775808 ≤ x) (h2 : x < 9223372036854775808) : IntKind.i64.wrap x = x := by
 rw [IntKind.wrap_i64]; omega
theorem zsK {k n : Nat} (h : k < n) (hn : n ≤ 1073741824) : IntKind.i64.wrap ((k : Int) + 1) = ((k + 1 : Nat) : Int) := by
 rw [ztL] <;> omega
theorem qm {α : Type} (xs : List α) (k : Nat) : ix xs (k : Int) = xs[k]? := by simp [ix]
def goL {α τ ρ : Type} (f : Nat → α → τ → Option (τ ⊕ ρ)) (fin : τ → ρ) : Nat → List α → τ → Option ρ
 | _, [], t => some (fin t)
 | k, y :: ys, t => match f k y t with
  | none => none
  | some (.inl t') => goL f fin (k + 1) ys t'
  | some (.inr r) => some r
theorem zvY {α σ τ ρ : Type} {body : σ → Option (σ ⊕ ρ)} (enc : Nat → τ → σ) (xs : List α) (f : Nat → α → τ → Option (τ ⊕ ρ)) (fin : τ → ρ)
  (h1 : ∀ k t y, xs[k]? = some y → body (enc k t) = (f k y t).map (Sum.map (enc (k + 1)) id)) (h2 : ∀ t, body (enc xs.length t) = some (.inr (fin t))) (t : τ) :
  lp body (enc 0 t) = goL f fin 0 xs t := by
 have key : ∀ (ys : List α) (k : Nat) (t : τ), xs.drop k = ys → k ≤ xs.length → lp body (enc k t) = goL f fin k ys t := by
  intro ys
  induction ys with
  | nil =>
   intro k t hd hk
   have : k = xs.length := by have := List.drop_eq_nil_iff.1 hd; omega
   subst this
   rw [zbU, h2]; rfl
  | cons y ys ih =>
   intro k t hd hk
   have hlt : k < xs.length := by
    rcases Nat.lt_or_ge k xs.length with h | h
    ·exact h
    ·rw [List.drop_eq_nil_of_le h] at hd; cases hd
   rw [List.drop_eq_getElem_cons hlt] at hd
   injection hd with hy hd
   rw [zbU, h1 k t y (by rw [List.getElem?_eq_getElem hlt, hy])]
   cases hs : f k y t with
   | none => simp [goL, hs]
   | some s =>
    cases s with
    | inl t' =>
     simp only [goL, hs, Option.map_some, Sum.map_inl]
     exact ih (k + 1) t' hd hlt
    | inr r => simp [goL, hs]
 exact key xs 0 t rfl (Nat.zero_le _)
theorem jC {α : Type} {xs : List α} {k : Nat} {y : α} (h : xs[k]? = some y) : k < xs.length := (List.getElem?_eq_some_iff.1 h).1
def zdb {α : Type} (p : Nat → α → Bool) : Nat → List α → Bool
 | _, [] => true
 | k, y :: ys => p k y && zdb p (k + 1) ys
theorem zkO {α ρ : Type} (p : Nat → α → Bool) (b : ρ) (fin : Unit → ρ) : ∀ (xs : List α) (k : Nat), goL (fun k y (_ : Unit) => some (if p k y = true then .inl () else .inr b)) fin k xs () = some (if zdb p k xs = true then fin () else b)
 | [], _ => by simp [goL, zdb]
 | y :: ys, k => by
  have ih := zkO p b fin ys (k + 1)
  by_cases h : p k y = true
  ·simp only [goL, zdb, h, if_true, Bool.true_and]; exact ih
  ·simp [goL, zdb, h]
theorem vW {α : Type} (p : Nat → α → Bool) : ∀ (xs : List α) (k : Nat), zdb p k xs = true ↔ ∀ j y, xs[j]? = some y → p (k + j) y = true
 | [], k => by simp [zdb]
 | y :: ys, k => by
  rw [zdb, Bool.and_eq_true, vW p ys (k + 1)]
  constructor
  ·rintro ⟨h1, h2⟩ j z hz
   cases j with
   | zero => simp at hz; subst hz; exact h1
   | succ j => simp at hz; have := h2 j z hz; rwa [show k + 1 + j = k + (j + 1) by omega] at this
  ·intro h
   refine ⟨h 0 y (by simp), fun j z hz => ?_⟩
   have := h (j + 1) z (by simpa using hz)
   rwa [show k + (j + 1) = k + 1 + j by omega] at this
theorem ze8 {α σ ρ : Type} {body : σ → Option (σ ⊕ ρ)} (xs : List α) (p : Nat → α → Bool) (b r : ρ) (enc : Nat → σ) (h1 : ∀ k y, xs[k]? = some y → body (enc k) = some (if p k y = true then .inl (enc (k + 1)) else .inr b)) (h2 : body (enc xs.length) = some (.inr r)) :
  lp body (enc 0) = some (if zdb p 0 xs = true then r else b) := by
 rw [← zkO p b (fun _ => r) xs 0]
 refine zvY (fun k (_ : Unit) => enc k) xs _ _ ?_ ?_ ()
 ·intro k t y hy
  rw [h1 k y hy]
  by_cases h : p k y = true <;> simp [h]
 ·intro t; exact h2
theorem zky {α σ ρ : Type} {body : σ → Option (σ ⊕ ρ)} (xs : List α) (r : ρ) (enc : Nat → σ) (h1 : ∀ k y, xs[k]? = some y → body (enc k) = some (.inl (enc (k + 1)))) (h2 : body (enc xs.length) = some (.inr r)) :
  lp body (enc 0) = some r := by
 have := ze8 xs (fun _ _ => true) r r enc (fun k y hy => by rw [h1 k y hy]; rfl) h2
 rw [this]; split <;> rfl
end Go.Proofs.YtcapocmenjcnhaaGreatDoor
/-
 The reef: copies of lists; facts of the program's tables.
-/
namespace Go.Proofs.YtcapocmenjcnhaaGreatDoor
open Go.RowKit
set_option maxRecDepth 20000
theorem zjl : qB Tryz.prog 189 0 = some 0 := by kernel_rfl
theorem zlT : qB Tryz.prog 189 1 = some 4 := by kernel_rfl
theorem zjk : qB Tryz.prog 189 2 = some 7 := by kernel_rfl
theorem vz : qB Tryz.prog 189 3 = some 8 := by kernel_rfl
theorem zad : qB Tryz.prog 189 4 = some 9 := by kernel_rfl
theorem vm : qB Tryz.prog 91 0 = some 0 := by kernel_rfl
theorem jL : qB Tryz.prog 35 0 = some 0 := by kernel_rfl
theorem zaQ : qB Tryz.prog 35 2 = some 2 := by kernel_rfl
theorem zia : qB Tryz.prog 52 0 = some 0 := by kernel_rfl
theorem zeT : qB Tryz.prog 52 1 = some 1 := by kernel_rfl
theorem zeS : qB Tryz.prog 52 2 = some 2 := by kernel_rfl
theorem zya : qB Tryz.prog 66 0 = some 0 := by kernel_rfl
theorem zoi : qB Tryz.prog 66 1 = some 1 := by kernel_rfl
theorem zoh : qB Tryz.prog 66 2 = some 2 := by kernel_rfl
theorem zog : qB Tryz.prog 66 3 = some 3 := by kernel_rfl
theorem zx9 : qB Tryz.prog 66 4 = some 4 := by kernel_rfl
theorem zof : qB Tryz.prog 70 1 = some 1 := by kernel_rfl
theorem zoe : qB Tryz.prog 70 2 = some 2 := by kernel_rfl
theorem zx8 : qB Tryz.prog 70 3 = some 4 := by kernel_rfl
theorem zod : qB Tryz.prog 70 4 = some 5 := by kernel_rfl
theorem zoc : qB Tryz.prog 70 7 = some 10 := by kernel_rfl
theorem zyc : qB Tryz.prog 23 0 = some 0 := by kernel_rfl
theorem zyb : qB Tryz.prog 23 1 = some 1 := by kernel_rfl
theorem s33 : slB Tryz.prog 33 = some (70, 12, 96) := by kernel_rfl
theorem s24 : slB Tryz.prog 24 = some (3, 1, 8) := by kernel_rfl
theorem s39 : slB Tryz.prog 39 = some (23, 2, 16) := by kernel_rfl
theorem s50 : slB Tryz.prog 50 = some (24, 1, 24) := by kernel_rfl
theorem n33 : naB Tryz.prog 33 = true := by kernel_rfl
theorem n24 : naB Tryz.prog 24 = true := by kernel_rfl
theorem n50 : naB Tryz.prog 50 = true := by kernel_rfl
theorem n3 : naB Tryz.prog 3 = true := by kernel_rfl
theorem n4 : naB Tryz.prog 4 = true := by kernel_rfl
theorem g70 : agB Tryz.prog 70 = some 12 := by kernel_rfl
theorem g91 : agB Tryz.prog 91 = some 4 := by kernel_rfl
theorem g52 : agB Tryz.prog 52 = some 3 := by kernel_rfl
theorem g66 : agB Tryz.prog 66 = some 5 := by kernel_rfl
theorem g35 : agB Tryz.prog 35 = some 3 := by kernel_rfl
theorem g23 : agB Tryz.prog 23 = some 2 := by kernel_rfl
theorem g94 : agB Tryz.prog 94 = some 2 := by kernel_rfl
theorem z70 : szB Tryz.prog 70 = some 12 := by kernel_rfl
theorem z3 : szB Tryz.prog 3 = some 1 := by kernel_rfl
theorem z4 : szB Tryz.prog 4 = some 1 := by kernel_rfl
theorem z24 : szB Tryz.prog 24 = some 1 := by kernel_rfl
theorem z50 : szB Tryz.prog 50 = some 1 := by kernel_rfl
theorem z66 : szB Tryz.prog 66 = some 5 := by kernel_rfl
theorem z52 : szB Tryz.prog 52 = some 3 := by kernel_rfl
theorem z91 : szB Tryz.prog 91 = some 4 := by kernel_rfl
theorem z94 : szB Tryz.prog 94 = some 2 := by kernel_rfl
theorem c25 : zN Tryz.prog 25 = true := by kernel_rfl
theorem c94 : zN Tryz.prog 94 = true := by kernel_rfl
theorem c95 : zN Tryz.prog 95 = true := by kernel_rfl
theorem c96 : zN Tryz.prog 96 = true := by kernel_rfl
theorem c97 : zN Tryz.prog 97 = true := by kernel_rfl
theorem qJ {κ : Ctx} {P : Program} {N : Nat} {n r : Fr → World → Prop} {x : List (Nat × (Fr → World → Prop))} {p : List PanicEntry → Fr → World → Prop} {c : Code} (m : Nat) (J : Nat → Fr → World → Prop)
  (step : ∀ i F w, i < m → J i F w → WC κ P N c ⟨J (i + 1), r, x, p⟩ F w) (last : ∀ F w, J m F w → WI κ P N c ⟨n, r, x, p⟩ F w) : ∀ (d i : Nat) (F : Fr) (w : World), i + d = m → J i F w → WI κ P N c ⟨n, r, x, p⟩ F w
 | 0, i, F, w, h, hJ => last F w (by obtain rfl : i = m := h; exact hJ)
 | d + 1, i, F, w, h, hJ => qP (zlu (fun e F' w' he => by
   cases e with
   | normal => exact qJ m J step last d (i + 1) F' w' (by omega) he
   | _ => exact he) (step i F w (by omega) hJ))
theorem kq {α : Type} (xs ys : List α) (h : xs.length + ys.length ≤ 1073741824) : app xs ys = some (xs ++ ys) := by simp [app, h]
theorem yQ {i : Nat} (h : i < 1000) : IntKind.i64.wrap ((i : Int) + 1) = ((i + 1 : Nat) : Int) := by rw [IntKind.wrap_i64]; omega
theorem xu {n : Int} (h : -9000000000000000000 ≤ n ∧ n ≤ 9000000000000000000) : IntKind.i64.wrap n = n := by rw [IntKind.wrap_i64]; omega
def Src (w : World) (a : Option Addr) (n : Nat) (xs : List Int) : Prop := n = xs.length ∧ n ≤ maxLen ∧ (a = none → xs = []) ∧ ∀ ad, a = some ad → ∀ (j : Nat) y, xs[j]? = some y → w.cell? (ad.add j) = some (.int .i64 y)
theorem RSl.src {G : Gm} {w : World} {a : Option Addr} {n c : Nat} {xs : List Int} (hS : Sat G w) (h : RSl zW 1 G a n c xs) : Src w a n xs := by
 obtain ⟨h1, ⟨h2, h3⟩, h4⟩ := h
 refine ⟨h1, h2, fun e => ?_, fun ad e j y hj => ?_⟩
 ·cases xs with
  | nil => rfl
  | cons x xs => obtain ⟨b, off, cs, e2, _⟩ := h4 0 x rfl; rw [e] at e2; cases e2
 ·obtain ⟨b, off, cs, e2, hc, hl, hr⟩ := h4 j y hj
  rw [e] at e2
  cases e2
  have hr : cs = [.int .i64 y] := hr
  subst hr
  have := hS.cell (hc 0 _ rfl)
  rw [yV]
  simpa using this
theorem Owns.src {G G0 : Gm} {w w0 : World} {B : Nat} {L : List Row} {k n c : Nat} {a : Option Addr} {cells : List Value} {xs : List Int} (hS : Since B G0 w0 G w) (hO : Owns G w B L) (hk : L[k]? = some ⟨3, 1, n, .slice a n c, cells⟩) (hn : n = xs.length) (hrd : Rd zW 1 G cells xs) : Src w a n xs := by
 subst hn
 obtain ⟨G', le, hS', _, hs⟩ := hO.freezeS hS zm (k := k) hk hrd rfl
 exact RSl.src hS'.sat hs
section
variable {κ : Ctx} {p : List PanicEntry → Fr → World → Prop} {P : Program} {N : Nat} {F : Fr} {w : World} {K : Fr → World → Prop} {d : Nat} {ty : TypeId} {pos : String} {af : Array Edge} {gd : Option (Nat × Bool)} {G G0 : Gm} {w0 : World} {B : Nat} {L : List Row}
theorem ztK {k n n' cp m c T : Nat} {bytes : Nat} {ad ao : Option Addr} {X Y : Operand} {ats : Array TypeId} {cells : List Value} {xs ys : List Int}
  (hT : slB P T = some (3, 1, bytes)) (hS : Since B G0 w0 G w) (hO : Owns G w B L) (hk : L[k]? = some ⟨3, 1, n', .slice ao n cp, cells⟩) (hn : n' = xs.length) (hrd : Rd zW 1 G cells xs) (hs : Src w ad m ys) (hlim : xs.length + ys.length ≤ 1073741824)
  (hat : ats = #[T, T]) (hX : ev F X = .slice ao n cp) (hY : ev F Y = .slice ad m c) (hd : Nat.blt d N = true) (hby : Nat.ble bytes 65536 = true)
  (h : ∀ a cp' w' cells', Since B G0 w0 G w' → Owns G w' B (L.set k ⟨3, 1, (xs ++ ys).length, .slice a (xs ++ ys).length cp', cells'⟩) → Rd zW 1 G cells' (xs ++ ys) → K (upd F d (.slice a (xs ++ ys).length cp')) w') :
  OpP κ P N p ⟨some d, .call { callee := .builtin .append, args := #[X, Y], argTypes := ats }, ty, pos, af, gd⟩ F w K := by
 subst hat
 subst hn
 obtain ⟨hm, hmx, hnone, hcell⟩ := hs
 obtain ⟨news, hnews⟩ : ∃ news : List Value, news = ys.map fun y => .int .i64 y := ⟨_, rfl⟩
 have p1 : news.length = m * 1 := by rw [hnews, List.length_map, hm, Nat.mul_one]
 have p2 : Rd zW 1 G news ys := by
  refine ⟨by rw [hnews, List.length_map, Nat.mul_one], fun i y hy => ⟨[.int .i64 y], rfl, fun j u hj => ?_, rfl⟩⟩
  cases j with
  | zero => simp at hj; subst hj; rw [hnews, Nat.mul_one, Nat.add_zero, List.getElem?_map, hy]; rfl
  | succ j => simp at hj
 have p3 : ∀ u ∈ news, u.oneCell' = true := fun u hu => by rw [hnews] at hu; obtain ⟨y, _, rfl⟩ := List.mem_map.1 hu; rfl
 have p4 : ∀ a, ad = some a → ∀ (j : Nat) u, news[j]? = some u → w.cell? (a.add j) = some u := fun a ha j u hj => by
  rw [hnews, List.getElem?_map] at hj
  cases hy : ys[j]? with
  | none => rw [hy] at hj; cases hj
  | some y => rw [hy] at hj; cases hj; exact hcell a ha j y hy
 have hc := hO.each _ (List.mem_of_getElem? hk)
 have hby' := Nat.le_of_ble_eq_true hby
 have hbig : (xs.length + m) * bytes ≤ 140737488355328 := by
  have h1 : (xs.length + m) * bytes ≤ 1073741824 * 65536 := Nat.mul_le_mul (by omega) hby'
  omega
 have hrow : ORow w B 3 1 (.slice ao n cp) xs.length cells := hc.1
 obtain ⟨v', w', hrun, q1, q2, q3, a, c', rfl⟩ := zkf (P := P) hT (hc.1 : ORow w B 3 1 (.slice ao n cp) xs.length cells) ⟨_, _, _, rfl⟩ hO.base (ad := ad) (m := m) (c := c) p1 p4 (fun h0 => by rw [hm, hnone h0]; rfl) p3 (by simp only [maxLen]; omega) hbig ty
 have hlen : (xs ++ ys).length = xs.length + m := by rw [List.length_append, hm]
 have hdiff : ∀ b, b < w.heap.size → ya (Value.slice ao n cp) ≠ some b → w'.heap[b]? = w.heap[b]? := fun b hb hne => q2.block b hb (fun e => hne e.symm)
 have hsat : Sat G w' := zbk hS.sat hc hdiff
 have hbel : Below B w w' := ⟨q2.os, q2.tape, q2.output, q2.size, fun b hb => hdiff b (Nat.lt_of_lt_of_le hb hO.base) (fun e => by have := (hc.lt e).1; omega)⟩
 refine zay (v := .slice a (xs.length + m) c') (w' := w') ?_ hd (zbr hc q2.size hdiff) ?_
 ·simp only [execOp, resolve, invoke, builtin, Sem.run_bind, Sem.run_pure, Result.andThen_ok, List.map_toArray, List.map_cons, List.map_nil, hX, hY, hrun]
 ·rw [← hlen]
  rw [← hlen] at q1 q3
  refine h a c' w' (cells ++ news) (hS.write hsat hbel) (hO.write hk q2.size hdiff ⟨q1, fun g hg => ?_⟩ q3) (hrd.append p2)
  rcases q3 g hg with h' | h'
  ·exact hc.2 g h'
  ·cases hG : G g with
   | none => rfl
   | some o => exact absurd (hS.sat.lt hG) (by omega)
end
section
variable {B : Nat} {G0 : Gm} {w0 : World} {Gc : Gm} {wc : World} {L : List Row}
theorem zbx {a : Option Addr} {n c : Nat} {xs : List Int} (hS : Since B G0 w0 Gc wc) (hO : Owns Gc wc B L) (hs : Src wc a n xs) (hl : xs.length ≤ 1073741824) :
  Calls Tryz.prog 25 [.slice a n c].toArray wc (zdX B G0 w0 Gc wc (fun G' L' v => ∃ a2 c2 cells, v = .slice a2 xs.length c2 ∧ L' = ⟨3, 1, xs.length, .slice a2 xs.length c2, cells⟩ :: L ∧ Rd zW 1 G' cells xs)) := by
 refine ve (N := 8) (rs := [.tmp 2]) hO.base Tryz.func25 rfl rfl rfl rfl (zc (zb (za (ze (v := .slice none 0 0) rfl) rfl (zd (zc (zc (zb (za (zf (v := .slice a n c) rfl) rfl (za (zsT Tryz.underlying24 rfl rfl) rfl (zd (z7 rfl (fun hb => ?_) (fun hb => zD ?_))))))))))))
 ·refine zc (zb (za (ze (v := .slice none 0 0) rfl) rfl (zd (zH ?_))))
  have ha : a = none := by simpa using hb
  have hx := hs.2.2.1 ha
  subst hx
  exact ⟨[.slice none 0 0], ⟨rfl, trivial⟩, Gc, _, Gle.refl _, hS, hO.cons_nil 3 1, none, 0, [], rfl, rfl, Rd.nil _ _ _⟩
 ·refine zc (zb (zp rfl (zY (v := fun b => .slice (some ⟨b, 0, none⟩) 0 0) (cs := []) (e := 3) (by kernel_rfl) hS.sat hO rfl 1 0 rfl (by decide) fun b w1 hb hO => ?_)))
  have hS := hS.keep hb
  have hs : Src w1 a n xs := ⟨hs.1, hs.2.1, hs.2.2.1, fun ad e j y hj => by
   have h := hs.2.2.2 ad e j y hj
   unfold World.cell? at h ⊢
   cases ho : wc.heap[(ad.add j).block]? with
   | none => rw [ho] at h; cases h
   | some o => rw [ho] at h; rw [hb.block _ (Array.getElem?_eq_some_iff.1 ho).1, ho]; exact h⟩
  refine za (zf (v := .slice a n c) rfl) rfl ?_
  refine zp rfl (ztK (k := 0) (xs := []) s24 hS hO rfl rfl (Rd.nil _ _ _) hs (by simpa using hl) rfl rfl rfl rfl rfl fun a2 c2 w2 cells hS hO hr => ?_)
  refine za (ze (v := .slice a2 xs.length c2) rfl) rfl (zd (zH ?_))
  exact ⟨[.slice a2 xs.length c2], ⟨rfl, trivial⟩, Gc, _, Gle.refl _, hS, hO, a2, c2, cells, rfl, rfl, hr⟩
theorem za8 (xs : List Int) (hl : xs.length ≤ 1000) : ∃ r, f94 xs = some r := by
 unfold f94
 have key : ∀ (d k : Nat) (n : Int), k + d = xs.length → ∃ r, lp (zfD xs) (n, (k : Int)) = some r := by
  intro d
  induction d with
  | zero =>
   intro k n hk
   rw [zbU]
   unfold zfD
   rw [if_neg (by simp; omega)]
   exact ⟨_, rfl⟩
  | succ d ih =>
   intro k n hk
   rw [zbU]
   unfold zfD
   have hlt : k < xs.length := by omega
   rw [if_pos (by simp; omega), qm, List.getElem?_eq_getElem hlt]
   simp only [Option.bind_some]
   rw [zsK hlt (by omega)]
   exact ih (k + 1) _ (by omega)
 obtain ⟨r, hr⟩ := key xs.length 0 0 (by omega)
 exact ⟨r, by rw [show ((0 : Int), (0 : Int)) = (0, ((0 : Nat) : Int)) from rfl, hr]; rfl⟩
end
end Go.Proofs.YtcapocmenjcnhaaGreatDoor
/-
 The reef in truth: fish grow, drift, are taken (plain).
-/
namespace Go.Proofs.YtcapocmenjcnhaaGreatDoor
open Go.RowKit
def stt (A X : List Int) (i : Nat) : List Int := A.take i ++ X.drop i
theorem zha {A X : List Int} (h : A.length = X.length) {i : Nat} (hi : i ≤ X.length) : (stt A X i).length = X.length := by
 unfold stt
 simp only [List.length_append, List.length_take, List.length_drop]
 omega
theorem zjg {A X : List Int} (h : A.length = X.length) {i : Nat} (hi : i < X.length) : (stt A X i)[i]? = some X[i] := by
 unfold stt
 rw [List.getElem?_append_right (by simp; omega), List.getElem?_drop, ← List.getElem?_eq_getElem]
 congr 1
 simp
 omega
theorem zg9 {A X : List Int} (h : A.length = X.length) {i : Nat} (hi : i < X.length) : (stt A X i).set i (A[i]'(by omega)) = stt A X (i + 1) := by
 unfold stt
 have hA : i < A.length := by omega
 have hl : i = (A.take i).length := by simp; omega
 have e : (X.drop i).set 0 A[i] = A[i] :: X.drop (i + 1) := by rw [List.drop_eq_getElem_cons hi]; rfl
 have e2 : (A.take i ++ X.drop i).set i A[i] = A.take i ++ (X.drop i).set 0 A[i] := by
  rw [List.set_append_right _ _ (by omega)]
  congr 2
  omega
 rw [e2, e, List.take_succ_eq_append_getElem hA, List.append_assoc]
 rfl
theorem zj7 {A X : List Int} (h : A.length = X.length) : stt A X X.length = A := by
 unfold stt
 rw [← h, List.take_length, h, List.drop_length, List.append_nil]
theorem zsP {A X : List Int} (h : A.length = X.length) {i : Nat} (hi : i < X.length) (e : A[i]'(by omega) = X[i]) : stt A X i = stt A X (i + 1) := by
 rw [← zg9 h hi]
 symm
 apply List.ext_getElem?
 intro j
 rw [List.getElem?_set]
 split
 ·rename_i hj
  subst hj
  rw [zjg h hi, e]
  simp [zha h (Nat.le_of_lt hi), hi]
 ·rfl
def kz (p : zr) (g x : Int) : Int := if p.Room ≤ x then x else x + min ((x * g).tdiv 1000) (p.Room - x)
def yc (ps : List zr) (gs X : List Int) : List Int := X.mapIdx fun i x => match ps[i]?, gs[i]? with
 | some p, some g => kz p g x
 | _, _ => x
theorem yb (ps : List zr) (gs X : List Int) : (yc ps gs X).length = X.length := by simp [yc]
theorem zgP {ps : List zr} {gs X : List Int} {i : Nat} {p : zr} {g : Int} (hp : ps[i]? = some p) (hg : gs[i]? = some g) (hi : i < X.length) : (yc ps gs X)[i]'(by rw [yb]; exact hi) = kz p g X[i] := by
 unfold yc
 simp [hp, hg]
def yX (ks X : List Int) : List Int := X.mapIdx fun i x => match ks[i]? with
 | some k => x - min x k
 | none => x
theorem xM (ks X : List Int) : (yX ks X).length = X.length := by simp [yX]
theorem zge {ks X : List Int} {i : Nat} {k : Int} (hk : ks[i]? = some k) (hi : i < X.length) : (yX ks X)[i]'(by rw [xM]; exact hi) = X[i] - min X[i] k := by
 unfold yX
 simp [hk]
def jc (ps : List zr) (X : List Int) (i : Nat) : Int := match ps[i]?, X[i]? with
 | some p, some x => (x * p.Drift).tdiv 1000
 | _, _ => 0
def qc (ps : List zr) (X : List Int) : Nat → List Int
 | 0 => X
 | i + 1 => match ps[i]? with
  | none => qc ps X i
  | some p => if 0 ≤ p.Into then (((qc ps X i).set i ((qc ps X i).getD i 0 - jc ps X i)).set p.Into.toNat (((qc ps X i).set i ((qc ps X i).getD i 0 - jc ps X i)).getD p.Into.toNat 0 + jc ps X i)) else (qc ps X i).set i ((qc ps X i).getD i 0 - jc ps X i)
theorem qL (ps : List zr) (X : List Int) : ∀ i, (qc ps X i).length = X.length
 | 0 => rfl
 | i + 1 => by
  have ih := qL ps X i
  unfold qc
  split
  ·exact ih
  ·split
   ·rw [List.length_set, List.length_set, ih]
   ·rw [List.length_set, ih]
def jR (ps : List zr) (X : List Int) (j : Nat) : Nat → Int
 | 0 => 0
 | i + 1 => jR ps X j i + (match ps[i]? with
  | none => 0
  | some p => if p.Into = (j : Int) then jc ps X i else 0)
structure zbh (ps : List zr) : Prop where
 many : ps.length ≤ 4
 each : ∀ (i : Nat) p, ps[i]? = some p → 0 ≤ p.Room ∧ p.Room ≤ 1000000 ∧ 0 ≤ p.Drift ∧ p.Drift ≤ 1000 ∧ -1 ≤ p.Into ∧ p.Into < (ps.length : Int) ∧ p.Into ≠ (i : Int) ∧ 0 ≤ p.Count ∧ p.Count ≤ 1000000 ∧ 0 ≤ p.Goal ∧ p.Goal ≤ 1000000 ∧ 0 ≤ p.Worth ∧ p.Worth ≤ 1000000 ∧
  0 ≤ p.Grow.Low ∧ p.Grow.Low ≤ p.Grow.High ∧ p.Grow.High ≤ 2000 ∧ 0 ≤ p.Open.Low ∧ p.Open.Low ≤ p.Open.High ∧ p.Open.High ≤ 1000000 ∧ 0 ≤ p.Shut.Low ∧ p.Shut.Low ≤ p.Shut.High ∧ p.Shut.High ≤ 1000000
def Bnd (M : Int) (X : List Int) : Prop := ∀ x ∈ X, 0 ≤ x ∧ x ≤ M
theorem vr (x : Int) (h : 0 ≤ x) : x.tdiv 1000 = x / 1000 := Int.tdiv_eq_ediv_of_nonneg h
theorem zhk {ps : List zr} (hp : zbh ps) {M : Int} {X : List Int} (hX : Bnd M X) (i : Nat) : 0 ≤ jc ps X i ∧ jc ps X i ≤ X.getD i 0 := by
 unfold jc
 rw [List.getD_eq_getElem?_getD]
 cases h1 : ps[i]? with
 | none =>
  refine ⟨Int.le_refl _, ?_⟩
  cases h2 : X[i]? with
  | none => exact Int.le_refl _
  | some x => exact (hX x (List.mem_of_getElem? h2)).1
 | some p =>
  obtain ⟨_, _, d0, d1, _⟩ := hp.each i p h1
  cases h2 : X[i]? with
  | none => exact ⟨Int.le_refl _, Int.le_refl _⟩
  | some x =>
   have hx := (hX x (List.mem_of_getElem? h2)).1
   simp only [Option.getD_some]
   have hm : 0 ≤ x * p.Drift := Int.mul_nonneg hx d0
   have hu : x * p.Drift ≤ x * 1000 := Int.mul_le_mul_of_nonneg_left d1 hx
   rw [vr _ hm]
   omega
theorem zbZ {X : List Int} {i : Nat} (hi : i < X.length) (v : Int) : (X.set i v).getD i 0 = v := by
 rw [List.getD_eq_getElem?_getD, List.getElem?_set_self hi]; rfl
theorem za3 {X : List Int} {i j : Nat} (h : i ≠ j) (v : Int) : (X.set i v).getD j 0 = X.getD j 0 := by
 rw [List.getD_eq_getElem?_getD, List.getElem?_set_ne h, List.getD_eq_getElem?_getD]
theorem kI {ps : List zr} (hp : zbh ps) {X : List Int} (hl : X.length = ps.length) {j : Nat} (hj : j < X.length) : ∀ i, i ≤ ps.length → (qc ps X i).getD j 0 = X.getD j 0 - (if j < i then jc ps X j else 0) + jR ps X j i
 | 0, _ => by simp [qc, jR]
 | i + 1, hi => by
  have ih := kI hp hl hj i (by omega)
  have hlen := qL ps X i
  have hpi := List.getElem?_eq_getElem (l := ps) (i := i) (by omega)
  obtain ⟨_, _, _, _, b1, b2, b3, _⟩ := hp.each i _ hpi
  have e : qc ps X (i + 1) = if 0 ≤ (ps[i]'(by omega)).Into then (((qc ps X i).set i ((qc ps X i).getD i 0 - jc ps X i)).set (ps[i]'(by omega)).Into.toNat (((qc ps X i).set i ((qc ps X i).getD i 0 - jc ps X i)).getD (ps[i]'(by omega)).Into.toNat 0 + jc ps X i)) else (qc ps X i).set i ((qc ps X i).getD i 0 - jc ps X i) := by
   conv => lhs; unfold qc
   rw [hpi]
  have e2 : jR ps X j (i + 1) = jR ps X j i + if (ps[i]'(by omega)).Into = (j : Int) then jc ps X i else 0 := by
   conv => lhs; unfold jR
   rw [hpi]
  rw [e, e2]
  clear e e2
  have hq : ∃ q, q = (ps[i]'(by omega)).Into := ⟨_, rfl⟩
  obtain ⟨q, hq⟩ := hq
  rw [← hq] at b1 b2 b3 ⊢
  obtain ⟨Y, hY⟩ : ∃ Y, Y = qc ps X i := ⟨_, rfl⟩
  rw [← hY] at ih hlen ⊢
  have hbase : (Y.set i (Y.getD i 0 - jc ps X i)).getD j 0 = Y.getD j 0 - if j = i then jc ps X j else 0 := by
   by_cases hji : j = i
   ·subst hji; rw [zbZ (by omega), if_pos rfl]
   ·rw [za3 (fun h => hji h.symm), if_neg hji]; omega
  have hout : (if j < i + 1 then jc ps X j else 0) = (if j < i then jc ps X j else 0) + if j = i then jc ps X j else 0 := by
   by_cases h1 : j < i
   ·rw [if_pos (by omega), if_pos h1, if_neg (by omega)]; omega
   ·by_cases h2 : j = i
    ·rw [if_pos (by omega), if_neg h1, if_pos h2]; omega
    ·rw [if_neg (by omega), if_neg h1, if_neg h2]; omega
  by_cases h0 : 0 ≤ q
  ·rw [if_pos h0]
   by_cases hqj : q = (j : Int)
   ·have hqn : q.toNat = j := by omega
    rw [hqn, zbZ (by rw [List.length_set]; omega), hbase, if_pos hqj, hout]
    omega
   ·have hqn : q.toNat ≠ j := by omega
    rw [za3 hqn, hbase, if_neg hqj, hout]
    omega
  ·have hne : ¬ q = (j : Int) := by omega
   rw [if_neg h0, hbase, if_neg hne, hout]
   omega
theorem zfr {ps : List zr} (hp : zbh ps) {M : Int} (hM : 0 ≤ M) {X : List Int} (hX : Bnd M X) (j : Nat) : ∀ i, 0 ≤ jR ps X j i ∧ jR ps X j i ≤ M * (i : Int)
 | 0 => by simp [jR]
 | i + 1 => by
  have ih := zfr hp hM hX j i
  have ho := zhk hp hX i
  have hx : X.getD i 0 ≤ M := by
   rw [List.getD_eq_getElem?_getD]
   cases h : X[i]? with
   | none => exact hM
   | some x => exact (hX x (List.mem_of_getElem? h)).2
  have em : M * ((i + 1 : Nat) : Int) = M * (i : Int) + M := by rw [Int.natCast_add, Int.mul_add]; simp
  unfold jR
  rw [em]
  split
  ·omega
  ·split <;> omega
theorem zbz {ps : List zr} (hp : zbh ps) {M : Int} (hM : 0 ≤ M) {X : List Int} (hX : Bnd M X) (hl : X.length = ps.length) (i : Nat) (hi : i ≤ ps.length) : Bnd (5 * M) (qc ps X i) := fun y hy => by
 obtain ⟨j, hj⟩ := List.getElem?_of_mem hy
 have hjl : j < X.length := by have := (List.getElem?_eq_some_iff.1 hj).1; rw [qL] at this; exact this
 have hc := kI hp hl hjl i hi
 rw [List.getD_eq_getElem?_getD, hj] at hc
 have ho := zhk hp hX j
 have hin := zfr hp hM hX j i
 have hx : 0 ≤ X.getD j 0 ∧ X.getD j 0 ≤ M := by
  rw [List.getD_eq_getElem?_getD, List.getElem?_eq_getElem hjl]
  exact hX _ (List.getElem_mem hjl)
 have hi4 : M * (i : Int) ≤ M * 4 := Int.mul_le_mul_of_nonneg_left (by have := hp.many; omega) hM
 simp only [Option.getD_some] at hc
 split at hc <;> omega
theorem zth {p : zr} {g x M : Int} (hr : 0 ≤ p.Room ∧ p.Room ≤ M) (hg : 0 ≤ g) (hx : 0 ≤ x ∧ x ≤ M) : 0 ≤ kz p g x ∧ kz p g x ≤ M ∧ x ≤ kz p g x := by
 unfold kz
 have hm : 0 ≤ x * g := Int.mul_nonneg hx.1 hg
 rw [vr _ hm]
 split <;> omega
theorem zdB {ps : List zr} (hp : zbh ps) {M : Int} (hM : 1000000 ≤ M) {gs X : List Int} (hg : ∀ g ∈ gs, 0 ≤ g) (hX : Bnd M X) : Bnd M (yc ps gs X) := fun y hy => by
 obtain ⟨i, hi⟩ := List.getElem?_of_mem hy
 unfold yc at hi
 rw [List.getElem?_mapIdx] at hi
 cases hx : X[i]? with
 | none => rw [hx] at hi; cases hi
 | some x =>
  rw [hx] at hi
  have hxb := hX x (List.mem_of_getElem? hx)
  cases h1 : ps[i]? with
  | none => simp [h1] at hi; omega
  | some p =>
   cases h2 : gs[i]? with
   | none => simp [h1, h2] at hi; omega
   | some g =>
    simp [h1, h2] at hi
    obtain ⟨r0, r1, _⟩ := hp.each i p h1
    have := zth (p := p) (g := g) (x := x) (M := M) ⟨r0, by omega⟩ (hg g (List.mem_of_getElem? h2)) hxb
    omega
theorem zrR {M : Int} {ks X : List Int} (hk : ∀ k ∈ ks, 0 ≤ k) (hX : Bnd M X) : Bnd M (yX ks X) := fun y hy => by
 obtain ⟨i, hi⟩ := List.getElem?_of_mem hy
 unfold yX at hi
 rw [List.getElem?_mapIdx] at hi
 cases hx : X[i]? with
 | none => rw [hx] at hi; cases hi
 | some x =>
  rw [hx] at hi
  have hxb := hX x (List.mem_of_getElem? hx)
  cases h1 : ks[i]? with
  | none => simp [h1] at hi; omega
  | some k =>
   simp [h1] at hi
   have := hk k (List.mem_of_getElem? h1)
   omega
def zac (ps : List zr) (gs ks X : List Int) : List Int := yX ks (qc ps (yc ps gs X) ps.length)
def qn (ps : List zr) (Gr Tk : List (List Int)) (X : List Int) : Nat → List Int
 | 0 => X
 | s + 1 => zac ps (Gr.getD s []) (Tk.getD s []) (qn ps Gr Tk X s)
theorem zqX (ps : List zr) (gs ks X : List Int) : (zac ps gs ks X).length = X.length := by
 unfold zac
 rw [xM, qL, yb]
theorem yY (ps : List zr) (Gr Tk : List (List Int)) (X : List Int) : ∀ s, (qn ps Gr Tk X s).length = X.length
 | 0 => rfl
 | s + 1 => by unfold qn; rw [zqX, yY ps Gr Tk X s]
theorem zro {ps : List zr} (hp : zbh ps) {M : Int} (hM : 1000000 ≤ M) {gs ks X : List Int} (hg : ∀ g ∈ gs, 0 ≤ g) (hk : ∀ k ∈ ks, 0 ≤ k) (hX : Bnd M X) (hl : X.length = ps.length) : Bnd (5 * M) (zac ps gs ks X) :=
 zrR hk (zbz hp (by omega) (zdB hp hM hg hX) (by rw [yb]; exact hl) _ (Nat.le_refl _))
def Leq (X Y : List Int) : Prop := X.length = Y.length ∧ ∀ j, j < X.length → X.getD j 0 ≤ Y.getD j 0
theorem zsd {p : zr} {g g' x x' : Int} (hr : 0 ≤ p.Room) (hg : 0 ≤ g ∧ g ≤ g') (hx : 0 ≤ x ∧ x ≤ x') : kz p g x ≤ kz p g' x' := by
 unfold kz
 have h0 : 0 ≤ x * g := Int.mul_nonneg hx.1 hg.1
 have h1 : x * g ≤ x' * g' := Int.mul_le_mul hx.2 hg.2 hg.1 (by omega)
 rw [vr _ h0, vr _ (by omega)]
 have h2 : x * g / 1000 ≤ x' * g' / 1000 := Int.ediv_le_ediv (by decide) h1
 have h3 : 0 ≤ x * g / 1000 := Int.ediv_nonneg h0 (by decide)
 split <;> split <;> omega
theorem zs3 {d x x' : Int} (hd : 0 ≤ d ∧ d ≤ 1000) (hx : 0 ≤ x ∧ x ≤ x') : (x * d).tdiv 1000 ≤ (x' * d).tdiv 1000 ∧ x - (x * d).tdiv 1000 ≤ x' - (x' * d).tdiv 1000 := by
 have h0 : 0 ≤ x * d := Int.mul_nonneg hx.1 hd.1
 have h1 : 0 ≤ x' * d := Int.mul_nonneg (by omega) hd.1
 rw [vr _ h0, vr _ h1]
 have h2 : x * d ≤ x' * d := Int.mul_le_mul_of_nonneg_right hx.2 hd.1
 have h3 : x' * d - x * d ≤ (x' - x) * 1000 := by
  have := Int.mul_le_mul_of_nonneg_left hd.2 (show 0 ≤ x' - x by omega)
  rw [Int.sub_mul] at this
  omega
 omega
theorem Leq.at' {X Y : List Int} (h : Leq X Y) {M : Int} (hX : Bnd M X) (j : Nat) : 0 ≤ X.getD j 0 ∧ X.getD j 0 ≤ Y.getD j 0 := by
 by_cases hj : j < X.length
 ·refine ⟨?_, h.2 j hj⟩
  rw [List.getD_eq_getElem?_getD, List.getElem?_eq_getElem hj]
  exact (hX _ (List.getElem_mem hj)).1
 ·have hj2 : ¬ j < Y.length := by rw [← h.1]; exact hj
  rw [List.getD_eq_getElem?_getD, List.getElem?_eq_none (by omega), List.getD_eq_getElem?_getD, List.getElem?_eq_none (by omega)]
  exact ⟨Int.le_refl _, Int.le_refl _⟩
theorem zd8 {ps : List zr} {gs X : List Int} {i : Nat} (hi : i < X.length) (hl : X.length = ps.length) (hg : gs.length = ps.length) : (yc ps gs X).getD i 0 = kz (ps[i]'(by omega)) (gs.getD i 0) (X.getD i 0) := by
 have h1 := List.getElem?_eq_getElem (l := ps) (i := i) (by omega)
 have h2 := List.getElem?_eq_getElem (l := gs) (i := i) (by omega)
 rw [List.getD_eq_getElem?_getD, List.getElem?_eq_getElem (by rw [yb]; exact hi), zgP h1 h2 hi, List.getD_eq_getElem?_getD, h2, List.getD_eq_getElem?_getD, List.getElem?_eq_getElem hi]
 rfl
theorem zdZ {ks X : List Int} {i : Nat} (hi : i < X.length) (hk : ks.length = X.length) : (yX ks X).getD i 0 = X.getD i 0 - min (X.getD i 0) (ks.getD i 0) := by
 have h2 := List.getElem?_eq_getElem (l := ks) (i := i) (by omega)
 rw [List.getD_eq_getElem?_getD, List.getElem?_eq_getElem (by rw [xM]; exact hi), zge h2 hi, List.getD_eq_getElem?_getD, List.getElem?_eq_getElem hi, List.getD_eq_getElem?_getD, h2]
 rfl
theorem zrD {ps : List zr} (hp : zbh ps) {M : Int} {gs gs' X Y : List Int} (hX : Bnd M X) (hl : X.length = ps.length) (hg : gs.length = ps.length) (hg' : gs'.length = ps.length) (h0 : ∀ g ∈ gs, 0 ≤ g) (hgg : Leq gs gs') (h : Leq X Y) : Leq (yc ps gs X) (yc ps gs' Y) := by
 refine ⟨by rw [yb, yb]; exact h.1, fun j hj => ?_⟩
 rw [yb] at hj
 have hj2 : j < Y.length := by rw [← h.1]; exact hj
 rw [zd8 hj hl hg, zd8 hj2 (by rw [← h.1]; exact hl) hg']
 have hpj := hp.each j _ (List.getElem?_eq_getElem (l := ps) (i := j) (by omega))
 have hgb : 0 ≤ gs.getD j 0 := by
  rw [List.getD_eq_getElem?_getD, List.getElem?_eq_getElem (by omega)]
  exact h0 _ (List.getElem_mem (by omega))
 exact zsd hpj.1 ⟨hgb, hgg.2 j (by omega)⟩ (h.at' hX j)
theorem zgr {ps : List zr} (hp : zbh ps) {M : Int} {X Y : List Int} (hX : Bnd M X) (h : Leq X Y) (i : Nat) : jc ps X i ≤ jc ps Y i ∧ X.getD i 0 - jc ps X i ≤ Y.getD i 0 - jc ps Y i := by
 have hxy := h.at' hX i
 unfold jc
 cases h1 : ps[i]? with
 | none => simp only; omega
 | some p =>
  obtain ⟨_, _, d0, d1, _⟩ := hp.each i p h1
  rw [List.getD_eq_getElem?_getD, List.getD_eq_getElem?_getD] at hxy ⊢
  cases h2 : X[i]? with
  | none =>
   have : Y[i]? = none := by rw [List.getElem?_eq_none_iff] at h2 ⊢; rw [← h.1]; exact h2
   rw [this]
   simp
  | some x =>
   obtain ⟨y, h3⟩ : ∃ y, Y[i]? = some y := ⟨_, List.getElem?_eq_getElem (by rw [← h.1]; exact (List.getElem?_eq_some_iff.1 h2).1)⟩
   rw [h2, h3] at hxy
   rw [h3]
   simp only [Option.getD_some] at hxy ⊢
   exact zs3 ⟨d0, d1⟩ hxy
theorem zd7 {ps : List zr} (hp : zbh ps) {M : Int} {X Y : List Int} (hX : Bnd M X) (h : Leq X Y) (j : Nat) : ∀ i, jR ps X j i ≤ jR ps Y j i
 | 0 => Int.le_refl _
 | i + 1 => by
  have ih := zd7 hp hX h j i
  have ho := (zgr hp hX h i).1
  unfold jR
  split
  ·omega
  ·split <;> omega
theorem zrE {ps : List zr} (hp : zbh ps) {M : Int} {X Y : List Int} (hX : Bnd M X) (hl : X.length = ps.length) (h : Leq X Y) : Leq (qc ps X ps.length) (qc ps Y ps.length) := by
 refine ⟨by rw [qL, qL]; exact h.1, fun j hj => ?_⟩
 rw [qL] at hj
 rw [kI hp hl hj _ (Nat.le_refl _), kI hp (by rw [← h.1]; exact hl) (by rw [← h.1]; exact hj) _ (Nat.le_refl _)]
 have h1 := (zgr hp hX h j).2
 have h2 := zd7 hp hX h j ps.length
 rw [if_pos (by omega)]
 omega
theorem zre {ks ks' X Y : List Int} (hk : ks.length = X.length) (hk' : ks'.length = X.length) (hkk : ∀ j, j < X.length → ks'.getD j 0 ≤ ks.getD j 0) (h : Leq X Y) : Leq (yX ks X) (yX ks' Y) := by
 refine ⟨by rw [xM, xM]; exact h.1, fun j hj => ?_⟩
 rw [xM] at hj
 rw [zdZ hj hk, zdZ (by rw [← h.1]; exact hj) (by rw [hk', h.1])]
 have h1 := h.2 j hj
 have h2 := hkk j hj
 omega
theorem zqW {ps : List zr} (hp : zbh ps) {M : Int} (hM : 1000000 ≤ M) {gs gs' ks ks' X Y : List Int} (hX : Bnd M X) (hl : X.length = ps.length) (hg : gs.length = ps.length) (hg' : gs'.length = ps.length) (h0 : ∀ g ∈ gs, 0 ≤ g) (hgg : Leq gs gs')
  (hk : ks.length = ps.length) (hk' : ks'.length = ps.length) (hkk : ∀ j, j < ps.length → ks'.getD j 0 ≤ ks.getD j 0) (h : Leq X Y) : Leq (zac ps gs ks X) (zac ps gs' ks' Y) := by
 unfold zac
 have hgl : (yc ps gs X).length = ps.length := by rw [yb]; exact hl
 refine zre (by rw [qL, hgl]; exact hk) (by rw [qL, hgl]; exact hk') (fun j hj => hkk j (by rw [qL, hgl] at hj; exact hj)) ?_
 exact zrE hp (zdB hp hM h0 hX) hgl (zrD hp hX hl hg hg' h0 hgg h)
end Go.Proofs.YtcapocmenjcnhaaGreatDoor
/-
 The reef in truth: fish grow, drift, are taken (the walks).
-/
namespace Go.Proofs.YtcapocmenjcnhaaGreatDoor
open Go.RowKit
set_option maxRecDepth 20000
abbrev xX (bf : Nat) (v0 v1 v2 v3 v4 v5 v6 sv fv : Value) (l0 l1 l2 l3 l4 : Int) : Row := ⟨189, 14, 1, .slice (some ⟨bf, 0, none⟩) 1 1, [v0, v1, v2, v3, v4, v5, v6, sv, fv, iV l0, iV l1, iV l2, iV l3, iV l4]⟩
abbrev yt (a : Option Addr) (n c : Nat) (cells : List Value) : Row := ⟨3, 1, n, .slice a n c, cells⟩
abbrev pC (p : zr) : List Value := [iV p.Count, iV p.Room, iV p.Grow.Low, iV p.Grow.High, iV p.Drift, iV p.Into, iV p.Open.Low, iV p.Open.High, iV p.Shut.Low, iV p.Shut.High, iV p.Goal, iV p.Worth]
abbrev zeJ (b : Nat) (p : zr) : Row := ⟨70, 12, 1, .slice (some ⟨b, 0, none⟩) 1 1, pC p⟩
section
variable {B : Nat} {G0 : Gm} {w0 : World} {Gc : Gm} {wc : World} {Lq : List Row} {bf : Nat} {v1 v2 v3 v4 v6 : Value} {a1 a5 af : Option Addr} {n1 c1 n5 c5 cf : Nat} {s : Nat} {l0 l1 l2 l3 l4 : Int} {ps : List zr} {X gs : List Int} {Gr : List (List Int)} {fc : List Value}
set_option maxHeartbeats 1000000 in
theorem zxb (hS : Since B G0 w0 Gc wc) (hO : Owns Gc wc B (xX bf (.slice a1 n1 c1) v1 v2 v3 v4 (.slice a5 n5 c5) v6 (iV (s : Int)) (.slice af X.length cf) l0 l1 l2 l3 l4 :: yt af X.length cf fc :: Lq))
  (h1 : RSl zE 12 Gc a1 n1 c1 ps) (h5 : RSl (yd zW 1) 1 Gc a5 n5 c5 Gr) (hg : Gr[s]? = some gs) (hr : Rd zW 1 Gc fc X) (hl : X.length = ps.length) (hgl : gs.length = ps.length) (hp : zbh ps) (hX : Bnd 1000000000000 X) (hgb : ∀ g ∈ gs, 0 ≤ g ∧ g ≤ 2000) :
  Calls Tryz.prog 95 [pV bf].toArray wc (zdX B G0 w0 Gc wc (fun G' L' _ => ∃ l1' fc', L' = xX bf (.slice a1 n1 c1) v1 v2 v3 v4 (.slice a5 n5 c5) v6 (iV (s : Int)) (.slice af X.length cf) l0 l1' l2 l3 l4 :: yt af X.length cf fc' :: Lq ∧ Rd zW 1 G' fc' (yc ps gs X))) := by
 have hm := hp.many
 have hAl : (yc ps gs X).length = X.length := yb _ _ _
 refine ve (N := 73) (rs := []) hO.base Tryz.func95 rfl rfl rfl rfl (zc (zb (za (zf (v := pV bf) rfl) rfl (za (v := pV bf) (by kernel_rfl) rfl (za (zj zjl rfl) rfl (za (zj vm rfl) rfl (za (zj jL rfl) rfl (za (zk n33 rfl (zx hO (k := 0) rfl rfl)) rfl (za (qu (m := ps.length) s33 rfl rfl h1.1) rfl (za (zf (v := iV 0) rfl) rfl (zd ?_)))))))))))
 refine zB (qZ (qJ ps.length (fun i F w => ∃ Fb G l1 fc, F = qC Fb [(0, pV bf), (11, .slice a1 n1 c1), (12, iV (ps.length : Int)), (13, iV (i : Int))] ∧ Gle Gc G ∧ Since B G0 w0 G w ∧ Owns G w B (xX bf (.slice a1 n1 c1) v1 v2 v3 v4 (.slice a5 n5 c5) v6 (iV (s : Int)) (.slice af X.length cf) l0 l1 l2 l3 l4 :: yt af X.length cf fc :: Lq) ∧ Rd zW 1 G fc (stt (yc ps gs X) X i)) ?_ ?_ ps.length 0 _ _ (by omega) ⟨_, Gc, l1, fc, zi _ _ ⟨rfl, rfl, rfl, rfl, trivial⟩, Gle.refl _, hS, hO, by simpa [stt] using hr⟩))
 ·rintro i F w hi ⟨Fb, G, l1, fc, rfl, le, hS, hO, hr⟩
  have h1 := h1.mono zl le
  have h5 := h5.mono (zO zm) le
  have hiX : i < X.length := by omega
  have hpi := List.getElem?_eq_getElem (l := ps) (i := i) hi
  have hgi := List.getElem?_eq_getElem (l := gs) (i := i) (by omega)
  have hpx : ix ps (i : Int) = some ps[i] := (qm _ _).trans hpi
  have hgx : ix gs (i : Int) = some (gs[i]'(by omega)) := (qm _ _).trans hgi
  have hGx : ix Gr (s : Int) = some gs := (qm _ _).trans hg
  have hstl : X.length = (stt (yc ps gs X) X i).length := (zha hAl (by omega)).symm
  have hxx : ix (stt (yc ps gs X) X i) (i : Int) = some X[i] := (qm _ _).trans (zjg hAl hiX)
  have hval := zgP hpi hgi hiX
  obtain ⟨pr0, pr1, _⟩ := hp.each i _ hpi
  have hxb := hX _ (List.getElem_mem hiX)
  have hgb' := hgb _ (List.getElem_mem (l := gs) (n := i) (by omega))
  refine zc (zb (za (qa rfl rfl) rfl (zd (zc (qf (decide ((i : Int) < (ps.length : Int))) (decide_eq_true (by omega)) rfl (zD ?_))))))
  refine zc (zB (zc (zb (za (zf (v := iV (i : Int)) rfl) rfl (xi s33 h1 hpx rfl rfl rfl ?_)))))
  rintro bp op _ hcp _ ⟨⟩
  refine za (zw g70 (cs := pC ps[i]) rfl rfl fun j v hj => hS.sat.cell (hcp j v hj)) rfl ?_
  refine zp rfl (zY (v := fun b => pV b) (cs := [iV 0, iV 0, iV 0, iV 0, iV 0, iV 0, iV 0, iV 0, iV 0, iV 0, iV 0, iV 0]) (e := 70) (by kernel_rfl) hS.sat hO rfl 12 1 rfl (by decide) fun bq w3 hb hO => ?_)
  have hS := hS.keep hb
  refine za (ze (v := iV (i : Int)) rfl) rfl (zp rfl (zM (vs := pC ps[i]) z70 hS hO (k := 0) rfl rfl rfl rfl rfl (zR rfl) (Nat.le_of_ble_eq_true rfl) fun w4 hS hO => ?_))
  have hO : Owns G w4 B (zeJ bq ps[i] :: xX bf (.slice a1 n1 c1) v1 v2 v3 v4 (.slice a5 n5 c5) v6 (iV (s : Int)) (.slice af X.length cf) l0 l1 l2 l3 l4 :: yt af X.length cf fc :: Lq) := hO
  refine zd (zc (zb (za (zf (v := pV bf) rfl) rfl (za (v := pV bf) (by kernel_rfl) rfl (za (zj vz rfl) rfl (za (zk n24 rfl (zx hO (k := 1) rfl rfl)) rfl (za (zf (v := iV (i : Int)) rfl) rfl (zbK s24 hO (k := 2) rfl hstl hr hxx rfl rfl rfl ?_))))))))
  rintro bx ox _ hbx _ hcx ⟨⟩
  refine za (zk n3 rfl (jQ hO (k := 2) rfl hbx _ 0 (hcx 0 _ rfl))) rfl (za (ze (v := iV X[i]) rfl) rfl (zd (zc (zc (zb (za (zf (v := iV X[i]) rfl) rfl (za (zj zof rfl) rfl (za (zk n3 rfl (zx hO (k := 0) rfl rfl)) rfl (za (zb5 rfl rfl) rfl (zd (z7 rfl (fun hb => ?_) (fun hb => zD ?_))))))))))))
  ·have hge : ps[i].Room ≤ X[i] := by simpa using hb
   refine ql rfl ?_
   have hO := hO.drop 0
   have heq : (yc ps gs X)[i]'(by omega) = X[i] := by rw [hval]; unfold kz; rw [if_pos hge]
   rw [zsP hAl hiX heq] at hr
   refine zb (za (qO rfl rfl) rfl (za (zf (v := iV ((i + 1 : Nat) : Int)) (congrArg iV (yQ (by omega)))) rfl (zd ?_)))
   exact ⟨_, G, l1, fc, zi _ _ ⟨rfl, rfl, rfl, rfl, trivial⟩, le, hS, hO, hr⟩
  have hlt : X[i] < ps[i].Room := by simpa using hb
  have hmul0 : 0 ≤ X[i] * gs[i]'(by omega) := Int.mul_nonneg hxb.1 hgb'.1
  have hmul1 : X[i] * (gs[i]'(by omega)) ≤ 1000000000000 * 2000 := Int.mul_le_mul hxb.2 hgb'.2 hgb'.1 (by decide)
  have hw1 : IntKind.i64.wrap (X[i] * gs[i]'(by omega)) = X[i] * gs[i]'(by omega) := xu ⟨by omega, by omega⟩
  have hdv := vr _ hmul0
  have hw2 : IntKind.i64.wrap ((X[i] * gs[i]'(by omega)).tdiv 1000) = (X[i] * gs[i]'(by omega)).tdiv 1000 := xu ⟨by omega, by omega⟩
  have hw3 : IntKind.i64.wrap (ps[i].Room - X[i]) = ps[i].Room - X[i] := xu ⟨by omega, by omega⟩
  refine zc (zQ qA (fun _ w => Sat G w ∧ Owns G w B (zeJ bq ps[i] :: xX bf (.slice a1 n1 c1) v1 v2 v3 v4 (.slice a5 n5 c5) v6 (iV (s : Int)) (.slice af X.length cf) l0 l1 l2 l3 l4 :: yt af X.length cf fc :: Lq)) (.fl 0 (.fl 1 (.fl 2 (.fl 3 (.fl 4 (.fl 5 (.fl 6 (.fl 7 (.fl 8 (.fl 9 (.fl 10 (.fl 11 (.fl 12 (.fl 13 (.fl 14 (.fl 15 (.fl 17 (.fl 18 (.fl 19 (.fl 20 (.on 16 (.on 21 (.on 22 .nil))))))))))))))))))))))) (by kernel_rfl) rfl (by kernel_rfl) (fun _ => ⟨(hS.keep (zn _)).sat, hO.below (zn _)⟩) ?_)
  have hS := hS.keep (zn w4)
  have hO := hO.below (zn w4)
  refine zh rfl (fun w hw => zf (v := iV X[i]) rfl) rfl (zh rfl (fun w hw => zf (v := pV bf) rfl) rfl (zh (v := pV bf) rfl (fun w hw => by kernel_rfl) rfl (zh rfl (fun w hw => zj zlT rfl) rfl (zh rfl (fun w hw => zj zeT rfl) rfl (zh rfl (fun w hw => zk n50 rfl (zx hw.2 (k := 1) rfl rfl)) rfl (zh rfl (fun w hw => zf (v := pV bf) rfl) rfl (zh (v := pV bf) rfl (fun w hw => by kernel_rfl) rfl (zh rfl (fun w hw => zj zjk rfl) rfl (zh rfl (fun w hw => zk n3 rfl (zx hw.2 (k := 1) rfl rfl)) rfl ?_)))))))))
  refine xH rfl s50 h5 hGx rfl rfl rfl ?_
  rintro by' oy _ hcy _ ⟨ag, ng, cg, rfl, hgs⟩
  refine zh rfl (fun w hw => zk n24 rfl (hw.1.cell (hcy 0 _ rfl))) rfl (zh rfl (fun w hw => zf (v := iV (i : Int)) rfl) rfl (xH rfl s24 hgs hgx rfl rfl rfl ?_))
  rintro bz oz _ hcz _ ⟨⟩
  refine zh rfl (fun w hw => zk n3 rfl (hw.1.cell (hcz 0 _ rfl))) rfl (zh rfl (fun w hw => zdn rfl rfl) rfl ?_)
  rw [hw1]
  refine zh rfl (fun w hw => zj zof rfl) rfl (zh rfl (fun w hw => zk n3 rfl (zx hw.2 (k := 0) rfl rfl)) rfl (zh rfl (fun w hw => zf (v := iV X[i]) rfl) rfl (zh rfl (fun w hw => xE rfl rfl) rfl ?_)))
  rw [hw3]
  refine zt rfl rfl (zA (zeM rfl rfl (by decide)) rfl ⟨fun _ _ => ⟨hS.sat, hO⟩, ?_⟩)
  rw [hw2]
  obtain ⟨mr, hmr⟩ : ∃ mr, mr = min ((X[i] * gs[i]'(by omega)).tdiv 1000) (ps[i].Room - X[i]) := ⟨_, rfl⟩
  have hmn : (if ps[i].Room - X[i] < (X[i] * gs[i]'(by omega)).tdiv 1000 then ps[i].Room - X[i] else (X[i] * gs[i]'(by omega)).tdiv 1000) = mr := by rw [hmr]; split <;> omega
  refine zt rfl rfl (zA ((zlR rfl rfl).trans (by rw [hmn])) rfl ⟨fun _ h => zK (by kernel_rfl) h, ?_⟩)
  refine zt rfl rfl (zA (ze (v := iV mr) rfl) rfl ⟨fun _ h => zK (by kernel_rfl) h, qk ?_⟩)
  have hmrb : 0 ≤ mr ∧ mr ≤ 1000000 := by rw [hmr]; omega
  have hw4 : IntKind.i64.wrap (X[i] + mr) = X[i] + mr := xu ⟨by omega, by omega⟩
  have hA : (yc ps gs X)[i]'(by omega) = X[i] + mr := by rw [hval]; unfold kz; rw [if_neg (by omega), hmr]
  have hset : jK (stt (yc ps gs X) X i) (i : Int) (X[i] + mr) = some (stt (yc ps gs X) X (i + 1)) := by
   unfold jK
   rw [if_pos ⟨by omega, by omega⟩, ← hA]
   exact congrArg some (zg9 hAl hiX)
  refine zc (zb (za (zf (v := pV bf) rfl) rfl (za (v := pV bf) (by kernel_rfl) rfl (za (zj vz rfl) rfl (za (zk n24 rfl (zx hO (k := 1) rfl rfl)) rfl (za (zf (v := iV (i : Int)) rfl) rfl (za (zf (v := iV X[i]) rfl) rfl (za (zf (v := iV mr) rfl) rfl (za (qO rfl rfl) rfl ?_)))))))))
  rw [hw4]
  refine zbK s24 hO (k := 2) rfl hstl hr hxx rfl rfl rfl ?_
  rintro bu ou _ hbu _ hcu ⟨⟩
  refine zp rfl (jp (vs := [iV (X[i] + mr)]) (cs := [iV X[i]]) (j := 0) (y := X[i] + mr) z3 hS hO (k := 2) rfl hstl rfl hr hbu rfl hcu hset rfl rfl rfl rfl rfl (zR rfl) (Nat.le_of_ble_eq_true rfl) (fun w6 fc6 hS hO hr => ?_))
  have hO : Owns G w6 B (zeJ bq ps[i] :: xX bf (.slice a1 n1 c1) v1 v2 v3 v4 (.slice a5 n5 c5) v6 (iV (s : Int)) (.slice af X.length cf) l0 l1 l2 l3 l4 :: yt af X.length cf fc6 :: Lq) := hO
  refine zd (zb (za (zf (v := pV bf) rfl) rfl (za (zf (v := pV bf) rfl) rfl (za (v := pV bf) (by kernel_rfl) rfl (za (zj zad rfl) rfl (za (zj zoi rfl) rfl (za (zk n3 rfl (zx hO (k := 1) rfl rfl)) rfl (za (zf (v := iV mr) rfl) rfl ?_))))))))
  refine zp rfl (zI (v := fun b => .slice (some ⟨b, 0, none⟩) 2 2) (cs := [iV l1, iV mr]) (e := 3) (by kernel_rfl) hS.sat rfl fun b7 G7 w7 hg7 hc7 => ?_)
  have hS := hS.grow hg7
  have hO := hO.grow hg7
  obtain ⟨sm, hsm⟩ := za8 [l1, mr] (show 2 ≤ 1000 by decide)
  refine zp rfl (zu c94 (zfC hS.sat (RSl.of_rd hc7 (Rd.cons (c := [iV l1]) rfl rfl (Rd.cons (c := [iV mr]) rfl rfl (Rd.nil zW 1 _))) rfl (show 2 ≤ maxLen by decide)) hsm) rfl rfl fun w8 hb => ?_)
  have hS := hS.keep hb
  have hO := hO.below hb
  refine za (v := pV bf) (by kernel_rfl) rfl (za (zj zad rfl) rfl (za (zj zoi rfl) rfl ?_))
  refine zp rfl (zM (vs := [iV sm]) z3 hS hO (k := 1) rfl rfl rfl rfl rfl (zR rfl) (Nat.le_of_ble_eq_true rfl) fun w9 hS hO => ?_)
  have hO : Owns G7 w9 B (xX bf (.slice a1 n1 c1) v1 v2 v3 v4 (.slice a5 n5 c5) v6 (iV (s : Int)) (.slice af X.length cf) l0 sm l2 l3 l4 :: yt af X.length cf fc6 :: Lq) := hO.drop 0
  refine zd (zb (za (qO rfl rfl) rfl (za (zf (v := iV ((i + 1 : Nat) : Int)) (congrArg iV (yQ (by omega)))) rfl (zd ?_))))
  exact ⟨_, G7, sm, fc6, zi _ _ ⟨rfl, rfl, rfl, rfl, trivial⟩, le.trans hg7.le, hS, hO, hr.mono zm hg7.le⟩
 ·rintro F w ⟨Fb, G, l1, fc, rfl, le, hS, hO, hr⟩
  refine qP (zc (zb (za (qa rfl rfl) rfl (zd (zc (zV (decide ((ps.length : Int) < (ps.length : Int))) (decide_eq_false (by omega)) rfl (ql rfl ?_)))))))
  rw [show ps.length = X.length by omega, zj7 hAl] at hr
  exact ⟨[], trivial, G, _, le, hS, hO, l1, fc, rfl, hr⟩
end
section
variable {B : Nat} {G0 : Gm} {w0 : World} {Gc : Gm} {wc : World} {Lq : List Row} {bf : Nat} {v1 v2 v3 v4 v5 v6 : Value} {a1 a6 af : Option Addr} {n1 c1 n6 c6 cf : Nat} {s : Nat} {l0 l1 l2 l3 l4 : Int} {ps : List zr} {X ks : List Int} {Tk : List (List Int)} {fc : List Value}
set_option maxHeartbeats 1000000 in
theorem zw9 (hS : Since B G0 w0 Gc wc) (hO : Owns Gc wc B (xX bf (.slice a1 n1 c1) v1 v2 v3 v4 v5 (.slice a6 n6 c6) (iV (s : Int)) (.slice af X.length cf) l0 l1 l2 l3 l4 :: yt af X.length cf fc :: Lq))
  (h1 : RSl zE 12 Gc a1 n1 c1 ps) (h6 : RSl (yd zW 1) 1 Gc a6 n6 c6 Tk) (hk : Tk[s]? = some ks) (hr : Rd zW 1 Gc fc X) (hl : X.length = ps.length) (hkl : ks.length = ps.length) (hp : zbh ps) (hX : Bnd 1000000000000 X) (hkb : ∀ k ∈ ks, 0 ≤ k ∧ k ≤ 1000000) :
  Calls Tryz.prog 97 [pV bf].toArray wc (zdX B G0 w0 Gc wc (fun G' L' _ => ∃ l2' fc', L' = xX bf (.slice a1 n1 c1) v1 v2 v3 v4 v5 (.slice a6 n6 c6) (iV (s : Int)) (.slice af X.length cf) l0 l1 l2' l3 l4 :: yt af X.length cf fc' :: Lq ∧ Rd zW 1 G' fc' (yX ks X))) := by
 have hm := hp.many
 have hAl : (yX ks X).length = X.length := xM _ _
 refine ve (N := 59) (rs := []) hO.base Tryz.func97 rfl rfl rfl rfl (zc (zb (za (zf (v := pV bf) rfl) rfl (za (v := pV bf) (by kernel_rfl) rfl (za (zj zjl rfl) rfl (za (zj vm rfl) rfl (za (zj jL rfl) rfl (za (zk n33 rfl (zx hO (k := 0) rfl rfl)) rfl (za (qu (m := ps.length) s33 rfl rfl h1.1) rfl (za (zf (v := iV 0) rfl) rfl (zd ?_)))))))))))
 refine zB (qZ (qJ ps.length (fun i F w => ∃ Fb G l2 fc, F = qC Fb [(0, pV bf), (9, .slice a1 n1 c1), (10, iV (ps.length : Int)), (11, iV (i : Int))] ∧ Gle Gc G ∧ Since B G0 w0 G w ∧ Owns G w B (xX bf (.slice a1 n1 c1) v1 v2 v3 v4 v5 (.slice a6 n6 c6) (iV (s : Int)) (.slice af X.length cf) l0 l1 l2 l3 l4 :: yt af X.length cf fc :: Lq) ∧ Rd zW 1 G fc (stt (yX ks X) X i)) ?_ ?_ ps.length 0 _ _ (by omega) ⟨_, Gc, l2, fc, zi _ _ ⟨rfl, rfl, rfl, rfl, trivial⟩, Gle.refl _, hS, hO, by simpa [stt] using hr⟩))
 ·rintro i F w hi ⟨Fb, G, l2, fc, rfl, le, hS, hO, hr⟩
  have h6 := h6.mono (zO zm) le
  have hiX : i < X.length := by omega
  have hki := List.getElem?_eq_getElem (l := ks) (i := i) (by omega)
  have hkx : ix ks (i : Int) = some (ks[i]'(by omega)) := (qm _ _).trans hki
  have hKx : ix Tk (s : Int) = some ks := (qm _ _).trans hk
  have hstl : X.length = (stt (yX ks X) X i).length := (zha hAl (by omega)).symm
  have hxx : ix (stt (yX ks X) X i) (i : Int) = some X[i] := (qm _ _).trans (zjg hAl hiX)
  have hval := zge hki hiX
  have hxb := hX _ (List.getElem_mem hiX)
  have hkb' := hkb _ (List.getElem_mem (l := ks) (n := i) (by omega))
  refine zc (zb (za (qa rfl rfl) rfl (zd (zc (qf (decide ((i : Int) < (ps.length : Int))) (decide_eq_true (by omega)) rfl (zD ?_))))))
  refine zc (zB (zc (zb (za (zf (v := iV (i : Int)) rfl) rfl (za (ze (v := iV (i : Int)) rfl) rfl (zd (zc ?_)))))))
  refine zQ qA (fun _ w => Sat G w ∧ Owns G w B (xX bf (.slice a1 n1 c1) v1 v2 v3 v4 v5 (.slice a6 n6 c6) (iV (s : Int)) (.slice af X.length cf) l0 l1 l2 l3 l4 :: yt af X.length cf fc :: Lq)) (.fl 0 (.fl 1 (.fl 2 (.fl 3 (.fl 4 (.fl 5 (.fl 6 (.fl 7 (.fl 8 (.fl 9 (.fl 10 (.fl 11 (.fl 12 (.fl 13 (.fl 14 (.fl 15 (.fl 16 (.fl 17 (.fl 18 (.fl 19 (.fl 20 (.on 21 (.on 22 .nil))))))))))))))))))))))) (by kernel_rfl) rfl (by kernel_rfl) (fun _ => ⟨(hS.keep (zn _)).sat, hO.below (zn _)⟩) ?_
  have hS := hS.keep (zn w)
  have hO := hO.below (zn w)
  refine zh rfl (fun w hw => zf (v := pV bf) rfl) rfl (zh (v := pV bf) rfl (fun w hw => by kernel_rfl) rfl (zh rfl (fun w hw => zj vz rfl) rfl (zh rfl (fun w hw => zk n24 rfl (zx hw.2 (k := 0) rfl rfl)) rfl (zh rfl (fun w hw => zf (v := iV (i : Int)) rfl) rfl (zbL rfl s24 hO (k := 1) rfl hstl hr hxx rfl rfl rfl ?_)))))
  rintro bx ox _ hbx _ hcx ⟨⟩
  refine zh rfl (fun w hw => zk n3 rfl (jQ hw.2 (k := 1) rfl hbx _ 0 (hcx 0 _ rfl))) rfl (zh rfl (fun w hw => zf (v := pV bf) rfl) rfl (zh (v := pV bf) rfl (fun w hw => by kernel_rfl) rfl (zh rfl (fun w hw => zj zlT rfl) rfl (zh rfl (fun w hw => zj zeS rfl) rfl (zh rfl (fun w hw => zk n50 rfl (zx hw.2 (k := 0) rfl rfl)) rfl (zh rfl (fun w hw => zf (v := pV bf) rfl) rfl (zh (v := pV bf) rfl (fun w hw => by kernel_rfl) rfl (zh rfl (fun w hw => zj zjk rfl) rfl (zh rfl (fun w hw => zk n3 rfl (zx hw.2 (k := 0) rfl rfl)) rfl (xH rfl s50 h6 hKx rfl rfl rfl ?_))))))))))
  rintro by' oy _ hcy _ ⟨ag, ng, cg, rfl, hks⟩
  refine zh rfl (fun w hw => zk n24 rfl (hw.1.cell (hcy 0 _ rfl))) rfl (zh rfl (fun w hw => zf (v := iV (i : Int)) rfl) rfl (xH rfl s24 hks hkx rfl rfl rfl ?_))
  rintro bz oz _ hcz _ ⟨⟩
  obtain ⟨mr, hmr⟩ : ∃ mr, mr = min X[i] (ks[i]'(by omega)) := ⟨_, rfl⟩
  have hmn : (if (ks[i]'(by omega)) < X[i] then (ks[i]'(by omega)) else X[i]) = mr := by rw [hmr]; split <;> omega
  refine zh rfl (fun w hw => zk n3 rfl (hw.1.cell (hcz 0 _ rfl))) rfl ?_
  refine zt rfl rfl (zA ((zlR rfl rfl).trans (by rw [hmn])) rfl ⟨fun _ h => zK (by kernel_rfl) h, ?_⟩)
  refine zt rfl rfl (zA (ze (v := iV mr) rfl) rfl ⟨fun _ h => zK (by kernel_rfl) h, qk ?_⟩)
  have hmrb : 0 ≤ mr ∧ mr ≤ X[i] := by rw [hmr]; omega
  have hw4 : IntKind.i64.wrap (X[i] - mr) = X[i] - mr := xu ⟨by omega, by omega⟩
  have hA : (yX ks X)[i]'(by omega) = X[i] - mr := by rw [hval, hmr]
  have hset : jK (stt (yX ks X) X i) (i : Int) (X[i] - mr) = some (stt (yX ks X) X (i + 1)) := by
   unfold jK
   rw [if_pos ⟨by omega, by omega⟩, ← hA]
   exact congrArg some (zg9 hAl hiX)
  refine zc (zb (za (zf (v := pV bf) rfl) rfl (za (v := pV bf) (by kernel_rfl) rfl (za (zj vz rfl) rfl (za (zk n24 rfl (zx hO (k := 0) rfl rfl)) rfl (za (zf (v := iV (i : Int)) rfl) rfl (zbK s24 hO (k := 1) rfl hstl hr hxx rfl rfl rfl ?_)))))))
  rintro bt ot _ hbt _ hct ⟨⟩
  refine za (zk n3 rfl (jQ hO (k := 1) rfl hbt _ 0 (hct 0 _ rfl))) rfl (za (zf (v := iV mr) rfl) rfl (za (xE rfl rfl) rfl ?_))
  rw [hw4]
  refine zbK s24 hO (k := 1) rfl hstl hr hxx rfl rfl rfl ?_
  rintro bu ou _ hbu _ hcu ⟨⟩
  refine zp rfl (jp (vs := [iV (X[i] - mr)]) (cs := [iV X[i]]) (j := 0) (y := X[i] - mr) z3 hS hO (k := 1) rfl hstl rfl hr hbu rfl hcu hset rfl rfl rfl rfl rfl (zR rfl) (Nat.le_of_ble_eq_true rfl) (fun w6 fc6 hS hO hr => ?_))
  have hO : Owns G w6 B (xX bf (.slice a1 n1 c1) v1 v2 v3 v4 v5 (.slice a6 n6 c6) (iV (s : Int)) (.slice af X.length cf) l0 l1 l2 l3 l4 :: yt af X.length cf fc6 :: Lq) := hO
  refine zd (zb (za (zf (v := pV bf) rfl) rfl (za (zf (v := pV bf) rfl) rfl (za (v := pV bf) (by kernel_rfl) rfl (za (zj zad rfl) rfl (za (zj zoh rfl) rfl (za (zk n3 rfl (zx hO (k := 0) rfl rfl)) rfl (za (zf (v := iV mr) rfl) rfl ?_))))))))
  refine zp rfl (zI (v := fun b => .slice (some ⟨b, 0, none⟩) 2 2) (cs := [iV l2, iV mr]) (e := 3) (by kernel_rfl) hS.sat rfl fun b7 G7 w7 hg7 hc7 => ?_)
  have hS := hS.grow hg7
  have hO := hO.grow hg7
  obtain ⟨sm, hsm⟩ := za8 [l2, mr] (show 2 ≤ 1000 by decide)
  refine zp rfl (zu c94 (zfC hS.sat (RSl.of_rd hc7 (Rd.cons (c := [iV l2]) rfl rfl (Rd.cons (c := [iV mr]) rfl rfl (Rd.nil zW 1 _))) rfl (show 2 ≤ maxLen by decide)) hsm) rfl rfl fun w8 hb => ?_)
  have hS := hS.keep hb
  have hO := hO.below hb
  refine za (v := pV bf) (by kernel_rfl) rfl (za (zj zad rfl) rfl (za (zj zoh rfl) rfl ?_))
  refine zp rfl (zM (vs := [iV sm]) z3 hS hO (k := 0) rfl rfl rfl rfl rfl (zR rfl) (Nat.le_of_ble_eq_true rfl) fun w9 hS hO => ?_)
  have hO : Owns G7 w9 B (xX bf (.slice a1 n1 c1) v1 v2 v3 v4 v5 (.slice a6 n6 c6) (iV (s : Int)) (.slice af X.length cf) l0 l1 sm l3 l4 :: yt af X.length cf fc6 :: Lq) := hO
  refine zd (zb (za (qO rfl rfl) rfl (za (zf (v := iV ((i + 1 : Nat) : Int)) (congrArg iV (yQ (by omega)))) rfl (zd ?_))))
  exact ⟨_, G7, sm, fc6, zi _ _ ⟨rfl, rfl, rfl, rfl, trivial⟩, le.trans hg7.le, hS, hO, hr.mono zm hg7.le⟩
 ·rintro F w ⟨Fb, G, l2, fc, rfl, le, hS, hO, hr⟩
  refine qP (zc (zb (za (qa rfl rfl) rfl (zd (zc (zV (decide ((ps.length : Int) < (ps.length : Int))) (decide_eq_false (by omega)) rfl (ql rfl ?_)))))))
  rw [show ps.length = X.length by omega, zj7 hAl] at hr
  exact ⟨[], trivial, G, _, le, hS, hO, l2, fc, rfl, hr⟩
theorem zqL {ps : List zr} {X : List Int} {i : Nat} {p : zr} (hp : ps[i]? = some p) : qc ps X (i + 1) = if 0 ≤ p.Into then (((qc ps X i).set i ((qc ps X i).getD i 0 - jc ps X i)).set p.Into.toNat (((qc ps X i).set i ((qc ps X i).getD i 0 - jc ps X i)).getD p.Into.toNat 0 + jc ps X i)) else (qc ps X i).set i ((qc ps X i).getD i 0 - jc ps X i) := by
 conv => lhs; unfold qc
 rw [hp]
theorem zcZ {Y : List Int} {i : Nat} (hi : i < Y.length) : ix Y (i : Int) = some (Y.getD i 0) := by
 rw [qm, List.getElem?_eq_getElem hi, List.getD_eq_getElem?_getD, List.getElem?_eq_getElem hi]
 rfl
set_option maxHeartbeats 1000000 in
theorem zxa (hS : Since B G0 w0 Gc wc) (hO : Owns Gc wc B (xX bf (.slice a1 n1 c1) v1 v2 v3 v4 v5 v6 (iV (s : Int)) (.slice af X.length cf) l0 l1 l2 l3 l4 :: yt af X.length cf fc :: Lq))
  (h1 : RSl zE 12 Gc a1 n1 c1 ps) (hr : Rd zW 1 Gc fc X) (hl : X.length = ps.length) (hp : zbh ps) (hX : Bnd 1000000000000 X) :
  Calls Tryz.prog 96 [pV bf].toArray wc (zdX B G0 w0 Gc wc (fun G' L' _ => ∃ l3' fc', L' = xX bf (.slice a1 n1 c1) v1 v2 v3 v4 v5 v6 (iV (s : Int)) (.slice af X.length cf) l0 l1 l2 l3' l4 :: yt af X.length cf fc' :: Lq ∧ Rd zW 1 G' fc' (qc ps X ps.length))) := by
 have hm := hp.many
 refine ve (N := 68) (rs := []) hO.base Tryz.func96 rfl rfl rfl rfl (zc (zb (za (zf (v := pV bf) rfl) rfl (za (v := pV bf) (by kernel_rfl) rfl (za (zj vz rfl) rfl (za (zk n24 rfl (zx hO (k := 0) rfl rfl)) rfl ?_))))))
 refine zp rfl (yq (fi := []) (al := [.slice af X.length cf]) (ca := []) c25 (zbx hS hO (hO.src hS (k := 1) rfl rfl hr) (by omega)) rfl rfl rfl fun v G1 w1 L1 le1 hS hO hv => ?_)
 obtain ⟨a2, c2, cl2, rfl, rfl, hr2⟩ := hv
 obtain ⟨G2, le2, hS, hO, hnow⟩ := hO.freezeS hS zm (k := 0) rfl hr2 rfl
 have hO : Owns G2 w1 B (xX bf (.slice a1 n1 c1) v1 v2 v3 v4 v5 v6 (iV (s : Int)) (.slice af X.length cf) l0 l1 l2 l3 l4 :: yt af X.length cf fc :: Lq) := hO
 have le12 := le1.trans le2
 refine za (ze (v := .slice a2 X.length c2) rfl) rfl (zd (zc (zb (za (zf (v := pV bf) rfl) rfl (za (v := pV bf) (by kernel_rfl) rfl (za (zj zjl rfl) rfl (za (zj vm rfl) rfl (za (zj jL rfl) rfl (za (zk n33 rfl (zx hO (k := 0) rfl rfl)) rfl (za (qu (m := ps.length) s33 rfl rfl h1.1) rfl (za (zf (v := iV 0) rfl) rfl (zd ?_))))))))))))
 refine zB (qZ (qJ ps.length (fun i F w => ∃ Fb G l3 fc, F = qC Fb [(0, pV bf), (2, .slice a2 X.length c2), (16, .slice a1 n1 c1), (17, iV (ps.length : Int)), (18, iV (i : Int))] ∧ Gle G2 G ∧ Since B G0 w0 G w ∧ Owns G w B (xX bf (.slice a1 n1 c1) v1 v2 v3 v4 v5 v6 (iV (s : Int)) (.slice af X.length cf) l0 l1 l2 l3 l4 :: yt af X.length cf fc :: Lq) ∧ Rd zW 1 G fc (qc ps X i)) ?_ ?_ ps.length 0 _ _ (by omega) ⟨_, G2, l3, fc, zi _ _ ⟨rfl, rfl, rfl, rfl, rfl, trivial⟩, Gle.refl _, hS, hO, hr.mono zm le12⟩))
 ·rintro i F w hi ⟨Fb, G, l3, fc, rfl, le, hS, hO, hr⟩
  have h1 := h1.mono zl (le12.trans le)
  have hnow := hnow.mono zm le
  have hiX : i < X.length := by omega
  have hpi := List.getElem?_eq_getElem (l := ps) (i := i) hi
  have hpx : ix ps (i : Int) = some ps[i] := (qm _ _).trans hpi
  have hXi := List.getElem?_eq_getElem (l := X) (i := i) hiX
  have hXx : ix X (i : Int) = some X[i] := (qm _ _).trans hXi
  have hYl := qL ps X i
  have hnext := zqL (X := X) hpi
  have hbY := zbz hp (by decide) hX hl i (by omega)
  have hbZ := zbz hp (by decide) hX hl (i + 1) (by omega)
  have hout : jc ps X i = (X[i] * ps[i].Drift).tdiv 1000 := by unfold jc; rw [hpi, hXi]
  have hob := zhk hp hX i
  obtain ⟨Y, hYe⟩ : ∃ Y, Y = qc ps X i := ⟨_, rfl⟩
  rw [← hYe] at hr hYl hnext hbY
  have hYx := zcZ (Y := Y) (i := i) (by omega)
  obtain ⟨_, _, d0, d1, q0, q1, q2, _⟩ := hp.each i _ hpi
  have hxb := hX _ (List.getElem_mem hiX)
  have hmul0 : 0 ≤ X[i] * ps[i].Drift := Int.mul_nonneg hxb.1 d0
  have hmul1 : X[i] * ps[i].Drift ≤ 1000000000000 * 1000 := Int.mul_le_mul hxb.2 d1 d0 (by decide)
  have hw1 : IntKind.i64.wrap (X[i] * ps[i].Drift) = X[i] * ps[i].Drift := xu ⟨by omega, by omega⟩
  have hdv := vr _ hmul0
  have hw2 : IntKind.i64.wrap ((X[i] * ps[i].Drift).tdiv 1000) = jc ps X i := by rw [hout]; exact xu ⟨by omega, by omega⟩
  have hxg : X.getD i 0 = X[i] := by rw [List.getD_eq_getElem?_getD, hXi]; rfl
  rw [hxg] at hob
  have hYb : 0 ≤ Y.getD i 0 ∧ Y.getD i 0 ≤ 5 * 1000000000000 := hbY _ (by rw [List.getD_eq_getElem?_getD, List.getElem?_eq_getElem (show i < Y.length by omega)]; exact List.getElem_mem _)
  refine zc (zb (za (qa rfl rfl) rfl (zd (zc (qf (decide ((i : Int) < (ps.length : Int))) (decide_eq_true (by omega)) rfl (zD ?_))))))
  refine zc (zB (zc (zb (za (zf (v := iV (i : Int)) rfl) rfl (xi s33 h1 hpx rfl rfl rfl ?_)))))
  rintro bp op _ hcp _ ⟨⟩
  refine za (zw g70 (cs := pC ps[i]) rfl rfl fun j v hj => hS.sat.cell (hcp j v hj)) rfl ?_
  refine zp rfl (zY (v := fun b => pV b) (cs := [iV 0, iV 0, iV 0, iV 0, iV 0, iV 0, iV 0, iV 0, iV 0, iV 0, iV 0, iV 0]) (e := 70) (by kernel_rfl) hS.sat hO rfl 12 1 rfl (by decide) fun bq w3 hb hO => ?_)
  have hS := hS.keep hb
  refine za (ze (v := iV (i : Int)) rfl) rfl (zp rfl (zM (vs := pC ps[i]) z70 hS hO (k := 0) rfl rfl rfl rfl rfl (zR rfl) (Nat.le_of_ble_eq_true rfl) fun w4 hS hO => ?_))
  have hO : Owns G w4 B (zeJ bq ps[i] :: xX bf (.slice a1 n1 c1) v1 v2 v3 v4 v5 v6 (iV (s : Int)) (.slice af X.length cf) l0 l1 l2 l3 l4 :: yt af X.length cf fc :: Lq) := hO
  refine zd (zc (zQ qA (fun _ w => Sat G w ∧ Owns G w B (zeJ bq ps[i] :: xX bf (.slice a1 n1 c1) v1 v2 v3 v4 v5 v6 (iV (s : Int)) (.slice af X.length cf) l0 l1 l2 l3 l4 :: yt af X.length cf fc :: Lq)) (.fl 0 (.fl 1 (.fl 2 (.fl 3 (.fl 4 (.fl 5 (.on 6 (.on 7 (.on 8 .nil))))))))) (by kernel_rfl) rfl (by kernel_rfl) (fun _ => ⟨(hS.keep (zn _)).sat, hO.below (zn _)⟩) ?_))
  have hS := hS.keep (zn w4)
  have hO := hO.below (zn w4)
  refine zh rfl (fun w hw => zf (v := .slice a2 X.length c2) rfl) rfl (zh rfl (fun w hw => zf (v := iV (i : Int)) rfl) rfl (xH rfl s24 hnow hXx rfl rfl rfl ?_))
  rintro bz oz _ hcz _ ⟨⟩
  refine zh rfl (fun w hw => zk n3 rfl (hw.1.cell (hcz 0 _ rfl))) rfl (zh rfl (fun w hw => zj zx8 rfl) rfl (zh rfl (fun w hw => zk n3 rfl (zx hw.2 (k := 0) rfl rfl)) rfl ?_))
  refine zt rfl rfl (zA (zdn rfl rfl) rfl ⟨fun _ h => zK (by kernel_rfl) h, ?_⟩)
  rw [hw1]
  refine zt rfl rfl (zA (zeM rfl rfl (by decide)) rfl ⟨fun _ h => zK (by kernel_rfl) h, ?_⟩)
  rw [hw2]
  refine zt rfl rfl (zA (ze (v := iV (jc ps X i)) rfl) rfl ⟨fun _ h => zK (by kernel_rfl) h, qk ?_⟩)
  generalize jc ps X i = o at *
  have hw3 : IntKind.i64.wrap (Y.getD i 0 - o) = Y.getD i 0 - o := xu ⟨by omega, by omega⟩
  have hset : jK Y (i : Int) (Y.getD i 0 - o) = some (Y.set i (Y.getD i 0 - o)) := by
   unfold jK
   rw [if_pos ⟨by omega, by omega⟩]
   rfl
  have hXY : X.length = Y.length := hYl.symm
  refine zc (zb (za (zf (v := pV bf) rfl) rfl (za (v := pV bf) (by kernel_rfl) rfl (za (zj vz rfl) rfl (za (zk n24 rfl (zx hO (k := 1) rfl rfl)) rfl (za (zf (v := iV (i : Int)) rfl) rfl (zbK s24 hO (k := 2) rfl hXY hr hYx rfl rfl rfl ?_)))))))
  rintro bt ot _ hbt _ hct ⟨⟩
  refine za (zk n3 rfl (jQ hO (k := 2) rfl hbt _ 0 (hct 0 _ rfl))) rfl (za (zf (v := iV o) rfl) rfl (za (xE rfl rfl) rfl ?_))
  rw [hw3]
  refine zbK s24 hO (k := 2) rfl hXY hr hYx rfl rfl rfl ?_
  rintro bu ou _ hbu _ hcu ⟨⟩
  refine zp rfl (jp (vs := [iV (Y.getD i 0 - o)]) (cs := [iV (Y.getD i 0)]) (j := 0) (y := Y.getD i 0 - o) z3 hS hO (k := 2) rfl hXY rfl hr hbu rfl hcu hset rfl rfl rfl rfl rfl (zR rfl) (Nat.le_of_ble_eq_true rfl) (fun w6 fc6 hS hO hr => ?_))
  have hO : Owns G w6 B (zeJ bq ps[i] :: xX bf (.slice a1 n1 c1) v1 v2 v3 v4 v5 v6 (iV (s : Int)) (.slice af X.length cf) l0 l1 l2 l3 l4 :: yt af X.length cf fc6 :: Lq) := hO
  obtain ⟨Z, hZ⟩ : ∃ Z, Z = Y.set i (Y.getD i 0 - o) := ⟨_, rfl⟩
  have hZl : X.length = Z.length := by rw [hZ, List.length_set]; exact hXY
  rw [← hZ] at hr hnext
  refine zd (qx (fun F w => ∃ Fb G' l3 fc, F = qC Fb [(0, pV bf), (2, .slice a2 X.length c2), (16, .slice a1 n1 c1), (17, iV (ps.length : Int)), (18, iV (i : Int))] ∧ Gle G G' ∧ Since B G0 w0 G' w ∧ Owns G' w B (xX bf (.slice a1 n1 c1) v1 v2 v3 v4 v5 v6 (iV (s : Int)) (.slice af X.length cf) l0 l1 l2 l3 l4 :: yt af X.length cf fc :: Lq) ∧ Rd zW 1 G' fc (qc ps X (i + 1))) ?_ ?_)
  ·obtain ⟨Y2, hY2⟩ : ∃ Y2, Y2 = qc ps X (i + 1) := ⟨_, rfl⟩
   rw [← hY2] at hnext ⊢
   have hZx : 0 ≤ ps[i].Into → ix Z ps[i].Into = some (Z.getD ps[i].Into.toNat 0) := fun h0 => by
    have := zcZ (Y := Z) (i := ps[i].Into.toNat) (by omega)
    rwa [show ((ps[i].Into.toNat : Nat) : Int) = ps[i].Into by omega] at this
   refine zc (zb (za (zj zod rfl) rfl (za (zk n3 rfl (zx hO (k := 0) rfl rfl)) rfl (za (zb5 rfl rfl) rfl (zd (z7 rfl (fun hb => ?_) (fun hb => ?_))))))) 
   ·have hge : 0 ≤ ps[i].Into := by simpa using hb
    rw [if_pos hge] at hnext
    have hZx := hZx hge
    obtain ⟨zq, hzq⟩ : ∃ zq, zq = Z.getD ps[i].Into.toNat 0 := ⟨_, rfl⟩
    rw [← hzq] at hZx hnext
    have hqb : 0 ≤ zq + o ∧ zq + o ≤ 5 * 1000000000000 := by
     refine hbZ _ ?_
     rw [← hY2, hnext]
     exact List.mem_iff_getElem?.2 ⟨ps[i].Into.toNat, List.getElem?_set_self (by omega)⟩
    have hw5 : IntKind.i64.wrap (zq + o) = zq + o := xu ⟨by omega, by omega⟩
    have hset2 : jK Z ps[i].Into (zq + o) = some Y2 := by
     unfold jK
     rw [if_pos ⟨by omega, by omega⟩, hnext]
    refine zQ qA (fun _ w => Sat G w ∧ Owns G w B (zeJ bq ps[i] :: xX bf (.slice a1 n1 c1) v1 v2 v3 v4 v5 v6 (iV (s : Int)) (.slice af X.length cf) l0 l1 l2 l3 l4 :: yt af X.length cf fc6 :: Lq)) (.fl 0 (.fl 1 (.fl 2 (.fl 3 (.fl 4 (.fl 5 (.fl 6 (.fl 7 (.fl 8 (.fl 9 (.fl 10 (.on 11 .nil)))))))))))) (by kernel_rfl) rfl (by kernel_rfl) (fun _ => ⟨(hS.keep (zn _)).sat, hO.below (zn _)⟩) ?_
    have hS := hS.keep (zn w6)
    have hO := hO.below (zn w6)
    refine zh rfl (fun w hw => zf (v := pV bf) rfl) rfl (zh (v := pV bf) rfl (fun w hw => by kernel_rfl) rfl (zh rfl (fun w hw => zj vz rfl) rfl (zh rfl (fun w hw => zk n24 rfl (zx hw.2 (k := 1) rfl rfl)) rfl (zh rfl (fun w hw => zj zod rfl) rfl (zh rfl (fun w hw => zk n3 rfl (zx hw.2 (k := 0) rfl rfl)) rfl (zbL rfl s24 hO (k := 2) rfl hZl hr hZx rfl rfl rfl ?_))))))
    rintro bv ov _ hbv _ hcv ⟨⟩
    refine zh rfl (fun w hw => zk n3 rfl (jQ hw.2 (k := 2) rfl hbv _ 0 (hcv 0 _ rfl))) rfl (zh rfl (fun w hw => zf (v := iV o) rfl) rfl ?_)
    refine zh rfl (fun w hw => qO rfl rfl) rfl ?_
    rw [hw5]
    refine zbL rfl s24 hO (k := 2) rfl hZl hr hZx rfl rfl rfl ?_
    rintro bu ou _ hbu _ hcu ⟨⟩
    refine zt rfl rfl (jp (vs := [iV (zq + o)]) (cs := [iV zq]) (j := 0) (y := zq + o) z3 hS hO (k := 2) rfl hZl rfl hr hbu rfl hcu hset2 rfl rfl rfl rfl rfl (zR rfl) (Nat.le_of_ble_eq_true rfl) (fun w7 fc7 hS hO hr => ⟨fun _ h => zK (by kernel_rfl) h, qk ?_⟩))
    exact ⟨_, G, l3, fc7, zi _ _ ⟨rfl, rfl, rfl, rfl, rfl, trivial⟩, Gle.refl _, hS, hO.drop 0, hr⟩
   ·have hge : ¬ 0 ≤ ps[i].Into := by simpa using hb
    rw [if_neg hge] at hnext
    rw [← hnext] at hr
    have hO : Owns G w6 B (xX bf (.slice a1 n1 c1) v1 v2 v3 v4 v5 v6 (iV (s : Int)) (.slice af X.length cf) l0 l1 l2 l3 l4 :: yt af X.length cf fc6 :: Lq) := hO.drop 0
    refine zb (za (zf (v := pV bf) rfl) rfl (za (zf (v := pV bf) rfl) rfl (za (v := pV bf) (by kernel_rfl) rfl (za (zj zad rfl) rfl (za (zj zog rfl) rfl (za (zk n3 rfl (zx hO (k := 0) rfl rfl)) rfl (za (zf (v := iV o) rfl) rfl ?_)))))))
    refine zp rfl (zI (v := fun b => .slice (some ⟨b, 0, none⟩) 2 2) (cs := [iV l3, iV o]) (e := 3) (by kernel_rfl) hS.sat rfl fun b7 G7 w7 hg7 hc7 => ?_)
    have hS := hS.grow hg7
    have hO := hO.grow hg7
    obtain ⟨sm, hsm⟩ := za8 [l3, o] (show 2 ≤ 1000 by decide)
    refine zp rfl (zu c94 (zfC hS.sat (RSl.of_rd hc7 (Rd.cons (c := [iV l3]) rfl rfl (Rd.cons (c := [iV o]) rfl rfl (Rd.nil zW 1 _))) rfl (show 2 ≤ maxLen by decide)) hsm) rfl rfl fun w8 hb => ?_)
    have hS := hS.keep hb
    have hO := hO.below hb
    refine za (v := pV bf) (by kernel_rfl) rfl (za (zj zad rfl) rfl (za (zj zog rfl) rfl ?_))
    refine zp rfl (zM (vs := [iV sm]) z3 hS hO (k := 0) rfl rfl rfl rfl rfl (zR rfl) (Nat.le_of_ble_eq_true rfl) fun w9 hS hO => ?_)
    exact zd ⟨_, G7, sm, fc6, zi _ _ ⟨rfl, rfl, rfl, rfl, rfl, trivial⟩, hg7.le, hS, hO, hr.mono zm hg7.le⟩
  ·rintro F w ⟨Fb, G', l3, fc, rfl, le', hS, hO, hr⟩
   refine zb (za (qO rfl rfl) rfl (za (zf (v := iV ((i + 1 : Nat) : Int)) (congrArg iV (yQ (by omega)))) rfl (zd ?_)))
   exact ⟨_, G', l3, fc, zi _ _ ⟨rfl, rfl, rfl, rfl, rfl, trivial⟩, le.trans le', hS, hO, hr⟩
 ·rintro F w ⟨Fb, G, l3, fc, rfl, le, hS, hO, hr⟩
  refine qP (zc (zb (za (qa rfl rfl) rfl (zd (zc (zV (decide ((ps.length : Int) < (ps.length : Int))) (decide_eq_false (by omega)) rfl (ql rfl ?_)))))))
  exact ⟨[], trivial, G, _, le12.trans le, hS, hO, l3, fc, rfl, hr⟩
end
end Go.Proofs.YtcapocmenjcnhaaGreatDoor
/-
 The reef in truth: it is followed (the walk).
-/
namespace Go.Proofs.YtcapocmenjcnhaaGreatDoor
open Go.RowKit
set_option maxRecDepth 20000
theorem zch {ps : List zr} (hp : zbh ps) {Gr Tk : List (List Int)} {X : List Int} (hg : ∀ gs ∈ Gr, ∀ g ∈ gs, 0 ≤ g) (hk : ∀ ks ∈ Tk, ∀ k ∈ ks, 0 ≤ k) (hX : Bnd 3000000 X) (hl : X.length = ps.length) : ∀ s, Bnd (3000000 * 5 ^ s) (qn ps Gr Tk X s)
 | 0 => by simpa [qn] using hX
 | s + 1 => by
  have ih := zch hp hg hk hX hl s
  have e : (3000000 : Int) * 5 ^ (s + 1) = 5 * (3000000 * 5 ^ s) := by rw [Int.pow_succ]; omega
  rw [e]
  unfold qn
  have hpos : (1 : Int) ≤ 5 ^ s := by
   have : (0 : Int) < 5 ^ s := Int.pow_pos (by decide)
   omega
  refine zro hp (by omega) (fun g hh => ?_) (fun k hh => ?_) ih (by rw [yY]; exact hl)
  ·rw [List.getD_eq_getElem?_getD] at hh
   cases hc : Gr[s]? with
   | none => rw [hc] at hh; cases hh
   | some gs => rw [hc] at hh; exact hg gs (List.mem_of_getElem? hc) g hh
  ·rw [List.getD_eq_getElem?_getD] at hh
   cases hc : Tk[s]? with
   | none => rw [hc] at hh; cases hh
   | some gs => rw [hc] at hh; exact hk gs (List.mem_of_getElem? hc) k hh
theorem zfX {M M' : Int} {X : List Int} (h : Bnd M X) (hM : M ≤ M') : Bnd M' X := fun x hx => ⟨(h x hx).1, by have := (h x hx).2; omega⟩
structure TruthOk (ps : List zr) (S : Nat) (X : List Int) (Gr Tk : List (List Int)) : Prop where
 pl : zbh ps
 few : S ≤ 4
 xl : X.length = ps.length
 xb : Bnd 3000000 X
 gl : Gr.length = S
 tl : Tk.length = S
 ge : ∀ gs ∈ Gr, gs.length = ps.length ∧ ∀ g ∈ gs, 0 ≤ g ∧ g ≤ 2000
 te : ∀ ks ∈ Tk, ks.length = ps.length ∧ ∀ k ∈ ks, 0 ≤ k ∧ k ≤ 1000000
theorem TruthOk.bnd {ps : List zr} {S : Nat} {X : List Int} {Gr Tk : List (List Int)} (h : TruthOk ps S X Gr Tk) {s : Nat} (hs : s < S) : Bnd 1000000000000 (qn ps Gr Tk X s) ∧ Bnd 1000000000000 (yc ps (Gr.getD s []) (qn ps Gr Tk X s)) ∧ Bnd 1000000000000 (qc ps (yc ps (Gr.getD s []) (qn ps Gr Tk X s)) ps.length) := by
 have hs4 := h.few
 have hb := zch h.pl (fun gs hg g hh => ((h.ge gs hg).2 g hh).1) (fun ks hk k hh => ((h.te ks hk).2 k hh).1) h.xb h.xl s
 have h5' : (5 : Int) ^ s ≤ 625 := by
  have : s = 0 ∨ s = 1 ∨ s = 2 ∨ s = 3 := by omega
  rcases this with rfl | rfl | rfl | rfl <;> decide
 have hb1 : Bnd 1875000000 (qn ps Gr Tk X s) := zfX hb (by omega)
 have hb2 : Bnd 1875000000 (yc ps (Gr.getD s []) (qn ps Gr Tk X s)) := zdB h.pl (by decide) (fun g hh => by
  rw [List.getD_eq_getElem?_getD] at hh
  cases hc : Gr[s]? with
  | none => rw [hc] at hh; cases hh
  | some gs => rw [hc] at hh; exact ((h.ge gs (List.mem_of_getElem? hc)).2 g hh).1) hb1
 exact ⟨zfX hb1 (by decide), zfX hb2 (by decide), zfX (zbz h.pl (by decide) hb2 (by rw [yb, yY]; exact h.xl) _ (Nat.le_refl _)) (by decide)⟩
def yk (ps : List zr) (Gr Tk : List (List Int)) (X : List Int) (s : Nat) : List (List Int) := (List.range s).map fun i => qn ps Gr Tk X (i + 1)
theorem ju (ps : List zr) (Gr Tk : List (List Int)) (X : List Int) (s : Nat) : (yk ps Gr Tk X s).length = s := by simp [yk]
theorem zqJ (ps : List zr) (Gr Tk : List (List Int)) (X : List Int) (s : Nat) : yk ps Gr Tk X s ++ [qn ps Gr Tk X (s + 1)] = yk ps Gr Tk X (s + 1) := by simp [yk, List.range_succ]
theorem c37 : zN Tryz.prog 37 = true := by kernel_rfl
section
variable {G0 : Gm} {w0 : World} {a1 a2 a3 a4 a5 : Option Addr} {n1 c1 n2 c2 m3 c3 m4 c4 m5 c5 S : Nat} {miss : Int} {ps : List zr} {X : List Int} {Gr Tk : List (List Int)}
set_option maxHeartbeats 2000000 in
theorem zhG (hS0 : Sat G0 w0) (h1 : RSl zE 12 G0 a1 n1 c1 ps) (h3 : RSl zW 1 G0 a3 m3 c3 X) (h4 : RSl (yd zW 1) 1 G0 a4 m4 c4 Gr) (h5 : RSl (yd zW 1) 1 G0 a5 m5 c5 Tk) (ht : TruthOk ps S X Gr Tk) :
  Calls Tryz.prog 37 [.agg #[.slice a1 n1 c1, iV miss, iV (S : Int), .slice a2 n2 c2], .agg #[.slice a3 m3 c3, .slice a4 m4 c4, .slice a5 m5 c5]].toArray w0 (yP G0 w0 (fun G v => ∃ ra rn rc l0 l1 l2 l3 l4, v = .tuple #[.slice ra rn rc, .agg #[iV l0, iV l1, iV l2, iV l3, iV l4]] ∧ RSl (yd zW 1) 1 G ra rn rc (yk ps Gr Tk X S))) := by
 have hS := Since.start hS0
 have hO : Owns G0 w0 w0.heap.size [] := Owns.nil (Nat.le_refl _)
 have hm := ht.pl.many
 have hS4 := ht.few
 refine vf (N := 73) (xN _ _ _) [.tmp 4, .cell 5 66] Tryz.func37 rfl rfl rfl rfl (zc (zb ?_))
 refine zp rfl (zI (v := fun b => pV b) (cs := [.slice a1 n1 c1, iV miss, iV (S : Int), .slice a2 n2 c2]) (e := 91) (z6 rfl) hS.sat rfl fun b2 G1 w1 hg1 hc2 => ?_)
 have hS := hS.grow hg1
 have hO := hO.grow hg1
 refine zp rfl (zI (v := fun b => pV b) (cs := [.slice a3 m3 c3, .slice a4 m4 c4, .slice a5 m5 c5]) (e := 52) (z6 rfl) hS.sat rfl fun b3 G2 w2 hg2 hc3 => ?_)
 have hS := hS.grow hg2
 have hO := hO.grow hg2
 have hc2 := hc2.mono hg2.le
 have le2 := hg1.le.trans hg2.le
 refine za (ze (v := .slice none 0 0) rfl) rfl (zp rfl (zY (v := fun b => pV b) (cs := [iV 0, iV 0, iV 0, iV 0, iV 0]) (e := 66) (by kernel_rfl) hS.sat hO rfl 5 1 rfl (by decide) fun b5 w3 hb hO => zd ?_))
 have hS := hS.keep hb
 have hO := hO.cons_nil 24 1
 refine zc (zQ qA (fun _ w => Sat G2 w) (.fl 0 (.fl 1 (.fl 2 (.fl 3 (.on 4 (.on 5 (.on 6 (.on 7 .nil)))))))) (by kernel_rfl) rfl (by kernel_rfl) (fun _ => (hS.keep (zn _)).sat) ?_)
 have hS := hS.keep (zn w3)
 have hO := hO.below (zn w3)
 refine zh rfl (fun w hw => zw g91 (cs := [.slice a1 n1 c1, iV miss, iV (S : Int), .slice a2 n2 c2]) rfl rfl fun j v hj => hw.cell (hc2 j v hj)) rfl (zh rfl (fun w hw => zw g52 (cs := [.slice a3 m3 c3, .slice a4 m4 c4, .slice a5 m5 c5]) rfl rfl fun j v hj => hw.cell (hc3 j v hj)) rfl (zh rfl (fun w hw => zj zia rfl) rfl (zh rfl (fun w hw => zk n24 rfl (hw.cell (hc3 0 _ rfl))) rfl ?_)))
 have h1 := h1.mono zl le2
 have h3 := h3.mono zm le2
 have h4 := h4.mono (zO zm) le2
 have h5 := h5.mono (zO zm) le2
 refine zt rfl rfl (yq (fi := []) (al := [.slice a3 m3 c3]) (ca := []) c25 (zbx hS hO (h3.src hS.sat) (by have := ht.xl; omega)) rfl rfl rfl fun v G3 w4 L4 le3 hS hO hv => ?_)
 obtain ⟨af, cf, fc, rfl, rfl, hr⟩ := hv
 refine ⟨fun _ _ => hS.sat.le le3, ?_⟩
 refine zt rfl rfl (zA (v := .agg #[.slice a1 n1 c1, iV miss, iV (S : Int), .slice a2 n2 c2, .slice a3 m3 c3, .slice a4 m4 c4, .slice a5 m5 c5, iV 0, .slice af X.length cf, iV 0, iV 0, iV 0, iV 0, iV 0]) (by kernel_rfl) rfl ⟨fun _ h => zK (by kernel_rfl) h, ?_⟩)
 refine zt rfl rfl (zY (v := fun b => pV b) (cs := [.slice a1 n1 c1, iV miss, iV (S : Int), .slice a2 n2 c2, .slice a3 m3 c3, .slice a4 m4 c4, .slice a5 m5 c5, iV 0, .slice af X.length cf, iV 0, iV 0, iV 0, iV 0, iV 0]) (e := 189) (z6 rfl) hS.sat hO rfl 14 1 rfl (by decide) fun bf w5 hb hO => ⟨fun _ h => zK (by kernel_rfl) h, ?_⟩)
 have hS := hS.keep hb
 refine zt rfl rfl (zA (ze (v := pV bf) rfl) rfl ⟨fun _ h => zK (by kernel_rfl) h, qk ?_⟩)
 obtain ⟨sm, hsm⟩ := za8 X (show X.length ≤ 1000 by have := ht.xl; omega)
 have hsum : Calls Tryz.prog 94 [.slice af X.length cf].toArray w5 (qQ w5 (iV sm)) := by
  obtain ⟨G', le, hS', _, hs⟩ := hO.freezeS hS zm (k := 1) rfl hr rfl
  exact zfC hS'.sat hs hsm
 refine zc (zb (za (zf (v := pV bf) rfl) rfl (za (zf (v := pV bf) rfl) rfl (za (v := pV bf) (by kernel_rfl) rfl (za (zj vz rfl) rfl (za (zk n24 rfl (zx hO (k := 0) rfl rfl)) rfl (zp rfl (zu c94 hsum rfl rfl fun w6 hb => ?_))))))))
 have hS := hS.keep hb
 have hO := hO.below hb
 refine za (v := pV bf) (by kernel_rfl) rfl (za (zj zad rfl) rfl (za (zj zya rfl) rfl ?_))
 refine zp rfl (zM (vs := [iV sm]) z3 hS hO (k := 0) rfl rfl rfl rfl rfl (zR rfl) (Nat.le_of_ble_eq_true rfl) fun w7 hS hO => ?_)
 have hO : Owns G3 w7 w0.heap.size (xX bf (.slice a1 n1 c1) (iV miss) (iV (S : Int)) (.slice a2 n2 c2) (.slice a3 m3 c3) (.slice a4 m4 c4) (.slice a5 m5 c5) (iV 0) (.slice af X.length cf) sm 0 0 0 0 :: yt af X.length cf fc :: [⟨24, 1, 0, .slice none 0 0, []⟩, ⟨66, 5, 1, .slice (some ⟨b5, 0, none⟩) 1 1, [iV 0, iV 0, iV 0, iV 0, iV 0]⟩]) := hO
 refine zd (zc (zb (za (ze (v := .slice none 0 0) rfl) rfl (zd (zc (qx (fun F w => ∃ Fb G ao co oc s sm l1 l2 l3 fc, F = qC Fb [(5, pV b5), (6, pV bf), (7, .slice ao S co)] ∧ Gle G3 G ∧ Since w0.heap.size G0 w0 G w ∧ Owns G w w0.heap.size (xX bf (.slice a1 n1 c1) (iV miss) (iV (S : Int)) (.slice a2 n2 c2) (.slice a3 m3 c3) (.slice a4 m4 c4) (.slice a5 m5 c5) s (.slice af X.length cf) sm l1 l2 l3 0 :: yt af X.length cf fc :: [⟨24, 1, S, .slice ao S co, oc⟩, ⟨66, 5, 1, .slice (some ⟨b5, 0, none⟩) 1 1, [iV 0, iV 0, iV 0, iV 0, iV 0]⟩]) ∧ Rd zW 1 G fc (qn ps Gr Tk X S) ∧ Rd (yd zW 1) 1 G oc (yk ps Gr Tk X S)) ?_ ?_))))))
 ·refine zc (zb (za (zj vm rfl) rfl (za (zj zaQ rfl) rfl (za (zk n3 rfl (hS.sat.cell ((hc2.mono le3) 2 _ rfl))) rfl (za (zf (v := iV 0) rfl) rfl (zd ?_))))))
  refine zB (qZ (qJ S (fun i F w => ∃ Fb G ao co oc s sm l1 l2 l3 fc, F = qC Fb [(5, pV b5), (6, pV bf), (7, .slice ao i co), (29, iV (S : Int)), (30, iV (i : Int))] ∧ Gle G3 G ∧ Since w0.heap.size G0 w0 G w ∧ Owns G w w0.heap.size (xX bf (.slice a1 n1 c1) (iV miss) (iV (S : Int)) (.slice a2 n2 c2) (.slice a3 m3 c3) (.slice a4 m4 c4) (.slice a5 m5 c5) s (.slice af X.length cf) sm l1 l2 l3 0 :: yt af X.length cf fc :: [⟨24, 1, i, .slice ao i co, oc⟩, ⟨66, 5, 1, .slice (some ⟨b5, 0, none⟩) 1 1, [iV 0, iV 0, iV 0, iV 0, iV 0]⟩]) ∧ Rd zW 1 G fc (qn ps Gr Tk X i) ∧ Rd (yd zW 1) 1 G oc (yk ps Gr Tk X i)) ?_ ?_ S 0 _ _ (by omega) ⟨_, G3, none, 0, [], _, _, _, _, _, fc, zi _ _ ⟨rfl, rfl, rfl, rfl, rfl, trivial⟩, Gle.refl _, hS, hO, hr, Rd.nil _ _ _⟩))
  ·rintro i F w hi ⟨Fb, G, ao, co, oc, s, sm, l1, l2, l3, fc, rfl, le, hS, hO, hr, hro⟩
   obtain ⟨gs, hgs⟩ : ∃ gs, Gr[i]? = some gs := ⟨_, List.getElem?_eq_getElem (by rw [ht.gl]; exact hi)⟩
   obtain ⟨ks, hks⟩ : ∃ ks, Tk[i]? = some ks := ⟨_, List.getElem?_eq_getElem (by rw [ht.tl]; exact hi)⟩
   have hgd : Gr.getD i [] = gs := by rw [List.getD_eq_getElem?_getD, hgs]; rfl
   have hkd : Tk.getD i [] = ks := by rw [List.getD_eq_getElem?_getD, hks]; rfl
   obtain ⟨b1, b2, b3⟩ := ht.bnd hi
   rw [hgd] at b2 b3
   have hnext : qn ps Gr Tk X (i + 1) = yX ks (qc ps (yc ps gs (qn ps Gr Tk X i)) ps.length) := by
    conv => lhs; unfold qn
    rw [hgd, hkd]
    rfl
   obtain ⟨gl, gb⟩ := ht.ge gs (List.mem_of_getElem? hgs)
   obtain ⟨kl, kb⟩ := ht.te ks (List.mem_of_getElem? hks)
   have h1 := h1.mono zl (le3.trans le)
   have h4 := h4.mono (zO zm) (le3.trans le)
   have h5 := h5.mono (zO zm) (le3.trans le)
   have hYl : (qn ps Gr Tk X i).length = X.length := yY _ _ _ _ _
   have hall := zqJ ps Gr Tk X i
   rw [hnext] at hall
   obtain ⟨Y, hY⟩ : ∃ Y, Y = qn ps Gr Tk X i := ⟨_, rfl⟩
   rw [hnext]
   rw [← hY] at b1 b2 b3 hr hYl hall ⊢
   refine zc (zb (za (qa rfl rfl) rfl (zd (zc (qf (decide ((i : Int) < (S : Int))) (decide_eq_true (by omega)) rfl (zD ?_))))))
   refine zc (zB (zc (zb (za (zf (v := iV (i : Int)) rfl) rfl (za (ze (v := iV (i : Int)) rfl) rfl (zd ?_))))))
   refine zc (zb (za (zf (v := pV bf) rfl) rfl (za (zf (v := iV (i : Int)) rfl) rfl (za (v := pV bf) (by kernel_rfl) rfl (za (zj zjk rfl) rfl ?_)))))
   refine zp rfl (zM (vs := [iV (i : Int)]) z3 hS hO (k := 0) rfl rfl rfl rfl rfl (zR rfl) (Nat.le_of_ble_eq_true rfl) fun w1 hS hO => zd ?_)
   have hO : Owns G w1 w0.heap.size (xX bf (.slice a1 n1 c1) (iV miss) (iV (S : Int)) (.slice a2 n2 c2) (.slice a3 m3 c3) (.slice a4 m4 c4) (.slice a5 m5 c5) (iV (i : Int)) (.slice af X.length cf) sm l1 l2 l3 0 :: yt af X.length cf fc :: [⟨24, 1, i, .slice ao i co, oc⟩, ⟨66, 5, 1, .slice (some ⟨b5, 0, none⟩) 1 1, [iV 0, iV 0, iV 0, iV 0, iV 0]⟩]) := hO
   refine zc (zc (zb (za (zf (v := pV bf) rfl) rfl (za (yO (vs := [pV bf]) (us := []) rfl rfl) rfl (za (zf (v := pV bf) rfl) rfl (za (yO (vs := [pV bf]) (us := []) rfl rfl) rfl (za (zf (v := pV bf) rfl) rfl (za (yO (vs := [pV bf]) (us := []) rfl rfl) rfl (za (v := .agg #[.func (.func 95) #[pV bf] #[], .func (.func 96) #[pV bf] #[], .func (.func 97) #[pV bf] #[]]) (by kernel_rfl) rfl (za (zf (v := iV 0) rfl) rfl (zd ?_)))))))))))
   refine zB (qZ (qP ?_))
   refine zc (zb (za (qa rfl rfl) rfl (zd (zc (qf true rfl rfl (zD (zc (zB ?_))))))))
   refine zc (zb (za (v := .func (.func 95) #[pV bf] #[]) (by kernel_rfl) rfl (za (ze (v := .func (.func 95) #[pV bf] #[]) rfl) rfl (zd (zb (za (zf (v := .func (.func 95) #[pV bf] #[]) rfl) rfl ?_))))))
   have hO : Owns G w1 w0.heap.size (xX bf (.slice a1 n1 c1) (iV miss) (iV (S : Int)) (.slice a2 n2 c2) (.slice a3 m3 c3) (.slice a4 m4 c4) (.slice a5 m5 c5) (iV (i : Int)) (.slice af Y.length cf) sm l1 l2 l3 0 :: yt af Y.length cf fc :: [⟨24, 1, i, .slice ao i co, oc⟩, ⟨66, 5, 1, .slice (some ⟨b5, 0, none⟩) 1 1, [iV 0, iV 0, iV 0, iV 0, iV 0]⟩]) := by rw [hYl]; exact hO
   refine zp rfl (yq (fi := [pV bf]) (al := []) (ca := []) c95 (zxb hS hO h1 h4 hgs hr (hYl.trans ht.xl) gl ht.pl b1 gb) rfl rfl rfl fun v G5 w5 L5 le5 hS hO hv => ?_)
   obtain ⟨l1, fc, rfl, hr⟩ := hv
   refine zd (zb (za (qO rfl rfl) rfl (za (zf (v := iV 1) rfl) rfl (zd ?_))))
   refine qP ?_
   refine zc (zb (za (qa rfl rfl) rfl (zd (zc (qf true rfl rfl (zD (zc (zB ?_))))))))
   refine zc (zb (za (v := .func (.func 96) #[pV bf] #[]) (by kernel_rfl) rfl (za (ze (v := .func (.func 96) #[pV bf] #[]) rfl) rfl (zd (zb (za (zf (v := .func (.func 96) #[pV bf] #[]) rfl) rfl ?_))))))
   have hO : Owns G5 w5 w0.heap.size (xX bf (.slice a1 n1 c1) (iV miss) (iV (S : Int)) (.slice a2 n2 c2) (.slice a3 m3 c3) (.slice a4 m4 c4) (.slice a5 m5 c5) (iV (i : Int)) (.slice af (yc ps gs Y).length cf) sm l1 l2 l3 0 :: yt af (yc ps gs Y).length cf fc :: [⟨24, 1, i, .slice ao i co, oc⟩, ⟨66, 5, 1, .slice (some ⟨b5, 0, none⟩) 1 1, [iV 0, iV 0, iV 0, iV 0, iV 0]⟩]) := by rw [yb]; exact hO
   refine zp rfl (yq (fi := [pV bf]) (al := []) (ca := []) c96 (zxa hS hO (h1.mono zl le5) hr (by rw [yb]; exact hYl.trans ht.xl) ht.pl b2) rfl rfl rfl fun v G6 w6 L6 le6 hS hO hv => ?_)
   obtain ⟨l3, fc, rfl, hr⟩ := hv
   refine zd (zb (za (qO rfl rfl) rfl (za (zf (v := iV 2) rfl) rfl (zd ?_))))
   refine qP ?_
   refine zc (zb (za (qa rfl rfl) rfl (zd (zc (qf true rfl rfl (zD (zc (zB ?_))))))))
   refine zc (zb (za (v := .func (.func 97) #[pV bf] #[]) (by kernel_rfl) rfl (za (ze (v := .func (.func 97) #[pV bf] #[]) rfl) rfl (zd (zb (za (zf (v := .func (.func 97) #[pV bf] #[]) rfl) rfl ?_))))))
   have hO : Owns G6 w6 w0.heap.size (xX bf (.slice a1 n1 c1) (iV miss) (iV (S : Int)) (.slice a2 n2 c2) (.slice a3 m3 c3) (.slice a4 m4 c4) (.slice a5 m5 c5) (iV (i : Int)) (.slice af (qc ps (yc ps gs Y) ps.length).length cf) sm l1 l2 l3 0 :: yt af (qc ps (yc ps gs Y) ps.length).length cf fc :: [⟨24, 1, i, .slice ao i co, oc⟩, ⟨66, 5, 1, .slice (some ⟨b5, 0, none⟩) 1 1, [iV 0, iV 0, iV 0, iV 0, iV 0]⟩]) := by rw [qL]; exact hO
   refine zp rfl (yq (fi := [pV bf]) (al := []) (ca := []) c97 (zw9 hS hO (h1.mono zl (le5.trans le6)) (h5.mono (zO zm) (le5.trans le6)) hks hr (by rw [qL, yb]; exact hYl.trans ht.xl) kl ht.pl b3 kb) rfl rfl rfl fun v G7 w7 L7 le7 hS hO hv => ?_)
   obtain ⟨l2, fc, rfl, hr⟩ := hv
   refine zd (zb (za (qO rfl rfl) rfl (za (zf (v := iV 3) rfl) rfl (zd ?_))))
   refine qP (zc (zb (za (qa rfl rfl) rfl (zd (zc (zV false rfl rfl (ql rfl ?_)))))))
   have hZl : (yX ks (qc ps (yc ps gs Y) ps.length)).length = X.length := by rw [xM, qL, yb]; exact hYl
   have hO : Owns G7 w7 w0.heap.size (xX bf (.slice a1 n1 c1) (iV miss) (iV (S : Int)) (.slice a2 n2 c2) (.slice a3 m3 c3) (.slice a4 m4 c4) (.slice a5 m5 c5) (iV (i : Int)) (.slice af X.length cf) sm l1 l2 l3 0 :: yt af X.length cf fc :: [⟨24, 1, i, .slice ao i co, oc⟩, ⟨66, 5, 1, .slice (some ⟨b5, 0, none⟩) 1 1, [iV 0, iV 0, iV 0, iV 0, iV 0]⟩]) := by rw [← hYl, ← yb ps gs Y, ← qL ps (yc ps gs Y) ps.length]; exact hO
   obtain ⟨Z, hZ⟩ : ∃ Z, Z = yX ks (qc ps (yc ps gs Y) ps.length) := ⟨_, rfl⟩
   rw [← hZ] at hr hall hZl ⊢
   have le7' := (le5.trans le6).trans le7
   refine zb (za (zf (v := .slice ao i co) rfl) rfl (za (zf (v := pV bf) rfl) rfl (za (v := pV bf) (by kernel_rfl) rfl (za (zj vz rfl) rfl (za (zk n24 rfl (zx hO (k := 0) rfl rfl)) rfl ?_)))))
   have hsrc := hO.src hS (k := 1) rfl hZl.symm hr
   refine zp rfl (yq (fi := []) (al := [.slice af X.length cf]) (ca := []) c25 (zbx hS hO hsrc (by rw [hZl, ht.xl]; omega)) rfl rfl rfl fun v G8 w8 L8 le8 hS hO hv => ?_)
   obtain ⟨a9, c9, cl9, rfl, rfl, hr9⟩ := hv
   obtain ⟨G9, le9, hS, hO, hs9⟩ := hO.freezeS hS zm (k := 0) rfl hr9 rfl
   have hO : Owns G9 w8 w0.heap.size (xX bf (.slice a1 n1 c1) (iV miss) (iV (S : Int)) (.slice a2 n2 c2) (.slice a3 m3 c3) (.slice a4 m4 c4) (.slice a5 m5 c5) (iV (i : Int)) (.slice af X.length cf) sm l1 l2 l3 0 :: yt af X.length cf fc :: [⟨24, 1, i, .slice ao i co, oc⟩, ⟨66, 5, 1, .slice (some ⟨b5, 0, none⟩) 1 1, [iV 0, iV 0, iV 0, iV 0, iV 0]⟩]) := hO
   refine zp rfl (zI (v := fun b => .slice (some ⟨b, 0, none⟩) 1 1) (cs := [.slice a9 Z.length c9]) (e := 24) (by kernel_rfl) hS.sat rfl fun bA GA wA hgA hcA => ?_)
   have hS := hS.grow hgA
   have hO := hO.grow hgA
   have leA := (le8.trans le9).trans hgA.le
   refine zp rfl (qM (k := 2) s50 (zcs _ _) hS hO rfl (ju ps Gr Tk X i).symm (hro.mono (zO zm) (le7'.trans leA)) (RSl.of_rd hcA (Rd.cons (c := [.slice a9 Z.length c9]) rfl ⟨a9, Z.length, c9, rfl, hs9.mono zm hgA.le⟩ (Rd.nil _ _ _)) rfl (show 1 ≤ maxLen by decide)) (kq _ [Z] (by rw [ju]; simp; omega)) rfl rfl rfl rfl rfl fun aB cB wB ocB hS hO hroB => ?_)
   rw [hall] at hO hroB
   have hlB : (yk ps Gr Tk X i ++ [Z]).length = i + 1 := by rw [hall, ju]
   rw [hlB]
   rw [ju] at hO
   refine za (ze (v := .slice aB (i + 1) cB) rfl) rfl (zd (zb (za (qO rfl rfl) rfl (za (zf (v := iV ((i + 1 : Nat) : Int)) (congrArg iV (yQ (by omega)))) rfl (zd ?_)))))
   exact ⟨_, GA, aB, cB, ocB, _, sm, l1, l2, l3, fc, zi _ _ ⟨rfl, rfl, rfl, rfl, rfl, trivial⟩, le.trans (le7'.trans leA), hS, hO, hr.mono zm leA, hroB⟩
  ·rintro F w ⟨Fb, G, ao, co, oc, s, sm, l1, l2, l3, fc, rfl, le, hS, hO, hr, hro⟩
   refine qP (zc (zb (za (qa rfl rfl) rfl (zd (zc (zV (decide ((S : Int) < (S : Int))) (decide_eq_false (by omega)) rfl (ql rfl ?_)))))))
   exact ⟨_, G, ao, co, oc, s, sm, l1, l2, l3, fc, zi _ _ ⟨rfl, rfl, rfl, trivial⟩, le, hS, hO, hr, hro⟩
 ·rintro F w ⟨Fb, G, ao, co, oc, s, sm, l1, l2, l3, fc, rfl, le, hS, hO, hr, hro⟩
  obtain ⟨sm2, hsm2⟩ := za8 (qn ps Gr Tk X S) (show _ ≤ 1000 by rw [yY, ht.xl]; omega)
  have hsum : Calls Tryz.prog 94 [.slice af X.length cf].toArray w (qQ w (iV sm2)) := by
   obtain ⟨G', le, hS', _, hs⟩ := hO.freezeS hS zm (k := 1) rfl hr (yY ps Gr Tk X S).symm
   exact zfC hS'.sat hs hsm2
  refine zc (zb (za (zf (v := pV bf) rfl) rfl (za (zf (v := pV bf) rfl) rfl (za (v := pV bf) (by kernel_rfl) rfl (za (zj vz rfl) rfl (za (zk n24 rfl (zx hO (k := 0) rfl rfl)) rfl (zp rfl (zu c94 hsum rfl rfl fun w6 hb => ?_))))))))
  have hS := hS.keep hb
  have hO := hO.below hb
  refine za (v := pV bf) (by kernel_rfl) rfl (za (zj zad rfl) rfl (za (zj zx9 rfl) rfl ?_))
  refine zp rfl (zM (vs := [iV sm2]) z3 hS hO (k := 0) rfl rfl rfl rfl rfl (zR rfl) (Nat.le_of_ble_eq_true rfl) fun w7 hS hO => zd ?_)
  have hO : Owns G w7 w0.heap.size (xX bf (.slice a1 n1 c1) (iV miss) (iV (S : Int)) (.slice a2 n2 c2) (.slice a3 m3 c3) (.slice a4 m4 c4) (.slice a5 m5 c5) s (.slice af X.length cf) sm l1 l2 l3 sm2 :: yt af X.length cf fc :: [⟨24, 1, S, .slice ao S co, oc⟩, ⟨66, 5, 1, .slice (some ⟨b5, 0, none⟩) 1 1, [iV 0, iV 0, iV 0, iV 0, iV 0]⟩]) := hO
  refine zc (zQ qA (fun _ w => Sat G w ∧ Owns G w w0.heap.size (xX bf (.slice a1 n1 c1) (iV miss) (iV (S : Int)) (.slice a2 n2 c2) (.slice a3 m3 c3) (.slice a4 m4 c4) (.slice a5 m5 c5) s (.slice af X.length cf) sm l1 l2 l3 sm2 :: yt af X.length cf fc :: [⟨24, 1, S, .slice ao S co, oc⟩, ⟨66, 5, 1, .slice (some ⟨b5, 0, none⟩) 1 1, [iV 0, iV 0, iV 0, iV 0, iV 0]⟩])) (.fl 0 (.fl 1 (.fl 2 (.fl 3 (.fl 4 (.on 5 (.on 6 .nil))))))) (by kernel_rfl) rfl (by kernel_rfl) (fun _ => ⟨(hS.keep (zn _)).sat, hO.below (zn _)⟩) ?_)
  have hS := hS.keep (zn w7)
  have hO := hO.below (zn w7)
  refine zh rfl (fun w hw => zf (v := .slice ao S co) rfl) rfl (zh rfl (fun w hw => zf (v := pV bf) rfl) rfl (zh (v := pV bf) rfl (fun w hw => by kernel_rfl) rfl (zh rfl (fun w hw => zj zad rfl) rfl (zh rfl (fun w hw => zw g66 (cs := [iV sm, iV l1, iV l2, iV l3, iV sm2]) rfl rfl (yu hw.2 (k := 0) rfl 9 5)) rfl ?_))))
  refine zt rfl rfl (zA (ze (v := .slice ao S co) rfl) rfl ⟨fun _ _ => ⟨hS.sat, hO⟩, ?_⟩)
  refine zt rfl rfl (zM (vs := [iV sm, iV l1, iV l2, iV l3, iV sm2]) z66 hS hO (k := 3) rfl rfl rfl rfl rfl (zR rfl) (Nat.le_of_ble_eq_true rfl) fun w8 hS hO => ⟨fun _ h => zK (by kernel_rfl) h, qk ?_⟩)
  obtain ⟨GE, leE, hS, hO2, hsE⟩ := hO.freezeS hS (zO zm) (k := 2) rfl hro (ju ps Gr Tk X S).symm
  exact zH ⟨[.slice ao S co, .agg #[iV sm, iV l1, iV l2, iV l3, iV sm2]], ⟨rfl, ⟨_, rfl, zam (cs := [iV sm, iV l1, iV l2, iV l3, iV sm2]) g66 rfl (yu hO (k := 3) rfl 0 5)⟩, trivial⟩, _, GE, rfl, hS.toGrow, ao, S, co, sm, l1, l2, l3, sm2, rfl, hsE⟩
end
end Go.Proofs.YtcapocmenjcnhaaGreatDoor
/-
 The reef: the truth with the fewest fish (the walk).
-/
namespace Go.Proofs.YtcapocmenjcnhaaGreatDoor
open Go.RowKit
set_option maxRecDepth 20000
theorem zoW : naB Tryz.prog 284 = true := by kernel_rfl
theorem zzh : szB Tryz.prog 284 = some 1 := by kernel_rfl
theorem z23 : szB Tryz.prog 23 = some 2 := by kernel_rfl
theorem c92 : zN Tryz.prog 92 = true := by kernel_rfl
theorem c93 : zN Tryz.prog 93 = true := by kernel_rfl
theorem zpV : zN Tryz.prog 166 = true := by kernel_rfl
theorem zpf : zN Tryz.prog 212 = true := by kernel_rfl
theorem zpU : zN Tryz.prog 213 = true := by kernel_rfl
theorem zAR : zN Tryz.prog 214 = true := by kernel_rfl
theorem zAQ : zN Tryz.prog 215 = true := by kernel_rfl
theorem zAP : zN Tryz.prog 216 = true := by kernel_rfl
theorem zAO : zN Tryz.prog 217 = true := by kernel_rfl
theorem zU {w w' : World} (h : Below w.heap.size w w') {a : Addr} {v : Value} (hc : w.cell? a = some v) : w'.cell? a = some v := by
 unfold World.cell? at hc ⊢
 cases ho : w.heap[a.block]? with
 | none => rw [ho] at hc; cases hc
 | some o => rw [ho] at hc; rw [h.block _ (Array.getElem?_eq_some_iff.1 ho).1, ho]; exact hc
abbrev pA (p : zr) : Value := .agg (pC p).toArray
abbrev sA (x : qy) : Value := .agg #[iV x.Low, iV x.High]
abbrev fV (k : Nat) (ca : List Value) : Value := .func (.func k) #[] ca.toArray
section
variable {G0 : Gm} {w0 : World}
theorem zhH (hS0 : Sat G0 w0) (x : qy) (b : Bool) : Calls Tryz.prog 212 [sA x, .bool b].toArray w0 (qQ w0 (iV (if b then x.High else x.Low))) := by
 refine z8 (N := 10) (qS _ _) Tryz.func212 rfl rfl rfl rfl (zc (zb ?_))
 refine zp rfl (zI (v := fun b => pV b) (cs := [iV x.Low, iV x.High]) (e := 23) (z6 rfl) hS0 rfl fun b2 G1 w1 hg1 hc2 => ?_)
 refine za (ze (v := iV 0) rfl) rfl (zd (zc (zc (zb (za (zf (v := .bool b) rfl) rfl (zd ?_))))))
 cases b with
 | true =>
  refine qf true rfl rfl (zc (zb (za (zj zyb rfl) rfl (za (zk n3 rfl (hg1.sat.cell (hc2 1 _ rfl))) rfl (za (ze (v := iV x.High) rfl) rfl (zd (zH ?_)))))))
  exact ⟨rfl, hg1.below⟩
 | false =>
  refine zV false rfl rfl (zD (zc (zb (za (zj zyc rfl) rfl (za (zk n3 rfl (hg1.sat.cell (hc2 0 _ rfl))) rfl (za (ze (v := iV x.Low) rfl) rfl (zd (zH ?_))))))))
  exact ⟨rfl, hg1.below⟩
theorem zu2 {b5 b2 b3 : Nat} {a1 a2 : Option Addr} {n1 c1 n2 c2 : Nat} {x : qi} (hS0 : Sat G0 w0) (h5 : w0.cell? ⟨b5, 0, none⟩ = some (fV 212 [])) (hc : ∀ j v, [Value.slice a1 n1 c1, iV x.Reef.Miss, iV x.Reef.Seasons, .slice a2 n2 c2][j]? = some v → w0.cell? ⟨b2, 0 + j, none⟩ = some v) (h3 : w0.cell? ⟨b3, 0, none⟩ = some (.bool false))
  (h1 : RSl zE 12 G0 a1 n1 c1 x.Reef.Places) (h2 : RSl zW 1 G0 a2 n2 c2 x.plan) (p : zr) : Calls Tryz.prog 214 [pA p, pV b5, pV b2, pV b3].toArray w0 (qQ w0 (iV p.Count)) := by
 refine z8 (N := 12) (qS _ _) Tryz.func214 rfl rfl rfl rfl (zc (zb ?_))
 refine zp rfl (zI (v := fun b => pV b) (cs := pC p) (e := 70) (z6 rfl) hS0 rfl fun b4 G1 w1 hg1 hc4 => ?_)
 refine za (ze (v := iV 0) rfl) rfl (zd ?_)
 have hS := ((Since.start hS0).grow hg1).keep (zn w1)
 refine zc (zQ qA (fun _ w => Sat G1 w ∧ Below w0.heap.size w0 w) (.fl 0 (.fl 1 (.fl 2 (.fl 4 (.on 3 (.on 5 (.on 6 .nil))))))) (by kernel_rfl) rfl (by kernel_rfl) (fun _ => ⟨hS.sat, hS.below⟩) ?_)
 refine zh rfl (fun w hw => zk zoW rfl (zU hw.2 h5)) rfl (zh rfl (fun w hw => zw g91 (cs := [.slice a1 n1 c1, iV x.Reef.Miss, iV x.Reef.Seasons, .slice a2 n2 c2]) rfl rfl fun j v hj => zU hw.2 (hc j v hj)) rfl (zh rfl (fun w hw => zw g70 (cs := pC p) rfl rfl fun j v hj => hw.1.cell (hc4 j v hj)) rfl (zh rfl (fun w hw => zk n4 rfl (zU hw.2 h3)) rfl ?_)))
 refine zt rfl rfl (zu c92 (zmW (r := ⟨p.Count, _⟩) hS.sat (h1.mono zl hg1.le) (h2.mono zm hg1.le) rfl) rfl rfl fun w2 hb2 => ?_)
 have hS := hS.keep hb2
 refine ⟨fun _ _ => ⟨hS.sat, hS.below⟩, ?_⟩
 refine zt rfl rfl (yN (fi := []) (al := [_, _]) (ca := []) zpf (zhH hS.sat ⟨p.Count, _⟩ false) rfl rfl rfl fun w3 hb3 => ⟨fun _ h => zK (by kernel_rfl) h, ?_⟩)
 have hS := hS.keep hb3
 refine zt rfl rfl (zA (ze (v := iV p.Count) rfl) rfl ⟨fun _ h => zK (by kernel_rfl) h, qk (zH ?_)⟩)
 exact ⟨rfl, hS.below⟩
theorem zu1 {b5 b3 : Nat} (hS0 : Sat G0 w0) (h5 : w0.cell? ⟨b5, 0, none⟩ = some (fV 212 [])) (h3 : w0.cell? ⟨b3, 0, none⟩ = some (.bool false)) (p : zr) : Calls Tryz.prog 215 [pA p, pV b5, pV b3].toArray w0 (qQ w0 (iV p.Grow.Low)) := by
 refine z8 (N := 10) (qS _ _) Tryz.func215 rfl rfl rfl rfl (zc (zb ?_))
 refine zp rfl (zI (v := fun b => pV b) (cs := pC p) (e := 70) (z6 rfl) hS0 rfl fun b4 G1 w1 hg1 hc4 => ?_)
 refine za (ze (v := iV 0) rfl) rfl (zd ?_)
 have hS := ((Since.start hS0).grow hg1).keep (zn w1)
 refine zc (zb (za (zk zoW rfl (zU hg1.below h5)) rfl (za (zj zoe rfl) rfl (za (zw g23 (cs := [iV p.Grow.Low, iV p.Grow.High]) rfl rfl fun j v hj => hg1.sat.cell (hc4.drop_take 2 2 j v hj)) rfl (za (zk n4 rfl (zU hg1.below h3)) rfl ?_)))))
 refine zp rfl (yN (fi := []) (al := [_, _]) (ca := []) zpf (zhH hg1.sat p.Grow false) rfl rfl rfl fun w3 hb3 => ?_)
 have hS := ((Since.start hS0).grow hg1).keep hb3
 refine za (ze (v := iV p.Grow.Low) rfl) rfl (zd (zH ?_))
 exact ⟨rfl, hS.below⟩
theorem zuZ {b5 b3 : Nat} (hS0 : Sat G0 w0) (h5 : w0.cell? ⟨b5, 0, none⟩ = some (fV 212 [])) (h3 : w0.cell? ⟨b3, 0, none⟩ = some (.bool false)) (p : qy) : Calls Tryz.prog 217 [sA p, pV b5, pV b3].toArray w0 (qQ w0 (iV p.High)) := by
 refine z8 (N := 10) (qS _ _) Tryz.func217 rfl rfl rfl rfl (zc (zb ?_))
 refine zp rfl (zI (v := fun b => pV b) (cs := [iV p.Low, iV p.High]) (e := 23) (z6 rfl) hS0 rfl fun b4 G1 w1 hg1 hc4 => ?_)
 refine za (ze (v := iV 0) rfl) rfl (zd ?_)
 refine zc (zb (za (zk zoW rfl (zU hg1.below h5)) rfl (za (zw g23 (cs := [iV p.Low, iV p.High]) rfl rfl fun j v hj => hg1.sat.cell (hc4 j v hj)) rfl (za (zk n4 rfl (zU hg1.below h3)) rfl (za (v := .bool (!false)) (qI rfl) rfl ?_)))))
 refine zp rfl (yN (fi := []) (al := [_, _]) (ca := []) zpf (zhH hg1.sat p true) rfl rfl rfl fun w3 hb3 => ?_)
 have hS := ((Since.start hS0).grow hg1).keep hb3
 refine za (ze (v := iV p.High) rfl) rfl (zd (zH ?_))
 exact ⟨rfl, hS.below⟩
set_option maxHeartbeats 1000000 in
theorem zk7 {a1 : Option Addr} {n1 c1 kf : Nat} {ca : List Value} {xs : List zr} (hS0 : Sat G0 w0) (h1 : RSl zE 12 G0 a1 n1 c1 xs) (hl : xs.length ≤ 4) (e : zr → Int) (hk : zN Tryz.prog kf = true) (hf : ∀ G w', Gle G0 G → Sat G w' → Below w0.heap.size w0 w' → ∀ x, Calls Tryz.prog kf (pA x :: ca).toArray w' (qQ w' (iV (e x)))) :
  Calls Tryz.prog 213 [.slice a1 n1 c1, fV kf ca].toArray w0 (yP G0 w0 (fun G v => ∃ ra rn rc, v = .slice ra rn rc ∧ RSl zW 1 G ra rn rc (xs.map e))) := by
 have hS := Since.start hS0
 have hO : Owns G0 w0 w0.heap.size [] := Owns.nil (Nat.le_refl _)
 have hO := hO.cons_nil 3 1
 refine vf (N := 22) (xN _ _ _) [.tmp 4] Tryz.func213 rfl rfl rfl rfl (zc (zb (za (ze (v := .slice none 0 0) rfl) rfl (zd (zc (zb (za (ze (v := .slice none 0 0) rfl) rfl (zd (zc (zc (zb (za (zf (v := .slice a1 n1 c1) rfl) rfl (za (qu (m := xs.length) s33 rfl rfl h1.1) rfl (za (zf (v := iV 0) rfl) rfl (zd ?_)))))))))))))))
 refine zB (qZ (qJ xs.length (fun i F w => ∃ Fb G ao co oc, F = qC Fb [(1, fV kf ca), (5, .slice ao i co), (8, .slice a1 n1 c1), (9, iV (xs.length : Int)), (10, iV (i : Int))] ∧ Gle G0 G ∧ Since w0.heap.size G0 w0 G w ∧ Owns G w w0.heap.size [⟨3, 1, i, .slice ao i co, oc⟩] ∧ Rd zW 1 G oc ((xs.take i).map e)) ?_ ?_ xs.length 0 _ _ (by omega) ⟨_, G0, none, 0, [], zi _ _ ⟨rfl, rfl, rfl, rfl, rfl, trivial⟩, Gle.refl _, hS, hO, by simpa using Rd.nil _ _ _⟩))
 ·rintro i F w hi ⟨Fb, G, ao, co, oc, rfl, le, hS, hO, hro⟩
  have h1 := h1.mono zl le
  have hxi := List.getElem?_eq_getElem (l := xs) (i := i) hi
  have hxx : ix xs (i : Int) = some xs[i] := (qm _ _).trans hxi
  refine zc (zb (za (qa rfl rfl) rfl (zd (zc (qf (decide ((i : Int) < (xs.length : Int))) (decide_eq_true (by omega)) rfl (zD ?_))))))
  refine zc (zB (zc (zb (xi s33 h1 hxx rfl rfl rfl ?_))))
  rintro bp op _ hcp _ ⟨⟩
  refine za (zw g70 (cs := pC xs[i]) rfl rfl fun j v hj => hS.sat.cell (hcp j v hj)) rfl ?_
  refine zp rfl (zY (v := fun b => pV b) (cs := [iV 0, iV 0, iV 0, iV 0, iV 0, iV 0, iV 0, iV 0, iV 0, iV 0, iV 0, iV 0]) (e := 70) (by kernel_rfl) hS.sat hO rfl 12 1 rfl (by decide) fun bq w3 hb hO => ?_)
  have hS := hS.keep hb
  refine zp rfl (zM (vs := pC xs[i]) z70 hS hO (k := 0) rfl rfl rfl rfl rfl (zR rfl) (Nat.le_of_ble_eq_true rfl) fun w4 hS hO => zd ?_)
  have hO : Owns G w4 w0.heap.size (⟨70, 12, 1, .slice (some ⟨bq, 0, none⟩) 1 1, pC xs[i]⟩ :: [⟨3, 1, i, .slice ao i co, oc⟩]) := hO
  refine zb (za (zf (v := .slice ao i co) rfl) rfl (za (zf (v := fV kf ca) rfl) rfl (za (zw g70 (cs := pC xs[i]) rfl rfl (yu hO (k := 0) rfl 0 12)) rfl ?_)))
  refine zp rfl (yN (fi := []) (al := [_]) (ca := ca) hk (hf G w4 le hS.sat hS.below xs[i]) rfl rfl rfl fun w5 hb => ?_)
  have hS := hS.keep hb
  have hO := hO.below hb
  refine zp rfl (zI (v := fun b => .slice (some ⟨b, 0, none⟩) 1 1) (cs := [iV (e xs[i])]) (e := 3) (by kernel_rfl) hS.sat rfl fun bA GA wA hgA hcA => ?_)
  have hS := hS.grow hgA
  have hO := hO.grow hgA
  have hti : ((xs.take i).map e).length = i := by simp; omega
  have hnx : (xs.take i).map e ++ [e xs[i]] = (xs.take (i + 1)).map e := by rw [List.take_succ_eq_append_getElem hi, List.map_append]; rfl
  have hlB : ((xs.take i).map e ++ [e xs[i]]).length = i + 1 := by simp; omega
  refine zp rfl (qM (k := 1) s24 zf3 hS hO rfl hti.symm (hro.mono zm hgA.le) (RSl.of_rd hcA (Rd.cons (c := [iV (e xs[i])]) rfl rfl (Rd.nil _ _ _)) rfl (show 1 ≤ maxLen by decide)) (kq _ [e xs[i]] (by simp; omega)) rfl rfl rfl rfl rfl fun aB cB wB ocB hS hO hroB => ?_)
  rw [hlB] at hO ⊢
  rw [hnx] at hroB
  have hO : Owns GA wB w0.heap.size [⟨3, 1, i + 1, .slice aB (i + 1) cB, ocB⟩] := hO.drop 0
  refine za (ze (v := .slice aB (i + 1) cB) rfl) rfl (zd (zb (za (qO rfl rfl) rfl (za (zf (v := iV ((i + 1 : Nat) : Int)) (congrArg iV (yQ (by omega)))) rfl (zd ?_)))))
  exact ⟨_, GA, aB, cB, ocB, zi _ _ ⟨rfl, rfl, rfl, rfl, rfl, trivial⟩, le.trans hgA.le, hS, hO, hroB⟩
 ·rintro F w ⟨Fb, G, ao, co, oc, rfl, le, hS, hO, hro⟩
  refine qP (zc (zb (za (qa rfl rfl) rfl (zd (zc (zV (decide ((xs.length : Int) < (xs.length : Int))) (decide_eq_false (by omega)) rfl (ql rfl ?_)))))))
  rw [List.take_length] at hro
  obtain ⟨GE, leE, hS, hO2, hsE⟩ := hO.freezeS hS zm (k := 0) rfl hro (by simp)
  refine zc (zb (za (zf (v := .slice ao xs.length co) rfl) rfl (za (ze (v := .slice ao xs.length co) rfl) rfl (zd (zH ?_)))))
  exact ⟨[.slice ao xs.length co], ⟨rfl, trivial⟩, _, GE, rfl, hS.toGrow, ao, xs.length, co, rfl, hsE⟩
set_option maxHeartbeats 1000000 in
theorem zu0 {a1 : Option Addr} {n1 c1 kf : Nat} {ca : List Value} {xs : List qy} (hS0 : Sat G0 w0) (h1 : RSl yM 2 G0 a1 n1 c1 xs) (hl : xs.length ≤ 4) (e : qy → Int) (hk : zN Tryz.prog kf = true) (hf : ∀ G w', Gle G0 G → Sat G w' → Below w0.heap.size w0 w' → ∀ x, Calls Tryz.prog kf (sA x :: ca).toArray w' (qQ w' (iV (e x)))) :
  Calls Tryz.prog 216 [.slice a1 n1 c1, fV kf ca].toArray w0 (yP G0 w0 (fun G v => ∃ ra rn rc, v = .slice ra rn rc ∧ RSl zW 1 G ra rn rc (xs.map e))) := by
 have hS := Since.start hS0
 have hO : Owns G0 w0 w0.heap.size [] := Owns.nil (Nat.le_refl _)
 have hO := hO.cons_nil 3 1
 refine vf (N := 22) (xN _ _ _) [.tmp 4] Tryz.func216 rfl rfl rfl rfl (zc (zb (za (ze (v := .slice none 0 0) rfl) rfl (zd (zc (zb (za (ze (v := .slice none 0 0) rfl) rfl (zd (zc (zc (zb (za (zf (v := .slice a1 n1 c1) rfl) rfl (za (qu (m := xs.length) s39 rfl rfl h1.1) rfl (za (zf (v := iV 0) rfl) rfl (zd ?_)))))))))))))))
 refine zB (qZ (qJ xs.length (fun i F w => ∃ Fb G ao co oc, F = qC Fb [(1, fV kf ca), (5, .slice ao i co), (8, .slice a1 n1 c1), (9, iV (xs.length : Int)), (10, iV (i : Int))] ∧ Gle G0 G ∧ Since w0.heap.size G0 w0 G w ∧ Owns G w w0.heap.size [⟨3, 1, i, .slice ao i co, oc⟩] ∧ Rd zW 1 G oc ((xs.take i).map e)) ?_ ?_ xs.length 0 _ _ (by omega) ⟨_, G0, none, 0, [], zi _ _ ⟨rfl, rfl, rfl, rfl, rfl, trivial⟩, Gle.refl _, hS, hO, by simpa using Rd.nil _ _ _⟩))
 ·rintro i F w hi ⟨Fb, G, ao, co, oc, rfl, le, hS, hO, hro⟩
  have h1 := h1.mono yp le
  have hxi := List.getElem?_eq_getElem (l := xs) (i := i) hi
  have hxx : ix xs (i : Int) = some xs[i] := (qm _ _).trans hxi
  refine zc (zb (za (qa rfl rfl) rfl (zd (zc (qf (decide ((i : Int) < (xs.length : Int))) (decide_eq_true (by omega)) rfl (zD ?_))))))
  refine zc (zB (zc (zb (xi s39 h1 hxx rfl rfl rfl ?_))))
  rintro bp op _ hcp _ ⟨⟩
  refine za (zw g23 (cs := [iV xs[i].Low, iV xs[i].High]) rfl rfl fun j v hj => hS.sat.cell (hcp j v hj)) rfl ?_
  refine zp rfl (zY (v := fun b => pV b) (cs := [iV 0, iV 0]) (e := 23) (by kernel_rfl) hS.sat hO rfl 2 1 rfl (by decide) fun bq w3 hb hO => ?_)
  have hS := hS.keep hb
  refine zp rfl (zM (vs := [iV xs[i].Low, iV xs[i].High]) z23 hS hO (k := 0) rfl rfl rfl rfl rfl (zR rfl) (Nat.le_of_ble_eq_true rfl) fun w4 hS hO => zd ?_)
  have hO : Owns G w4 w0.heap.size (⟨23, 2, 1, .slice (some ⟨bq, 0, none⟩) 1 1, [iV xs[i].Low, iV xs[i].High]⟩ :: [⟨3, 1, i, .slice ao i co, oc⟩]) := hO
  refine zb (za (zf (v := .slice ao i co) rfl) rfl (za (zf (v := fV kf ca) rfl) rfl (za (zw g23 (cs := [iV xs[i].Low, iV xs[i].High]) rfl rfl (yu hO (k := 0) rfl 0 2)) rfl ?_)))
  refine zp rfl (yN (fi := []) (al := [_]) (ca := ca) hk (hf G w4 le hS.sat hS.below xs[i]) rfl rfl rfl fun w5 hb => ?_)
  have hS := hS.keep hb
  have hO := hO.below hb
  refine zp rfl (zI (v := fun b => .slice (some ⟨b, 0, none⟩) 1 1) (cs := [iV (e xs[i])]) (e := 3) (by kernel_rfl) hS.sat rfl fun bA GA wA hgA hcA => ?_)
  have hS := hS.grow hgA
  have hO := hO.grow hgA
  have hti : ((xs.take i).map e).length = i := by simp; omega
  have hnx : (xs.take i).map e ++ [e xs[i]] = (xs.take (i + 1)).map e := by rw [List.take_succ_eq_append_getElem hi, List.map_append]; rfl
  have hlB : ((xs.take i).map e ++ [e xs[i]]).length = i + 1 := by simp; omega
  refine zp rfl (qM (k := 1) s24 zf3 hS hO rfl hti.symm (hro.mono zm hgA.le) (RSl.of_rd hcA (Rd.cons (c := [iV (e xs[i])]) rfl rfl (Rd.nil _ _ _)) rfl (show 1 ≤ maxLen by decide)) (kq _ [e xs[i]] (by simp; omega)) rfl rfl rfl rfl rfl fun aB cB wB ocB hS hO hroB => ?_)
  rw [hlB] at hO ⊢
  rw [hnx] at hroB
  have hO : Owns GA wB w0.heap.size [⟨3, 1, i + 1, .slice aB (i + 1) cB, ocB⟩] := hO.drop 0
  refine za (ze (v := .slice aB (i + 1) cB) rfl) rfl (zd (zb (za (qO rfl rfl) rfl (za (zf (v := iV ((i + 1 : Nat) : Int)) (congrArg iV (yQ (by omega)))) rfl (zd ?_)))))
  exact ⟨_, GA, aB, cB, ocB, zi _ _ ⟨rfl, rfl, rfl, rfl, rfl, trivial⟩, le.trans hgA.le, hS, hO, hroB⟩
 ·rintro F w ⟨Fb, G, ao, co, oc, rfl, le, hS, hO, hro⟩
  refine qP (zc (zb (za (qa rfl rfl) rfl (zd (zc (zV (decide ((xs.length : Int) < (xs.length : Int))) (decide_eq_false (by omega)) rfl (ql rfl ?_)))))))
  rw [List.take_length] at hro
  obtain ⟨GE, leE, hS, hO2, hsE⟩ := hO.freezeS hS zm (k := 0) rfl hro (by simp)
  refine zc (zb (za (zf (v := .slice ao xs.length co) rfl) rfl (za (ze (v := .slice ao xs.length co) rfl) rfl (zd (zH ?_)))))
  exact ⟨[.slice ao xs.length co], ⟨rfl, trivial⟩, _, GE, rfl, hS.toGrow, ao, xs.length, co, rfl, hsE⟩
def jI (ps : List zr) (n : Nat) : List (List Int) := (List.range n).map fun _ => ps.map (·.Grow.Low)
def jH (tk : Nat → List qy) (n : Nat) : List (List Int) := (List.range n).map fun s => (tk s).map (·.High)
theorem zaY (ps : List zr) (n : Nat) : (jI ps n).length = n := by simp [jI]
theorem zaX (tk : Nat → List qy) (n : Nat) : (jH tk n).length = n := by simp [jH]
theorem zgy (ps : List zr) (n : Nat) : jI ps n ++ [ps.map (·.Grow.Low)] = jI ps (n + 1) := by simp [jI, List.range_succ]
theorem zgx (tk : Nat → List qy) (n : Nat) : jH tk n ++ [(tk n).map (·.High)] = jH tk (n + 1) := by simp [jH, List.range_succ]
set_option maxHeartbeats 2000000 in
theorem zk8 {a1 a2 : Option Addr} {n1 c1 n2 c2 S : Nat} {x : qi} {tk : Nat → List qy} (hS0 : Sat G0 w0) (h1 : RSl zE 12 G0 a1 n1 c1 x.Reef.Places) (h2 : RSl zW 1 G0 a2 n2 c2 x.plan) (hl : x.Reef.Places.length ≤ 4) (hs : x.Reef.Seasons = (S : Int)) (hS4 : S ≤ 4)
  (htk : ∀ s, s < S → f93 x (s : Int) = some (tk s) ∧ (tk s).length ≤ 4) :
  Calls Tryz.prog 166 [.agg #[.slice a1 n1 c1, iV x.Reef.Miss, iV x.Reef.Seasons, .slice a2 n2 c2], .bool false].toArray w0 (yP G0 w0 (fun G v => ∃ a3 m3 c3 a4 m4 c4 a5 m5 c5, v = .agg #[.slice a3 m3 c3, .slice a4 m4 c4, .slice a5 m5 c5] ∧ RSl zW 1 G a3 m3 c3 (x.Reef.Places.map (·.Count)) ∧ RSl (yd zW 1) 1 G a4 m4 c4 (jI x.Reef.Places S) ∧ RSl (yd zW 1) 1 G a5 m5 c5 (jH tk S))) := by
 have hS := Since.start hS0
 have hO : Owns G0 w0 w0.heap.size [] := Owns.nil (Nat.le_refl _)
 have hO := (hO.cons_nil 24 1).cons_nil 24 1
 refine vf (N := 42) (xN _ _ _) [.cell 4 52] Tryz.func166 rfl rfl rfl rfl (zc (zb ?_))
 refine zp rfl (zI (v := fun b => pV b) (cs := [.slice a1 n1 c1, iV x.Reef.Miss, iV x.Reef.Seasons, .slice a2 n2 c2]) (e := 91) (z6 rfl) hS.sat rfl fun b2 G1 w1 hg1 hc2 => ?_)
 have hS := hS.grow hg1
 have hO := hO.grow hg1
 refine zp rfl (zI (v := fun b => pV b) (cs := [.bool false]) (e := 4) (zkh rfl rfl) hS.sat rfl fun b3 G2 w2 hg2 hc3 => ?_)
 have hS := hS.grow hg2
 have hO := hO.grow hg2
 have hc2 := hc2.mono hg2.le
 have le2 := hg1.le.trans hg2.le
 refine zp rfl (zY (v := fun b => pV b) (cs := [.slice none 0 0, .slice none 0 0, .slice none 0 0]) (e := 52) (by kernel_rfl) hS.sat hO rfl 3 1 rfl (by decide) fun b4 w3 hb hO => zd ?_)
 have hS := hS.keep hb
 refine zc (zb (zp rfl (zY (v := fun b => pV b) (cs := [.nilFunc]) (e := 284) (by kernel_rfl) hS.sat hO rfl 1 1 rfl (by decide) fun b5 w4 hb hO => ?_)))
 have hS := hS.keep hb
 refine zp rfl (zM (vs := [fV 212 []]) zzh hS hO (k := 0) rfl rfl rfl rfl rfl (zR rfl) (Nat.le_of_ble_eq_true rfl) fun w5 hS hO => zd ?_)
 have hO : Owns G2 w5 w0.heap.size (⟨284, 1, 1, .slice (some ⟨b5, 0, none⟩) 1 1, [fV 212 []]⟩ :: ⟨52, 3, 1, .slice (some ⟨b4, 0, none⟩) 1 1, [.slice none 0 0, .slice none 0 0, .slice none 0 0]⟩ :: [⟨24, 1, 0, .slice none 0 0, []⟩, ⟨24, 1, 0, .slice none 0 0, []⟩]) := hO
 obtain ⟨G3, le3, hS, hO, hq, _⟩ := hO.freeze hS (k := 0) rfl
 have hc5 : Cells G3 b5 0 [fV 212 []] := hq _ _ _ _ rfl
 have hO : Owns G3 w5 w0.heap.size (⟨52, 3, 1, .slice (some ⟨b4, 0, none⟩) 1 1, [.slice none 0 0, .slice none 0 0, .slice none 0 0]⟩ :: [⟨24, 1, 0, .slice none 0 0, []⟩, ⟨24, 1, 0, .slice none 0 0, []⟩]) := hO
 have le03 := le2.trans le3
 have hc2 := hc2.mono le3
 have hc3 := hc3.mono le3
 refine zc (zb (zp rfl (zY (v := fun b => pV b) (cs := [.slice none 0 0, .slice none 0 0, .slice none 0 0]) (e := 52) (by kernel_rfl) hS.sat hO rfl 3 1 rfl (by decide) fun b6 w6 hb hO => zd ?_)))
 have hS := hS.keep hb
 refine zc (zb (za (zj vm rfl) rfl (za (zj jL rfl) rfl (za (zk n33 rfl (hS.sat.cell (hc2 0 _ rfl))) rfl (za (yO (vs := []) (us := [pV b5, pV b2, pV b3]) rfl rfl) rfl ?_)))))
 refine zp rfl (zS zpU (zk7 hS.sat (h1.mono zl le03) hl (·.Count) zAR (fun G w' le hS _ p => zu2 hS (hS.cell ((hc5.mono le) 0 _ rfl)) (fun j v hj => hS.cell ((hc2.mono le) j v hj)) (hS.cell ((hc3.mono le) 0 _ rfl)) (h1.mono zl (le03.trans le)) (h2.mono zm (le03.trans le)) p)) rfl rfl fun v G4 w7 hg hv => ?_)
 obtain ⟨a3, m3, c3, rfl, h3⟩ := hv
 have hS := hS.grow hg
 have hO := hO.grow hg
 refine za (zj zia rfl) rfl (zp rfl (zM (vs := [.slice a3 m3 c3]) z24 hS hO (k := 0) rfl rfl rfl rfl rfl (zR rfl) (Nat.le_of_ble_eq_true rfl) fun w8 hS hO => zd ?_))
 have hO : Owns G4 w8 w0.heap.size (⟨52, 3, 1, .slice (some ⟨b6, 0, none⟩) 1 1, [.slice a3 m3 c3, .slice none 0 0, .slice none 0 0]⟩ :: ⟨52, 3, 1, .slice (some ⟨b4, 0, none⟩) 1 1, [.slice none 0 0, .slice none 0 0, .slice none 0 0]⟩ :: [⟨24, 1, 0, .slice none 0 0, []⟩, ⟨24, 1, 0, .slice none 0 0, []⟩]) := hO
 have le4 := hg.le
 refine zc (qx (fun F w => ∃ Fb G ag cg gc aT ct tc, F = qC Fb [(4, pV b4), (6, pV b6)] ∧ Gle G4 G ∧ Since w0.heap.size G0 w0 G w ∧ Owns G w w0.heap.size (⟨52, 3, 1, .slice (some ⟨b6, 0, none⟩) 1 1, [.slice a3 m3 c3, .slice ag S cg, .slice aT S ct]⟩ :: ⟨52, 3, 1, .slice (some ⟨b4, 0, none⟩) 1 1, [.slice none 0 0, .slice none 0 0, .slice none 0 0]⟩ :: [⟨24, 1, S, .slice ag S cg, gc⟩, ⟨24, 1, S, .slice aT S ct, tc⟩]) ∧ Rd (yd zW 1) 1 G gc (jI x.Reef.Places S) ∧ Rd (yd zW 1) 1 G tc (jH tk S)) ?_ ?_)
 ·refine zc (zb (za (zj vm rfl) rfl (za (zj zaQ rfl) rfl (za (zk n3 rfl (hS.sat.cell ((hc2.mono le4) 2 _ rfl))) rfl (za (zf (v := iV 0) rfl) rfl (zd ?_))))))
  rw [hs]
  refine zB (qZ (qJ S (fun i F w => ∃ Fb G ag cg gc aT ct tc, F = qC Fb [(2, pV b2), (3, pV b3), (4, pV b4), (5, pV b5), (6, pV b6), (16, iV (S : Int)), (17, iV (i : Int))] ∧ Gle G4 G ∧ Since w0.heap.size G0 w0 G w ∧ Owns G w w0.heap.size (⟨52, 3, 1, .slice (some ⟨b6, 0, none⟩) 1 1, [.slice a3 m3 c3, .slice ag i cg, .slice aT i ct]⟩ :: ⟨52, 3, 1, .slice (some ⟨b4, 0, none⟩) 1 1, [.slice none 0 0, .slice none 0 0, .slice none 0 0]⟩ :: [⟨24, 1, i, .slice ag i cg, gc⟩, ⟨24, 1, i, .slice aT i ct, tc⟩]) ∧ Rd (yd zW 1) 1 G gc (jI x.Reef.Places i) ∧ Rd (yd zW 1) 1 G tc (jH tk i)) ?_ ?_ S 0 _ _ (by omega) ⟨_, G4, none, 0, [], none, 0, [], zi _ _ ⟨rfl, rfl, rfl, rfl, rfl, rfl, rfl, trivial⟩, Gle.refl _, hS, hO, Rd.nil _ _ _, Rd.nil _ _ _⟩))
  ·rintro i F w hi ⟨Fb, G, ag, cg, gc, aT, ct, tc, rfl, le, hS, hO, hrg, hrt⟩
   obtain ⟨htk1, htk2⟩ := htk i hi
   have le3' := le4.trans le
   have h1 := h1.mono zl (le03.trans le3')
   have h2 := h2.mono zm (le03.trans le3')
   have hc2 := hc2.mono le3'
   have hc3 := hc3.mono le3'
   have hc5 := hc5.mono le3'
   refine zc (zb (za (qa rfl rfl) rfl (zd (zc (qf (decide ((i : Int) < (S : Int))) (decide_eq_true (by omega)) rfl (zD ?_))))))
   refine zc (zB (zc (zb (za (zf (v := iV (i : Int)) rfl) rfl (za (ze (v := iV (i : Int)) rfl) rfl (zd (zc ?_)))))))
   refine zQ qA (fun _ w => Sat G w ∧ w.cell? ⟨b6, 1, none⟩ = some (.slice ag i cg)) (.fl 0 (.fl 1 (.fl 2 (.fl 3 (.fl 4 (.fl 5 (.on 6 (.on 7 (.on 8 (.on 9 (.on 10 .nil))))))))))) (by kernel_rfl) rfl (by kernel_rfl) (fun _ => ⟨(hS.keep (zn _)).sat, zx (hO.below (zn _)) (k := 0) rfl rfl⟩) ?_
   have hS := hS.keep (zn w)
   have hO := hO.below (zn w)
   refine zh rfl (fun w hw => zj zeT rfl) rfl (zh rfl (fun w hw => zk n50 rfl hw.2) rfl (zh rfl (fun w hw => zj vm rfl) rfl (zh rfl (fun w hw => zj jL rfl) rfl (zh rfl (fun w hw => zk n33 rfl (hw.1.cell (hc2 0 _ rfl))) rfl (zh rfl (fun w hw => yO (vs := []) (us := [pV b5, pV b3]) rfl rfl) rfl ?_)))))
   refine zt rfl rfl (zS zpU (zk7 hS.sat h1 hl (·.Grow.Low) zAQ (fun G w' le hS _ p => zu1 hS (hS.cell ((hc5.mono le) 0 _ rfl)) (hS.cell ((hc3.mono le) 0 _ rfl)) p)) rfl rfl fun v G5 w5 hg hv => ?_)
   obtain ⟨a7, m7, c7, rfl, h7⟩ := hv
   have hS := hS.grow hg
   have hO := hO.grow hg
   refine ⟨fun _ _ => ⟨hS.sat.le hg.le, zx hO (k := 0) rfl rfl⟩, ?_⟩
   refine zt rfl rfl (zI (v := fun b => .slice (some ⟨b, 0, none⟩) 1 1) (cs := [.slice a7 m7 c7]) (e := 24) (by kernel_rfl) hS.sat rfl fun bA GA wA hgA hcA => ?_)
   have hS := hS.grow hgA
   have hO := hO.grow hgA
   have leA := hg.le.trans hgA.le
   refine ⟨fun _ _ => ⟨hS.sat.le leA, zx hO (k := 0) rfl rfl⟩, ?_⟩
   have hlB : (jI x.Reef.Places i ++ [x.Reef.Places.map (·.Grow.Low)]).length = i + 1 := by rw [zgy, zaY]
   refine zt rfl rfl (qM (k := 2) s50 (zcs _ _) hS hO rfl (zaY _ i).symm (hrg.mono (zO zm) leA) (RSl.of_rd hcA (Rd.cons (c := [.slice a7 m7 c7]) rfl ⟨a7, m7, c7, rfl, h7.mono zm hgA.le⟩ (Rd.nil _ _ _)) rfl (show 1 ≤ maxLen by decide)) (kq _ [x.Reef.Places.map (·.Grow.Low)] (by rw [zaY]; simp; omega)) rfl rfl rfl rfl rfl fun aB cB wB ocB hS hO hroB => ⟨fun _ h => zK (by kernel_rfl) h, ?_⟩)
   rw [hlB] at hO ⊢
   rw [zgy] at hroB
   refine zt rfl rfl (zA (zj zeT rfl) rfl ⟨fun _ h => zK (by kernel_rfl) h, ?_⟩)
   refine zt rfl rfl (zM (vs := [.slice aB (i + 1) cB]) z50 hS hO (k := 0) rfl rfl rfl rfl rfl (zR rfl) (Nat.le_of_ble_eq_true rfl) fun w9 hS hO => ⟨fun _ h => zK (by kernel_rfl) h, qk ?_⟩)
   have hO : Owns GA w9 w0.heap.size (⟨52, 3, 1, .slice (some ⟨b6, 0, none⟩) 1 1, [.slice a3 m3 c3, .slice aB (i + 1) cB, .slice aT i ct]⟩ :: ⟨52, 3, 1, .slice (some ⟨b4, 0, none⟩) 1 1, [.slice none 0 0, .slice none 0 0, .slice none 0 0]⟩ :: [⟨24, 1, (i + 1), .slice aB (i + 1) cB, ocB⟩, ⟨24, 1, i, .slice aT i ct, tc⟩]) := hO
   have h1 := h1.mono zl leA
   have h2 := h2.mono zm leA
   have hc2 := hc2.mono leA
   have hc3 := hc3.mono leA
   have hc5 := hc5.mono leA
   have hrt := hrt.mono (zO zm) leA
   refine zQ qA (fun _ w => Sat GA w ∧ w.cell? ⟨b6, 2, none⟩ = some (.slice aT i ct)) (.fl 0 (.fl 1 (.fl 2 (.fl 3 (.fl 5 (.on 4 (.on 6 (.on 7 (.on 8 (.on 9 (.on 10 .nil))))))))))) (by kernel_rfl) rfl (by kernel_rfl) (fun _ => ⟨(hS.keep (zn _)).sat, zx (hO.below (zn _)) (k := 0) rfl rfl⟩) ?_
   have hS := hS.keep (zn w9)
   have hO := hO.below (zn w9)
   refine zh rfl (fun w hw => zj zeS rfl) rfl (zh rfl (fun w hw => zk n50 rfl hw.2) rfl (zh rfl (fun w hw => zw g91 (cs := [.slice a1 n1 c1, iV x.Reef.Miss, iV x.Reef.Seasons, .slice a2 n2 c2]) rfl rfl fun j v hj => hw.1.cell (hc2 j v hj)) rfl (zh rfl (fun w hw => zf (v := iV (i : Int)) rfl) rfl (zh rfl (fun w hw => yO (vs := []) (us := [pV b5, pV b3]) rfl rfl) rfl ?_))))
   refine zt rfl rfl (zS c93 (zmV (x0 := x) (x1 := (i : Int)) hS.sat h1 h2 htk1) rfl rfl fun v G5 w5 hg5 hv => ?_)
   obtain ⟨a8, m8, c8, rfl, h8⟩ := hv
   have hS := hS.grow hg5
   have hO := hO.grow hg5
   refine ⟨fun _ _ => ⟨hS.sat.le hg5.le, zx hO (k := 0) rfl rfl⟩, ?_⟩
   have hc3 := hc3.mono hg5.le
   have hc5 := hc5.mono hg5.le
   refine zt rfl rfl (zS zAP (zu0 hS.sat h8 htk2 (·.High) zAO (fun G w' le hS _ p => zuZ hS (hS.cell ((hc5.mono le) 0 _ rfl)) (hS.cell ((hc3.mono le) 0 _ rfl)) p)) rfl rfl fun v G6 w6 hg6 hv => ?_)
   obtain ⟨a7, m7, c7, rfl, h7⟩ := hv
   have hS := hS.grow hg6
   have hO := hO.grow hg6
   refine ⟨fun _ _ => ⟨hS.sat.le (hg5.le.trans hg6.le), zx hO (k := 0) rfl rfl⟩, ?_⟩
   refine zt rfl rfl (zI (v := fun b => .slice (some ⟨b, 0, none⟩) 1 1) (cs := [.slice a7 m7 c7]) (e := 24) (by kernel_rfl) hS.sat rfl fun bZ GZ wZ hgZ hcZ => ?_)
   have hS := hS.grow hgZ
   have hO := hO.grow hgZ
   have leZ := (hg5.le.trans hg6.le).trans hgZ.le
   refine ⟨fun _ _ => ⟨hS.sat.le leZ, zx hO (k := 0) rfl rfl⟩, ?_⟩
   have hlZ : (jH tk i ++ [(tk i).map (·.High)]).length = i + 1 := by rw [zgx, zaX]
   refine zt rfl rfl (qM (k := 3) s50 (zcs _ _) hS hO rfl (zaX _ i).symm (hrt.mono (zO zm) leZ) (RSl.of_rd hcZ (Rd.cons (c := [.slice a7 m7 c7]) rfl ⟨a7, m7, c7, rfl, h7.mono zm hgZ.le⟩ (Rd.nil _ _ _)) rfl (show 1 ≤ maxLen by decide)) (kq _ [(tk i).map (·.High)] (by rw [zaX]; simp; omega)) rfl rfl rfl rfl rfl fun aC cC wC tC hS hO hrtC => ⟨fun _ h => zK (by kernel_rfl) h, ?_⟩)
   rw [hlZ] at hO ⊢
   rw [zgx] at hrtC
   refine zt rfl rfl (zA (zj zeS rfl) rfl ⟨fun _ h => zK (by kernel_rfl) h, ?_⟩)
   refine zt rfl rfl (zM (vs := [.slice aC (i + 1) cC]) z50 hS hO (k := 0) rfl rfl rfl rfl rfl (zR rfl) (Nat.le_of_ble_eq_true rfl) fun w10 hS hO => ⟨fun _ h => zK (by kernel_rfl) h, qk ?_⟩)
   refine zb (za (qO rfl rfl) rfl (za (zf (v := iV ((i + 1 : Nat) : Int)) (congrArg iV (yQ (by omega)))) rfl (zd ?_)))
   exact ⟨_, GZ, aB, cB, ocB, aC, cC, tC, zi _ _ ⟨rfl, rfl, rfl, rfl, rfl, rfl, rfl, trivial⟩, le.trans (leA.trans leZ), hS, hO, hroB.mono (zO zm) leZ, hrtC⟩
  ·rintro F w ⟨Fb, G, ag, cg, gc, aT, ct, tc, rfl, le, hS, hO, hrg, hrt⟩
   refine qP (zc (zb (za (qa rfl rfl) rfl (zd (zc (zV (decide ((S : Int) < (S : Int))) (decide_eq_false (by omega)) rfl (ql rfl ?_)))))))
   exact ⟨_, G, ag, cg, gc, aT, ct, tc, zi _ _ ⟨rfl, rfl, trivial⟩, le, hS, hO, hrg, hrt⟩
 ·rintro F w ⟨Fb, G, ag, cg, gc, aT, ct, tc, rfl, le, hS, hO, hrg, hrt⟩
  refine zc (zb (za (zw g52 (cs := [.slice a3 m3 c3, .slice ag S cg, .slice aT S ct]) rfl rfl (yu hO (k := 0) rfl 0 3)) rfl ?_))
  refine zp rfl (zM (vs := [.slice a3 m3 c3, .slice ag S cg, .slice aT S ct]) z52 hS hO (k := 1) rfl rfl rfl rfl rfl (zR rfl) (Nat.le_of_ble_eq_true rfl) fun w8 hS hO => zd ?_)
  obtain ⟨GE, leE, hS, hO2, hsE⟩ := hO.freezeS hS (zO zm) (k := 2) rfl hrg (zaY _ _).symm
  obtain ⟨GF, leF, hS, hO3, hsF⟩ := hO2.freezeS hS (zO zm) (k := 2) rfl (hrt.mono (zO zm) leE) (zaX _ _).symm
  exact zH ⟨[.agg #[.slice a3 m3 c3, .slice ag S cg, .slice aT S ct]], ⟨⟨_, rfl, zam (cs := [.slice a3 m3 c3, .slice ag S cg, .slice aT S ct]) g52 rfl (yu hO (k := 1) rfl 0 3)⟩, trivial⟩, _, GF, rfl, hS.toGrow, a3, m3, c3, ag, S, cg, aT, S, ct, rfl, h3.mono zm (le.trans (leE.trans leF)), hsE.mono (zO zm) leF, hsF⟩
end
end Go.Proofs.YtcapocmenjcnhaaGreatDoor
