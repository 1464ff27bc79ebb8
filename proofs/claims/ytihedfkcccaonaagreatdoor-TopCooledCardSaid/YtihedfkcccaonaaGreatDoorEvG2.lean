/-
 The evaluator's operations beside the model's: values, and reading memory.
-/
import Derived.Test.YtihedfkcccaonaaGreatDoorEvG1
import Derived.Great.BuildSlice
import Derived.Laws.MakeOwn
import Derived.Laws.Tables
import Derived.Laws.CopyRow
namespace Go.Proofs.YtihedfkcccaonaaGreatDoor.Ev
open Go.RowKit
section
variable {O : Ow} {σ : Sg} {P : Program} {w : World}
def xp (σ : Sg) (fr : Fra) (ρ : Operand → Value) : Prop := ∀ x v, opd fr x = some v → zK σ v = some (ρ x)
theorem zdd {n : Nat} {fr : Fra} {a : Act} (hf : FrR σ n fr a.tmps) (hg : ∀ g, g < gN → ∃ e, σ g = some e ∧ e.bl = g ∧ e.dl = 0) : xp σ fr a.eval := by
 intro x v h
 cases x with
 | tmp t =>
  have h' : qA fr t = some v := h
  obtain ⟨c, h1, h2⟩ := hf.2 t v h'
  rw [h1]
  show some c = some (a.tmps.getD t undef)
  rw [Array.getD_eq_getD_getElem?, h2]; rfl
 | const u =>
  have h' : some (AV.lit u) = some v := h
  cases h'; rfl
 | global g =>
  have h' : cond (Nat.blt g gN) (some (AV.ptr g 0)) none = some v := h
  cases hb : Nat.blt g gN with
  | false => rw [hb] at h'; cases h'
  | true =>
   rw [hb] at h'
   cases h'
   obtain ⟨e, h1, h2, h3⟩ := hg g (qm hb)
   show (σ g).map _ = _
   rw [h1]
   simp [Act.eval, h2, h3]
 | func f =>
  have h' : some (AV.fn (.func f) [] []) = some v := h
  cases h'; rfl
theorem vK {fr : Fra} {ρ : Operand → Value} (h : xp σ fr ρ) : ∀ (l : List Operand) (vs : List AV), zcr fr l = some vs → zA σ vs = some (l.map ρ)
 | [], vs, hv => by cases hv; rfl
 | x :: l, vs, hv => by
  simp only [zcr] at hv
  cases hx : opd fr x with
  | none => rw [hx] at hv; cases hv
  | some v =>
   cases hl : zcr fr l with
   | none => rw [hx, hl] at hv; cases hv
   | some us =>
    rw [hx, hl] at hv
    cases hv
    simp only [zA, h x v hx, vK h l us hl, List.map]
def zal (σ : Sg) (P : Program) (s : Sem Next) (v : AV) : Prop := ∃ c, zK σ v = some c ∧ ∀ w, s.run P w = .ok (.value c) w
theorem zw {α : Type} {x : Option α} {k : α → OR} {r : OR} (h : ob x k = r) (hr : r ≠ .no) : ∃ y, x = some y ∧ k y = r := by
 cases x with
 | none => exact absurd h.symm hr
 | some y => exact ⟨y, rfl, h⟩
theorem zaL {x : Option AV} {r : OR} (h : zhz x = r) (hr : r ≠ .no) : ∃ v, x = some v ∧ r = .val v := by
 cases x with
 | none => exact absurd h.symm hr
 | some y => exact ⟨y, rfl, h.symm⟩
theorem z6 {b : Bool} {x r : OR} (h : cond b x .no = r) (hr : r ≠ .no) : b = true ∧ x = r := by
 cases b with
 | true => exact ⟨rfl, h⟩
 | false => exact absurd h.symm hr
theorem zb8 {x : Option AV} {k : Nat → Nat → OR} {r : OR} (h : znv x k = r) (hr : r ≠ .no) : ∃ b o, x = some (.ptr b o) ∧ k b o = r := by
 cases x with
 | none => exact absurd h.symm hr
 | some v => cases v <;> first | exact absurd h.symm hr | exact ⟨_, _, rfl, h⟩
theorem vj {x : Option AV} {k : Value → OR} {r : OR} (h : zjB x k = r) (hr : r ≠ .no) : ∃ v, x = some (.lit v) ∧ k v = r := by
 cases x with
 | none => exact absurd h.symm hr
 | some v => cases v <;> first | exact absurd h.symm hr | exact ⟨_, rfl, h⟩
theorem zap {x : Option AV} {k : Nat → OR} {r : OR} (h : zqQ x k = r) (hr : r ≠ .no) : ∃ q n, x = some (.lit (.int q (.ofNat n))) ∧ k n = r := by
 obtain ⟨v, h1, h2⟩ := vj h hr
 subst h1
 cases v <;> first | exact absurd h2.symm hr | skip
 rename_i q n
 cases n with
 | ofNat n => exact ⟨q, n, rfl, h2⟩
 | negSucc n => exact absurd h2.symm hr
theorem yw {x : Option Value} {r : OR} (h : jt x = r) (hr : r ≠ .no) : ∃ v, x = some v ∧ r = .val (.lit v) := by
 cases x with
 | none => exact absurd h.symm hr
 | some v => exact ⟨v, rfl, h.symm⟩
theorem qJ {x : Option TypeDesc} {k : Nat → OR} {r : OR} (h : xm x k = r) (hr : r ≠ .no) : ∃ e, x = some (.slice e) ∧ k e = r := by
 unfold xm at h
 split at h
 ·exact ⟨_, rfl, h⟩
 ·exact absurd h.symm hr
theorem zcc {x : Option TypeDesc} {k : Array Field → OR} {r : OR} (h : zcd x k = r) (hr : r ≠ .no) : ∃ e, x = some (.struct e) ∧ k e = r := by
 unfold zcd at h
 split at h
 ·exact ⟨_, rfl, h⟩
 ·exact absurd h.symm hr
theorem zaY {x : Option TypeDesc} {k : Nat → Nat → OR} {r : OR} (h : zbo x k = r) (hr : r ≠ .no) : ∃ n e, x = some (.array n e) ∧ k n e = r := by
 unfold zbo at h
 split at h
 ·exact ⟨_, _, rfl, h⟩
 ·exact absurd h.symm hr
theorem jU {α : Type} : ∀ (s : Sem α) (a : α), pv P s = some a → ∀ w, s.run P w = .ok a w
 | .pure a, b, h, w => by cases h; rfl
 | .program k, b, h, w => jU (k P) b h w
 | .mark m k, b, h, w => jU k b h w
 | .load .., _, h, _ => by cases h
 | .store .., _, h, _ => by cases h
 | .new .., _, h, _ => by cases h
 | .shape .., _, h, _ => by cases h
 | .freeze .., _, h, _ => by cases h
 | .frozen .., _, h, _ => by cases h
 | .getObj .., _, h, _ => by cases h
 | .setObj .., _, h, _ => by cases h
 | .choose .., _, h, _ => by cases h
 | .sys .., _, h, _ => by cases h
 | .halt .., _, h, _ => by cases h
theorem yq {b o : Nat} {c : Value} (h : zK σ (.ptr b o) = some c) : ∃ e, σ b = some e ∧ c = .pointer (some ⟨e.bl, o + e.dl, none⟩) := by
 simp only [zK, Option.map_eq_some_iff] at h
 obtain ⟨e, h1, h2⟩ := h
 exact ⟨e, h1, h2.symm⟩
theorem kO {b o n k : Nat} {c : Value} (h : zK σ (.asl b o n k) = some c) : ∃ e, σ b = some e ∧ c = .slice (some ⟨e.bl, o + e.dl, none⟩) n k := by
 simp only [zK, Option.map_eq_some_iff] at h
 obtain ⟨e, h1, h2⟩ := h
 exact ⟨e, h1, h2.symm⟩
theorem xe {b o n k s : Nat} {c : Value} (h : zK σ (.slc b o n k s) = some c) : ∃ e, σ b = some e ∧ (s = e.sz ∧ o + k * e.sz = e.en) ∧ c = .slice (some ⟨e.bl, adr e.kp o n k s + e.dl, none⟩) n (k + e.kp) := by
 simp only [zK] at h
 cases he : σ b with
 | none => rw [he] at h; cases h
 | some e =>
  rw [he] at h
  have h' : (if s = e.sz ∧ o + k * e.sz = e.en then some (Value.slice (some ⟨e.bl, adr e.kp o n k s + e.dl, none⟩) n (k + e.kp)) else none) = some c := h
  by_cases hc : s = e.sz ∧ o + k * e.sz = e.en
  ·rw [if_pos hc] at h'
   exact ⟨e, rfl, hc, (nQs h').symm⟩
  ·rw [if_neg hc] at h'
   cases h'
theorem vu {b o n k s : Nat} {c : Value} (h : zK σ (.slc b o n k s) = some c) (hn : n ≠ 0 ∨ k ≠ 0) : ∃ e, σ b = some e ∧ (s = e.sz ∧ o + k * e.sz = e.en) ∧ c = .slice (some ⟨e.bl, o + e.dl, none⟩) n (k + e.kp) := by
 obtain ⟨e, h1, h2, h3⟩ := xe h
 refine ⟨e, h1, h2, ?_⟩
 rcases hn with hn | hn
 ·rw [zmg hn] at h3; exact h3
 ·rw [zqz hn] at h3; exact h3
theorem zab {b o n k : Nat} {e : Loc} (he : σ b = some e) (h : o + k * e.sz = e.en) : zK σ (.slc b o n k e.sz) = some (.slice (some ⟨e.bl, adr e.kp o n k e.sz + e.dl, none⟩) n (k + e.kp)) := by
 show (match σ b with | some e => _ | none => none) = _
 rw [he]
 exact if_pos ⟨rfl, h⟩
theorem xw {b o n k : Nat} {e : Loc} (he : σ b = some e) (h : o + k * e.sz = e.en) (h0 : o = 0 ∨ n ≠ 0 ∨ k ≠ 0) : zK σ (.slc b o n k e.sz) = some (.slice (some ⟨e.bl, o + e.dl, none⟩) n (k + e.kp)) := by
 rw [zab he h]
 rcases h0 with rfl | h0 | h0
 ·rw [zy4]
 ·rw [zmg h0]
 ·rw [zqz h0]
theorem zh2 {t : Nat} (h : (P.underlying t).isSome = true) : ∃ i, P.info? t = some i ∧ szT P t = i.size := by
 unfold szT
 unfold Program.underlying at h
 cases hi : P.info? t with
 | none => rw [hi] at h; cases h
 | some i => exact ⟨i, rfl, rfl⟩
theorem jh {t n : Nat} (h : szO P t = some n) : ∃ i, P.info? t = some i ∧ i.size = n := by
 unfold szO at h
 cases hi : P.info? t with
 | none => rw [hi] at h; cases h
 | some i => rw [hi] at h; exact ⟨i, rfl, nQs h⟩
theorem yH {t n : Nat} (h : szO P t = some n) (w : World) : (sizeOf t).run P w = .ok n w := by
 obtain ⟨i, hi, hn⟩ := jh h
 simp [sizeOf, typeInfo, hi, hn]
theorem zqw {t : Nat} (h : znh P t = some true) (w : World) : (isAgg t).run P w = .ok true w ∧ (sizeOf t).run P w = .ok (szT P t) w := by
 unfold znh at h
 split at h
 ·rename_i hu
  obtain ⟨i, hi, hs⟩ := zh2 (P := P) (t := t) (by rw [hu]; rfl)
  exact ⟨by simp [isAgg, run_underlying hu], by simp [sizeOf, typeInfo, hi, hs]⟩
 ·rename_i hu
  obtain ⟨i, hi, hs⟩ := zh2 (P := P) (t := t) (by rw [hu]; rfl)
  exact ⟨by simp [isAgg, run_underlying hu], by simp [sizeOf, typeInfo, hi, hs]⟩
 ·cases h
 ·cases h
theorem zqx {t : Nat} (h : znh P t = some false) (w : World) : (isAgg t).run P w = .ok false w := by
 unfold znh at h
 split at h
 ·cases h
 ·cases h
 ·rename_i d h1 h2 hu
  unfold isAgg
  rw [Sem.run_bind, run_underlying hu]
  cases d <;> first | rfl | exact absurd rfl (h1 _) | exact absurd rfl (h2 _ _)
 ·cases h
theorem qV (b o k : Nat) : (⟨b, o, none⟩ : Addr).add k = ⟨b, o + k, none⟩ := by
 unfold Addr.add
 split
 ·rename_i h; subst h; rfl
 ·rfl
theorem zba {e : Loc} {c : CS} {arr : Array Value} (h : CellR σ e c arr) : ∀ (n o : Nat) (l : List AV), vS c n o = some l → ∃ cs, zA σ l = some cs ∧ cs.length = n ∧ ∀ j v, cs[j]? = some v → arr[o + j + e.dl]? = some v
 | 0, o, l, hl => by cases hl; exact ⟨[], rfl, rfl, fun j v hj => by simp at hj⟩
 | n + 1, o, l, hl => by
  simp only [vS] at hl
  cases hv : xW c o with
  | none => rw [hv] at hl; cases hl
  | some v =>
   cases hr : vS c n (Nat.succ o) with
   | none => rw [hv, hr] at hl; cases hl
   | some l' =>
    rw [hv, hr] at hl
    cases hl
    obtain ⟨_, cv, h1, h2⟩ := h.2 o v hv
    obtain ⟨cs, h3, h4, h5⟩ := zba h n _ l' hr
    refine ⟨cv :: cs, by simp only [zA, h1, h3], by simp [h4], fun j u hj => ?_⟩
    cases j with
    | zero => simp at hj; subst hj; exact h2
    | succ j =>
     have := h5 j u (by simpa using hj)
     rwa [show o.succ + j + e.dl = o + (j + 1) + e.dl by omega] at this
theorem ql : ∀ {l : List AV} {cs : List Value}, zA σ l = some cs → cs.length = l.length
 | [], cs, h => by cases h; rfl
 | v :: l, cs, h => by
  simp only [zA] at h
  cases ha : zK σ v with
  | none => rw [ha] at h; cases h
  | some ca =>
   cases hb : zA σ l with
   | none => rw [ha, hb] at h; cases h
   | some cb =>
    rw [ha, hb] at h
    cases h
    simp [ql hb]
theorem yf : ∀ {l : List AV} {cs : List Value}, zA σ l = some cs → ∀ (i : Nat) (v : AV), l[i]? = some v → ∃ c, zK σ v = some c ∧ cs[i]? = some c
 | [], cs, h, i, v, hi => by simp at hi
 | u :: l, cs, h, i, v, hi => by
  simp only [zA] at h
  cases ha : zK σ u with
  | none => rw [ha] at h; cases h
  | some ca =>
   cases hb : zA σ l with
   | none => rw [ha, hb] at h; cases h
   | some cb =>
    rw [ha, hb] at h
    cases h
    cases i with
    | zero => simp at hi; subst hi; exact ⟨ca, ha, rfl⟩
    | succ i =>
     obtain ⟨c, h1, h2⟩ := yf hb i v (by simpa using hi)
     exact ⟨c, h1, by simpa using h2⟩
theorem zcL {l : List AV} {cs : List Value} (hl : cs.length = l.length) (h : ∀ (i : Nat) (v : AV), l[i]? = some v → ∃ c, zK σ v = some c ∧ cs[i]? = some c) : zA σ l = some cs := by
 induction l generalizing cs with
 | nil => cases cs with
  | nil => rfl
  | cons _ _ => cases hl
 | cons v l ih =>
  cases cs with
  | nil => cases hl
  | cons c cs =>
   obtain ⟨c', h1, h2⟩ := h 0 v rfl
   simp at h2
   subst h2
   have := ih (cs := cs) (by simpa using hl) (fun i u hu => by
    obtain ⟨c', h3, h4⟩ := h (i + 1) u (by simpa using hu)
    exact ⟨c', h3, by simpa using h4⟩)
   simp only [zA, h1, this]
theorem yg {l m : List AV} {cs ds : List Value} (h : zA σ l = some cs) (h' : zA σ m = some ds) : zA σ (l ++ m) = some (cs ++ ds) := by
 induction l generalizing cs with
 | nil => cases h; exact h'
 | cons v l ih =>
  simp only [zA] at h
  cases ha : zK σ v with
  | none => rw [ha] at h; cases h
  | some ca =>
   cases hb : zA σ l with
   | none => rw [ha, hb] at h; cases h
   | some cb =>
    rw [ha, hb] at h
    cases h
    show zA σ (v :: (l ++ m)) = _
    simp only [zA, ha, ih hb, List.cons_append]
theorem zfr : ∀ (l : List Value), zA σ (l.map .lit) = some l
 | [] => rfl
 | v :: l => by simp only [List.map, zA, zK, zfr l]
theorem kj (a : Array Value) : zA σ (zbN a) = some a.toList := zfr _
theorem zcy : ∀ {l : List AV} {vs : List Value}, zcz l = some vs → zA σ l = some vs
 | [], vs, h => by cases h; rfl
 | .lit v :: l, vs, h => by
  simp only [zcz] at h
  cases hl : zcz l with
  | none => rw [hl] at h; cases h
  | some us => rw [hl] at h; cases h; simp only [zA, zK, zcy hl]
 | .ptr .. :: _, _, h => by cases h
 | .slc .. :: _, _, h => by cases h
 | .asl .. :: _, _, h => by cases h
 | .map .. :: _, _, h => by cases h
 | .agg .. :: _, _, h => by cases h
 | .tup .. :: _, _, h => by cases h
 | .ifc .. :: _, _, h => by cases h
 | .fn .. :: _, _, h => by cases h
 | .yld .. :: _, _, h => by cases h
theorem ziu {a : AV} {v : Value} (h : zll a = some v) : zK σ a = some v := by
 unfold zll at h
 split at h
 ·cases h; rfl
 ·rename_i l
  cases hl : zcz l with
  | none => rw [hl] at h; cases h
  | some vs => rw [hl] at h; cases h; simp only [zK, zcy hl, Option.map_some]
 ·rename_i l
  cases hl : zcz l with
  | none => rw [hl] at h; cases h
  | some vs => rw [hl] at h; cases h; simp only [zK, zcy hl, Option.map_some]
 ·cases h
theorem zmf {a : AV} {l : List AV} {c : Value} (h : zqy a = some l) (hc : zK σ a = some c) : ∃ cs, zA σ l = some cs ∧ c = .agg cs.toArray := by
 unfold zqy at h
 split at h
 ·cases h
  cases hc
  exact ⟨_, kj _, by simp⟩
 ·cases h
  simp only [zK, Option.map_eq_some_iff] at hc
  obtain ⟨cs, h1, h2⟩ := hc
  exact ⟨cs, h1, h2.symm⟩
 ·cases h
end
section
variable {O : Ow} {σ : Sg} {P : Program} {fr : Fra} {m : Mem} {ρ : Operand → Value} {r : OR} {d : Option Tmp} {ty : Nat} {pos : String} {af : Array Edge} {gd : Option (Nat × Bool)} {w : World}
theorem zcA (hρ : xp σ fr ρ) {x : Operand} (h : zlq x P ty fr m = r) (hr : r ≠ .no) : ∃ v, r = .val v ∧ zK σ v = some (ρ x) := by
 obtain ⟨v, h1, h2⟩ := zaL h hr
 exact ⟨v, h2, hρ x v h1⟩
theorem ziw (hρ : xp σ fr ρ) {c x y : Operand} (h : zgn c x y P ty fr m = r) (hr : r ≠ .no) : ∃ v, r = .val v ∧ zal σ P (execOp ρ ⟨d, .pick c x y, ty, pos, af, gd⟩) v := by
 obtain ⟨cv, h1, h⟩ := zw h hr
 obtain ⟨b, h2, h⟩ := zw h hr
 obtain ⟨v, h3, h4⟩ := zaL h hr
 have hc := hρ c cv h1
 unfold zqh at h2
 split at h2
 ·cases h2
  cases hc0 : ρ c <;> rw [hc0] at hc <;> cases hc
  have hv := hρ _ v h3
  refine ⟨v, h4, _, hv, fun w => ?_⟩
  cases b with
  | true => simp [execOp, hc0, asBool]
  | false => simp [execOp, hc0, asBool]
 ·cases h2
theorem zlp (hρ : xp σ fr ρ) {x : Operand} (h : zuN x P ty fr m = r) (hr : r ≠ .no) : ∃ v, r = .val v ∧ zal σ P (execOp ρ ⟨d, .nilCheck x, ty, pos, af, gd⟩) v := by
 obtain ⟨v, h1, h⟩ := zw h hr
 have hv := hρ x v h1
 unfold zxp at h
 split at h
 ·refine ⟨_, h.symm, _, hv, fun w => ?_⟩
  obtain ⟨e, _, hc⟩ := yq hv
  simp [execOp, hc]
 ·refine ⟨_, h.symm, _, hv, fun w => ?_⟩
  simp only [zK] at hv
  split at hv
  ·have hc := (nQs hv).symm
   simp [execOp, hc]
  ·cases hv
 ·refine ⟨_, h.symm, _, hv, fun w => ?_⟩
  simp only [zK, Option.map_eq_some_iff] at hv
  obtain ⟨e, _, hc⟩ := hv
  simp [execOp, ← hc]
 ·refine ⟨_, h.symm, _, hv, fun w => ?_⟩
  have hc := (nQs hv).symm
  simp [execOp, hc]
 ·exact absurd h.symm hr
theorem zbD (hρ : xp σ fr ρ) {t i : Nat} {x : Operand} (h : zbQ t x i P ty fr m = r) (hr : r ≠ .no) : ∃ v, r = .val v ∧ zal σ P (execOp ρ ⟨d, .fieldAddr t x i, ty, pos, af, gd⟩) v := by
 obtain ⟨b, o, h1, h⟩ := zb8 h hr
 obtain ⟨fs, h2, h⟩ := zcc h hr
 obtain ⟨f, h3, h⟩ := zw h hr
 cases hz : Nat.beq (szT P f.type) 0 with
 | true => rw [hz] at h; exact absurd h.symm hr
 | false =>
  rw [hz] at h
  have hv := hρ x _ h1
  obtain ⟨e, he, hc⟩ := yq hv
  have hz' : szT P f.type ≠ 0 := fun e0 => by rw [e0] at hz; cases hz
  have hi : ∃ i, P.info? f.type = some i ∧ szT P f.type = i.size := by
   unfold szT at hz' ⊢
   cases hq : P.info? f.type with
   | none => rw [hq] at hz'; exact absurd rfl hz'
   | some i => exact ⟨i, rfl, rfl⟩
  obtain ⟨inf, h4, h5⟩ := hi
  rw [h5] at hz'
  refine ⟨_, h.symm, _, (by show (σ b).map _ = _; rw [he]; rfl), fun w => ?_⟩
  have e1 : o + f.offset + e.dl = o + e.dl + f.offset := by omega
  simp [execOp, hc, Instr.fieldAt, run_underlying h2, h3, Instr.sureAddr, fieldPlace, sizeOf, typeInfo, h4, hz', qV, e1]
theorem ziy (hρ : xp σ fr ρ) {t : Nat} {x i : Operand} (h : zo1 t x i P ty fr m = r) (hr : r ≠ .no) : ∃ v, r = .val v ∧ zal σ P (execOp ρ ⟨d, .indexAddr t x i, ty, pos, af, gd⟩) v := by
 obtain ⟨v, h1, h⟩ := zw h hr
 obtain ⟨q, k, h2, h⟩ := zap h hr
 have hv := hρ x v h1
 have hk := hρ i _ h2
 have hk' : ρ i = .int q (.ofNat k) := (nQs hk).symm
 cases v with
 | slc b o n c s' =>
  obtain ⟨el, h3, h⟩ := qJ h hr
  obtain ⟨s, h5, h⟩ := zw h hr
  obtain ⟨h4, h⟩ := z6 h hr
  have h4' := qm h4
  obtain ⟨e, he, _, hc⟩ := vu hv (.inl (by omega))
  refine ⟨_, h.symm, _, (by show (σ b).map _ = _; rw [he]; rfl), fun w => ?_⟩
  have e1 : o + k * s + e.dl = o + e.dl + k * s := by omega
  simp [execOp, hc, hk', Instr.indexAt, asIntOf, run_underlying h3, yH h5, h4', qV, e1]
 | asl b o n c =>
  obtain ⟨el, h3, h⟩ := qJ h hr
  obtain ⟨s, h5, h⟩ := zw h hr
  obtain ⟨h4, h⟩ := z6 h hr
  obtain ⟨e, he, hc⟩ := kO hv
  refine ⟨_, h.symm, _, (by show (σ b).map _ = _; rw [he]; rfl), fun w => ?_⟩
  have h4' := qm h4
  have e1 : o + k * s + e.dl = o + e.dl + k * s := by omega
  simp [execOp, hc, hk', Instr.indexAt, asIntOf, run_underlying h3, yH h5, h4', qV, e1]
 | ptr b o =>
  obtain ⟨n, el, h3, h⟩ := zaY h hr
  obtain ⟨s, h5, h⟩ := zw h hr
  obtain ⟨h4, h⟩ := z6 h hr
  obtain ⟨e, he, hc⟩ := yq hv
  refine ⟨_, h.symm, _, (by show (σ b).map _ = _; rw [he]; rfl), fun w => ?_⟩
  have h4' := qm h4
  have e1 : o + k * s + e.dl = o + e.dl + k * s := by omega
  simp [execOp, hc, hk', Instr.indexAt, Instr.sureAddr, asIntOf, run_underlying h3, yH h5, h4', qV, e1]
 | _ => exact absurd h.symm hr
theorem zkw {l : List AV} {cs : List Value} (h : zA σ l = some cs) (n : Nat) : zA σ (l.take n) = some (cs.take n) := by
 have hl := ql h
 refine zcL (by simp [hl]) fun i v hi => ?_
 rw [List.getElem?_take] at hi
 split at hi
 ·rename_i hlt
  obtain ⟨c, h1, h2⟩ := yf h i v hi
  exact ⟨c, h1, by rw [List.getElem?_take, if_pos hlt]; exact h2⟩
 ·cases hi
theorem zkx {l : List AV} {cs : List Value} (h : zA σ l = some cs) (n : Nat) : zA σ (l.drop n) = some (cs.drop n) := by
 have hl := ql h
 refine zcL (by simp [hl]) fun i v hi => ?_
 rw [List.getElem?_drop] at hi
 obtain ⟨c, h1, h2⟩ := yf h _ v hi
 exact ⟨c, h1, by rw [List.getElem?_drop]; exact h2⟩
theorem zgb {t off : Nat} {l : List AV} {cs : List Value} {v : AV} (hl : zA σ l = some cs) (h : zeF P t l off = some v) : ∃ c, zK σ v = some c ∧ ∀ w, (part t cs.toArray off).run P w = .ok c w := by
 unfold zeF at h
 split at h
 ·rename_i ha
  cases h
  refine ⟨_, by simp only [zK, zkw (zkx hl off) _, Option.map_some]; rfl, fun w => ?_⟩
  obtain ⟨h1, h2⟩ := zqw ha w
  simp [part, h1, h2]
 ·rename_i ha
  rw [nth_eq] at h
  obtain ⟨c, h1, h2⟩ := yf hl _ _ h
  refine ⟨c, h1, fun w => ?_⟩
  simp [part, zqx ha w, h2]
 ·cases h
theorem zgq (hρ : xp σ fr ρ) {t i : Nat} {x : Operand} (h : zkj t x i P ty fr m = r) (hr : r ≠ .no) : ∃ v, r = .val v ∧ zal σ P (execOp ρ ⟨d, .field t x i, ty, pos, af, gd⟩) v := by
 obtain ⟨v, h1, h⟩ := zw h hr
 obtain ⟨l, h2, h⟩ := zw h hr
 obtain ⟨fs, h3, h⟩ := zcc h hr
 obtain ⟨f, h4, h⟩ := zw h hr
 obtain ⟨u, h5, h6⟩ := zaL h hr
 obtain ⟨cs, h7, h8⟩ := zmf h2 (hρ x v h1)
 obtain ⟨c, h9, h10⟩ := zgb h7 h5
 refine ⟨u, h6, c, h9, fun w => ?_⟩
 simp [execOp, Instr.field, run_underlying h3, h4, h8, asAgg, h10]
theorem zgp (hρ : xp σ fr ρ) {t : Nat} {x i : Operand} (h : zki t x i P ty fr m = r) (hr : r ≠ .no) : ∃ v, r = .val v ∧ zal σ P (execOp ρ ⟨d, .index t x i, ty, pos, af, gd⟩) v := by
 obtain ⟨v, h1, h⟩ := zw h hr
 obtain ⟨u, h2, h⟩ := zw h hr
 have hv := hρ x v h1
 have hu := hρ i u h2
 have key : (∃ a b, v = .lit a ∧ u = .lit b ∧ jt (pv P (Instr.index t a b)) = r) ∨ (∃ l q k, v = .agg l ∧ u = .lit (.int q (.ofNat k)) ∧ (zbo (P.underlying t) fun n e => ob (szO P e) fun s => cond (Nat.blt k n) (zhz (zeF P e l (Nat.mul k s))) .no) = r) := by
  unfold zlb at h
  split at h
  ·exact .inl ⟨_, _, rfl, rfl, h⟩
  ·exact .inr ⟨_, _, _, rfl, rfl, h⟩
  ·exact absurd h.symm hr
 rcases key with ⟨va, ia, rfl, rfl, h⟩ | ⟨l, q, k, rfl, rfl, h⟩
 ·obtain ⟨c, h3, h4⟩ := yw h hr
  refine ⟨_, h4, c, rfl, fun w => ?_⟩
  have e1 := (nQs hv).symm
  have e2 := (nQs hu).symm
  simp [execOp, e1, e2, jU _ _ h3]
 ·obtain ⟨n, el, h3, h⟩ := zaY h hr
  obtain ⟨s, h5, h⟩ := zw h hr
  obtain ⟨h4, h⟩ := z6 h hr
  obtain ⟨u', h6, h7⟩ := zaL h hr
  simp only [zK, Option.map_eq_some_iff] at hv
  obtain ⟨cs, h8, h9⟩ := hv
  obtain ⟨c, h10, h11⟩ := zgb h8 h6
  have e2 : ρ i = .int q (.ofNat k) := (nQs hu).symm
  refine ⟨u', h7, c, h10, fun w => ?_⟩
  have h4' := qm h4
  simp [execOp, ← h9, e2, Instr.index, asIntOf, run_underlying h3, h4', yH h5]
  have := h11 w
  simp only [Nat.mul_eq] at this
  rw [this]; rfl
theorem zdJ (hρ : xp σ fr ρ) {i : Nat} {x : Operand} (h : ze2 x i P ty fr m = r) (hr : r ≠ .no) : ∃ v, r = .val v ∧ zal σ P (execOp ρ ⟨d, .extract x i, ty, pos, af, gd⟩) v := by
 obtain ⟨v, h1, h⟩ := zw h hr
 have hv := hρ x v h1
 unfold zgf at h
 split at h
 ·rename_i l
  split at h
  ·rename_i u hu
   simp only [zK, Option.map_eq_some_iff] at hv
   obtain ⟨cs, h8, h9⟩ := hv
   obtain ⟨c, h2, h3⟩ := yf h8 _ _ hu
   refine ⟨u, h.symm, c, h2, fun w => ?_⟩
   simp [execOp, ← h9, Instr.extract, h3]
  ·exact absurd h.symm hr
 ·rename_i vs
  obtain ⟨c, h3, h4⟩ := yw h hr
  have e1 := (nQs hv).symm
  refine ⟨_, h4, c, rfl, fun w => ?_⟩
  simp [execOp, e1, Instr.extract, h3]
 ·exact absurd h.symm hr
theorem map_toArray (ρ : Operand → Value) (a : Array Operand) : a.map ρ = (a.toList.map ρ).toArray := Array.ext' (by simp)
theorem zcB (hρ : xp σ fr ρ) {f : Fn} {a b : Array Operand} (h : vl f a b P ty fr m = r) (hr : r ≠ .no) : ∃ v, r = .val v ∧ zal σ P (execOp ρ ⟨d, .makeFunc f a b, ty, pos, af, gd⟩) v := by
 obtain ⟨v, h1, h⟩ := zw h hr
 obtain ⟨u, h2, h⟩ := zw h hr
 have e1 := vK hρ _ _ h1
 have e2 := vK hρ _ _ h2
 refine ⟨_, h.symm, _, by simp only [zK, e1, e2]; rfl, fun w => ?_⟩
 simp [execOp, Instr.makeFunc, map_toArray]
theorem zgo (hρ : xp σ fr ρ) {t : Nat} {x : Operand} (h : zkg t x P ty fr m = r) (hr : r ≠ .no) : ∃ v, r = .val v ∧ zal σ P (execOp ρ ⟨d, .makeInterface t x, ty, pos, af, gd⟩) v := by
 obtain ⟨v, h1, h⟩ := zw h hr
 have hv := hρ x v h1
 split at h
 ·exact absurd h.symm hr
 ·rename_i dsc hn hu
  refine ⟨_, h.symm, _, by simp only [zK, hv, Option.map_some]; rfl, fun w => ?_⟩
  simp [execOp, Instr.makeInterface, run_underlying hu]
 ·exact absurd h.symm hr
theorem zoV (hρ : xp σ fr ρ) {op : UnOp} {t : Nat} {x : Operand} (h : kUn op x P ty fr m = r) (hr : r ≠ .no) : ∃ v, r = .val v ∧ zal σ P (execOp ρ ⟨d, .unOp op t x, ty, pos, af, gd⟩) v := by
 obtain ⟨v, h1, h⟩ := vj h hr
 obtain ⟨c, h3, h4⟩ := yw h hr
 have e1 := (nQs (hρ x _ h1)).symm
 refine ⟨_, h4, c, rfl, fun w => ?_⟩
 simp [execOp, e1, jU _ _ h3]
theorem zej {t : Nat} {z : AV} (h : zhW P t = some z) : ∃ c, zK σ z = some c ∧ ∀ w, (zeroValue t).run P w = .ok c w := by
 unfold zhW at h
 split at h
 ·rename_i i hi
  split at h
  ·rename_i c hz
   cases h
   exact ⟨c, rfl, fun w => by simp [zeroValue, typeInfo, hi, hz]⟩
  ·cases h
 ·cases h
theorem zoW (hρ : xp σ fr ρ) {t t0 : Nat} {ok : Bool} {x : Operand} (h : kTA x t ok P ty fr m = r) (hr : r ≠ .no) : ∃ v, r = .val v ∧ zal σ P (execOp ρ ⟨d, .typeAssert x t0 t ok, ty, pos, af, gd⟩) v := by
 obtain ⟨v, h1, h⟩ := zw h hr
 have hv := hρ x v h1
 unfold zxn at h
 split at h
 ·rename_i t' u
  simp only [zK, Option.map_eq_some_iff] at hv
  obtain ⟨cu, hu, hx⟩ := hv
  split at h
  ·exact absurd h.symm hr
  ·rename_i dsc hn hun
   cases hb : Nat.beq t' t with
   | true =>
    rw [hb] at h
    have htt := nQe hb
    subst htt
    cases ok with
    | true =>
     refine ⟨_, h.symm, .tuple #[cu, .bool true], by simp only [cond_true, zK, zA, hu, Option.map_some], fun w => ?_⟩
     cases dsc <;> first | exact absurd rfl (hn _) | simp [execOp, ← hx, Instr.typeAssert, run_underlying hun]
    | false =>
     refine ⟨_, h.symm, cu, hu, fun w => ?_⟩
     cases dsc <;> first | exact absurd rfl (hn _) | simp [execOp, ← hx, Instr.typeAssert, run_underlying hun]
   | false =>
    rw [hb] at h
    have htt : t' ≠ t := fun e => by subst e; simp at hb
    cases ok with
    | false => exact absurd h.symm hr
    | true =>
     obtain ⟨z, h2, h⟩ := zw h hr
     obtain ⟨c, h3, h4⟩ := zej (σ := σ) h2
     refine ⟨_, h.symm, .tuple #[c, .bool false], by simp only [zK, zA, h3, Option.map_some], fun w => ?_⟩
     cases dsc <;> first | exact absurd rfl (hn _) | simp [execOp, ← hx, Instr.typeAssert, run_underlying hun, htt, h4]
  ·exact absurd h.symm hr
 ·split at h
  ·exact absurd h.symm hr
  ·rename_i dsc hn hun
   cases ok with
   | false => exact absurd h.symm hr
   | true =>
    obtain ⟨z, h2, h⟩ := zw h hr
    obtain ⟨c, h3, h4⟩ := zej (σ := σ) h2
    have e1 := (nQs hv).symm
    refine ⟨_, h.symm, .tuple #[c, .bool false], by simp only [zK, zA, h3, Option.map_some], fun w => ?_⟩
    cases dsc <;> first | exact absurd rfl (hn _) | simp [execOp, e1, Instr.typeAssert, run_underlying hun, h4]
  ·exact absurd h.symm hr
 ·exact absurd h.symm hr
end
section
variable {O : Ow} {σ : Sg} {P : Program} {fr : Fra} {m : Mem} {ρ : Operand → Value} {r : OR} {d : Option Tmp} {ty : Nat} {pos : String} {af : Array Edge} {gd : Option (Nat × Bool)} {w : World}
theorem zs6 (a b : Int) : zy5 a b = a + b := by cases a <;> cases b <;> rfl
theorem zqY (a b : Int) : zw8 a b = a - b := by
 cases a with
 | negSucc a => rfl
 | ofNat a => cases b with
  | negSucc b => rfl
  | ofNat b =>
   show cond (Nat.ble b a) (Int.ofNat (a - b)) (Int.negSucc (b - a - 1)) = (a : Int) - (b : Int)
   cases h : Nat.ble b a with
   | true => exact Int.ofNat_sub (nQl h)
   | false =>
    have h' : ¬ b ≤ a := fun h' => by rw [Nat.ble_eq_true_of_le h'] at h; cases h
    show Int.negSucc (b - a - 1) = _
    rw [Int.negSucc_eq]
    omega
theorem zl7 (a b : Nat) : Nat.blt a b = decide (a < b) := by
 cases h : Nat.blt a b with
 | true => simp [qm h]
 | false =>
  have : ¬ a < b := fun h' => by rw [zaW h'] at h; cases h
  simp [this]
theorem zho (a b : Int) : ltI a b = decide (a < b) := by
 cases a with
 | negSucc a => cases b with
  | negSucc b =>
   show Nat.blt b a = _
   rw [zl7]
   exact decide_eq_decide.2 (by rw [Int.negSucc_eq, Int.negSucc_eq]; omega)
  | ofNat b => exact (decide_eq_true (by rw [Int.negSucc_eq]; have : (0 : Int) ≤ Int.ofNat b := Int.natCast_nonneg b; omega)).symm
 | ofNat a => cases b with
  | negSucc b => exact (decide_eq_false (by rw [Int.negSucc_eq]; have : (0 : Int) ≤ Int.ofNat a := Int.natCast_nonneg a; omega)).symm
  | ofNat b =>
   show Nat.blt a b = _
   rw [zl7]
   exact decide_eq_decide.2 (by show a < b ↔ (a : Int) < (b : Int); omega)
theorem zhK (a b : Nat) : Nat.beq a b = decide (a = b) := by
 cases h : Nat.beq a b with
 | true => simp [nQe h]
 | false =>
  have : a ≠ b := fun e => by subst e; simp at h
  simp [this]
theorem zkt (a b : Int) : eqI a b = decide (a = b) := by
 cases a <;> cases b
 ·show Nat.beq _ _ = _
  rw [zhK]; exact decide_eq_decide.2 Int.ofNat_inj.symm
 ·rfl
 ·rfl
 ·show Nat.beq _ _ = _
  rw [zhK]; exact decide_eq_decide.2 (by simp)
theorem zol (b : Bool) : nt b = !b := by cases b <;> rfl
theorem zhX (k : IntKind) (n : Int) : zkM k n = k.wrap n := by
 unfold zkM
 split
 ·rename_i m
  cases h : Nat.blt m 9223372036854775808 with
  | false => rfl
  | true =>
   have h := qm h
   show Int.ofNat m = _
   have e : ((Int.ofNat m) % (18446744073709551616 : Int)) = Int.ofNat m := Int.emod_eq_of_lt (Int.natCast_nonneg m) (by show (m : Int) < _; omega)
   have e2 : decide ((Int.ofNat m) ≥ (9223372036854775808 : Int)) = false := decide_eq_false (by show ¬ ((m : Int) ≥ _); omega)
   have : IntKind.wrap .i64 (Int.ofNat m) = if (true && decide ((Int.ofNat m) % (18446744073709551616 : Int) ≥ (9223372036854775808 : Int))) = true then (Int.ofNat m) % (18446744073709551616 : Int) - (18446744073709551616 : Int) else (Int.ofNat m) % (18446744073709551616 : Int) := rfl
   rw [this, e, e2]; rfl
 ·rfl
theorem jI {k k' : IntKind} {x r : OR} (h : same k k' x = r) (hr : r ≠ .no) : k = k' ∧ x = r := by
 cases k <;> cases k' <;> first | exact ⟨rfl, h⟩ | exact absurd h.symm hr
theorem zne {op : BinOp} {xt : Nat} {k k' : IntKind} {a b : Int} (h : zqk op P xt k a k' b = r) (hr : r ≠ .no) : ∃ c, r = .val (.lit c) ∧ ∀ w, (binOp op xt (.int k a) (.int k' b)).run P w = .ok c w := by
 have gen : ∀ op, zfU op P xt k a k' b = r → ∃ c, r = .val (.lit c) ∧ ∀ w, (binOp op xt (.int k a) (.int k' b)).run P w = .ok c w := fun op h => by
  obtain ⟨c, h1, h2⟩ := yw h hr
  exact ⟨c, h2, jU _ _ h1⟩
 cases op <;> first | exact gen _ h | skip
 ·obtain ⟨rfl, h2⟩ := jI h hr
  exact ⟨_, h2.symm, fun w => by simp [binOp, Op.intArith, zhX, zs6]⟩
 ·obtain ⟨rfl, h2⟩ := jI h hr
  exact ⟨_, h2.symm, fun w => by simp [binOp, Op.intArith, zhX, zqY]⟩
 ·obtain ⟨rfl, h2⟩ := jI h hr
  exact ⟨_, h2.symm, fun w => by simp [binOp, Op.intCmp, zkt]; rfl⟩
 ·obtain ⟨rfl, h2⟩ := jI h hr
  exact ⟨_, h2.symm, fun w => by simp [binOp, Op.intCmp, zkt, zol]; rfl⟩
 ·obtain ⟨rfl, h2⟩ := jI h hr
  exact ⟨_, h2.symm, fun w => by simp [binOp, Op.intCmp, zho]⟩
 ·obtain ⟨rfl, h2⟩ := jI h hr
  exact ⟨_, h2.symm, fun w => by simp [binOp, Op.intCmp, zho, zol]; rw [← decide_not]; exact decide_eq_decide.2 (by omega)⟩
 ·obtain ⟨rfl, h2⟩ := jI h hr
  exact ⟨_, h2.symm, fun w => by simp [binOp, Op.intCmp, zho]⟩
 ·obtain ⟨rfl, h2⟩ := jI h hr
  exact ⟨_, h2.symm, fun w => by simp [binOp, Op.intCmp, zho, zol]; rw [← decide_not]; exact decide_eq_decide.2 (by omega)⟩
theorem zkn {v : Value} {kv : Value → OR} {ki : IntKind → Int → OR} {r : OR} (h : zpa v kv ki = r) : (∃ k n, v = .int k n ∧ ki k n = r) ∨ kv .nilFunc = r := by
 cases v <;> first | exact .inl ⟨_, _, rfl, h⟩ | exact .inr h
theorem ze9 {v : AV} {kv : Value → OR} {ki : IntKind → Int → OR} {r : OR} (h : zko v kv ki = r) : (∃ k n, v = .lit (.int k n) ∧ ki k n = r) ∨ kv .nilFunc = r := by
 cases v with
 | lit v =>
  rcases zkn h with ⟨k, n, rfl, h⟩ | h
  ·exact .inl ⟨k, n, rfl, h⟩
  ·exact .inr h
 | _ => exact .inr h
theorem ziX (op : BinOp) (t : TypeId) (x y : Operand) (k k' : IntKind) (a b : Int) (w : World) : (eqGuard op t x y (.int k a) (.int k' b)).run P w = .ok () w := by
 cases op <;> rfl
theorem zfs {op : BinOp} {b : Bool} {r : OR} (h : zi3 op b = r) (hr : r ≠ .no) : (op = .eql ∧ r = .val (.lit (.bool b))) ∨ (op = .neq ∧ r = .val (.lit (.bool !b))) := by
 unfold zi3 at h
 split at h
 ·exact .inl ⟨rfl, h.symm⟩
 ·exact .inr ⟨rfl, h.symm⟩
 ·exact absurd h.symm hr
theorem yp {t : TypeId} {u v : Value} {b : Bool} {w : World} (h : ∀ n, (Op.equalIn (n + 1) t u v).run P w = .ok b w) : (Op.equal t u v).run P w = .ok b w := h 9999
theorem zmD {t : TypeId} {v c : Value} {a : AV} (h : zaD (P.underlying t) v a = true) (hc : zK σ a = some c) (w : World) :
  (Op.equal t v c).run P w = .ok false w ∧ (Op.equal t c v).run P w = .ok false w := by
 unfold zaD at h
 split at h
 ·rename_i hu
  obtain ⟨e, _, rfl⟩ := yq hc
  exact ⟨yp fun n => by simp [Op.equalIn, run_underlying hu], yp fun n => by simp [Op.equalIn, run_underlying hu]⟩
 ·rename_i hu
  obtain ⟨e, _, _, rfl⟩ := xe hc
  exact ⟨yp fun n => by simp [Op.equalIn, run_underlying hu], yp fun n => by simp [Op.equalIn, run_underlying hu]⟩
 ·rename_i hu
  simp only [zK, Option.map_eq_some_iff] at hc
  obtain ⟨e, _, rfl⟩ := hc
  exact ⟨yp fun n => by simp [Op.equalIn, run_underlying hu], yp fun n => by simp [Op.equalIn, run_underlying hu]⟩
 ·rename_i hu
  simp only [zK, Option.map_eq_some_iff] at hc
  obtain ⟨e, _, rfl⟩ := hc
  exact ⟨yp fun n => by simp [Op.equalIn, run_underlying hu], yp fun n => by simp [Op.equalIn, run_underlying hu]⟩
 ·rename_i hu
  simp only [zK] at hc
  split at hc
  ·cases hc
   exact ⟨yp fun n => by simp [Op.equalIn, run_underlying hu], yp fun n => by simp [Op.equalIn, run_underlying hu]⟩
  ·cases hc
 ·rename_i hu
  simp only [zK, Option.map_eq_some_iff] at hc
  obtain ⟨e, _, rfl⟩ := hc
  exact ⟨yp fun n => by simp [Op.equalIn, run_underlying hu], yp fun n => by simp [Op.equalIn, run_underlying hu]⟩
 ·cases h
theorem xo {t : TypeId} {u v : Value} {b : Bool} {op : BinOp} (hop : op = .eql ∨ op = .neq) (x y : Operand) (w : World) (h : (Op.equal t u v).run P w = .ok b w)
  (hg : (eqGuard op t x y u v).run P w = .ok () w) (hb : binOp .eql t u v = (do pure (.bool (← Op.equal t u v))) ∧ binOp .neq t u v = (do pure (.bool (!(← Op.equal t u v))))) :
  (do eqGuard op t x y u v; binOp op t u v : Sem Value).run P w = .ok (.bool (if op = .eql then b else !b)) w := by
 rcases hop with rfl | rfl
 ·rw [hb.1]; simp [hg, h]
 ·rw [hb.2]; simp [hg, h]
theorem vP {t : TypeId} {v c : Value} {a : AV} (h : zaD (P.underlying t) v a = true) (hc : zK σ a = some c) (x y : Operand) (op : BinOp) (hop : op = .eql ∨ op = .neq) (w : World) :
  (do eqGuard op t x y v c; binOp op t v c : Sem Value).run P w = .ok (.bool (if op = .eql then false else true)) w ∧ (do eqGuard op t x y c v; binOp op t c v : Sem Value).run P w = .ok (.bool (if op = .eql then false else true)) w := by
 obtain ⟨h1, h2⟩ := zmD h hc w
 unfold zaD at h
 split at h
 ·obtain ⟨e, _, rfl⟩ := yq hc
  exact ⟨xo hop x y w h1 (by rcases hop with rfl | rfl <;> rfl) ⟨rfl, rfl⟩, xo hop x y w h2 (by rcases hop with rfl | rfl <;> rfl) ⟨rfl, rfl⟩⟩
 ·obtain ⟨e, _, _, rfl⟩ := xe hc
  exact ⟨xo hop x y w h1 (by rcases hop with rfl | rfl <;> rfl) ⟨rfl, rfl⟩, xo hop x y w h2 (by rcases hop with rfl | rfl <;> rfl) ⟨rfl, rfl⟩⟩
 ·simp only [zK, Option.map_eq_some_iff] at hc
  obtain ⟨e, _, rfl⟩ := hc
  exact ⟨xo hop x y w h1 (by rcases hop with rfl | rfl <;> rfl) ⟨rfl, rfl⟩, xo hop x y w h2 (by rcases hop with rfl | rfl <;> rfl) ⟨rfl, rfl⟩⟩
 ·simp only [zK, Option.map_eq_some_iff] at hc
  obtain ⟨e, _, rfl⟩ := hc
  exact ⟨xo hop x y w h1 (by rcases hop with rfl | rfl <;> rfl) ⟨rfl, rfl⟩, xo hop x y w h2 (by rcases hop with rfl | rfl <;> rfl) ⟨rfl, rfl⟩⟩
 ·simp only [zK] at hc
  split at hc
  ·cases hc
   exact ⟨xo hop x y w h1 (by rcases hop with rfl | rfl <;> rfl) ⟨rfl, rfl⟩, xo hop x y w h2 (by rcases hop with rfl | rfl <;> rfl) ⟨rfl, rfl⟩⟩
  ·cases hc
 ·simp only [zK, Option.map_eq_some_iff] at hc
  obtain ⟨e, _, rfl⟩ := hc
  exact ⟨xo hop x y w h1 (by rcases hop with rfl | rfl <;> rfl) ⟨rfl, rfl⟩, xo hop x y w h2 (by rcases hop with rfl | rfl <;> rfl) ⟨rfl, rfl⟩⟩
 ·cases h
theorem zpU {t : TypeId} {a b : AV} {ca cb : Value} {op : BinOp} (h : zpV P op t a b = r) (hr : r ≠ .no) (ha : zK σ a = some ca) (hb : zK σ b = some cb) (x y : Operand) :
  ∃ c, r = .val (.lit c) ∧ ∀ w, (do eqGuard op t x y ca cb; binOp op t ca cb : Sem Value).run P w = .ok c w := by
 have key : (∃ i o i' o', a = .ptr i o ∧ b = .ptr i' o' ∧ (match P.underlying t with
   | some (.pointer e) => ob (szO P e) fun s => cond (Nat.beq i i' && !Nat.beq s 0) (zi3 op (Nat.beq o o')) .no
   | _ => .no) = r) ∨ (∃ v, a = .lit v ∧ cond (zaD (P.underlying t) v b) (zi3 op false) .no = r) ∨ (∃ v, b = .lit v ∧ cond (zaD (P.underlying t) v a) (zi3 op false) .no = r) := by
  unfold zpV at h
  split at h
  ·exact .inl ⟨_, _, _, _, rfl, rfl, h⟩
  ·exact .inr (.inl ⟨_, rfl, h⟩)
  ·exact .inr (.inr ⟨_, rfl, h⟩)
  ·exact absurd h.symm hr
 clear h
 rcases key with ⟨i, o, i', o', rfl, rfl, h⟩ | ⟨v, rfl, h⟩ | ⟨v, rfl, h⟩
 ·split at h
  ·rename_i el hu
   obtain ⟨s, h1, h⟩ := zw h hr
   obtain ⟨h2, h3⟩ := z6 h hr
   simp only [Bool.and_eq_true, Bool.not_eq_true'] at h2
   have hbb := nQe h2.1
   subst hbb
   have hs : s ≠ 0 := fun e => by subst e; simp at h2
   obtain ⟨e, he, rfl⟩ := yq ha
   obtain ⟨e', he', rfl⟩ := yq hb
   rw [he] at he'; cases he'
   have key : ∀ w, (Op.equal t (.pointer (some ⟨e.bl, o + e.dl, none⟩)) (.pointer (some ⟨e.bl, o' + e.dl, none⟩))).run P w = .ok (Nat.beq o o') w := fun w => yp fun n => by
    rw [zhK]
    by_cases ho : o = o'
    ·subst ho; simp [Op.equalIn, run_underlying hu, yH h1, hs, sameAddr]
    ·simp [Op.equalIn, run_underlying hu, yH h1, hs, sameAddr, ho]
   rcases zfs h3 hr with ⟨rfl, h9⟩ | ⟨rfl, h9⟩
   ·exact ⟨_, h9, fun w => xo (.inl rfl) x y w (key w) rfl ⟨rfl, rfl⟩⟩
   ·exact ⟨_, h9, fun w => xo (.inr rfl) x y w (key w) rfl ⟨rfl, rfl⟩⟩
  ·exact absurd h.symm hr
 ·obtain ⟨h2, h3⟩ := z6 h hr
  cases ha
  rcases zfs h3 hr with ⟨rfl, h9⟩ | ⟨rfl, h9⟩
  ·exact ⟨_, h9, fun w => (vP h2 hb x y _ (.inl rfl) w).1⟩
  ·exact ⟨_, h9, fun w => (vP h2 hb x y _ (.inr rfl) w).1⟩
 ·obtain ⟨h2, h3⟩ := z6 h hr
  cases hb
  rcases zfs h3 hr with ⟨rfl, h9⟩ | ⟨rfl, h9⟩
  ·exact ⟨_, h9, fun w => (vP h2 ha x y _ (.inl rfl) w).2⟩
  ·exact ⟨_, h9, fun w => (vP h2 ha x y _ (.inr rfl) w).2⟩
theorem zgg {t : TypeId} {a b : AV} {ca cb : Value} {op : BinOp} {x y : Operand} (h : zhj P op t x y a b = r) (hr : r ≠ .no) (ha : zK σ a = some ca) (hb : zK σ b = some cb) :
  ∃ c, r = .val (.lit c) ∧ ∀ w, (do eqGuard op t x y ca cb; binOp op t ca cb : Sem Value).run P w = .ok c w := by
 unfold zhj at h
 split at h
 ·rename_i va vb h1 h2
  have e1 := (ziu (σ := σ) h1).symm.trans ha
  have e2 := (ziu (σ := σ) h2).symm.trans hb
  cases e1; cases e2
  obtain ⟨c, h3, h4⟩ := yw h hr
  exact ⟨c, h4, jU _ _ h3⟩
 ·exact zpU h hr ha hb x y
theorem zls (hρ : xp σ fr ρ) {op : BinOp} {t t2 : Nat} {x y : Operand} (h : zuP op t x y P ty fr m = r) (hr : r ≠ .no) : ∃ v, r = .val v ∧ zal σ P (execOp ρ ⟨d, .binOp op t x y t2, ty, pos, af, gd⟩) v := by
 obtain ⟨u, h1, h⟩ := zw h hr
 obtain ⟨v, h2, h⟩ := zw h hr
 have hu := hρ x u h1
 have hv := hρ y v h2
 have fin : (∃ c, r = .val (.lit c) ∧ ∀ w, (do eqGuard op t x y (ρ x) (ρ y); binOp op t (ρ x) (ρ y) : Sem Value).run P w = .ok c w) → ∃ v, r = .val v ∧ zal σ P (execOp ρ ⟨d, .binOp op t x y t2, ty, pos, af, gd⟩) v := by
  rintro ⟨c, h3, h4⟩
  refine ⟨_, h3, c, rfl, fun w => ?_⟩
  have := h4 w
  simp only [execOp]
  simp only [Sem.run_bind] at this ⊢
  rw [this]; rfl
 apply fin
 unfold zoj at h
 rcases ze9 h with ⟨k, a, rfl, h⟩ | h
 ·rcases ze9 h with ⟨k', b, rfl, h⟩ | h
  ·obtain ⟨c, h3, h4⟩ := zne h hr
   refine ⟨c, h3, fun w => ?_⟩
   have e1 := (nQs hu).symm
   have e2 := (nQs hv).symm
   rw [e1, e2]
   simp only [Sem.run_bind, ziX, Result.andThen_ok, h4]
  ·exact zgg h hr hu hv
 ·exact zgg h hr hu hv
theorem zrl {v : AV} {n : Nat} (h : zuI v = some n) : ∃ q, v = .lit (.int q (.ofNat n)) := by
 unfold zuI at h
 split at h
 ·cases h; exact ⟨_, rfl⟩
 ·cases h
theorem vw (hρ : xp σ fr ρ) {x : Option Operand} {dflt n : Nat} (h : kW fr x dflt = some n) : (x = none ∧ n = dflt) ∨ ∃ y q, x = some y ∧ ρ y = .int q (.ofNat n) := by
 unfold kW at h
 split at h
 ·cases h; exact .inl ⟨rfl, rfl⟩
 ·rename_i y
  split at h
  ·rename_i v hv
   obtain ⟨q, rfl⟩ := zrl h
   exact .inr ⟨y, q, rfl, (nQs (hρ y _ hv)).symm⟩
  ·cases h
theorem kF {lo hi : Option Operand} {isS : Bool} {n c l h : Nat} (h1 : (lo = none ∧ l = 0) ∨ ∃ y q, lo = some y ∧ ρ y = .int q (.ofNat l)) (h2 : (hi = none ∧ h = n) ∨ ∃ y q, hi = some y ∧ ρ y = .int q (.ofNat h)) (hl : l ≤ h) (hc : h ≤ c) (w : World) :
  (Instr.sliceBounds isS n c (lo.map ρ) (hi.map ρ) none).run P w = .ok (l, h, c) w := by
 have b1 : ∀ (q : IntKind) (i y : Nat) (code : BoundsCode), i ≤ y → (Instr.sliceBound (.int q (i : Int)) y code).run P w = .ok i w := fun q i y code hi => by
  simp [Instr.sliceBound, asIntOf, hi]
 rcases h1 with ⟨rfl, rfl⟩ | ⟨y, q, rfl, e1⟩ <;> rcases h2 with ⟨rfl, rfl⟩ | ⟨y', q', rfl, e2⟩
 ·simp [Instr.sliceBounds]
 ·simp [Instr.sliceBounds, e2, b1 _ _ _ _ hc]
 ·simp [Instr.sliceBounds, e1, b1 _ _ _ _ hl]
 ·simp [Instr.sliceBounds, e1, e2, b1 _ _ _ _ hl, b1 _ _ _ _ hc]
end
section
variable {O : Ow} {σ : Sg} {P : Program} {fr : Fra} {m : Mem} {ρ : Operand → Value} {r : OR} {d : Option Tmp} {ty : Nat} {pos : String} {af : Array Edge} {gd : Option (Nat × Bool)} {w : World}
theorem zyP {a b c : Bool} (h : (a && b && c) = true) : a = true ∧ b = true ∧ c = true := by
 simp only [Bool.and_eq_true] at h; exact ⟨h.1.1, h.1.2, h.2⟩
theorem qZ {a b : Nat} (h : Nat.ble a b = true) : a ≤ b := nQl h
theorem zyO {a b c d : Bool} (h : (a && b && c && d) = true) : a = true ∧ b = true ∧ c = true ∧ d = true := by
 simp only [Bool.and_eq_true] at h; exact ⟨h.1.1.1, h.1.1.2, h.1.2, h.2⟩
theorem zgl (hρ : xp σ fr ρ) {t : Nat} {x : Operand} {lo hi mx : Option Operand} (h : zht t x lo hi mx P ty fr m = r) (hr : r ≠ .no) : ∃ v, r = .val v ∧ zal σ P (execOp ρ ⟨d, .slice t x lo hi mx, ty, pos, af, gd⟩) v := by
 cases mx with
 | some y => exact absurd h.symm hr
 | none =>
 obtain ⟨v, h1, h⟩ := zw h hr
 have hv := hρ x v h1
 cases v with
 | slc b o n c s' =>
  obtain ⟨el, h3, h⟩ := qJ h hr
  obtain ⟨s, h5, h⟩ := zw h hr
  obtain ⟨l, h6, h⟩ := zw h hr
  obtain ⟨k, h7, h⟩ := zw h hr
  obtain ⟨h4, h⟩ := z6 h hr
  obtain ⟨g1, g2, g3, g4⟩ := zyO h4
  have g1 := qZ g1; have g2 := qZ g2
  have g4 := nQe g4
  subst g4
  have g3 : l < c ∨ l = 1 := by
   simp only [Bool.or_eq_true] at g3
   rcases g3 with g3 | g3
   ·exact .inl (qm g3)
   ·exact .inr (nQe g3)
  obtain ⟨e, he, ⟨rfl, hen⟩, hc⟩ := vu hv (.inr (by omega))
  have hb := kF (P := P) (isS := true) (n := n) (c := c + e.kp) (vw hρ h6) (vw hρ h7) g1 (by omega)
  by_cases hlc : l = c
  ·have h1 : l = 1 := by omega
   subst h1
   have hk : k = 1 := by omega
   subst hk
   subst hlc
   refine ⟨_, h.symm, _, zab he (by show o + 1 * e.sz + (1 - 1) * e.sz = e.en; omega), fun w => ?_⟩
   have hb := hb w
   by_cases hkp : e.kp = 0
   ·have e3 : adr e.kp (o.add (Nat.mul 1 e.sz)) (Nat.sub 1 1) (Nat.sub 1 1) e.sz = o := by
     unfold adr
     rw [if_pos ⟨rfl, rfl, hkp⟩]
     show o + 1 * e.sz - e.sz = o
     omega
    rw [e3]
    rw [hkp] at hc hb ⊢
    simp [execOp, hc, Instr.sliceAt, Instr.slice, run_underlying h3, hb, yH h5]
   ·have e3 : adr e.kp (o.add (Nat.mul 1 e.sz)) (Nat.sub 1 1) (Nat.sub 1 1) e.sz = o + 1 * e.sz := by
     unfold adr
     rw [if_neg (fun hh => hkp hh.2.2)]
     rfl
    rw [e3]
    have e1 : o + 1 * e.sz + e.dl = o + e.dl + e.sz := by omega
    have e2 : 1 + e.kp - 1 = e.kp := by omega
    simp [execOp, hc, Instr.sliceAt, Instr.slice, run_underlying h3, hb, yH h5, hkp, qV, e1, e2]
  have g3 : l < c := by omega
  have e0 : o + l * e.sz + (c - l) * e.sz = e.en := by
   rw [← hen, Nat.sub_mul, Nat.add_assoc]
   have : l * e.sz ≤ c * e.sz := Nat.mul_le_mul_right _ (Nat.le_of_lt g3)
   omega
  refine ⟨_, h.symm, _, xw he e0 (.inr (.inr (by show c - l ≠ 0; omega))), fun w => ?_⟩
  have hb := hb w
  have hne : ¬ c + e.kp = l := by omega
  have e1 : o + l * e.sz + e.dl = o + e.dl + l * e.sz := by omega
  have e2 : c + e.kp - l = c - l + e.kp := by omega
  simp [execOp, hc, Instr.sliceAt, Instr.slice, run_underlying h3, hb, yH h5, hne, qV, e1, e2]
 | ptr b o =>
  obtain ⟨n, el, h3, h⟩ := zaY h hr
  obtain ⟨s, h5, h⟩ := zw h hr
  obtain ⟨l, h6, h⟩ := zw h hr
  obtain ⟨k, h7, h⟩ := zw h hr
  obtain ⟨h4, h⟩ := z6 h hr
  simp only [Bool.and_eq_true] at h4
  have g1 := qZ h4.1; have g2 := qZ h4.2
  obtain ⟨e, he, hc⟩ := yq hv
  refine ⟨_, h.symm, .slice (some ⟨e.bl, (cond (Nat.beq n l) o (o + l * s)) + e.dl, none⟩) (k - l) (n - l), (by show (σ b).map _ = _; rw [he]; rfl), fun w => ?_⟩
  have hb := kF (P := P) (isS := false) (n := n) (c := n) (vw hρ h6) (vw hρ h7) g1 g2 w
  have e1 : o + l * s + e.dl = o + e.dl + l * s := by omega
  by_cases hne : n = l
  ·subst hne
   simp [execOp, hc, Instr.sliceAt, Instr.sureAddr, run_underlying h3, hb, yH h5, qV]
  ·have hf : Nat.beq n l = false := by
    cases hq : Nat.beq n l with
    | false => rfl
    | true => exact absurd (nQe hq) hne
   simp [execOp, hc, Instr.sliceAt, Instr.sureAddr, run_underlying h3, hb, yH h5, hne, hf, qV, e1]
 | asl b o n c =>
  obtain ⟨el, h3, h⟩ := qJ h hr
  obtain ⟨s, h5, h⟩ := zw h hr
  obtain ⟨l, h6, h⟩ := zw h hr
  obtain ⟨k, h7, h⟩ := zw h hr
  obtain ⟨h4, h⟩ := z6 h hr
  simp only [Bool.and_eq_true] at h4
  have g1 := qZ h4.1; have g2 := qZ h4.2
  obtain ⟨e, he, hc⟩ := kO hv
  refine ⟨_, h.symm, .slice (some ⟨e.bl, (cond (Nat.beq c l) o (o + l * s)) + e.dl, none⟩) (k - l) (c - l), (by show (σ b).map _ = _; rw [he]; rfl), fun w => ?_⟩
  have hb := kF (P := P) (isS := true) (n := n) (c := c) (vw hρ h6) (vw hρ h7) g1 g2 w
  have e1 : o + l * s + e.dl = o + e.dl + l * s := by omega
  by_cases hne : c = l
  ·subst hne
   simp [execOp, hc, Instr.sliceAt, Instr.slice, run_underlying h3, hb, yH h5, qV]
  ·have hf : Nat.beq c l = false := by
    cases hq : Nat.beq c l with
    | false => rfl
    | true => exact absurd (nQe hq) hne
   simp [execOp, hc, Instr.sliceAt, Instr.slice, run_underlying h3, hb, yH h5, hne, hf, qV, e1]
 | lit u =>
  have hu := (nQs hv).symm
  have fin : ∀ c, r = .val (.lit c) → (∀ w, (Instr.sliceAt t u (lo.map ρ) (hi.map ρ) none).run P w = .ok c w) → ∃ v, r = .val v ∧ zal σ P (execOp ρ ⟨d, .slice t x lo hi none, ty, pos, af, gd⟩) v := by
   intro c h4 h5
   exact ⟨_, h4, c, rfl, fun w => by simp [execOp, hu, h5]⟩
  cases lo with
  | none => cases hi with
   | none =>
    obtain ⟨c, h2, h3⟩ := yw h hr
    exact fin c h3 (jU _ _ h2)
   | some hi =>
    obtain ⟨k, h2, h⟩ := vj h hr
    have e2 := (nQs (hρ hi _ h2)).symm
    obtain ⟨c, h4, h3⟩ := yw h hr
    exact fin c h3 fun w => by simpa [e2] using jU _ _ h4 w
  | some lo =>
   cases hi with
   | none =>
    obtain ⟨l, h2, h⟩ := vj h hr
    have e2 := (nQs (hρ lo _ h2)).symm
    obtain ⟨c, h4, h3⟩ := yw h hr
    exact fin c h3 fun w => by simpa [e2] using jU _ _ h4 w
   | some hi =>
    obtain ⟨l, h2, h⟩ := vj h hr
    have e2 := (nQs (hρ lo _ h2)).symm
    obtain ⟨k, h5, h⟩ := vj h hr
    have e5 := (nQs (hρ hi _ h5)).symm
    obtain ⟨c, h4, h3⟩ := yw h hr
    exact fin c h3 fun w => by simpa [e2, e5] using jU _ _ h4 w
 | _ => exact absurd h.symm hr
theorem znR {o : xD} {k : CS → OR} (h : zxe o k = r) (hr : r ≠ .no) : ∃ c ro, o = .cells c ro ∧ k c = r := by
 cases o <;> first | exact absurd h.symm hr | exact ⟨_, _, rfl, h⟩
theorem zhl {hp : Hp} {b : Nat} {k : CS → OR} (h : oR hp b k = r) (hr : r ≠ .no) : ∃ c ro, qz hp b = some (.cells c ro) ∧ k c = r := by
 unfold oR at h
 cases ho : qz hp b with
 | none => rw [ho] at h; exact absurd h.symm hr
 | some o =>
  rw [ho] at h
  obtain ⟨c, ro, rfl, h2⟩ := znR h hr
  exact ⟨c, ro, rfl, h2⟩
theorem zbl {w : World} {b i : Nat} {arr : Array Value} {el : TypeId} {fz : Nat × Nat} {v : Value} (h : w.heap[b]? = some (.cells arr el fz)) (hv : arr[i]? = some v) : w.cell? ⟨b, i, none⟩ = some v := by
 simp [World.cell?, h, hv]
theorem zit {hp : Hp} {nx : Nat} (hw : RelW O σ hp nx w) {b o t : Nat} {c : CS} {ro : Bool} {e : Loc} (hb : qz hp b = some (.cells c ro)) (he : σ b = some e) (h : zhi P t o c = r) (hr : r ≠ .no) :
  ∃ v, r = .val v ∧ ∃ cv, zK σ v = some cv ∧ (loadVar t ⟨e.bl, o + e.dl, none⟩).run P w = .ok cv w := by
 obtain ⟨arr, el, fz, h1, _, h2⟩ := hw.obj b _ e hb he
 obtain ⟨ag, h3, h⟩ := zw h hr
 cases ag with
 | true =>
  obtain ⟨l, h4, h⟩ := zw h hr
  obtain ⟨cs, h5, h6, h7⟩ := zba h2 _ _ _ h4
  refine ⟨_, h.symm, .agg cs.toArray, by simp only [zK, h5, Option.map_some], ?_⟩
  obtain ⟨q1, q2⟩ := zqw h3 w
  have hl : (loadCells ⟨e.bl, o + e.dl, none⟩ (szT P t)).run P w = .ok cs.toArray w := by
   rw [← h6]
   exact run_loadCells_list (P := P) w ⟨e.bl, o + e.dl, none⟩ cs (fun j v hj => by
    rw [qV]
    exact zbl h1 (by have := h7 j v hj; rwa [show o + e.dl + j = o + j + e.dl by omega]))
  simp [loadVar, q1, q2, hl]
 | false =>
  obtain ⟨v, h4, h5⟩ := zaL h hr
  obtain ⟨_, cv, h6, h7⟩ := h2.2 _ _ h4
  refine ⟨v, h5, cv, h6, ?_⟩
  simp [loadVar, zqx h3 w, load, Sem.run, zbl h1 h7]
theorem zoZ (hw : RelW O σ m.hp m.nx w) (hρ : xp σ fr ρ) {t : Nat} {x : Operand} (h : zo0 t x P ty fr m = r) (hr : r ≠ .no) : ∃ v, r = .val v ∧ ∃ c, zK σ v = some c ∧ (execOp ρ ⟨d, .load t x, ty, pos, af, gd⟩).run P w = .ok (.value c) w := by
 obtain ⟨b, o, h1, h⟩ := zb8 h hr
 obtain ⟨c, ro, h2, h⟩ := zhl h hr
 obtain ⟨e, he, hc⟩ := yq (hρ x _ h1)
 obtain ⟨v, h3, cv, h4, h5⟩ := zit hw h2 he h hr
 exact ⟨v, h3, cv, h4, by simp [execOp, hc, Instr.loadAt, Instr.sureAddr, h5]⟩
end
section
variable {O : Ow} {σ : Sg} {P : Program} {fr : Fra} {m : Mem} {ρ : Operand → Value} {r : OR} {d : Option Tmp} {ty : Nat} {pos : String} {af : Array Edge} {gd : Option (Nat × Bool)} {w : World}
theorem za7 {l : List AV} {c : CS} (h : mkC l = some c) (i : Nat) : xW c i = l[i]? := by
 unfold mkC at h
 cases h1 : Nat.ble (len l) 12 with
 | true => rw [h1] at h; cases h; exact nth_eq l i
 | false =>
  rw [h1] at h
  cases h2 : Nat.ble (len l) 256 with
  | false => rw [h2] at h; cases h
  | true =>
   rw [h2] at h; cases h
   have hl := qZ h2
   rw [yz] at hl
   show qA (jw l 0 (xL 8)) i = _
   rw [zbd l 0 _ (by omega) i, ziQ]
   split
   ·simp
   ·rename_i hn
    rw [List.getElem?_eq_none (by omega)]
theorem zj7 {l : List AV} {c : CS} (h : mkC l = some c) : tyC c = none := by
 unfold mkC at h
 cases h1 : Nat.ble (len l) 12 with
 | true => rw [h1] at h; cases h; rfl
 | false =>
  rw [h1] at h
  cases h2 : Nat.ble (len l) 256 with
  | false => rw [h2] at h; cases h
  | true => rw [h2] at h; cases h; rfl
theorem zd7 {l : List AV} {c : CS} (h : mkC l = some c) (el : TypeId) : TyR c el := fun t ht => by rw [zj7 h] at ht; cases ht
theorem zli {t : Nat} {l : List AV} {c : CS} (h : zuJ t l = some c) : (∀ i, xW c i = l[i]?) ∧ TyR c t := by
 unfold zuJ at h
 cases h1 : Nat.ble (len l) 12 with
 | true => rw [h1] at h; cases h; exact ⟨nth_eq l, fun t ht => by cases ht; rfl⟩
 | false => rw [h1] at h; exact ⟨za7 h, zd7 h t⟩
theorem zlj {bt : Option Nat} {el : TypeId} {l : List AV} {c : CS} (h : zxz bt l = some c) (hb : ∀ t, bt = some t → t = el) : (∀ i, xW c i = l[i]?) ∧ TyR c el := by
 cases bt with
 | none => exact ⟨za7 h, zd7 h el⟩
 | some t => cases h; exact ⟨nth_eq l, fun t' ht => by cases ht; exact (hb t rfl).symm⟩
theorem kK {o : xD} {v : AV} (h : zde o v m = r) (hr : r ≠ .no) : m.nx < 16384 ∧ r = .mem v (hset o m.hp m.nx) (m.nx + 1) := by
 unfold zde at h
 cases h1 : Nat.blt m.nx 16384 with
 | false => rw [h1] at h; exact absurd h.symm hr
 | true => rw [h1] at h; exact ⟨qm h1, h.symm⟩
theorem zeM {l : List AV} {v : AV} (h : zmF l v m = r) (hr : r ≠ .no) : ∃ c, mkC l = some c ∧ m.nx < 16384 ∧ r = .mem v (hset (.cells c false) m.hp m.nx) (m.nx + 1) := by
 obtain ⟨c, h1, h⟩ := zw h hr
 obtain ⟨h2, h3⟩ := kK h hr
 exact ⟨c, h1, h2, h3⟩
def zAQ (σ : Sg) (P : Program) (s : Sem Next) (id : Nat) (v : AV) (o : xD) : Prop :=
 ∃ (ob : Obj) (mk : Nat → Value) (le : Nat → Loc), (∀ bl, (le bl).bl = bl) ∧ (∀ w, s.run P w = .ok (.value (mk w.heap.size)) (w.alloc ob)) ∧
  ∀ (V : FuncId → Prop) bl, σ id = none → zK (xi σ id (le bl)) v = some (mk bl) ∧ ObjR V (xi σ id (le bl)) (le bl) o (some ob)
def NewO (σ : Sg) (P : Program) (s : Sem Next) (m : Mem) (r : OR) : Prop := ∃ v o, m.nx < 16384 ∧ r = .mem v (hset o m.hp m.nx) (m.nx + 1) ∧ zAQ σ P s m.nx v o
theorem zgI {e : Loc} {l : List AV} {cs : List Value} {c : CS} (hl : zA σ l = some cs) (hc : ∀ i, xW c i = l[i]?) (h0 : e.dl = 0) (hen : e.en = cs.length) (hkp : e.kp = 0) : CellR σ e c cs.toArray := by
 refine ⟨by rw [h0, hen, hkp]; simp, fun i v hv => ?_⟩
 rw [hc] at hv
 obtain ⟨cv, h1, h2⟩ := yf hl i v hv
 refine ⟨?_, cv, h1, by rw [h0]; simpa using h2⟩
 rw [hen, ql hl]
 exact (List.getElem?_eq_some_iff.1 hv).1
theorem zeL {s : Sem Next} {l : List AV} {cs : Array Value} {t : TypeId} {c : CS} (hl : zA σ l = some cs.toList) (hrun : ∀ w, s.run P w = .ok (.value (.pointer (some ⟨w.heap.size, 0, none⟩))) (w.alloc (.cells cs t))) (hc : ∀ i, xW c i = l[i]?) (ht : TyR c t) (h : zde (.cells c false) (.ptr m.nx 0) m = r) (hr : r ≠ .no) : NewO σ P s m r := by
 obtain ⟨h2, h3⟩ := kK h hr
 refine ⟨_, _, h2, h3, .cells cs t, fun bl => .pointer (some ⟨bl, 0, none⟩), fun bl => ⟨bl, 0, 0, 1, cs.size⟩, fun _ => rfl, hrun, fun V bl hn => ⟨?_, cs, t, (0, 0), rfl, ⟨fun _ => rfl, ht, fun _ => rfl⟩, ?_⟩⟩
 ·show (xi σ m.nx _ m.nx).map _ = _
  rw [qe]; rfl
 ·have := zgI (σ := xi σ m.nx ⟨bl, 0, 0, 1, cs.size⟩) (e := ⟨bl, 0, 0, 1, cs.size⟩) (xx (xb hn) _ _ hl) hc rfl (by simp) rfl
  simpa using this
theorem zmE {s : Sem Next} {l : List AV} {cs : Array Value} {t : TypeId} (hl : zA σ l = some cs.toList) (hrun : ∀ w, s.run P w = .ok (.value (.pointer (some ⟨w.heap.size, 0, none⟩))) (w.alloc (.cells cs t))) (h : zmF l (.ptr m.nx 0) m = r) (hr : r ≠ .no) : NewO σ P s m r := by
 obtain ⟨c, h1, h⟩ := zw h hr
 exact zeL hl hrun (za7 h1) (zd7 h1 t) h hr
theorem zev (t : TypeId) (cs : Array Value) (w : World) : (newRow t cs).run P w = .ok ⟨w.heap.size, 0, none⟩ (w.alloc (.cells cs t)) := rfl
theorem zb6 {t : Nat} {l : List AV} (h : jH P t = some l) : ∃ z, zA σ l = some z.cells.toList ∧ l = zbN z.cells ∧ ∀ w, (zeroValue t).run P w = .ok z w := by
 unfold jH at h
 cases hi : P.info? t with
 | none => rw [hi] at h; cases h
 | some i =>
  rw [hi] at h
  have h' : (match i.zero with | some z => some (zbN z.cells) | none => none) = some l := h
  cases hz : i.zero with
  | none => rw [hz] at h'; cases h'
  | some z =>
   rw [hz] at h'
   cases h'
   exact ⟨z, kj _, rfl, fun w => by simp [zeroValue, typeInfo, hi, hz]⟩
theorem zgt {t : Nat} (h : zo5 t P ty fr m = r) (hr : r ≠ .no) : NewO σ P (execOp ρ ⟨d, .alloc t, ty, pos, af, gd⟩) m r := by
 obtain ⟨l, h1, h⟩ := zw h hr
 obtain ⟨z, h2, _, h3⟩ := zb6 (σ := σ) h1
 obtain ⟨c, h4, h⟩ := zw h hr
 refine zeL (cs := z.cells) (t := t) h2 (fun w => ?_) (zli h4).1 (zli h4).2 h hr
 simp [execOp, Instr.alloc, h3, newVar, zev]
theorem zbV {v : AV} {c : Value} (h : zK σ v = some c) : zA σ (cellsOf v) = some c.cells.toList := by
 cases v with
 | lit u =>
  have e := nQs h
  subst e
  cases u <;> first | rfl | exact kj _
 | agg l =>
  simp only [zK, Option.map_eq_some_iff] at h
  obtain ⟨cs, h1, rfl⟩ := h
  show zA σ l = _
  rw [h1]; simp [Value.cells]
 | ptr b o => obtain ⟨e, he, rfl⟩ := yq h; show zA σ [_] = _; simp only [zA, h]; rfl
 | slc b o n k s => obtain ⟨e, he, _, rfl⟩ := xe h; show zA σ [_] = _; simp only [zA, h]; rfl
 | asl b o n k => obtain ⟨e, he, rfl⟩ := kO h; show zA σ [_] = _; simp only [zA, h]; rfl
 | map q =>
  have h' := h
  simp only [zK, Option.map_eq_some_iff] at h'
  obtain ⟨e, he, rfl⟩ := h'
  show zA σ [_] = _; simp only [zA, h]; rfl
 | tup l =>
  have h' := h
  simp only [zK, Option.map_eq_some_iff] at h'
  obtain ⟨e, he, rfl⟩ := h'
  show zA σ [_] = _; simp only [zA, h]; rfl
 | ifc t u =>
  have h' := h
  simp only [zK, Option.map_eq_some_iff] at h'
  obtain ⟨e, he, rfl⟩ := h'
  show zA σ [_] = _; simp only [zA, h]; rfl
 | fn f a b =>
  have h' := h
  simp only [zK] at h'
  split at h'
  ·cases h'; show zA σ [_] = _; simp only [zA, h]; rfl
  ·cases h'
 | yld l =>
  have h' := h
  simp only [zK, Option.map_eq_some_iff] at h'
  obtain ⟨e, he, rfl⟩ := h'
  show zA σ [_] = _; simp only [zA, h]; rfl
theorem zlr (hρ : xp σ fr ρ) {t : Nat} {x : Operand} (h : zuO x P ty fr m = r) (hr : r ≠ .no) : NewO σ P (execOp ρ ⟨d, .box t x, ty, pos, af, gd⟩) m r := by
 obtain ⟨v, h1, h⟩ := zw h hr
 refine zmE (cs := (ρ x).cells) (t := t) (zbV (hρ x v h1)) (fun w => ?_) h hr
 simp [execOp, Instr.box, newVar, zev]
theorem zdI {t : Nat} {x : Option Operand} (h : zix x P ty fr m = r) (hr : r ≠ .no) : NewO σ P (execOp ρ ⟨d, .makeMap t x, ty, pos, af, gd⟩) m r := by
 cases x with
 | some y => exact absurd h.symm hr
 | none =>
  obtain ⟨h1, h2⟩ := kK h hr
  refine ⟨_, _, h1, h2, .map #[] 0, fun bl => .map (some bl), fun bl => ⟨bl, 0, 0, 1, 0⟩, fun _ => rfl, fun w => ?_, fun V bl hn => ⟨?_, #[], 0, rfl, trivial⟩⟩
  ·simp [execOp, Instr.makeMap, newObj, Sem.run]
   try rfl
  ·show (xi σ m.nx _ m.nx).map _ = _
   rw [qe]; rfl
theorem zhA (vs : List AV) : ∀ (l : List AV) (off : Nat), off ≤ l.length → zhB vs l off = l.take off ++ (vs ++ l.drop (off + vs.length))
 | l, 0, _ => by
  have : zhB vs l 0 = vs ++ l.drop vs.length := by cases l <;> rfl
  rw [this]; simp
 | [], k + 1, h => by simp at h
 | x :: l, k + 1, h => by
  show x :: zhB vs l k = _
  rw [zhA vs l k (by simpa using h)]
  simp [Nat.succ_add]
theorem zpj (vs l : List AV) (off : Nat) (h : off + vs.length ≤ l.length) (i : Nat) : (zhB vs l off)[i]? = if off ≤ i ∧ i < off + vs.length then vs[i - off]? else l[i]? := by
 rw [zhA vs l off (by omega)]
 by_cases h1 : i < off
 ·rw [List.getElem?_append_left (by simp; omega), if_neg (by omega), List.getElem?_take, if_pos h1]
 ·rw [List.getElem?_append_right (by simp; omega)]
  simp only [List.length_take, Nat.min_eq_left (show off ≤ l.length by omega)]
  by_cases h2 : i < off + vs.length
  ·rw [if_pos ⟨by omega, h2⟩, List.getElem?_append_left (by omega)]
  ·rw [if_neg (by omega), List.getElem?_append_right (by omega), List.getElem?_drop]
   congr 1; omega
theorem ziJ (vs l : List AV) (off : Nat) (h : off + vs.length ≤ l.length) : (zhB vs l off).length = l.length := by
 rw [zhA vs l off (by omega)]; simp; omega
theorem zfd (off : Nat) : ∀ (vs : List Value) (k : Nat) (cs : Array Value), ((vs.zipIdx k).foldl (fun cs (c, j) => cs.setIfInBounds (off + j) c) cs).size = cs.size
 | [], k, cs => rfl
 | v :: vs, k, cs => by
  simp only [List.zipIdx_cons, List.foldl_cons]
  rw [zfd off vs (k + 1)]; simp
theorem zgA (off : Nat) : ∀ (vs : List Value) (k : Nat) (cs : Array Value), off + k + vs.length ≤ cs.size → ∀ i,
  ((vs.zipIdx k).foldl (fun cs (c, j) => cs.setIfInBounds (off + j) c) cs)[i]? = if off + k ≤ i ∧ i < off + k + vs.length then vs[i - (off + k)]? else cs[i]?
 | [], k, cs, h, i => by simp; omega
 | v :: vs, k, cs, h, i => by
  have h' : off + (k + 1) + vs.length ≤ (cs.setIfInBounds (off + k) v).size := by rw [Array.size_setIfInBounds]; simp only [List.length_cons] at h; omega
  simp only [List.zipIdx_cons, List.foldl_cons]
  rw [zgA off vs (k + 1) _ h' i]
  simp only [List.length_cons] at h ⊢
  by_cases h1 : off + (k + 1) ≤ i ∧ i < off + (k + 1) + vs.length
  ·rw [if_pos h1, if_pos (by omega)]
   have : i - (off + k) = (i - (off + (k + 1))) + 1 := by omega
   rw [this]; rfl
  ·rw [if_neg h1]
   by_cases h2 : i = off + k
   ·subst h2
    rw [if_pos (by omega)]
    rw [Array.getElem?_setIfInBounds_self_of_lt (by omega)]
    simp
   ·rw [if_neg (by omega), Array.getElem?_setIfInBounds_ne (by omega)]
theorem zec (place : Nat → Option (Nat × Nat)) (hρ : xp σ fr ρ) : ∀ (ps : List (Nat × Operand)) (vs : List (Nat × AV)) (l l' : List AV) (cs : Array Value), kh fr ps = some vs → zfg place l vs = some l' → zA σ l = some cs.toList →
  ∃ cs', Instr.fill place cs (ps.map fun (i, x) => (i, ρ x)) = some cs' ∧ zA σ l' = some cs'.toList
 | [], vs, l, l', cs, h1, h2, h3 => by cases h1; cases h2; exact ⟨cs, rfl, h3⟩
 | (i, x) :: ps, vs, l, l', cs, h1, h2, h3 => by
  simp only [kh] at h1
  cases hx : opd fr x with
  | none => rw [hx] at h1; cases h1
  | some v =>
   cases hp : kh fr ps with
   | none => rw [hx, hp] at h1; cases h1
   | some us =>
    rw [hx, hp] at h1
    cases h1
    simp only [zfg] at h2
    cases hpl : place i with
    | none => rw [hpl] at h2; cases h2
    | some q =>
     obtain ⟨off, size⟩ := q
     rw [hpl] at h2
     have h2' : cond (Nat.beq (cellsOf v).length size && Nat.ble (Nat.add off size) l.length) (zfg place (zhB (cellsOf v) l off) us) none = some l' := h2
     cases hb : (Nat.beq (cellsOf v).length size && Nat.ble (Nat.add off size) l.length) with
     | false => rw [hb] at h2'; cases h2'
     | true =>
      rw [hb] at h2'
      simp only [Bool.and_eq_true] at hb
      have b1 := nQe hb.1
      have b2 : off + size ≤ l.length := qZ hb.2
      have hv := zbV (hρ x v hx)
      have hlv := ql hv
      have hl := ql h3
      simp only [Array.length_toList] at hl hlv
      have hc : zA σ (zhB (cellsOf v) l off) = some ((((ρ x).cells.toList.zipIdx 0).foldl (fun cs (c, j) => cs.setIfInBounds (off + j) c) cs)).toList := by
       refine zcL ?_ fun j u hj => ?_
       ·rw [Array.length_toList, zfd, ziJ _ _ _ (by omega), hl]
       ·rw [zpj _ _ _ (by omega)] at hj
        rw [Array.getElem?_toList, zgA off _ 0 cs (by simp; omega)]
        simp only [Nat.add_zero, Array.length_toList]
        rw [← hlv] at hj
        split at hj
        ·rename_i hin
         rw [if_pos hin]
         exact yf hv _ _ hj
        ·rename_i hin
         rw [if_neg hin]
         have := yf h3 _ _ hj
         simpa using this
      obtain ⟨cs', e1, e2⟩ := zec place hρ ps us _ l' _ hp h2' hc
      refine ⟨cs', ?_, e2⟩
      simp only [List.map, Instr.fill, hpl]
      have n1 : ¬ ((ρ x).cells.size ≠ size || off + (ρ x).cells.size > cs.size) = true := by
       simp; omega
      rw [if_neg n1]
      rw [← e1]
      congr 1
      rw [← Array.foldl_toList]
      simp
end
section
variable {O : Ow} {σ : Sg} {P : Program} {fr : Fra} {m : Mem} {ρ : Operand → Value} {r : OR} {d : Option Tmp} {ty : Nat} {pos : String} {af : Array Edge} {gd : Option (Nat × Bool)} {w : World}
theorem zdF : ∀ {fs : List Field} {pl : List (Nat × Nat)}, zaA P fs = some pl → fs.mapM (fun f => (P.info? f.type).map fun i => (f.offset, i.size)) = some pl
 | [], pl, h => by cases h; rfl
 | f :: fs, pl, h => by
  simp only [zaA] at h
  cases h1 : szO P f.type with
  | none => rw [h1] at h; cases h
  | some s =>
   cases h2 : zaA P fs with
   | none => rw [h1, h2] at h; cases h
   | some l =>
    rw [h1, h2] at h
    cases h
    obtain ⟨i, hi, hs⟩ := jh h1
    rw [List.mapM_cons, zdF h2]
    simp [hi, hs]
theorem zgs (hρ : xp σ fr ρ) {t : Nat} {ps : Array (Nat × Operand)} (h : ze3 t ps P ty fr m = r) (hr : r ≠ .no) : ∃ v, r = .val v ∧ zal σ P (execOp ρ ⟨d, .build t ps, ty, pos, af, gd⟩) v := by
 obtain ⟨z, h1, h⟩ := zw h hr
 obtain ⟨vs, h2, h⟩ := zw h hr
 obtain ⟨l, h3, h⟩ := zw h hr
 obtain ⟨zv, h4, _, h5⟩ := zb6 (σ := σ) h1
 unfold zqe at h3
 split at h3
 ·rename_i fs hu
  split at h3
  ·rename_i pl hpl
   obtain ⟨cs, e1, e2⟩ := zec _ hρ ps.toList vs z l zv.cells h2 h3 h4
   refine ⟨_, h.symm, .agg cs, by simp only [zK, e2, Option.map_some], fun w => ?_⟩
   have hp := zdF hpl
   have e1' : Instr.fill (fun x => pl[x]?) zv.cells (ps.toList.map fun (i, x) => (i, ρ x)) = some cs := by
    rw [← e1]; congr 1; funext x; rw [nth_eq]
   simp [execOp, Instr.build, run_underlying hu, h5 w, Array.mapM_eq_mapM_toList, run_places w _ _ hp, e1']
  ·cases h3
 ·rename_i n e hu
  split at h3
  ·rename_i s hs
   obtain ⟨cs, e1, e2⟩ := zec _ hρ ps.toList vs z l zv.cells h2 h3 h4
   refine ⟨_, h.symm, .agg cs, by simp only [zK, e2, Option.map_some], fun w => ?_⟩
   have e1' : Instr.fill (fun i => some (i * s, s)) zv.cells (ps.toList.map fun (i, x) => (i, ρ x)) = some cs := e1
   simp [execOp, Instr.build, run_underlying hu, h5 w, yH hs, e1']
  ·cases h3
 ·cases h3
theorem zhn {s : Sem Next} {l : List AV} {cs : Array Value} {t : TypeId} {sz c n : Nat} (hl : zA σ l = some cs.toList) (hrun : ∀ w, s.run P w = .ok (.value (.slice (some ⟨w.heap.size, 0, none⟩) n c)) (w.alloc (.cells cs t))) (h : zil l sz c m n = r) (hr : r ≠ .no) : NewO σ P s m r := by
 obtain ⟨h0, h⟩ := z6 h hr
 have h0 := nQe h0
 rw [yz] at h0
 obtain ⟨k, h1, h2, h3⟩ := zeM h hr
 have hsz : cs.size = c * sz := by have := ql hl; simp at this; rw [this]; exact h0
 refine ⟨_, _, h2, h3, .cells cs t, fun bl => .slice (some ⟨bl, 0, none⟩) n c, fun bl => ⟨bl, 0, 0, sz, cs.size⟩, fun _ => rfl, hrun, fun V bl hn => ⟨?_, cs, t, (0, 0), rfl, ⟨fun _ => rfl, zd7 h1 t, fun _ => rfl⟩, ?_⟩⟩
 ·have := xw (σ := xi σ m.nx ⟨bl, 0, 0, sz, cs.size⟩) (b := m.nx) (o := 0) (n := n) (k := c) (e := ⟨bl, 0, 0, sz, cs.size⟩) (qe _ _ _) (by simp [hsz]) (.inl rfl)
  simpa using this
 ·have := zgI (σ := xi σ m.nx ⟨bl, 0, 0, sz, cs.size⟩) (e := ⟨bl, 0, 0, sz, cs.size⟩) (xx (xb hn) _ _ hl) (za7 h1) rfl (by simp) rfl
  simpa using this
theorem zie (l : List AV) (hl : 0 < l.length) : ∀ (n i : Nat), i < n * l.length → (zeA l n)[i]? = l[i % l.length]?
 | 0, i, h => by simp at h
 | n + 1, i, h => by
  show (l ++ zeA l n)[i]? = _
  by_cases h1 : i < l.length
  ·rw [List.getElem?_append_left h1, Nat.mod_eq_of_lt h1]
  ·rw [List.getElem?_append_right (by omega), zie l hl n _ (by rw [Nat.succ_mul] at h; omega)]
   rw [← Nat.mod_eq_sub_mod (by omega)]
theorem zay (l : List AV) : ∀ n, (zeA l n).length = n * l.length
 | 0 => by simp [zeA]
 | n + 1 => by
  show (l ++ zeA l n).length = _
  rw [List.length_append, zay l n, Nat.succ_mul, Nat.add_comm]
theorem zhd {l : List AV} {z : Array Value} (h : zA σ l = some z.toList) (hz : 0 < z.size) (n : Nat) : zA σ (zeA l n) = some ((Array.range (n * z.size)).map (z[· % z.size]!)).toList := by
 have hl := ql h
 simp at hl
 refine zcL (by simp [zay, hl]) fun i v hi => ?_
 have hlt : i < n * l.length := by
  have := (List.getElem?_eq_some_iff.1 hi).1
  rwa [zay] at this
 rw [zie l (by omega) n i hlt] at hi
 obtain ⟨c, h1, h2⟩ := yf h _ _ hi
 refine ⟨c, h1, ?_⟩
 rw [← hl] at h2 hlt
 simp at h2
 have hm : i % z.size < z.size := Nat.mod_lt _ hz
 simp [hlt]
 rw [Array.getElem?_eq_getElem hm] at h2
 rw [getElem!_pos z _ hm]
 exact nQs h2
theorem zaH (hρ : xp σ fr ρ) {t n : Nat} {ps : Array (Nat × Operand)} (h : jL t n ps P ty fr m = r) (hr : r ≠ .no) : NewO σ P (execOp ρ ⟨d, .buildSlice t n ps, ty, pos, af, gd⟩) m r := by
 obtain ⟨e, hu, hx⟩ := qJ h hr
 clear h
 obtain ⟨s, hs, hy⟩ := zw hx hr
 clear hx
 cases hn0 : Nat.beq n 0 with
 | true =>
  have hn := nQe hn0
  subst hn
  have h0 : (match ps.toList with
   | [] => zil [] s 0 m 0
   | _ => .no) = r := hy
  cases hps : ps.toList with
  | nil =>
   rw [hps] at h0
   have h1 : zil [] s 0 m 0 = r := h0
   clear h0 hy
   have hps : ps = #[] := Array.ext' hps
   subst hps
   obtain ⟨i, hi, his⟩ := jh hs
   refine zhn (cs := #[]) (t := e) (l := []) rfl (fun w => ?_) h1 hr
   simp [execOp, Instr.buildSlice, run_underlying hu, sizeOf, typeInfo, hi, newRow, Instr.fill]
   have e0 : Array.map (fun _ => (default : Value)) (Array.range 0) = #[] := Array.ext' (by simp)
   rw [e0]
  | cons a l =>
   rw [hps] at h0
   exact absurd h0.symm hr
 | false =>
 rw [hn0] at hy
 change ob (jH P e) _ = _ at hy
 have h := hy
 clear hy
 obtain ⟨z, h1, h⟩ := zw h hr
 obtain ⟨vs, h2, h⟩ := zw h hr
 obtain ⟨hb, h⟩ := z6 h hr
 obtain ⟨l, h3, h⟩ := zw h hr
 obtain ⟨zv, h4, hz, h5⟩ := zb6 (σ := σ) h1
 obtain ⟨g1, g2, g3⟩ := zyP hb
 have g1 := qZ g1
 have g2 := nQe g2
 have g3 := qm g3
 rw [yz] at g2
 have hzs : zv.cells.size = s := by have := ql h4; simp at this; omega
 have hpos : 0 < zv.cells.size := by
  rw [hzs]
  rcases Nat.eq_zero_or_pos s with h0 | h0
  ·subst h0; simp at g3
  ·exact h0
 have h6 := zhd h4 hpos n
 obtain ⟨cs, e1, e2⟩ := zec _ hρ ps.toList vs _ l _ h2 h3 h6
 refine zhn (cs := cs) (t := e) e2 (fun w => ?_) h hr
 obtain ⟨i, hi, his⟩ := jh hs
 obtain ⟨zz, hzz⟩ : ∃ zz, i.zero = some zz := by
  unfold jH at h1; rw [hi] at h1
  cases hq : i.zero with
  | none => have : (match i.zero with | some z => some (zbN z.cells) | none => none) = some z := h1; rw [hq] at this; cases this
  | some zz => exact ⟨zz, rfl⟩
 have hzv : zz = zv := by
  have := h5 w
  simp [zeroValue, typeInfo, hi, hzz] at this; exact this
 subst hzv
 have hf : Instr.fill (fun i => some (i * s, s)) ((Array.range (n * zz.cells.size)).map (zz.cells[· % zz.cells.size]!)) (ps.toList.map fun (i, x) => (i, ρ x)) = some cs := e1
 rw [hzs] at hf
 have := run_buildSlice (P := P) w t e n (ps.map fun (i, x) => (i, ρ x)) cs i zz hu hi hzz (by rw [his]; have : n * s ≤ 16777216 := g1; omega) (by rw [his]; have : 0 < n * s := g3; omega) (by simpa [his, hzs] using hf)
 simp [execOp, this]
theorem zbC (hρ : xp σ fr ρ) {t : Nat} {x y : Operand} (h : zbP t x y P ty fr m = r) (hr : r ≠ .no) : NewO σ P (execOp ρ ⟨d, .makeSlice t x y, ty, pos, af, gd⟩) m r := by
 obtain ⟨e, hu, h⟩ := qJ h hr
 obtain ⟨s, hs, h⟩ := zw h hr
 obtain ⟨q1, n, hx, h⟩ := zap h hr
 obtain ⟨q2, c, hy, h⟩ := zap h hr
 obtain ⟨z, h1, h⟩ := zw h hr
 obtain ⟨hb, h⟩ := z6 h hr
 obtain ⟨zv, h4, hz, h5⟩ := zb6 (σ := σ) h1
 simp only [Bool.and_eq_true] at hb
 obtain ⟨⟨⟨⟨g1, g2⟩, g3⟩, g4⟩, g5⟩ := hb
 have g1 := qZ g1
 have g2 := nQe g2
 have g3 := qZ g3
 have g4 := qZ g4
 have g5 := qm g5
 rw [yz] at g2
 have hzs : zv.cells.size = s := by have := ql h4; simp at this; omega
 have h6 := zhd h4 (by omega) c
 rw [hzs] at h6
 have ex : ρ x = .int q1 (n : Int) := (nQs (hρ x _ hx)).symm
 have ey : ρ y = .int q2 (c : Int) := (nQs (hρ y _ hy)).symm
 obtain ⟨i, hi, his⟩ := jh hs
 obtain ⟨zz, hzz⟩ : ∃ zz, i.zero = some zz := by
  unfold jH at h1; rw [hi] at h1
  cases hq : i.zero with
  | none => have : (match i.zero with | some z => some (zbN z.cells) | none => none) = some z := h1; rw [hq] at this; cases this
  | some zz => exact ⟨zz, rfl⟩
 have hzv : zz = zv := by
  have := h5 default
  simp [zeroValue, typeInfo, hi, hzz] at this; exact this
 subst hzv
 have hby : i.bytes ≤ 65536 := by unfold zbX at g4; rw [hi] at g4; exact g4
 have hprod : i.bytes * c ≤ 65536 * 65536 := Nat.mul_le_mul hby g3
 have hbc : (i.bytes : Int) * (c : Int) ≤ 281474976710656 := by
  have h : ((i.bytes * c : Nat) : Int) ≤ 281474976710656 := by omega
  rw [Int.natCast_mul] at h
  exact h
 refine zhn (cs := (Array.range (c * s)).map (zz.cells[· % zz.cells.size]!)) (t := e) (by rw [hzs]; exact h6) (fun w => ?_) h hr
 have := run_make (P := P) w t e i zz hu hi hzz q1 q2 (n : Int) (c : Int) (by omega) (by omega) hbc (by omega)
 have e2 : madeCells zz.cells ((c : Int).toNat * i.size) = (Array.range (c * s)).map (zz.cells[· % zz.cells.size]!) := by rw [his]; rfl
 rw [e2] at this
 simp only [execOp, ex, ey, Sem.run_bind, this, Result.andThen_ok, Sem.run_pure, Int.toNat_natCast]
end
section
variable {O : Ow} {σ : Sg} {P : Program} {fr : Fra} {m : Mem} {ρ : Operand → Value} {r : OR} {d : Option Tmp} {ty : Nat} {pos : String} {af : Array Edge} {gd : Option (Nat × Bool)} {w : World}
def zb4 (O : Ow) (σ : Sg) (P : Program) (w : World) (s : Sem Next) : OR → Prop
 | .val v => ∃ c, zK σ v = some c ∧ s.run P w = .ok (.value c) w
 | .mem v hp nx => ∃ σ' c w', Sle σ σ' ∧ zK σ' v = some c ∧ (s.run P w = .ok (.value c) w' ∨ (s.run P w = .ok .skip w' ∧ c = undef)) ∧ RelW O σ' hp nx w' ∧ Keep O w w'
 | _ => False
theorem NewO.mem {s : Sem Next} (h : NewO σ P s m r) (hw : RelW O σ m.hp m.nx w) : zb4 O σ P w s r := by
 obtain ⟨v, o, h1, rfl, ob, mk, le, e1, e2, e3⟩ := h
 have hn := hw.fresh _ (Nat.le_refl _)
 obtain ⟨e4, e5⟩ := e3 O.V w.heap.size hn
 obtain ⟨q1, q2, q3⟩ := hw.alloc h1 (Nat.le_succ _) (Nat.lt_succ_self _) hn hw.now o ob (le w.heap.size) (e1 _) e5
 exact ⟨_, _, _, q2, e4, .inl (e2 w), q1, q3⟩
theorem znr {o : xD} {k : CS → OR} (h : zw0 o k = r) (hr : r ≠ .no) : ∃ c, o = .cells c false ∧ k c = r := by
 cases o <;> first | exact absurd h.symm hr | skip
 rename_i c ro
 cases ro with
 | false => exact ⟨c, rfl, h⟩
 | true => exact absurd h.symm hr
theorem zj1 {hp : Hp} {b : Nat} {k : CS → OR} (h : oW hp b k = r) (hr : r ≠ .no) : ∃ c, qz hp b = some (.cells c false) ∧ k c = r := by
 unfold oW at h
 cases ho : qz hp b with
 | none => rw [ho] at h; exact absurd h.symm hr
 | some o =>
  rw [ho] at h
  obtain ⟨c, rfl, h2⟩ := znr h hr
  exact ⟨c, rfl, h2⟩
theorem zi5 {c : CS} {k : Nat} {u v : AV} (h : xW c k = some u) (j : Nat) : xW (zp5 c k v) j = if j = k then some v else xW c j := by
 cases c with
 | l l =>
  show nth (zc2 v l k) j = _
  have h' : nth l k = some u := h
  rw [nth_eq] at h'
  rw [nth_eq, zc1]
  show _ = if j = k then some v else nth l j
  rw [nth_eq]
  have hk := (List.getElem?_eq_some_iff.1 h').1
  by_cases hj : j = k
  ·subst hj; simp [hk]
  ·rw [if_neg hj, List.getElem?_set_ne (fun e => hj e.symm)]
 | t t =>
  have h' : qA t k = some u := h
  exact vp _ _ (zlD h') j
 | y e l =>
  have h' : nth l k = some u := h
  rw [nth_eq] at h'
  show nth (zc2 v l k) j = _
  rw [zc1, nth_eq]
  show _ = if j = k then some v else nth l j
  rw [nth_eq]
  have hk := (List.getElem?_eq_some_iff.1 h').1
  by_cases hj : j = k
  ·subst hj; simp [hk]
  ·rw [if_neg hj, List.getElem?_set_ne (fun e => hj e.symm)]
theorem zsT (c : CS) (k : Nat) (v : AV) : tyC (zp5 c k v) = tyC c := by cases c <;> rfl
theorem zg0 : ∀ {l : List AV} {c c' : CS} {o : Nat}, zfN c l o = some c' → tyC c' = tyC c
 | [], c, c', o, h => by cases h; rfl
 | v :: l, c, c', o, h => by
  simp only [zfN] at h
  cases hg : xW c o with
  | none => rw [hg] at h; cases h
  | some u =>
   rw [hg] at h
   cases hb : zfw v with
   | false => rw [hb] at h; cases h
   | true => rw [hb] at h; exact (zg0 h).trans (zsT c o v)
theorem zqa {v : AV} {c : Value} (h : zfw v = true) (hc : zK σ v = some c) : c.oneCell' = true := by
 cases v with
 | lit u =>
  have e := nQs hc
  subst e
  cases u <;> first | rfl | cases h
 | agg l => cases h
 | tup l => cases h
 | ptr b o => obtain ⟨e, _, rfl⟩ := yq hc; rfl
 | slc b o n k s => obtain ⟨e, _, _, rfl⟩ := xe hc; rfl
 | asl b o n k => obtain ⟨e, _, rfl⟩ := kO hc; rfl
 | map q => simp only [zK, Option.map_eq_some_iff] at hc; obtain ⟨e, _, rfl⟩ := hc; rfl
 | ifc t u => simp only [zK, Option.map_eq_some_iff] at hc; obtain ⟨e, _, rfl⟩ := hc; rfl
 | fn f a b =>
  simp only [zK] at hc
  split at hc
  ·cases hc; rfl
  ·cases hc
 | yld l => simp only [zK, Option.map_eq_some_iff] at hc; obtain ⟨e, _, rfl⟩ := hc; rfl
theorem zbk : ∀ {l : List AV} {cs : List Value}, zbW l = true → zA σ l = some cs → ∀ v ∈ cs, v.oneCell' = true
 | [], cs, _, h, v, hv => by cases h; cases hv
 | u :: l, cs, hb, h, v, hv => by
  simp only [zbW] at hb
  cases hu : zfw u with
  | false => rw [hu] at hb; cases hb
  | true =>
   rw [hu] at hb
   simp only [zA] at h
   cases ha : zK σ u with
   | none => rw [ha] at h; cases h
   | some ca =>
    cases hl : zA σ l with
    | none => rw [ha, hl] at h; cases h
    | some cl =>
     rw [ha, hl] at h
     cases h
     rcases List.mem_cons.1 hv with rfl | hv
     ·exact zqa hu ha
     ·exact zbk hb hl v hv
theorem zkY : ∀ {l : List AV} {c c' : CS} {o : Nat}, zfN c l o = some c' → (∀ j, xW c' j = if o ≤ j ∧ j < o + l.length then l[j - o]? else xW c j) ∧ (∀ j, o ≤ j → j < o + l.length → (xW c j).isSome = true) ∧ zbW l = true
 | [], c, c', o, h => by
  cases h
  exact ⟨fun j => by rw [if_neg (by rintro ⟨p, q⟩; simp at q; omega)], fun j h1 h2 => by simp at h2; omega, rfl⟩
 | v :: l, c, c', o, h => by
  simp only [zfN] at h
  cases hc : xW c o with
  | none => rw [hc] at h; cases h
  | some u =>
   rw [hc] at h
   have h' : cond (zfw v) (zfN (zp5 c o v) l (Nat.succ o)) none = some c' := h
   cases hb : zfw v with
   | false => rw [hb] at h'; cases h'
   | true =>
    rw [hb] at h'
    obtain ⟨e1, e2, e3⟩ := zkY (show zfN (zp5 c o v) l (Nat.succ o) = some c' from h')
    refine ⟨fun j => ?_, fun j h1 h2 => ?_, ?_⟩
    ·rw [e1 j, zi5 hc]
     simp only [List.length_cons]
     by_cases h1 : o.succ ≤ j ∧ j < o.succ + l.length
     ·rw [if_pos h1, if_pos (by omega)]
      have : j - o = (j - o.succ) + 1 := by omega
      rw [this]; rfl
     ·rw [if_neg h1]
      by_cases h2 : j = o
      ·subst h2; rw [if_pos rfl, if_pos (by omega)]; simp
      ·rw [if_neg h2, if_neg (by omega)]
    ·by_cases hj : j = o
     ·subst hj; rw [hc]; rfl
     ·have := e2 j (by omega) (by simp at h2; omega)
      rw [zi5 hc, if_neg hj] at this
      exact this
    ·simp only [zbW, hb]; exact e3
theorem zbI (cs vs : List Value) (o : Nat) (h : o + vs.length ≤ cs.length) (i : Nat) : (cs.take o ++ vs ++ cs.drop (o + vs.length))[i]? = if o ≤ i ∧ i < o + vs.length then vs[i - o]? else cs[i]? := by
 rw [List.append_assoc]
 by_cases h1 : i < o
 ·rw [List.getElem?_append_left (by simp; omega), if_neg (by omega), List.getElem?_take, if_pos h1]
 ·rw [List.getElem?_append_right (by simp; omega)]
  simp only [List.length_take, Nat.min_eq_left (show o ≤ cs.length by omega)]
  by_cases h2 : i < o + vs.length
  ·rw [if_pos ⟨by omega, h2⟩, List.getElem?_append_left (by omega)]
  ·rw [if_neg (by omega), List.getElem?_append_right (by omega), List.getElem?_drop]
   congr 1; omega
theorem zfX (hw : RelW O σ m.hp m.nx w) {b o : Nat} {c c' : CS} {l : List AV} {vs : List Value} {e : Loc} (hb : qz m.hp b = some (.cells c false)) (he : σ b = some e) (hs : zfN c l o = some c') (hl : zA σ l = some vs) (hpos : 0 < l.length) :
  ∃ w', (storeCells ⟨e.bl, o + e.dl, none⟩ vs).run P w = .ok () w' ∧ RelW O σ (hset (.cells c' false) m.hp b) m.nx w' ∧ Keep O w w' := by
 obtain ⟨arr, el, fz, h1, h2, h3⟩ := hw.obj b _ e hb he
 have hfz := h2.1 rfl
 subst hfz
 obtain ⟨s1, s2, s3⟩ := zkY hs
 have hlen := ql hl
 have hen : o + l.length ≤ e.en := by
  have := s2 (o + l.length - 1) (by omega) (by omega)
  obtain ⟨u, hu⟩ := Option.isSome_iff_exists.1 this
  have := (h3.2 _ _ hu).1
  omega
 have hsz := h3.1
 have hst := run_storeCells_at P e.bl (o + e.dl) el vs 0 arr w h1 (by omega) (zbk s3 hl)
 simp only [Nat.add_zero] at hst
 refine ⟨_, hst, ?_⟩
 refine hw.write hb rfl he ?_ (by simp) (fun k hk => setRow_other w e.bl k _ hk) rfl rfl rfl
 refine ⟨_, el, (0, 0), setRow_heap w e.bl arr _ el _ h1, ⟨fun _ => rfl, (fun t ht => h2.2.1 t (by rw [← zg0 hs]; exact ht)), fun ht => h2.2.2 (by rw [← zg0 hs]; exact ht)⟩, ?_, fun i v hv => ?_⟩
 ·simp; omega
 ·rw [s1 i] at hv
  have hg := zbI arr.toList vs (o + e.dl) (by simp; omega) (i + e.dl)
  simp only [List.getElem?_toArray]
  rw [hg]
  split at hv
  ·rename_i hin
   obtain ⟨cv, q1, q2⟩ := yf hl _ _ hv
   refine ⟨by omega, cv, q1, ?_⟩
   rw [if_pos (by omega)]
   rwa [show i + e.dl - (o + e.dl) = i - o by omega]
  ·rename_i hin
   obtain ⟨q0, cv, q1, q2⟩ := h3.2 _ _ hv
   refine ⟨q0, cv, q1, ?_⟩
   rw [if_neg (by omega)]
   simpa using q2
theorem zmI (hw : RelW O σ m.hp m.nx w) (hρ : xp σ fr ρ) {t : Nat} {x y : Operand} (h : zkd t x y P ty fr m = r) (hr : r ≠ .no) : zb4 O σ P w (execOp ρ ⟨d, .store t x y, ty, pos, af, gd⟩) r := by
 obtain ⟨b, o, h1, h⟩ := zb8 h hr
 obtain ⟨v, h2, h⟩ := zw h hr
 obtain ⟨c, h3, h⟩ := zj1 h hr
 obtain ⟨s, h4, h⟩ := zw h hr
 obtain ⟨h5, h⟩ := z6 h hr
 obtain ⟨c', h6, h⟩ := zw h hr
 simp only [Bool.and_eq_true] at h5
 have g1 := nQe h5.1
 have g2 := qm h5.2
 rw [yz] at g1
 obtain ⟨e, he, hc⟩ := yq (hρ x _ h1)
 have hv := zbV (hρ y v h2)
 have hl := ql hv
 obtain ⟨w', e1, e2, e3⟩ := zfX (P := P) hw h3 he h6 hv (by omega)
 subst h
 refine ⟨σ, undef, w', Sle.refl _, rfl, .inr ⟨?_, rfl⟩, e2, e3⟩
 have hsz : (ρ y).cells.size = s := by simp at hl; omega
 simp [execOp, hc, Instr.storeAt, Instr.sureAddr, storeVar, yH h4, hsz, e1]
end
end Go.Proofs.YtihedfkcccaonaaGreatDoor.Ev
