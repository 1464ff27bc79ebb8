/-
 Drawn regions: the model's steps beside the evaluator's.
-/
import Derived.Test.YtihedfkcccaonaaGreatDoorEvG4
import Derived.RecoverIn
namespace Go.Proofs.YtihedfkcccaonaaGreatDoor.Ev
noncomputable section
open Go.RowKit
structure zcW (all : List Oper) (st : List Nat) : Prop where
 ok : ∀ i, i < all.length → zij all (List.range all.length) i = true
 ord : ordOk all [] st.reverse = true
 mem : ∀ i, i < all.length → i ∈ st
section
variable {O : Ow} {σ σ' : Sg} {w w' : World} {Λ Λ' : Lam} {E : Env} {ρ : Option Nat} {all : List Oper} {st : List Nat} {R : Out} {done rest r : List Nat} {inL : Nat → Prop} {a : Act} {fr fr' : Fra} {m m' : Mem} {x i j : Nat} {o : Oper}
theorem xT {α : Type} {l : List α} {i : Nat} {o : α} (h : l[i]? = some o) : i < l.length := (List.getElem?_eq_some_iff.1 h).1
theorem vF (hs : zcW all st) (ho : st = done.reverse ++ x :: r) : (∃ o, all[x]? = some o ∧ x ∉ done ∧ ∀ j ∈ yv o, j ∈ done) ∧ (isE all x = true → ∀ j ∈ r, ∃ o, all[j]? = some o ∧ ∃ k ∈ yv o, k = x ∨ k ∈ r) := by
 obtain ⟨q1, q2⟩ := zih (p2 := r.reverse) (p1 := done) (i := x) hs.ord (by rw [ho]; simp)
 refine ⟨zmw q1, fun hE j hj => ?_⟩
 obtain ⟨o, h1, k, h2, h3⟩ := q2 hE j (.inr (by simpa using hj))
 exact ⟨o, h1, k, h2, by simpa using h3⟩
theorem zgW (hs : zcW all st) (ho : st = done.reverse ++ rest) (hj : j ∈ done) : ∃ o, all[j]? = some o ∧ ∀ k ∈ yv o, k ∈ done := by
 obtain ⟨s, t, rfl⟩ := List.append_of_mem hj
 obtain ⟨⟨o, h1, _, h2⟩, _⟩ := vF (done := t) (x := j) (r := s.reverse ++ rest) hs (by rw [ho]; simp)
 exact ⟨o, h1, fun k hk => by simp [h2 k hk]⟩
theorem zkW (hs : zcW all st) (ho : st = done.reverse ++ rest) (hj : j ∈ rest) : j ∉ done := by
 obtain ⟨s, t, rfl⟩ := List.append_of_mem hj
 obtain ⟨⟨o, _, h2, _⟩, _⟩ := vF (done := s.reverse ++ done) (x := j) (r := t) hs (by rw [ho]; simp)
 exact fun h => h2 (by simp [h])
theorem vt {d : Nat} (ho : all[x]? = some o) : kM all d x = true ↔ o.dst = some d := by
 unfold kM
 rw [ho]
 dsimp only
 cases hd : o.dst with
 | none => simp
 | some e =>
  simp only [Option.some.injEq]
  exact ⟨fun h => nQe h, fun h => by rw [h, Nat.beq_refl]⟩
theorem zeS (hs : zcW all st) {ox : Oper} {d : Nat} (hx : all[x]? = some ox) (hd : ox.dst = some d) (hj : all[j]? = some o) (hne : x ∉ yv o) {t : Nat} (ht : t ∈ o.looksAt all.toArray) : t ≠ d := by
 rintro rfl
 have hok := hs.ok j (xT hj)
 unfold zij at hok
 rw [hj] at hok
 obtain ⟨h1, _⟩ := zfq hok
 have h2 := xQ.1 (xQ.1 h1 t ht) x (by simpa using xT hx)
 rw [(vt hx).2 hd] at h2
 exact hne (jK.1 h2)
theorem zpY (hs : zcW all st) {ox : Oper} {d d' : Nat} (hx : all[x]? = some ox) (hd : ox.dst = some d) (hj : all[j]? = some o) (hd' : o.dst = some d') (hne : j ≠ x) : d' ≠ d := by
 rintro rfl
 have hok := hs.ok j (xT hj)
 unfold zij at hok
 rw [hj] at hok
 obtain ⟨_, h1⟩ := zfq hok
 rw [hd'] at h1
 have h2 := xQ.1 h1 x (by simpa using xT hx)
 rw [(vt hx).2 hd] at h2
 cases hb : Nat.beq j x with
 | true => exact hne (nQe hb)
 | false => rw [hb] at h2; cases h2
theorem zcm {d : Option Tmp} {v : AV} {k : CT} (h : putK E d v k fr m = R) (hR : R ≠ .no) : ∃ fr', k fr' m = R ∧ (∀ t, d ≠ some t → qA fr' t = qA fr t) ∧ ∀ t, d = some t → qA fr' t = some v ∧ t < E.N := by
 cases d with
 | none => exact ⟨fr, h, fun _ _ => rfl, fun t ht => by cases ht⟩
 | some d =>
  have hk : (Bool.rec .no (k (zak v fr d) m) (Bool.rec false (Nat.blt d 256) (Nat.blt d E.N) : Bool) : Out) = R := h
  cases h1 : Nat.blt d E.N with
  | false => rw [h1] at hk; exact absurd hk.symm hR
  | true =>
   cases h2 : Nat.blt d 256 with
   | false => rw [h1, h2] at hk; exact absurd hk.symm hR
   | true =>
    rw [h1, h2] at hk
    refine ⟨zak v fr d, hk, fun t ht => ?_, fun t ht => ?_⟩
    ·rw [vp _ _ (qm h2), if_neg (fun e => ht (by rw [e]))]
    ·cases ht
     rw [vp _ _ (qm h2), if_pos rfl]
     exact ⟨rfl, qm h1⟩
theorem zeE {P : Program} {N : Nat} (h : ztb P N all Λ j fr m o) (hlk : ∀ t ∈ o.looksAt all.toArray, qA fr' t = qA fr t) (hd : ∀ d, o.dst = some d → qA fr' d = qA fr d)
  (hm : xJ o.op = 1 → ∀ b o', qz m.hp b = some o' → qz m'.hp b = some o') (hΛ : ∀ b p, Λ b = some (some j, p) → Λ' b = some (some j, p)) : ztb P N all Λ' j fr' m' o := by
 have hw := yV hlk
 have ho : ∀ m, yh o.op P o.type fr' m = yh o.op P o.type fr m := fun m => x8 _ _ (xh hlk)
 rcases h with ⟨h1, h2, hab⟩ | ⟨h1, v, h2, h3⟩
 ·exact .inl ⟨hw.trans h1, fun d hd' => by rw [hd d hd']; exact h2 d hd', (ko (xh hlk)).trans hab⟩
 ·refine .inr ⟨hw.trans h1, v, fun d hd' => by rw [hd d hd']; exact h2 d hd', ?_⟩
  rcases h3 with ⟨h3, m0, h4⟩ | ⟨h3, hp0, h4, h5⟩ | ⟨h3, m0, hp, nx, ob, h4, h5, h6⟩
  ·exact .inl ⟨h3, m0, (ho m0).trans h4⟩
  ·exact .inr (.inl ⟨h3, hp0, fun b o' hb => hm h3 b o' (h4 b o' hb), fun nx df => (ho _).trans (h5 nx df)⟩)
  ·exact .inr (.inr ⟨h3, m0, hp, nx, ob, (ho _).trans h4, h5, hΛ _ _ h6⟩)
theorem DInv.adv (hs : zcW all st) (h : DInv O E all st R inL σ a w Λ done (x :: r) fr m) (ho : all[x]? = some o) (hev : yA E all (x :: done) r fr' m' = R) (h1 : ∀ t, o.dst ≠ some t → qA fr' t = qA fr t)
  (hrel : RelW ⟨O.own, vQ Λ', O.V⟩ σ m'.hp m'.nx w) (hlate : ∀ b p, Λ b = some p → Λ' b = some p) (hsub : ∀ b o', qz m.hp b = some o' → qz m'.hp b = some o') (hdf : m'.df = m.df)
  (hp : ztb E.P E.N all Λ' x fr' m' o) : DInv O E all st R inL σ a w Λ' (x :: done) r fr' m' := by
 obtain ⟨⟨ox, hox, hxd, hed⟩, _⟩ := vF hs h.order
 have hxl : ¬ inL x := fun hx => hxd (h.sub x hx)
 refine ⟨by rw [h.order]; simp, hev, fun i hi => List.mem_cons_of_mem _ (h.sub i hi), h.closed, h.size, ?_, hrel, fun b o hb => hlate _ _ (h.late b o hb), by rw [hdf]; exact h.df, ?_⟩
 ·intro t v hv hj
  have hxt : kM all t x = false := hj x (by simp) hxl
  have hne : o.dst ≠ some t := fun e => by rw [(vt ho).2 e] at hxt; cases hxt
  rw [h1 t hne] at hv
  exact h.fra t v hv fun j hj' => hj j (by simp [hj'])
 ·intro j hj hjl
  by_cases hjx : j = x
  ·subst hjx; exact ⟨o, ho, hp⟩
  ·have hj : j ∈ done := by simpa [hjx] using hj
   obtain ⟨oj, hoj, hpj⟩ := h.pend j hj hjl
   obtain ⟨oj', hoj', hej⟩ := zgW hs h.order hj
   rw [hoj] at hoj'; cases hoj'
   refine ⟨oj, hoj, zeE hpj (fun t ht => h1 t fun e => ?_) (fun d hd => h1 d fun e => ?_) (fun _ => hsub) fun b p hb => hlate _ _ hb⟩
   ·exact zeS hs ho e hoj (fun hx => hxd (hej x hx)) ht rfl
   ·exact zpY hs ho e hoj hd hjx rfl
theorem zlw (ho : all[x]? = some o) : isE all x = Nat.beq (xJ o.op) 3 := by unfold isE; rw [ho]
theorem zy3 (hs : zcW all st) (h : DInv O E all st R inL σ a w Λ done (x :: r) fr m) (hR : R ≠ .no) (ho : all[x]? = some o) (hx : isE all x = false ∨ jg all o fr = some false) :
  ∃ Λ' fr' m', DInv O E all st R inL σ a w Λ' (x :: done) r fr' m' := by
 obtain ⟨⟨ox, hox, hxd, hed⟩, _⟩ := vF hs h.order
 rw [ho] at hox; cases hox
 have hev : (match all[x]? with
  | some o => match jg all o fr with
   | some true => zdO E all done x o (yA E all (x :: done) r) fr m
   | some false => cond (xX o.op E.P fr) (putK E o.dst (.lit undef) (yA E all (x :: done) r) fr m) .no
   | none => .no
  | none => .no) = R := h.eval
 rw [ho] at hev
 dsimp only at hev
 have own : ∀ fr', (∀ t, o.dst ≠ some t → qA fr' t = qA fr t) → ∀ t ∈ o.looksAt all.toArray, qA fr' t = qA fr t := fun fr' h1 t ht => h1 t fun e => zeS hs ho e ho (fun hx => hxd (hed x hx)) ht rfl
 cases hw : jg all o fr with
 | none => rw [hw] at hev; exact absurd hev.symm hR
 | some b =>
  rw [hw] at hev
  cases b with
  | false =>
   have hev : cond (xX o.op E.P fr) (putK E o.dst (.lit undef) (yA E all (x :: done) r) fr m) .no = R := hev
   cases hab : xX o.op E.P fr with
   | false => rw [hab] at hev; exact absurd hev.symm hR
   | true =>
    rw [hab] at hev
    obtain ⟨fr', k1, k2, k3⟩ := zcm hev hR
    exact ⟨Λ, fr', m, h.adv hs ho k1 k2 h.rel (fun _ _ hb => hb) (fun _ _ hb => hb) rfl (.inl ⟨(yV (own fr' k2)).trans hw, k3, (ko (xh (own fr' k2))).trans hab⟩)⟩
  | true =>
   have hE : isE all x = false := by
    rcases hx with hx | hx
    ·exact hx
    ·rw [hw] at hx; cases hx
   rw [zlw ho] at hE
   have hev : zdO E all done x o (yA E all (x :: done) r) fr m = R := hev
   unfold zdO at hev
   rcases zwG o.op with hc | hc | hc | hc
   ·simp only [hc] at hev
    split at hev
    ·rename_i v hv
     obtain ⟨fr', k1, k2, k3⟩ := zcm hev hR
     have hop : yh o.op E.P o.type fr' m = .val v := (x8 _ _ (xh (own fr' k2))).trans hv
     exact ⟨Λ, fr', m, h.adv hs ho k1 k2 h.rel (fun _ _ hb => hb) (fun _ _ hb => hb) rfl (.inr ⟨(yV (own fr' k2)).trans hw, v, k3, .inl ⟨hc, m, hop⟩⟩)⟩
    ·exact absurd hev.symm hR
   ·simp only [hc] at hev
    split at hev
    ·rename_i v hv
     obtain ⟨fr', k1, k2, k3⟩ := zcm hev hR
     have hop : yh o.op E.P o.type fr' m = .val v := (x8 _ _ (xh (own fr' k2))).trans hv
     exact ⟨Λ, fr', m, h.adv hs ho k1 k2 h.rel (fun _ _ hb => hb) (fun _ _ hb => hb) rfl (.inr ⟨(yV (own fr' k2)).trans hw, v, k3, .inr (.inl ⟨hc, m.hp, fun _ _ hb => hb, fun nx df => (zk5 hc nx df).trans hop⟩)⟩)⟩
    ·exact absurd hev.symm hR
   ·simp only [hc] at hev
    split at hev
    ·rename_i v hp nx hn hv
     obtain ⟨v0, ob, g1, g2⟩ := zoq hc hv (by simp)
     cases g2
     obtain ⟨fr', k1, k2, k3⟩ := zcm hev hR
     have hop : yh o.op E.P o.type fr' m = .mem v (hset ob m.hp m.nx) (m.nx + 1) := (x8 _ _ (xh (own fr' k2))).trans hv
     have hlt : ∀ b p, Λ b = some p → b ≠ m.nx := fun b p hb e => by
      have := (h.rel.late b p.2 (by show (Λ b).map _ = _; rw [hb]; rfl)).2.1
      rw [e] at this
      exact absurd this (Nat.lt_irrefl _)
     have hsub : ∀ b o', qz m.hp b = some o' → qz (hset ob m.hp m.nx) b = some o' := fun b o' hb => by
      rw [qa _ _ g1, if_neg (by rintro rfl; rw [hn] at hb; cases hb)]; exact hb
     refine ⟨fun b => if b = m.nx then some (some x, ob) else Λ b, fr', ⟨hset ob m.hp m.nx, m.nx + 1, m.df⟩, h.adv hs ho k1 k2 (h.rel.later g1 fun b => ?_) (fun b p hb => ?_) hsub rfl
      (.inr ⟨(yV (own fr' k2)).trans hw, v, k3, .inr (.inr ⟨hc, m, _, _, ob, hop, by rw [qa _ _ g1, if_pos rfl], if_pos rfl⟩)⟩)⟩
     ·show (if b = m.nx then some (some x, ob) else Λ b).map _ = _
      split <;> rfl
     ·show (if b = m.nx then some (some x, ob) else Λ b) = some p
      rw [if_neg (hlt b p hb)]; exact hb
    ·exact absurd hev.symm hR
   ·rw [hc] at hE; cases hE
theorem DInv.exec (hs : zcW all st) (h : DInv O E all st R inL σ a w Λ done rest fr m) (hi : i ∈ done) (ho : all[i]? = some o) (he : ∀ j ∈ yv o, inL j) {v : AV} {c : Value} (hv : ∀ d, o.dst = some d → qA fr d = some v ∧ d < E.N)
  (hc : zK σ' v = some c) (hsl : Sle σ σ') (hrel : RelW ⟨O.own, vQ Λ', O.V⟩ σ' m.hp m.nx w') (hΛ : ∀ b p, Λ b = some p → p.1 ≠ some i → Λ' b = some p) :
  DInv O E all st R (fun j => j = i ∨ inL j) σ' (a.put o.dst c) w' Λ' done rest fr m := by
 refine ⟨h.order, h.eval, ?_, ?_, ?_, ?_, hrel, fun b o1 hb => hΛ _ _ (h.late b o1 hb) (by simp), ?_, ?_⟩
 ·rintro j (rfl | hj)
  ·exact hi
  ·exact h.sub j hj
 ·rintro j oj (rfl | hj) hoj k hk
  ·rw [ho] at hoj; cases hoj; exact .inr (he k hk)
  ·exact .inr (h.closed j oj hj hoj k hk)
 ·cases hd : o.dst with
  | none => exact h.size
  | some d => simpa [Act.put] using h.size
 ·intro t u hu hj
  by_cases hd : o.dst = some t
  ·obtain ⟨h1, h2⟩ := hv t hd
   rw [h1] at hu; cases hu
   have hl : t < a.tmps.size := Nat.lt_of_lt_of_le h2 h.size
   exact ⟨c, hc, by rw [hd]; simp [Act.put, hl]⟩
  ·obtain ⟨c', h1, h2⟩ := h.fra t u hu fun j hjd hjl => by
    by_cases hji : j = i
    ·subst hji
     cases hb : kM all t j with
     | false => rfl
     | true => exact absurd ((vt ho).1 hb) hd
    ·exact hj j hjd (by rintro (h | h) <;> contradiction)
   refine ⟨c', qU hsl _ _ h1, ?_⟩
   cases hd' : o.dst with
   | none => exact h2
   | some d =>
    have : d ≠ t := fun e => hd (by rw [hd', e])
    simp only [Act.put]
    rw [Array.getElem?_setIfInBounds_ne this]; exact h2
 ·cases hd : o.dst <;> exact h.df.mono hsl
 ·intro j hj hjl
  have h1 : j ≠ i := fun e => hjl (.inl e)
  obtain ⟨oj, hoj, hp⟩ := h.pend j hj fun e => hjl (.inr e)
  exact ⟨oj, hoj, zeE hp (fun _ _ => rfl) (fun _ _ => rfl) (fun _ _ _ hb => hb) fun b p hb => hΛ _ _ hb (by simpa using h1)⟩
end
section
variable {O : Ow} {σ σ' : Sg} {w w' : World} {Λ Λ' : Lam} {E : Env} {ρ : Option Nat} {all : List Oper} {st : List Nat} {R : Out} {done rest r : List Nat} {inL : Nat → Prop} {a : Act} {fr fr' frc : Fra} {m m' : Mem} {x i j : Nat} {o : Oper} {k : CT} {next : Act → World → Prop} {Q : Exit → Act → World → Prop}
theorem zcY {ops : Array Oper} {b : Bool} (hf : FrR σ E.N frc a.tmps) (h : jg ops.toList o frc = some b) : Region.wanted o (yielded ops a.tmps) = b := by
 unfold jg at h
 unfold Region.wanted
 cases hg : o.guard with
 | none => rw [hg] at h; cases h; rfl
 | some g =>
  obtain ⟨j, b'⟩ := g
  rw [hg] at h
  exact zkN hf h
theorem zdE {ρ : Option Nat} {ev : Operand → Value} (h : ∀ c, o.op ≠ .defer c) : o.semAt ρ ev = execOp ev o := Oper.semAt_eq _ _ _ h
theorem zmz {ops : Array Oper} (hV : VOk E.P O.V) (hs : zcW ops.toList st) (h : DInv O E ops.toList st R inL σ a w Λ done rest fr m) (hi : i ∈ done) (hni : ¬ inL i) (ho : ops.toList[i]? = some o) (he : ∀ j ∈ yv o, inL j) {K : Act → World → Prop}
  (hK : ∀ σ1 a1 w1 Λ1, Sle σ σ1 → Keep O w w1 → DInv O E ops.toList st R (fun j => j = i ∨ inL j) σ1 a1 w1 Λ1 done rest fr m → K a1 w1) : wpOpIn (FV O.V ρ) 0 E.P ops Q i K a w := by
 obtain ⟨o', ho', hp⟩ := h.pend i hi hni
 rw [ho] at ho'; cases ho'
 have hoi : ops[i]? = some o := by simpa using ho
 have hf := h.frR
 have hlk : ∀ t ∈ o.looksAt ops.toList.toArray, qA (zfo ops.toList done inL fr) t = qA fr t := fun t ht => zgi (hs.ok i (xT ho)) ho he ht
 have hwk := yV hlk
 have hoc : ∀ m, yh o.op E.P o.type (zfo ops.toList done inL fr) m = yh o.op E.P o.type fr m := fun m => x8 _ _ (xh hlk)
 have hop := zdd hf h.rel.glo
 unfold wpOpIn
 rw [hoi]
 dsimp only
 rcases hp with ⟨h1, h2, hab⟩ | ⟨h1, v, h2, h3⟩
 ·rw [zcY hf (hwk.trans h1)]
  exact ⟨zaZ hV hop o ((ko (xh hlk)).trans hab) w, hK σ _ w Λ (Sle.refl _) (Keep.refl _ _) (h.exec hs hi ho he h2 rfl (Sle.refl _) h.rel fun _ _ hb _ => hb)⟩
 ·rw [zcY hf (hwk.trans h1)]
  have hab : xX o.op E.P (zfo ops.toList done inL fr) = true := by
   rcases h3 with ⟨h3, m0, h4⟩ | ⟨h3, hp0, h4, h5⟩ | ⟨h3, m0, hp, nx, ob, h4, h5, h6⟩
   ·exact vA ((hoc m0).trans h4) (by simp)
   ·exact vA ((hoc _).trans (h5 0 [])) (by simp)
   ·exact vA ((hoc m0).trans h4) (by simp)
  refine ⟨zaZ hV hop o hab w, ?_⟩
  have nd : ∀ n, xJ o.op = n → n ≠ 3 → o.semAt ρ a.eval = execOp a.eval o := fun n hn h3 => zdE fun c hc => by rw [hc] at hn; exact h3 hn.symm
  show o.uponIn (FV O.V ρ) 0 E.P a K Q ((o.semAt ρ a.eval).run E.P w)
  rcases h3 with ⟨h3, m0, h4⟩ | ⟨h3, hp0, h4, h5⟩ | ⟨h3, m0, hp, nx, ob, h4, h5, h6⟩
  ·rw [nd 0 h3 (by omega)]
   obtain ⟨v', g0, c, g1, g2⟩ := zra hop o h3 ((hoc m0).trans h4) (by simp)
   cases g0
   rw [g2 w]
   exact hK σ _ w Λ (Sle.refl _) (Keep.refl _ _) (h.exec hs hi ho he h2 g1 (Sle.refl _) h.rel fun _ _ hb _ => hb)
  ·rw [nd 1 h3 (by omega)]
   obtain ⟨c, g1, g2⟩ := zeI (m := ⟨hp0, m.nx, m.df⟩) (h.rel.sub h4) hop o ((hoc _).trans (h5 m.nx m.df)) (by simp)
   rw [g2]
   exact hK σ _ w Λ (Sle.refl _) (Keep.refl _ _) (h.exec hs hi ho he h2 g1 (Sle.refl _) h.rel fun _ _ hb _ => hb)
  ·rw [nd 2 h3 (by omega)]
   obtain ⟨v', o1, g0, g1, obj, mk, le, k1, k2, k3⟩ := zuG hop o h3 ((hoc m0).trans h4) (by simp)
   cases g1
   rw [qa _ _ g0, if_pos rfl] at h5
   cases h5
   have hl : vQ Λ m0.nx = some ob := by show (Λ m0.nx).map _ = _; rw [h6]; rfl
   obtain ⟨q1, q2⟩ := k3 O.V w.heap.size (h.rel.late _ _ hl).1
   obtain ⟨r1, r2, r3⟩ := h.rel.lay hl obj (le w.heap.size) (k1 _) q2
   rw [k2 w]
   refine hK _ _ _ (fun b => if b = m0.nx then none else Λ b) r2 r3.own (h.exec hs hi ho he h2 q1 r2 ?_ fun b p hb hp => ?_)
   ·have : vQ (fun b => if b = m0.nx then none else Λ b) = (Ow.lay ⟨O.own, vQ Λ, O.V⟩ m0.nx).late := by
     funext b
     show (if b = m0.nx then none else Λ b).map _ = if b = m0.nx then none else (Λ b).map _
     split <;> rfl
    rw [this]
    exact r1
   ·show (if b = m0.nx then none else Λ b) = some p
    rw [if_neg (by rintro rfl; rw [h6] at hb; cases hb; exact hp rfl)]
    exact hb
theorem zuA {O' : Ow} (hV : VOk E.P O'.V) (hc : xC O' E.P E.call) (hy : zcT O' E.P E.yld) (hf : FrR σ E.N frc a.tmps) (hw : RelW O' σ m.hp m.nx w) (hdf : DfL σ a.defers m.df) (o : Oper) (h : zyc all (yh o.op E.P o.type frc m) E o.dst k fr m = R) (hR : R ≠ .no)
  (hn : ∀ σ1 c w1 v m1, Sle σ σ1 → zK σ1 v = some c → RelW O' σ1 m1.hp m1.nx w1 → DfL σ1 a.defers m1.df → Keep O' w w1 → putK E o.dst v k fr m1 = R → next (a.put o.dst c) w1)
  (hQp : ∀ σ1 v t c w1 m1, Sle σ σ1 → zK σ1 v = some (.iface t c) → RelW O' σ1 m1.hp m1.nx w1 → DfL σ1 a.defers m1.df → Keep O' w w1 → R = .ok (.panic v) (xN fr all) m1 → Q (.panic [{ v := .iface t c, recovered := false }]) a w1) : o.wpIn (FV O'.V ρ) 0 E.P a w next Q := by
 have hop := zdd hf hw.glo
 obtain ⟨r, hr⟩ : ∃ r, yh o.op E.P o.type frc m = r := ⟨_, rfl⟩
 rw [hr] at h
 have hrn : r ≠ .no := by rintro rfl; exact hR h.symm
 refine ⟨zaZ hV hop o (vA hr hrn) w, ?_⟩
 have hops := zeI hw hop o hr hrn
 have hsem : o.semAt ρ a.eval = execOp a.eval o := by
  refine zdE fun c hd => ?_
  rw [hd] at hr
  have hr : zbU c frc c.callee = r := hr
  unfold zbU at hr
  split at hr
  ·split at hr
   ·subst hr; exact hR h.symm
   ·exact absurd hr.symm hrn
  ·exact absurd hr.symm hrn
 show o.uponIn (FV O'.V ρ) 0 E.P a next Q ((o.semAt ρ a.eval).run E.P w)
 rw [hsem]
 have hcall : ∀ (R0 : Out) (e : Ending) (w1 : World), zgK all R0 fr m.df (fun v m => putK E o.dst v k fr m) = R → xg O' σ w R0 e w1 →
   (∃ c, e = .returned c ∧ next (a.put o.dst c) w1) ∨ ∃ t c, e = .panicked [{ v := .iface t c, recovered := false }] ∧ Q (.panic [{ v := .iface t c, recovered := false }]) a w1 := by
  intro R0 e w1 h' hp
  unfold zgK at h'
  split at h'
  ·rename_i r0 m0
   split at h'
   ·rename_i v hv
    obtain ⟨σ1, v', c, h1, h2, h3, rfl, h4, h5⟩ := hp
    rw [hv] at h2; cases h2
    exact .inl ⟨c, rfl, hn σ1 c w1 v ⟨m0.hp, m0.nx, m.df⟩ h1 h3 h4 (hdf.mono h1) h5 h'⟩
   ·exact absurd h'.symm hR
  ·rename_i v r0 m0
   obtain ⟨σ1, t, c, h1, h2, rfl, h4, h5⟩ := hp
   exact .inr ⟨t, c, rfl, hQp σ1 v t c w1 ⟨m0.hp, m0.nx, m.df⟩ h1 h2 h4 (hdf.mono h1) h5 h'.symm⟩
  ·exact absurd h'.symm hR
 cases r with
 | no => exact absurd rfl hrn
 | val v =>
  obtain ⟨c, h1, h2⟩ := hops
  rw [h2]
  exact hn σ c w v m (Sle.refl _) h1 hw hdf (Keep.refl _ _) h
 | mem v hp nx =>
  obtain ⟨σ1, c, w1, h1, h2, h3, h4, h5⟩ := hops
  have := hn σ1 c w1 v ⟨hp, nx, m.df⟩ h1 h2 h4 (hdf.mono h1) h5 h
  rcases h3 with h3 | ⟨h3, rfl⟩
  ·rw [h3]; exact this
  ·rw [h3]; exact this
 | call f args =>
  obtain ⟨cs, h1, h2⟩ := hops
  rw [h2]
  have h' : zgK all (E.call f args m.hp m.nx) fr m.df (fun v m => putK E o.dst v k fr m) = R := h
  have hcn : E.call f args m.hp m.nx ≠ .no := by intro e; rw [e] at h'; exact hR h'.symm
  refine ⟨fun hd => absurd hd (by simp [FV]), CallsIn.mono (hc hV σ w f args cs m.hp m.nx hw h1 hcn) ?_⟩
  intro e w1 hp
  rcases hcall _ e w1 h' hp with ⟨c, rfl, hx⟩ | ⟨t, c, rfl, hx⟩
  ·exact hx
  ·exact hx
 | yld l args =>
  obtain ⟨e0, cs, h1, h2, h3⟩ := hops
  have h' : zgK all (E.yld l args m.hp m.nx) fr m.df (fun v m => putK E o.dst v k fr m) = R := h
  have hcn : E.yld l args m.hp m.nx ≠ .no := by intro e; rw [e] at h'; exact hR h'.symm
  obtain ⟨r, g1, g2, g3⟩ := hy hV σ w l e0 args cs m.hp m.nx hw h1 h2 hcn
  rw [h3, run_yield g1 (by simpa using g2)]
  refine ⟨fun hd => absurd hd (by simp [FV]), RoundIn.mono g3 ?_⟩
  intro e w1 hp
  rcases hcall _ e w1 h' hp with ⟨c, rfl, hx⟩ | ⟨t, c, rfl, hx⟩
  ·exact hx
  ·exact hx
 | dfr d => exact absurd h.symm hR
 | panic v =>
  obtain ⟨t, c, h1, h2⟩ := hops
  rw [h2]
  exact hQp σ v t c w m (Sle.refl _) h1 hw hdf (Keep.refl _ _) h.symm
theorem zmd (closed : ∀ i o, inL i → all[i]? = some o → ∀ j ∈ yv o, inL j) : ∀ (n i : Nat), (∀ o, all[i]? = some o → ∀ j ∈ yv o, inL j) → ∀ j ∈ zkC all n i, inL j
 | 0, i, _, j, hj => by cases hj
 | n + 1, i, h, j, hj => by
  unfold zkC at hj
  split at hj
  ·rename_i o ho
   simp only [List.mem_flatMap, List.mem_cons] at hj
   obtain ⟨k, hk, hj⟩ := hj
   have hkl := h o ho k hk
   rcases hj with rfl | hj
   ·exact hkl
   ·exact zmd closed n k (fun o' ho' => closed k o' hkl ho') j hj
  ·cases hj
theorem zif {oj : Oper} (hj : j ∈ done) (hoj : all[j]? = some oj) (hcl : xJ oj.op = 1) (hn : j ∉ zkC all all.length i) : j ∈ zcl all i done := by
 unfold zcl
 refine List.mem_filter.2 ⟨hj, ?_⟩
 rw [hoj]
 have : zcw j (zkC all all.length i) = false := by
  cases hb : zcw j (zkC all all.length i) with
  | false => rfl
  | true => exact absurd (jK.1 hb) hn
 simp [hcl, this]
theorem zeB {P : Program} {oj : Oper} (hoj : all[j]? = some oj) (hw : jg all oj fr = some true) : ∀ (l : List Nat), za3 P all fr m l = true → j ∈ l → ∃ d v, oj.dst = some d ∧ qA fr d = some v ∧ yh oj.op P oj.type fr m = .val v
 | [], _, hj => by cases hj
 | x :: l, h, hj => by
  unfold za3 at h
  by_cases hx : j = x
  ·subst hx
   rw [hoj] at h
   dsimp only at h
   rw [hw] at h
   cases hd : oj.dst with
   | none => rw [hd] at h; cases h
   | some d =>
    rw [hd] at h
    obtain ⟨h1, h2⟩ := zfq h
    unfold zth at h1
    split at h1
    ·rename_i u v hu hv
     exact ⟨d, v, rfl, hv, by rw [hu, zs3 h1]⟩
    ·cases h1
  ·have hj' : j ∈ l := by simpa [hx] using hj
   refine zeB hoj hw l ?_ hj'
   split at h
   ·split at h
    ·exact (zfq h).2
    ·exact h
    ·cases h
   ·cases h
theorem zpX {ops : Array Oper} (hQ : ∀ x a w1, CPost O σ E w R x a w1 → Q x a w1) (hV : VOk E.P O.V) (hc : ∀ O, xC O E.P E.call) (hy : ∀ O, zcT O E.P E.yld) (hs : zcW ops.toList st) (h : DInv O E ops.toList st R inL σ a w Λ done (i :: r) fr m) (hR : R ≠ .no) (ho : ops.toList[i]? = some o) (hE : isE ops.toList i = true)
  (hw : jg ops.toList o fr = some true) (he : ∀ j ∈ yv o, inL j) {K : Act → World → Prop}
  (hK : ∀ σ1 a1 w1 fr1 m1, Sle σ σ1 → Keep O w w1 → DInv O E ops.toList st R (fun j => j = i ∨ inL j) σ1 a1 w1 Λ (i :: done) r fr1 m1 → K a1 w1) : wpOpIn (FV O.V ρ) 0 E.P ops Q i K a w := by
 obtain ⟨⟨o', ho', hid, hed⟩, _⟩ := vF hs h.order
 rw [ho] at ho'; cases ho'
 have hoi : ops[i]? = some o := by simpa using ho
 have hf := h.frR
 have hlk : ∀ t ∈ o.looksAt ops.toList.toArray, qA (zfo ops.toList done inL fr) t = qA fr t := fun t ht => zgi (hs.ok i (xT ho)) ho he ht
 have hwk := yV hlk
 have hoc : ∀ m, yh o.op E.P o.type (zfo ops.toList done inL fr) m = yh o.op E.P o.type fr m := fun m => x8 _ _ (xh hlk)
 rw [zlw ho] at hE
 have hcl : xJ o.op = 3 := nQe hE
 have hev : (match ops.toList[i]? with
  | some o => match jg ops.toList o fr with
   | some true => zdO E ops.toList done i o (yA E ops.toList (i :: done) r) fr m
   | some false => cond (xX o.op E.P fr) (putK E o.dst (.lit undef) (yA E ops.toList (i :: done) r) fr m) .no
   | none => .no
  | none => .no) = R := h.eval
 rw [ho] at hev
 dsimp only at hev
 rw [hw] at hev
 have hev : zdO E ops.toList done i o (yA E ops.toList (i :: done) r) fr m = R := hev
 unfold zdO at hev
 simp only [hcl] at hev
 unfold wpOpIn
 rw [hoi]
 dsimp only
 rw [zcY hf (hwk.trans hw), if_pos rfl]
 refine zuA (O' := ⟨O.own, vQ Λ, O.V⟩) hV (hc ⟨O.own, vQ Λ, O.V⟩) (hy _) hf h.rel h.df o (by rw [hoc]; exact hev) hR ?_ (fun σ1 v t c w1 m1 g1 g2 g3 g4 g5 g6 => hQ _ _ _ (by
  rw [g6]
  refine ⟨σ1, g1, ⟨t, c, g2, rfl⟩, ⟨⟨h.size, fun t' u hu => ?_⟩, g3.fewer fun b o hb => (by show (Λ b).map _ = _; rw [h.late b o hb]; rfl), g4⟩, g5.own⟩
  obtain ⟨q1, q2⟩ := zfp hu
  obtain ⟨c', q3, q4⟩ := h.fra t' u q1 fun j hj _ => (by
   cases hb : kM ops.toList t' j with
   | false => rfl
   | true =>
    obtain ⟨oj, hoj, _⟩ := zgW hs h.order hj
    exact absurd ((vt hoj).1 hb) (q2 oj (List.mem_of_getElem? hoj)))
  exact ⟨c', qU g1 _ _ q3, q4⟩))
 intro σ1 c w1 v m1 g1 g2 g3 g4 g5 g6
 obtain ⟨fr1, k1, k2, k3⟩ := zcm g6 hR
 cases hrc : za3 E.P ops.toList fr1 m1 (zcl ops.toList i done) with
 | false => rw [hrc] at k1; exact absurd k1.symm hR
 | true =>
  rw [hrc] at k1
  have hil : ¬ inL i := fun hx => hid (h.sub i hx)
  refine hK σ1 _ w1 fr1 m1 g1 g5.own ⟨by rw [h.order]; simp, k1, ?_, ?_, ?_, ?_, g3, h.late, ?_, ?_⟩
  ·rintro j (rfl | hj)
   ·simp
   ·exact List.mem_cons_of_mem _ (h.sub j hj)
  ·rintro j oj (rfl | hj) hoj k hk
   ·rw [ho] at hoj; cases hoj; exact .inr (he k hk)
   ·exact .inr (h.closed j oj hj hoj k hk)
  ·cases hd : o.dst with
   | none => exact h.size
   | some d => simpa [Act.put] using h.size
  ·intro t u hu hj
   by_cases hd : o.dst = some t
   ·obtain ⟨h1, h2⟩ := k3 t hd
    rw [h1] at hu; cases hu
    have hl : t < a.tmps.size := Nat.lt_of_lt_of_le h2 h.size
    exact ⟨c, g2, by rw [hd]; simp [Act.put, hl]⟩
   ·rw [k2 t hd] at hu
    obtain ⟨c', h1, h2⟩ := h.fra t u hu fun j hjd hjl => hj j (by simp [hjd]) (by
     rintro (rfl | h)
     ·exact hid hjd
     ·contradiction)
    refine ⟨c', qU g1 _ _ h1, ?_⟩
    cases hd' : o.dst with
    | none => exact h2
    | some d =>
     have : d ≠ t := fun e => hd (by rw [hd', e])
     simp only [Act.put]
     rw [Array.getElem?_setIfInBounds_ne this]; exact h2
  ·cases hd : o.dst <;> exact g4
  ·intro j hj hjl
   have hji : j ≠ i := fun e => hjl (.inl e)
   have hjd : j ∈ done := by simpa [hji] using hj
   have hjl' : ¬ inL j := fun e => hjl (.inr e)
   obtain ⟨oj, hoj, hp⟩ := h.pend j hjd hjl'
   obtain ⟨oj', hoj', hej⟩ := zgW hs h.order hjd
   rw [hoj] at hoj'; cases hoj'
   have hlj : ∀ t ∈ oj.looksAt ops.toList.toArray, qA fr1 t = qA fr t := fun t ht => k2 t fun e => zeS hs ho e hoj (fun hx => hid (hej i hx)) ht rfl
   have hdj : ∀ d, oj.dst = some d → qA fr1 d = qA fr d := fun d hd => k2 d fun e => zpY hs ho e hoj hd hji rfl
   refine ⟨oj, hoj, ?_⟩
   by_cases hc1 : xJ oj.op = 1
   ·rcases hp with ⟨h1, h2, hab⟩ | ⟨h1, u, h2, h3⟩
    ·exact .inl ⟨(yV hlj).trans h1, fun d hd => (by rw [hdj d hd]; exact h2 d hd), (ko (xh hlj)).trans hab⟩
    ·have hw1 := (yV hlj).trans h1
     have hmem : j ∈ zcl ops.toList i done := zif hjd hoj hc1 fun hx => hjl' (zmd h.closed _ i (fun o1 ho1 => by rw [ho] at ho1; cases ho1; exact he) j hx)
     obtain ⟨d, v1, q1, q2, q3⟩ := zeB hoj hw1 _ hrc hmem
     have : v1 = u := by rw [hdj d q1, (h2 d q1).1] at q2; exact (nQs q2).symm
     subst this
     exact .inr ⟨hw1, v1, fun d hd => by rw [hdj d hd]; exact h2 d hd, .inr (.inl ⟨hc1, m1.hp, fun _ _ hb => hb, fun nx df => (zk5 hc1 nx df).trans q3⟩)⟩
   ·exact zeE hp hlj hdj (fun e => absurd e hc1) fun b p hb => hb
theorem ztj (hs : zcW all st) (hR : R ≠ .no) (ho : all[i]? = some o) (he : ∀ j ∈ yv o, inL j) : ∀ (rest done : List Nat) (Λ : Lam) (fr : Fra) (m : Mem), DInv O E all st R inL σ a w Λ done rest fr m → i ∈ rest →
  (∃ Λ' done' rest' fr' m', DInv O E all st R inL σ a w Λ' done' rest' fr' m' ∧ i ∈ done') ∨
  (∃ Λ' done' rest' fr' m', DInv O E all st R inL σ a w Λ' done' (i :: rest') fr' m' ∧ isE all i = true ∧ jg all o fr' = some true)
 | [], done, Λ, fr, m, h, hi => by cases hi
 | x :: r, done, Λ, fr, m, h, hi => by
  obtain ⟨⟨ox, hox, hxd, hed⟩, hEx⟩ := vF hs h.order
  have go : ∀ Λ' fr' m', DInv O E all st R inL σ a w Λ' (x :: done) r fr' m' → (∃ Λ' done' rest' fr' m', DInv O E all st R inL σ a w Λ' done' rest' fr' m' ∧ i ∈ done') ∨
    (∃ Λ' done' rest' fr' m', DInv O E all st R inL σ a w Λ' done' (i :: rest') fr' m' ∧ isE all i = true ∧ jg all o fr' = some true) := fun Λ' fr' m' h' => by
   by_cases hx : i = x
   ·subst hx; exact .inl ⟨Λ', _, r, fr', m', h', by simp⟩
   ·exact ztj hs hR ho he r (x :: done) Λ' fr' m' h' (by simpa [hx] using hi)
  cases hE : isE all x with
  | false =>
   obtain ⟨Λ', fr', m', h'⟩ := zy3 hs h hR hox (.inl hE)
   exact go _ _ _ h'
  | true =>
   by_cases hx : i = x
   ·subst hx
    rw [ho] at hox; cases hox
    cases hw : jg all o fr with
    | none =>
     have hev : (match all[i]? with
      | some o => match jg all o fr with
       | some true => zdO E all done i o (yA E all (i :: done) r) fr m
       | some false => cond (xX o.op E.P fr) (putK E o.dst (.lit undef) (yA E all (i :: done) r) fr m) .no
       | none => .no
      | none => .no) = R := h.eval
     rw [ho] at hev
     dsimp only at hev
     rw [hw] at hev
     exact absurd hev.symm hR
    | some b =>
     cases b with
     | true => exact .inr ⟨Λ, done, r, fr, m, h, hE, hw⟩
     | false =>
      obtain ⟨Λ', fr', m', h'⟩ := zy3 hs h hR ho (.inr hw)
      exact go _ _ _ h'
   ·exfalso
    have hir : i ∈ r := by simpa [hx] using hi
    obtain ⟨o1, ho1, k, hk, hk2⟩ := hEx hE i hir
    rw [ho] at ho1; cases ho1
    have hkd := h.sub k (he k hk)
    rcases hk2 with rfl | hk2
    ·exact hxd hkd
    ·exact zkW hs h.order (List.mem_cons_of_mem _ hk2) hkd
theorem zeK {ops : Array Oper} (hs : zcW ops.toList st) {listed : Array Bool} (hsz : listed.size = ops.size) (hr : Region.ready .any ops listed = []) : ∀ (d r : List Nat), st = d.reverse ++ r → ∀ j ∈ d, listed.getD j false = true
 | [], r, _, j, hj => by cases hj
 | x :: d, r, h, j, hj => by
  have ih := zeK hs hsz hr d (x :: r) (by rw [h]; simp)
  rcases List.mem_cons.1 hj with rfl | hj
  ·obtain ⟨⟨o, ho, _, hed⟩, _⟩ := vF (done := d) (x := j) (r := r) hs (by rw [h]; simp)
   have hlt : j < listed.size := by rw [hsz]; simpa using xT ho
   cases hb : listed.getD j false with
   | true => rfl
   | false =>
    exfalso
    have : j ∈ Region.ready .any ops listed := by
     rw [mem_ready]
     refine ⟨?_, o, by simpa using ho, fun e he hb => ih e.on (hed e.on ?_)⟩
     ·rw [Array.getD_eq_getD_getElem?] at hb ⊢
      rw [Array.getElem?_eq_getElem hlt] at hb ⊢
      exact hb
     ·exact List.mem_map.2 ⟨e, List.mem_filter.2 ⟨by simpa using he, hb⟩, rfl⟩
    rw [hr] at this
    cases this
  ·exact ih j hj
theorem zjL {listed : Array Bool} (h : i < listed.size) : (fun j => (listed.setIfInBounds i true).getD j false = true) = fun j => j = i ∨ listed.getD j false = true := by
 funext j
 apply propext
 rw [Array.getD_eq_getD_getElem?, Array.getD_eq_getD_getElem?]
 by_cases hji : j = i
 ·subst hji; simp [h]
 ·rw [Array.getElem?_setIfInBounds_ne (Ne.symm hji)]; simp [hji]
theorem zwP {ops : Array Oper} (hV : VOk E.P O.V) (hc : ∀ O, xC O E.P E.call) (hy : ∀ O, zcT O E.P E.yld) (hs : zcW ops.toList st) (hR : R ≠ .no) : ∀ (fuel : Nat) (listed : Array Bool) (L : List Nat) (σ : Sg) (a : Act) (w : World) (Λ : Lam) (done rest : List Nat) (fr : Fra) (m : Mem),
  listed.size = ops.size → L.length ≤ fuel → (∀ i, i < ops.size → listed.getD i false = false → i ∈ L) → DInv O E ops.toList st R (fun i => listed.getD i false = true) σ a w Λ done rest fr m →
  (∀ x a1 w1, CPost O σ E w R x a1 w1 → Q x a1 w1) → wpAnyIn (FV O.V ρ) 0 E.P .any ops Q fuel listed a w := by
 intro fuel
 have fin : ∀ (listed : Array Bool) (σ : Sg) (a : Act) (w : World) (Λ : Lam) (done rest : List Nat) (fr : Fra) (m : Mem), listed.size = ops.size → DInv O E ops.toList st R (fun i => listed.getD i false = true) σ a w Λ done rest fr m →
   (∀ x a1 w1, CPost O σ E w R x a1 w1 → Q x a1 w1) → Region.ready .any ops listed = [] → Q .normal a w := by
  intro listed σ a w Λ done rest fr m hsz h hQ hr
  have hall := zeK hs hsz hr st.reverse [] (by simp)
  have hrest : rest = [] := by
   cases rest with
   | nil => rfl
   | cons y l => exact absurd (h.sub y (hall y (by rw [h.order]; simp))) (zkW hs h.order (by simp))
  subst hrest
  obtain ⟨h1, h2⟩ := h.done fun j hj => hall j (by rw [h.order]; simpa using hj)
  exact hQ _ _ _ (by rw [h1]; exact .one h2 trivial)
 induction fuel with
 | zero =>
  intro listed L σ a w Λ done rest fr m hsz hL hmem h hQ
  have hr : Region.ready .any ops listed = [] := by
   cases hrd : Region.ready .any ops listed with
   | nil => rfl
   | cons i l =>
    exfalso
    have hi : i ∈ Region.ready .any ops listed := by rw [hrd]; simp
    obtain ⟨h1, o, h2, h3⟩ := mem_ready.1 hi
    have hlt : i < ops.size := (Array.getElem?_eq_some_iff.1 h2).1
    have : i ∈ L := hmem i hlt (by
     have hl : i < listed.size := by omega
     rw [Array.getD_eq_getD_getElem?, Array.getElem?_eq_getElem hl] at h1 ⊢
     exact h1)
    have : L = [] := by cases L with
     | nil => rfl
     | cons _ _ => simp at hL
    subst this
    contradiction
  exact ⟨hr, fin listed σ a w Λ done rest fr m hsz h hQ hr⟩
 | succ fuel ih =>
  intro listed L σ a w Λ done rest fr m hsz hL hmem h hQ
  refine ⟨fin listed σ a w Λ done rest fr m hsz h hQ, fun i hi => ?_⟩
  obtain ⟨h1, o, h2, h3⟩ := mem_ready.1 hi
  have hlt : i < ops.size := (Array.getElem?_eq_some_iff.1 h2).1
  have hl : i < listed.size := by omega
  have h1' : listed.getD i false = false := by
   rw [Array.getD_eq_getD_getElem?, Array.getElem?_eq_getElem hl] at h1 ⊢
   exact h1
  have ho : ops.toList[i]? = some o := by simpa using h2
  have hni : ¬ (listed.getD i false = true) := by rw [h1']; simp
  have he : ∀ j ∈ yv o, listed.getD j false = true := fun j hj => by
   obtain ⟨e, he, rfl⟩ := List.mem_map.1 hj
   obtain ⟨he1, he2⟩ := List.mem_filter.1 he
   exact h3 e (by simpa using he1) he2
  have next : ∀ σ1 a1 w1 Λ1 done1 rest1 fr1 m1, Sle σ σ1 → Keep O w w1 → DInv O E ops.toList st R (fun j => j = i ∨ listed.getD j false = true) σ1 a1 w1 Λ1 done1 rest1 fr1 m1 → wpAnyIn (FV O.V ρ) 0 E.P .any ops Q fuel (listed.setIfInBounds i true) a1 w1 := by
   intro σ1 a1 w1 Λ1 done1 rest1 fr1 m1 g1 g2 g3
   refine ih (listed.setIfInBounds i true) (L.erase i) σ1 a1 w1 Λ1 done1 rest1 fr1 m1 (by simpa using hsz) ?_ (fun j hj hjl => ?_) (by rw [zjL hl]; exact g3) fun x a2 w2 g => hQ x a2 w2 (g.trans g1 g2)
   ·rw [List.length_erase_of_mem (hmem i hlt h1')]; omega
   ·have hne : j ≠ i := by
     rintro rfl
     rw [Array.getD_eq_getD_getElem?] at hjl
     simp [hl] at hjl
    refine (List.mem_erase_of_ne hne).2 (hmem j hj ?_)
    rw [Array.getD_eq_getD_getElem?, Array.getElem?_setIfInBounds_ne (Ne.symm hne)] at hjl
    rw [Array.getD_eq_getD_getElem?]; exact hjl
  have pe : ∀ Λ1 done1 rest1 fr1 m1, DInv O E ops.toList st R (fun i => listed.getD i false = true) σ a w Λ1 done1 rest1 fr1 m1 → i ∈ done1 → wpOpIn (FV O.V ρ) 0 E.P ops Q i (wpAnyIn (FV O.V ρ) 0 E.P .any ops Q fuel (listed.setIfInBounds i true)) a w :=
   fun Λ1 done1 rest1 fr1 m1 g1 g2 => zmz hV hs g1 g2 hni ho he fun σ1 a1 w1 Λ2 q1 q2 q3 => next σ1 a1 w1 Λ2 done1 rest1 fr1 m1 q1 q2 q3
  have hst : i ∈ st := hs.mem i (by simpa using hlt)
  rw [h.order] at hst
  rcases List.mem_append.1 hst with hd | hd
  ·exact pe Λ done rest fr m h (by simpa using hd)
  ·rcases ztj hs hR ho he rest done Λ fr m h hd with ⟨Λ1, done1, rest1, fr1, m1, g1, g2⟩ | ⟨Λ1, done1, rest1, fr1, m1, g1, g2, g3⟩
   ·exact pe Λ1 done1 rest1 fr1 m1 g1 g2
   ·exact zpX hQ hV hc hy hs g1 hR ho g2 g3 he fun σ1 a1 w1 fr2 m2 q1 q2 q3 => next σ1 a1 w1 Λ1 _ _ fr2 m2 q1 q2 q3
theorem zh8 (hc : ∀ O, xC O E.P E.call) (hy : ∀ O, zcT O E.P E.yld) {i : Nat} {ops : Array Oper} : xK O E ρ (.region i ops true) := by
 intro hV σ a w fr m hρ h hn
 obtain ⟨R, hRe⟩ : ∃ R, qj E (.region i ops true) fr m = R := ⟨_, rfl⟩
 rw [hRe] at hn ⊢
 have hev : (match E.P.follows .mixedOrders, zhf ops with
  | true, some l => yA E ops.toList [] l fr m
  | _, _ => .no) = R := hRe
 split at hev
 ·rename_i st hf hpl
  obtain ⟨p1, p2, p3⟩ := zmy hpl
  have hs : zcW ops.toList st := ⟨fun i hi => by simpa using p2 i (by simpa using hi), p3, fun i hi => p1 i (by simpa using hi)⟩
  refine wpIn_region_any hf ?_
  have hL : ∀ (j : Nat), (Array.replicate ops.size false).getD j false = false := fun j => by
   rw [Array.getD_eq_getD_getElem?]
   by_cases hj : j < ops.size
   ·simp [hj]
   ·rw [Array.getElem?_eq_none (by simp; omega)]; rfl
  refine zwP (O := O) (R := R) hV hc hy hs hn ops.size _ (List.range ops.size) σ a _ (fun b => (O.late b).map fun o => (none, o)) [] st fr m (by simp) (by simp) (fun i hi _ => by simpa using hi) ?_ fun x a1 w1 g => g.trans (Sle.refl _) (Keep.drew O w)
  refine ⟨by simp, hev, fun i hi => (by rw [hL] at hi; cases hi), fun i o hi => (by rw [hL] at hi; cases hi), h.fr.1, fun t v hv _ => h.fr.2 t v hv, ?_, fun b o hb => (by simp [hb]), h.df, fun i hi => (by cases hi)⟩
  have : vQ (fun b => (O.late b).map fun o => (none, o)) = O.late := by
   funext b
   show ((O.late b).map _).map _ = _
   cases O.late b <;> rfl
  rw [this]
  exact h.rel.drew
 ·exact absurd hev.symm hn
end
section
variable {O : Ow} {σ σ' : Sg} {P : Program} {E : Env} {ρ : Option Nat} {a : Act} {w w' : World} {fr : Fra} {m : Mem} {k : CT} {hp : Hp} {nx n : Nat} {tmps : Array Value}
theorem yN (hc : ∀ O, xC O E.P E.call) (hy : ∀ O, zcT O E.P E.yld) : ∀ c : Code, xK O E ρ c
 | .skip => zjG
 | .region i ops false => zgX (hc O) (hy O)
 | .region i ops true => zh8 hc hy
 | .seq x y => zmm (yN hc hy x) (yN hc hy y)
 | .cond c x y => zjK (yN hc hy x) (yN hc hy y)
 | .block i c => zh9 (yN hc hy c)
 | .loop c => zjH (yN hc hy c)
 | .rangeFunc g ps ac bd => zh6 (hc O)
 | .exit i => zjJ
 | .scope c => zh5 (yN hc hy c)
 | .label l => zh7
 | .goto l => zjI
 | .ret => zmn
 | .refuse s => zgY
theorem zg6 {F : Fence} {n : Nat} {l : Nat} {f : FuncId} {fn : Func} {ac bd : Code} {R : Ending → World → Prop} (hF : F.fn f) (hfn : P.funcs[f]? = some fn)
  (h : ac.wpIn (F.inRound l) n P (Exit.then (fun a1 w1 => ∃ w2, (Instr.beginRound l).run P w1 = .ok () w2 ∧ bd.wpIn (F.inRound l) n P (fun e a w => ∃ ch, e = .panic ch ∧ a.defers = [] ∧ R (.panicked ch) w) a1 w2) (fun _ _ _ => False))
   { tmps := tmps, defers := [] } w) : RoundIn F n P l f tmps ac bd w R := by
 refine ⟨hF, fun c cs hr => ?_⟩
 let b : Frame := { (default : Frame) with fn := f, kind := .normal, roundOf := some l }
 have hb0 : Frame.round l f tmps ac bd .normal = b.atR { tmps := tmps, defers := [] } [.code ac, .beginRound, .code bd] := by
  simp [Frame.round, Frame.atR, b]
 have hr2 : (F.inRound l).room ((c :: cs).length + 1 + n) := hr
 have hF2 : (F.inRound l).fn b.fn := hF
 obtain ⟨e, a1, w1, hq, h1⟩ := h b [.beginRound, .code bd] (c :: cs) rfl hF2 hr2
 rw [hb0]
 cases e with
 | normal =>
  obtain ⟨w2, hbr, hbd⟩ := hq
  obtain ⟨e2, a2, w3, ⟨ch, rfl, hd, hR⟩, h2⟩ := hbd b [] (c :: cs) rfl hF2 hr2
  obtain ⟨todo, h2⟩ := h2
  have s1 : StepsIn (Machine.fenced P F) P (lone (b.atR a1 [.beginRound, .code bd]) (c :: cs) w1) (lone (b.atR a1 [.code bd]) (c :: cs) w2) :=
   .one (fenced_calm (fr := b.atR a1 [.beginRound, .code bd]) hF2 hr2 rfl) (stepR_beginRound rfl hbr)
  have hl : Frame.leaving P { b.atR a2 todo with mode := .panicking ch } w3 (.panicked ch) := ⟨rfl, hd, fn, hfn⟩
  exact ⟨.panicked ch, w3, hR, StepsIn.trans h1 (StepsIn.trans s1 (StepsIn.trans h2 (.one (fenced_leaving hF2 hr2 hl) (step_leave_panicked hl))))⟩
 | exit id => exact hq.elim
 | goto t => exact hq.elim
 | ret => exact hq.elim
 | panic chain => exact hq.elim
 | outgrown => exact hq.elim
theorem zgc : ∀ (ps : List Nat) (args : List AV) (cs : List Value) (fr fr' : Fra) (tmps : Array Value), zA σ args = some cs → FrR σ n fr tmps → za6 n ps args fr = some fr' →
  cs.length = ps.length ∧ FrR σ n fr' ((ps.zip cs).foldl (fun tmps (x : Nat × Value) => tmps.setIfInBounds x.1 x.2) tmps)
 | [], [], cs, fr, fr', tmps, hx, hf, h => by cases hx; cases h; exact ⟨rfl, hf⟩
 | t :: ps, v :: args, cs, fr, fr', tmps, hx, hf, h => by
  simp only [zA] at hx
  cases hv : zK σ v with
  | none => rw [hv] at hx; cases hx
  | some c =>
   cases hl : zA σ args with
   | none => rw [hv, hl] at hx; cases hx
   | some cs' =>
    rw [hv, hl] at hx
    cases hx
    have h : cond (Nat.blt t n && Nat.blt t 256) (za6 n ps args (zak v fr t)) none = some fr' := h
    cases hb : (Nat.blt t n && Nat.blt t 256) with
    | false => rw [hb] at h; cases h
    | true =>
     rw [hb] at h
     simp only [Bool.and_eq_true] at hb
     have hf' := FrR.put (a := ⟨tmps, []⟩) hf hv (qm hb.2) (qm hb.1)
     obtain ⟨h1, h2⟩ := zgc ps args cs' _ fr' _ hl hf' h
     exact ⟨by simp [h1], h2⟩
 | [], _ :: _, cs, fr, fr', tmps, hx, hf, h => by cases h
 | _ :: _, [], cs, fr, fr', tmps, hx, hf, h => by cases h
theorem zcF (v : AV) : qA (zak v (xL 8) 0) 0 = some v := by rw [vp _ _ (by omega)]; simp
theorem za1 {l : Nat} {e : Loc} {b : Bool} {st : LoopState} {pe : Ex} {jump : Option Code} {R : Out} {w0 : World} {σ0 : Sg} (hw : RelW O σ hp nx w) (he : σ l = some e) (hs : Sle σ0 σ) (hk : Keep O w0 w)
  (hj : exC pe = jump) (hb : jump.isNone = b) (hst : st = if jump.isNone then .ready else .done) (h : zan l b st pe hp nx = R) (hR : R ≠ .no) :
  ∃ v w', (Instr.endRound e.bl jump).run P w = .ok v w' ∧ xg O σ0 w0 R (.returned v) w' := by
 unfold zan at h
 split at h
 ·rename_i st0 pe0 n tf ps c d hl
  obtain ⟨r, h1, h2, h3, h4, h5, h6, h7, h8⟩ := hw.obj _ _ _ hl he
  have hwr := hw.write (o' := .loop st pe n tf ps c d) (w' := w.putObj e.bl (.loop { r with state := if jump.isNone then .ready else .done, pending := jump })) hl rfl he
   (by
    rw [World.putObj_heap_same (Array.getElem?_eq_some_iff.1 h1).1]
    exact ⟨_, rfl, hst.symm, hj.symm, h4, h5, h6, h7, h8⟩)
   (by simp [World.putObj]) (fun k hk => World.putObj_heap_other hk) rfl rfl rfl
  subst h
  exact ⟨_, _, run_endRound (P := P) jump h1, σ, .lit (.bool b), .bool b, hs, zcF _, rfl, by rw [hb], hwr.1, hk.trans hwr.2⟩
 ·exact absurd h.symm hR
def ztw : Out → Bool
 | .ok (.panic _) _ _ => true
 | _ => false
theorem vB {l : Nat} {b : Bool} {st : LoopState} {pe : Ex} {R : Out} (h : zan l b st pe hp nx = R) : ztw R = false := by
 unfold zan at h
 split at h <;> (subst h; rfl)
theorem zt8 {call yld : CallT} (hc : ∀ O, xC O P call) (hy : ∀ O, zcT O P yld) : zcT O P (ziW P call yld) := by
 intro hV σ w l e args cs hp nx hw he hx hn
 obtain ⟨R, hR⟩ : ∃ R, ziW P call yld l args hp nx = R := ⟨_, rfl⟩
 rw [hR] at hn ⊢
 unfold ziW at hR
 split at hR
 ·rename_i pe n tf ps ac bd hl
  obtain ⟨r, h1, h2, h3, h4, h5, h6, h7, h8⟩ := hw.obj _ _ _ hl he
  split at hR
  ·rename_i fr hps
   obtain ⟨g1, g2⟩ := zgc ps args cs tf fr r.tmps hx h7 hps
   have hz : (r.params.zip cs.toArray).foldl (fun tmps (x : Nat × Value) => tmps.setIfInBounds x.1 x.2) r.tmps = (ps.zip cs).foldl (fun tmps (x : Nat × Value) => tmps.setIfInBounds x.1 x.2) r.tmps := by
    rw [← Array.foldl_toList, Array.toList_zip, h4]
   let E' : Env := ⟨P, call, yld, n, some l⟩
   have hρ : RdR σ E' (some e.bl) := ⟨e, he, rfl⟩
   have h0 : StR O σ E' ⟨(r.params.zip cs.toArray).foldl (fun tmps (x : Nat × Value) => tmps.setIfInBounds x.1 x.2) r.tmps, []⟩ w fr ⟨hp, nx, []⟩ := ⟨by rw [hz]; exact g2, hw, trivial⟩
   have hR : zpQ E' l bd (qj E' ac fr ⟨hp, nx, []⟩) = R := hR
   have hn1 : qj E' ac fr ⟨hp, nx, []⟩ ≠ .no := by intro e0; rw [e0] at hR; exact hn hR.symm
   have main : ∀ U : Exit → Act → World → Prop, (∀ x a3 w3 ex3 fr3 hp3 nx3 σ3, zjx l (.ok ex3 fr3 ⟨hp3, nx3, []⟩) = R → Sle σ σ3 → exR σ3 ex3 x → a3.defers = [] → RelW O σ3 hp3 nx3 w3 → Keep O w w3 → U x a3 w3) →
     r.assign.wpIn (FV O.V (some e.bl)) 0 P (Exit.then (fun a1 w1 => ∃ w2, (Instr.beginRound e.bl).run P w1 = .ok () w2 ∧ r.body.wpIn (FV O.V (some e.bl)) 0 P U a1 w2) (fun _ _ _ => False))
      ⟨(r.params.zip cs.toArray).foldl (fun tmps (x : Nat × Value) => tmps.setIfInBounds x.1 x.2) r.tmps, []⟩ w := by
    intro U hU
    rw [h5, h6]
    refine wpIn_mono (yN (E := E') (ρ := some e.bl) hc hy ac hV σ _ w fr ⟨hp, nx, []⟩ hρ h0 hn1) ?_
    intro x a1 w1 hp1
    cases hE : qj E' ac fr ⟨hp, nx, []⟩ with
    | no => exact absurd hE hn1
    | ok ex fr1 m1 =>
     rw [hE] at hp1 hR
     cases ex with
     | normal =>
      obtain ⟨σ1, k1, k2, k3, k4⟩ := hp1
      cases x <;> first | exact k2.elim | skip
      have hR : (match qz m1.hp l with
       | some (.loop .ready p n tf ps c d) => zjx l (qj E' bd fr1 ⟨hset (.loop .busy p n tf ps c d) m1.hp l, m1.nx, m1.df⟩)
       | _ => .no) = R := hR
      split at hR
      ·rename_i p n2 tf2 ps2 c2 d2 hl1
       have he1 := k1 _ _ he
       obtain ⟨r1, j1, j2, j3, j4, j5, j6, j7, j8⟩ := k3.rel.obj _ _ _ hl1 he1
       have hwr := k3.rel.write (o' := .loop .busy p n2 tf2 ps2 c2 d2) (w' := w1.putObj e.bl (.loop { r1 with state := .busy })) hl1 rfl he1
        (by
         rw [World.putObj_heap_same (Array.getElem?_eq_some_iff.1 j1).1]
         exact ⟨_, rfl, rfl, j3, j4, j5, j6, j7, j8⟩)
        (by simp [World.putObj]) (fun k hk => World.putObj_heap_other hk) rfl rfl rfl
       refine ⟨_, run_beginRound j1 j2, ?_⟩
       have hn2 : qj E' bd fr1 ⟨hset (.loop .busy p n2 tf2 ps2 c2 d2) m1.hp l, m1.nx, m1.df⟩ ≠ .no := by intro e0; rw [e0] at hR; exact hn hR.symm
       refine wpIn_mono (yN (E := E') (ρ := some e.bl) hc hy bd hV σ1 a1 _ fr1 ⟨hset (.loop .busy p n2 tf2 ps2 c2 d2) m1.hp l, m1.nx, m1.df⟩ (hρ.mono k1) ⟨k3.fr, hwr.1, k3.df⟩ hn2) ?_
       intro x a3 w3 hp3
       cases hE2 : qj E' bd fr1 ⟨hset (.loop .busy p n2 tf2 ps2 c2 d2) m1.hp l, m1.nx, m1.df⟩ with
       | no => exact absurd hE2 hn2
       | ok ex3 fr3 m3 =>
        rw [hE2] at hp3 hR
        obtain ⟨σ3, q1, q2, q3, q4⟩ := hp3
        obtain ⟨hp3, nx3, df3⟩ := m3
        cases df3 with
        | cons d df => cases ex3 <;> exact absurd hR.symm hn
        | nil =>
         have hd3 : a3.defers = [] := by
          have := q3.df
          cases hds : a3.defers with
          | nil => rfl
          | cons x y => rw [hds] at this; exact this.elim
         exact hU x a3 w3 ex3 fr3 hp3 nx3 σ3 hR (k1.trans q1) q2 hd3 q3.rel (k4.trans (hwr.2.trans q4))
      ·exact absurd hR.symm hn
     | ret => exact absurd hR.symm hn
     | exit i => exact absurd hR.symm hn
     | goto i => exact absurd hR.symm hn
     | panic v => exact absurd hR.symm hn
   cases hpan : ztw R with
   | true =>
    obtain ⟨fnr, hfnr⟩ := (hV r.fn).1 h8
    refine ⟨r, h1, by rw [g1, ← h4]; simp, zg6 h8 hfnr (main _ ?_)⟩
    intro x a3 w3 ex3 fr3 hp3 nx3 σ3 hR3 hs3 q2 hd3 q3 q4
    cases ex3 with
    | panic v =>
     have hR3 : Out.ok (.panic v) (xL 8) ⟨hp3, nx3, []⟩ = R := hR3
     subst hR3
     cases x <;> first | exact q2.elim | skip
     obtain ⟨t, c, u1, rfl⟩ := q2
     exact ⟨_, rfl, hd3, σ3, t, c, hs3, u1, rfl, q3, q4⟩
    | normal => rw [vB hR3] at hpan; cases hpan
    | ret => rw [vB hR3] at hpan; cases hpan
    | exit i => rw [vB hR3] at hpan; cases hpan
    | goto i => rw [vB hR3] at hpan; cases hpan
   | false =>
    refine ⟨r, h1, by rw [g1, ← h4]; simp, roundIn_of_wpIn (F := FV O.V none) h8 (main _ ?_)⟩
    intro x a3 w3 ex3 fr3 hp3 nx3 σ3 hR3 hs3 q2 hd3 q3 q4
    have he3 := hs3 _ _ he
    cases ex3 with
    | panic v =>
     have hR3 : Out.ok (.panic v) (xL 8) ⟨hp3, nx3, []⟩ = R := hR3
     subst hR3
     cases hpan
    | normal =>
     cases x <;> first | exact q2.elim | exact za1 q3 he3 hs3 q4 rfl rfl rfl hR3 hn
    | ret =>
     cases x <;> first | exact q2.elim | exact za1 q3 he3 hs3 q4 rfl rfl rfl hR3 hn
    | exit i =>
     cases x <;> first | exact q2.elim | skip
     rename_i j
     have q2 : i = j := q2
     subst q2
     exact za1 q3 he3 hs3 q4 rfl rfl rfl hR3 hn
    | goto i =>
     cases x <;> first | exact q2.elim | skip
     rename_i j
     have q2 : i = j := q2
     subst q2
     exact za1 q3 he3 hs3 q4 rfl rfl rfl hR3 hn
  ·exact absurd hR.symm hn
 ·exact absurd hR.symm hn
end
section
variable {O : Ow} {σ σ' : Sg} {P : Program} {E : Env} {ρ : Option Nat} {a : Act} {w w' : World} {fr : Fra} {m : Mem} {k : CT} {hp : Hp} {nx n : Nat} {tmps : Array Value}
def zts (σ : Sg) (u : FrameMode) : Option AV → Prop
 | none => u = .returning
 | some v => ∃ t c, zK σ v = some (.iface t c) ∧ u = .panicking [{ v := .iface t c, recovered := false }]
theorem zp2 {r R : Out} (h : zlZ r = R) (hR : R ≠ .no) : ∃ ex fr1 m1, (ex = .normal ∨ ex = .ret) ∧ r = .ok ex fr1 m1 ∧ m1.df = [] ∧ R = zdR (.lit undef) m1.hp m1.nx := by
 unfold zlZ at h
 split at h
 ·exact ⟨_, _, _, .inl rfl, rfl, rfl, h.symm⟩
 ·exact ⟨_, _, _, .inr rfl, rfl, rfl, h.symm⟩
 ·exact absurd h.symm hR
theorem zhc {fn : Func} (h : fn.results.isEmpty = true) (tmps : Array Value) (w : World) : (results fn tmps).run P w = .ok (.tuple #[]) w := by
 have : fn.results = #[] := by simpa using h
 simp [results, this]
theorem zya {call yld : CallT} (hV : VOk P O.V) (hc : ∀ O, xC O P call) (hy : ∀ O, zcT O P yld) {f : FuncId} {args : List AV} {cs : List Value} {pn : Option AV} {u : FrameMode} {R : Out} (hx : zA σ args = some cs) (hw : RelW O σ hp nx w)
  (hu : zts σ u pn) (h : zsM P call yld f args (pn.getD (.lit .nilIface)) hp nx = R) (hR : R ≠ .no) :
  (∀ w, (callFunc f cs.toArray).run P w = .ok (.enter f cs.toArray) w) ∧ ∃ hp' nx', R = zdR (.lit undef) hp' nx' ∧
   CallsDIn (FV O.V none) 0 P f cs.toArray u w fun e u' w' => ∃ v, e = .returned v ∧ settle u' = .returning ∧ ∃ σ', Sle σ σ' ∧ RelW O σ' hp' nx' w' ∧ Keep O w w' := by
 unfold zsM at h
 split at h
 ·rename_i fn hf
  split at h
  ·rename_i id d ts ats ty pos af c hb
   cases hcl : zo9 (kN P f args) with
   | false => rw [hcl] at h; exact absurd h.symm hR
   | true =>
    rw [hcl] at h
    have hcf : ∀ w, (callFunc f cs.toArray).run P w = .ok (.enter f cs.toArray) w := by
     cases hd : kN P f args <;> rw [hd] at hcl <;> first | cases hcl | skip
     exact fun w => (jO hx hd w).2.2
    refine ⟨hcf, ?_⟩
    let E' : Env := ⟨P, call, yld, fn.ntmps, none⟩
    have h : cond (Nat.blt d 256 && Nat.blt d fn.ntmps && fn.results.isEmpty && Nat.ble (len args) 256) (zlZ (qj E' c (zak (pn.getD (.lit .nilIface)) (jw args 0 (xL 8)) d) ⟨hp, nx, []⟩)) .no = R := h
    cases hq : (Nat.blt d 256 && Nat.blt d fn.ntmps && fn.results.isEmpty && Nat.ble (len args) 256) with
    | false => rw [hq] at h; exact absurd h.symm hR
    | true =>
     rw [hq] at h
     simp only [Bool.and_eq_true] at hq
     obtain ⟨⟨⟨q1, q2⟩, q3⟩, q4⟩ := hq
     have hl := qZ q4
     rw [yz] at hl
     obtain ⟨ex, fr1, m1, hex, hr, hdf, rfl⟩ := zp2 (r := qj E' c (zak (pn.getD (.lit .nilIface)) (jw args 0 (xL 8)) d) ⟨hp, nx, []⟩) h hR
     obtain ⟨RR, hRR⟩ : ∃ RR : Ending → FrameMode → World → Prop, RR = fun e u' w' => ∃ v, e = .returned v ∧ settle u' = .returning ∧ ∃ σ', Sle σ σ' ∧ RelW O σ' m1.hp m1.nx w' ∧ Keep O w w' := ⟨_, rfl⟩
     refine ⟨_, _, rfl, ?_⟩
     rw [← hRR]
     refine callsDIn_of_wpSIn hf hb ((hV f).2 ⟨_, hf⟩) fun c0 cs0 hu0 => wpSIn_seq (wpSIn_region ?_)
     obtain ⟨tm, htm⟩ : ∃ tm, cs.toArray ++ Array.replicate (fn.ntmps - cs.toArray.size) undef = tm := ⟨_, rfl⟩
     have hE : qj E' c (zak (pn.getD (.lit .nilIface)) (jw args 0 (xL 8)) d) ⟨hp, nx, []⟩ ≠ .no := by rw [hr]; simp
     have hfr := ziH hx hl fn.ntmps
     rw [htm] at hfr ⊢
     have key : ∀ (crc : Value) (u' : FrameMode), zK σ (pn.getD (.lit .nilIface)) = some crc → settle u' = .returning →
       c.wpSIn (FV O.V none) 0 P (bodyPostS P fn c0 cs0 RR)
        (Act.put { tmps := tm, defers := [] } (some d) crc) ({ c0 with mode := u' } :: cs0) w := by
      intro crc u' h1 h2
      refine wpSIn_of_wpIn rfl (wpIn_mono (yN (E := E') (ρ := none) hc hy c hV σ _ w _ ⟨hp, nx, []⟩ rfl ⟨FrR.put (a := ⟨_, []⟩) hfr h1 (qm q1) (qm q2), hw, trivial⟩ hE) ?_)
      intro x a3 w3 hp3
      rw [hr] at hp3
      obtain ⟨σ3, k1, k2, k3, k4⟩ := hp3
      have hd3 : a3.defers = [] := by
       have := k3.df
       rw [hdf] at this
       cases hds : a3.defers with
       | nil => rfl
       | cons x y => rw [hds] at this; exact this.elim
      rcases hex with rfl | rfl <;> cases x <;> first | exact k2.elim | exact ⟨hd3, u', rfl, _, zhc q3 _ _, by rw [hRR]; exact ⟨_, rfl, h2, σ3, k1, k3.rel, k4⟩⟩
     show wpOpsSIn (FV O.V none) 0 P _ _ [0] _ _ _
     unfold wpOpsSIn
     refine ⟨fun f' hf' => (by simp [Oper.about, resolve, Target.leads] at hf'), ?_⟩
     cases pn with
     | none =>
      have hu : c0.mode = .returning := hu0.trans hu
      have := key .nilIface .returning rfl rfl
      have hc0 : ({ c0 with mode := .returning } : Frame) = c0 := by rw [← hu]
      rw [hc0] at this
      simp [Region.wanted, execOp, resolve, invoke, builtin, recoverD, hu, Exit.thenS, wpOpsSIn]
      exact this
     | some v =>
      obtain ⟨t, cv, h1, h2⟩ := hu
      have hu : c0.mode = _ := hu0.trans h2
      have := key (.iface t cv) (.panicking [{ v := .iface t cv, recovered := true }]) h1 rfl
      simp [Region.wanted, execOp, resolve, invoke, builtin, recoverD, hu, Exit.thenS, wpOpsSIn]
      exact this
  ·exact absurd h.symm hR
 ·exact absurd h.symm hR
theorem zaE {call yld : CallT} (hV : VOk P O.V) (hc : ∀ O, xC O P call) (hy : ∀ O, zcT O P yld) {fn : Func} {w0 : World} {σ0 : Sg} : ∀ (l : List AD) (ds : List Deferred) (u : FrameMode) (pn : Option AV) (σ : Sg) (hp : Hp) (nx : Nat) (w : World) (R : Out),
  zts σ u pn → DfL σ ds l → FrR σ n fr tmps → RelW O σ hp nx w → Sle σ0 σ → Keep O w0 w → leave P call yld fn fr l pn hp nx = R → R ≠ .no → LeavesInM (FV O.V none) 0 P fn tmps (xg O σ0 w0 R) ds u w
 | [], ds, u, pn, σ, hp, nx, w, R, hu, hd, hf, hw, hs, hk, h, hR => by
  cases ds with
  | cons _ _ => exact hd.elim
  | nil =>
   cases pn with
   | some v =>
    obtain ⟨t, c, h1, rfl⟩ := hu
    have h : Out.ok (.panic v) (xL 8) ⟨hp, nx, []⟩ = R := h
    subst h
    exact ⟨σ, t, c, hs, h1, rfl, hw, hk⟩
   | none =>
    have hu : u = .returning := hu
    subst hu
    have h : (match Ev.resOf P hp fr fn.results.toList with
     | some vs => zdR (zum vs) hp nx
     | none => .no) = R := h
    cases hr : Ev.resOf P hp fr fn.results.toList with
    | none => rw [hr] at h; exact absurd h.symm hR
    | some vs =>
     rw [hr] at h
     subst h
     obtain ⟨c, h1, h2⟩ := zjV hw hf hr
     exact ⟨c, h2, σ, _, c, hs, zcF _, h1, rfl, hw, hk⟩
 | .mark b :: l, ds, u, pn, σ, hp, nx, w, R, hu, hd, hf, hw, hs, hk, h, hR => by
  cases ds with
  | nil => exact hd.elim
  | cons d ds =>
   obtain ⟨⟨e, he, rfl⟩, hd⟩ := hd
   unfold leave at h
   split at h
   ·rename_i hb
    have h1 := hw.obj _ _ _ hb he
    have h1 : w.heap[e.bl]? = some (.deferred (some [])) := h1
    have hwr := hw.write (o' := .dead) (w' := w.putObj e.bl (.deferred none)) hb rfl he trivial (by simp [World.putObj]) (fun k hk => World.putObj_heap_other hk) rfl rfl rfl
    refine ⟨?_, .inl ⟨e.bl, _, rfl, run_takeDeferred h1, zaE hV hc hy l ds u pn σ _ _ _ R hu hd hf hwr.1 hs (hk.trans hwr.2) h hR⟩⟩
    cases pn with
    | none => have hu : u = .returning := hu; subst hu; simp
    | some v => obtain ⟨t, c, _, rfl⟩ := hu; simp
   ·exact absurd h.symm hR
 | .call f args :: l, ds, u, pn, σ, hp, nx, w, R, hu, hd, hf, hw, hs, hk, h, hR => by
  cases ds with
  | nil => exact hd.elim
  | cons d ds =>
   obtain ⟨⟨ca, cb, hx, rfl⟩, hd⟩ := hd
   unfold leave at h
   cases hr : zsM P call yld f args (pn.getD (.lit .nilIface)) hp nx with
   | no => rw [hr] at h; exact absurd h.symm hR
   | ok ex fr1 m1 =>
    rw [hr] at h
    obtain ⟨h1, hp', nx', h2, h3⟩ := zya hV hc hy hx hw hu hr (by simp)
    unfold zdR at h2
    cases h2
    refine ⟨?_, .inr ⟨fun hd => absurd hd (by simp [FV]), .func f, cb.toArray, f, (ca ++ cb).toArray, rfl, ?_, fun f' hf' => (by cases hf'; exact h3.1), ?_⟩⟩
    ·cases pn with
     | none => have hu : u = .returning := hu; subst hu; simp
     | some v => obtain ⟨t, c, _, rfl⟩ := hu; simp
    ·have := h1 w
     have e : ca.toArray ++ cb.toArray = (ca ++ cb).toArray := by simp
     show (callFunc f (ca.toArray ++ cb.toArray)).run P w = _
     rw [e]; exact this
    ·refine ⟨h3.1, fun c cs hm hroom => ?_⟩
     obtain ⟨e, u', w', fr', ⟨v, rfl, h5, σ', h6, h7, h8⟩, h9⟩ := h3.2 c cs hm hroom
     refine ⟨.returned v, u', w', fr', ?_, h9⟩
     show LeavesInM (FV O.V none) 0 P fn tmps (xg O σ0 w0 R) ds (settle u') w'
     rw [h5]
     exact zaE hV hc hy l ds .returning none σ' _ _ _ R rfl (hd.mono h6) (hf.mono h6) h7 (hs.trans h6) (hk.trans h8) h hR
theorem zsX {call yld : CallT} (hc : ∀ O, xC O P call) (hy : ∀ O, zcT O P yld) : xC O P (zfl P call yld) := by
 intro hV σ w f args cs hp nx hw hx hn
 obtain ⟨R, hR⟩ : ∃ R, zfl P call yld f args hp nx = R := ⟨_, rfl⟩
 rw [hR] at hn ⊢
 unfold zfl at hR
 split at hR
 ·rename_i fn hf
  split at hR
  ·rename_i c hb
   cases hq : Nat.ble (len args) 256 with
   | false => rw [hq] at hR; exact absurd hR.symm hn
   | true =>
    rw [hq] at hR
    have hl := qZ hq
    rw [yz] at hl
    let E' : Env := ⟨P, call, yld, fn.ntmps, none⟩
    have hR : zoz P call yld fn (qj E' c (jw args 0 (xL 8)) ⟨hp, nx, []⟩) = R := hR
    have hE : qj E' c (jw args 0 (xL 8)) ⟨hp, nx, []⟩ ≠ .no := by intro e; rw [e] at hR; exact hn hR.symm
    refine callsIn_of_wp_marks hf hb ((hV f).2 ⟨_, hf⟩) (wpIn_mono (yN (E := E') (ρ := none) hc hy c hV σ _ w _ ⟨hp, nx, []⟩ rfl ⟨ziH hx hl fn.ntmps, hw, trivial⟩ hE) ?_)
    intro x a1 w1 hp1
    cases hr : qj E' c (jw args 0 (xL 8)) ⟨hp, nx, []⟩ with
    | no => exact absurd hr hE
    | ok ex fr1 m1 =>
     rw [hr] at hp1 hR
     obtain ⟨σ1, k1, k2, k3, k4⟩ := hp1
     cases ex with
     | normal =>
      cases x <;> first | exact k2.elim | exact zaE hV hc hy m1.df a1.defers .returning none σ1 _ _ _ R rfl k3.df k3.fr k3.rel k1 k4 hR hn
     | ret =>
      cases x <;> first | exact k2.elim | exact zaE hV hc hy m1.df a1.defers .returning none σ1 _ _ _ R rfl k3.df k3.fr k3.rel k1 k4 hR hn
     | panic v =>
      cases x <;> first | exact k2.elim | skip
      obtain ⟨t, c, g1, rfl⟩ := k2
      exact zaE hV hc hy m1.df a1.defers _ (some v) σ1 _ _ _ R ⟨t, c, g1, rfl⟩ k3.df k3.fr k3.rel k1 k4 hR hn
     | exit i => exact absurd hR.symm hn
     | goto i => exact absurd hR.symm hn
  ·exact absurd hR.symm hn
 ·exact absurd hR.symm hn
end
structure Ent where
 f : FuncId
 args : List AV
 pre : List (Nat × List AV)
 v : AV
 nw : Option (List AV)
def zjk (u v : AV) : Bool := match u, v with
 | .agg l, .agg k => zaM l k
 | u, v => vU u v
def zji : List AV → List AV → Bool
 | [], [] => true
 | u :: l, v :: k => cond (zjk u v) (zji l k) false
 | _, _ => false
def zqp (u v : AV) : Bool := match u, v with
 | .tup l, .tup k => zji l k
 | u, v => zjk u v
theorem zjj {u v : AV} (h : zjk u v = true) : u = v := by
 unfold zjk at h
 split at h
 ·rw [jM h]
 ·exact vo h
theorem zeh : ∀ {l k : List AV}, zji l k = true → l = k
 | [], [], _ => rfl
 | u :: l, v :: k, h => by obtain ⟨h1, h2⟩ := xd (a := zjk u v) (b := zji l k) h; rw [zjj h1, zeh h2]
 | [], _ :: _, h => by cases h
 | _ :: _, [], h => by cases h
theorem zqo {u v : AV} (h : zqp u v = true) : u = v := by
 unfold zqp at h
 split at h
 ·rw [zeh h]
 ·exact zjj h
def zfv (o : Option xD) (l : List AV) : Bool := match o with
 | some (.cells c _) => match vS c (len l) 0 with
  | some k => zaM k l
  | none => false
 | _ => false
def zcn (hp : Hp) : List (Nat × List AV) → Bool
 | [] => true
 | (b, l) :: ps => cond (zfv (qz hp b) l) (zcn hp ps) false
def zlC (es : List Ent) (args : List AV) (hp : Hp) : Option (AV × Option (List AV)) := match es with
 | [] => none
 | e :: es => cond (zji args e.args) (cond (zcn hp e.pre) (some (e.v, e.nw)) none) (zlC es args hp)
def ziN (L : List (FuncId × List Ent)) (f : FuncId) (args : List AV) (hp : Hp) : Option (AV × Option (List AV)) := match L with
 | [] => none
 | (g, es) :: L => cond (Nat.beq f g) (zlC es args hp) (ziN L f args hp)
def ztd (b : Nat) (v : AV) : AV := match v with
 | .tup (.slc _ o n c s :: l) => .tup (.slc b o n c s :: l)
 | v => v
def zsP (v : AV) (nw : Option (List AV)) (hp : Hp) (nx : Nat) : Out := match nw with
 | none => zdR v hp nx
 | some l => cond (Nat.blt nx 16384) (zdR (ztd nx v) (hset (.cells (.l l) false) hp nx) (Nat.add nx 1)) .no
def zl5 (L : List (FuncId × List Ent)) (call : CallT) : CallT := fun f args hp nx => match ziN L f args hp with
 | some v => zsP v.1 v.2 hp nx
 | none => call f args hp nx
def zqg (P : Program) (L : List (FuncId × List Ent)) (n : Nat) : CallT × CallT := Nat.rec (fun _ _ _ _ => .no, fun _ _ _ _ => .no) (fun _ ih => (zl5 L (zfl P ih.1 ih.2), ziW P ih.1 ih.2)) n
def evM (P : Program) (L : List (FuncId × List Ent)) (n : Nat) : CallT := (zqg P L n).1
def hpS : List (Nat × List AV) → Hp
 | [] => xL 14
 | (b, l) :: ps => hset (.cells (.l l) true) (hpS ps) b
def zf9 (n : Nat) : List (Nat × List AV) → Bool
 | [] => true
 | (b, _) :: ps => cond (Nat.blt b n && Nat.blt b 16384) (zf9 n ps) false
def zdl (n : Nat) (v : AV) : Bool := match v with
 | .lit _ => true
 | .ptr b _ => Nat.blt b n
 | .slc b _ _ _ _ => Nat.blt b n
 | .map b => Nat.blt b n
 | .asl b _ _ _ => Nat.blt b n
 | _ => false
def jl (n : Nat) : List AV → Bool
 | [] => true
 | v :: l => cond (zdl n v) (jl n l) false
def zjh (n : Nat) (v : AV) : Bool := match v with
 | .agg l => jl n l
 | v => zdl n v
def zdP (n : Nat) : List AV → Bool
 | [] => true
 | v :: l => cond (zjh n v) (zdP n l) false
def zma (n : Nat) (v : AV) : Bool := match v with
 | .tup l => zdP n l
 | v => zjh n v
def zbj (n : Nat) : List (Nat × List AV) → Bool
 | [] => true
 | (_, l) :: ps => cond (jl n l) (zbj n ps) false
section
variable {O : Ow} {σ τ : Sg} {P : Program} {w : World} {n nx : Nat} {hp : Hp}
theorem zbc (h : ∀ b, b < n → τ b = σ b) : ∀ {v : AV}, zdl n v = true → zK τ v = zK σ v
 | .lit _, _ => rfl
 | .ptr b o, hv => by simp only [zK, h b (qm hv)]
 | .slc b o n c s, hv => by simp only [zK, h b (qm hv)]
 | .map b, hv => by simp only [zK, h b (qm hv)]
 | .agg _, hv => by cases hv
 | .tup _, hv => by cases hv
 | .ifc _ _, hv => by cases hv
 | .fn _ _ _, hv => by cases hv
 | .yld _, hv => by cases hv
 | .asl b o n c, hv => by simp only [zK, h b (qm hv)]
theorem zff (h : ∀ b, b < n → τ b = σ b) : ∀ {l : List AV}, jl n l = true → zA τ l = zA σ l
 | [], _ => rfl
 | v :: l, hv => by
  obtain ⟨h1, h2⟩ := xd (a := zdl n v) (b := jl n l) hv
  simp only [zA, zbc h h1, zff h h2]
theorem zjg (h : ∀ b, b < n → τ b = σ b) {v : AV} (hv : zjh n v = true) : zK τ v = zK σ v := by
 unfold zjh at hv
 split at hv
 ·simp only [zK, zff h hv]
 ·exact zbc h hv
theorem zcO (h : ∀ b, b < n → τ b = σ b) : ∀ {l : List AV}, zdP n l = true → zA τ l = zA σ l
 | [], _ => rfl
 | v :: l, hv => by
  obtain ⟨h1, h2⟩ := xd (a := zjh n v) (b := zdP n l) hv
  simp only [zA, zjg h h1, zcO h h2]
theorem zqn (h : ∀ b, b < n → τ b = σ b) {v : AV} (hv : zma n v = true) : zK τ v = zK σ v := by
 unfold zma at hv
 split at hv
 ·simp only [zK, zcO h hv]
 ·exact zjg h hv
theorem zpd (b : Nat) (l : List AV) (ps : List (Nat × List AV)) : hpS ((b, l) :: ps) = hset (.cells (.l l) true) (hpS ps) b := rfl
theorem zrz : hpS [] = xL 14 := rfl
theorem zea {ps : List (Nat × List AV)} {b : Nat} {o : xD} (hlt : zf9 n ps = true) (h : qz (hpS ps) b = some o) : ∃ l, (b, l) ∈ ps ∧ o = .cells (.l l) true := by
 induction ps with
 | nil => rw [zrz, zfa] at h; cases h
 | cons q ps ih =>
  obtain ⟨b', l⟩ := q
  obtain ⟨h1, h2⟩ := xd (a := Nat.blt b' n && Nat.blt b' 16384) (b := zf9 n ps) hlt
  simp only [Bool.and_eq_true] at h1
  rw [zpd, qa _ _ (qm h1.2)] at h
  by_cases hb : b = b'
  ·rw [if_pos hb] at h
   exact ⟨l, by simp [hb], (nQs h).symm⟩
  ·rw [if_neg hb] at h
   obtain ⟨l', h3, h4⟩ := ih h2 h
   exact ⟨l', by simp [h3], h4⟩
theorem zd5 : ∀ {ps : List (Nat × List AV)} {b : Nat} {l : List AV}, zcn hp ps = true → (b, l) ∈ ps → ∃ c ro, qz hp b = some (.cells c ro) ∧ vS c (len l) 0 = some l
 | [], b, l, _, h => by cases h
 | (b', l') :: ps, b, l, hok, h => by
  obtain ⟨h1, h2⟩ := xd (a := zfv (qz hp b') l') (b := zcn hp ps) hok
  rcases List.mem_cons.1 h with h | h
  ·cases h
   unfold zfv at h1
   split at h1
   ·rename_i c ro hc
    split at h1
    ·rename_i k hk
     rw [jM h1] at hk
     exact ⟨c, ro, hc, hk⟩
    ·cases h1
   ·cases h1
  ·exact zd5 h2 h
theorem zi6 : ∀ {ps : List (Nat × List AV)} {b : Nat} {l : List AV}, zbj n ps = true → (b, l) ∈ ps → jl n l = true
 | [], b, l, _, h => by cases h
 | (b', l') :: ps, b, l, hok, h => by
  obtain ⟨h1, h2⟩ := xd (a := jl n l') (b := zbj n ps) hok
  rcases List.mem_cons.1 h with h | h
  ·cases h; exact h1
  ·exact zi6 h2 h
theorem zfe : ∀ {l : List AV} {v : AV}, jl n l = true → v ∈ l → zdl n v = true
 | [], v, _, h => by cases h
 | u :: l, v, hok, h => by
  obtain ⟨h1, h2⟩ := xd (a := zdl n u) (b := jl n l) hok
  rcases List.mem_cons.1 h with rfl | h
  ·exact h1
  ·exact zfe h2 h
theorem zfb {c : CS} : ∀ (k o : Nat) (l : List AV), vS c k o = some l → ∀ i v, l[i]? = some v → xW c (o + i) = some v
 | 0, o, l, h, i, v, hv => by cases h; simp at hv
 | k + 1, o, l, h, i, v, hv => by
  simp only [vS] at h
  cases h1 : xW c o with
  | none => rw [h1] at h; cases h
  | some u =>
   rw [h1] at h
   cases h2 : vS c k (Nat.succ o) with
   | none => rw [h2] at h; cases h
   | some l' =>
    rw [h2] at h
    cases h
    cases i with
    | zero => cases hv; exact h1
    | succ i =>
     have := zfb k (Nat.succ o) l' h2 i v (by simpa using hv)
     rw [← this]; congr 1; omega
theorem RelW.small {ps : List (Nat × List AV)} (h : RelW O σ hp nx w) (hok : zcn hp ps = true) (hlt : zf9 n ps = true) (hcl : zbj n ps = true) (hg : gN ≤ n) :
  RelW ⟨fun k => w.heap.size ≤ k, fun _ => none, O.V⟩ (fun b => if b < n then σ b else none) (hpS ps) n w := by
 have hσ : ∀ b e, (if b < n then σ b else none) = some e → σ b = some e := fun b e hb => by
  split at hb
  ·exact hb
  ·cases hb
 refine ⟨?_, ?_, ?_, fun b hb => if_neg (by omega), fun b e hb => h.lt b e (hσ b e hb), fun k hk => hk, fun g hg' => ?_, fun b o hb => by cases hb⟩
 ·intro b o e hb hs
  obtain ⟨l, h1, rfl⟩ := zea hlt hb
  obtain ⟨c, ro, h2, h3⟩ := zd5 hok h1
  obtain ⟨arr, el, fz, k1, k2, k3, k4⟩ := h.obj b _ e h2 (hσ b e hs)
  refine ⟨arr, el, fz, k1, ⟨fun e => (by cases e), zfZ _ _, fun h => (by cases h)⟩, k3, fun i v hv => ?_⟩
  have hv : l[i]? = some v := (nth_eq l i).symm.trans hv
  have hc := zfb _ 0 l h3 i v hv
  rw [Nat.zero_add] at hc
  obtain ⟨q1, cv, q2, q3⟩ := k4 i v hc
  exact ⟨q1, cv, (zbc (fun b hb => if_pos hb) (zfe (zi6 hcl h1) (List.mem_of_getElem? hv))).trans q2, q3⟩
 ·intro b b' o o' e e' hb hb' a1 a2 s1 s2 hbl
  obtain ⟨l, h1, rfl⟩ := zea hlt hb
  obtain ⟨l', h1', rfl⟩ := zea hlt hb'
  obtain ⟨c, ro, h2, _⟩ := zd5 hok h1
  obtain ⟨c', ro', h2', _⟩ := zd5 hok h1'
  exact h.inj b b' _ _ e e' h2 h2' rfl rfl (hσ _ _ s1) (hσ _ _ s2) hbl
 ·intro b o e hb hm
  obtain ⟨l, _, rfl⟩ := zea hlt hb
  cases hm
 ·obtain ⟨e, h1, h2⟩ := h.glo g hg'
  exact ⟨e, by show (if g < n then σ g else none) = some e; rw [if_pos (by omega)]; exact h1, h2⟩
def zwX (P : Program) (e : Ent) : Prop := ∀ (O : Ow) (σ : Sg) (w : World) (hp : Hp) (nx : Nat) (cs : List Value), VOk P O.V → RelW O σ hp nx w → zcn hp e.pre = true → zA σ e.args = some cs → zsP e.v e.nw hp nx ≠ .no →
 CallsIn (FV O.V none) 0 P e.f cs.toArray w (xg O σ w (zsP e.v e.nw hp nx))
def zx6 (r : Out) (v : AV) : Bool := match r with
 | .ok .ret r _ => match qA r 0 with
  | some u => zqp u v
  | none => false
 | _ => false
def zog (o : Option xD) (l : List AV) : Bool := match o with
 | some (.cells c false) => match vS c (len l) 0 with
  | some k => zaM k l
  | none => false
 | _ => false
def ztB (r : Out) (v : AV) (l : List AV) : Bool := match r with
 | .ok .ret r m => match qA r 0, v with
  | some (.tup (.slc b o n c s :: us)), .tup (.slc _ o' n' c' s' :: vs) => cond (vU (.slc 0 o n c s) (.slc 0 o' n' c' s')) (cond (zji us vs) (cond (zdP 0 vs) (cond (jl 0 l) (zog (qz m.hp b) l) false) false) false) false
  | _, _ => false
 | _ => false
def zx7 (r : Out) (v : AV) (nw : Option (List AV)) : Bool := match nw with
 | none => cond (zma 0 v) (zx6 r v) false
 | some l => ztB r v l
def zaa (P : Program) (L : List (FuncId × List Ent)) (k n : Nat) (e : Ent) : Bool :=
 cond (zf9 n e.pre) (cond (zbj n e.pre) (cond (zdP n e.args) (cond (Nat.ble gN n) (zx7 (evM P L k e.f e.args (hpS e.pre) n) e.v e.nw) false) false) false) false
theorem RelW.after {w' : World} (h : RelW O σ hp nx w) (hk : Keep ⟨fun k => w.heap.size ≤ k, fun _ => none, O.V⟩ w w') : RelW O σ hp nx w' := by
 have hb : ∀ k, k < w.heap.size → w'.heap[k]? = w.heap[k]? := fun k hk' => hk.block k (by show ¬ (w.heap.size ≤ k); omega)
 exact ⟨fun b o e h1 h2 => by rw [hb _ (h.lt _ _ h2)]; exact h.obj b o e h1 h2, h.inj, h.own, h.fresh, fun b e h1 => Nat.lt_of_lt_of_le (h.lt b e h1) hk.size, fun k hk' => h.new k (Nat.le_trans hk.size hk'), h.glo, h.late⟩
theorem zky {v : AV} {l : List AV} {cs : List Value} (h : zA σ (v :: l) = some cs) : ∃ c cl, zK σ v = some c ∧ zA σ l = some cl ∧ cs = c :: cl := by
 simp only [zA] at h
 split at h
 ·rename_i c cl h1 h2
  exact ⟨c, cl, h1, h2, (nQs h).symm⟩
 ·cases h
theorem RelW.adopt (h : RelW O σ hp nx w) (hid : nx < 16384) (o : xD) (e : Loc) (hlt : e.bl < w.heap.size) (hne : ∀ b e', σ b = some e' → e'.bl ≠ e.bl) (hO : O e.bl) (ho : ObjR O.V (xi σ nx e) e o w.heap[e.bl]?) :
  RelW O (xi σ nx e) (hset o hp nx) (nx + 1) w ∧ Sle σ (xi σ nx e) := by
 have hs := h.fresh nx (Nat.le_refl _)
 have hz := h.now
 have hsl := xb (e := e) hs
 refine ⟨⟨?_, ?_, ?_, ?_, ?_, h.new, fun g hg => let ⟨e', h1, h2⟩ := h.glo g hg; ⟨e', hsl _ _ h1, h2⟩, fun b o' hb => (by
  have hne : b ≠ nx := (by rintro rfl; rw [hz] at hb; cases hb)
  obtain ⟨l1, l2, l3⟩ := h.late b o' hb
  exact ⟨by rw [qG hne]; exact l1, Nat.lt_succ_of_lt l2, by rw [qa _ _ hid, if_neg hne]; exact l3⟩)⟩, hsl⟩
 ·intro b o' e' hb hσ
  rw [qa _ _ hid] at hb
  by_cases hbi : b = nx
  ·subst hbi
   rw [if_pos rfl] at hb
   rw [qe] at hσ
   cases hb; cases hσ
   exact ho
  ·rw [if_neg hbi] at hb
   rw [qG hbi] at hσ
   exact (h.obj b o' e' hb hσ).mono hsl
 ·intro b b' o1 o2 e1 e2 h1 h2 a1 a2 s1 s2 hbl
  rw [qa _ _ hid] at h1 h2
  by_cases hb : b = nx <;> by_cases hb' : b' = nx
  ·rw [hb, hb']
  ·subst hb
   rw [qe] at s1; rw [qG hb'] at s2
   cases s1
   exact absurd hbl.symm (hne _ _ s2)
  ·subst hb'
   rw [qe] at s2; rw [qG hb] at s1
   cases s2
   exact absurd hbl (hne _ _ s1)
  ·rw [if_neg hb] at h1; rw [if_neg hb'] at h2
   rw [qG hb] at s1; rw [qG hb'] at s2
   exact h.inj _ _ _ _ _ _ h1 h2 a1 a2 s1 s2 hbl
 ·intro b o' e' hb hm hσ
  rw [qa _ _ hid] at hb
  by_cases hbi : b = nx
  ·subst hbi
   rw [qe] at hσ; cases hσ
   exact hO
  ·rw [if_neg hbi] at hb
   rw [qG hbi] at hσ
   exact h.own b o' e' hb hm hσ
 ·intro b hb
  rw [qG (by omega)]
  exact h.fresh b (by omega)
 ·intro b e' hσ
  by_cases hbi : b = nx
  ·subst hbi
   rw [qe] at hσ; cases hσ
   exact hlt
  ·rw [qG hbi] at hσ
   exact h.lt b e' hσ
theorem xk {L : List (FuncId × List Ent)} {k n : Nat} {e : Ent} (hc : ∀ O, xC O P (evM P L k)) (h : zaa P L k n e = true) : zwX P e := by
 intro O σ w hp nx cs hV hw hok hx hno
 obtain ⟨h1, h⟩ := xd (a := zf9 n e.pre) h
 obtain ⟨h2, h⟩ := xd (a := zbj n e.pre) h
 obtain ⟨h3, h⟩ := xd (a := zdP n e.args) h
 obtain ⟨h5, h⟩ := xd (a := Nat.ble gN n) h
 have hs := hw.small hok h1 h2 (qZ h5)
 have hx' : zA (fun b => if b < n then σ b else none) e.args = some cs := (zcO (fun b hb => if_pos hb) h3).trans hx
 unfold zx7 at h
 split at h
 case h_2 l hnw =>
  rw [hnw] at hno ⊢
  unfold ztB at h
  split at h
  case h_2 => cases h
  rename_i r m hr
  split at h
  case h_2 => cases h
  rename_i b o n0 c0 s us x o' n' c' s' vs hu hv
  obtain ⟨g1, ha⟩ := xd (a := vU (.slc 0 o n0 c0 s) (.slc 0 o' n' c' s')) h
  obtain ⟨g2, hb⟩ := xd (a := zji us vs) ha
  obtain ⟨g3, hd⟩ := xd (a := zdP 0 vs) hb
  obtain ⟨g4, hz⟩ := xd (a := jl 0 l) hd
  clear h ha hb hd
  have g1 := vo g1
  cases g1
  have g2 := zeh g2
  subst g2
  unfold zog at hz
  split at hz
  case h_2 => cases hz
  rename_i cc hc0
  split at hz
  case h_2 => cases hz
  rename_i k hk
  have hk' := jM hz
  subst hk'
  have e0 : zsP e.v (some k) hp nx = cond (Nat.blt nx 16384) (zdR (ztd nx e.v) (hset (.cells (.l k) false) hp nx) (Nat.add nx 1)) .no := rfl
  cases hlt : Nat.blt nx 16384 with
  | false => rw [e0, hlt] at hno; exact absurd rfl hno
  | true =>
  have hlt' := qm hlt
  rw [e0, hlt, hv]
  refine CallsIn.mono (hc ⟨fun k => w.heap.size ≤ k, fun _ => none, O.V⟩ hV _ w e.f e.args cs (hpS e.pre) n hs hx' (by rw [hr]; simp)) ?_
  intro en w' hp'
  rw [hr] at hp'
  obtain ⟨σ', v, c, k1, k2, k3, rfl, k4, k5⟩ := hp'
  rw [hu] at k2; cases k2
  obtain ⟨cl, m1, rfl⟩ := Option.map_eq_some_iff.1 k3
  obtain ⟨cs0, cus, m2, m3, rfl⟩ := zky m1
  obtain ⟨e', m4, m5, m6⟩ := xe m2
  have hO : w.heap.size ≤ e'.bl := k4.own b _ e' hc0 rfl m4
  obtain ⟨arr, el, fz, q1, q2, q3⟩ := k4.obj b _ e' hc0 m4
  have hw' := hw.after k5
  have hn1 := hw.fresh nx (Nat.le_refl _)
  have hcc : ∀ i v, k[i]? = some v → xW cc i = some v := fun i v hi => by
   have := zfb _ 0 k hk i v hi
   rwa [Nat.zero_add] at this
  obtain ⟨r1, r2⟩ := hw'.adopt hlt' (.cells (.l k) false) e' (k4.lt b e' m4) (fun b0 e0 h0 => by have := hw.lt b0 e0 h0; omega) (hw.new _ hO)
   ⟨arr, el, fz, q1, ⟨q2.1, zfZ _ _, fun h => (by cases h)⟩, q3.1, fun i v hi => by
    have hi : k[i]? = some v := (nth_eq k i).symm.trans hi
    obtain ⟨s1, cv, s2, s3⟩ := q3.2 i v (hcc i v hi)
    exact ⟨s1, cv, (zbc (n := 0) (fun b hb => absurd hb (by omega)) (zfe g4 (List.mem_of_getElem? hi))).trans s2, s3⟩⟩
  refine ⟨_, _, _, r2, zcF _, ?_, rfl, r1, ⟨k5.os, k5.tape, k5.output, k5.size, fun k hk => k5.block k fun hk' => hk (hw.new k hk')⟩⟩
  show (zA (xi σ nx e') (.slc nx o n0 c0 s :: us)).map _ = _
  have t1 : zK (xi σ nx e') (.slc nx o n0 c0 s) = some cs0 := by
   obtain ⟨rfl, hen⟩ := m5
   rw [m6]
   exact zab (qe _ _ _) hen
  have t2 : zA (xi σ nx e') us = some cus := (zcO (n := 0) (fun b hb => absurd hb (by omega)) g3).trans m3
  simp only [zA, t1, t2, Option.map_some]
 case h_1 hnw =>
 rw [hnw]
 obtain ⟨h4, h⟩ := xd (a := zma 0 e.v) h
 show CallsIn _ _ _ _ _ _ (xg O σ w (zdR e.v hp nx))
 unfold zx6 at h
 split at h
 ·rename_i r m hr
  split at h
  ·rename_i u hu
   have huv := zqo h
   subst huv
   refine CallsIn.mono (hc ⟨fun k => w.heap.size ≤ k, fun _ => none, O.V⟩ hV _ w e.f e.args cs (hpS e.pre) n hs hx' (by rw [hr]; simp)) ?_
   intro en w' hp'
   rw [hr] at hp'
   obtain ⟨σ', v, c, k1, k2, k3, rfl, k4, k5⟩ := hp'
   rw [hu] at k2; cases k2
   refine ⟨σ, _, c, Sle.refl _, zcF _, ?_, rfl, hw.after k5, ⟨k5.os, k5.tape, k5.output, k5.size, fun k hk => k5.block k fun hk' => hk (hw.new k hk')⟩⟩
   exact (zqn (n := 0) (fun b hb => absurd hb (by omega)) h4).trans k3
  ·cases h
 ·cases h
def zcX (P : Program) (L : List (FuncId × List Ent)) : Prop := ∀ p ∈ L, ∀ e ∈ p.2, e.f = p.1 ∧ zwX P e
theorem ziO : ∀ {es : List Ent} {args : List AV} {v : AV × Option (List AV)}, zlC es args hp = some v → ∃ e ∈ es, args = e.args ∧ zcn hp e.pre = true ∧ v = (e.v, e.nw)
 | [], args, v, h => by cases h
 | e :: es, args, v, h => by
  unfold zlC at h
  cases h1 : zji args e.args with
  | true =>
   rw [h1] at h
   cases h2 : zcn hp e.pre with
   | true => rw [h2] at h; cases h; exact ⟨e, by simp, zeh h1, h2, rfl⟩
   | false => rw [h2] at h; cases h
  | false =>
   rw [h1] at h
   obtain ⟨e', h2, h3⟩ := ziO (es := es) h
   exact ⟨e', by simp [h2], h3⟩
theorem ziM : ∀ {L : List (FuncId × List Ent)} {f : FuncId} {args : List AV} {v : AV × Option (List AV)}, zcX P L → ziN L f args hp = some v → ∃ e, zwX P e ∧ f = e.f ∧ args = e.args ∧ zcn hp e.pre = true ∧ v = (e.v, e.nw)
 | [], f, args, v, _, h => by cases h
 | (g, es) :: L, f, args, v, hL, h => by
  unfold ziN at h
  cases h1 : Nat.beq f g with
  | true =>
   rw [h1] at h
   obtain ⟨e, h2, h3⟩ := ziO h
   obtain ⟨h4, h5⟩ := hL (g, es) (by simp) e h2
   exact ⟨e, h5, (nQe h1).trans h4.symm, h3⟩
  | false =>
   rw [h1] at h
   exact ziM (fun p hp => hL p (by simp [hp])) h
theorem zqd {L : List (FuncId × List Ent)} {call : CallT} (hL : zcX P L) (hc : xC O P call) : xC O P (zl5 L call) := by
 intro hV σ w f args cs hp nx hw hx hn
 obtain ⟨R, hR⟩ : ∃ R, zl5 L call f args hp nx = R := ⟨_, rfl⟩
 rw [hR] at hn ⊢
 unfold zl5 at hR
 cases h1 : ziN L f args hp with
 | some v =>
  rw [h1] at hR
  obtain ⟨e, g1, rfl, rfl, g2, rfl⟩ := ziM hL h1
  subst hR
  exact g1 O σ w hp nx cs hV hw g2 hx hn
 | none =>
  rw [h1] at hR
  subst hR
  exact hc hV σ w f args cs hp nx hw hx hn
theorem zaV {L : List (FuncId × List Ent)} (hL : zcX P L) : ∀ n, (∀ O, xC O P (zqg P L n).1) ∧ ∀ O, zcT O P (zqg P L n).2
 | 0 => ⟨fun O _ σ w f args cs hp nx _ _ hn => absurd rfl hn, fun O _ σ w l e args cs hp nx _ _ _ hn => absurd rfl hn⟩
 | n + 1 => ⟨fun O => zqd hL (zsX (zaV hL n).1 (zaV hL n).2), fun O => zt8 (zaV hL n).1 (zaV hL n).2⟩
theorem zfk {L : List (FuncId × List Ent)} (hL : zcX P L) (n : Nat) (O : Ow) : xC O P (evM P L n) := (zaV hL n).1 O
end
def zkm (r : Out) : Bool := match r with
 | .ok .ret r _ => match qA r 0 with
  | some (.lit (.bool b)) => b
  | _ => false
 | _ => false
theorem zkz {P : Program} {L : List (FuncId × List Ent)} {n : Nat} {f : FuncId} (pw : List Value) (g : Nat) (hg : g < gN) (hg1 : gN ≤ g + 1) (hg2 : g < 16384) (hL : zcX P L)
  (h : zkm (evM P L n f [] (hset (.cells (.l (pw.map .lit)) true) (xL 14) g) gN) = true) (w : World) {el : TypeId} {fz : Nat × Nat} (hw0 : w.heap[g]? = some (.cells pw.toArray el fz)) : Calls P f #[] w (qW w (.bool true)) := by
 have hlt : g < w.heap.size := (Array.getElem?_eq_some_iff.1 hw0).1
 unfold zkm at h
 split at h
 ·rename_i r m hr
  split at h
  ·rename_i b hb
   subst h
   have qz : ∀ b o, qz (hset (xD.cells (.l (pw.map .lit)) true) (xL 14) g) b = some o → b = g ∧ o = .cells (.l (pw.map .lit)) true := fun b o h1 => by
    rw [qa _ _ hg2] at h1
    split at h1
    ·rename_i hbg; exact ⟨hbg, (nQs h1).symm⟩
    ·rw [zfa] at h1; cases h1
   have hσ : ∀ b e, (if b < gN then some (⟨b, 0, 0, 0, pw.length⟩ : Loc) else none) = some e → b < gN ∧ e = ⟨b, 0, 0, 0, pw.length⟩ := fun b e h1 => by
    split at h1
    ·rename_i hb; exact ⟨hb, (nQs h1).symm⟩
    ·cases h1
   have hw : RelW ⟨fun k => w.heap.size ≤ k, fun _ => none, fun f => ∃ fn, P.funcs[f]? = some fn⟩ (fun b => if b < gN then some ⟨b, 0, 0, 0, pw.length⟩ else none) (hset (.cells (.l (pw.map .lit)) true) (xL 14) g) gN w := by
    refine ⟨?_, ?_, ?_, fun b hb => if_neg (by omega), fun b e h1 => ?_, fun k hk => hk, fun g' h1 => ⟨_, if_pos h1, rfl, rfl⟩, fun b o h1 => by cases h1⟩
    ·intro b o e h1 h2
     obtain ⟨rfl, rfl⟩ := qz b o h1
     obtain ⟨_, rfl⟩ := hσ _ _ h2
     refine ⟨pw.toArray, el, fz, hw0, ⟨fun e => (by cases e), zfZ _ _, fun h => (by cases h)⟩, by simp, fun i v hv => ?_⟩
     have hv : (pw.map AV.lit)[i]? = some v := (nth_eq _ i).symm.trans hv
     rw [List.getElem?_map] at hv
     cases hp : pw[i]? with
     | none => rw [hp] at hv; cases hv
     | some u =>
      rw [hp] at hv; cases hv
      exact ⟨(List.getElem?_eq_some_iff.1 hp).1, u, rfl, by simpa using hp⟩
    ·intro b b' o o' e e' h1 h2 _ _ _ _ _
     exact (qz _ _ h1).1.trans (qz _ _ h2).1.symm
    ·intro b o e h1 h2
     obtain ⟨_, rfl⟩ := qz b o h1
     cases h2
    ·obtain ⟨h2, rfl⟩ := hσ _ _ h1
     show b < _
     omega
   have hc := zfk hL n _ (fun f => Iff.rfl) _ w f [] [] _ _ hw rfl (by rw [hr]; simp)
   have hc' : Calls P f #[] w (xg _ _ w _) := fun cs => let ⟨e, w', fr, r, s, x⟩ := hc.2 cs (fun d hd => by simp [FV] at hd); ⟨e, w', fr, r, s.comes, x⟩
   refine hc'.mono fun e w' hp => ?_
   rw [hr] at hp
   obtain ⟨σ', v, c, _, h2, h3, rfl, _, h5⟩ := hp
   rw [hb] at h2
   cases h2
   cases h3
   exact ⟨rfl, h5.os, h5.tape, h5.output, h5.size, fun k hk => h5.block k (fun h6 => by have h6 : w.heap.size ≤ k := h6; omega)⟩
  ·cases h
 ·cases h
end
end Go.Proofs.YtihedfkcccaonaaGreatDoor.Ev
