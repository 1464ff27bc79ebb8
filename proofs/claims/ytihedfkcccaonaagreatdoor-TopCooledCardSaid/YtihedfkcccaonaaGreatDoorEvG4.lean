/-
 The evaluator's code beside the model's: what is beside what; sequences, conditions, blocks, loops.
-/
import Derived.Test.YtihedfkcccaonaaGreatDoorEvG3
import Derived.Scope
import Derived.RangeFuncNested
import Derived.Test.YtihedfkcccaonaaGreatDoorEvG1
import Derived.OrdersIn
namespace Go.Proofs.YtihedfkcccaonaaGreatDoor.Ev
noncomputable section
open Go.RowKit
def DfL (σ : Sg) : List Deferred → List AD → Prop
 | [], [] => True
 | d :: ds, .call f args :: l => DefR σ f args d ∧ DfL σ ds l
 | d :: ds, .mark b :: l => (∃ e, σ b = some e ∧ d = { target := .collected e.bl, args := #[] }) ∧ DfL σ ds l
 | _, _ => False
theorem DefR.mono {σ σ' : Sg} (hs : Sle σ σ') {f : FuncId} {args : List AV} {d : Deferred} (h : DefR σ f args d) : DefR σ' f args d :=
 let ⟨a, b, h1, h2⟩ := h; ⟨a, b, xx hs _ _ h1, h2⟩
theorem DfL.mono {σ σ' : Sg} (hs : Sle σ σ') : ∀ {ds : List Deferred} {l : List AD}, DfL σ ds l → DfL σ' ds l
 | [], [], _ => trivial
 | d :: ds, .call f args :: l, h => ⟨h.1.mono hs, DfL.mono hs h.2⟩
 | d :: ds, .mark b :: l, h => ⟨let ⟨e, h1, h2⟩ := h.1; ⟨e, hs _ _ h1, h2⟩, DfL.mono hs h.2⟩
 | [], .call _ _ :: _, h => h.elim
 | [], .mark _ :: _, h => h.elim
 | _ :: _, [], h => h.elim
def RdR (σ : Sg) (E : Env) (ρ : Option Nat) : Prop := match E.rd with
 | none => ρ = none
 | some k => ∃ e, σ k = some e ∧ ρ = some e.bl
theorem RdR.mono {σ σ' : Sg} (hs : Sle σ σ') {E : Env} {ρ : Option Nat} (h : RdR σ E ρ) : RdR σ' E ρ := by
 unfold RdR at h ⊢
 split at h
 ·exact h
 ·obtain ⟨e, h1, h2⟩ := h; exact ⟨e, hs _ _ h1, h2⟩
structure StR (O : Ow) (σ : Sg) (E : Env) (a : Act) (w : World) (fr : Fra) (m : Mem) : Prop where
 fr : FrR σ E.N fr a.tmps
 rel : RelW O σ m.hp m.nx w
 df : DfL σ a.defers m.df
def exR (σ : Sg) : Ex → Exit → Prop
 | .normal, .normal => True
 | .ret, .ret => True
 | .exit i, .exit j => i = j
 | .goto i, .goto j => i = j
 | .panic v, .panic ch => ∃ t c, zK σ v = some (.iface t c) ∧ ch = [{ v := .iface t c, recovered := false }]
 | _, _ => False
theorem exR.mono {σ σ' : Sg} (hs : Sle σ σ') {e : Ex} {x : Exit} (h : exR σ e x) : exR σ' e x := by
 cases e <;> cases x <;> first | exact h | (obtain ⟨t, c, h1, h2⟩ := h; exact ⟨t, c, qU hs _ _ h1, h2⟩)
def CPost (O : Ow) (σ : Sg) (E : Env) (w0 : World) : Out → Exit → Act → World → Prop
 | .no, _, _, _ => False
 | .ok e fr m, x, a, w => ∃ σ', Sle σ σ' ∧ exR σ' e x ∧ StR O σ' E a w fr m ∧ Keep O w0 w
def xK (O : Ow) (E : Env) (ρ : Option Nat) (c : Code) : Prop := VOk E.P O.V → ∀ (σ : Sg) (a : Act) (w : World) (fr : Fra) (m : Mem), RdR σ E ρ → StR O σ E a w fr m → qj E c fr m ≠ .no →
 c.wpIn (FV O.V ρ) 0 E.P (CPost O σ E w (qj E c fr m)) a w
section
variable {P : Program} {σ : Sg} {fr : Fra} {m : Mem} {w : World} {r : OR} {ρ : Operand → Value} {V : FuncId → Prop}
theorem kV {f : FuncId} {xs : List AV} (h : kN P f xs = r) (hr : r ≠ .no) : P.funcs[f]?.isSome = true := by
 unfold kN at h
 cases hf : P.funcs[f]? with
 | none => rw [hf] at h; exact absurd h.symm hr
 | some fn => rfl
theorem zld {v : AV} {xs : List AV} (h : zfT P v xs = r) (hr : r ≠ .no) : zmB P v = true := by
 unfold zfT at h
 split at h
 ·exact kV h hr
 ·exact kV h hr
 ·rfl
 ·exact absurd h.symm hr
theorem zok {v : AV} {xs : List AV} (h : zlY P v xs m = r) (hr : r ≠ .no) : zmB P v = true := by
 unfold zlY at h
 split at h
 ·rename_i k
  split at h
  ·rename_i t ht
   show (P.funcs[k]?).isSome = true
   unfold zru at ht
   cases hf : P.funcs[k]? with
   | none => rw [hf] at ht; cases ht
   | some fn => rfl
  ·exact zld h hr
 ·exact zld h hr
theorem vA {op : Op} {ty : Nat} (h : yh op P ty fr m = r) (hr : r ≠ .no) : xX op P fr = true := by
 cases op with
 | call c =>
  show jW P fr c.callee = true
  have h : zbm c ty P fr m c.callee = r := h
  cases hc : c.callee with
  | builtin b => rfl
  | value x =>
   rw [hc] at h
   obtain ⟨v, h1, h⟩ := zw h hr
   obtain ⟨xs, h2, h⟩ := zw h hr
   have e : jW P fr (.value x) = zmB P v := by unfold jW; simp only [h1]
   rw [e]
   exact zok h hr
  | invoke x n => rw [hc] at h; exact absurd h.symm hr
 | _ => rfl
theorem zaZ (hV : VOk P V) (hρ : xp σ fr ρ) (o : Oper) (h : xX o.op P fr = true) (w : World) : ∀ f, o.about P w ρ = some f → V f := by
 intro f hf
 obtain ⟨d, op, ty, pos, af, gd⟩ := o
 cases op with
 | call c =>
  obtain ⟨cal, args, ats⟩ := c
  have h : jW P fr cal = true := h
  cases cal with
  | builtin b => simp [Oper.about, resolve, Target.leads] at hf
  | value x =>
   cases hx : opd fr x with
   | none =>
    have e : jW P fr (.value x) = false := by unfold jW; simp only [hx]
    rw [e] at h; cases h
   | some v =>
    have e : jW P fr (.value x) = zmB P v := by unfold jW; simp only [hx]
    rw [e] at h
    have hc := hρ _ _ hx
    unfold zmB at h
    split at h
    ·rename_i g a b
     simp only [zK] at hc
     cases ha : zA σ a with
     | none => rw [ha] at hc; cases hc
     | some ca =>
      cases hb : zA σ b with
      | none => rw [ha, hb] at hc; cases hc
      | some cb =>
       rw [ha, hb] at hc
       have hc := (nQs hc).symm
       simp [Oper.about, resolve, hc, Deferred.ofValue, Target.leads] at hf
       subst hf
       exact (hV g).2 (Option.isSome_iff_exists.1 h)
    ·rename_i g a b
     have hc := (nQs hc).symm
     simp [Oper.about, resolve, hc, Deferred.ofValue, Target.leads] at hf
     subst hf
     exact (hV g).2 (Option.isSome_iff_exists.1 h)
    ·rename_i a
     have hc := (nQs hc).symm
     simp [Oper.about, resolve, hc, Deferred.ofValue, stuck, Sem.run] at hf
    ·rename_i l
     simp only [zK, Option.map_eq_some_iff] at hc
     obtain ⟨e, he, hc⟩ := hc
     simp [Oper.about, resolve, ← hc, Deferred.ofValue, Target.leads] at hf
    ·cases h
  | invoke x n => cases h
 | _ => cases hf
end
section
variable {O : Ow} {σ σ' : Sg} {E : Env} {ρ : Option Nat} {a : Act} {w w' : World} {fr : Fra} {m : Mem} {r : Out}
theorem CPost.trans (hs : Sle σ σ') (hk : Keep O w w') {x : Exit} {a : Act} {w1 : World} (h : CPost O σ' E w' r x a w1) : CPost O σ E w r x a w1 := by
 cases r with
 | no => exact h
 | ok e fr m => obtain ⟨σ1, h1, h2, h3, h4⟩ := h; exact ⟨σ1, hs.trans h1, h2, h3, hk.trans h4⟩
theorem CPost.one {e : Ex} {x : Exit} (h : StR O σ E a w fr m) (he : exR σ e x) : CPost O σ E w (.ok e fr m) x a w := ⟨σ, Sle.refl _, he, h, Keep.refl _ _⟩
theorem zjG : xK O E ρ .skip := fun hV σ a w fr m _ h _ => wpIn_skip (.one h trivial)
theorem zh7 {l : Nat} : xK O E ρ (.label l) := fun hV σ a w fr m _ h _ => wpIn_label (.one h trivial)
theorem zjJ {i : Nat} : xK O E ρ (.exit i) := fun hV σ a w fr m _ h _ => wpIn_exit (.one h rfl)
theorem zjI {l : Nat} : xK O E ρ (.goto l) := fun hV σ a w fr m _ h _ => wpIn_goto (.one h rfl)
theorem zmn : xK O E ρ .ret := fun hV σ a w fr m _ h _ => wpIn_ret (.one h trivial)
theorem zgY {s : String} : xK O E ρ (.refuse s) := fun hV σ a w fr m _ h hn => absurd rfl hn
theorem CPost.then {r : Out} {k : CT} {x : Exit} {a : Act} {w w1 : World} {K : Act → World → Prop} {Q : Exit → Act → World → Prop} (h : CPost O σ E w r x a w1) (hn : zca r k ≠ .no)
  (hK : ∀ σ1 fr1 m1, Sle σ σ1 → StR O σ1 E a w1 fr1 m1 → Keep O w w1 → r = .ok .normal fr1 m1 → K a w1)
  (hQ : ∀ e, e ≠ .normal → CPost O σ E w (zca r k) e a w1 → Q e a w1) : Exit.then K Q x a w1 := by
 cases r with
 | no => exact h.elim
 | ok e fr m =>
  obtain ⟨σ1, h1, h2, h3, h4⟩ := h
  cases e <;> cases x <;> first | exact h2.elim | exact hK σ1 fr m h1 h3 h4 rfl | exact hQ _ (by simp) ⟨σ1, h1, h2, h3, h4⟩
theorem zh1 {k : CT} (h : zca r k ≠ .no) : r ≠ .no := by rintro rfl; exact h rfl
theorem zmm {x y : Code} (hx : xK O E ρ x) (hy : xK O E ρ y) : xK O E ρ (.seq x y) := by
 intro hV σ a w fr m hρ h hn
 have hn : zca (qj E x fr m) (qj E y) ≠ .no := hn
 show (Code.seq x y).wpIn (FV O.V ρ) 0 E.P (CPost O σ E w (zca (qj E x fr m) (qj E y))) a w
 refine wpIn_seq (wpIn_mono (hx hV σ a w fr m hρ h (zh1 hn)) ?_)
 intro e a1 w1 hp
 refine hp.then hn ?_ (fun e _ h => h)
 intro σ1 fr1 m1 hs hst hk hr
 rw [hr] at hn ⊢
 exact wpIn_mono (hy hV σ1 a1 w1 fr1 m1 (hρ.mono hs) hst hn) fun e a w h => h.trans hs hk
theorem zjK {c : Operand} {x y : Code} (hx : xK O E ρ x) (hy : xK O E ρ y) : xK O E ρ (.cond c x y) := by
 intro hV σ a w fr m hρ h hn
 have hop := zdd h.fr h.rel.glo
 have hn : zl2 (opd fr c) (qj E x fr m) (qj E y fr m) ≠ .no := hn
 show (Code.cond c x y).wpIn (FV O.V ρ) 0 E.P (CPost O σ E w (zl2 (opd fr c) (qj E x fr m) (qj E y fr m))) a w
 unfold zl2 at hn ⊢
 split at hn
 ·rename_i b hc
  have hb := (nQs (hop _ _ hc)).symm
  refine wpIn_cond hb ?_
  cases b with
  | true => exact hx hV σ a w fr m hρ h hn
  | false => exact hy hV σ a w fr m hρ h hn
 ·exact absurd rfl hn
theorem zh9 {i : Nat} {c : Code} (hc : xK O E ρ c) : xK O E ρ (.block i c) := by
 intro hV σ a w fr m hρ h hn
 have hn : zaX i (qj E c fr m) ≠ .no := hn
 show (Code.block i c).wpIn (FV O.V ρ) 0 E.P (CPost O σ E w (zaX i (qj E c fr m))) a w
 have hn' : qj E c fr m ≠ .no := by intro e; rw [e] at hn; exact hn rfl
 refine wpIn_block (wpIn_mono (hc hV σ a w fr m hρ h hn') ?_)
 intro x a1 w1 hp
 cases hr : qj E c fr m with
 | no => exact absurd hr hn'
 | ok e fr1 m1 =>
  rw [hr] at hp
  obtain ⟨σ1, h1, h2, h3, h4⟩ := hp
  cases e <;> cases x <;> first | exact h2.elim | exact ⟨σ1, h1, h2, h3, h4⟩ | skip
  rename_i j k
  have h2 : j = k := h2
  subst h2
  by_cases hj : j = i
  ·subst hj
   simp only [Exit.inBlock, if_true]
   simp only [zaX, Nat.beq_refl]
   exact ⟨σ1, h1, trivial, h3, h4⟩
  ·have hb : Nat.beq j i = false := by
    cases hq : Nat.beq j i with
    | false => rfl
    | true => exact absurd (nQe hq) hj
   simp only [Exit.inBlock, if_neg hj]
   simp only [zaX, hb]
   exact ⟨σ1, h1, rfl, h3, h4⟩
theorem zjz {F : Fence} {n : Nat} {P : Program} {Q : Exit → Act → World → Prop} {c : Code} (h : c.wpIn F n P (Exit.noGoto Q) a w) : (Code.scope c).wpIn F n P Q a w := by
 intro b k cs hro hb hr
 have s1 : step P (lone (b.atR a (.code (.scope c) :: k)) cs w) = .next (lone (b.atR a (.code c :: .inScope c :: k)) cs w) := step_lone_go (by simp [stepG, stepG.exec, Frame.atR])
 have s2 : ∀ a w, step P (lone (b.atR a (.inScope c :: k)) cs w) = .next (lone (b.atR a k) cs w) := fun a w => step_lone_go (by simp [stepG, stepG.exec, Frame.atR])
 obtain ⟨e, a₁, w₁, hq, harr⟩ := h b (.inScope c :: k) cs hro hb hr
 have i1 : StepsIn (Machine.fenced P F) P (lone (b.atR a (.code (.scope c) :: k)) cs w) (lone (b.atR a (.code c :: .inScope c :: k)) cs w) := .one (fenced_calm hb hr rfl) s1
 cases e with
 | normal => exact ⟨.normal, a₁, w₁, hq, StepsIn.trans i1 (StepsIn.trans harr (.one (fenced_calm hb hr rfl) (s2 _ _)))⟩
 | exit id => exact ⟨.exit id, a₁, w₁, hq, .of_steps i1 ⟨fun k' hk => harr.1 k' (by simpa [exitTo] using hk), fun hr hk => harr.2 hr (by simpa [exitTo] using hk)⟩⟩
 | goto l => exact hq.elim
 | ret => exact ⟨_, a₁, w₁, hq, .of_steps i1 harr⟩
 | panic ch => exact ⟨_, a₁, w₁, hq, .of_steps i1 harr⟩
 | outgrown => exact ⟨_, a₁, w₁, hq, .of_steps i1 harr⟩
theorem zh5 {c : Code} (hc : xK O E ρ c) : xK O E ρ (.scope c) := by
 intro hV σ a w fr m hρ h hn
 have hn : zjO (qj E c) E.rd fr m ≠ .no := hn
 show (Code.scope c).wpIn (FV O.V ρ) 0 E.P (CPost O σ E w (zjO (qj E c) E.rd fr m)) a w
 cases hd : E.rd with
 | some k => exact absurd rfl (hd ▸ hn)
 | none =>
  try rw [hd] at hn
  have hro : ρ = none := by unfold RdR at hρ; rw [hd] at hρ; exact hρ
  subst hro
  have hn : zuE (qj E c fr m) ≠ .no := hn
  show (Code.scope c).wpIn (FV O.V none) 0 E.P (CPost O σ E w (zuE (qj E c fr m))) a w
  have hn' : qj E c fr m ≠ .no := by intro e; rw [e] at hn; exact hn rfl
  have h0 := hc hV σ a w fr m hρ h hn'
  refine zjz (wpIn_mono h0 ?_)
  intro x a1 w1 hp
  cases hr : qj E c fr m with
  | no => exact absurd hr hn'
  | ok e fr1 m1 =>
   rw [hr] at hp hn
   cases e with
   | goto l => exact absurd rfl hn
   | _ =>
    obtain ⟨σ1, h1, h2, h3, h4⟩ := hp
    cases x <;> first | exact h2.elim | exact ⟨σ1, h1, h2, h3, h4⟩
theorem zel {F : Fence} {n : Nat} {P : Program} {Q : Exit → Act → World → Prop} {c : Code} (I : Nat → Act → World → Prop) {j : Nat} (h₀ : I j a w)
  (h0 : ∀ a w, ¬ I 0 a w) (round : ∀ j a w, I (j + 1) a w → c.wpIn F n P (Exit.then (I j) Q) a w) : (Code.loop c).wpIn F n P Q a w := by
 intro b k cs hro hb hr
 have key : ∀ j a w, I j a w →
   ∃ e a' w', Q e a' w' ∧ ArrivesIn (Machine.fenced P F) P (lone (b.atR a (.code c :: .inLoop c :: k)) cs w) b k cs e a' w' := by
  intro j
  induction j with
  | zero => intro a w hI; exact absurd hI (h0 a w)
  | succ j ih =>
   intro a w hI
   obtain ⟨e, a₁, w₁, hq, harr⟩ := round j a w hI b (.inLoop c :: k) cs hro hb hr
   cases e with
   | normal =>
    obtain ⟨e₂, a₂, w₂, hq₂, harr₂⟩ := ih a₁ w₁ hq
    exact ⟨e₂, a₂, w₂, hq₂, .of_steps (StepsIn.trans harr (.one (fenced_calm hb hr rfl) stepR_inLoop)) harr₂⟩
   | exit id => exact ⟨_, a₁, w₁, hq, .pass (x := .inLoop c) rfl (fun _ _ => .inl (by simp)) harr⟩
   | goto l => exact ⟨_, a₁, w₁, hq, .pass (x := .inLoop c) rfl (fun _ _ => .inl (by simp)) harr⟩
   | ret => exact ⟨_, a₁, w₁, hq, .pass (x := .inLoop c) rfl (fun _ _ => .inl (by simp)) harr⟩
   | panic ch => exact ⟨_, a₁, w₁, hq, .pass (x := .inLoop c) rfl (fun _ _ => .inl (by simp)) harr⟩
   | outgrown => exact ⟨_, a₁, w₁, hq, .pass (x := .inLoop c) rfl (fun _ _ => .inl (by simp)) harr⟩
 obtain ⟨e, a', w', hq, harr⟩ := key j a w h₀
 exact ⟨e, a', w', hq, .of_steps (.one (fenced_calm hb hr rfl) stepR_loop) harr⟩
theorem zjH {c : Code} (hc : xK O E ρ c) : xK O E ρ (.loop c) := by
 intro hV σ a w fr m hρ h hn
 have hn : zeR (qj E c) 1000000000 fr m ≠ .no := hn
 show (Code.loop c).wpIn (FV O.V ρ) 0 E.P (CPost O σ E w (zeR (qj E c) 1000000000 fr m)) a w
 generalize 1000000000 = j at hn ⊢
 obtain ⟨r, hr⟩ : ∃ r, zeR (qj E c) j fr m = r := ⟨_, rfl⟩
 rw [hr] at hn ⊢
 refine zel (fun j a' w' => ∃ σ1 fr1 m1, Sle σ σ1 ∧ StR O σ1 E a' w' fr1 m1 ∧ Keep O w w' ∧ zeR (qj E c) j fr1 m1 = r) (j := j) ⟨σ, fr, m, Sle.refl _, h, Keep.refl _ _, hr⟩ ?_ ?_
 ·rintro a w ⟨σ1, fr1, m1, _, _, _, h4⟩
  exact hn h4.symm
 ·rintro i a1 w1 ⟨σ1, fr1, m1, h1, h2, h3, h4⟩
  have h4 : zca (qj E c fr1 m1) (zeR (qj E c) i) = r := h4
  have hn' : zca (qj E c fr1 m1) (zeR (qj E c) i) ≠ .no := by rw [h4]; exact hn
  refine wpIn_mono (hc hV σ1 a1 w1 fr1 m1 (hρ.mono h1) h2 (zh1 hn')) ?_
  intro e a2 w2 hp
  refine hp.then hn' ?_ (fun e _ h => by rw [h4] at h; exact h.trans h1 h3)
  intro σ2 fr2 m2 hs hst hk he
  refine ⟨σ2, fr2, m2, h1.trans hs, hst, h3.trans hk, ?_⟩
  rw [he] at h4
  exact h4
end
def xg (O : Ow) (σ : Sg) (w0 : World) : Out → Ending → World → Prop
 | .ok .ret r m, e, w => ∃ σ' v c, Sle σ σ' ∧ qA r 0 = some v ∧ zK σ' v = some c ∧ e = .returned c ∧ RelW O σ' m.hp m.nx w ∧ Keep O w0 w
 | .ok (.panic v) _ m, e, w => ∃ σ' t c, Sle σ σ' ∧ zK σ' v = some (.iface t c) ∧ e = .panicked [{ v := .iface t c, recovered := false }] ∧ RelW O σ' m.hp m.nx w ∧ Keep O w0 w
 | _, _, _ => False
def xC (O : Ow) (P : Program) (call : CallT) : Prop := VOk P O.V → ∀ (σ : Sg) (w : World) (f : FuncId) (args : List AV) (cs : List Value) (hp : Hp) (nx : Nat),
 RelW O σ hp nx w → zA σ args = some cs → call f args hp nx ≠ .no → CallsIn (FV O.V none) 0 P f cs.toArray w (xg O σ w (call f args hp nx))
def zcT (O : Ow) (P : Program) (yld : CallT) : Prop := VOk P O.V → ∀ (σ : Sg) (w : World) (l : Nat) (e : Loc) (args : List AV) (cs : List Value) (hp : Hp) (nx : Nat),
 RelW O σ hp nx w → σ l = some e → zA σ args = some cs → yld l args hp nx ≠ .no →
  ∃ r : Loop, w.heap[e.bl]? = some (.loop r) ∧ cs.length = r.params.size ∧
   RoundIn (FV O.V none) 0 P e.bl r.fn ((r.params.zip cs.toArray).foldl (fun tmps (t, a) => tmps.setIfInBounds t a) r.tmps) r.assign r.body w (xg O σ w (yld l args hp nx))
section
variable {O : Ow} {σ σ' : Sg} {E : Env} {ρ : Option Nat} {a : Act} {w w' : World} {fr : Fra} {m : Mem} {r : OR} {k : CT}
theorem FrR.put {n : Nat} {v : AV} {c : Value} {d : Nat} (h : FrR σ n fr a.tmps) (hv : zK σ v = some c) (hd : d < 256) (hn : d < n) : FrR σ n (zak v fr d) (a.put (some d) c).tmps := by
 refine ⟨by simpa [Act.put] using h.1, fun t u hu => ?_⟩
 rw [vp _ _ hd] at hu
 by_cases ht : t = d
 ·subst ht
  rw [if_pos rfl] at hu
  cases hu
  have hl : t < a.tmps.size := Nat.lt_of_lt_of_le hn h.1
  exact ⟨c, hv, by simp [Act.put, hl]⟩
 ·rw [if_neg ht] at hu
  obtain ⟨c', h1, h2⟩ := h.2 t u hu
  exact ⟨c', h1, by simp only [Act.put]; rw [Array.getElem?_setIfInBounds_ne (Ne.symm ht)]; exact h2⟩
theorem za4 {d : Option Tmp} {v : AV} {c : Value} {R : Out} (h : FrR σ E.N fr a.tmps) (hr : RelW O σ m.hp m.nx w) (hdf : DfL σ a.defers m.df) (hv : zK σ v = some c) (hk : putK E d v k fr m = R) (hR : R ≠ .no) :
  ∃ fr1, StR O σ E (a.put d c) w fr1 m ∧ k fr1 m = R := by
 cases d with
 | none => exact ⟨fr, ⟨h, hr, hdf⟩, hk⟩
 | some d =>
  have hk : (Bool.rec .no (k (zak v fr d) m) (Bool.rec false (Nat.blt d 256) (Nat.blt d E.N) : Bool) : Out) = R := hk
  cases h1 : Nat.blt d E.N with
  | false => rw [h1] at hk; exact absurd hk.symm hR
  | true =>
   cases h2 : Nat.blt d 256 with
   | false => rw [h1, h2] at hk; exact absurd hk.symm hR
   | true =>
    rw [h1, h2] at hk
    exact ⟨zak v fr d, ⟨h.put hv (qm h2) (qm h1), hr, hdf⟩, hk⟩
theorem zi9 {R0 R : Out} {kv : AV → Mem → Out} {df : List AD} {next : Act → World → Prop} {Q : Exit → Act → World → Prop} {o : Oper} (h0 : StR O σ E a w fr m) (h : zfy R0 fr m.df kv = R) (hR : R ≠ .no)
  (hn : ∀ σ1 w1 v c m1, Sle σ σ1 → zK σ1 v = some c → FrR σ1 E.N fr a.tmps → RelW O σ1 m1.hp m1.nx w1 → DfL σ1 a.defers m1.df → Keep O w w1 → kv v m1 = R → next (a.put o.dst c) w1)
  (hQ : ∀ x a w1, CPost O σ E w R x a w1 → Q x a w1) (e : Ending) (w1 : World) (hp : xg O σ w R0 e w1) :
  match e with
   | .returned v => next (a.put o.dst v) w1
   | .panicked chain => Q (.panic chain) a w1
   | .outgrown => LetsOut Q := by
 cases R0 with
 | no => exact hp.elim
 | ok x r0 m0 =>
  cases x with
  | ret =>
   obtain ⟨σ1, v, c, h1, h2, h3, rfl, h4, h5⟩ := hp
   have h' : kv v ⟨m0.hp, m0.nx, m.df⟩ = R := by
    have h6 : (match qA r0 0 with
     | some v => kv v ⟨m0.hp, m0.nx, m.df⟩
     | none => .no) = R := h
    rw [h2] at h6
    exact h6
   exact hn σ1 w1 v c ⟨m0.hp, m0.nx, m.df⟩ h1 h3 (h0.fr.mono h1) h4 (h0.df.mono h1) h5 h'
  | panic v =>
   obtain ⟨σ1, t, c, h1, h2, rfl, h4, h5⟩ := hp
   have h' : Out.ok (.panic v) fr ⟨m0.hp, m0.nx, m.df⟩ = R := h
   subst h'
   exact hQ _ _ _ ⟨σ1, h1, ⟨t, c, h2, rfl⟩, ⟨h0.fr.mono h1, h4, h0.df.mono h1⟩, h5⟩
  | normal => exact hp.elim
  | exit i => exact hp.elim
  | goto i => exact hp.elim
theorem zto (hV : VOk E.P O.V) (hc : xC O E.P E.call) (hy : zcT O E.P E.yld) (hρ : RdR σ E ρ) (h0 : StR O σ E a w fr m) (o : Oper) {R : Out} {next : Act → World → Prop} {Q : Exit → Act → World → Prop}
  (h : zcS (yh o.op E.P o.type fr m) E o.dst k fr m = R) (hR : R ≠ .no)
  (hn : ∀ σ1 a1 w1 fr1 m1, Sle σ σ1 → StR O σ1 E a1 w1 fr1 m1 → Keep O w w1 → k fr1 m1 = R → next a1 w1)
  (hQ : ∀ x a w1, CPost O σ E w R x a w1 → Q x a w1) : o.wpIn (FV O.V ρ) 0 E.P a w next Q := by
 have hop := zdd h0.fr h0.rel.glo
 obtain ⟨r, hr⟩ : ∃ r, yh o.op E.P o.type fr m = r := ⟨_, rfl⟩
 rw [hr] at h
 have hrn : r ≠ .no := by rintro rfl; exact hR h.symm
 refine ⟨zaZ hV hop o (vA hr hrn) w, ?_⟩
 have hops := zeI h0.rel hop o hr hrn
 have hsem : o.semAt ρ a.eval = execOp a.eval o := by
  by_cases hd : ∃ c, o.op = .defer c
  ·obtain ⟨c, hd⟩ := hd
   have : E.rd = none := by
    rw [hd] at hr
    have hr : zbU c fr c.callee = r := hr
    unfold zbU at hr
    split at hr
    ·split at hr
     ·subst hr
      cases hrd : E.rd with
      | none => rfl
      | some q =>
       have h' : (match E.rd with
        | none => putK E o.dst (.lit undef) k fr ⟨m.hp, m.nx, _ :: m.df⟩
        | some _ => .no) = R := h
       rw [hrd] at h'
       exact absurd h'.symm hR
     ·exact absurd hr.symm hrn
    ·exact absurd hr.symm hrn
   unfold RdR at hρ
   rw [this] at hρ
   subst hρ
   rfl
  ·exact Oper.semAt_eq _ _ _ fun c hc => hd ⟨c, hc⟩
 show o.uponIn (FV O.V ρ) 0 E.P a next Q ((o.semAt ρ a.eval).run E.P w)
 rw [hsem]
 cases r with
 | no => exact absurd rfl hrn
 | val v =>
  obtain ⟨c, h1, h2⟩ := hops
  rw [h2]
  obtain ⟨fr1, h3, h4⟩ := za4 h0.fr h0.rel h0.df h1 h hR
  exact hn σ _ w fr1 m (Sle.refl _) h3 (Keep.refl _ _) h4
 | mem v hp nx =>
  obtain ⟨σ1, c, w1, h1, h2, h3, h4, h5⟩ := hops
  obtain ⟨fr1, h6, h7⟩ := za4 (m := ⟨hp, nx, m.df⟩) (h0.fr.mono h1) h4 (h0.df.mono h1) h2 h hR
  rcases h3 with h3 | ⟨h3, rfl⟩
  ·rw [h3]; exact hn σ1 _ w1 fr1 _ h1 h6 h5 h7
  ·rw [h3]; exact hn σ1 _ w1 fr1 _ h1 h6 h5 h7
 | call f args =>
  obtain ⟨cs, h1, h2⟩ := hops
  rw [h2]
  have h' : zfy (E.call f args m.hp m.nx) fr m.df (fun v m => putK E o.dst v k fr m) = R := h
  have hcn : E.call f args m.hp m.nx ≠ .no := by intro e; rw [e] at h'; exact hR h'.symm
  refine ⟨fun hd => absurd hd (by simp [FV]), CallsIn.mono (hc hV σ w f args cs m.hp m.nx h0.rel h1 hcn) ?_⟩
  intro e w1 hp
  cases e <;> exact zi9 (df := m.df) h0 h' hR (fun σ1 w2 v c m1 g1 g2 g3 g4 g5 g6 g7 => by
   obtain ⟨fr1, g8, g9⟩ := za4 g3 g4 g5 g2 g7 hR
   exact hn σ1 _ w2 fr1 m1 g1 g8 g6 g9) hQ _ w1 hp
 | yld l args =>
  obtain ⟨e0, cs, h1, h2, h3⟩ := hops
  have h' : zfy (E.yld l args m.hp m.nx) fr m.df (fun v m => putK E o.dst v k fr m) = R := h
  have hcn : E.yld l args m.hp m.nx ≠ .no := by intro e; rw [e] at h'; exact hR h'.symm
  obtain ⟨r, g1, g2, g3⟩ := hy hV σ w l e0 args cs m.hp m.nx h0.rel h1 h2 hcn
  rw [h3, run_yield g1 (by simpa using g2)]
  refine ⟨fun hd => absurd hd (by simp [FV]), RoundIn.mono g3 ?_⟩
  intro e w1 hp
  cases e <;> exact zi9 (df := m.df) h0 h' hR (fun σ1 w2 v c m1 g1 g2 g3 g4 g5 g6 g7 => by
   obtain ⟨fr1, g8, g9⟩ := za4 g3 g4 g5 g2 g7 hR
   exact hn σ1 _ w2 fr1 m1 g1 g8 g6 g9) hQ _ w1 hp
 | dfr d =>
  cases d with
  | mark b => exact hops.elim
  | call f args =>
   obtain ⟨d, h1, h2⟩ := hops
   rw [h2]
   have h' : (match E.rd with
    | none => putK E o.dst (.lit undef) k fr ⟨m.hp, m.nx, .call f args :: m.df⟩
    | some _ => .no) = R := h
   cases hrd : E.rd with
   | some q => rw [hrd] at h'; exact absurd h'.symm hR
   | none =>
    rw [hrd] at h'
    obtain ⟨fr1, h6, h7⟩ := za4 (a := { a with defers := d :: a.defers }) (m := ⟨m.hp, m.nx, .call f args :: m.df⟩) (c := undef) h0.fr h0.rel ⟨h1, h0.df⟩ rfl h' hR
    exact hn σ _ w fr1 _ (Sle.refl _) h6 (Keep.refl _ _) h7
 | panic v =>
  obtain ⟨t, c, h1, h2⟩ := hops
  rw [h2]
  have h' : Out.ok (.panic v) fr m = R := h
  subst h'
  exact hQ _ _ _ ⟨σ, Sle.refl _, ⟨t, c, h1, rfl⟩, h0, Keep.refl _ _⟩
theorem zkN {all : Array Oper} {j : Nat} {b x : Bool} (h0 : FrR σ E.N fr a.tmps) (h : zb7 all.toList fr j b = some x) : (yielded all a.tmps j == some b) = x := by
 unfold zb7 at h
 cases hj : all.toList[j]? with
 | none => rw [hj] at h; cases h
 | some o =>
  rw [hj] at h
  have hj' : all[j]? = some o := by simpa using hj
  have h : (match o.dst with
   | some d => match qA fr d with
    | some (.lit (.bool c)) => some (c == b)
    | some (.lit (.tuple _)) => some false
    | _ => none
   | none => none) = some x := h
  cases hd : o.dst with
  | none => rw [hd] at h; cases h
  | some d =>
   rw [hd] at h
   dsimp only at h
   split at h
   ·rename_i c hf
    cases h
    obtain ⟨cv, h1, h2⟩ := h0.2 _ _ hf
    cases h1
    simp [yielded, hj', hd, h2]
   ·rename_i cs hf
    cases h
    obtain ⟨cv, h1, h2⟩ := h0.2 _ _ hf
    cases h1
    simp [yielded, hj', hd, h2]
   ·cases h
theorem zoh (hV : VOk E.P O.V) (hc : xC O E.P E.call) (hy : zcT O E.P E.yld) (ops : Array Oper) : ∀ (l : List Oper) (σ : Sg) (a : Act) (w : World) (fr : Fra) (m : Mem) (R : Out) (Q : Exit → Act → World → Prop), RdR σ E ρ → StR O σ E a w fr m → zgD E ops.toList l fr m = R → R ≠ .no →
  (∀ x a w1, CPost O σ E w R x a w1 → Q x a w1) → wpListIn (FV O.V ρ) 0 E.P ops Q l a w
 | [], σ, a, w, fr, m, R, Q, hρ, h0, h, hR, hQ => by
  subst h
  exact hQ _ _ _ (.one h0 trivial)
 | o :: l, σ, a, w, fr, m, R, Q, hρ, h0, h, hR, hQ => by
  have ih := zoh hV hc hy ops l
  have hnext : ∀ σ1 a1 w1 fr1 m1, Sle σ σ1 → StR O σ1 E a1 w1 fr1 m1 → Keep O w w1 → zgD E ops.toList l fr1 m1 = R → wpListIn (FV O.V ρ) 0 E.P ops Q l a1 w1 :=
   fun σ1 a1 w1 fr1 m1 g1 g2 g3 g4 => ih σ1 a1 w1 fr1 m1 R Q (hρ.mono g1) g2 g4 hR fun x a2 w2 g5 => hQ x a2 w2 (g5.trans g1 g3)
  obtain ⟨d, op, ty, pos, af, gd⟩ := o
  cases gd with
  | none =>
   have h : zcS (yh op E.P ty fr m) E d (zgD E ops.toList l) fr m = R := h
   show wpListIn (FV O.V ρ) 0 E.P ops Q _ a w
   unfold wpListIn
   simp only [Region.wanted, if_true]
   exact zto hV hc hy hρ h0 ⟨d, op, ty, pos, af, none⟩ h hR hnext hQ
  | some g =>
   obtain ⟨j, b⟩ := g
   have h : zpe (zb7 ops.toList fr j b) (zcS (yh op E.P ty fr m) E d (zgD E ops.toList l) fr m) (cond (xX op E.P fr) (putK E d (.lit undef) (zgD E ops.toList l) fr m) .no) = R := h
   cases hw : zb7 ops.toList fr j b with
   | none => rw [hw] at h; exact absurd h.symm hR
   | some x =>
    rw [hw] at h
    have hy' := zkN h0.fr hw
    unfold wpListIn
    simp only [Region.wanted, hy']
    cases x with
    | true =>
     simp only [if_true]
     exact zto hV hc hy hρ h0 ⟨d, op, ty, pos, af, some (j, b)⟩ h hR hnext hQ
    | false =>
     simp only [Bool.false_eq_true, if_false]
     cases hab : xX op E.P fr with
     | false => rw [hab] at h; exact absurd h.symm hR
     | true =>
      rw [hab] at h
      refine ⟨zaZ hV (zdd h0.fr h0.rel.glo) ⟨d, op, ty, pos, af, some (j, b)⟩ hab w, ?_⟩
      obtain ⟨fr1, h6, h7⟩ := za4 (c := undef) h0.fr h0.rel h0.df rfl h hR
      exact hnext σ _ w fr1 _ (Sle.refl _) h6 (Keep.refl _ _) h7
theorem zgX (hc : xC O E.P E.call) (hy : zcT O E.P E.yld) {i : Nat} {ops : Array Oper} : xK O E ρ (.region i ops false) := by
 intro hV σ a w fr m hρ h hn
 exact wpIn_region_list (zoh hV hc hy ops ops.toList σ a w fr m _ _ hρ h rfl hn fun _ _ _ h => h)
end
section
variable {O : Ow} {σ σ' : Sg} {P : Program} {E : Env} {ρ : Option Nat} {a : Act} {w w' : World} {fr : Fra} {m : Mem} {k : CT} {hp : Hp} {nx n : Nat} {tmps : Array Value}
theorem zez (hw : RelW O σ hp nx w) (hf : FrR σ n fr tmps) : ∀ (rs : List ResultVar) (vs : List AV), Ev.resOf P hp fr rs = some vs → ∃ cs, zA σ vs = some cs ∧ (rs.mapM (jj tmps)).run P w = .ok cs w
 | [], vs, h => by cases h; exact ⟨[], rfl, by simp⟩
 | .tmp t :: rs, vs, h => by
  simp only [Ev.resOf] at h
  split at h
  ·rename_i v vs' h1 h2
   cases h
   obtain ⟨cs, g1, g2⟩ := zez hw hf rs vs' h2
   obtain ⟨c, g3, g4⟩ := hf.2 _ _ h1
   refine ⟨c :: cs, by simp only [zA, g3, g1], ?_⟩
   have hs : (jj tmps (.tmp t)).run P w = .ok c w := by
    simp only [jj, Sem.run_pure]
    rw [Array.getD_eq_getD_getElem?, g4]; rfl
   simp only [List.mapM_cons, Sem.run_bind, hs, Result.andThen_ok, g2, Sem.run_pure]
  ·cases h
 | .cell t ty :: rs, vs, h => by
  simp only [Ev.resOf] at h
  split at h
  ·rename_i b o vs' h1 h2
   split at h
   ·rename_i v h3
    cases h
    obtain ⟨cs, g1, g2⟩ := zez hw hf rs vs' h2
    obtain ⟨c, g3, g4⟩ := hf.2 _ _ h1
    obtain ⟨e, he, rfl⟩ := yq g3
    obtain ⟨cc, ro, k1, k2⟩ := zhl h3 (by simp)
    obtain ⟨v', k3, cv, k4, k5⟩ := zit hw k1 he k2 (by simp)
    cases k3
    refine ⟨cv :: cs, by simp only [zA, k4, g1], ?_⟩
    have hs : (jj tmps (.cell t ty)).run P w = .ok cv w := by
     simp only [jj, Sem.run_bind]
     rw [Array.getD_eq_getD_getElem?, g4]
     simp [asAddr, k5]
    simp only [List.mapM_cons, Sem.run_bind, hs, Result.andThen_ok, g2, Sem.run_pure]
   ·cases h
  ·cases h
theorem zjV {fn : Func} (hw : RelW O σ hp nx w) (hf : FrR σ n fr tmps) {vs : List AV} (h : Ev.resOf P hp fr fn.results.toList = some vs) : ∃ c, zK σ (zum vs) = some c ∧ (results fn tmps).run P w = .ok c w := by
 obtain ⟨cs, h1, h2⟩ := zez hw hf _ _ h
 have hl := ql h1
 refine ⟨Go.Proofs.YtihedfkcccaonaaGreatDoor.resOf cs, ?_, ?_⟩
 ·rcases vs with _ | ⟨v, _ | ⟨u, vs⟩⟩
  ·cases h1; rfl
  ·obtain ⟨c, h3, rfl⟩ := kB h1
   exact h3
  ·rcases cs with _ | ⟨c, _ | ⟨d, cs⟩⟩
   ·cases hl
   ·cases hl
   ·show (zA σ (v :: u :: vs)).map _ = _
    rw [h1]; rfl
 ·rw [zck, ← Array.toArray_toList (xs := fn.results), List.mapM_toArray]
  simp only [Sem.run_bind, Sem.run_map, h2, Result.andThen_ok, Sem.run_pure]
  clear h1 h2 hl h
  rcases cs with _ | ⟨v, _ | ⟨u, vs⟩⟩
  ·rfl
  ·rfl
  ·simp [Go.Proofs.YtihedfkcccaonaaGreatDoor.resOf]
theorem ziH {args : List AV} {cs : List Value} (h : zA σ args = some cs) (hl : args.length ≤ 256) (N : Nat) : FrR σ N (jw args 0 (xL 8)) (cs.toArray ++ Array.replicate (N - cs.toArray.size) undef) := by
 refine ⟨by simp; omega, fun t v hv => ?_⟩
 rw [zbd args 0 _ (by omega) t, ziQ] at hv
 have hv : args[t]? = some v := by
  split at hv
  ·rename_i ht
   simpa using hv
  ·cases hv
 obtain ⟨c, h1, h2⟩ := yf h t v hv
 refine ⟨c, h1, ?_⟩
 rw [Array.getElem?_append_left (by simpa using (List.getElem?_eq_some_iff.1 h2).1)]
 simpa using h2
end
section
variable {O : Ow} {σ σ' : Sg} {P : Program} {E : Env} {ρ : Option Nat} {a : Act} {w w' : World} {fr : Fra} {m : Mem} {k : CT} {hp : Hp} {nx n : Nat} {tmps : Array Value}
theorem jO {f f' : FuncId} {xs ys : List AV} {cs : List Value} (hx : zA σ xs = some cs) (h : kN P f xs = .call f' ys) (w : World) : f' = f ∧ ys = xs ∧ (callFunc f cs.toArray).run P w = .ok (.enter f cs.toArray) w := by
  have h2 := zdp (O := ⟨fun _ => True, fun _ => none, fun _ => True⟩) (w := w) hx h (by simp)
  obtain ⟨cs', h3, h4⟩ := h2
  unfold kN at h
  cases hf : P.funcs[f]? with
  | none => rw [hf] at h; cases h
  | some fn =>
    rw [hf] at h
    cases hb : fn.body with
    | some c =>
      have h : cond (fn.name == "runtime.NumGoroutine") .no (.call f xs) = OR.call f' ys := by rw [← h]; simp only [hb]
      cases hn : fn.name == "runtime.NumGoroutine" with
      | true => rw [hn] at h; cases h
      | false =>
        rw [hn] at h
        cases h
        rw [hx] at h3; cases h3
        exact ⟨rfl, rfl, h4⟩
    | none =>
      have h : cond (fn.name == "internal/abi.NoEscape" && fn.origin == "") (zj0 xs) (ob (zcz xs) fun vs => jt (match pv P (callFunc f vs.toArray) with | some (.value v) => some v | _ => none)) = OR.call f' ys := by rw [← h]; simp only [hb]; rfl
      cases hne : fn.name == "internal/abi.NoEscape" && fn.origin == "" with
      | true =>
        rw [hne] at h
        have h : zj0 xs = OR.call f' ys := h
        unfold zj0 at h
        split at h <;> cases h
      | false =>
      rw [hne] at h
      have h : (ob (zcz xs) fun vs => jt (match pv P (callFunc f vs.toArray) with | some (.value v) => some v | _ => none)) = OR.call f' ys := h
      obtain ⟨vs, h1, h⟩ := zw h (by simp)
      obtain ⟨v, h2, h3⟩ := yw h (by simp)
      cases h3
theorem zm6 {v : AV} {cv : Value} {xs ys : List AV} {cs : List Value} {f : FuncId} (hv : zK σ v = some cv) (hx : zA σ xs = some cs) (h : zfT P v xs = .call f ys) :
    ∃ (fst cap : Array Value) (zs : List Value), cv = .func (.func f) fst cap ∧ zA σ ys = some zs ∧ (fst ++ cs.toArray) ++ cap = zs.toArray ∧ (∀ w, (callFunc f zs.toArray).run P w = .ok (.enter f zs.toArray) w) ∧ P.funcs[f]?.isSome = true := by
  unfold zfT at h
  split at h
  · rename_i f' a b
    simp only [zK] at hv
    cases ha : zA σ a with
    | none => rw [ha] at hv; cases hv
    | some ca =>
      cases hb : zA σ b with
      | none => rw [ha, hb] at hv; cases hv
      | some cb =>
        rw [ha, hb] at hv
        cases hv
        have hc := yg (yg ha hx) hb
        obtain ⟨rfl, rfl, _⟩ := jO hc h default
        exact ⟨ca.toArray, cb.toArray, _, rfl, hc, by simp, fun w => (jO hc h w).2.2, kV h (by simp)⟩
  · rename_i f' a b
    have e := nQs hv
    subst e
    have hc := yg (yg (kj a) hx) (kj b)
    obtain ⟨rfl, rfl, _⟩ := jO hc h default
    exact ⟨a, b, _, rfl, hc, Array.ext' (by simp), fun w => (jO hc h w).2.2, kV h (by simp)⟩
  · cases h
  · cases h
theorem zoc {l : Nat} {e : Loc} {R : Out} {w0 : World} {σ0 : Sg} {Q : Exit → Act → World → Prop} (h0 : StR O σ E a w fr m) (he : σ l = some e) (hs : Sle σ0 σ) (hk : Keep O w0 w) (h : zga l fr m = R) (hR : R ≠ .no)
    (hQ : ∀ x a w1, CPost O σ0 E w0 R x a w1 → Q x a w1) :
    ∃ jump w₄, (Instr.endLoop e.bl).run P w = .ok jump w₄ ∧ (match jump with
       | none => Q .normal a w₄
       | some c => c.wpIn (FV O.V ρ) 0 P Q a w₄) := by
  have fin : ∀ st pe n tf ps c d, st ≠ LoopState.busy → qz m.hp l = some (.loop st pe n tf ps c d) → ∃ w4, (Instr.endLoop e.bl).run P w = .ok (exC pe) w4 ∧ StR O σ E a w4 fr ⟨hset .dead m.hp l, m.nx, m.df⟩ ∧ Keep O w w4 := by
    intro st pe n tf ps c d hst hl
    obtain ⟨r, h1, h2, h3, _⟩ := h0.rel.obj _ _ _ hl he
    have h4 := run_endLoop (P := P) h1 (by rw [h2]; exact hst)
    have hwr := h0.rel.write (o' := .dead) (w' := w.putObj e.bl (.loop { r with state := .exhausted })) hl rfl he trivial (by simp [World.putObj]) (fun k hk => World.putObj_heap_other hk) rfl rfl rfl
    exact ⟨_, by rw [← h3]; exact h4, ⟨h0.fr, hwr.1, h0.df⟩, hwr.2⟩
  unfold zga at h
  split at h
  · rename_i n tf ps c d hl
    obtain ⟨w4, h1, h2, h3⟩ := fin _ _ _ _ _ _ _ (by simp) hl
    subst h
    exact ⟨_, _, h1, hQ _ _ _ ⟨σ, hs, trivial, h2, hk.trans h3⟩⟩
  · rename_i n tf ps c d hl
    obtain ⟨w4, h1, h2, h3⟩ := fin _ _ _ _ _ _ _ (by simp) hl
    subst h
    exact ⟨_, _, h1, wpIn_ret (hQ _ _ _ ⟨σ, hs, trivial, h2, hk.trans h3⟩)⟩
  · rename_i i n tf ps c d hl
    obtain ⟨w4, h1, h2, h3⟩ := fin _ _ _ _ _ _ _ (by simp) hl
    subst h
    exact ⟨_, _, h1, wpIn_exit (hQ _ _ _ ⟨σ, hs, rfl, h2, hk.trans h3⟩)⟩
  · rename_i i n tf ps c d hl
    obtain ⟨w4, h1, h2, h3⟩ := fin _ _ _ _ _ _ _ (by simp) hl
    subst h
    exact ⟨_, _, h1, wpIn_goto (hQ _ _ _ ⟨σ, hs, rfl, h2, hk.trans h3⟩)⟩
  · exact absurd h.symm hR
theorem zf6 (hV : VOk E.P O.V) (hc : xC O E.P E.call) {g : AV} {cg : Value} {ps : Array Tmp} {ac bd : Code} {fn : FuncId} (hfv : O.V fn) {df : List AD} {mk : List Deferred} {dfr : Nat} {R : Out} {w0 : World} {σ0 : Sg} {Q : Exit → Act → World → Prop}
    (hf : FrR σ E.N fr a.tmps) (hw : RelW O σ hp nx w) (hd : DfL σ (mk ++ a.defers) df) (hg : zK σ g = some cg) (hs : Sle σ0 σ) (hk : Keep O w0 w)
    (h : vq E g ps ac bd fr hp nx df = R) (hR : R ≠ .no) (hQ : ∀ x a w1, CPost O σ0 E w0 R x a w1 → Q x a w1) :
    ∃ (d : Deferred) (f : FuncId) (args : Array Value),
      Deferred.ofValue cg #[.func (.yield w.heap.size) #[] #[]] = pure d ∧ (∀ w, (invoke d.target d.args).run E.P w = .ok (.enter f args) w) ∧ (∀ w f', Target.leads E.P w d.target d.args = some f' → O.V f') ∧
      CallsIn (FV O.V ρ) 0 E.P f args (w.alloc (.loop { state := .ready, pending := none, fn, tmps := a.tmps, params := ps, assign := ac, body := bd, defers := dfr }))
        (rangePost (FV O.V ρ) 0 E.P w.heap.size Q { a with defers := mk ++ a.defers }) := by
  unfold vq at h
  split at h
  · rename_i f ys hfn
    cases hb : Nat.blt nx 16384 with
    | false => rw [hb] at h; exact absurd h.symm hR
    | true =>
      rw [hb] at h
      have hlt := qm hb
      have h : zfy (E.call f ys (hset (.loop .ready .normal E.N fr ps.toList ac bd) hp nx) (Nat.add nx 1)) fr df (fun _ m' => zga nx fr m') = R := h
      have hcn : E.call f ys (hset (.loop .ready .normal E.N fr ps.toList ac bd) hp nx) (Nat.add nx 1) ≠ .no := by intro e; rw [e] at h; exact hR h.symm
      have hn := hw.fresh nx (Nat.le_refl _)
      let e0 : Loc := ⟨w.heap.size, 0, 0, 1, 0⟩
      have hsl : Sle σ (xi σ nx e0) := xb hn
      obtain ⟨q1, q2, q3⟩ := hw.alloc (id := nx) hlt (nx' := nx + 1) (Nat.le_succ _) (Nat.lt_succ_self _) hn hw.now (.loop .ready .normal E.N fr ps.toList ac bd)
        (.loop { state := .ready, pending := none, fn, tmps := a.tmps, params := ps, assign := ac, body := bd, defers := dfr }) e0 rfl ⟨_, rfl, rfl, rfl, rfl, rfl, rfl, hf.mono hsl, hfv⟩
      have hy : zA (xi σ nx e0) [.yld nx] = some [.func (.yield w.heap.size) #[] #[]] := by
        simp only [zA, zK, qe, Option.map_some, e0]
      obtain ⟨fst, cap, zs, r1, r2, r3, r4, r5⟩ := zm6 (qU hsl _ _ hg) hy hfn
      subst r1
      refine ⟨{ target := .fn (.func f) cap, args := fst ++ #[.func (.yield w.heap.size) #[] #[]] }, f, zs.toArray, rfl, fun w' => ?_, fun w' f' hl => ?_, ?_⟩
      · have := r4 w'
        rw [← r3] at this ⊢
        exact this
      · have hl : some f = some f' := hl
        cases hl
        exact (hV f).2 (Option.isSome_iff_exists.1 r5)
      · have hcall := hc hV _ _ f ys zs _ _ q1 r2 hcn
        refine CallsIn.mono (R := xg O (xi σ nx e0) _ _) hcall ?_
        intro x w3 hp3
        cases hE : E.call f ys (hset (.loop .ready .normal E.N fr ps.toList ac bd) hp nx) (Nat.add nx 1) with
        | no => exact absurd hE hcn
        | ok ex r0 m0 =>
          rw [hE] at hp3 h
          cases ex with
          | ret =>
            obtain ⟨σ1, v, c, g1, g2, g3, rfl, g4, g5⟩ := hp3
            have h' : zga nx fr ⟨m0.hp, m0.nx, df⟩ = R := by
              have h6 : (match qA r0 0 with
                | some v => zga nx fr ⟨m0.hp, m0.nx, df⟩
                | none => .no) = R := h
              rw [g2] at h6
              exact h6
            have hσ1 : Sle σ σ1 := hsl.trans g1
            have he : σ1 nx = some e0 := g1 _ _ (qe _ _ _)
            exact zoc (E := E) (ρ := ρ) (a := { a with defers := mk ++ a.defers }) (m := ⟨m0.hp, m0.nx, df⟩) ⟨hf.mono hσ1, g4, hd.mono hσ1⟩ he (hs.trans hσ1) (hk.trans (q3.trans g5)) h' hR hQ
          | panic v =>
            obtain ⟨σ1, t, c, g1, g2, rfl, g4, g5⟩ := hp3
            have h' : Out.ok (.panic v) fr ⟨m0.hp, m0.nx, df⟩ = R := h
            have hσ1 : Sle σ σ1 := hsl.trans g1
            subst h'
            exact hQ _ _ _ ⟨σ1, hs.trans hσ1, ⟨t, c, g2, rfl⟩, ⟨hf.mono hσ1, g4, hd.mono hσ1⟩, hk.trans (q3.trans g5)⟩
          | normal => exact hp3.elim
          | exit i => exact hp3.elim
          | goto i => exact hp3.elim
  · exact absurd h.symm hR
theorem zby {g : Operand} {l : Nat} {d : Deferred} (h : Deferred.ofValue (a.eval g) #[.func (.yield l) #[] #[]] = pure d) (w : World) : (resolve a.eval (rangeCall g l) 0).run P w = .ok d w := by
  have : resolve a.eval (rangeCall g l) 0 = Deferred.ofValue (a.eval g) #[.func (.yield l) #[] #[]] := by
    simp [resolve, Act.eval]
  rw [this, h]; rfl
theorem zh6 (hc : xC O E.P E.call) {g : Operand} {ps : Array Tmp} {ac bd : Code} : xK O E ρ (.rangeFunc g ps ac bd) := by
  intro hV σ a w fr m hρ h hn
  have hop := zdd h.fr h.rel.glo
  obtain ⟨R, hR'⟩ : ∃ R, zcJ E g ps ac bd fr m = R := ⟨_, rfl⟩
  have hn : zcJ E g ps ac bd fr m ≠ .no := hn
  show (Code.rangeFunc g ps ac bd).wpIn (FV O.V ρ) 0 E.P (CPost O σ E w (zcJ E g ps ac bd fr m)) a w
  rw [hR'] at hn ⊢
  unfold zcJ at hR'
  cases hg : opd fr g with
  | none => rw [hg] at hR'; exact absurd hR'.symm hn
  | some gv =>
    rw [hg] at hR'
    have hgv := hop _ _ hg
    refine wpIn_rangeFunc ?_
    intro fn hfv
    cases hrd : E.rd with
    | none =>
      have hρ : ρ = none := by unfold RdR at hρ; rw [hrd] at hρ; exact hρ
      subst hρ
      have hR' : cond (Nat.blt m.nx 16384) (vq E gv ps ac bd fr (hset .dfr m.hp m.nx) (Nat.add m.nx 1) (.mark m.nx :: m.df)) .no = R := by
        rw [← hR']; simp only [hrd]
      cases hb : Nat.blt m.nx 16384 with
      | false => rw [hb] at hR'; exact absurd hR'.symm hn
      | true =>
        rw [hb] at hR'
        have hlt := qm hb
        have hfr := h.rel.fresh m.nx (Nat.le_refl _)
        let e0 : Loc := ⟨w.heap.size, 0, 0, 1, 0⟩
        have hsl : Sle σ (xi σ m.nx e0) := xb hfr
        obtain ⟨q1, q2, q3⟩ := h.rel.alloc (id := m.nx) hlt (nx' := m.nx + 1) (Nat.le_succ _) (Nat.lt_succ_self _) hfr h.rel.now .dfr (.deferred (some [])) e0 rfl rfl
        obtain ⟨d, f, args, r1, r2, rl, r3⟩ := zf6 (hfv := hfv) (ρ := none) (df := .mark m.nx :: m.df) (fn := fn) (dfr := w.heap.size) (mk := [{ target := .collected w.heap.size, args := #[] }]) (Q := CPost O σ E w R) hV hc (h.fr.mono hsl) q1
          ⟨⟨e0, qe _ _ _, rfl⟩, h.df.mono hsl⟩ (qU hsl _ _ hgv) hsl q3 hR' hn (fun _ _ _ h => h)
        have hsz : (w.alloc (.deferred (some []))).heap.size = w.heap.size + 1 := by simp
        rw [hsz] at r1 r3
        refine ⟨w.heap.size + 1, [{ target := .collected w.heap.size, args := #[] }], _, d, _, f, args, _, run_enterLoop_outer _ _ _ _ _, zby r1 _, rl _, r2 _, fun hd => absurd hd (by simp [FV]), r3⟩
    | some q =>
      have hρ' : ∃ e, σ q = some e ∧ ρ = some e.bl := by unfold RdR at hρ; rw [hrd] at hρ; exact hρ
      obtain ⟨e, he, rfl⟩ := hρ'
      have hR' : cond (zhw (qz m.hp q)) (vq E gv ps ac bd fr m.hp m.nx m.df) .no = R := by
        rw [← hR']; simp only [hrd]
      cases hb : zhw (qz m.hp q) with
      | false => rw [hb] at hR'; exact absurd hR'.symm hn
      | true =>
        rw [hb] at hR'
        unfold zhw at hb
        split at hb
        · rename_i st pe n tf qs c d hl
          obtain ⟨r0, h1, _⟩ := h.rel.obj _ _ _ hl he
          obtain ⟨d, f, args, r1, r2, rl, r3⟩ := zf6 (hfv := hfv) (ρ := some e.bl) (fn := fn) (dfr := r0.defers) (mk := []) (Q := CPost O σ E w R) hV hc h.fr h.rel h.df hgv (Sle.refl _) (Keep.refl _ _) hR' hn (fun _ _ _ h => h)
          refine ⟨w.heap.size, [], _, d, _, f, args, _, run_enterLoop_inner h1 _ _ _ _ _, zby r1 _, rl _, r2 _, fun hd => absurd hd (by simp [FV]), r3⟩
        · cases hb
end
theorem zfq {a b : Bool} (h : cond a b false = true) : a = true ∧ b = true := by cases a <;> first | exact ⟨rfl, h⟩ | cases h
theorem jK {i : Nat} : ∀ {l : List Nat}, zcw i l = true ↔ i ∈ l
 | [] => by simp [zcw]
 | j :: l => by
  have ih := jK (i := i) (l := l)
  simp only [zcw, List.mem_cons]
  cases hb : Nat.beq i j with
  | true => simp [nQe hb]
  | false =>
   have hne : i ≠ j := by rintro rfl; rw [Nat.beq_refl] at hb; cases hb
   simp [hne, ih]
theorem xQ {p : Nat → Bool} : ∀ {l : List Nat}, zds p l = true ↔ ∀ i ∈ l, p i = true
 | [] => by simp [zds]
 | j :: l => by
  have ih := xQ (p := p) (l := l)
  simp only [zds, List.mem_cons]
  cases hb : p j with
  | true => simp [hb, ih]
  | false => simp [hb]
theorem zjo {p : Nat → Bool} : ∀ {l : List Nat}, zqu p l = true ↔ ∃ i ∈ l, p i = true
 | [] => by simp [zqu]
 | j :: l => by
  have ih := zjo (p := p) (l := l)
  simp only [zqu, List.mem_cons]
  cases hb : p j with
  | true => simp [hb]
  | false => simp [hb, ih]
theorem zmw {ops : List Oper} {l : List Nat} {i : Nat} (h : zc4 ops l i = true) : ∃ o, ops[i]? = some o ∧ i ∉ l ∧ ∀ j ∈ yv o, j ∈ l := by
 unfold zc4 at h
 split at h
 ·rename_i o ho
  cases hm : zcw i l with
  | true => rw [hm] at h; cases h
  | false =>
   rw [hm] at h
   refine ⟨o, ho, fun hi => ?_, fun j hj => jK.1 (xQ.1 h j hj)⟩
   rw [jK.2 hi] at hm; cases hm
 ·cases h
theorem zih {ops : List Oper} : ∀ {l late p2 p1 : List Nat} {i : Nat}, ordOk ops late l = true → l = p2 ++ i :: p1 → zc4 ops p1 i = true ∧
  (isE ops i = true → ∀ j, j ∈ late ∨ j ∈ p2 → ∃ o, ops[j]? = some o ∧ ∃ k ∈ yv o, k = i ∨ k ∈ late ∨ k ∈ p2)
 | [], late, p2, p1, i, h, hl => by cases p2 <;> cases hl
 | x :: l, late, p2, p1, i, h, hl => by
  simp only [ordOk] at h
  obtain ⟨h1, h2⟩ := zfq h
  obtain ⟨h3, h4⟩ := zfq h2
  cases p2 with
  | nil =>
   cases hl
   refine ⟨h1, fun hE j hj => ?_⟩
   have hj : j ∈ late := by simpa using hj
   rw [hE] at h3
   have h5 := xQ.1 h3 j hj
   split at h5
   ·rename_i o ho
    obtain ⟨k, hk, h6⟩ := zjo.1 h5
    refine ⟨o, ho, k, hk, ?_⟩
    cases hb : Nat.beq k x with
    | true => exact .inl (nQe hb)
    | false => rw [hb] at h6; exact .inr (.inl (jK.1 h6))
   ·cases h5
  | cons y p2 =>
   cases hl
   obtain ⟨q1, q2⟩ := zih h4 rfl
   refine ⟨q1, fun hE j hj => ?_⟩
   obtain ⟨o, ho, k, hk, h6⟩ := q2 hE j (by simp at hj ⊢; rcases hj with h | h | h <;> simp [h])
   exact ⟨o, ho, k, hk, by
    simp only [List.mem_cons] at h6 ⊢
    rcases h6 with h | (h | h) | h
    ·exact .inl h
    ·exact .inr (.inr (.inl h))
    ·exact .inr (.inl h)
    ·exact .inr (.inr (.inr h))⟩
theorem zmy {a : Array Oper} {st : List Nat} (h : zhf a = some st) : (∀ i, i < a.size → i ∈ st) ∧ (∀ i, i < a.size → zij a.toList (List.range a.size) i = true) ∧ ordOk a.toList [] st.reverse = true := by
 unfold zhf at h
 simp only [Array.length_toList] at h
 generalize zkV a.toList (List.range a.size) a.size [] = l at h
 cases h1 : zds (fun i => zcw i l) (List.range a.size) with
 | false => rw [h1] at h; cases h
 | true =>
  rw [h1] at h
  cases h2 : zds (zij a.toList (List.range a.size)) (List.range a.size) with
  | false => rw [h2] at h; cases h
  | true =>
   rw [h2] at h
   cases h3 : ordOk a.toList [] l with
   | false => rw [h3] at h; cases h
   | true =>
    rw [h3] at h
    cases h
    exact ⟨fun i hi => by simpa using jK.1 (xQ.1 h1 i (by simpa using hi)), fun i hi => xQ.1 h2 i (by simpa using hi), by simpa using h3⟩
def Ow.lay (O : Ow) (id : Nat) : Ow := ⟨O.own, fun b => if b = id then none else O.late b, O.V⟩
section
variable {O : Ow} {σ σ' : Sg} {P : Program} {fr fr' : Fra} {m : Mem} {w : World} {hp hp' : Hp} {nx : Nat}
theorem RelW.ext (h : RelW O σ hp nx w) (he : ∀ b, qz hp' b = qz hp b) : RelW O σ hp' nx w :=
 ⟨fun b o e hb hs => h.obj b o e (he b ▸ hb) hs, fun b b' o o' e e' hb hb' => h.inj b b' o o' e e' (he b ▸ hb) (he b' ▸ hb'), fun b o e hb => h.own b o e (he b ▸ hb), h.fresh, h.lt, h.new, h.glo,
  fun b o hb => let ⟨l1, l2, l3⟩ := h.late b o hb; ⟨l1, l2, (he b).trans l3⟩⟩
theorem RelW.lay (h : RelW O σ hp nx w) {id : Nat} {o : xD} (hl : O.late id = some o) (ob : Obj) (e : Loc) (he : e.bl = w.heap.size) (ho : ObjR O.V (xi σ id e) e o (some ob)) :
  RelW (O.lay id) (xi σ id e) hp nx (w.alloc ob) ∧ Sle σ (xi σ id e) ∧ Keep O w (w.alloc ob) := by
 obtain ⟨l1, l2, l3⟩ := h.late id o hl
 have h' : RelW (O.lay id) σ hp nx w := ⟨h.obj, h.inj, h.own, h.fresh, h.lt, h.new, h.glo, fun b o' hb => by
  have hb : (if b = id then none else O.late b) = some o' := hb
  split at hb
  ·cases hb
  ·exact h.late b o' hb⟩
 have hid := zeb l3
 obtain ⟨q1, q2, q3⟩ := h'.alloc hid (Nat.le_refl _) l2 l1 (show (if id = id then none else O.late id) = none by simp) o ob e he ho
 refine ⟨q1.ext fun b => ?_, q2, q3.os, q3.tape, q3.output, q3.size, q3.block⟩
 rw [qa _ _ hid]
 split
 ·rename_i hb; rw [hb]; exact l3
 ·rfl
def zse {α : Type} (t : TT α 8) (k : Nat) : TT α 8 := zq0 none t k
theorem zed {α : Type} (t : TT α 8) {k : Nat} (h : 256 ≤ k) : qA t k = none := by
 cases hv : qA t k with
 | none => rfl
 | some v => exact absurd (zlD hv) (by omega)
theorem ziR {α : Type} (t : TT α 8) {k : Nat} (hk : k < 256) (j : Nat) : qA (zse t k) j = if j = k then none else qA t j := by
 rcases Nat.lt_or_ge j 256 with hj | hj
 ·rw [zcG _ hj]
  show tget ps8 (tset none ps8 t k) j = _
  split
  ·rename_i h; subst h; exact za2 _ _ _ _
  ·rename_i h
   rw [zcG _ hj]
   obtain ⟨i, hi, hne⟩ := zhJ (n := 8) hk hj (fun e => h e.symm)
   exact j9 _ _ _ _ _ ⟨_, zk9 i hi, hne⟩
 ·rw [zed _ hj, zed _ hj]
  split <;> rfl
def zaN {α : Type} (t : TT α 8) : List Nat → TT α 8
 | [] => t
 | k :: l => match Nat.blt k 256 with
  | true => zse (zaN t l) k
  | false => zaN t l
theorem zdm {α : Type} (t : TT α 8) (j : Nat) : ∀ (l : List Nat), qA (zaN t l) j = if j ∈ l then none else qA t j
 | [] => by simp [zaN]
 | k :: l => by
  have ih := zdm t j l
  cases hb : Nat.blt k 256 with
  | true =>
   have : zaN t (k :: l) = zse (zaN t l) k := by simp only [zaN, hb]
   rw [this, ziR _ (qm hb), ih]
   by_cases h1 : j = k <;> by_cases h2 : j ∈ l <;> simp [h1, h2]
  | false =>
   have : zaN t (k :: l) = zaN t l := by simp only [zaN, hb]
   rw [this, ih]
   have hk : 256 ≤ k := Nat.le_of_not_lt fun h => by rw [zaW h] at hb; cases hb
   by_cases h1 : j = k
   ·subst h1
    rw [zed t hk]; simp
   ·by_cases h2 : j ∈ l <;> simp [h1, h2]
theorem zfp {fr : Fra} {t : Nat} {v : AV} : ∀ {all : List Oper}, qA (xN fr all) t = some v → qA fr t = some v ∧ ∀ o ∈ all, o.dst ≠ some t
 | [], h => ⟨h, fun o ho => by cases ho⟩
 | o :: l, h => by
  have ih := @zfp fr t v l
  cases hd : o.dst with
  | none =>
   have : xN fr (o :: l) = xN fr l := by simp only [xN, hd]
   rw [this] at h
   obtain ⟨h1, h2⟩ := ih h
   exact ⟨h1, fun o' ho' => by
    rcases List.mem_cons.1 ho' with rfl | ho'
    ·rw [hd]; simp
    ·exact h2 o' ho'⟩
  | some d =>
   cases hb : Nat.blt d 256 with
   | true =>
    have : xN fr (o :: l) = zse (xN fr l) d := by simp only [xN, hd, hb]; rfl
    rw [this, ziR _ (qm hb)] at h
    by_cases htd : t = d
    ·rw [if_pos htd] at h; cases h
    ·rw [if_neg htd] at h
     obtain ⟨h1, h2⟩ := ih h
     exact ⟨h1, fun o' ho' => by
      rcases List.mem_cons.1 ho' with rfl | ho'
      ·rw [hd]; exact fun e => htd (nQs e).symm
      ·exact h2 o' ho'⟩
   | false =>
    have : xN fr (o :: l) = xN fr l := by simp only [xN, hd, hb]
    rw [this] at h
    obtain ⟨h1, h2⟩ := ih h
    exact ⟨h1, fun o' ho' => by
     rcases List.mem_cons.1 ho' with rfl | ho'
     ·rw [hd]
      intro e
      cases e
      rw [zed _ (Nat.le_of_not_lt fun h => by rw [zaW h] at hb; cases hb)] at h1
      cases h1
     ·exact h2 o' ho'⟩
theorem kI : ∀ (l : List Operand), (∀ x ∈ l, opd fr x = opd fr' x) → zcr fr l = zcr fr' l
 | [], _ => rfl
 | x :: l, h => by simp only [zcr, h x (by simp), kI l fun y hy => h y (by simp [hy])]
theorem vf : ∀ (l : List (Nat × Operand)), (∀ x ∈ l, opd fr x.2 = opd fr' x.2) → kh fr l = kh fr' l
 | [], _ => rfl
 | (i, x) :: l, h => by simp only [kh, h (i, x) (by simp), vf l fun y hy => h y (by simp [hy])]
theorem x8 (op : Op) (ty : Nat) (h : ∀ x ∈ op.operands, opd fr x = opd fr' x) : yh op P ty fr m = yh op P ty fr' m := by
 cases op with
 | alloc t => rfl
 | build t ps =>
  have := vf (fr := fr) (fr' := fr') ps.toList fun x hx => h x.2 (by simp only [Op.operands]; simp; exact ⟨x.1, by simpa using hx⟩)
  show ze3 t ps P ty fr m = ze3 t ps P ty fr' m
  unfold ze3
  rw [this]
 | buildSlice t n ps =>
  have := vf (fr := fr) (fr' := fr') ps.toList fun x hx => h x.2 (by simp only [Op.operands]; simp; exact ⟨x.1, by simpa using hx⟩)
  show jL t n ps P ty fr m = jL t n ps P ty fr' m
  unfold jL
  rw [this]
 | makeFunc f a b =>
  have h1 := kI (fr := fr) (fr' := fr') a.toList fun x hx => h x (by simp only [Op.operands]; simp at hx ⊢; exact .inl hx)
  have h2 := kI (fr := fr) (fr' := fr') b.toList fun x hx => h x (by simp only [Op.operands]; simp at hx ⊢; exact .inr hx)
  show vl f a b P ty fr m = vl f a b P ty fr' m
  unfold vl
  rw [h1, h2]
 | call c =>
  have h1 := kI (fr := fr) (fr' := fr') c.args.toList fun x hx => h x (by simp only [Op.operands, Call.operands]; simp at hx ⊢; exact .inr hx)
  show zgr c P ty fr m = zgr c P ty fr' m
  unfold zgr zbm
  cases hc : c.callee with
  | builtin b => simp only [h1]
  | value f =>
   have h2 := h f (by simp [Op.operands, Call.operands, hc])
   simp only [h1, h2]
  | invoke x n => rfl
 | defer c =>
  have h1 := kI (fr := fr) (fr' := fr') c.args.toList fun x hx => h x (by simp only [Op.operands, Call.operands]; simp at hx ⊢; exact .inr hx)
  show zdi c P ty fr m = zdi c P ty fr' m
  unfold zdi zbU
  cases hc : c.callee with
  | value f =>
   have h2 := h f (by simp [Op.operands, Call.operands, hc])
   simp only [h1, h2]
  | builtin b => rfl
  | invoke x n => rfl
 | pick c x y =>
  simp [Op.operands] at h
  show zgn c x y P ty fr m = zgn c x y P ty fr' m
  unfold zgn
  rw [h.1]
  congr 1
  funext cv
  congr 1
  funext b
  cases b with
  | true => exact congrArg zhz h.2.1
  | false => exact congrArg zhz h.2.2
 | slice t x lo hi mx =>
  have h0 := h x (by simp [Op.operands])
  have h1 : ∀ y, lo = some y → opd fr y = opd fr' y := fun y hy => h y (by simp [Op.operands, hy])
  have h2 : ∀ y, hi = some y → opd fr y = opd fr' y := fun y hy => h y (by simp [Op.operands, hy])
  have h3 : ∀ y, mx = some y → opd fr y = opd fr' y := fun y hy => h y (by simp [Op.operands, hy])
  show zht t x lo hi mx P ty fr m = zht t x lo hi mx P ty fr' m
  have e1 : ∀ d, kW fr lo d = kW fr' lo d := fun d => by
   cases lo with
   | none => rfl
   | some y => simp only [kW, h1 y rfl]
  have e2 : ∀ d, kW fr hi d = kW fr' hi d := fun d => by
   cases hi with
   | none => rfl
   | some y => simp only [kW, h2 y rfl]
  cases mx with
  | some y => rfl
  | none =>
   show (ob (opd fr x) fun x => zd6 P t x lo hi fr) = ob (opd fr' x) fun x => zd6 P t x lo hi fr'
   rw [h0]
   congr 1
   funext v
   unfold zd6
   cases v with
   | slc b o n c s => simp only [e1, e2]
   | asl b o n c => simp only [e1, e2]
   | ptr b o => simp only [e1, e2]
   | lit u =>
    cases lo with
    | none => cases hi with
     | none => rfl
     | some y => simp only [h2 y rfl]
    | some z => cases hi with
     | none => simp only [h1 z rfl]
     | some y => simp only [h2 y rfl, h1 z rfl]
   | _ => rfl
 | _ => first | rfl | (simp [Op.operands] at h; simp [yh, zlq, zgn, zuO, zd9, zo0, zkd, zuN, zuP, kUn, zo3, zkg, zbP, zbQ, zkj, zo1, zki, zhu, zke, zoY, kTA, ze2, zkf, h])
theorem ko {op : Op} (h : ∀ x ∈ op.operands, opd fr x = opd fr' x) : xX op P fr = xX op P fr' := by
 cases op with
 | call c =>
  show jW P fr c.callee = jW P fr' c.callee
  cases hc : c.callee with
  | builtin b => rfl
  | value f =>
   have h2 := h f (by simp [Op.operands, Call.operands, hc])
   simp only [jW, h2]
  | invoke x n => rfl
 | _ => rfl
theorem zra {ρ : Operand → Value} {r : OR} (hρ : xp σ fr ρ) (o : Oper) (hcl : xJ o.op = 0) (h : yh o.op P o.type fr m = r) (hr : r ≠ .no) : ∃ v, r = .val v ∧ zal σ P (execOp ρ o) v := by
 obtain ⟨d, op, ty, pos, af, gd⟩ := o
 cases op with
 | move x =>
  obtain ⟨v, rfl, h2⟩ := zcA (m := m) (ty := ty) (P := P) hρ h hr
  exact ⟨v, rfl, _, h2, fun w => rfl⟩
 | assign x =>
  obtain ⟨v, rfl, h2⟩ := zcA (m := m) (ty := ty) (P := P) hρ h hr
  exact ⟨v, rfl, _, h2, fun w => rfl⟩
 | pick c x y => exact ziw (m := m) hρ h hr
 | build t ps => exact zgs (m := m) hρ h hr
 | nilCheck x => exact zlp (m := m) hρ h hr
 | binOp op t x y t2 => exact zls (m := m) hρ h hr
 | unOp op t x => exact zoV (m := m) hρ h hr
 | makeInterface t x => exact zgo (m := m) hρ h hr
 | makeFunc f a b => exact zcB (m := m) hρ h hr
 | slice t x lo hi mx => exact zgl (m := m) hρ h hr
 | fieldAddr t x i => exact zbD (m := m) hρ h hr
 | field t x i => exact zgq (m := m) hρ h hr
 | indexAddr t x i => exact ziy (m := m) hρ h hr
 | index t x i => exact zgp (m := m) hρ h hr
 | typeAssert x t0 t ok => exact zoW (m := m) hρ h hr
 | extract x i => exact zdJ (m := m) hρ h hr
 | call c =>
  have hcl : (match c.callee with
   | .builtin b => zft b
   | _ => 3) = 0 := hcl
  cases hc : c.callee with
  | builtin b =>
   rw [hc] at hcl
   have hcl : zft b = 0 := hcl
   cases b <;> cases hcl
  | value f => rw [hc] at hcl; cases hcl
  | invoke x n => rw [hc] at hcl; cases hcl
 | _ => cases hcl
theorem zuG {ρ : Operand → Value} {r : OR} (hρ : xp σ fr ρ) (o : Oper) (hcl : xJ o.op = 2) (h : yh o.op P o.type fr m = r) (hr : r ≠ .no) : NewO σ P (execOp ρ o) m r := by
 obtain ⟨d, op, ty, pos, af, gd⟩ := o
 cases op with
 | alloc t => exact zgt (fr := fr) (ty := ty) h hr
 | box t x => exact zlr hρ h hr
 | buildSlice t n ps => exact zaH hρ h hr
 | makeSlice t x y => exact zbC hρ h hr
 | makeMap t x => exact zdI (fr := fr) (ty := ty) h hr
 | range t x => exact zgm hρ h hr
 | call c =>
  have hcl : (match c.callee with
   | .builtin b => zft b
   | _ => 3) = 2 := hcl
  cases hc : c.callee with
  | builtin b =>
   rw [hc] at hcl
   have hcl : zft b = 2 := hcl
   cases b <;> cases hcl
  | value f => rw [hc] at hcl; cases hcl
  | invoke x n => rw [hc] at hcl; cases hcl
 | _ => cases hcl
def NewF (m : Mem) (r : OR) : Prop := ∃ v o, m.nx < 16384 ∧ r = .mem v (hset o m.hp m.nx) (m.nx + 1)
theorem NewF.ofO {o : xD} {v : AV} {r : OR} (h : zde o v m = r) (hr : r ≠ .no) : NewF m r := let ⟨h1, h2⟩ := kK h hr; ⟨_, _, h1, h2⟩
theorem NewF.ofB {l : List AV} {v : AV} {r : OR} (h : zmF l v m = r) (hr : r ≠ .no) : NewF m r := let ⟨_, _, h1, h2⟩ := zeM h hr; ⟨_, _, h1, h2⟩
theorem NewF.ofS {l : List AV} {s c n : Nat} {r : OR} (h : zil l s c m n = r) (hr : r ≠ .no) : NewF m r := let ⟨_, h2⟩ := z6 h hr; .ofB h2 hr
theorem zoq {op : Op} {ty : Nat} {r : OR} (hcl : xJ op = 2) (h : yh op P ty fr m = r) (hr : r ≠ .no) : NewF m r := by
 cases op with
 | alloc t =>
  obtain ⟨_, _, h⟩ := zw h hr
  obtain ⟨_, _, h⟩ := zw h hr
  exact .ofO h hr
 | box t x => obtain ⟨_, _, h⟩ := zw h hr; exact .ofB h hr
 | buildSlice t n ps =>
  obtain ⟨e, _, hx⟩ := qJ h hr
  obtain ⟨s, _, hy⟩ := zw hx hr
  cases hn0 : Nat.beq n 0 with
  | true =>
   rw [hn0] at hy
   have h0 : (match ps.toList with
    | [] => zil [] s 0 m 0
    | _ => .no) = r := hy
   cases hps : ps.toList with
   | nil => rw [hps] at h0; exact .ofS h0 hr
   | cons a l => rw [hps] at h0; exact absurd h0.symm hr
  | false =>
   rw [hn0] at hy
   change ob (jH P e) _ = _ at hy
   obtain ⟨_, _, h⟩ := zw hy hr
   obtain ⟨_, _, h⟩ := zw h hr
   obtain ⟨_, h⟩ := z6 h hr
   obtain ⟨_, _, h⟩ := zw h hr
   exact .ofS h hr
 | makeSlice t x y =>
  obtain ⟨_, _, h⟩ := qJ h hr
  obtain ⟨_, _, h⟩ := zw h hr
  obtain ⟨_, _, _, h⟩ := zap h hr
  obtain ⟨_, _, _, h⟩ := zap h hr
  obtain ⟨_, _, h⟩ := zw h hr
  obtain ⟨_, h⟩ := z6 h hr
  exact .ofS h hr
 | makeMap t x =>
  cases x with
  | some y => exact absurd h.symm hr
  | none => exact .ofO h hr
 | range t x =>
  obtain ⟨_, _, h⟩ := zw h hr
  obtain ⟨_, _, h⟩ := zw h hr
  obtain ⟨_, h⟩ := z6 h hr
  exact .ofO h hr
 | call c =>
  have hcl : (match c.callee with
   | .builtin b => zft b
   | _ => 3) = 2 := hcl
  cases hc : c.callee with
  | builtin b =>
   rw [hc] at hcl
   have hcl : zft b = 2 := hcl
   cases b <;> cases hcl
  | value f => rw [hc] at hcl; cases hcl
  | invoke x n => rw [hc] at hcl; cases hcl
 | _ => cases hcl
theorem zwG (op : Op) : xJ op = 0 ∨ xJ op = 1 ∨ xJ op = 2 ∨ xJ op = 3 := by
 cases op with
 | call c =>
  have e : xJ (.call c) = (match c.callee with
   | .builtin b => zft b
   | _ => 3) := rfl
  rw [e]
  cases c.callee with
  | builtin b => cases b <;> simp [zft]
  | value f => simp
  | invoke x n => simp
 | _ => simp [xJ]
theorem zk5 {op : Op} {ty : Nat} (hcl : xJ op = 1) (nx : Nat) (df : List AD) : yh op P ty fr ⟨m.hp, nx, df⟩ = yh op P ty fr m := by
 cases op with
 | load t x => rfl
 | lookup t x k ok => rfl
 | convert s t x => rfl
 | call c =>
  have hcl : (match c.callee with
   | .builtin b => zft b
   | _ => 3) = 1 := hcl
  cases hc : c.callee with
  | builtin b =>
   rw [hc] at hcl
   have hcl : zft b = 1 := hcl
   show zbm c ty P fr ⟨m.hp, nx, df⟩ c.callee = zbm c ty P fr m c.callee
   rw [hc]
   show (ob (zcr fr c.args.toList) fun xs => kA P b c.argTypes.toList ty _ xs ⟨m.hp, nx, df⟩) = ob (zcr fr c.args.toList) fun xs => kA P b c.argTypes.toList ty _ xs m
   congr 1
   funext xs
   cases b <;> first | cases hcl | skip
   all_goals (unfold kA; generalize c.argTypes.toList = ts; rcases ts with _ | ⟨t, _ | ⟨t', ts⟩⟩ <;> rcases xs with _ | ⟨x, _ | ⟨y, xs⟩⟩ <;> first | rfl | (cases x <;> rfl))
  | value f => rw [hc] at hcl; cases hcl
  | invoke x n => rw [hc] at hcl; cases hcl
 | _ => cases hcl
theorem RelW.sub (h : RelW O σ hp nx w) (hs : ∀ b o, qz hp' b = some o → qz hp b = some o) : RelW ⟨O.own, fun _ => none, O.V⟩ σ hp' nx w :=
 ⟨fun b o e hb => h.obj b o e (hs _ _ hb), fun b b' o o' e e' hb hb' => h.inj b b' o o' e e' (hs _ _ hb) (hs _ _ hb'), fun b o e hb => h.own b o e (hs _ _ hb), h.fresh, h.lt, h.new, h.glo, fun b o hb => by cases hb⟩
theorem RelW.later {L' : Nat → Option xD} (h : RelW O σ hp nx w) {o : xD} (hx : nx < 16384) (hL : ∀ b, L' b = if b = nx then some o else O.late b) : RelW ⟨O.own, L', O.V⟩ σ (hset o hp nx) (nx + 1) w := by
 have hn := h.fresh nx (Nat.le_refl _)
 have key : ∀ b o1 e, qz (hset o hp nx) b = some o1 → σ b = some e → qz hp b = some o1 := fun b o1 e hb hs => by
  have hne : b ≠ nx := by rintro rfl; rw [hn] at hs; cases hs
  rw [qa _ _ hx, if_neg hne] at hb
  exact hb
 refine ⟨fun b o1 e hb hs => h.obj b o1 e (key _ _ _ hb hs) hs, fun b b' o1 o2 e e' hb hb' a1 a2 s1 s2 => h.inj b b' o1 o2 e e' (key _ _ _ hb s1) (key _ _ _ hb' s2) a1 a2 s1 s2,
  fun b o1 e hb hm hs => h.own b o1 e (key _ _ _ hb hs) hm hs, fun b hb => h.fresh b (by omega), h.lt, h.new, h.glo, fun b o1 hb => ?_⟩
 have hb : L' b = some o1 := hb
 rw [hL] at hb
 by_cases hbn : b = nx
 ·subst hbn
  rw [if_pos rfl] at hb
  cases hb
  exact ⟨hn, Nat.lt_succ_self _, by rw [qa _ _ hx, if_pos rfl]⟩
 ·rw [if_neg hbn] at hb
  obtain ⟨l1, l2, l3⟩ := h.late b o1 hb
  exact ⟨l1, Nat.lt_succ_of_lt l2, by rw [qa _ _ hx, if_neg hbn]; exact l3⟩
end
abbrev Lam := Nat → Option (Option Nat × xD)
def vQ (Λ : Lam) : Nat → Option xD := fun b => (Λ b).map (·.2)
def ztb (P : Program) (N : Nat) (all : List Oper) (Λ : Lam) (i : Nat) (fr : Fra) (m : Mem) (o : Oper) : Prop :=
  (jg all o fr = some false ∧ (∀ d, o.dst = some d → qA fr d = some (.lit undef) ∧ d < N) ∧ xX o.op P fr = true) ∨
  (jg all o fr = some true ∧ ∃ v, (∀ d, o.dst = some d → qA fr d = some v ∧ d < N) ∧
    ((xJ o.op = 0 ∧ ∃ m0, yh o.op P o.type fr m0 = .val v) ∨
     (xJ o.op = 1 ∧ ∃ hp0, (∀ b o', qz hp0 b = some o' → qz m.hp b = some o') ∧ ∀ nx df, yh o.op P o.type fr ⟨hp0, nx, df⟩ = .val v) ∨
     (xJ o.op = 2 ∧ ∃ m0 hp nx ob, yh o.op P o.type fr m0 = .mem v hp nx ∧ qz hp m0.nx = some ob ∧ Λ m0.nx = some (some i, ob))))
structure DInv (O : Ow) (E : Env) (all : List Oper) (st : List Nat) (R : Out) (inL : Nat → Prop) (σ : Sg) (a : Act) (w : World) (Λ : Lam) (done rest : List Nat) (fr : Fra) (m : Mem) : Prop where
  order : st = done.reverse ++ rest
  eval : yA E all done rest fr m = R
  sub : ∀ i, inL i → i ∈ done
  closed : ∀ i o, inL i → all[i]? = some o → ∀ j ∈ yv o, inL j
  size : E.N ≤ a.tmps.size
  fra : ∀ t v, qA fr t = some v → (∀ j ∈ done, ¬ inL j → kM all t j = false) → ∃ c, zK σ v = some c ∧ a.tmps[t]? = some c
  rel : RelW ⟨O.own, vQ Λ, O.V⟩ σ m.hp m.nx w
  late : ∀ b o, O.late b = some o → Λ b = some (none, o)
  df : DfL σ a.defers m.df
  pend : ∀ i ∈ done, ¬ inL i → ∃ o, all[i]? = some o ∧ ztb E.P E.N all Λ i fr m o
section
variable {O : Ow} {σ : Sg} {hp : Hp} {nx : Nat} {w : World} {Λ : Lam} {E : Env} {all : List Oper} {st : List Nat} {R : Out} {dn rest : List Nat} {inL : Nat → Prop} {a : Act} {fr : Fra} {m : Mem}
theorem RelW.fewer {L : Nat → Option xD} (h : RelW ⟨O.own, L, O.V⟩ σ hp nx w) (hl : ∀ b o, O.late b = some o → L b = some o) : RelW O σ hp nx w :=
  ⟨h.obj, h.inj, h.own, h.fresh, h.lt, h.new, h.glo, fun b o hb => h.late b o (hl b o hb)⟩
theorem Keep.own {L : Nat → Option xD} {w w' : World} (h : Keep ⟨O.own, L, O.V⟩ w w') : Keep O w w' := ⟨h.os, h.tape, h.output, h.size, h.block⟩
theorem DInv.done (h : DInv O E all st R inL σ a w Λ dn [] fr m) (hall : ∀ i ∈ dn, inL i) : R = .ok .normal fr m ∧ StR O σ E a w fr m :=
  ⟨h.eval.symm, ⟨⟨h.size, fun t v hv => h.fra t v hv fun j hj hn => absurd (hall j hj) hn⟩, h.rel.fewer fun b o hb => by show (Λ b).map _ = _; rw [h.late b o hb]; rfl, h.df⟩⟩
open Classical in
def zfo (all : List Oper) (done : List Nat) (inL : Nat → Prop) (fr : Fra) : Fra :=
  zaN fr ((done.filter fun j => decide (¬ inL j)).filterMap fun j => (all[j]?).bind (·.dst))
theorem zp4 {all : List Oper} {done : List Nat} {inL : Nat → Prop} {fr : Fra} {t : Nat} (h : ∀ j ∈ done, ¬ inL j → kM all t j = false) : qA (zfo all done inL fr) t = qA fr t := by
  unfold zfo
  rw [zdm, if_neg]
  intro hm
  simp only [List.mem_filterMap, List.mem_filter, decide_eq_true_eq] at hm
  obtain ⟨j, ⟨h1, h2⟩, h3⟩ := hm
  have := h j h1 h2
  unfold kM at this
  cases ho : all[j]? with
  | none => rw [ho] at h3; cases h3
  | some o =>
    rw [ho] at h3 this
    have h3 : o.dst = some t := h3
    simp only [h3, Nat.beq_refl] at this
    cases this
theorem zm9 {all : List Oper} {done : List Nat} {inL : Nat → Prop} {fr : Fra} {t : Nat} {v : AV} (h : qA (zfo all done inL fr) t = some v) : qA fr t = some v ∧ ∀ j ∈ done, ¬ inL j → kM all t j = false := by
  unfold zfo at h
  rw [zdm] at h
  split at h
  · cases h
  · rename_i hn
    refine ⟨h, fun j hj hl => ?_⟩
    cases hd : kM all t j with
    | false => rfl
    | true =>
      exfalso
      apply hn
      unfold kM at hd
      split at hd
      · rename_i o ho
        split at hd
        · rename_i d hd'
          have := nQe hd
          subst this
          simp only [List.mem_filterMap, List.mem_filter, decide_eq_true_eq]
          exact ⟨j, ⟨hj, hl⟩, by rw [ho]; exact hd'⟩
        · cases hd
      · cases hd
theorem DInv.frR (h : DInv O E all st R inL σ a w Λ dn rest fr m) : FrR σ E.N (zfo all dn inL fr) a.tmps :=
  ⟨h.size, fun t v hv => let ⟨h1, h2⟩ := zm9 hv; h.fra t v h1 h2⟩
theorem zgi {all : List Oper} {done : List Nat} {inL : Nat → Prop} {fr : Fra} {i : Nat} {o : Oper} (hok : zij all (List.range all.length) i = true) (ho : all[i]? = some o) (he : ∀ j ∈ yv o, inL j) {t : Nat} (ht : t ∈ o.looksAt all.toArray) :
    qA (zfo all done inL fr) t = qA fr t := by
  refine zp4 fun j _ hl => ?_
  cases hd : kM all t j with
  | false => rfl
  | true =>
    exfalso
    have hj : j < all.length := by
      unfold kM at hd
      split at hd
      · rename_i o' ho'; exact (List.getElem?_eq_some_iff.1 ho').1
      · cases hd
    unfold zij at hok
    rw [ho] at hok
    obtain ⟨h1, _⟩ := zfq hok
    have h2 := xQ.1 (xQ.1 h1 t ht) j (by simpa using hj)
    rw [hd] at h2
    exact hl (he j (jK.1 h2))
theorem xh {all : Array Oper} {fr fr' : Fra} {o : Oper} (h : ∀ t ∈ o.looksAt all, qA fr' t = qA fr t) : ∀ x ∈ o.op.operands, opd fr' x = opd fr x := by
  intro x hx
  cases x with
  | tmp t => exact h t (List.mem_append_left _ (List.mem_filterMap.2 ⟨.tmp t, by simpa using hx, rfl⟩))
  | const v => rfl
  | global g => rfl
  | func f => rfl
theorem yV {all : List Oper} {fr fr' : Fra} {o : Oper} (h : ∀ t ∈ o.looksAt all.toArray, qA fr' t = qA fr t) : jg all o fr' = jg all o fr := by
  unfold jg
  cases hg : o.guard with
  | none => rfl
  | some g =>
    obtain ⟨j, b⟩ := g
    show zb7 all fr' j b = zb7 all fr j b
    unfold zb7
    cases hj : all[j]? with
    | none => rfl
    | some oj =>
      cases hd : oj.dst with
      | none => simp only [hd]
      | some d =>
        have : d ∈ o.looksAt all.toArray := by
          unfold Oper.looksAt
          refine List.mem_append_right _ ?_
          rw [hg]
          simp [hj, hd]
        simp only [hd, h d this]
end
end
end Go.Proofs.YtihedfkcccaonaaGreatDoor.Ev
