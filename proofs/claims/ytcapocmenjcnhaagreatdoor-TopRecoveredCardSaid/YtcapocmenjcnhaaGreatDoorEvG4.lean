/-
 The evaluator's code beside the model's: what is beside what; sequences, conditions, blocks, loops.
-/
import Derived.Test.YtcapocmenjcnhaaGreatDoorEvG3
import Derived.Scope
import Derived.RangeFuncNested
import Derived.Test.YtcapocmenjcnhaaGreatDoorEvG1
import Derived.OrdersIn
set_option linter.unusedVariables false
set_option linter.unusedSimpArgs false
namespace Go.Proofs.YtcapocmenjcnhaaGreatDoor.Ev
open Go.RowKit
def DfL (σ : Sg) : List Deferred → List AD → Prop
 | [], [] => True
 | d :: ds, .call f args :: l => DefR σ f args d ∧ DfL σ ds l
 | d :: ds, .mark b :: l => (∃ e, σ b = some e ∧ d = { target := .collected e.bl, args := #[] }) ∧ DfL σ ds l
 | _, _ => False
theorem DefR.mono {σ σ' : Sg} (hs : Sle σ σ') {f : FuncId} {args : List AV} {d : Deferred} (h : DefR σ f args d) : DefR σ' f args d :=
 let ⟨a, b, h1, h2⟩ := h; ⟨a, b, xR hs _ _ h1, h2⟩
theorem DfL.mono {σ σ' : Sg} (hs : Sle σ σ') : ∀ {ds : List Deferred} {l : List AD}, DfL σ ds l → DfL σ' ds l
 | [], [], _ => trivial
 | d :: ds, .call f args :: l, h => ⟨h.1.mono hs, DfL.mono hs h.2⟩
 | d :: ds, .mark b :: l, h => ⟨let ⟨e, h1, h2⟩ := h.1; ⟨e, hs _ _ h1, h2⟩, DfL.mono hs h.2⟩
 | [], .call _ _ :: _, h => h.elim
 | [], .mark _ :: _, h => h.elim
 | _ :: _, [], h => h.elim
def RdR (σ : Sg) (E : Env) (ρ : Option Nat) : Prop := match E.rd with
 | none => ρ = none
 | some k => ∃ e, σ k = some e ∧ ρ = some e.bl
theorem RdR.mono {σ σ' : Sg} (hs : Sle σ σ') {E : Env} {ρ : Option Nat} (h : RdR σ E ρ) : RdR σ' E ρ := by
 unfold RdR at h ⊢
 split at h
 ·exact h
 ·obtain ⟨e, h1, h2⟩ := h; exact ⟨e, hs _ _ h1, h2⟩
structure StR (O : Ow) (σ : Sg) (E : Env) (a : Act) (w : World) (fr : Fra) (m : Mem) : Prop where
 fr : FrR σ E.N fr a.tmps
 rel : RelW O σ m.hp m.nx w
 df : DfL σ a.defers m.df
def exR (σ : Sg) : Ex → Exit → Prop
 | .normal, .normal => True
 | .ret, .ret => True
 | .exit i, .exit j => i = j
 | .goto i, .goto j => i = j
 | .panic v, .panic ch => ∃ t c, zP σ v = some (.iface t c) ∧ ch = [{ v := .iface t c, recovered := false }]
 | _, _ => False
theorem exR.mono {σ σ' : Sg} (hs : Sle σ σ') {e : Ex} {x : Exit} (h : exR σ e x) : exR σ' e x := by
 cases e <;> cases x <;> first | exact h | (obtain ⟨t, c, h1, h2⟩ := h; exact ⟨t, c, yf hs _ _ h1, h2⟩)
def CPost (O : Ow) (σ : Sg) (E : Env) (w0 : World) : Out → Exit → Act → World → Prop
 | .no, _, _, _ => False
 | .ok e fr m, x, a, w => ∃ σ', Sle σ σ' ∧ exR σ' e x ∧ StR O σ' E a w fr m ∧ Keep O w0 w
def x9 (O : Ow) (E : Env) (ρ : Option Nat) (c : Code) : Prop := VOk E.P O.V → ∀ (σ : Sg) (a : Act) (w : World) (fr : Fra) (m : Mem), RdR σ E ρ → StR O σ E a w fr m → qr E c fr m ≠ .no →
 c.wpIn (FV O.V ρ) 0 E.P (CPost O σ E w (qr E c fr m)) a w
section
variable {P : Program} {σ : Sg} {fr : Fra} {m : Mem} {w : World} {r : OR} {ρ : Operand → Value} {V : FuncId → Prop}
theorem vq {f : FuncId} {xs : List AV} (h : vh P f xs = r) (hr : r ≠ .no) : P.funcs[f]?.isSome = true := by
 unfold vh at h
 cases hf : P.funcs[f]? with
 | none => rw [hf] at h; exact absurd h.symm hr
 | some fn => rfl
theorem zks {v : AV} {xs : List AV} (h : zf9 P v xs = r) (hr : r ≠ .no) : zlx P v = true := by
 unfold zf9 at h
 split at h
 ·exact vq h hr
 ·exact vq h hr
 ·rfl
 ·exact absurd h.symm hr
theorem zs4 {v : AV} {xs : List AV} (h : zlb P v xs m = r) (hr : r ≠ .no) : zlx P v = true := by
 unfold zlb at h
 split at h
 ·rename_i k
  split at h
  ·rename_i t ht
   show (P.funcs[k]?).isSome = true
   unfold znR at ht
   cases hf : P.funcs[k]? with
   | none => rw [hf] at ht; cases ht
   | some fn => rfl
  ·exact zks h hr
 ·exact zks h hr
theorem vX {op : Op} {ty : Nat} (h : yw op P ty fr m = r) (hr : r ≠ .no) : jo op P fr = true := by
 cases op with
 | call c =>
  show kA P fr c.callee = true
  have h : zbH c ty P fr m c.callee = r := h
  cases hc : c.callee with
  | builtin b => rfl
  | value x =>
   rw [hc] at h
   obtain ⟨v, h1, h⟩ := zC h hr
   obtain ⟨xs, h2, h⟩ := zC h hr
   have e : kA P fr (.value x) = zlx P v := by unfold kA; simp only [h1]
   rw [e]
   exact zs4 h hr
  | invoke x n => rw [hc] at h; exact absurd h.symm hr
 | _ => rfl
theorem zbf (hV : VOk P V) (hρ : xL σ fr ρ) (o : Oper) (h : jo o.op P fr = true) (w : World) : ∀ f, o.about P w ρ = some f → V f := by
 intro f hf
 obtain ⟨d, op, ty, pos, af, gd⟩ := o
 cases op with
 | call c =>
  obtain ⟨cal, args, ats⟩ := c
  have h : kA P fr cal = true := h
  cases cal with
  | builtin b => simp [Oper.about, resolve, Target.leads] at hf
  | value x =>
   cases hx : opd fr x with
   | none =>
    have e : kA P fr (.value x) = false := by unfold kA; simp only [hx]
    rw [e] at h; cases h
   | some v =>
    have e : kA P fr (.value x) = zlx P v := by unfold kA; simp only [hx]
    rw [e] at h
    have hc := hρ _ _ hx
    unfold zlx at h
    split at h
    ·rename_i g a b
     simp only [zP] at hc
     cases ha : zF σ a with
     | none => rw [ha] at hc; cases hc
     | some ca =>
      cases hb : zF σ b with
      | none => rw [ha, hb] at hc; cases hc
      | some cb =>
       rw [ha, hb] at hc
       have hc := (Option.some.inj hc).symm
       simp [Oper.about, resolve, hc, Deferred.ofValue, Target.leads] at hf
       subst hf
       exact (hV g).2 (Option.isSome_iff_exists.1 h)
    ·rename_i g a b
     have hc := (Option.some.inj hc).symm
     simp [Oper.about, resolve, hc, Deferred.ofValue, Target.leads] at hf
     subst hf
     exact (hV g).2 (Option.isSome_iff_exists.1 h)
    ·rename_i a
     have hc := (Option.some.inj hc).symm
     simp [Oper.about, resolve, hc, Deferred.ofValue, stuck, Sem.run] at hf
    ·rename_i l
     simp only [zP, Option.map_eq_some_iff] at hc
     obtain ⟨e, he, hc⟩ := hc
     simp [Oper.about, resolve, ← hc, Deferred.ofValue, Target.leads] at hf
    ·cases h
  | invoke x n => cases h
 | _ => cases hf
end
section
variable {O : Ow} {σ σ' : Sg} {E : Env} {ρ : Option Nat} {a : Act} {w w' : World} {fr : Fra} {m : Mem} {r : Out}
theorem CPost.trans (hs : Sle σ σ') (hk : Keep O w w') {x : Exit} {a : Act} {w1 : World} (h : CPost O σ' E w' r x a w1) : CPost O σ E w r x a w1 := by
 cases r with
 | no => exact h
 | ok e fr m => obtain ⟨σ1, h1, h2, h3, h4⟩ := h; exact ⟨σ1, hs.trans h1, h2, h3, hk.trans h4⟩
theorem CPost.one {e : Ex} {x : Exit} (h : StR O σ E a w fr m) (he : exR σ e x) : CPost O σ E w (.ok e fr m) x a w := ⟨σ, Sle.refl _, he, h, Keep.refl _ _⟩
theorem zrg : x9 O E ρ .skip := fun hV σ a w fr m _ h _ => wpIn_skip (.one h trivial)
theorem zqS {l : Nat} : x9 O E ρ (.label l) := fun hV σ a w fr m _ h _ => wpIn_label (.one h trivial)
theorem zrj {i : Nat} : x9 O E ρ (.exit i) := fun hV σ a w fr m _ h _ => wpIn_exit (.one h rfl)
theorem zri {l : Nat} : x9 O E ρ (.goto l) := fun hV σ a w fr m _ h _ => wpIn_goto (.one h rfl)
theorem zrU : x9 O E ρ .ret := fun hV σ a w fr m _ h _ => wpIn_ret (.one h trivial)
theorem zqE {s : String} : x9 O E ρ (.refuse s) := fun hV σ a w fr m _ h hn => absurd rfl hn
theorem CPost.then {r : Out} {k : CT} {x : Exit} {a : Act} {w w1 : World} {K : Act → World → Prop} {Q : Exit → Act → World → Prop} (h : CPost O σ E w r x a w1) (hn : zcz r k ≠ .no)
  (hK : ∀ σ1 fr1 m1, Sle σ σ1 → StR O σ1 E a w1 fr1 m1 → Keep O w w1 → r = .ok .normal fr1 m1 → K a w1)
  (hQ : ∀ e, e ≠ .normal → CPost O σ E w (zcz r k) e a w1 → Q e a w1) : Exit.then K Q x a w1 := by
 cases r with
 | no => exact h.elim
 | ok e fr m =>
  obtain ⟨σ1, h1, h2, h3, h4⟩ := h
  cases e <;> cases x <;> first | exact h2.elim | exact hK σ1 fr m h1 h3 h4 rfl | exact hQ _ (by simp) ⟨σ1, h1, h2, h3, h4⟩
theorem zh0 {k : CT} (h : zcz r k ≠ .no) : r ≠ .no := by rintro rfl; exact h rfl
theorem zrT {x y : Code} (hx : x9 O E ρ x) (hy : x9 O E ρ y) : x9 O E ρ (.seq x y) := by
 intro hV σ a w fr m hρ h hn
 have hn : zcz (qr E x fr m) (qr E y) ≠ .no := hn
 show (Code.seq x y).wpIn (FV O.V ρ) 0 E.P (CPost O σ E w (zcz (qr E x fr m) (qr E y))) a w
 refine wpIn_seq (wpIn_mono (hx hV σ a w fr m hρ h (zh0 hn)) ?_)
 intro e a1 w1 hp
 refine hp.then hn ?_ (fun e _ h => h)
 intro σ1 fr1 m1 hs hst hk hr
 rw [hr] at hn ⊢
 exact wpIn_mono (hy hV σ1 a1 w1 fr1 m1 (hρ.mono hs) hst hn) fun e a w h => h.trans hs hk
theorem zrk {c : Operand} {x y : Code} (hx : x9 O E ρ x) (hy : x9 O E ρ y) : x9 O E ρ (.cond c x y) := by
 intro hV σ a w fr m hρ h hn
 have hop := zdu h.fr h.rel.glo
 have hn : zlf (opd fr c) (qr E x fr m) (qr E y fr m) ≠ .no := hn
 show (Code.cond c x y).wpIn (FV O.V ρ) 0 E.P (CPost O σ E w (zlf (opd fr c) (qr E x fr m) (qr E y fr m))) a w
 unfold zlf at hn ⊢
 split at hn
 ·rename_i b hc
  have hb := (Option.some.inj (hop _ _ hc)).symm
  refine wpIn_cond hb ?_
  cases b with
  | true => exact hx hV σ a w fr m hρ h hn
  | false => exact hy hV σ a w fr m hρ h hn
 ·exact absurd rfl hn
theorem zqU {i : Nat} {c : Code} (hc : x9 O E ρ c) : x9 O E ρ (.block i c) := by
 intro hV σ a w fr m hρ h hn
 have hn : zbd i (qr E c fr m) ≠ .no := hn
 show (Code.block i c).wpIn (FV O.V ρ) 0 E.P (CPost O σ E w (zbd i (qr E c fr m))) a w
 have hn' : qr E c fr m ≠ .no := by intro e; rw [e] at hn; exact hn rfl
 refine wpIn_block (wpIn_mono (hc hV σ a w fr m hρ h hn') ?_)
 intro x a1 w1 hp
 cases hr : qr E c fr m with
 | no => exact absurd hr hn'
 | ok e fr1 m1 =>
  rw [hr] at hp
  obtain ⟨σ1, h1, h2, h3, h4⟩ := hp
  cases e <;> cases x <;> first | exact h2.elim | exact ⟨σ1, h1, h2, h3, h4⟩ | skip
  rename_i j k
  have h2 : j = k := h2
  subst h2
  by_cases hj : j = i
  ·subst hj
   simp only [Exit.inBlock, if_true]
   simp only [zbd, Nat.beq_refl]
   exact ⟨σ1, h1, trivial, h3, h4⟩
  ·have hb : Nat.beq j i = false := by
    cases hq : Nat.beq j i with
    | false => rfl
    | true => exact absurd (Nat.eq_of_beq_eq_true hq) hj
   simp only [Exit.inBlock, if_neg hj]
   simp only [zbd, hb]
   exact ⟨σ1, h1, rfl, h3, h4⟩
theorem zrd {F : Fence} {n : Nat} {P : Program} {Q : Exit → Act → World → Prop} {c : Code} (h : c.wpIn F n P (Exit.noGoto Q) a w) : (Code.scope c).wpIn F n P Q a w := by
 intro b k cs hro hb hr
 have s1 : step P (lone (b.atR a (.code (.scope c) :: k)) cs w) = .next (lone (b.atR a (.code c :: .inScope c :: k)) cs w) := step_lone_go (by simp [stepG, stepG.exec, Frame.atR])
 have s2 : ∀ a w, step P (lone (b.atR a (.inScope c :: k)) cs w) = .next (lone (b.atR a k) cs w) := fun a w => step_lone_go (by simp [stepG, stepG.exec, Frame.atR])
 obtain ⟨e, a₁, w₁, hq, harr⟩ := h b (.inScope c :: k) cs hro hb hr
 have i1 : StepsIn (Machine.fenced P F) P (lone (b.atR a (.code (.scope c) :: k)) cs w) (lone (b.atR a (.code c :: .inScope c :: k)) cs w) := .one (fenced_calm hb hr rfl) s1
 cases e with
 | normal => exact ⟨.normal, a₁, w₁, hq, StepsIn.trans i1 (StepsIn.trans harr (.one (fenced_calm hb hr rfl) (s2 _ _)))⟩
 | exit id => exact ⟨.exit id, a₁, w₁, hq, .of_steps i1 ⟨fun k' hk => harr.1 k' (by simpa [exitTo] using hk), fun hr hk => harr.2 hr (by simpa [exitTo] using hk)⟩⟩
 | goto l => exact hq.elim
 | ret => exact ⟨_, a₁, w₁, hq, .of_steps i1 harr⟩
 | panic ch => exact ⟨_, a₁, w₁, hq, .of_steps i1 harr⟩
 | outgrown => exact ⟨_, a₁, w₁, hq, .of_steps i1 harr⟩
theorem zqQ {c : Code} (hc : x9 O E ρ c) : x9 O E ρ (.scope c) := by
 intro hV σ a w fr m hρ h hn
 have hn : zjh (qr E c) E.rd fr m ≠ .no := hn
 show (Code.scope c).wpIn (FV O.V ρ) 0 E.P (CPost O σ E w (zjh (qr E c) E.rd fr m)) a w
 cases hd : E.rd with
 | some k => exact absurd rfl (hd ▸ hn)
 | none =>
  try rw [hd] at hn
  have hro : ρ = none := by unfold RdR at hρ; rw [hd] at hρ; exact hρ
  subst hro
  have hn : zoU (qr E c fr m) ≠ .no := hn
  show (Code.scope c).wpIn (FV O.V none) 0 E.P (CPost O σ E w (zoU (qr E c fr m))) a w
  have hn' : qr E c fr m ≠ .no := by intro e; rw [e] at hn; exact hn rfl
  have h0 := hc hV σ a w fr m hρ h hn'
  refine zrd (wpIn_mono h0 ?_)
  intro x a1 w1 hp
  cases hr : qr E c fr m with
  | no => exact absurd hr hn'
  | ok e fr1 m1 =>
   rw [hr] at hp hn
   cases e with
   | goto l => exact absurd rfl hn
   | _ =>
    obtain ⟨σ1, h1, h2, h3, h4⟩ := hp
    cases x <;> first | exact h2.elim | exact ⟨σ1, h1, h2, h3, h4⟩
theorem zqq {F : Fence} {n : Nat} {P : Program} {Q : Exit → Act → World → Prop} {c : Code} (I : Nat → Act → World → Prop) {j : Nat} (h₀ : I j a w)
  (h0 : ∀ a w, ¬ I 0 a w) (round : ∀ j a w, I (j + 1) a w → c.wpIn F n P (Exit.then (I j) Q) a w) : (Code.loop c).wpIn F n P Q a w := by
 intro b k cs hro hb hr
 have key : ∀ j a w, I j a w →
   ∃ e a' w', Q e a' w' ∧ ArrivesIn (Machine.fenced P F) P (lone (b.atR a (.code c :: .inLoop c :: k)) cs w) b k cs e a' w' := by
  intro j
  induction j with
  | zero => intro a w hI; exact absurd hI (h0 a w)
  | succ j ih =>
   intro a w hI
   obtain ⟨e, a₁, w₁, hq, harr⟩ := round j a w hI b (.inLoop c :: k) cs hro hb hr
   cases e with
   | normal =>
    obtain ⟨e₂, a₂, w₂, hq₂, harr₂⟩ := ih a₁ w₁ hq
    exact ⟨e₂, a₂, w₂, hq₂, .of_steps (StepsIn.trans harr (.one (fenced_calm hb hr rfl) stepR_inLoop)) harr₂⟩
   | exit id => exact ⟨_, a₁, w₁, hq, .pass (x := .inLoop c) rfl (fun _ _ => .inl (by simp)) harr⟩
   | goto l => exact ⟨_, a₁, w₁, hq, .pass (x := .inLoop c) rfl (fun _ _ => .inl (by simp)) harr⟩
   | ret => exact ⟨_, a₁, w₁, hq, .pass (x := .inLoop c) rfl (fun _ _ => .inl (by simp)) harr⟩
   | panic ch => exact ⟨_, a₁, w₁, hq, .pass (x := .inLoop c) rfl (fun _ _ => .inl (by simp)) harr⟩
   | outgrown => exact ⟨_, a₁, w₁, hq, .pass (x := .inLoop c) rfl (fun _ _ => .inl (by simp)) harr⟩
 obtain ⟨e, a', w', hq, harr⟩ := key j a w h₀
 exact ⟨e, a', w', hq, .of_steps (.one (fenced_calm hb hr rfl) stepR_loop) harr⟩
theorem zrh {c : Code} (hc : x9 O E ρ c) : x9 O E ρ (.loop c) := by
 intro hV σ a w fr m hρ h hn
 have hn : zfa (qr E c) 1000000000 fr m ≠ .no := hn
 show (Code.loop c).wpIn (FV O.V ρ) 0 E.P (CPost O σ E w (zfa (qr E c) 1000000000 fr m)) a w
 generalize 1000000000 = j at hn ⊢
 obtain ⟨r, hr⟩ : ∃ r, zfa (qr E c) j fr m = r := ⟨_, rfl⟩
 rw [hr] at hn ⊢
 refine zqq (fun j a' w' => ∃ σ1 fr1 m1, Sle σ σ1 ∧ StR O σ1 E a' w' fr1 m1 ∧ Keep O w w' ∧ zfa (qr E c) j fr1 m1 = r) (j := j) ⟨σ, fr, m, Sle.refl _, h, Keep.refl _ _, hr⟩ ?_ ?_
 ·rintro a w ⟨σ1, fr1, m1, _, _, _, h4⟩
  exact hn h4.symm
 ·rintro i a1 w1 ⟨σ1, fr1, m1, h1, h2, h3, h4⟩
  have h4 : zcz (qr E c fr1 m1) (zfa (qr E c) i) = r := h4
  have hn' : zcz (qr E c fr1 m1) (zfa (qr E c) i) ≠ .no := by rw [h4]; exact hn
  refine wpIn_mono (hc hV σ1 a1 w1 fr1 m1 (hρ.mono h1) h2 (zh0 hn')) ?_
  intro e a2 w2 hp
  refine hp.then hn' ?_ (fun e _ h => by rw [h4] at h; exact h.trans h1 h3)
  intro σ2 fr2 m2 hs hst hk he
  refine ⟨σ2, fr2, m2, h1.trans hs, hst, h3.trans hk, ?_⟩
  rw [he] at h4
  exact h4
end
end Go.Proofs.YtcapocmenjcnhaaGreatDoor.Ev
/-
 The evaluator's code beside the model's: regions that draw no order.
-/
namespace Go.Proofs.YtcapocmenjcnhaaGreatDoor.Ev
open Go.RowKit
def xz (O : Ow) (σ : Sg) (w0 : World) : Out → Ending → World → Prop
 | .ok .ret r m, e, w => ∃ σ' v c, Sle σ σ' ∧ qF r 0 = some v ∧ zP σ' v = some c ∧ e = .returned c ∧ RelW O σ' m.hp m.nx w ∧ Keep O w0 w
 | .ok (.panic v) _ m, e, w => ∃ σ' t c, Sle σ σ' ∧ zP σ' v = some (.iface t c) ∧ e = .panicked [{ v := .iface t c, recovered := false }] ∧ RelW O σ' m.hp m.nx w ∧ Keep O w0 w
 | _, _, _ => False
def xU (O : Ow) (P : Program) (call : CallT) : Prop := VOk P O.V → ∀ (σ : Sg) (w : World) (f : FuncId) (args : List AV) (cs : List Value) (hp : Hp) (nx : Nat),
 RelW O σ hp nx w → zF σ args = some cs → call f args hp nx ≠ .no → CallsIn (FV O.V none) 0 P f cs.toArray w (xz O σ w (call f args hp nx))
def zde (O : Ow) (P : Program) (yld : CallT) : Prop := VOk P O.V → ∀ (σ : Sg) (w : World) (l : Nat) (e : Loc) (args : List AV) (cs : List Value) (hp : Hp) (nx : Nat),
 RelW O σ hp nx w → σ l = some e → zF σ args = some cs → yld l args hp nx ≠ .no →
  ∃ r : Loop, w.heap[e.bl]? = some (.loop r) ∧ cs.length = r.params.size ∧
   RoundIn (FV O.V none) 0 P e.bl r.fn ((r.params.zip cs.toArray).foldl (fun tmps (t, a) => tmps.setIfInBounds t a) r.tmps) r.assign r.body w (xz O σ w (yld l args hp nx))
section
variable {O : Ow} {σ σ' : Sg} {E : Env} {ρ : Option Nat} {a : Act} {w w' : World} {fr : Fra} {m : Mem} {r : OR} {k : CT}
theorem FrR.put {n : Nat} {v : AV} {c : Value} {d : Nat} (h : FrR σ n fr a.tmps) (hv : zP σ v = some c) (hd : d < 256) (hn : d < n) : FrR σ n (zaC v fr d) (a.put (some d) c).tmps := by
 refine ⟨by simpa [Act.put] using h.1, fun t u hu => ?_⟩
 rw [vP _ _ hd] at hu
 by_cases ht : t = d
 ·subst ht
  rw [if_pos rfl] at hu
  cases hu
  have hl : t < a.tmps.size := Nat.lt_of_lt_of_le hn h.1
  exact ⟨c, hv, by simp [Act.put, hl]⟩
 ·rw [if_neg ht] at hu
  obtain ⟨c', h1, h2⟩ := h.2 t u hu
  exact ⟨c', h1, by simp only [Act.put]; rw [Array.getElem?_setIfInBounds_ne (Ne.symm ht)]; exact h2⟩
theorem zbm {d : Option Tmp} {v : AV} {c : Value} {R : Out} (h : FrR σ E.N fr a.tmps) (hr : RelW O σ m.hp m.nx w) (hdf : DfL σ a.defers m.df) (hv : zP σ v = some c) (hk : putK E d v k fr m = R) (hR : R ≠ .no) :
  ∃ fr1, StR O σ E (a.put d c) w fr1 m ∧ k fr1 m = R := by
 cases d with
 | none => exact ⟨fr, ⟨h, hr, hdf⟩, hk⟩
 | some d =>
  have hk : (Bool.rec .no (k (zaC v fr d) m) (Bool.rec false (Nat.blt d 256) (Nat.blt d E.N) : Bool) : Out) = R := hk
  cases h1 : Nat.blt d E.N with
  | false => rw [h1] at hk; exact absurd hk.symm hR
  | true =>
   cases h2 : Nat.blt d 256 with
   | false => rw [h1, h2] at hk; exact absurd hk.symm hR
   | true =>
    rw [h1, h2] at hk
    exact ⟨zaC v fr d, ⟨h.put hv (qw h2) (qw h1), hr, hdf⟩, hk⟩
theorem ziT {R0 R : Out} {kv : AV → Mem → Out} {df : List AD} {next : Act → World → Prop} {Q : Exit → Act → World → Prop} {o : Oper} (h0 : StR O σ E a w fr m) (h : zfU R0 fr m.df kv = R) (hR : R ≠ .no)
  (hn : ∀ σ1 w1 v c m1, Sle σ σ1 → zP σ1 v = some c → FrR σ1 E.N fr a.tmps → RelW O σ1 m1.hp m1.nx w1 → DfL σ1 a.defers m1.df → Keep O w w1 → kv v m1 = R → next (a.put o.dst c) w1)
  (hQ : ∀ x a w1, CPost O σ E w R x a w1 → Q x a w1) (e : Ending) (w1 : World) (hp : xz O σ w R0 e w1) :
  match e with
   | .returned v => next (a.put o.dst v) w1
   | .panicked chain => Q (.panic chain) a w1
   | .outgrown => LetsOut Q := by
 cases R0 with
 | no => exact hp.elim
 | ok x r0 m0 =>
  cases x with
  | ret =>
   obtain ⟨σ1, v, c, h1, h2, h3, rfl, h4, h5⟩ := hp
   have h' : kv v ⟨m0.hp, m0.nx, m.df⟩ = R := by
    have h6 : (match qF r0 0 with
     | some v => kv v ⟨m0.hp, m0.nx, m.df⟩
     | none => .no) = R := h
    rw [h2] at h6
    exact h6
   exact hn σ1 w1 v c ⟨m0.hp, m0.nx, m.df⟩ h1 h3 (h0.fr.mono h1) h4 (h0.df.mono h1) h5 h'
  | panic v =>
   obtain ⟨σ1, t, c, h1, h2, rfl, h4, h5⟩ := hp
   have h' : Out.ok (.panic v) fr ⟨m0.hp, m0.nx, m.df⟩ = R := h
   subst h'
   exact hQ _ _ _ ⟨σ1, h1, ⟨t, c, h2, rfl⟩, ⟨h0.fr.mono h1, h4, h0.df.mono h1⟩, h5⟩
  | normal => exact hp.elim
  | exit i => exact hp.elim
  | goto i => exact hp.elim
theorem zok (hV : VOk E.P O.V) (hc : xU O E.P E.call) (hy : zde O E.P E.yld) (hρ : RdR σ E ρ) (h0 : StR O σ E a w fr m) (o : Oper) {R : Out} {next : Act → World → Prop} {Q : Exit → Act → World → Prop}
  (h : zdd (yw o.op E.P o.type fr m) E o.dst k fr m = R) (hR : R ≠ .no)
  (hn : ∀ σ1 a1 w1 fr1 m1, Sle σ σ1 → StR O σ1 E a1 w1 fr1 m1 → Keep O w w1 → k fr1 m1 = R → next a1 w1)
  (hQ : ∀ x a w1, CPost O σ E w R x a w1 → Q x a w1) : o.wpIn (FV O.V ρ) 0 E.P a w next Q := by
 have hop := zdu h0.fr h0.rel.glo
 obtain ⟨r, hr⟩ : ∃ r, yw o.op E.P o.type fr m = r := ⟨_, rfl⟩
 rw [hr] at h
 have hrn : r ≠ .no := by rintro rfl; exact hR h.symm
 refine ⟨zbf hV hop o (vX hr hrn) w, ?_⟩
 have hops := zeZ h0.rel hop o hr hrn
 have hsem : o.semAt ρ a.eval = execOp a.eval o := by
  by_cases hd : ∃ c, o.op = .defer c
  ·obtain ⟨c, hd⟩ := hd
   have : E.rd = none := by
    rw [hd] at hr
    have hr : zcj c fr c.callee = r := hr
    unfold zcj at hr
    split at hr
    ·split at hr
     ·subst hr
      cases hrd : E.rd with
      | none => rfl
      | some q =>
       have h' : (match E.rd with
        | none => putK E o.dst (.lit undef) k fr ⟨m.hp, m.nx, _ :: m.df⟩
        | some _ => .no) = R := h
       rw [hrd] at h'
       exact absurd h'.symm hR
     ·exact absurd hr.symm hrn
    ·exact absurd hr.symm hrn
   unfold RdR at hρ
   rw [this] at hρ
   subst hρ
   rfl
  ·exact Oper.semAt_eq _ _ _ fun c hc => hd ⟨c, hc⟩
 show o.uponIn (FV O.V ρ) 0 E.P a next Q ((o.semAt ρ a.eval).run E.P w)
 rw [hsem]
 cases r with
 | no => exact absurd rfl hrn
 | val v =>
  obtain ⟨c, h1, h2⟩ := hops
  rw [h2]
  obtain ⟨fr1, h3, h4⟩ := zbm h0.fr h0.rel h0.df h1 h hR
  exact hn σ _ w fr1 m (Sle.refl _) h3 (Keep.refl _ _) h4
 | mem v hp nx =>
  obtain ⟨σ1, c, w1, h1, h2, h3, h4, h5⟩ := hops
  obtain ⟨fr1, h6, h7⟩ := zbm (m := ⟨hp, nx, m.df⟩) (h0.fr.mono h1) h4 (h0.df.mono h1) h2 h hR
  rcases h3 with h3 | ⟨h3, rfl⟩
  ·rw [h3]; exact hn σ1 _ w1 fr1 _ h1 h6 h5 h7
  ·rw [h3]; exact hn σ1 _ w1 fr1 _ h1 h6 h5 h7
 | call f args =>
  obtain ⟨cs, h1, h2⟩ := hops
  rw [h2]
  have h' : zfU (E.call f args m.hp m.nx) fr m.df (fun v m => putK E o.dst v k fr m) = R := h
  have hcn : E.call f args m.hp m.nx ≠ .no := by intro e; rw [e] at h'; exact hR h'.symm
  refine ⟨fun hd => absurd hd (by simp [FV]), CallsIn.mono (hc hV σ w f args cs m.hp m.nx h0.rel h1 hcn) ?_⟩
  intro e w1 hp
  cases e <;> exact ziT (df := m.df) h0 h' hR (fun σ1 w2 v c m1 g1 g2 g3 g4 g5 g6 g7 => by
   obtain ⟨fr1, g8, g9⟩ := zbm g3 g4 g5 g2 g7 hR
   exact hn σ1 _ w2 fr1 m1 g1 g8 g6 g9) hQ _ w1 hp
 | yld l args =>
  obtain ⟨e0, cs, h1, h2, h3⟩ := hops
  have h' : zfU (E.yld l args m.hp m.nx) fr m.df (fun v m => putK E o.dst v k fr m) = R := h
  have hcn : E.yld l args m.hp m.nx ≠ .no := by intro e; rw [e] at h'; exact hR h'.symm
  obtain ⟨r, g1, g2, g3⟩ := hy hV σ w l e0 args cs m.hp m.nx h0.rel h1 h2 hcn
  rw [h3, run_yield g1 (by simpa using g2)]
  refine ⟨fun hd => absurd hd (by simp [FV]), RoundIn.mono g3 ?_⟩
  intro e w1 hp
  cases e <;> exact ziT (df := m.df) h0 h' hR (fun σ1 w2 v c m1 g1 g2 g3 g4 g5 g6 g7 => by
   obtain ⟨fr1, g8, g9⟩ := zbm g3 g4 g5 g2 g7 hR
   exact hn σ1 _ w2 fr1 m1 g1 g8 g6 g9) hQ _ w1 hp
 | dfr d =>
  cases d with
  | mark b => exact hops.elim
  | call f args =>
   obtain ⟨d, h1, h2⟩ := hops
   rw [h2]
   have h' : (match E.rd with
    | none => putK E o.dst (.lit undef) k fr ⟨m.hp, m.nx, .call f args :: m.df⟩
    | some _ => .no) = R := h
   cases hrd : E.rd with
   | some q => rw [hrd] at h'; exact absurd h'.symm hR
   | none =>
    rw [hrd] at h'
    obtain ⟨fr1, h6, h7⟩ := zbm (a := { a with defers := d :: a.defers }) (m := ⟨m.hp, m.nx, .call f args :: m.df⟩) (c := undef) h0.fr h0.rel ⟨h1, h0.df⟩ rfl h' hR
    exact hn σ _ w fr1 _ (Sle.refl _) h6 (Keep.refl _ _) h7
 | panic v =>
  obtain ⟨t, c, h1, h2⟩ := hops
  rw [h2]
  have h' : Out.ok (.panic v) fr m = R := h
  subst h'
  exact hQ _ _ _ ⟨σ, Sle.refl _, ⟨t, c, h1, rfl⟩, h0, Keep.refl _ _⟩
theorem zj5 {all : Array Oper} {j : Nat} {b x : Bool} (h0 : FrR σ E.N fr a.tmps) (h : zcw all.toList fr j b = some x) : (yielded all a.tmps j == some b) = x := by
 unfold zcw at h
 cases hj : all.toList[j]? with
 | none => rw [hj] at h; cases h
 | some o =>
  rw [hj] at h
  have hj' : all[j]? = some o := by simpa using hj
  have h : (match o.dst with
   | some d => match qF fr d with
    | some (.lit (.bool c)) => some (c == b)
    | some (.lit (.tuple _)) => some false
    | _ => none
   | none => none) = some x := h
  cases hd : o.dst with
  | none => rw [hd] at h; cases h
  | some d =>
   rw [hd] at h
   dsimp only at h
   split at h
   ·rename_i c hf
    cases h
    obtain ⟨cv, h1, h2⟩ := h0.2 _ _ hf
    cases h1
    simp [yielded, hj', hd, h2]
   ·rename_i cs hf
    cases h
    obtain ⟨cv, h1, h2⟩ := h0.2 _ _ hf
    cases h1
    simp [yielded, hj', hd, h2]
   ·cases h
theorem zl3 (hV : VOk E.P O.V) (hc : xU O E.P E.call) (hy : zde O E.P E.yld) (ops : Array Oper) : ∀ (l : List Oper) (σ : Sg) (a : Act) (w : World) (fr : Fra) (m : Mem) (R : Out) (Q : Exit → Act → World → Prop), RdR σ E ρ → StR O σ E a w fr m → zgZ E ops.toList l fr m = R → R ≠ .no →
  (∀ x a w1, CPost O σ E w R x a w1 → Q x a w1) → wpListIn (FV O.V ρ) 0 E.P ops Q l a w
 | [], σ, a, w, fr, m, R, Q, hρ, h0, h, hR, hQ => by
  subst h
  exact hQ _ _ _ (.one h0 trivial)
 | o :: l, σ, a, w, fr, m, R, Q, hρ, h0, h, hR, hQ => by
  have ih := zl3 hV hc hy ops l
  have hnext : ∀ σ1 a1 w1 fr1 m1, Sle σ σ1 → StR O σ1 E a1 w1 fr1 m1 → Keep O w w1 → zgZ E ops.toList l fr1 m1 = R → wpListIn (FV O.V ρ) 0 E.P ops Q l a1 w1 :=
   fun σ1 a1 w1 fr1 m1 g1 g2 g3 g4 => ih σ1 a1 w1 fr1 m1 R Q (hρ.mono g1) g2 g4 hR fun x a2 w2 g5 => hQ x a2 w2 (g5.trans g1 g3)
  obtain ⟨d, op, ty, pos, af, gd⟩ := o
  cases gd with
  | none =>
   have h : zdd (yw op E.P ty fr m) E d (zgZ E ops.toList l) fr m = R := h
   show wpListIn (FV O.V ρ) 0 E.P ops Q _ a w
   unfold wpListIn
   simp only [Region.wanted, if_true]
   exact zok hV hc hy hρ h0 ⟨d, op, ty, pos, af, none⟩ h hR hnext hQ
  | some g =>
   obtain ⟨j, b⟩ := g
   have h : zmJ (zcw ops.toList fr j b) (zdd (yw op E.P ty fr m) E d (zgZ E ops.toList l) fr m) (cond (jo op E.P fr) (putK E d (.lit undef) (zgZ E ops.toList l) fr m) .no) = R := h
   cases hw : zcw ops.toList fr j b with
   | none => rw [hw] at h; exact absurd h.symm hR
   | some x =>
    rw [hw] at h
    have hy' := zj5 h0.fr hw
    unfold wpListIn
    simp only [Region.wanted, hy']
    cases x with
    | true =>
     simp only [if_true]
     exact zok hV hc hy hρ h0 ⟨d, op, ty, pos, af, some (j, b)⟩ h hR hnext hQ
    | false =>
     simp only [Bool.false_eq_true, if_false]
     cases hab : jo op E.P fr with
     | false => rw [hab] at h; exact absurd h.symm hR
     | true =>
      rw [hab] at h
      refine ⟨zbf hV (zdu h0.fr h0.rel.glo) ⟨d, op, ty, pos, af, some (j, b)⟩ hab w, ?_⟩
      obtain ⟨fr1, h6, h7⟩ := zbm (c := undef) h0.fr h0.rel h0.df rfl h hR
      exact hnext σ _ w fr1 _ (Sle.refl _) h6 (Keep.refl _ _) h7
theorem zqD (hc : xU O E.P E.call) (hy : zde O E.P E.yld) {i : Nat} {ops : Array Oper} : x9 O E ρ (.region i ops false) := by
 intro hV σ a w fr m hρ h hn
 exact wpIn_region_list (zl3 hV hc hy ops ops.toList σ a w fr m _ _ hρ h rfl hn fun _ _ _ h => h)
end
end Go.Proofs.YtcapocmenjcnhaaGreatDoor.Ev
/-
 The evaluator's calls beside the model's: results, deferred calls, functions entered.
-/
namespace Go.Proofs.YtcapocmenjcnhaaGreatDoor.Ev
open Go.RowKit
section
variable {O : Ow} {σ σ' : Sg} {P : Program} {E : Env} {ρ : Option Nat} {a : Act} {w w' : World} {fr : Fra} {m : Mem} {k : CT} {hp : Hp} {nx n : Nat} {tmps : Array Value}
theorem zeP (hw : RelW O σ hp nx w) (hf : FrR σ n fr tmps) : ∀ (rs : List ResultVar) (vs : List AV), Ev.resOf P hp fr rs = some vs → ∃ cs, zF σ vs = some cs ∧ (rs.mapM (jB tmps)).run P w = .ok cs w
 | [], vs, h => by cases h; exact ⟨[], rfl, by simp⟩
 | .tmp t :: rs, vs, h => by
  simp only [Ev.resOf] at h
  split at h
  ·rename_i v vs' h1 h2
   cases h
   obtain ⟨cs, g1, g2⟩ := zeP hw hf rs vs' h2
   obtain ⟨c, g3, g4⟩ := hf.2 _ _ h1
   refine ⟨c :: cs, by simp only [zF, g3, g1], ?_⟩
   have hs : (jB tmps (.tmp t)).run P w = .ok c w := by
    simp only [jB, Sem.run_pure]
    rw [Array.getD_eq_getD_getElem?, g4]; rfl
   simp only [List.mapM_cons, Sem.run_bind, hs, Result.andThen_ok, g2, Sem.run_pure]
  ·cases h
 | .cell t ty :: rs, vs, h => by
  simp only [Ev.resOf] at h
  split at h
  ·rename_i b o vs' h1 h2
   split at h
   ·rename_i v h3
    cases h
    obtain ⟨cs, g1, g2⟩ := zeP hw hf rs vs' h2
    obtain ⟨c, g3, g4⟩ := hf.2 _ _ h1
    obtain ⟨e, he, rfl⟩ := yB g3
    obtain ⟨cc, ro, k1, k2⟩ := zhp h3 (by simp)
    obtain ⟨v', k3, cv, k4, k5⟩ := zin hw k1 he k2 (by simp)
    cases k3
    refine ⟨cv :: cs, by simp only [zF, k4, g1], ?_⟩
    have hs : (jB tmps (.cell t ty)).run P w = .ok cv w := by
     simp only [jB, Sem.run_bind]
     rw [Array.getD_eq_getD_getElem?, g4]
     simp [asAddr, k5]
    simp only [List.mapM_cons, Sem.run_bind, hs, Result.andThen_ok, g2, Sem.run_pure]
   ·cases h
  ·cases h
theorem zrs {fn : Func} (hw : RelW O σ hp nx w) (hf : FrR σ n fr tmps) {vs : List AV} (h : Ev.resOf P hp fr fn.results.toList = some vs) : ∃ c, zP σ (zoQ vs) = some c ∧ (results fn tmps).run P w = .ok c w := by
 obtain ⟨cs, h1, h2⟩ := zeP hw hf _ _ h
 have hl := qv h1
 refine ⟨Go.Proofs.YtcapocmenjcnhaaGreatDoor.resOf cs, ?_, ?_⟩
 ·rcases vs with _ | ⟨v, _ | ⟨u, vs⟩⟩
  ·cases h1; rfl
  ·obtain ⟨c, h3, rfl⟩ := kT h1
   exact h3
  ·rcases cs with _ | ⟨c, _ | ⟨d, cs⟩⟩
   ·cases hl
   ·cases hl
   ·show (zF σ (v :: u :: vs)).map _ = _
    rw [h1]; rfl
 ·rw [zcG, ← Array.toArray_toList (xs := fn.results), List.mapM_toArray]
  simp only [Sem.run_bind, Sem.run_map, h2, Result.andThen_ok, Sem.run_pure]
  clear h1 h2 hl h
  rcases cs with _ | ⟨v, _ | ⟨u, vs⟩⟩
  ·rfl
  ·rfl
  ·simp [Go.Proofs.YtcapocmenjcnhaaGreatDoor.resOf]
theorem ziB {args : List AV} {cs : List Value} (h : zF σ args = some cs) (hl : args.length ≤ 256) (N : Nat) : FrR σ N (jP args 0 (jb 8)) (cs.toArray ++ Array.replicate (N - cs.toArray.size) undef) := by
 refine ⟨by simp; omega, fun t v hv => ?_⟩
 rw [zbw args 0 _ (by omega) t, ziH] at hv
 have hv : args[t]? = some v := by
  split at hv
  ·rename_i ht
   simpa using hv
  ·cases hv
 obtain ⟨c, h1, h2⟩ := yr h t v hv
 refine ⟨c, h1, ?_⟩
 rw [Array.getElem?_append_left (by simpa using (List.getElem?_eq_some_iff.1 h2).1)]
 simpa using h2
end
end Go.Proofs.YtcapocmenjcnhaaGreatDoor.Ev
/-
  The evaluator's code beside the model's: ranges over functions.
-/
namespace Go.Proofs.YtcapocmenjcnhaaGreatDoor.Ev
open Go.RowKit
section
variable {O : Ow} {σ σ' : Sg} {P : Program} {E : Env} {ρ : Option Nat} {a : Act} {w w' : World} {fr : Fra} {m : Mem} {k : CT} {hp : Hp} {nx n : Nat} {tmps : Array Value}
theorem ko {f f' : FuncId} {xs ys : List AV} {cs : List Value} (hx : zF σ xs = some cs) (h : vh P f xs = .call f' ys) (w : World) : f' = f ∧ ys = xs ∧ (callFunc f cs.toArray).run P w = .ok (.enter f cs.toArray) w := by
  have h2 := zdR (O := ⟨fun _ => True, fun _ => none, fun _ => True⟩) (w := w) hx h (by simp)
  obtain ⟨cs', h3, h4⟩ := h2
  unfold vh at h
  cases hf : P.funcs[f]? with
  | none => rw [hf] at h; cases h
  | some fn =>
    rw [hf] at h
    cases hb : fn.body with
    | some c =>
      have h : cond (fn.name == "runtime.NumGoroutine") .no (.call f xs) = OR.call f' ys := by rw [← h]; simp only [hb]
      cases hn : fn.name == "runtime.NumGoroutine" with
      | true => rw [hn] at h; cases h
      | false =>
        rw [hn] at h
        cases h
        rw [hx] at h3; cases h3
        exact ⟨rfl, rfl, h4⟩
    | none =>
      have h : cond (fn.name == "internal/abi.NoEscape" && fn.origin == "") (zjo xs) (ob (zcS xs) fun vs => jN (match pv P (callFunc f vs.toArray) with | some (.value v) => some v | _ => none)) = OR.call f' ys := by rw [← h]; simp only [hb]; rfl
      cases hne : fn.name == "internal/abi.NoEscape" && fn.origin == "" with
      | true =>
        rw [hne] at h
        have h : zjo xs = OR.call f' ys := h
        unfold zjo at h
        split at h <;> cases h
      | false =>
      rw [hne] at h
      have h : (ob (zcS xs) fun vs => jN (match pv P (callFunc f vs.toArray) with | some (.value v) => some v | _ => none)) = OR.call f' ys := h
      obtain ⟨vs, h1, h⟩ := zC h (by simp)
      obtain ⟨v, h2, h3⟩ := yE h (by simp)
      cases h3
theorem zsy {v : AV} {cv : Value} {xs ys : List AV} {cs : List Value} {f : FuncId} (hv : zP σ v = some cv) (hx : zF σ xs = some cs) (h : zf9 P v xs = .call f ys) :
    ∃ (fst cap : Array Value) (zs : List Value), cv = .func (.func f) fst cap ∧ zF σ ys = some zs ∧ (fst ++ cs.toArray) ++ cap = zs.toArray ∧ (∀ w, (callFunc f zs.toArray).run P w = .ok (.enter f zs.toArray) w) ∧ P.funcs[f]?.isSome = true := by
  unfold zf9 at h
  split at h
  · rename_i f' a b
    simp only [zP] at hv
    cases ha : zF σ a with
    | none => rw [ha] at hv; cases hv
    | some ca =>
      cases hb : zF σ b with
      | none => rw [ha, hb] at hv; cases hv
      | some cb =>
        rw [ha, hb] at hv
        cases hv
        have hc := yv (yv ha hx) hb
        obtain ⟨rfl, rfl, _⟩ := ko hc h default
        exact ⟨ca.toArray, cb.toArray, _, rfl, hc, by simp, fun w => (ko hc h w).2.2, vq h (by simp)⟩
  · rename_i f' a b
    have e := Option.some.inj hv
    subst e
    have hc := yv (yv (kG a) hx) (kG b)
    obtain ⟨rfl, rfl, _⟩ := ko hc h default
    exact ⟨a, b, _, rfl, hc, Array.ext' (by simp), fun w => (ko hc h w).2.2, vq h (by simp)⟩
  · cases h
  · cases h
theorem zs1 {l : Nat} {e : Loc} {R : Out} {w0 : World} {σ0 : Sg} {Q : Exit → Act → World → Prop} (h0 : StR O σ E a w fr m) (he : σ l = some e) (hs : Sle σ0 σ) (hk : Keep O w0 w) (h : zgl l fr m = R) (hR : R ≠ .no)
    (hQ : ∀ x a w1, CPost O σ0 E w0 R x a w1 → Q x a w1) :
    ∃ jump w₄, (Instr.endLoop e.bl).run P w = .ok jump w₄ ∧ (match jump with
       | none => Q .normal a w₄
       | some c => c.wpIn (FV O.V ρ) 0 P Q a w₄) := by
  have fin : ∀ st pe n tf ps c d, st ≠ LoopState.busy → hget m.hp l = some (.loop st pe n tf ps c d) → ∃ w4, (Instr.endLoop e.bl).run P w = .ok (exC pe) w4 ∧ StR O σ E a w4 fr ⟨hset .dead m.hp l, m.nx, m.df⟩ ∧ Keep O w w4 := by
    intro st pe n tf ps c d hst hl
    obtain ⟨r, h1, h2, h3, _⟩ := h0.rel.obj _ _ _ hl he
    have h4 := run_endLoop (P := P) h1 (by rw [h2]; exact hst)
    have hwr := h0.rel.write (o' := .dead) (w' := w.putObj e.bl (.loop { r with state := .exhausted })) hl rfl he trivial (by simp [World.putObj]) (fun k hk => World.putObj_heap_other hk) rfl rfl rfl
    exact ⟨_, by rw [← h3]; exact h4, ⟨h0.fr, hwr.1, h0.df⟩, hwr.2⟩
  unfold zgl at h
  split at h
  · rename_i n tf ps c d hl
    obtain ⟨w4, h1, h2, h3⟩ := fin _ _ _ _ _ _ _ (by simp) hl
    subst h
    exact ⟨_, _, h1, hQ _ _ _ ⟨σ, hs, trivial, h2, hk.trans h3⟩⟩
  · rename_i n tf ps c d hl
    obtain ⟨w4, h1, h2, h3⟩ := fin _ _ _ _ _ _ _ (by simp) hl
    subst h
    exact ⟨_, _, h1, wpIn_ret (hQ _ _ _ ⟨σ, hs, trivial, h2, hk.trans h3⟩)⟩
  · rename_i i n tf ps c d hl
    obtain ⟨w4, h1, h2, h3⟩ := fin _ _ _ _ _ _ _ (by simp) hl
    subst h
    exact ⟨_, _, h1, wpIn_exit (hQ _ _ _ ⟨σ, hs, rfl, h2, hk.trans h3⟩)⟩
  · rename_i i n tf ps c d hl
    obtain ⟨w4, h1, h2, h3⟩ := fin _ _ _ _ _ _ _ (by simp) hl
    subst h
    exact ⟨_, _, h1, wpIn_goto (hQ _ _ _ ⟨σ, hs, rfl, h2, hk.trans h3⟩)⟩
  · exact absurd h.symm hR
theorem zgi (hV : VOk E.P O.V) (hc : xU O E.P E.call) {g : AV} {cg : Value} {ps : Array Tmp} {ac bd : Code} {fn : FuncId} (hfv : O.V fn) {df : List AD} {mk : List Deferred} {dfr : Nat} {R : Out} {w0 : World} {σ0 : Sg} {Q : Exit → Act → World → Prop}
    (hf : FrR σ E.N fr a.tmps) (hw : RelW O σ hp nx w) (hd : DfL σ (mk ++ a.defers) df) (hg : zP σ g = some cg) (hs : Sle σ0 σ) (hk : Keep O w0 w)
    (h : vQ E g ps ac bd fr hp nx df = R) (hR : R ≠ .no) (hQ : ∀ x a w1, CPost O σ0 E w0 R x a w1 → Q x a w1) :
    ∃ (d : Deferred) (f : FuncId) (args : Array Value),
      Deferred.ofValue cg #[.func (.yield w.heap.size) #[] #[]] = pure d ∧ (∀ w, (invoke d.target d.args).run E.P w = .ok (.enter f args) w) ∧ (∀ w f', Target.leads E.P w d.target d.args = some f' → O.V f') ∧
      CallsIn (FV O.V ρ) 0 E.P f args (w.alloc (.loop { state := .ready, pending := none, fn, tmps := a.tmps, params := ps, assign := ac, body := bd, defers := dfr }))
        (rangePost (FV O.V ρ) 0 E.P w.heap.size Q { a with defers := mk ++ a.defers }) := by
  unfold vQ at h
  split at h
  · rename_i f ys hfn
    cases hb : Nat.blt nx 16384 with
    | false => rw [hb] at h; exact absurd h.symm hR
    | true =>
      rw [hb] at h
      have hlt := qw hb
      have h : zfU (E.call f ys (hset (.loop .ready .normal E.N fr ps.toList ac bd) hp nx) (Nat.add nx 1)) fr df (fun _ m' => zgl nx fr m') = R := h
      have hcn : E.call f ys (hset (.loop .ready .normal E.N fr ps.toList ac bd) hp nx) (Nat.add nx 1) ≠ .no := by intro e; rw [e] at h; exact hR h.symm
      have hn := hw.fresh nx (Nat.le_refl _)
      let e0 : Loc := ⟨w.heap.size, 0, 0, 1, 0⟩
      have hsl : Sle σ (xD σ nx e0) := xv hn
      obtain ⟨q1, q2, q3⟩ := hw.alloc (id := nx) hlt (nx' := nx + 1) (Nat.le_succ _) (Nat.lt_succ_self _) hn hw.now (.loop .ready .normal E.N fr ps.toList ac bd)
        (.loop { state := .ready, pending := none, fn, tmps := a.tmps, params := ps, assign := ac, body := bd, defers := dfr }) e0 rfl ⟨_, rfl, rfl, rfl, rfl, rfl, rfl, hf.mono hsl, hfv⟩
      have hy : zF (xD σ nx e0) [.yld nx] = some [.func (.yield w.heap.size) #[] #[]] := by
        simp only [zF, zP, qj, Option.map_some, e0]
      obtain ⟨fst, cap, zs, r1, r2, r3, r4, r5⟩ := zsy (yf hsl _ _ hg) hy hfn
      subst r1
      refine ⟨{ target := .fn (.func f) cap, args := fst ++ #[.func (.yield w.heap.size) #[] #[]] }, f, zs.toArray, rfl, fun w' => ?_, fun w' f' hl => ?_, ?_⟩
      · have := r4 w'
        rw [← r3] at this ⊢
        exact this
      · have hl : some f = some f' := hl
        cases hl
        exact (hV f).2 (Option.isSome_iff_exists.1 r5)
      · have hcall := hc hV _ _ f ys zs _ _ q1 r2 hcn
        refine CallsIn.mono (R := xz O (xD σ nx e0) _ _) hcall ?_
        intro x w3 hp3
        cases hE : E.call f ys (hset (.loop .ready .normal E.N fr ps.toList ac bd) hp nx) (Nat.add nx 1) with
        | no => exact absurd hE hcn
        | ok ex r0 m0 =>
          rw [hE] at hp3 h
          cases ex with
          | ret =>
            obtain ⟨σ1, v, c, g1, g2, g3, rfl, g4, g5⟩ := hp3
            have h' : zgl nx fr ⟨m0.hp, m0.nx, df⟩ = R := by
              have h6 : (match qF r0 0 with
                | some v => zgl nx fr ⟨m0.hp, m0.nx, df⟩
                | none => .no) = R := h
              rw [g2] at h6
              exact h6
            have hσ1 : Sle σ σ1 := hsl.trans g1
            have he : σ1 nx = some e0 := g1 _ _ (qj _ _ _)
            exact zs1 (E := E) (ρ := ρ) (a := { a with defers := mk ++ a.defers }) (m := ⟨m0.hp, m0.nx, df⟩) ⟨hf.mono hσ1, g4, hd.mono hσ1⟩ he (hs.trans hσ1) (hk.trans (q3.trans g5)) h' hR hQ
          | panic v =>
            obtain ⟨σ1, t, c, g1, g2, rfl, g4, g5⟩ := hp3
            have h' : Out.ok (.panic v) fr ⟨m0.hp, m0.nx, df⟩ = R := h
            have hσ1 : Sle σ σ1 := hsl.trans g1
            subst h'
            exact hQ _ _ _ ⟨σ1, hs.trans hσ1, ⟨t, c, g2, rfl⟩, ⟨hf.mono hσ1, g4, hd.mono hσ1⟩, hk.trans (q3.trans g5)⟩
          | normal => exact hp3.elim
          | exit i => exact hp3.elim
          | goto i => exact hp3.elim
  · exact absurd h.symm hR
theorem zbR {g : Operand} {l : Nat} {d : Deferred} (h : Deferred.ofValue (a.eval g) #[.func (.yield l) #[] #[]] = pure d) (w : World) : (resolve a.eval (rangeCall g l) 0).run P w = .ok d w := by
  have : resolve a.eval (rangeCall g l) 0 = Deferred.ofValue (a.eval g) #[.func (.yield l) #[] #[]] := by
    simp [resolve, Act.eval]
  rw [this, h]; rfl
theorem zqR (hc : xU O E.P E.call) {g : Operand} {ps : Array Tmp} {ac bd : Code} : x9 O E ρ (.rangeFunc g ps ac bd) := by
  intro hV σ a w fr m hρ h hn
  have hop := zdu h.fr h.rel.glo
  obtain ⟨R, hR'⟩ : ∃ R, zc4 E g ps ac bd fr m = R := ⟨_, rfl⟩
  have hn : zc4 E g ps ac bd fr m ≠ .no := hn
  show (Code.rangeFunc g ps ac bd).wpIn (FV O.V ρ) 0 E.P (CPost O σ E w (zc4 E g ps ac bd fr m)) a w
  rw [hR'] at hn ⊢
  unfold zc4 at hR'
  cases hg : opd fr g with
  | none => rw [hg] at hR'; exact absurd hR'.symm hn
  | some gv =>
    rw [hg] at hR'
    have hgv := hop _ _ hg
    refine wpIn_rangeFunc ?_
    intro fn hfv
    cases hrd : E.rd with
    | none =>
      have hρ : ρ = none := by unfold RdR at hρ; rw [hrd] at hρ; exact hρ
      subst hρ
      have hR' : cond (Nat.blt m.nx 16384) (vQ E gv ps ac bd fr (hset .dfr m.hp m.nx) (Nat.add m.nx 1) (.mark m.nx :: m.df)) .no = R := by
        rw [← hR']; simp only [hrd]
      cases hb : Nat.blt m.nx 16384 with
      | false => rw [hb] at hR'; exact absurd hR'.symm hn
      | true =>
        rw [hb] at hR'
        have hlt := qw hb
        have hfr := h.rel.fresh m.nx (Nat.le_refl _)
        let e0 : Loc := ⟨w.heap.size, 0, 0, 1, 0⟩
        have hsl : Sle σ (xD σ m.nx e0) := xv hfr
        obtain ⟨q1, q2, q3⟩ := h.rel.alloc (id := m.nx) hlt (nx' := m.nx + 1) (Nat.le_succ _) (Nat.lt_succ_self _) hfr h.rel.now .dfr (.deferred (some [])) e0 rfl rfl
        obtain ⟨d, f, args, r1, r2, rl, r3⟩ := zgi (hfv := hfv) (ρ := none) (df := .mark m.nx :: m.df) (fn := fn) (dfr := w.heap.size) (mk := [{ target := .collected w.heap.size, args := #[] }]) (Q := CPost O σ E w R) hV hc (h.fr.mono hsl) q1
          ⟨⟨e0, qj _ _ _, rfl⟩, h.df.mono hsl⟩ (yf hsl _ _ hgv) hsl q3 hR' hn (fun _ _ _ h => h)
        have hsz : (w.alloc (.deferred (some []))).heap.size = w.heap.size + 1 := by simp
        rw [hsz] at r1 r3
        refine ⟨w.heap.size + 1, [{ target := .collected w.heap.size, args := #[] }], _, d, _, f, args, _, run_enterLoop_outer _ _ _ _ _, zbR r1 _, rl _, r2 _, fun hd => absurd hd (by simp [FV]), r3⟩
    | some q =>
      have hρ' : ∃ e, σ q = some e ∧ ρ = some e.bl := by unfold RdR at hρ; rw [hrd] at hρ; exact hρ
      obtain ⟨e, he, rfl⟩ := hρ'
      have hR' : cond (zhy (hget m.hp q)) (vQ E gv ps ac bd fr m.hp m.nx m.df) .no = R := by
        rw [← hR']; simp only [hrd]
      cases hb : zhy (hget m.hp q) with
      | false => rw [hb] at hR'; exact absurd hR'.symm hn
      | true =>
        rw [hb] at hR'
        unfold zhy at hb
        split at hb
        · rename_i st pe n tf qs c d hl
          obtain ⟨r0, h1, _⟩ := h.rel.obj _ _ _ hl he
          obtain ⟨d, f, args, r1, r2, rl, r3⟩ := zgi (hfv := hfv) (ρ := some e.bl) (fn := fn) (dfr := r0.defers) (mk := []) (Q := CPost O σ E w R) hV hc h.fr h.rel h.df hgv (Sle.refl _) (Keep.refl _ _) hR' hn (fun _ _ _ h => h)
          refine ⟨w.heap.size, [], _, d, _, f, args, _, run_enterLoop_inner h1 _ _ _ _ _, zbR r1 _, rl _, r2 _, fun hd => absurd hd (by simp [FV]), r3⟩
        · cases hb
end
end Go.Proofs.YtcapocmenjcnhaaGreatDoor.Ev
/-
 Drawn regions: what a plan says.
-/
namespace Go.Proofs.YtcapocmenjcnhaaGreatDoor.Ev
open Go.RowKit
theorem zfL {a b : Bool} (h : cond a b false = true) : a = true ∧ b = true := by cases a <;> first | exact ⟨rfl, h⟩ | cases h
theorem kg {i : Nat} : ∀ {l : List Nat}, zcP i l = true ↔ i ∈ l
 | [] => by simp [zcP]
 | j :: l => by
  have ih := kg (i := i) (l := l)
  simp only [zcP, List.mem_cons]
  cases hb : Nat.beq i j with
  | true => simp [Nat.eq_of_beq_eq_true hb]
  | false =>
   have hne : i ≠ j := by rintro rfl; rw [Nat.beq_refl] at hb; cases hb
   simp [hne, ih]
theorem jg {p : Nat → Bool} : ∀ {l : List Nat}, zdT p l = true ↔ ∀ i ∈ l, p i = true
 | [] => by simp [zdT]
 | j :: l => by
  have ih := jg (p := p) (l := l)
  simp only [zdT, List.mem_cons]
  cases hb : p j with
  | true => simp [hb, ih]
  | false => simp [hb]
theorem zi6 {p : Nat → Bool} : ∀ {l : List Nat}, znr p l = true ↔ ∃ i ∈ l, p i = true
 | [] => by simp [znr]
 | j :: l => by
  have ih := zi6 (p := p) (l := l)
  simp only [znr, List.mem_cons]
  cases hb : p j with
  | true => simp [hb]
  | false => simp [hb, ih]
theorem zrZ {ops : List Oper} {l : List Nat} {i : Nat} (h : zdr ops l i = true) : ∃ o, ops[i]? = some o ∧ i ∉ l ∧ ∀ j ∈ yD o, j ∈ l := by
 unfold zdr at h
 split at h
 ·rename_i o ho
  cases hm : zcP i l with
  | true => rw [hm] at h; cases h
  | false =>
   rw [hm] at h
   refine ⟨o, ho, fun hi => ?_, fun j hj => kg.1 (jg.1 h j hj)⟩
   rw [kg.2 hi] at hm; cases hm
 ·cases h
theorem zic {ops : List Oper} : ∀ {l late p2 p1 : List Nat} {i : Nat}, ordOk ops late l = true → l = p2 ++ i :: p1 → zdr ops p1 i = true ∧
  (isE ops i = true → ∀ j, j ∈ late ∨ j ∈ p2 → ∃ o, ops[j]? = some o ∧ ∃ k ∈ yD o, k = i ∨ k ∈ late ∨ k ∈ p2)
 | [], late, p2, p1, i, h, hl => by cases p2 <;> cases hl
 | x :: l, late, p2, p1, i, h, hl => by
  simp only [ordOk] at h
  obtain ⟨h1, h2⟩ := zfL h
  obtain ⟨h3, h4⟩ := zfL h2
  cases p2 with
  | nil =>
   cases hl
   refine ⟨h1, fun hE j hj => ?_⟩
   have hj : j ∈ late := by simpa using hj
   rw [hE] at h3
   have h5 := jg.1 h3 j hj
   split at h5
   ·rename_i o ho
    obtain ⟨k, hk, h6⟩ := zi6.1 h5
    refine ⟨o, ho, k, hk, ?_⟩
    cases hb : Nat.beq k x with
    | true => exact .inl (Nat.eq_of_beq_eq_true hb)
    | false => rw [hb] at h6; exact .inr (.inl (kg.1 h6))
   ·cases h5
  | cons y p2 =>
   cases hl
   obtain ⟨q1, q2⟩ := zic h4 rfl
   refine ⟨q1, fun hE j hj => ?_⟩
   obtain ⟨o, ho, k, hk, h6⟩ := q2 hE j (by simp at hj ⊢; rcases hj with h | h | h <;> simp [h])
   exact ⟨o, ho, k, hk, by
    simp only [List.mem_cons] at h6 ⊢
    rcases h6 with h | (h | h) | h
    ·exact .inl h
    ·exact .inr (.inr (.inl h))
    ·exact .inr (.inl h)
    ·exact .inr (.inr (.inr h))⟩
theorem zr1 {a : Array Oper} {st : List Nat} (h : zhj a = some st) : (∀ i, i < a.size → i ∈ st) ∧ (∀ i, i < a.size → zid a.toList (List.range a.size) i = true) ∧ ordOk a.toList [] st.reverse = true := by
 unfold zhj at h
 simp only [Array.length_toList] at h
 generalize zkb a.toList (List.range a.size) a.size [] = l at h
 cases h1 : zdT (fun i => zcP i l) (List.range a.size) with
 | false => rw [h1] at h; cases h
 | true =>
  rw [h1] at h
  cases h2 : zdT (zid a.toList (List.range a.size)) (List.range a.size) with
  | false => rw [h2] at h; cases h
  | true =>
   rw [h2] at h
   cases h3 : ordOk a.toList [] l with
   | false => rw [h3] at h; cases h
   | true =>
    rw [h3] at h
    cases h
    exact ⟨fun i hi => by simpa using kg.1 (jg.1 h1 i (by simpa using hi)), fun i hi => jg.1 h2 i (by simpa using hi), by simpa using h3⟩
end Go.Proofs.YtcapocmenjcnhaaGreatDoor.Ev
/-
 Drawn regions: late blocks are laid; an operation looks at its operands alone.
-/
namespace Go.Proofs.YtcapocmenjcnhaaGreatDoor.Ev
open Go.RowKit
def Ow.lay (O : Ow) (id : Nat) : Ow := ⟨O.own, fun b => if b = id then none else O.late b, O.V⟩
section
variable {O : Ow} {σ σ' : Sg} {P : Program} {fr fr' : Fra} {m : Mem} {w : World} {hp hp' : Hp} {nx : Nat}
theorem RelW.ext (h : RelW O σ hp nx w) (he : ∀ b, hget hp' b = hget hp b) : RelW O σ hp' nx w :=
 ⟨fun b o e hb hs => h.obj b o e (he b ▸ hb) hs, fun b b' o o' e e' hb hb' => h.inj b b' o o' e e' (he b ▸ hb) (he b' ▸ hb'), fun b o e hb => h.own b o e (he b ▸ hb), h.fresh, h.lt, h.new, h.glo,
  fun b o hb => let ⟨l1, l2, l3⟩ := h.late b o hb; ⟨l1, l2, (he b).trans l3⟩⟩
theorem RelW.lay (h : RelW O σ hp nx w) {id : Nat} {o : xV} (hl : O.late id = some o) (ob : Obj) (e : Loc) (he : e.bl = w.heap.size) (ho : ObjR O.V (xD σ id e) e o (some ob)) :
  RelW (O.lay id) (xD σ id e) hp nx (w.alloc ob) ∧ Sle σ (xD σ id e) ∧ Keep O w (w.alloc ob) := by
 obtain ⟨l1, l2, l3⟩ := h.late id o hl
 have h' : RelW (O.lay id) σ hp nx w := ⟨h.obj, h.inj, h.own, h.fresh, h.lt, h.new, h.glo, fun b o' hb => by
  have hb : (if b = id then none else O.late b) = some o' := hb
  split at hb
  ·cases hb
  ·exact h.late b o' hb⟩
 have hid := zeo l3
 obtain ⟨q1, q2, q3⟩ := h'.alloc hid (Nat.le_refl _) l2 l1 (show (if id = id then none else O.late id) = none by simp) o ob e he ho
 refine ⟨q1.ext fun b => ?_, q2, q3.os, q3.tape, q3.output, q3.size, q3.block⟩
 rw [qg _ _ hid]
 split
 ·rename_i hb; rw [hb]; exact l3
 ·rfl
noncomputable def znT {α : Type} (t : TT α 8) (k : Nat) : TT α 8 := znF none t k
theorem zeq {α : Type} (t : TT α 8) {k : Nat} (h : 256 ≤ k) : qF t k = none := by
 cases hv : qF t k with
 | none => rfl
 | some v => exact absurd (zkS hv) (by omega)
theorem ziI {α : Type} (t : TT α 8) {k : Nat} (hk : k < 256) (j : Nat) : qF (znT t k) j = if j = k then none else qF t j := by
 rcases Nat.lt_or_ge j 256 with hj | hj
 ·rw [zc3 _ hj]
  show tget ps8 (tset none ps8 t k) j = _
  split
  ·rename_i h; subst h; exact zbj _ _ _ _
  ·rename_i h
   rw [zc3 _ hj]
   obtain ⟨i, hi, hne⟩ := zhO (n := 8) hk hj (fun e => h e.symm)
   exact kE _ _ _ _ _ ⟨_, zko i hi, hne⟩
 ·rw [zeq _ hj, zeq _ hj]
  split <;> rfl
noncomputable def za6 {α : Type} (t : TT α 8) : List Nat → TT α 8
 | [] => t
 | k :: l => match Nat.blt k 256 with
  | true => znT (za6 t l) k
  | false => za6 t l
theorem zdF {α : Type} (t : TT α 8) (j : Nat) : ∀ (l : List Nat), qF (za6 t l) j = if j ∈ l then none else qF t j
 | [] => by simp [za6]
 | k :: l => by
  have ih := zdF t j l
  cases hb : Nat.blt k 256 with
  | true =>
   have : za6 t (k :: l) = znT (za6 t l) k := by simp only [za6, hb]
   rw [this, ziI _ (qw hb), ih]
   by_cases h1 : j = k <;> by_cases h2 : j ∈ l <;> simp [h1, h2]
  | false =>
   have : za6 t (k :: l) = za6 t l := by simp only [za6, hb]
   rw [this, ih]
   have hk : 256 ≤ k := Nat.le_of_not_lt fun h => by rw [zbc h] at hb; cases hb
   by_cases h1 : j = k
   ·subst h1
    rw [zeq t hk]; simp
   ·by_cases h2 : j ∈ l <;> simp [h1, h2]
theorem zfK {fr : Fra} {t : Nat} {v : AV} : ∀ {all : List Oper}, qF (jd fr all) t = some v → qF fr t = some v ∧ ∀ o ∈ all, o.dst ≠ some t
 | [], h => ⟨h, fun o ho => by cases ho⟩
 | o :: l, h => by
  have ih := @zfK fr t v l
  cases hd : o.dst with
  | none =>
   have : jd fr (o :: l) = jd fr l := by simp only [jd, hd]
   rw [this] at h
   obtain ⟨h1, h2⟩ := ih h
   exact ⟨h1, fun o' ho' => by
    rcases List.mem_cons.1 ho' with rfl | ho'
    ·rw [hd]; simp
    ·exact h2 o' ho'⟩
  | some d =>
   cases hb : Nat.blt d 256 with
   | true =>
    have : jd fr (o :: l) = znT (jd fr l) d := by simp only [jd, hd, hb]; rfl
    rw [this, ziI _ (qw hb)] at h
    by_cases htd : t = d
    ·rw [if_pos htd] at h; cases h
    ·rw [if_neg htd] at h
     obtain ⟨h1, h2⟩ := ih h
     exact ⟨h1, fun o' ho' => by
      rcases List.mem_cons.1 ho' with rfl | ho'
      ·rw [hd]; exact fun e => htd (Option.some.inj e).symm
      ·exact h2 o' ho'⟩
   | false =>
    have : jd fr (o :: l) = jd fr l := by simp only [jd, hd, hb]
    rw [this] at h
    obtain ⟨h1, h2⟩ := ih h
    exact ⟨h1, fun o' ho' => by
     rcases List.mem_cons.1 ho' with rfl | ho'
     ·rw [hd]
      intro e
      cases e
      rw [zeq _ (Nat.le_of_not_lt fun h => by rw [zbc h] at hb; cases hb)] at h1
      cases h1
     ·exact h2 o' ho'⟩
theorem kV : ∀ (l : List Operand), (∀ x ∈ l, opd fr x = opd fr' x) → zcK fr l = zcK fr' l
 | [], _ => rfl
 | x :: l, h => by simp only [zcK, h x (by simp), kV l fun y hy => h y (by simp [hy])]
theorem vA : ∀ (l : List (Nat × Operand)), (∀ x ∈ l, opd fr x.2 = opd fr' x.2) → kF fr l = kF fr' l
 | [], _ => rfl
 | (i, x) :: l, h => by simp only [kF, h (i, x) (by simp), vA l fun y hy => h y (by simp [hy])]
theorem jr (op : Op) (ty : Nat) (h : ∀ x ∈ op.operands, opd fr x = opd fr' x) : yw op P ty fr m = yw op P ty fr' m := by
 cases op with
 | alloc t => rfl
 | build t ps =>
  have := vA (fr := fr) (fr' := fr') ps.toList fun x hx => h x.2 (by simp only [Op.operands]; simp; exact ⟨x.1, by simpa using hx⟩)
  show zfk t ps P ty fr m = zfk t ps P ty fr' m
  unfold zfk
  rw [this]
 | buildSlice t n ps =>
  have := vA (fr := fr) (fr' := fr') ps.toList fun x hx => h x.2 (by simp only [Op.operands]; simp; exact ⟨x.1, by simpa using hx⟩)
  show kh t n ps P ty fr m = kh t n ps P ty fr' m
  unfold kh
  rw [this]
 | makeFunc f a b =>
  have h1 := kV (fr := fr) (fr' := fr') a.toList fun x hx => h x (by simp only [Op.operands]; simp at hx ⊢; exact .inl hx)
  have h2 := kV (fr := fr) (fr' := fr') b.toList fun x hx => h x (by simp only [Op.operands]; simp at hx ⊢; exact .inr hx)
  show vL f a b P ty fr m = vL f a b P ty fr' m
  unfold vL
  rw [h1, h2]
 | call c =>
  have h1 := kV (fr := fr) (fr' := fr') c.args.toList fun x hx => h x (by simp only [Op.operands, Call.operands]; simp at hx ⊢; exact .inr hx)
  show zgJ c P ty fr m = zgJ c P ty fr' m
  unfold zgJ zbH
  cases hc : c.callee with
  | builtin b => simp only [h1]
  | value f =>
   have h2 := h f (by simp [Op.operands, Call.operands, hc])
   simp only [h1, h2]
  | invoke x n => rfl
 | defer c =>
  have h1 := kV (fr := fr) (fr' := fr') c.args.toList fun x hx => h x (by simp only [Op.operands, Call.operands]; simp at hx ⊢; exact .inr hx)
  show zdA c P ty fr m = zdA c P ty fr' m
  unfold zdA zcj
  cases hc : c.callee with
  | value f =>
   have h2 := h f (by simp [Op.operands, Call.operands, hc])
   simp only [h1, h2]
  | builtin b => rfl
  | invoke x n => rfl
 | pick c x y =>
  simp [Op.operands] at h
  show zgF c x y P ty fr m = zgF c x y P ty fr' m
  unfold zgF
  rw [h.1]
  congr 1
  funext cv
  congr 1
  funext b
  cases b with
  | true => exact congrArg zhB h.2.1
  | false => exact congrArg zhB h.2.2
 | slice t x lo hi mx =>
  have h0 := h x (by simp [Op.operands])
  have h1 : ∀ y, lo = some y → opd fr y = opd fr' y := fun y hy => h y (by simp [Op.operands, hy])
  have h2 : ∀ y, hi = some y → opd fr y = opd fr' y := fun y hy => h y (by simp [Op.operands, hy])
  have h3 : ∀ y, mx = some y → opd fr y = opd fr' y := fun y hy => h y (by simp [Op.operands, hy])
  show zhv t x lo hi mx P ty fr m = zhv t x lo hi mx P ty fr' m
  have e1 : ∀ d, vt fr lo d = vt fr' lo d := fun d => by
   cases lo with
   | none => rfl
   | some y => simp only [vt, h1 y rfl]
  have e2 : ∀ d, vt fr hi d = vt fr' hi d := fun d => by
   cases hi with
   | none => rfl
   | some y => simp only [vt, h2 y rfl]
  cases mx with
  | some y => rfl
  | none =>
   show (ob (opd fr x) fun x => zej P t x lo hi fr) = ob (opd fr' x) fun x => zej P t x lo hi fr'
   rw [h0]
   congr 1
   funext v
   unfold zej
   cases v with
   | slc b o n c s => simp only [e1, e2]
   | asl b o n c => simp only [e1, e2]
   | ptr b o => simp only [e1, e2]
   | lit u =>
    cases lo with
    | none => cases hi with
     | none => rfl
     | some y => simp only [h2 y rfl]
    | some z => cases hi with
     | none => simp only [h1 z rfl]
     | some y => simp only [h2 y rfl, h1 z rfl]
   | _ => rfl
 | _ => first | rfl | (simp [Op.operands] at h; simp [yw, zkF, zgF, zoZ, zem, zmB, zjz, zoY, zo0, kUn, zmD, zjC, zcc, zcd, zjE, zmC, zjD, zhw, zjA, zmA, kTA, zfj, zjB, h])
theorem kL {op : Op} (h : ∀ x ∈ op.operands, opd fr x = opd fr' x) : jo op P fr = jo op P fr' := by
 cases op with
 | call c =>
  show kA P fr c.callee = kA P fr' c.callee
  cases hc : c.callee with
  | builtin b => rfl
  | value f =>
   have h2 := h f (by simp [Op.operands, Call.operands, hc])
   simp only [kA, h2]
  | invoke x n => rfl
 | _ => rfl
theorem ztZ {ρ : Operand → Value} {r : OR} (hρ : xL σ fr ρ) (o : Oper) (hcl : x8 o.op = 0) (h : yw o.op P o.type fr m = r) (hr : r ≠ .no) : ∃ v, r = .val v ∧ zaD σ P (execOp ρ o) v := by
 obtain ⟨d, op, ty, pos, af, gd⟩ := o
 cases op with
 | move x =>
  obtain ⟨v, rfl, h2⟩ := zcV (m := m) (ty := ty) (P := P) hρ h hr
  exact ⟨v, rfl, _, h2, fun w => rfl⟩
 | assign x =>
  obtain ⟨v, rfl, h2⟩ := zcV (m := m) (ty := ty) (P := P) hρ h hr
  exact ⟨v, rfl, _, h2, fun w => rfl⟩
 | pick c x y => exact ziq (m := m) hρ h hr
 | build t ps => exact zgK (m := m) hρ h hr
 | nilCheck x => exact zkE (m := m) hρ h hr
 | binOp op t x y t2 => exact zkH (m := m) hρ h hr
 | unOp op t x => exact zmy (m := m) hρ h hr
 | makeInterface t x => exact zgG (m := m) hρ h hr
 | makeFunc f a b => exact zcW (m := m) hρ h hr
 | slice t x lo hi mx => exact zgD (m := m) hρ h hr
 | fieldAddr t x i => exact zbY (m := m) hρ h hr
 | field t x i => exact zgI (m := m) hρ h hr
 | indexAddr t x i => exact zis (m := m) hρ h hr
 | index t x i => exact zgH (m := m) hρ h hr
 | typeAssert x t0 t ok => exact zmz (m := m) hρ h hr
 | extract x i => exact zd5 (m := m) hρ h hr
 | call c =>
  have hcl : (match c.callee with
   | .builtin b => zfO b
   | _ => 3) = 0 := hcl
  cases hc : c.callee with
  | builtin b =>
   rw [hc] at hcl
   have hcl : zfO b = 0 := hcl
   cases b <;> cases hcl
  | value f => rw [hc] at hcl; cases hcl
  | invoke x n => rw [hc] at hcl; cases hcl
 | _ => cases hcl
theorem zvW {ρ : Operand → Value} {r : OR} (hρ : xL σ fr ρ) (o : Oper) (hcl : x8 o.op = 2) (h : yw o.op P o.type fr m = r) (hr : r ≠ .no) : NewO σ P (execOp ρ o) m r := by
 obtain ⟨d, op, ty, pos, af, gd⟩ := o
 cases op with
 | alloc t => exact zgL (fr := fr) (ty := ty) h hr
 | box t x => exact zkG hρ h hr
 | buildSlice t n ps => exact za0 hρ h hr
 | makeSlice t x y => exact zbX hρ h hr
 | makeMap t x => exact zd4 (fr := fr) (ty := ty) h hr
 | range t x => exact zgE hρ h hr
 | call c =>
  have hcl : (match c.callee with
   | .builtin b => zfO b
   | _ => 3) = 2 := hcl
  cases hc : c.callee with
  | builtin b =>
   rw [hc] at hcl
   have hcl : zfO b = 2 := hcl
   cases b <;> cases hcl
  | value f => rw [hc] at hcl; cases hcl
  | invoke x n => rw [hc] at hcl; cases hcl
 | _ => cases hcl
def NewF (m : Mem) (r : OR) : Prop := ∃ v o, m.nx < 16384 ∧ r = .mem v (hset o m.hp m.nx) (m.nx + 1)
theorem NewF.ofO {o : xV} {v : AV} {r : OR} (h : zdv o v m = r) (hr : r ≠ .no) : NewF m r := let ⟨h1, h2⟩ := kX h hr; ⟨_, _, h1, h2⟩
theorem NewF.ofB {l : List AV} {v : AV} {r : OR} (h : zly l v m = r) (hr : r ≠ .no) : NewF m r := let ⟨_, _, h1, h2⟩ := ze3 h hr; ⟨_, _, h1, h2⟩
theorem NewF.ofS {l : List AV} {s c n : Nat} {r : OR} (h : zif l s c m n = r) (hr : r ≠ .no) : NewF m r := let ⟨_, h2⟩ := qb h hr; .ofB h2 hr
theorem zs7 {op : Op} {ty : Nat} {r : OR} (hcl : x8 op = 2) (h : yw op P ty fr m = r) (hr : r ≠ .no) : NewF m r := by
 cases op with
 | alloc t =>
  obtain ⟨_, _, h⟩ := zC h hr
  obtain ⟨_, _, h⟩ := zC h hr
  exact .ofO h hr
 | box t x => obtain ⟨_, _, h⟩ := zC h hr; exact .ofB h hr
 | buildSlice t n ps =>
  obtain ⟨e, _, hx⟩ := qU h hr
  obtain ⟨s, _, hy⟩ := zC hx hr
  cases hn0 : Nat.beq n 0 with
  | true =>
   rw [hn0] at hy
   have h0 : (match ps.toList with
    | [] => zif [] s 0 m 0
    | _ => .no) = r := hy
   cases hps : ps.toList with
   | nil => rw [hps] at h0; exact .ofS h0 hr
   | cons a l => rw [hps] at h0; exact absurd h0.symm hr
  | false =>
   rw [hn0] at hy
   change ob (jY P e) _ = _ at hy
   obtain ⟨_, _, h⟩ := zC hy hr
   obtain ⟨_, _, h⟩ := zC h hr
   obtain ⟨_, h⟩ := qb h hr
   obtain ⟨_, _, h⟩ := zC h hr
   exact .ofS h hr
 | makeSlice t x y =>
  obtain ⟨_, _, h⟩ := qU h hr
  obtain ⟨_, _, h⟩ := zC h hr
  obtain ⟨_, _, _, h⟩ := zaH h hr
  obtain ⟨_, _, _, h⟩ := zaH h hr
  obtain ⟨_, _, h⟩ := zC h hr
  obtain ⟨_, h⟩ := qb h hr
  exact .ofS h hr
 | makeMap t x =>
  cases x with
  | some y => exact absurd h.symm hr
  | none => exact .ofO h hr
 | range t x =>
  obtain ⟨_, _, h⟩ := zC h hr
  obtain ⟨_, _, h⟩ := zC h hr
  obtain ⟨_, h⟩ := qb h hr
  exact .ofO h hr
 | call c =>
  have hcl : (match c.callee with
   | .builtin b => zfO b
   | _ => 3) = 2 := hcl
  cases hc : c.callee with
  | builtin b =>
   rw [hc] at hcl
   have hcl : zfO b = 2 := hcl
   cases b <;> cases hcl
  | value f => rw [hc] at hcl; cases hcl
  | invoke x n => rw [hc] at hcl; cases hcl
 | _ => cases hcl
theorem zxS (op : Op) : x8 op = 0 ∨ x8 op = 1 ∨ x8 op = 2 ∨ x8 op = 3 := by
 cases op with
 | call c =>
  have e : x8 (.call c) = (match c.callee with
   | .builtin b => zfO b
   | _ => 3) := rfl
  rw [e]
  cases c.callee with
  | builtin b => cases b <;> simp [zfO]
  | value f => simp
  | invoke x n => simp
 | _ => simp [x8]
theorem zkj {op : Op} {ty : Nat} (hcl : x8 op = 1) (nx : Nat) (df : List AD) : yw op P ty fr ⟨m.hp, nx, df⟩ = yw op P ty fr m := by
 cases op with
 | load t x => rfl
 | lookup t x k ok => rfl
 | convert s t x => rfl
 | call c =>
  have hcl : (match c.callee with
   | .builtin b => zfO b
   | _ => 3) = 1 := hcl
  cases hc : c.callee with
  | builtin b =>
   rw [hc] at hcl
   have hcl : zfO b = 1 := hcl
   show zbH c ty P fr ⟨m.hp, nx, df⟩ c.callee = zbH c ty P fr m c.callee
   rw [hc]
   show (ob (zcK fr c.args.toList) fun xs => kR P b c.argTypes.toList ty _ xs ⟨m.hp, nx, df⟩) = ob (zcK fr c.args.toList) fun xs => kR P b c.argTypes.toList ty _ xs m
   congr 1
   funext xs
   cases b <;> first | cases hcl | skip
   all_goals (unfold kR; generalize c.argTypes.toList = ts; rcases ts with _ | ⟨t, _ | ⟨t', ts⟩⟩ <;> rcases xs with _ | ⟨x, _ | ⟨y, xs⟩⟩ <;> first | rfl | (cases x <;> rfl))
  | value f => rw [hc] at hcl; cases hcl
  | invoke x n => rw [hc] at hcl; cases hcl
 | _ => cases hcl
theorem RelW.sub (h : RelW O σ hp nx w) (hs : ∀ b o, hget hp' b = some o → hget hp b = some o) : RelW ⟨O.own, fun _ => none, O.V⟩ σ hp' nx w :=
 ⟨fun b o e hb => h.obj b o e (hs _ _ hb), fun b b' o o' e e' hb hb' => h.inj b b' o o' e e' (hs _ _ hb) (hs _ _ hb'), fun b o e hb => h.own b o e (hs _ _ hb), h.fresh, h.lt, h.new, h.glo, fun b o hb => by cases hb⟩
theorem RelW.later {L' : Nat → Option xV} (h : RelW O σ hp nx w) {o : xV} (hx : nx < 16384) (hL : ∀ b, L' b = if b = nx then some o else O.late b) : RelW ⟨O.own, L', O.V⟩ σ (hset o hp nx) (nx + 1) w := by
 have hn := h.fresh nx (Nat.le_refl _)
 have key : ∀ b o1 e, hget (hset o hp nx) b = some o1 → σ b = some e → hget hp b = some o1 := fun b o1 e hb hs => by
  have hne : b ≠ nx := by rintro rfl; rw [hn] at hs; cases hs
  rw [qg _ _ hx, if_neg hne] at hb
  exact hb
 refine ⟨fun b o1 e hb hs => h.obj b o1 e (key _ _ _ hb hs) hs, fun b b' o1 o2 e e' hb hb' a1 a2 s1 s2 => h.inj b b' o1 o2 e e' (key _ _ _ hb s1) (key _ _ _ hb' s2) a1 a2 s1 s2,
  fun b o1 e hb hm hs => h.own b o1 e (key _ _ _ hb hs) hm hs, fun b hb => h.fresh b (by omega), h.lt, h.new, h.glo, fun b o1 hb => ?_⟩
 have hb : L' b = some o1 := hb
 rw [hL] at hb
 by_cases hbn : b = nx
 ·subst hbn
  rw [if_pos rfl] at hb
  cases hb
  exact ⟨hn, Nat.lt_succ_self _, by rw [qg _ _ hx, if_pos rfl]⟩
 ·rw [if_neg hbn] at hb
  obtain ⟨l1, l2, l3⟩ := h.late b o1 hb
  exact ⟨l1, Nat.lt_succ_of_lt l2, by rw [qg _ _ hx, if_neg hbn]; exact l3⟩
end
end Go.Proofs.YtcapocmenjcnhaaGreatDoor.Ev
/-
  Drawn regions: where the evaluator is, and where the model is.
-/
namespace Go.Proofs.YtcapocmenjcnhaaGreatDoor.Ev
open Go.RowKit
abbrev Lam := Nat → Option (Option Nat × xV)
def zan (Λ : Lam) : Nat → Option xV := fun b => (Λ b).map (·.2)
def zn3 (P : Program) (N : Nat) (all : List Oper) (Λ : Lam) (i : Nat) (fr : Fra) (m : Mem) (o : Oper) : Prop :=
  (jy all o fr = some false ∧ (∀ d, o.dst = some d → qF fr d = some (.lit undef) ∧ d < N) ∧ jo o.op P fr = true) ∨
  (jy all o fr = some true ∧ ∃ v, (∀ d, o.dst = some d → qF fr d = some v ∧ d < N) ∧
    ((x8 o.op = 0 ∧ ∃ m0, yw o.op P o.type fr m0 = .val v) ∨
     (x8 o.op = 1 ∧ ∃ hp0, (∀ b o', hget hp0 b = some o' → hget m.hp b = some o') ∧ ∀ nx df, yw o.op P o.type fr ⟨hp0, nx, df⟩ = .val v) ∨
     (x8 o.op = 2 ∧ ∃ m0 hp nx ob, yw o.op P o.type fr m0 = .mem v hp nx ∧ hget hp m0.nx = some ob ∧ Λ m0.nx = some (some i, ob))))
structure DInv (O : Ow) (E : Env) (all : List Oper) (st : List Nat) (R : Out) (inL : Nat → Prop) (σ : Sg) (a : Act) (w : World) (Λ : Lam) (done rest : List Nat) (fr : Fra) (m : Mem) : Prop where
  order : st = done.reverse ++ rest
  eval : yJ E all done rest fr m = R
  sub : ∀ i, inL i → i ∈ done
  closed : ∀ i o, inL i → all[i]? = some o → ∀ j ∈ yD o, inL j
  size : E.N ≤ a.tmps.size
  fra : ∀ t v, qF fr t = some v → (∀ j ∈ done, ¬ inL j → vg all t j = false) → ∃ c, zP σ v = some c ∧ a.tmps[t]? = some c
  rel : RelW ⟨O.own, zan Λ, O.V⟩ σ m.hp m.nx w
  late : ∀ b o, O.late b = some o → Λ b = some (none, o)
  df : DfL σ a.defers m.df
  pend : ∀ i ∈ done, ¬ inL i → ∃ o, all[i]? = some o ∧ zn3 E.P E.N all Λ i fr m o
section
variable {O : Ow} {σ : Sg} {hp : Hp} {nx : Nat} {w : World} {Λ : Lam} {E : Env} {all : List Oper} {st : List Nat} {R : Out} {dn rest : List Nat} {inL : Nat → Prop} {a : Act} {fr : Fra} {m : Mem}
theorem RelW.fewer {L : Nat → Option xV} (h : RelW ⟨O.own, L, O.V⟩ σ hp nx w) (hl : ∀ b o, O.late b = some o → L b = some o) : RelW O σ hp nx w :=
  ⟨h.obj, h.inj, h.own, h.fresh, h.lt, h.new, h.glo, fun b o hb => h.late b o (hl b o hb)⟩
theorem Keep.own {L : Nat → Option xV} {w w' : World} (h : Keep ⟨O.own, L, O.V⟩ w w') : Keep O w w' := ⟨h.os, h.tape, h.output, h.size, h.block⟩
theorem DInv.done (h : DInv O E all st R inL σ a w Λ dn [] fr m) (hall : ∀ i ∈ dn, inL i) : R = .ok .normal fr m ∧ StR O σ E a w fr m :=
  ⟨h.eval.symm, ⟨⟨h.size, fun t v hv => h.fra t v hv fun j hj hn => absurd (hall j hj) hn⟩, h.rel.fewer fun b o hb => by show (Λ b).map _ = _; rw [h.late b o hb]; rfl, h.df⟩⟩
open Classical in
noncomputable def zfJ (all : List Oper) (done : List Nat) (inL : Nat → Prop) (fr : Fra) : Fra :=
  za6 fr ((done.filter fun j => decide (¬ inL j)).filterMap fun j => (all[j]?).bind (·.dst))
theorem ztx {all : List Oper} {done : List Nat} {inL : Nat → Prop} {fr : Fra} {t : Nat} (h : ∀ j ∈ done, ¬ inL j → vg all t j = false) : qF (zfJ all done inL fr) t = qF fr t := by
  unfold zfJ
  rw [zdF, if_neg]
  intro hm
  simp only [List.mem_filterMap, List.mem_filter, decide_eq_true_eq] at hm
  obtain ⟨j, ⟨h1, h2⟩, h3⟩ := hm
  have := h j h1 h2
  unfold vg at this
  cases ho : all[j]? with
  | none => rw [ho] at h3; cases h3
  | some o =>
    rw [ho] at h3 this
    have h3 : o.dst = some t := h3
    simp only [h3, Nat.beq_refl] at this
    cases this
theorem zsA {all : List Oper} {done : List Nat} {inL : Nat → Prop} {fr : Fra} {t : Nat} {v : AV} (h : qF (zfJ all done inL fr) t = some v) : qF fr t = some v ∧ ∀ j ∈ done, ¬ inL j → vg all t j = false := by
  unfold zfJ at h
  rw [zdF] at h
  split at h
  · cases h
  · rename_i hn
    refine ⟨h, fun j hj hl => ?_⟩
    cases hd : vg all t j with
    | false => rfl
    | true =>
      exfalso
      apply hn
      unfold vg at hd
      split at hd
      · rename_i o ho
        split at hd
        · rename_i d hd'
          have := Nat.eq_of_beq_eq_true hd
          subst this
          simp only [List.mem_filterMap, List.mem_filter, decide_eq_true_eq]
          exact ⟨j, ⟨hj, hl⟩, by rw [ho]; exact hd'⟩
        · cases hd
      · cases hd
theorem DInv.frR (h : DInv O E all st R inL σ a w Λ dn rest fr m) : FrR σ E.N (zfJ all dn inL fr) a.tmps :=
  ⟨h.size, fun t v hv => let ⟨h1, h2⟩ := zsA hv; h.fra t v h1 h2⟩
theorem zgz {all : List Oper} {done : List Nat} {inL : Nat → Prop} {fr : Fra} {i : Nat} {o : Oper} (hok : zid all (List.range all.length) i = true) (ho : all[i]? = some o) (he : ∀ j ∈ yD o, inL j) {t : Nat} (ht : t ∈ o.looksAt all.toArray) :
    qF (zfJ all done inL fr) t = qF fr t := by
  refine ztx fun j _ hl => ?_
  cases hd : vg all t j with
  | false => rfl
  | true =>
    exfalso
    have hj : j < all.length := by
      unfold vg at hd
      split at hd
      · rename_i o' ho'; exact (List.getElem?_eq_some_iff.1 ho').1
      · cases hd
    unfold zid at hok
    rw [ho] at hok
    obtain ⟨h1, _⟩ := zfL hok
    have h2 := jg.1 (jg.1 h1 t ht) j (by simpa using hj)
    rw [hd] at h2
    exact hl (he j (kg.1 h2))
theorem xB {all : Array Oper} {fr fr' : Fra} {o : Oper} (h : ∀ t ∈ o.looksAt all, qF fr' t = qF fr t) : ∀ x ∈ o.op.operands, opd fr' x = opd fr x := by
  intro x hx
  cases x with
  | tmp t => exact h t (List.mem_append_left _ (List.mem_filterMap.2 ⟨.tmp t, by simpa using hx, rfl⟩))
  | const v => rfl
  | global g => rfl
  | func f => rfl
theorem xo {all : List Oper} {fr fr' : Fra} {o : Oper} (h : ∀ t ∈ o.looksAt all.toArray, qF fr' t = qF fr t) : jy all o fr' = jy all o fr := by
  unfold jy
  cases hg : o.guard with
  | none => rfl
  | some g =>
    obtain ⟨j, b⟩ := g
    show zcw all fr' j b = zcw all fr j b
    unfold zcw
    cases hj : all[j]? with
    | none => rfl
    | some oj =>
      cases hd : oj.dst with
      | none => simp only [hd]
      | some d =>
        have : d ∈ o.looksAt all.toArray := by
          unfold Oper.looksAt
          refine List.mem_append_right _ ?_
          rw [hg]
          simp [hj, hd]
        simp only [hd, h d this]
end
end Go.Proofs.YtcapocmenjcnhaaGreatDoor.Ev
