/-
 A calculus for walking Go's code with frames as functions: rules for the forms of code, whatever the program.
-/
import Derived.WalkKit
import Derived.Orders
import Derived.Still
import Derived.RangeFuncNested
import Derived.RangeFuncLeaves
import Derived.TacticsIn
namespace Go.Proofs.YtihedfkcccaonaaGreatDoor
open Go.RowKit
theorem nQl {a b : Nat} (h : Nat.ble a b = true) : a ≤ b := Nat.le_of_ble_eq_true h
theorem nQe {a b : Nat} (h : Nat.beq a b = true) : a = b := Nat.eq_of_beq_eq_true h
theorem nQs {α : Type _} {a b : α} (h : some a = some b) : a = b := Option.some.inj h
theorem za8 {a b : Nat} (h : Nat.blt a b = true) : a < b := nQl h
abbrev Fr := Nat → Value
def upd (F : Fr) (d : Nat) (v : Value) : Fr := fun i => cond (Nat.beq i d) v (F i)
def qi (F : Fr) : List (Nat × Value) → Fr
 | [] => F
 | (d, v) :: l => fun i => cond (Nat.beq i d) v (qi F l i)
def zt6 (F : Fr) : List (Nat × Value) → Prop
 | [] => True
 | (d, v) :: l => F d = v ∧ zt6 F l
theorem zi (F : Fr) : ∀ (L : List (Nat × Value)), zt6 F L → F = qi F L
 | [], _ => rfl
 | (d, v) :: l, h => by
  funext i
  have ih := congrFun (zi F l h.2) i
  show F i = cond (Nat.beq i d) v (qi F l i)
  cases hb : Nat.beq i d with
  | false => exact ih
  | true =>
   have := nQe hb
   subst this
   exact h.1
def ev (F : Fr) : Operand → Value
 | .tmp t => F t
 | .const v => v
 | .global g => .pointer (some ⟨g, 0, none⟩)
 | .func f => .func (.func f) #[] #[]
def yO (a : Act) : Fr := fun t => a.tmps.getD t undef
theorem qT (a : Act) : a.eval = ev (yO a) := by funext x; cases x <;> rfl
theorem zib (a : Act) (d : Option Tmp) (v : Value) : (a.put d v).tmps.size = a.tmps.size := by cases d <;> simp [Act.put]
theorem zfm (a : Act) (d : Option Tmp) (v : Value) : (a.put d v).defers = a.defers := by cases d <;> rfl
theorem qY (a : Act) (d : Nat) (v : Value) (h : d < a.tmps.size) : yO (a.put (some d) v) = upd (yO a) d v := by
 funext i
 show (a.tmps.setIfInBounds d v).getD i undef = cond (Nat.beq i d) v (a.tmps.getD i undef)
 cases hb : Nat.beq i d with
 | true =>
  have := nQe hb
  subst this
  simp [h]
 | false =>
  have hne : d ≠ i := fun e => by subst e; simp at hb
  simp [Array.getElem?_setIfInBounds_ne hne]
structure Ctx where
 ro : Option Nat
 ex : Option Nat
 ba : Nat
 nm : Bool := false
 df : List Deferred := []
def FW (ρ : Option Nat) : Fence := { Fence.wide with round := ρ }
def zaJ : Obj → Bool
 | .deferred _ => true
 | .loop _ => true
 | _ => false
structure Keeps (X : Option Nat) (w w' : World) : Prop where
 size : w.heap.size ≤ w'.heap.size
 same : ∀ (D : Nat) (o : Obj), X ≠ some D → w.heap[D]? = some o → zaJ o = true → w'.heap[D]? = some o
theorem Keeps.refl {X : Option Nat} (w : World) : Keeps X w w := ⟨Nat.le_refl _, fun _ _ _ h _ => h⟩
theorem Keeps.trans {X : Option Nat} {a b c : World} (h : Keeps X a b) (k : Keeps X b c) : Keeps X a c :=
 ⟨Nat.le_trans h.size k.size, fun D o hX hD ho => k.same D o hX (h.same D o hX hD ho) ho⟩
theorem Keeps.drew {X : Option Nat} (w : World) : Keeps X w w.drew := ⟨Nat.le_refl _, fun _ _ _ h _ => h⟩
theorem Keeps.below {X : Option Nat} {w w' : World} (h : Below w.heap.size w w') : Keeps X w w' :=
 ⟨h.size, fun D o _ hD _ => by
  have hlt := (Array.getElem?_eq_some_iff.1 hD).1
  exact (h.block D hlt).trans hD⟩
theorem Keeps.alloc {X : Option Nat} (w : World) (o : Obj) : Keeps X w (w.alloc o) := .below ((Below.refl _ w).alloc (Nat.le_refl _) _)
structure Calm (κ : Ctx) (ds : List Deferred) (w : World) : Prop where
 each : ∀ d ∈ ds, d ∈ κ.df ∨ ∃ D, d = { target := .collected D, args := #[] } ∧ w.heap[D]? = some (.deferred (some [])) ∧ κ.ex ≠ some D ∧ κ.ba ≤ D
 apart : ds.Pairwise fun d e => d.target ≠ e.target
 none : κ.nm = true → ds = κ.df
theorem Calm.nil (κ : Ctx) (w : World) (hdf : κ.df = [] := by rfl) : Calm κ [] w := ⟨fun _ h => absurd h (by simp), List.Pairwise.nil, fun _ => hdf.symm⟩
theorem Calm.keep {κ : Ctx} {ds : List Deferred} {w w' : World} (h : Calm κ ds w) (hk : Keeps κ.ex w w') : Calm κ ds w' :=
 ⟨fun d hd => (h.each d hd).imp id fun ⟨D, h1, h2, h3, h4⟩ => ⟨D, h1, hk.same D _ h3 h2 rfl, h3, h4⟩, h.apart, h.none⟩
structure St (κ : Ctx) (N : Nat) (wI : World) (a : Act) (w : World) : Prop where
 size : a.tmps.size = N
 calm : Calm κ a.defers w
 keep : Keeps κ.ex wI w
 base : κ.ba ≤ w.heap.size
theorem St.put {κ : Ctx} {N : Nat} {wI : World} {a : Act} {w w' : World} (h : St κ N wI a w) (hk : Keeps κ.ex w w') (d : Option Tmp) (v : Value) : St κ N wI (a.put d v) w' :=
 ⟨by rw [zib]; exact h.size, by rw [zfm]; exact h.calm.keep hk, h.keep.trans hk, Nat.le_trans h.base hk.size⟩
theorem St.puts {κ : Ctx} {N : Nat} {wI : World} {a : Act} {w : World} (h : St κ N wI a w) (d : Option Tmp) (v : Value) : St κ N wI (a.put d v) w := h.put (.refl _) d v
theorem St.lt {κ : Ctx} {N : Nat} {wI : World} {a : Act} {w : World} {d : Nat} (h : St κ N wI a w) (hd : Nat.blt d N = true) : d < a.tmps.size := by rw [h.size]; exact za8 hd
theorem zl4 {ρ : Option Nat} {P : Program} {f : FuncId} {args : Array Value} {w : World} {R : Ending → World → Prop} (h : Calls P f args w R) : CallsIn (FW ρ) 0 P f args w R :=
 (callsIn_wide (n := 0)).2 h
theorem zf3 {ρ : Option Nat} {P : Program} {e : Operand → Value} {o : Oper} {w w' : World} {nx : Next} (hnd : ∀ d, nx ≠ .defer d) (h : (execOp e o).run P w = .ok nx w') : (o.semAt ρ e).run P w = .ok nx w' := by
 cases ρ with
 | none => rw [Oper.semAt_none]; exact h
 | some l =>
  rw [Oper.semAt_some l e o ?_]
  ·exact h
  ·intro c hc
   unfold execOp at h
   rw [hc] at h
   simp only [Sem.run_bind, Result.andThen] at h
   split at h
   ·simp only [Sem.run_pure, Result.ok.injEq] at h
    exact hnd _ h.1.symm
   ·cases h
structure Post where
 n : Fr → World → Prop
 r : Fr → World → Prop
 x : List (Nat × (Fr → World → Prop))
 p : List PanicEntry → Fr → World → Prop := fun _ _ _ => False
def zeU : List (Nat × (Fr → World → Prop)) → Nat → Option (Fr → World → Prop)
 | [], _ => none
 | (i, K) :: l, k => cond (Nat.beq i k) (some K) (zeU l k)
def Post.at_ (Q : Post) : Exit → Fr → World → Prop
 | .normal => Q.n
 | .ret => Q.r
 | .exit k => fun F w => ∃ K, zeU Q.x k = some K ∧ K F w
 | .panic c => Q.p c
 | _ => fun _ _ => False
def Post.act (κ : Ctx) (N : Nat) (wI : World) (Q : Post) : Exit → Act → World → Prop := fun e a w => St κ N wI a w ∧ Q.at_ e (yO a) w
def WC (κ : Ctx) (P : Program) (N : Nat) (c : Code) (Q : Post) (F : Fr) (w : World) : Prop :=
 ∀ (a : Act) (wI : World), St κ N wI a w → yO a = F → c.wpIn (FW κ.ro) 0 P (Q.act κ N wI) a w
section
variable {κ : Ctx} {P : Program} {N : Nat} {n r : Fr → World → Prop} {x : List (Nat × (Fr → World → Prop))} {p : List PanicEntry → Fr → World → Prop} {F : Fr} {w : World}
theorem Post.out {κ : Ctx} {N : Nat} {wI : World} {Q Q' : Post} (hq : ∀ e F w, Q.at_ e F w → Q'.at_ e F w) : ∀ e a w, Q.act κ N wI e a w → Q'.act κ N wI e a w := fun _ _ _ h => ⟨h.1, hq _ _ _ h.2⟩
theorem zhS {c : Code} {Q Q' : Post} (hq : ∀ e F w, Q.at_ e F w → Q'.at_ e F w) (h : WC κ P N c Q F w) : WC κ P N c Q' F w :=
 fun a wI h1 h2 => wpIn_mono (h a wI h1 h2) (Post.out hq)
theorem zd {c d : Code} (h : WC κ P N c ⟨WC κ P N d ⟨n, r, x, p⟩, r, x, p⟩ F w) : WC κ P N (.seq c d) ⟨n, r, x, p⟩ F w := by
 intro a wI h1 h2
 refine wpIn_seq (wpIn_mono (h a wI h1 h2) ?_)
 rintro e a' w' ⟨p1, p2⟩
 cases e with
 | normal => exact p2 a' wI p1 rfl
 | ret => exact ⟨p1, p2⟩
 | exit k => exact ⟨p1, p2⟩
 | goto l => exact p2.elim
 | panic c => exact ⟨p1, p2⟩
 | outgrown => exact p2.elim
theorem zp {id : Nat} {c : Code} (h : WC κ P N c ⟨n, r, (id, n) :: x, p⟩ F w) : WC κ P N (.block id c) ⟨n, r, x, p⟩ F w := by
 intro a wI h1 h2
 refine wpIn_block (wpIn_mono (h a wI h1 h2) ?_)
 rintro e a' w' ⟨p1, p3⟩
 cases e with
 | normal => exact ⟨p1, p3⟩
 | ret => exact ⟨p1, p3⟩
 | exit k =>
  obtain ⟨K, hK, hw⟩ := p3
  simp only [zeU] at hK
  by_cases hk : k = id
  ·subst hk
   simp only [Exit.inBlock, if_true]
   simp at hK
   subst hK
   exact ⟨p1, hw⟩
  ·simp only [Exit.inBlock, hk, if_false]
   have hb : Nat.beq id k = false := by
    cases hb : Nat.beq id k with
    | false => rfl
    | true => exact absurd (nQe hb).symm hk
   rw [hb] at hK
   exact ⟨p1, K, hK, hw⟩
 | goto l => exact p3.elim
 | panic c => exact ⟨p1, p3⟩
 | outgrown => exact p3.elim
theorem zW {id : Nat} {K : Fr → World → Prop} (hk : zeU x id = some K) (h : K F w) : WC κ P N (.exit id) ⟨n, r, x, p⟩ F w :=
 fun _ _ h1 h3 => wpIn_exit ⟨h1, K, hk, h3 ▸ h⟩
theorem zF (h : r F w) : WC κ P N .ret ⟨n, r, x, p⟩ F w := fun _ _ h1 h3 => wpIn_ret ⟨h1, h3 ▸ h⟩
theorem zq (h : n F w) : WC κ P N .skip ⟨n, r, x, p⟩ F w := fun _ _ h1 h3 => wpIn_skip ⟨h1, h3 ▸ h⟩
theorem zqF {l : Nat} (h : n F w) : WC κ P N (.label l) ⟨n, r, x, p⟩ F w := fun _ _ h1 h3 => wpIn_label ⟨h1, h3 ▸ h⟩
theorem zV {c : Operand} {A B : Code} {b : Bool} (hc : ev F c = .bool b) (ht : b = true → WC κ P N A ⟨n, r, x, p⟩ F w) (hf : b = false → WC κ P N B ⟨n, r, x, p⟩ F w) :
  WC κ P N (.cond c A B) ⟨n, r, x, p⟩ F w := by
 intro a wI h1 h3
 refine wpIn_cond (t := b) (by rw [qT, h3]; exact hc) ?_
 cases b with
 | true => exact ht rfl a wI h1 h3
 | false => exact hf rfl a wI h1 h3
theorem zQ {c : Operand} {A B : Code} (b : Bool) (hb : b = true) (hc : ev F c = .bool b) (h : WC κ P N A ⟨n, r, x, p⟩ F w) : WC κ P N (.cond c A B) ⟨n, r, x, p⟩ F w :=
 zV hc (fun _ => h) (fun h' => by rw [hb] at h'; cases h')
theorem zH {c : Operand} {A B : Code} (b : Bool) (hb : b = false) (hc : ev F c = .bool b) (h : WC κ P N B ⟨n, r, x, p⟩ F w) : WC κ P N (.cond c A B) ⟨n, r, x, p⟩ F w :=
 zV hc (fun h' => by rw [hb] at h'; cases h') (fun _ => h)
theorem zZ {c : Code} (J : Fr → World → Prop) (h : WC κ P N c ⟨J, r, x, p⟩ F w) (hJ : ∀ F w, J F w → n F w) : WC κ P N c ⟨n, r, x, p⟩ F w := by
 refine zhS ?_ h
 intro e F w he
 cases e with
 | normal => exact hJ _ _ he
 | ret => exact he
 | exit k => exact he
 | goto l => exact he
 | panic c => exact he
 | outgrown => exact he
def lpN {σ ρ : Type} (body : σ → Option (σ ⊕ ρ)) : Nat → σ → Option ρ
 | 0, _ => none
 | k + 1, s => match body s with
  | none => none
  | some (.inl s') => lpN body k s'
  | some (.inr q) => some q
end
open Classical in
noncomputable def lp {σ ρ : Type} (body : σ → Option (σ ⊕ ρ)) (s : σ) : Option ρ :=
 if h : ∃ k q, lpN body k s = some q then lpN body (Classical.choose h) s else none
theorem zeQ {σ ρ : Type} {body : σ → Option (σ ⊕ ρ)} {q : ρ} : ∀ {k k' : Nat} {s : σ}, k ≤ k' → lpN body k s = some q → lpN body k' s = some q
 | 0, _, _, _, h => by simp [lpN] at h
 | k + 1, 0, _, hk, _ => by omega
 | k + 1, k' + 1, s, hk, h => by
  simp only [lpN] at h ⊢
  cases hb : body s with
  | none => rw [hb] at h; cases h
  | some t =>
   rw [hb] at h
   cases t with
   | inl s' => exact zeQ (Nat.le_of_succ_le_succ hk) h
   | inr q' => exact h
theorem zd8 {σ ρ : Type} {body : σ → Option (σ ⊕ ρ)} {s : σ} {q : ρ} : lp body s = some q ↔ ∃ k, lpN body k s = some q := by
 constructor
 ·intro h
  unfold lp at h
  split at h
  ·exact ⟨_, h⟩
  ·cases h
 ·rintro ⟨k, hk⟩
  have hex : ∃ k q, lpN body k s = some q := ⟨k, q, hk⟩
  unfold lp
  rw [dif_pos hex]
  obtain ⟨q', hq'⟩ := Classical.choose_spec hex
  have h1 := zeQ (Nat.le_max_left k (Classical.choose hex)) hk
  have h2 := zeQ (Nat.le_max_right k (Classical.choose hex)) hq'
  rw [hq', ← h2, h1]
theorem yR {σ ρ : Type} (body : σ → Option (σ ⊕ ρ)) (s : σ) : lp body s = match body s with
  | none => none
  | some (.inl s') => lp body s'
  | some (.inr q) => some q := by
 apply Option.ext
 intro q
 rw [zd8]
 constructor
 ·rintro ⟨k, hk⟩
  cases k with
  | zero => simp [lpN] at hk
  | succ k =>
   simp only [lpN] at hk
   cases hb : body s with
   | none => rw [hb] at hk; cases hk
   | some t =>
    rw [hb] at hk
    cases t with
    | inl s' => exact zd8.2 ⟨k, hk⟩
    | inr q' => exact hk
 ·intro h
  cases hb : body s with
  | none => rw [hb] at h; cases h
  | some t =>
   rw [hb] at h
   cases t with
   | inl s' =>
    obtain ⟨k, hk⟩ := zd8.1 h
    exact ⟨k + 1, by simp only [lpN, hb]; exact hk⟩
   | inr q' => exact ⟨1, by simp only [lpN, hb]; exact h⟩
section
variable {κ : Ctx} {P : Program} {N : Nat} {n r : Fr → World → Prop} {x : List (Nat × (Fr → World → Prop))} {p : List PanicEntry → Fr → World → Prop} {F : Fr} {w : World}
theorem jq {σ ρ : Type} {body : σ → Option (σ ⊕ ρ)} {c : Code} {s : σ} {res : ρ} (hlp : lp body s = some res) (I : σ → Fr → World → Prop) (h0 : I s F w)
  (step : ∀ s F w t, I s F w → body s = some t → (∀ q, t = .inr q → q = res) → WC κ P N c ⟨fun F' w' => ∃ s', t = .inl s' ∧ I s' F' w', r, x, p⟩ F w) : WC κ P N (.loop c) ⟨n, r, x, p⟩ F w := by
 intro a wI h1 h3 b k cs hro hfn hroom
 obtain ⟨m, hm⟩ := zd8.1 hlp
 have key : ∀ (m : Nat) (s : σ) (a : Act) (w : World), lpN body m s = some res → St κ N wI a w → I s (yO a) w →
   ∃ e a' w', Post.act κ N wI ⟨n, r, x, p⟩ e a' w' ∧ ArrivesIn (Machine.fenced P (FW κ.ro)) P (lone (b.atR a (.code c :: .inLoop c :: k)) cs w) b k cs e a' w' := by
  intro m
  induction m with
  | zero => intro s a w hm; simp [lpN] at hm
  | succ m ih =>
   intro s a w hm h1 hI
   simp only [lpN] at hm
   cases hb : body s with
   | none => rw [hb] at hm; cases hm
   | some t =>
    rw [hb] at hm
    have hq : ∀ q, t = .inr q → q = res := by
     intro q hq
     subst hq
     exact nQs hm
    obtain ⟨e, a₁, w₁, ⟨p1, p3⟩, harr⟩ := step s (yO a) w t hI hb hq a wI h1 rfl b (.inLoop c :: k) cs hro hfn hroom
    cases e with
    | normal =>
     obtain ⟨s', rfl, hI'⟩ := p3
     obtain ⟨e₂, a₂, w₂, hq₂, harr₂⟩ := ih s' a₁ w₁ hm p1 hI'
     exact ⟨e₂, a₂, w₂, hq₂, .of_steps (StepsIn.trans harr (.one (fenced_calm hfn hroom rfl) stepR_inLoop)) harr₂⟩
    | exit id => exact ⟨.exit id, a₁, w₁, ⟨p1, p3⟩, .pass (x := .inLoop c) rfl (fun _ _ => .inl (by simp)) harr⟩
    | ret => exact ⟨.ret, a₁, w₁, ⟨p1, p3⟩, .pass (x := .inLoop c) rfl (fun _ _ => .inl (by simp)) harr⟩
    | goto l => exact p3.elim
    | panic ch => exact ⟨.panic ch, a₁, w₁, ⟨p1, p3⟩, .pass (x := .inLoop c) rfl (fun _ _ => .inl (by simp)) harr⟩
    | outgrown => exact p3.elim
 obtain ⟨e, a', w', hq, harr⟩ := key m s a w hm h1 (h3 ▸ h0)
 exact ⟨e, a', w', hq, .of_steps (.one (fenced_calm hfn hroom rfl) stepR_loop) harr⟩
def LQ (κ : Ctx) (N : Nat) (wI : World) (p : List PanicEntry → Fr → World → Prop) (K : Fr → World → Prop) : Exit → Act → World → Prop := fun e a w => St κ N wI a w ∧ match e with
 | .normal => K (yO a) w
 | .panic c => p c (yO a) w
 | _ => False
def WL (κ : Ctx) (P : Program) (N : Nat) (ops : Array Oper) (p : List PanicEntry → Fr → World → Prop) (K : Fr → World → Prop) (l : List Oper) (F : Fr) (w : World) : Prop :=
 ∀ (a : Act) (wI : World), St κ N wI a w → yO a = F → wpListIn (FW κ.ro) 0 P ops (LQ κ N wI p K) l a w
theorem zb {id : Nat} {l : List Oper} (h : WL κ P N l.toArray p n l F w) : WC κ P N (.region id l.toArray false) ⟨n, r, x, p⟩ F w := by
 intro a wI h1 h3
 refine wpIn_mono (wpIn_region_lit (h a wI h1 h3)) ?_
 rintro e a' w' ⟨p1, p3⟩
 cases e with
 | normal => exact ⟨p1, p3⟩
 | panic c => exact ⟨p1, p3⟩
 | ret => exact p3.elim
 | exit k => exact p3.elim
 | goto l => exact p3.elim
 | outgrown => exact p3.elim
variable {K : Fr → World → Prop} {ops : Array Oper} {l : List Oper}
theorem ze (h : K F w) : WL κ P N ops p K [] F w := fun _ _ h1 h3 => ⟨h1, h3 ▸ h⟩
theorem znJ {ρ : Option Nat} {Q : Exit → Act → World → Prop} {o : Oper} {a : Act} (hw : Region.wanted o (yielded ops a.tmps) = false) (h : wpListIn (FW ρ) 0 P ops Q l (a.put o.dst undef) w) : wpListIn (FW ρ) 0 P ops Q (o :: l) a w := by
 simp only [wpListIn, hw]
 exact ⟨fun _ _ => trivial, h⟩
theorem za {d : Nat} {op : Op} {ty : TypeId} {pos : String} {af : Array Edge} {v : Value}
  (hrun : (execOp (ev F) ⟨some d, op, ty, pos, af, none⟩).run P w = .ok (.value v) w) (hd : Nat.blt d N = true) (h : WL κ P N ops p K l (upd F d v) w) : WL κ P N ops p K (⟨some d, op, ty, pos, af, none⟩ :: l) F w := by
 intro a wI h1 h3
 refine wpListIn_plain rfl fun K' hK' => ⟨fun _ _ => trivial, ?_⟩
 rw [zf3 (ρ := (FW κ.ro).round) (w' := w) (nx := .value v) (fun _ h => by cases h) (by rw [qT, h3]; exact hrun)]
 refine hK' _ _ (h _ wI (h1.puts _ _) ?_)
 rw [← h3]; exact qY a d v (h1.lt hd)
theorem xE {a : Act} {j g : Nat} {b : Bool} (hj : (ops[j]?).bind (·.dst) = some g) (hg : yO a g = .bool b) (hlt : g < a.tmps.size) : yielded ops a.tmps j = some b := by
 unfold yielded
 rw [hj]
 have : a.tmps[g]? = some (.bool b) := by
  rw [Array.getElem?_eq_getElem hlt]
  have h2 : a.tmps.getD g undef = a.tmps[g] := by simp [Array.getD, hlt]
  rw [← h2]
  exact congrArg some hg
 simp [this]
theorem qd {d : Nat} {op : Op} {ty : TypeId} {pos : String} {af : Array Edge} {j g : Nat} {want : Bool} {b : Bool}
  (hj : (ops[j]?).bind (·.dst) = some g) (hb : b = !want) (hF : F g = .bool b) (hd : Nat.blt d N = true) (hg : Nat.blt g N = true) (h : WL κ P N ops p K l (upd F d undef) w) :
  WL κ P N ops p K (⟨some d, op, ty, pos, af, some (j, want)⟩ :: l) F w := by
 intro a wI h1 h3
 have hy := xE (a := a) hj (by rw [h3]; exact hF) (h1.lt hg)
 refine znJ (by simp [Region.wanted, hy, hb]) (h _ wI (h1.puts _ _) ?_)
 rw [← h3]; exact qY a d undef (h1.lt hd)
theorem zl {d : Option Nat} {op : Op} {ty : TypeId} {pos : String} {af : Array Edge} {j g : Nat} {want : Bool} {b : Bool}
  (hj : (ops[j]?).bind (·.dst) = some g) (hb : b = want) (hF : F g = .bool b) (hg : Nat.blt g N = true) (h : WL κ P N ops p K (⟨d, op, ty, pos, af, none⟩ :: l) F w) :
  WL κ P N ops p K (⟨d, op, ty, pos, af, some (j, want)⟩ :: l) F w := by
 intro a wI h1 h3
 have hy := xE (a := a) hj (by rw [h3]; exact hF) (h1.lt hg)
 have := h a wI h1 h3
 have hw : Region.wanted (⟨d, op, ty, pos, af, some (j, want)⟩ : Oper) (yielded ops a.tmps) = true := by simp [Region.wanted, hy, hb]
 have hw' : Region.wanted (⟨d, op, ty, pos, af, none⟩ : Oper) (yielded ops a.tmps) = true := rfl
 unfold wpListIn at this ⊢
 rw [if_pos hw'] at this
 rw [if_pos hw]
 exact ⟨fun _ _ => trivial, this.2⟩
end
abbrev Gm := Nat → Option Obj
def Gm.cell (G : Gm) (a : Addr) : Option Value :=
 match G a.block with
 | some (.cells c _ _) => if a.spot.isSome then none else c[a.off]?
 | _ => none
def Sat (G : Gm) (w : World) : Prop := ∀ b o, G b = some o → w.heap[b]? = some o
def Gle (G G' : Gm) : Prop := ∀ b o, G b = some o → G' b = some o
theorem Gle.refl (G : Gm) : Gle G G := fun _ _ h => h
theorem Gle.trans {G G' G'' : Gm} (h : Gle G G') (h' : Gle G' G'') : Gle G G'' := fun b o hb => h' b o (h b o hb)
theorem Gle.cell {G G' : Gm} (h : Gle G G') {a : Addr} {v : Value} (hc : G.cell a = some v) : G'.cell a = some v := by
 unfold Gm.cell at *
 cases hG : G a.block with
 | none => rw [hG] at hc; cases hc
 | some o => rw [hG] at hc; rw [h _ _ hG]; exact hc
theorem Sat.le {G G' : Gm} {w : World} (hs : Sat G' w) (h : Gle G G') : Sat G w := fun b o hb => hs b o (h b o hb)
theorem Sat.cell {G : Gm} {w : World} (hs : Sat G w) {a : Addr} {v : Value} (hc : G.cell a = some v) : w.cell? a = some v := by
 unfold Gm.cell at hc
 unfold World.cell?
 cases hG : G a.block with
 | none => rw [hG] at hc; cases hc
 | some o => rw [hG] at hc; rw [hs _ _ hG]; exact hc
theorem Sat.lt {G : Gm} {w : World} (hs : Sat G w) {b : Nat} {o : Obj} (h : G b = some o) : b < w.heap.size := (Array.getElem?_eq_some_iff.1 (hs b o h)).1
theorem Sat.below {G : Gm} {w w' : World} (hs : Sat G w) (hb : Below w.heap.size w w') : Sat G w' := fun b o h => by rw [hb.block b (hs.lt h)]; exact hs b o h
def ins (G : Gm) (b : Nat) (o : Obj) : Gm := fun i => if i = b then some o else G i
structure Grow (G : Gm) (w : World) (G' : Gm) (w' : World) : Prop where
 le : Gle G G'
 sat : Sat G' w'
 below : Below w.heap.size w w'
 old : ∀ b, b < w.heap.size → G' b = G b
 cells : ∀ b o, G' b = some o → w.heap.size ≤ b → zaJ o = false
theorem Sat.new {G : Gm} {w : World} (h : Sat G w) : ∀ b o, G b = some o → w.heap.size ≤ b → zaJ o = false := fun _ _ hb hl => absurd (h.lt hb) (Nat.not_lt.2 hl)
theorem Grow.refl {G : Gm} {w : World} (h : Sat G w) : Grow G w G w := ⟨Gle.refl G, h, Below.refl _ _, fun _ _ => rfl, h.new⟩
theorem Grow.trans {G G' G'' : Gm} {w w' w'' : World} (h : Grow G w G' w') (k : Grow G' w' G'' w'') : Grow G w G'' w'' :=
 ⟨h.le.trans k.le, k.sat, h.below.trans (k.below.mono h.below.size), fun b hb => (k.old b (Nat.lt_of_lt_of_le hb h.below.size)).trans (h.old b hb), fun b o hb hl => by
  rcases Nat.lt_or_ge b w'.heap.size with h' | h'
  ·exact h.cells b o ((k.old b h').symm.trans hb) hl
  ·exact k.cells b o hb h'⟩
theorem Grow.of_below {G : Gm} {w w' : World} (hs : Sat G w) (hb : Below w.heap.size w w') : Grow G w G w' := ⟨Gle.refl G, hs.below hb, hb, fun _ _ => rfl, hs.new⟩
theorem Grow.alloc {G : Gm} {w : World} (hs : Sat G w) (o : Obj) (ho : zaJ o = false) : Grow G w (ins G w.heap.size o) (w.alloc o) := by
 refine ⟨?_, ?_, (Below.refl _ w).alloc (Nat.le_refl _) o, ?_, ?_⟩
 ·intro b o' hb
  unfold ins
  rw [if_neg (Nat.ne_of_lt (hs.lt hb))]
  exact hb
 ·intro b o' hb
  unfold ins at hb
  by_cases h : b = w.heap.size
  ·rw [if_pos h] at hb
   cases hb
   subst h
   exact Go.heap_alloc_new w o
  ·rw [if_neg h] at hb
   rw [Below.heap_alloc w o b (hs.lt hb)]
   exact hs _ _ hb
 ·intro b hb
  unfold ins
  rw [if_neg (Nat.ne_of_lt hb)]
 ·intro b o' hb hl
  unfold ins at hb
  split at hb
  ·cases hb; exact ho
  ·exact absurd (hs.lt hb) (Nat.not_lt.2 hl)
def Cells (G : Gm) (b off : Nat) (cs : List Value) : Prop := ∀ j v, cs[j]? = some v → G.cell ⟨b, off + j, none⟩ = some v
theorem Cells.mono {G G' : Gm} {b off : Nat} {cs : List Value} (h : Cells G b off cs) (hle : Gle G G') : Cells G' b off cs := fun j v hj => hle.cell (h j v hj)
theorem Cells.sub {G : Gm} {b off : Nat} {cs : List Value} (h : Cells G b off cs) (k : Nat) {cs' : List Value} (hc : ∀ j v, cs'[j]? = some v → cs[k + j]? = some v) : Cells G b (off + k) cs' := fun j v hj => by
 have := h (k + j) v (hc j v hj)
 rwa [← Nat.add_assoc] at this
theorem Cells.drop_take {G : Gm} {b off : Nat} {cs : List Value} (h : Cells G b off cs) (k m : Nat) : Cells G b (off + k) ((cs.drop k).take m) := h.sub k fun j v hj => by
 rw [List.getElem?_take] at hj
 split at hj
 ·rw [List.getElem?_drop] at hj; exact hj
 ·cases hj
theorem Cells.of_block {G : Gm} {b : Nat} {cs : List Value} {e : TypeId} {fz : Nat × Nat} (h : G b = some (.cells cs.toArray e fz)) : Cells G b 0 cs := fun j v hj => by
 unfold Gm.cell
 simp only [h]
 simpa using hj
def ix {α : Type} (xs : List α) (i : Int) : Option α := if 0 ≤ i then xs[i.toNat]? else none
theorem zhv {α : Type} {xs : List α} {i : Int} {y : α} (h : ix xs i = some y) : 0 ≤ i ∧ i.toNat < xs.length ∧ xs[i.toNat]? = some y := by
 unfold ix at h
 split at h
 ·rename_i h0
  exact ⟨h0, (List.getElem?_eq_some_iff.1 h).1, h⟩
 ·cases h
def RSl {α : Type} (R : Gm → List Value → α → Prop) (sz : Nat) (G : Gm) (ad : Option Addr) (len cap : Nat) (xs : List α) : Prop :=
 len = xs.length ∧ (len ≤ maxLen ∧ len ≤ cap) ∧ ∀ i x, xs[i]? = some x → ∃ b off cs, ad = some ⟨b, off, none⟩ ∧ Cells G b (off + i * sz) cs ∧ cs.length = sz ∧ R G cs x
def zam {α : Type} (R : Gm → List Value → α → Prop) : Prop := ∀ G G' cs x, Gle G G' → R G cs x → R G' cs x
theorem RSl.mono {α : Type} {R : Gm → List Value → α → Prop} {sz : Nat} {G G' : Gm} {ad : Option Addr} {len cap : Nat} {xs : List α} (hR : zam R) (h : RSl R sz G ad len cap xs) (hle : Gle G G') : RSl R sz G' ad len cap xs :=
 ⟨h.1, h.2.1, fun i x hx => let ⟨b, off, cs, h1, h2, h3, h4⟩ := h.2.2 i x hx; ⟨b, off, cs, h1, h2.mono hle, h3, hR _ _ _ _ hle h4⟩⟩
theorem RSl.nil {α : Type} (R : Gm → List Value → α → Prop) (sz : Nat) (G : Gm) (ad : Option Addr) {cap : Nat} : RSl R sz G ad 0 cap [] := ⟨rfl, ⟨Nat.zero_le _, Nat.zero_le _⟩, fun i x h => by simp at h⟩
def yD : Gm → List Value → Int → Prop := fun _ cs x => cs = [.int .i64 x]
theorem zT : zam yD := fun _ _ _ _ _ h => h
def zy6 : Gm → List Value → Bool → Prop := fun _ cs x => cs = [.bool x]
def zwV {α : Type} (R : Gm → List Value → α → Prop) (sz : Nat) : Gm → List Value → List α → Prop := fun G cs xs => ∃ ad len cap, cs = [.slice ad len cap] ∧ RSl R sz G ad len cap xs
def qx (P : Program) (S k : Nat) : Option Nat :=
 match P.underlying S with
 | some (.struct fs) => match fs[k]? with
  | some f => match P.info? f.type with
   | some i => if i.size = 0 then none else some f.offset
   | none => none
  | none => none
 | _ => none
def naB (P : Program) (T : Nat) : Bool :=
 match P.underlying T with
 | some (.struct _) | some (.array _ _) | none => false
 | _ => true
def agB (P : Program) (T : Nat) : Option Nat :=
 match P.underlying T with
 | some (.struct _) | some (.array _ _) => (P.info? T).map (·.size)
 | _ => none
def slB (P : Program) (T : Nat) : Option (Nat × Nat × Nat) :=
 match P.underlying T with
 | some (.slice e) => match P.info? e with
  | some i => match i.zero with
   | some z => if z.cells.size = i.size ∧ 0 < i.size then some (e, i.size, i.bytes) else none
   | none => none
  | none => none
 | _ => none
def zJ (P : Program) (k : Nat) : Bool :=
 match P.funcs[k]? with
 | some fn => !(fn.name == "runtime.NumGoroutine") && fn.body.isSome
 | none => false
theorem kG {P : Program} {T e sz bytes : Nat} (h : slB P T = some (e, sz, bytes)) : P.underlying T = some (.slice e) ∧ ∃ i z, P.info? e = some i ∧ i.zero = some z ∧ i.size = sz ∧ i.bytes = bytes ∧ z.cells.size = sz ∧ 0 < sz := by
 unfold slB at h
 split at h
 ·rename_i e' hu
  split at h
  ·rename_i i hi
   split at h
   ·rename_i z hz
    split at h
    ·rename_i hc
     simp only [Option.some.injEq, Prod.mk.injEq] at h
     obtain ⟨rfl, rfl, rfl⟩ := h
     exact ⟨hu, i, z, hi, hz, rfl, rfl, hc.1, hc.2⟩
    ·cases h
   ·cases h
  ·cases h
 ·cases h
def qW (w : World) (v : Value) : Ending → World → Prop := fun e w' => e = .returned v ∧ Below w.heap.size w w'
def yL (G : Gm) (w : World) (Φ : Gm → Value → Prop) : Ending → World → Prop := fun e w' => ∃ v G', e = .returned v ∧ Grow G w G' w' ∧ Φ G' v
def kJ : List Value → Nat → Value
 | [], _ => undef
 | v :: _, 0 => v
 | _ :: l, i + 1 => kJ l i
theorem jC (al : List Value) (m : Nat) (ds : List Deferred) : yO ⟨al.toArray ++ Array.replicate m undef, ds⟩ = kJ al := by
 funext i
 show (al.toArray ++ Array.replicate m undef).getD i undef = kJ al i
 rw [Array.getD_eq_getD_getElem?, ← Array.getElem?_toList]
 simp only [Array.toList_append, Array.toList_replicate]
 induction al generalizing i with
 | nil =>
  simp only [List.nil_append, kJ, List.getElem?_replicate]
  split <;> rfl
 | cons v al ih =>
  cases i with
  | zero => simp [kJ]
  | succ i => simpa [kJ] using ih i
structure Shut (B : Nat) (w w' : World) : Prop where
 os : w'.os = w.os
 tape : w'.tape = w.tape
 output : w'.output = w.output
 size : w'.heap.size = w.heap.size
 low : ∀ (k : Nat), k < B → w'.heap[k]? = w.heap[k]?
 block : ∀ (k : Nat) (o : Obj), w.heap[k]? = some o → zaJ o = false → w'.heap[k]? = some o
theorem Shut.refl (B : Nat) (w : World) : Shut B w w := ⟨rfl, rfl, rfl, rfl, fun _ _ => rfl, fun _ _ h _ => h⟩
theorem Shut.trans {B : Nat} {a b c : World} (h : Shut B a b) (k : Shut B b c) : Shut B a c :=
 ⟨k.os.trans h.os, k.tape.trans h.tape, k.output.trans h.output, k.size.trans h.size, fun i hi => (k.low i hi).trans (h.low i hi), fun i o h1 h2 => k.block i o (h.block i o h1 h2) h2⟩
theorem Shut.one {B D : Nat} {w : World} {x : Option (List Deferred)} (hB : B ≤ D) (hD : w.heap[D]? = some (.deferred x)) (y : Option (List Deferred)) : Shut B w (w.putObj D (.deferred y)) :=
 ⟨rfl, rfl, rfl, by simp [World.putObj], fun k hk => World.putObj_heap_other (by omega), fun k o hk ho => by
  have hne : k ≠ D := by intro e; subst e; rw [hD] at hk; cases hk; cases ho
  rw [World.putObj_heap_other hne]; exact hk⟩
theorem Shut.cell {B : Nat} {w w' : World} (h : Shut B w w') {a : Addr} {v : Value} (hc : w.cell? a = some v) : w'.cell? a = some v := by
 unfold World.cell? at hc ⊢
 cases ho : w.heap[a.block]? with
 | none => rw [ho] at hc; cases hc
 | some o =>
  rw [ho] at hc
  have hf : zaJ o = false := by cases o <;> first | rfl | cases hc
  rw [h.block _ _ ho hf]
  exact hc
structure zdv (B : Nat) (R : Ending → World → Prop) : Prop where
 out : ∀ e w w', R e w → Shut B w w' → R e w'
theorem yd (w0 : World) (v : Value) : zdv w0.heap.size (qW w0 v) :=
 ⟨fun _ _ _ h hs => ⟨h.1, ⟨hs.os.trans h.2.os, hs.tape.trans h.2.tape, hs.output.trans h.2.output, by rw [hs.size]; exact h.2.size, fun k hk => (hs.low k hk).trans (h.2.block k hk)⟩⟩⟩
theorem xZ (G0 : Gm) (w0 : World) (Φ : Gm → Value → Prop) : zdv w0.heap.size (yL G0 w0 Φ) :=
 ⟨fun _ w w' ⟨v, G', h1, h2, h3⟩ hs => ⟨v, G', h1, ⟨h2.le, fun b o hb => by
   have h := h2.sat b o hb
   rcases Nat.lt_or_ge b w0.heap.size with h' | h'
   ·exact (hs.low b h').trans h
   ·exact hs.block b o h (h2.cells b o hb h'), ⟨hs.os.trans h2.below.os, hs.tape.trans h2.below.tape, hs.output.trans h2.below.output, by rw [hs.size]; exact h2.below.size, fun k hk => (hs.low k hk).trans (h2.below.block k hk)⟩, h2.old, h2.cells⟩, h3⟩⟩
theorem xG {P : Program} {fn : Func} {tmps : Array Value} {R : Ending → World → Prop} {κ : Ctx} (hdf : κ.df = []) : ∀ (ds : List Deferred) (w : World), Calm κ ds w → (∀ w', Shut κ.ba w w' → ∃ v, (results fn tmps).run P w' = .ok v w' ∧ R (.returned v) w') → LeavesInM Fence.wide 0 P fn tmps R ds .returning w
 | [], w, _, h => h w (Shut.refl _ _)
 | d :: ds, w, hc, h => by
  obtain ⟨D, hd, hD, _, hB⟩ := (hc.each d (by simp)).resolve_left (by rw [hdf]; simp)
  refine ⟨by simp, .inl ⟨D, w.putObj D (.deferred none), by rw [hd], run_takeDeferred hD, ?_⟩⟩
  have hp := List.pairwise_cons.1 hc.apart
  refine xG hdf ds _ ⟨fun e he => .inr ?_, hp.2, fun h => absurd (hc.none h) (by rw [hdf]; simp)⟩ fun w' hw' => h w' ((Shut.one hB hD none).trans hw')
  obtain ⟨E, h1, h2, h3, h4⟩ := (hc.each e (by simp [he])).resolve_left (by rw [hdf]; simp)
  have hne : E ≠ D := by intro e'; subst e'; exact hp.1 e he (by rw [hd, h1])
  exact ⟨E, h1, (World.putObj_heap_other hne).trans h2, h3, h4⟩
section
variable {κ : Ctx} {p : List PanicEntry → Fr → World → Prop} {P : Program} {N : Nat} {F : Fr} {w : World}
theorem zku {f : FuncId} {fn : Func} {c : Code} {al : List Value} {R : Ending → World → Prop} {N : Nat} (S : Fr → World → Prop) (hf : P.funcs[f]? = some fn) (hb : fn.body = some c) (hn : fn.ntmps = N) (hN : Nat.ble al.length N = true)
  (hS : ∀ (tmps : Array Value) w' w'', S (fun t => tmps.getD t undef) w' → Shut w.heap.size w' w'' → ∃ v, (results fn tmps).run P w'' = .ok v w'' ∧ R (.returned v) w'')
  (h : WC ⟨none, none, w.heap.size, false, []⟩ P N c ⟨S, S, [], fun _ _ _ => False⟩ (kJ al) w) : Calls P f al.toArray w R := by
 have hle := nQl hN
 have h0 : CallsIn Fence.wide 0 P f al.toArray w R := by
  refine callsIn_of_wp_marks hf hb trivial (wpIn_mono (h _ w ⟨?_, Calm.nil _ _, Keeps.refl _, Nat.le_refl _⟩ ?_) ?_)
  ·simp [hn]; omega
  ·exact jC al _ _
  ·rintro e a' w' ⟨p1, p3⟩
   cases e with
   | normal => exact xG rfl _ _ p1.calm fun w'' hw => hS _ _ _ p3 hw
   | ret => exact xG rfl _ _ p1.calm fun w'' hw => hS _ _ _ p3 hw
   | exit k => obtain ⟨K, hK, _⟩ := p3; cases hK
   | goto l => exact p3.elim
   | panic c => exact p3.elim
   | outgrown => exact p3.elim
 exact callsIn_wide.1 h0
variable {f : FuncId} {fn : Func} {c : Code} {al : List Value} {R : Ending → World → Prop}
theorem qb {t N : Nat} (hR : zdv w.heap.size R) (hf : P.funcs[f]? = some fn) (hb : fn.body = some c) (hr : fn.results = #[.tmp t]) (hn : fn.ntmps = N) (hN : Nat.ble al.length N = true)
  (h : WC ⟨none, none, w.heap.size, false, []⟩ P N c ⟨fun F w' => R (.returned (F t)) w', fun F w' => R (.returned (F t)) w', [], fun _ _ _ => False⟩ (kJ al) w) : Calls P f al.toArray w R :=
 zku _ hf hb hn hN (fun _ _ _ h1 h2 => ⟨_, results_tmp hr _ _ _, hR.out _ _ _ h1 h2⟩) h
theorem zww {t u N : Nat} (hR : zdv w.heap.size R) (hf : P.funcs[f]? = some fn) (hb : fn.body = some c) (hr : fn.results = #[.tmp t, .tmp u]) (hn : fn.ntmps = N) (hN : Nat.ble al.length N = true)
  (h : WC ⟨none, none, w.heap.size, false, []⟩ P N c ⟨fun F w' => R (.returned (.tuple #[F t, F u])) w', fun F w' => R (.returned (.tuple #[F t, F u])) w', [], fun _ _ _ => False⟩ (kJ al) w) : Calls P f al.toArray w R :=
 zku _ hf hb hn hN (fun _ _ _ h1 h2 => ⟨_, results_tmp2 hr _ _ _, hR.out _ _ _ h1 h2⟩) h
variable {d : Option Nat} {ty : TypeId} {pos : String} {af : Array Edge} {gd : Option (Nat × Bool)}
theorem zc {x : Operand} {v : Value} (hx : ev F x = v) : (execOp (ev F) ⟨d, .move x, ty, pos, af, gd⟩).run P w = .ok (.value v) w := by simp [execOp, hx]
theorem zf {x : Operand} {v : Value} (hx : ev F x = v) : (execOp (ev F) ⟨d, .assign x, ty, pos, af, gd⟩).run P w = .ok (.value v) w := by simp [execOp, hx]
theorem yy {c a b : Operand} {t : Bool} {v : Value} (hc : ev F c = .bool t) (ht : t = true) (ha : ev F a = v) : (execOp (ev F) ⟨d, .pick c a b, ty, pos, af, gd⟩).run P w = .ok (.value v) w := by simp [execOp, hc, ht, ha, asBool]
theorem xc {c a b : Operand} {t : Bool} {v : Value} (hc : ev F c = .bool t) (ht : t = false) (hb : ev F b = v) : (execOp (ev F) ⟨d, .pick c a b, ty, pos, af, gd⟩).run P w = .ok (.value v) w := by simp [execOp, hc, ht, hb, asBool]
theorem qE {t : TypeId} {x : Operand} {b : Bool} (hx : ev F x = .bool b) : (execOp (ev F) ⟨d, .unOp .not t x, ty, pos, af, gd⟩).run P w = .ok (.value (.bool (!b))) w := by simp [execOp, hx, Op.unary]
theorem zuk {t : TypeId} {x : Operand} {k : IntKind} {n : Int} (hx : ev F x = .int k n) : (execOp (ev F) ⟨d, .unOp .neg t x, ty, pos, af, gd⟩).run P w = .ok (.value (.int k (k.wrap (0 - n)))) w := by simp [execOp, hx, Op.unary, Op.intArith]
section
variable {t u : TypeId} {x y : Operand} {k : IntKind} {m n : Int}
theorem jz (hx : ev F x = .int k m) (hy : ev F y = .int k n) : (execOp (ev F) ⟨d, .binOp .add t x y u, ty, pos, af, gd⟩).run P w = .ok (.value (.int k (k.wrap (m + n)))) w := by simp [execOp, hx, hy, eqGuard, binOp, Op.intArith]
theorem vd (hx : ev F x = .int k m) (hy : ev F y = .int k n) : (execOp (ev F) ⟨d, .binOp .sub t x y u, ty, pos, af, gd⟩).run P w = .ok (.value (.int k (k.wrap (m - n)))) w := by simp [execOp, hx, hy, eqGuard, binOp, Op.intArith]
theorem vH (hx : ev F x = .int k m) (hy : ev F y = .int k n) : (execOp (ev F) ⟨d, .binOp .mul t x y u, ty, pos, af, gd⟩).run P w = .ok (.value (.int k (k.wrap (m * n)))) w := by simp [execOp, hx, hy, eqGuard, binOp, Op.intArith]
theorem zjQ (hx : ev F x = .int k m) (hy : ev F y = .int k n) (hn : n ≠ 0) : (execOp (ev F) ⟨d, .binOp .quo t x y u, ty, pos, af, gd⟩).run P w = .ok (.value (.int k (k.wrap (m.tdiv n)))) w := by simp [execOp, hx, hy, eqGuard, binOp, Op.intDiv, hn]
theorem zuj (hx : ev F x = .int k m) (hy : ev F y = .int k n) (hn : n ≠ 0) : (execOp (ev F) ⟨d, .binOp .rem t x y u, ty, pos, af, gd⟩).run P w = .ok (.value (.int k (m.tmod n))) w := by simp [execOp, hx, hy, eqGuard, binOp, Op.intDiv, hn]
theorem zN (hx : ev F x = .int k m) (hy : ev F y = .int k n) : (execOp (ev F) ⟨d, .binOp .lss t x y u, ty, pos, af, gd⟩).run P w = .ok (.value (.bool (decide (m < n)))) w := by simp [execOp, hx, hy, eqGuard, binOp, Op.intCmp]
theorem yW (hx : ev F x = .int k m) (hy : ev F y = .int k n) : (execOp (ev F) ⟨d, .binOp .leq t x y u, ty, pos, af, gd⟩).run P w = .ok (.value (.bool (decide (m ≤ n)))) w := by simp [execOp, hx, hy, eqGuard, binOp, Op.intCmp]
theorem ve (hx : ev F x = .int k m) (hy : ev F y = .int k n) : (execOp (ev F) ⟨d, .binOp .gtr t x y u, ty, pos, af, gd⟩).run P w = .ok (.value (.bool (decide (n < m)))) w := by simp [execOp, hx, hy, eqGuard, binOp, Op.intCmp]
theorem zha (hx : ev F x = .int k m) (hy : ev F y = .int k n) : (execOp (ev F) ⟨d, .binOp .geq t x y u, ty, pos, af, gd⟩).run P w = .ok (.value (.bool (decide (n ≤ m)))) w := by simp [execOp, hx, hy, eqGuard, binOp, Op.intCmp]
theorem xu (hx : ev F x = .int k m) (hy : ev F y = .int k n) : (execOp (ev F) ⟨d, .binOp .eql t x y u, ty, pos, af, gd⟩).run P w = .ok (.value (.bool (m == n))) w := by simp [execOp, hx, hy, eqGuard, binOp, Op.intCmp]
theorem jy (hx : ev F x = .int k m) (hy : ev F y = .int k n) : (execOp (ev F) ⟨d, .binOp .neq t x y u, ty, pos, af, gd⟩).run P w = .ok (.value (.bool (m != n))) w := by simp [execOp, hx, hy, eqGuard, binOp, Op.intCmp]
end
theorem zL {x : Operand} {i : Nat} {vs : Array Value} {v : Value} (hx : ev F x = .tuple vs) (hv : vs.toList[i]? = some v) : (execOp (ev F) ⟨d, .extract x i, ty, pos, af, gd⟩).run P w = .ok (.value v) w := by
 have : vs[i]? = some v := by simpa using hv
 simp [execOp, hx, Instr.extract, this]
theorem ji {T e : TypeId} {sz bytes : Nat} {x : Operand} {ats : Array TypeId} {ad : Option Addr} {n m cap : Nat} (hT : slB P T = some (e, sz, bytes)) (ha : ats.toList[0]? = some T) (hx : ev F x = .slice ad n cap) (hm : n = m) :
  (execOp (ev F) ⟨d, .call { callee := .builtin .len, args := #[x], argTypes := ats }, ty, pos, af, gd⟩).run P w = .ok (.value (.int .i64 (m : Int))) w := by
 subst hm
 have h1 := (kG hT).1
 have h2 : ats[0]? = some T := by simpa using ha
 simp [execOp, hx, resolve, invoke, builtin, Builtin.len_, h2, run_underlying h1, goInt]
theorem zmN {S k o : Nat} (h : qx P S k = some o) : ∃ fs f i, P.underlying S = some (.struct fs) ∧ fs[k]? = some f ∧ f.offset = o ∧ P.info? f.type = some i ∧ i.size ≠ 0 := by
 unfold qx at h
 split at h
 ·rename_i fs hu
  split at h
  ·rename_i f hf
   split at h
   ·rename_i i hi
    split at h
    ·cases h
    ·rename_i hz
     exact ⟨fs, f, i, hu, hf, nQs h, hi, hz⟩
   ·cases h
  ·cases h
 ·cases h
theorem xf (b off k : Nat) : (⟨b, off, none⟩ : Addr).add k = ⟨b, off + k, none⟩ := by
 unfold Addr.add
 split
 ·rename_i h; subst h; rfl
 ·rfl
theorem zk {S k o : Nat} {x : Operand} {b off : Nat} (hS : qx P S k = some o) (hx : ev F x = .pointer (some ⟨b, off, none⟩)) :
  (execOp (ev F) ⟨d, .fieldAddr S x k, ty, pos, af, gd⟩).run P w = .ok (.value (.pointer (some ⟨b, off + o, none⟩))) w := by
 obtain ⟨fs, f, i, h1, h2, h3, h4, h5⟩ := zmN hS
 simp [execOp, hx, Instr.fieldAt, run_underlying h1, h2, Instr.sureAddr, fieldPlace, sizeOf, typeInfo, h4, h5, h3, xf]
theorem zim {T : Nat} (h : naB P T = true) : (isAgg T).run P w = .ok false w := by
 unfold naB at h
 cases ho : P.underlying T with
 | none => rw [ho] at h; cases h
 | some dsc =>
  rw [ho] at h
  unfold isAgg
  rw [Sem.run_bind, run_underlying ho]
  cases dsc <;> first | rfl | cases h
theorem zo {T : Nat} {x : Operand} {a : Addr} {v : Value} (hT : naB P T = true) (hx : ev F x = .pointer (some a)) (hc : w.cell? a = some v) :
  (execOp (ev F) ⟨d, .load T x, ty, pos, af, gd⟩).run P w = .ok (.value v) w := by
 simp [execOp, hx, Instr.loadAt, Instr.sureAddr, loadVar, zim hT, load, Sem.run, hc]
theorem zcR {T n : Nat} (h : agB P T = some n) : (isAgg T).run P w = .ok true w ∧ (sizeOf T).run P w = .ok n w := by
 unfold agB at h
 split at h
 ·rename_i hu
  obtain ⟨i, hi, rfl⟩ := Option.map_eq_some_iff.1 h
  exact ⟨by simp [isAgg, run_underlying hu], by simp [sizeOf, typeInfo, hi]⟩
 ·rename_i hu
  obtain ⟨i, hi, rfl⟩ := Option.map_eq_some_iff.1 h
  exact ⟨by simp [isAgg, run_underlying hu], by simp [sizeOf, typeInfo, hi]⟩
 ·cases h
theorem zu {T n : Nat} {x : Operand} {b off : Nat} {cs : List Value} (hT : agB P T = some n) (hx : ev F x = .pointer (some ⟨b, off, none⟩)) (hl : cs.length = n) (hc : ∀ j v, cs[j]? = some v → w.cell? ⟨b, off + j, none⟩ = some v) :
  (execOp (ev F) ⟨d, .load T x, ty, pos, af, gd⟩).run P w = .ok (.value (.agg cs.toArray)) w := by
 have h2 : (loadCells ⟨b, off, none⟩ n).run P w = .ok cs.toArray w := by
  subst hl
  exact run_loadCells_list (P := P) w ⟨b, off, none⟩ cs (fun j v hj => by rw [xf]; exact hc j v hj)
 simp [execOp, hx, Instr.loadAt, Instr.sureAddr, loadVar, (zcR (P := P) (w := w) hT).1, (zcR (P := P) (w := w) hT).2, h2]
theorem zjR {α : Type} {R : Gm → List Value → α → Prop} {G : Gm} {T e sz bytes : Nat} {X I : Operand} {ad : Option Addr} {len cap : Nat} {xs : List α} {k : IntKind} {i : Int} {y : α}
  (hT : slB P T = some (e, sz, bytes)) (hs : RSl R sz G ad len cap xs) (hx : ev F X = .slice ad len cap) (hi : ev F I = .int k i) (hix : ix xs i = some y) :
  ∃ b off cs, (∀ w, (execOp (ev F) ⟨d, .indexAddr T X I, ty, pos, af, gd⟩).run P w = .ok (.value (.pointer (some ⟨b, off, none⟩))) w) ∧ Cells G b off cs ∧ cs.length = sz ∧ R G cs y := by
 obtain ⟨hu, inf, z, h1, h2, h3, h4, h5, h6⟩ := kG hT
 obtain ⟨p1, p2, p3⟩ := zhv hix
 obtain ⟨b, off, cs, q1, q2, q3, q4⟩ := hs.2.2 _ _ p3
 refine ⟨b, off + i.toNat * sz, cs, fun w => ?_, q2, q3, q4⟩
 have hlt : i < (len : Int) := by rw [hs.1]; omega
 simp [execOp, hx, hi, Instr.indexAt, asIntOf, run_underlying hu, q1, p1, hlt, sizeOf, typeInfo, h1, h3, xf]
variable {ops : Array Oper} {K : Fr → World → Prop} {l : List Oper}
theorem zb0 {α : Type} {R : Gm → List Value → α → Prop} {G : Gm} {T e sz bytes t : Nat} {X I : Operand} {ad : Option Addr} {len cap : Nat} {xs : List α} {k : IntKind} {i : Int} {y : α}
  (hT : slB P T = some (e, sz, bytes)) (hs : RSl R sz G ad len cap xs) (hix : ix xs i = some y) (hx : ev F X = .slice ad len cap) (hi : ev F I = .int k i) (hd : Nat.blt t N = true)
  (h : ∀ b off cs, Cells G b off cs → cs.length = sz → R G cs y → WL κ P N ops p K l (upd F t (.pointer (some ⟨b, off, none⟩))) w) : WL κ P N ops p K (⟨some t, .indexAddr T X I, ty, pos, af, none⟩ :: l) F w := by
 obtain ⟨b, off, cs, hrun, h1, h2, h3⟩ := zjR (P := P) (F := F) (d := some t) (ty := ty) (pos := pos) (af := af) (gd := none) hT hs hx hi hix
 exact za (hrun w) hd (h b off cs h1 h2 h3)
theorem zcj {k : Nat} {args : Array Operand} {ats : Array TypeId} {al : List Value} (hk : zJ P k = true) (ha : args.toList.map (ev F) = al) :
  (execOp (ev F) ⟨d, .call { callee := .value (.func k), args := args, argTypes := ats }, ty, pos, af, gd⟩).run P w = .ok (.enter k al.toArray) w := by
 have h0 : Array.map (ev F) args = al.toArray := by rw [← ha]; exact Array.ext' (by rw [Array.toList_map])
 unfold zJ at hk
 split at hk
 ·rename_i fn hf
  simp only [Bool.and_eq_true, Bool.not_eq_true'] at hk
  obtain ⟨c, hb⟩ := Option.isSome_iff_exists.1 hk.2
  have hn : ¬ fn.name = "runtime.NumGoroutine" := by simpa using hk.1
  simp [execOp, resolve, ev, Deferred.ofValue, h0, invoke, callFunc, hf, hn, hb]
 ·cases hk
end
def PQ (κ : Ctx) (N : Nat) (wI : World) (p : List PanicEntry → Fr → World → Prop) : Exit → Act → World → Prop := fun e a w => match e with
 | .panic c => St κ N wI a w ∧ p c (yO a) w
 | _ => False
def OpP (κ : Ctx) (P : Program) (N : Nat) (p : List PanicEntry → Fr → World → Prop) (o : Oper) (F : Fr) (w : World) (K : Fr → World → Prop) : Prop :=
 (∀ c, o.op ≠ .defer c) ∧ ∀ (a : Act) (wI : World), St κ N wI a w → yO a = F → o.wp P a w (fun a' w' => St κ N wI a' w' ∧ K (yO a') w') (PQ κ N wI p)
theorem PQ.lq {κ : Ctx} {N : Nat} {wI : World} {p : List PanicEntry → Fr → World → Prop} {K : Fr → World → Prop} : ∀ e a w, PQ κ N wI p e a w → LQ κ N wI p K e a w := fun e a w h => by
 cases e <;> first | exact h.elim | exact h
theorem LQ.out {κ : Ctx} {N : Nat} {wI : World} {p : List PanicEntry → Fr → World → Prop} {K : Fr → World → Prop} : ∀ a w, ¬ LQ κ N wI p K .outgrown a w := fun _ _ h => h.2.elim
theorem LQ.put {κ : Ctx} {N : Nat} {wI : World} {p : List PanicEntry → World → Prop} {K : Fr → World → Prop} : ∀ c d v a w, LQ κ N wI (fun c _ w => p c w) K (.panic c) (a.put d v) w → LQ κ N wI (fun c _ w => p c w) K (.panic c) a w := fun c d v a w h =>
 ⟨⟨by rw [← h.1.size, zib], by rw [← zfm a d v]; exact h.1.calm, h.1.keep, h.1.base⟩, h.2⟩
theorem zcv {P : Program} {e : Operand → Value} {o : Oper} {w w' : World} {nx : Next} (hnd : ∀ d, nx ≠ .defer d) (h : (execOp e o).run P w = .ok nx w') : ∀ c, o.op ≠ .defer c := by
 intro c hc
 unfold execOp at h
 rw [hc] at h
 simp only [Sem.run_bind, Result.andThen] at h
 split at h
 ·simp only [Sem.run_pure, Result.ok.injEq] at h
  exact hnd _ h.1.symm
 ·cases h
theorem zpb {ρ : Option Nat} {P : Program} {o : Oper} {a : Act} {w : World} {K : Act → World → Prop} {Q : Exit → Act → World → Prop} (hnd : ∀ c, o.op ≠ .defer c) (hO : ∀ a w, ¬ Q .outgrown a w) (h : o.wp P a w K Q) : o.wpIn (FW ρ) 0 P a w K Q := by
 refine ⟨fun _ _ => trivial, ?_⟩
 have hs : o.semAt (FW ρ).round a.eval = execOp a.eval o := by
  show o.semAt ρ a.eval = _
  cases ρ with
  | none => exact Oper.semAt_none _ _
  | some l => exact Oper.semAt_some l _ _ hnd
 rw [hs]
 unfold Oper.wp at h
 generalize (execOp a.eval o).run P w = r at *
 cases r with
 | ok n w' =>
  cases n with
  | value v => exact h
  | skip => exact h
  | defer d => exact h
  | enter f args =>
   refine ⟨fun h => (by cases h), zl4 ?_⟩
   refine Calls.mono h fun e w'' he => ?_
   cases e with
   | returned v => exact he
   | panicked c => exact he
   | outgrown => obtain ⟨_, _, h⟩ := he; exact (hO _ _ h).elim
  | row row args =>
   exact ⟨fun h => (by cases h), fun c cs _ => let ⟨v, w', r, s⟩ := h c cs; ⟨v, w', r, stepsIn_wide.2 s⟩⟩
  | _ => exact h.elim
 | halt x w' => cases x <;> first | exact h | exact h.elim
theorem zjy {P : Program} {o : Oper} {a : Act} {w : World} {K K' : Act → World → Prop} {Q Q' : Exit → Act → World → Prop} (h : ∀ a w, K a w → K' a w) (hQ : ∀ e a w, Q e a w → Q' e a w) (hh : o.wp P a w K Q) : o.wp P a w K' Q' := by
 unfold Oper.wp at *
 generalize (execOp a.eval o).run P w = r at *
 cases r with
 | ok n w' =>
  cases n <;> simp only [Oper.upon] at hh ⊢ <;>
   first
    | exact h _ _ hh
    | exact Calls.mono hh (fun e w'' he => by cases e <;> first | exact h _ _ he | exact hQ _ _ _ he | exact he.elim fun a he => he.elim fun w he => ⟨a, w, hQ _ _ _ he⟩)
    | exact Rows.mono hh (fun _ _ he => h _ _ he)
 | halt x w' => cases x <;> simp only [Oper.upon] at hh ⊢ <;> exact hQ _ _ _ hh
section
variable {κ : Ctx} {p : List PanicEntry → Fr → World → Prop} {P : Program} {N : Nat} {F : Fr} {w : World} {ops : Array Oper} {K : Fr → World → Prop} {l : List Oper}
theorem zm {o : Oper} (hg : o.guard = none) (h : OpP κ P N p o F w (fun F' w' => WL κ P N ops p K l F' w')) : WL κ P N ops p K (o :: l) F w := by
 intro a wI h1 h3
 refine wpListIn_plain hg fun K' hK' => zpb h.1 LQ.out ?_
 exact zjy (fun a' w' ⟨p1, p3⟩ => hK' _ _ (p3 a' wI p1 rfl)) PQ.lq (h.2 a wI h1 h3)
def YieldsC (P : Program) (ops : Array Oper) (C : World → Prop) (o : Oper) (v : Value) (a : Act) : Prop :=
 (Region.wanted o (yielded ops a.tmps) = true ∧ ∀ w, C w → (execOp a.eval o).run P w = .ok (.value v) w) ∨ (Region.wanted o (yielded ops a.tmps) = false ∧ v = undef)
def jR (ops : Array Oper) : Nat → Nat → Nat → Bool
 | 0, _, _ => false
 | n + 1, j, i => match ops[j]? with
  | some o => o.after.toList.any fun e => Region.binds .any e && (e.on == i || jR ops n e.on i)
  | none => false
def zoU (ops : Array Oper) (fl : List Nat) (j : Nat) : Bool := fl.any fun i => !(i == j) && !jR ops ops.size j i
def xv (ops : Array Oper) (fl : List Nat) (j q : Nat) : Bool := fl.contains q && !(q == j) && !jR ops ops.size j q
theorem zlo {ops : Array Oper} {fl : List Nat} {j q : Nat} (h : xv ops fl j q = true) : zoU ops fl j = true := by
 simp only [xv, Bool.and_eq_true] at h
 exact List.any_eq_true.2 ⟨q, by simpa using h.1.1, by simp only [Bool.and_eq_true]; exact ⟨h.1.2, h.2⟩⟩
theorem zR {ops : Array Oper} {fl : List Nat} {j q : Nat} {p : Prop} (h : zoU ops fl j = false) (h' : xv ops fl j q = true) : p := by rw [zlo h'] at h; cases h
def C2 (late : List Nat) (A B : World → Prop) : Nat → World → Prop := fun q w => A w ∧ (late.contains q = true → B w)
theorem zlh {ops : Array Oper} {fl late : List Nat} {j : Nat} {A B : World → Prop} {w : World} (hA : A w) (hB : zoU ops (fl.filter fun q => late.contains q) j = true → B w) : ∀ q, xv ops fl j q = true → C2 late A B q w := fun q h => by
 refine ⟨hA, fun hl => hB (zlo (q := q) ?_)⟩
 simp only [xv, Bool.and_eq_true] at h ⊢
 refine ⟨⟨?_, h.1.2⟩, h.2⟩
 have : q ∈ fl := by simpa using h.1.1
 simp [this]
 simpa using hl
def Closed (ops : Array Oper) (listed : Array Bool) : Prop := ∀ j o, ops[j]? = some o → listed.getD j false = true → ∀ e ∈ o.after, Region.binds .any e = true → listed.getD e.on false = true
theorem vC {listed : Array Bool} (hcl : Closed ops listed) : ∀ (n j i : Nat), (∀ o, ops[j]? = some o → ∀ e ∈ o.after, Region.binds .any e = true → listed.getD e.on false = true) → jR ops n j i = true → listed.getD i false = true
 | 0, _, _, _, h => by cases h
 | n + 1, j, i, hj, h => by
  unfold jR at h
  split at h
  ·rename_i o ho
   obtain ⟨e, he, hb⟩ := List.any_eq_true.1 h
   simp only [Bool.and_eq_true, Bool.or_eq_true, beq_iff_eq] at hb
   have he' : e ∈ o.after := by simpa using he
   have hl := hj o ho e he' hb.1
   rcases hb.2 with hb2 | hb2
   ·rw [← hb2]; exact hl
   ·exact vC hcl n e.on i (fun o' ho' e' he'' hb' => hcl e.on o' ho' hl e' he'' hb') hb2
  ·cases h
theorem Closed.set {listed : Array Bool} {i : Nat} (hcl : Closed ops listed) (hi : i ∈ Region.ready .any ops listed) : Closed ops (listed.setIfInBounds i true) := by
 obtain ⟨_, oi, hoi, hall⟩ := mem_ready.1 hi
 intro j o hj hl e he hb
 by_cases hij : i = j
 ·subst hij
  have : o = oi := nQs (hj.symm.trans hoi)
  subst this
  exact getD_set_true (hall e he hb)
 ·rw [getD_set_ne false hij] at hl
  exact getD_set_true (hcl j o hj hl e he hb)
def zbG (P : Program) (ops : Array Oper) (C : Nat → World → Prop) (fl : List Nat) (Q : Exit → Act → World → Prop) : Nat → (Nat → Prop) → Array Bool → Act → World → Prop
 | 0, _, listed, a, w => Region.ready .any ops listed = [] ∧ Q .normal a w
 | fuel + 1, E, listed, a, w =>
  (Region.ready .any ops listed = [] → Q .normal a w) ∧
  ∀ i ∈ Region.ready .any ops listed, wpOp P ops Q i (fun a' w' => (∀ q, xv ops fl i q = true → (listed.getD q false = false ∨ E q) → C q w') ∧ zbG P ops C fl Q fuel (fun q => E q ∧ jR ops ops.size i q = false) (listed.setIfInBounds i true) a' w') a w
theorem zem {C : Nat → World → Prop} {fl : List Nat} {Q : Exit → Act → World → Prop} : ∀ (fuel : Nat) (E : Nat → Prop) (listed : Array Bool) (a : Act) (w : World), zbG P ops C fl Q fuel E listed a w → wpAny P .any ops Q fuel listed a w
 | 0, _, _, _, _, h => h
 | fuel + 1, _, _, _, _, h => ⟨h.1, fun i hi => wpOp_mono (fun _ _ h' => zem fuel _ _ _ _ h'.2) (h.2 i hi)⟩
theorem zao {C : Nat → World → Prop} {fl : List Nat} {Q : Exit → Act → World → Prop} : ∀ (fuel : Nat) (E E' : Nat → Prop) (listed : Array Bool) (a : Act) (w : World), (∀ q, E' q → E q) → zbG P ops C fl Q fuel E listed a w → zbG P ops C fl Q fuel E' listed a w
 | 0, _, _, _, _, _, _, h => h
 | fuel + 1, _, _, _, _, _, hE, h => ⟨h.1, fun i hi => wpOp_mono (fun _ _ h' => ⟨fun q h1 h2 => h'.1 q h1 (h2.imp id (hE q)), zao fuel _ _ _ _ _ (fun q h1 => ⟨hE q h1.1, h1.2⟩) h'.2⟩) (h.2 i hi)⟩
theorem YieldsC.of_same {C : World → Prop} {o : Oper} {v : Value} {a a' : Act} (hy : YieldsC P ops C o v a) (he : execOp a'.eval o = execOp a.eval o)
  (hw : Region.wanted o (yielded ops a'.tmps) = Region.wanted o (yielded ops a.tmps)) : YieldsC P ops C o v a' := by
 unfold YieldsC at *
 rw [he, hw]
 exact hy
theorem YieldsC.wpOp {C : World → Prop} {Q : Exit → Act → World → Prop} {i : Nat} {o : Oper} {v : Value} {a : Act} (hi : ops[i]? = some o) (hy : YieldsC P ops C o v a) {K : Act → World → Prop} {w : World} (hC : C w) (h : K (a.put o.dst v) w) : wpOp P ops Q i K a w := by
 unfold Go.wpOp
 simp only [hi]
 rcases hy with ⟨hw, hv⟩ | ⟨hw, rfl⟩
 ·simp only [hw, if_true, Oper.wp, hv w hC, Oper.upon]; exact .inl h
 ·simp only [hw, Bool.false_eq_true, if_false]; exact h
theorem zmk {C : World → Prop} {Q : Exit → Act → World → Prop} {j : Nat} {oi oj : Oper} {v : Value} (hj : ops[j]? = some oj) (hap : oi.apart ops oj = true)
  (hsi : ∀ cs b, oi.op ≠ .select cs b) (hsj : ∀ cs b, oj.op ≠ .select cs b)
  (hQ : ∀ c a w, Q (.panic c) (a.put oi.dst v) w → Q (.panic c) a w) {K : Act → World → Prop} {a : Act} {w : World}
  (hy : YieldsC P ops C oi v a) (h : wpOp P ops Q j K (a.put oi.dst v) w) :
  wpOp P ops Q j (fun a' w' => YieldsC P ops C oi v a' ∧ K (a'.put oi.dst v) w') a w := by
 obtain ⟨h1, h2, h3⟩ := Oper.apart_spec hap
 have keep : ∀ (a : Act), YieldsC P ops C oi v a → ∀ u, YieldsC P ops C oi v (a.put oj.dst u) := fun a hy u =>
  hy.of_same (execOp_put oi hsi a oj.dst u h3) (wanted_put oi a oj.dst u h3)
 have keepD : ∀ d, YieldsC P ops C oi v { a with defers := d :: a.defers } := fun d => hy.of_same rfl rfl
 unfold Go.wpOp at *
 simp only [hj] at *
 rw [wanted_put oj a oi.dst v h1] at h
 split
 ·rename_i hw
  simp only [hw, if_true] at h
  rcases h with h | ⟨hasks, hlets⟩
  case inr => exact .inr ⟨by unfold Oper.asks at *; rw [execOp_put oj hsj a oi.dst v h1] at hasks; exact hasks, hlets⟩
  refine .inl ?_
  unfold Oper.wp at *
  rw [execOp_put oj hsj a oi.dst v h1] at h
  generalize (execOp a.eval oj).run P w = r at *
  cases r with
  | ok n w' =>
   cases n <;> simp only [Oper.upon] at h ⊢
   case value u => exact ⟨keep a hy u, by rw [← Act.put_comm a v u h2]; exact h⟩
   case skip => exact ⟨keep a hy _, by rw [← Act.put_comm a v undef h2]; exact h⟩
   case defer d =>
    refine ⟨keep _ (keepD d) _, ?_⟩
    rw [← Act.put_comm _ v undef h2, ← Act.put_defers]
    exact h
   case enter f args =>
    refine Calls.mono h fun e w'' he => ?_
    cases e with
    | returned u => exact ⟨keep a hy u, by rw [← Act.put_comm a v u h2]; exact he⟩
    | panicked c => exact hQ _ _ _ he
    | outgrown => exact he
   case row row args => exact Rows.mono h fun u w'' he => ⟨keep a hy u, by rw [← Act.put_comm a v u h2]; exact he⟩
  | halt x w' =>
   cases x <;> simp only [Oper.upon] at h ⊢
   case panic u => exact hQ _ _ _ h
 ·rename_i hw
  simp only [hw] at h
  exact ⟨keep a hy _, by rw [← Act.put_comm a v undef h2]; exact h⟩
theorem za5 {listed : Array Bool} {j : Nat} (hj : j ∈ Region.ready .any ops listed) : listed.getD j false = false := by
 have hun := (mem_ready.1 hj).1
 rcases Nat.lt_or_ge j listed.size with h' | h'
 ·simp [h'] at hun ⊢; exact hun
 ·simp [Array.getElem?_eq_none h'] at hun
theorem zbO {listed : Array Bool} {fl : List Nat} {j q : Nat} (hcl : Closed ops listed) (hj : j ∈ Region.ready .any ops listed) (hq : q ∈ fl) (hqj : q ≠ j) (hun : listed.getD q false = false) : xv ops fl j q = true := by
 obtain ⟨_, oj, hoj, hall⟩ := mem_ready.1 hj
 simp only [xv, Bool.and_eq_true, Bool.not_eq_true']
 refine ⟨⟨by simpa using hq, by simpa using hqj⟩, ?_⟩
 cases hwb : jR ops ops.size j q with
 | false => rfl
 | true =>
  have := vC hcl ops.size j q (fun o ho e he hb => by
   have : o = oj := nQs (ho.symm.trans hoj)
   subst this
   exact hall e he hb) hwb
  rw [hun] at this
  cases this
theorem zeo {listed : Array Bool} {j q : Nat} (hj : j ∈ Region.ready .any ops listed) (hun : (listed.setIfInBounds j true).getD q false = false) : q ≠ j ∧ listed.getD q false = false := by
 by_cases hqj : j = q
 ·subst hqj
  rcases Nat.lt_or_ge j listed.size with h' | h'
  ·simp [h'] at hun
  ·exact absurd (mem_ready.1 hj).1 (by simp [Array.getElem?_eq_none h'])
 ·rw [getD_set_ne false hqj] at hun; exact ⟨Ne.symm hqj, hun⟩
theorem zgS {C : Nat → World → Prop} {fl : List Nat} {Q : Exit → Act → World → Prop} {i : Nat} {oi : Oper} {v : Value} (hi : ops[i]? = some oi) (hfl : i ∈ fl) (hsel : ∀ (j : Nat) (o : Oper) cs b, ops[j]? = some o → o.op ≠ .select cs b)
  (hQ : ∀ c a w, Q (.panic c) (a.put oi.dst v) w → Q (.panic c) a w) :
  ∀ (fuel : Nat) (E : Nat → Prop) (listed : Array Bool) (a : Act) (w : World), (∀ q, E q → listed.getD q false = true) → (∀ q ∈ fl, (listed.getD q false = false ∨ E q) → C q w) → Closed ops listed →
   (∀ j oj, ops[j]? = some oj → j ≠ i → listed.getD j true = false → (∀ e ∈ oj.after, Region.binds .any e = true → e.on ≠ i) → oi.apart ops oj = true) →
   i ∈ Region.ready .any ops listed → YieldsC P ops (C i) oi v a →
   zbG P ops C fl Q fuel (fun q => E q ∨ q = i) (listed.setIfInBounds i true) (a.put oi.dst v) w → zbG P ops C fl Q (fuel + 1) E listed a w := by
 have mem_of : ∀ {q : Nat}, xv ops fl i q = true → q ∈ fl := fun hq => by simp only [xv, Bool.and_eq_true] at hq; simpa using hq.1.1
 intro fuel
 induction fuel with
 | zero =>
  intro E listed a w _ hC _ _ hr hy H
  refine ⟨fun h => (by rw [h] at hr; cases hr), fun j hj => ?_⟩
  by_cases hji : j = i
  ·subst hji
   exact hy.wpOp hi (hC j hfl (.inl (za5 hr))) ⟨fun q hq hu => hC q (mem_of hq) hu, H⟩
  ·have := ready_mono hj hji
   rw [H.1] at this
   cases this
 | succ fuel ih =>
  intro E listed a w hE hC hcl hfree hr hy H
  refine ⟨fun h => (by rw [h] at hr; cases hr), fun j hj => ?_⟩
  by_cases hji : j = i
  ·subst hji
   exact hy.wpOp hi (hC j hfl (.inl (za5 hr))) ⟨fun q hq hu => hC q (mem_of hq) hu, zao _ _ _ _ _ _ (fun q h1 => .inl h1.1) H⟩
  ·have h1 := H.2 j (ready_mono hj hji)
   obtain ⟨hjun, oj, hoj, hall⟩ := mem_ready.1 hj
   have hunf : listed.getD i false = false := za5 hr
   have hnot : ∀ e ∈ oj.after, Region.binds .any e = true → e.on ≠ i := fun e he hb heq => by
    have h1 := hall e he hb
    rw [heq, hunf] at h1
    cases h1
   have hki : xv ops fl j i = true := zbO hcl hj hfl (Ne.symm hji) hunf
   have hwi : jR ops ops.size j i = false := by
    simp only [xv, Bool.and_eq_true, Bool.not_eq_true'] at hki; exact hki.2
   have h2 := zmk hoj (hfree j oj hoj hji hjun hnot) (fun cs b => hsel i oi cs b hi) (fun cs b => hsel j oj cs b hoj) hQ hy h1
   have hfree' : ∀ k ok, ops[k]? = some ok → k ≠ i → (listed.setIfInBounds j true).getD k true = false →
     (∀ e ∈ ok.after, Region.binds .any e = true → e.on ≠ i) → oi.apart ops ok = true := fun k ok hk hki hun hno => by
    refine hfree k ok hk hki ?_ hno
    by_cases hjk : j = k
    ·subst hjk; exact hjun
    ·rw [getD_set_ne true hjk] at hun; exact hun
   refine wpOp_mono (fun a' w' h3 => ?_) h2
   have hall' : ∀ q, xv ops fl j q = true → (listed.getD q false = false ∨ E q) → C q w' := fun q hq hu => by
    by_cases hqi : q = i
    ·exact h3.2.1 q hq (.inr (.inr hqi))
    ·rcases hu with hu | hu
     ·exact h3.2.1 q hq (.inl (by rw [getD_set_ne false (Ne.symm hqi)]; exact hu))
     ·exact h3.2.1 q hq (.inr (.inl hu))
   refine ⟨hall', ih (fun q => E q ∧ jR ops ops.size j q = false) (listed.setIfInBounds j true) a' w' (fun q hq => getD_set_true (hE q hq.1)) (fun q hq hun => ?_) (hcl.set hj) hfree' (ready_mono hr (Ne.symm hji)) h3.1 ?_⟩
   ·rcases hun with hun | hun
    ·obtain ⟨h4, h5⟩ := zeo hj hun
     exact hall' q (zbO hcl hj hq h4 h5) (.inl h5)
    ·refine hall' q ?_ (.inr hun.1)
     simp only [xv, Bool.and_eq_true, Bool.not_eq_true']
     refine ⟨⟨by simpa using hq, ?_⟩, hun.2⟩
     have := hE q hun.1
     have hpj := za5 hj
     have hne : q ≠ j := fun e => by subst e; rw [hpj] at this; cases this
     simpa using hne
   ·rw [Array.setIfInBounds_comm _ _ hji]
    refine zao _ _ _ _ _ _ (fun q h1 => ?_) h3.2.2
    rcases h1 with h1 | rfl
    ·exact ⟨.inl h1.1, h1.2⟩
    ·exact ⟨.inr rfl, hwi⟩
inductive OT where
 | nil
 | fl (i : Nat) (r : OT)
 | on (i : Nat) (r : OT)
 | two (i : Nat) (a : OT) (j : Nat) (b : OT)
def OT.len : OT → Nat
 | .nil => 0
 | .fl _ r => r.len + 1
 | .on _ r => r.len + 1
 | .two _ a _ _ => a.len + 1
def ordOk (ops : Array Oper) : OT → Array Bool → Bool
 | .nil, listed => (Region.ready .any ops listed).isEmpty
 | .fl i r, listed => (Region.ready .any ops listed).contains i && Region.free .any ops listed i && ordOk ops r (listed.setIfInBounds i true)
 | .on i r, listed => decide (Region.ready .any ops listed = [i]) && ordOk ops r (listed.setIfInBounds i true)
 | .two i a j b, listed => decide (Region.ready .any ops listed = [i, j]) && decide (a.len = b.len) && ordOk ops a (listed.setIfInBounds i true) && ordOk ops b (listed.setIfInBounds j true)
def zdW : OT → List Nat
 | .nil => []
 | .fl i r => i :: zdW r
 | .on _ r => zdW r
 | .two _ a _ b => zdW a ++ zdW b
def zbz (P : Program) (ops : Array Oper) (C : Nat → World → Prop) (fl : List Nat) (Q : Exit → Act → World → Prop) : OT → Act → World → Prop
 | .nil, a, w => Q .normal a w
 | .fl i r, a, w => ∃ o v, ops[i]? = some o ∧ YieldsC P ops (C i) o v a ∧ zbz P ops C fl Q r (a.put o.dst v) w
 | .on i r, a, w => wpOp P ops Q i (fun a' w' => (∀ q, xv ops fl i q = true → C q w') ∧ zbz P ops C fl Q r a' w') a w
 | .two i x j y, a, w => wpOp P ops Q i (fun a' w' => (∀ q, xv ops fl i q = true → C q w') ∧ zbz P ops C fl Q x a' w') a w ∧ wpOp P ops Q j (fun a' w' => (∀ q, xv ops fl j q = true → C q w') ∧ zbz P ops C fl Q y a' w') a w
theorem zj6 {C : Nat → World → Prop} {fl : List Nat} {E : Nat → Prop} {listed : Array Bool} {w' : World} {j : Nat} (hE : ∀ q, E q → listed.getD q false = true) (hcl : Closed ops listed) (hj : j ∈ Region.ready .any ops listed) (hC' : ∀ q, xv ops fl j q = true → C q w') :
  ∀ q ∈ fl, ((listed.setIfInBounds j true).getD q false = false ∨ (E q ∧ jR ops ops.size j q = false)) → C q w' := fun q hq hu => by
 rcases hu with hun | hun
 ·obtain ⟨h4, h5⟩ := zeo hj hun
  exact hC' q (zbO hcl hj hq h4 h5)
 ·refine hC' q ?_
  simp only [xv, Bool.and_eq_true, Bool.not_eq_true']
  refine ⟨⟨by simpa using hq, ?_⟩, hun.2⟩
  have := hE q hun.1
  have hpj := za5 hj
  have hne : q ≠ j := fun e => by subst e; rw [hpj] at this; cases this
  simpa using hne
theorem xO {C : Nat → World → Prop} {fl : List Nat} {Q : Exit → Act → World → Prop} (hs : Region.noSelect ops = true) (hQ : ∀ c d v a w, Q (.panic c) (a.put d v) w → Q (.panic c) a w) : ∀ (r : OT) (E : Nat → Prop) (listed : Array Bool) (a : Act) (w : World), (∀ q, E q → listed.getD q false = true) → (∀ q ∈ fl, (listed.getD q false = false ∨ E q) → C q w) → Closed ops listed → (∀ i ∈ zdW r, i ∈ fl) → ordOk ops r listed = true → zbz P ops C fl Q r a w → zbG P ops C fl Q r.len E listed a w
 | .nil, E, listed, a, w, _, _, _, _, ho, h => ⟨by simpa [ordOk] using ho, h⟩
 | .fl i r, E, listed, a, w, hE, hC, hcl, hfl, ho, h => by
  simp only [ordOk, Bool.and_eq_true] at ho
  obtain ⟨o, v, hi, hy, hK⟩ := h
  have hr : i ∈ Region.ready .any ops listed := by simpa using ho.1.1
  have hif : i ∈ fl := hfl i (by simp [zdW])
  have hpi := za5 hr
  have hsi : (listed.setIfInBounds i true).getD i false = true := by
   rcases Nat.lt_or_ge i listed.size with h' | h'
   ·simp [h']
   ·exact absurd (mem_ready.1 hr).1 (by simp [Array.getElem?_eq_none h'])
  exact zgS hi hif (Region.noSelect_spec hs) (fun c a w h => hQ _ _ _ _ _ h) r.len E listed a w hE hC hcl (Region.free_spec hi ho.1.2) hr hy
   (xO hs hQ r _ _ _ w (fun q hq => by
    rcases hq with hq | rfl
    ·exact getD_set_true (hE q hq)
    ·exact hsi) (fun q hq hu => by
    rcases hu with hu | hu | rfl
    ·exact hC q hq (.inl (zeo hr hu).2)
    ·exact hC q hq (.inr hu)
    ·exact hC q hq (.inl hpi)) (hcl.set hr) (fun j hj => hfl j (by simp [zdW, hj])) ho.2 hK)
 | .on i r, E, listed, a, w, hE, _, hcl, hfl, ho, h => by
  simp only [ordOk, Bool.and_eq_true, decide_eq_true_eq] at ho
  refine ⟨fun h0 => (by rw [ho.1] at h0; cases h0), fun j hj => ?_⟩
  have hj0 := hj
  rw [ho.1] at hj
  have hij : j = i := by simpa using hj
  subst hij
  exact wpOp_mono (fun a' w' ⟨hC', h'⟩ => ⟨fun q hk _ => hC' q hk, xO hs hQ r _ _ a' w' (fun q hq => getD_set_true (hE q hq.1)) (zj6 hE hcl hj0 hC') (hcl.set hj0) (fun q hq => hfl q (by simpa [zdW] using hq)) ho.2 h'⟩) h
 | .two i x q y, E, listed, a, w, hE, _, hcl, hfl, ho, h => by
  simp only [ordOk, Bool.and_eq_true, decide_eq_true_eq] at ho
  obtain ⟨⟨⟨h1, h2⟩, h3⟩, h4⟩ := ho
  refine ⟨fun h0 => (by rw [h1] at h0; cases h0), fun j hj => ?_⟩
  have hj0 := hj
  rw [h1] at hj
  have hij : j = i ∨ j = q := by simpa using hj
  rcases hij with rfl | rfl
  ·exact wpOp_mono (fun a' w' ⟨hC', h'⟩ => ⟨fun q hk _ => hC' q hk, xO hs hQ x _ _ a' w' (fun q hq => getD_set_true (hE q hq.1)) (zj6 hE hcl hj0 hC') (hcl.set hj0) (fun q hq => hfl q (by simp [zdW, hq])) h3 h'⟩) h.1
  ·refine wpOp_mono (fun a' w' ⟨hC', h'⟩ => ⟨fun q hk _ => hC' q hk, ?_⟩) h.2
   rw [h2]
   exact xO hs hQ y _ _ a' w' (fun q hq => getD_set_true (hE q hq.1)) (zj6 hE hcl hj0 hC') (hcl.set hj0) (fun q hq => hfl q (by simp [zdW, hq])) h4 h'
end
section
variable {κ : Ctx} {p : List PanicEntry → World → Prop} {P : Program} {N : Nat} {F : Fr} {w : World} {ops : Array Oper} {K : Fr → World → Prop} {l : List Oper}
def WD (κ : Ctx) (P : Program) (N : Nat) (p : List PanicEntry → World → Prop) (ops : Array Oper) (C : Nat → World → Prop) (fl : List Nat) (K : Fr → World → Prop) (r : OT) (F : Fr) (w : World) : Prop :=
 ∀ (a : Act) (wI : World), St κ N wI a w → yO a = F → zbz P ops C fl (LQ κ N wI (fun c _ w => p c w) K) r a w
theorem zM {n r : Fr → World → Prop} {x : List (Nat × (Fr → World → Prop))} {id : Nat} {l : List Oper} (hm : P.follows .mixedOrders = true) (C : Nat → World → Prop) (ord : OT)
  (hs : Region.noSelect l.toArray = true) (hl : ord.len = l.length) (ho : ordOk l.toArray ord (Array.replicate l.length false) = true)
  (hC : ∀ q, C q w.drew) (h : WD κ P N p l.toArray C (zdW ord) n ord F w.drew) (hro : κ.ro = none := by rfl) : WC κ P N (.region id l.toArray true) ⟨n, r, x, fun c _ w => p c w⟩ F w := by
 intro a wI h1 h3
 have hw : w.drew = { w with drawn := w.drawn + 1 } := rfl
 have h1' : St κ N wI a w.drew := ⟨h1.size, h1.calm.keep (Keeps.drew _), h1.keep.trans (Keeps.drew _), h1.base⟩
 rw [hw] at h hC h1'
 have hcl : Closed l.toArray (Array.replicate l.length false) := fun j o _ hl => by
  rcases Nat.lt_or_ge j l.length with h' | h'
  ·simp [h'] at hl
  ·simp [h'] at hl
 have h0 := xO (P := P) (C := C) (fl := zdW ord) hs (Q := LQ κ N wI (fun c _ w => p c w) n) LQ.put ord (fun _ => False) (Array.replicate l.length false) a _ (fun _ h => h.elim) (fun q _ _ => hC q) hcl (fun i hi => hi) ho (h a wI h1' h3)
 rw [hl] at h0
 rw [hro]
 refine wpIn_wide.2 (wp_mono (wp_region_any hm (by simpa using zem _ _ _ _ _ h0)) ?_)
 rintro e a' w' ⟨p1, p3⟩
 cases e with
 | normal => exact ⟨p1, p3⟩
 | panic c => exact ⟨p1, p3⟩
 | ret => exact p3.elim
 | exit k => exact p3.elim
 | goto l => exact p3.elim
 | outgrown => exact p3.elim
variable {C : Nat → World → Prop} {fl : List Nat} {r : OT} {i d : Nat} {o : Oper}
theorem qp (h : K F w) : WD κ P N p ops C fl K .nil F w := fun _ _ h1 h3 => ⟨h1, h3 ▸ h⟩
theorem zwS {j : Nat} {s : OT} (h1 : WD κ P N p ops C fl K (.on i r) F w) (h2 : WD κ P N p ops C fl K (.on j s) F w) : WD κ P N p ops C fl K (.two i r j s) F w :=
 fun a wI p1 p3 => ⟨h1 a wI p1 p3, h2 a wI p1 p3⟩
theorem zh {op : Op} {ty : TypeId} {pos : String} {af : Array Edge} {v : Value} (hi : ops.toList[i]? = some ⟨some d, op, ty, pos, af, none⟩)
  (hrun : ∀ w, C i w → (execOp (ev F) ⟨some d, op, ty, pos, af, none⟩).run P w = .ok (.value v) w) (hd : Nat.blt d N = true) (h : WD κ P N p ops C fl K r (upd F d v) w) : WD κ P N p ops C fl K (.fl i r) F w := by
 intro a wI h1 h3
 have hd' : d < a.tmps.size := by exact h1.lt hd
 refine ⟨⟨some d, op, ty, pos, af, none⟩, v, by simpa using hi, .inl ⟨rfl, fun w hw => ?_⟩, h _ wI (h1.puts _ _) ?_⟩
 ·rw [qT, h3]; exact hrun w hw
 ·rw [← h3]; exact qY a d v hd'
theorem qF {op : Op} {ty : TypeId} {pos : String} {af : Array Edge} {v : Value} {j g : Nat} {want b : Bool} (hi : ops.toList[i]? = some ⟨some d, op, ty, pos, af, some (j, want)⟩)
  (hj : (ops.toList[j]?).bind (·.dst) = some g) (hb : b = want) (hF : F g = .bool b) (hg : Nat.blt g N = true)
  (hrun : ∀ w, C i w → (execOp (ev F) ⟨some d, op, ty, pos, af, some (j, want)⟩).run P w = .ok (.value v) w) (hd : Nat.blt d N = true) (h : WD κ P N p ops C fl K r (upd F d v) w) : WD κ P N p ops C fl K (.fl i r) F w := by
 intro a wI h1 h3
 have hd' : d < a.tmps.size := by exact h1.lt hd
 have hg' : g < a.tmps.size := by exact h1.lt hg
 have hy := xE (a := a) (ops := ops) (j := j) (by simpa using hj) (by rw [h3]; exact hF) hg'
 refine ⟨⟨some d, op, ty, pos, af, some (j, want)⟩, v, by simpa using hi, .inl ⟨by simp [Region.wanted, hy, hb], fun w hw => ?_⟩, h _ wI (h1.puts _ _) ?_⟩
 ·rw [qT, h3]; exact hrun w hw
 ·rw [← h3]; exact qY a d v hd'
theorem ye {op : Op} {ty : TypeId} {pos : String} {af : Array Edge} {j g : Nat} {want b : Bool} (hi : ops.toList[i]? = some ⟨some d, op, ty, pos, af, some (j, want)⟩)
  (hj : (ops.toList[j]?).bind (·.dst) = some g) (hb : b = !want) (hF : F g = .bool b) (hg : Nat.blt g N = true) (hd : Nat.blt d N = true) (h : WD κ P N p ops C fl K r (upd F d undef) w) : WD κ P N p ops C fl K (.fl i r) F w := by
 intro a wI h1 h3
 have hd' : d < a.tmps.size := by exact h1.lt hd
 have hg' : g < a.tmps.size := by exact h1.lt hg
 have hy := xE (a := a) (ops := ops) (j := j) (by simpa using hj) (by rw [h3]; exact hF) hg'
 refine ⟨⟨some d, op, ty, pos, af, some (j, want)⟩, undef, by simpa using hi, .inr ⟨by simp [Region.wanted, hy, hb], rfl⟩, h _ wI (h1.puts _ _) ?_⟩
 ·rw [← h3]; exact qY a d undef hd'
theorem znl {op : Op} {ty : TypeId} {pos : String} {af : Array Edge} {j g : Nat} {want : Bool} (hi : ops.toList[i]? = some ⟨some d, op, ty, pos, af, some (j, want)⟩)
  (hj : (ops.toList[j]?).bind (·.dst) = some g) (hF : F g = undef) (hg : Nat.blt g N = true) (hd : Nat.blt d N = true) (h : WD κ P N p ops C fl K r (upd F d undef) w) : WD κ P N p ops C fl K (.fl i r) F w := by
 intro a wI h1 h3
 have hd' : d < a.tmps.size := by exact h1.lt hd
 have hg' : g < a.tmps.size := by exact h1.lt hg
 have hy : yielded ops a.tmps j = none := by
  unfold yielded
  have hj' : (ops[j]?).bind (·.dst) = some g := by simpa using hj
  rw [hj']
  have h4 : a.tmps[g]? = some undef := by
   rw [Array.getElem?_eq_getElem hg']
   have h2 : a.tmps.getD g undef = a.tmps[g] := by simp [Array.getD, hg']
   rw [← h2]
   exact congrArg some (by rw [← h3] at hF; exact hF)
  simp [h4, undef]
 refine ⟨⟨some d, op, ty, pos, af, some (j, want)⟩, undef, by simpa using hi, .inr ⟨by simp [Region.wanted, hy], rfl⟩, h _ wI (h1.puts _ _) ?_⟩
 ·rw [← h3]; exact qY a d undef hd'
theorem zD {o : Oper} (hi : ops.toList[i]? = some o) (hg : o.guard = none) (h : OpP κ P N (fun c _ w => p c w) o F w (fun F' w' => (∀ q, xv ops fl i q = true → C q w') ∧ WD κ P N p ops C fl K r F' w')) : WD κ P N p ops C fl K (.on i r) F w := by
 intro a wI h1 h3
 have hi' : ops[i]? = some o := by simpa using hi
 unfold zbz wpOp
 simp only [hi', Region.wanted, hg, if_true]
 exact .inl (zjy (fun a' w' ⟨p1, p3, p4⟩ => ⟨p3, p4 a' wI p1 rfl⟩) PQ.lq (h.2 a wI h1 h3))
theorem zkD {o : Oper} {j g : Nat} {want b : Bool} (hi : ops.toList[i]? = some o) (hgd : o.guard = some (j, want)) (hj : (ops.toList[j]?).bind (·.dst) = some g) (hb : b = want) (hF : F g = .bool b) (hg : Nat.blt g N = true)
  (h : OpP κ P N (fun c _ w => p c w) o F w (fun F' w' => (∀ q, xv ops fl i q = true → C q w') ∧ WD κ P N p ops C fl K r F' w')) : WD κ P N p ops C fl K (.on i r) F w := by
 intro a wI h1 h3
 have hi' : ops[i]? = some o := by simpa using hi
 have hg' : g < a.tmps.size := by exact h1.lt hg
 have hy := xE (a := a) (ops := ops) (j := j) (by simpa using hj) (by rw [h3]; exact hF) hg'
 have hw : Region.wanted o (yielded ops a.tmps) = true := by simp [Region.wanted, hgd, hy, hb]
 unfold zbz wpOp
 simp only [hi', hw, if_true]
 exact .inl (zjy (fun a' w' ⟨p1, p3, p4⟩ => ⟨p3, p4 a' wI p1 rfl⟩) PQ.lq (h.2 a wI h1 h3))
theorem zwT {α : Type} {R : Gm → List Value → α → Prop} {G : Gm} {T e sz bytes t : Nat} {X I : Operand} {ad : Option Addr} {len cap : Nat} {xs : List α} {k : IntKind} {q : Int} {y : α} {ty : TypeId} {pos : String} {af : Array Edge}
  (hi : ops.toList[i]? = some ⟨some t, .indexAddr T X I, ty, pos, af, none⟩)
  (hT : slB P T = some (e, sz, bytes)) (hs : RSl R sz G ad len cap xs) (hix : ix xs q = some y) (hx : ev F X = .slice ad len cap) (hq : ev F I = .int k q) (hd : Nat.blt t N = true)
  (h : ∀ b off cs, Cells G b off cs → cs.length = sz → R G cs y → WD κ P N p ops C fl K r (upd F t (.pointer (some ⟨b, off, none⟩))) w) : WD κ P N p ops C fl K (.fl i r) F w := by
 obtain ⟨b, off, cs, hrun, h1, h2, h3⟩ := zjR (P := P) (F := F) (d := some t) (ty := ty) (pos := pos) (af := af) (gd := none) hT hs hx hq hix
 exact zh hi (fun w _ => hrun w) hd (h b off cs h1 h2 h3)
theorem zs8 {α : Type} {R : Gm → List Value → α → Prop} {G : Gm} {T e sz bytes t : Nat} {X I : Operand} {ad : Option Addr} {len cap : Nat} {xs : List α} {k : IntKind} {q : Int} {y : α} {ty : TypeId} {pos : String} {af : Array Edge} {j g : Nat} {want b' : Bool}
  (hi : ops.toList[i]? = some ⟨some t, .indexAddr T X I, ty, pos, af, some (j, want)⟩) (hj : (ops.toList[j]?).bind (·.dst) = some g) (hb : b' = want) (hF : F g = .bool b') (hg : Nat.blt g N = true)
  (hT : slB P T = some (e, sz, bytes)) (hs : RSl R sz G ad len cap xs) (hix : ix xs q = some y) (hx : ev F X = .slice ad len cap) (hq : ev F I = .int k q) (hd : Nat.blt t N = true)
  (h : ∀ b off cs, Cells G b off cs → cs.length = sz → R G cs y → WD κ P N p ops C fl K r (upd F t (.pointer (some ⟨b, off, none⟩))) w) : WD κ P N p ops C fl K (.fl i r) F w := by
 obtain ⟨b, off, cs, hrun, h1, h2, h3⟩ := zjR (P := P) (F := F) (d := some t) (ty := ty) (pos := pos) (af := af) (gd := some (j, want)) hT hs hx hq hix
 exact qF hi hj hb hF hg (fun w _ => hrun w) hd (h b off cs h1 h2 h3)
end
structure Row where
 e : Nat
 sz : Nat
 n : Nat
 v : Value
 cells : List Value
def qO : Value → Option Nat
 | .slice (some a) _ _ => some a.block
 | .map (some r) => some r
 | _ => none
def mkE : List Value → Nat → List MapEntry
 | k :: v :: l, i => ⟨k, v, i⟩ :: mkE l (i + 1)
 | _, _ => []
def zbs (e sz n : Nat) (xs : List Value) : Obj := cond (Nat.beq sz 2) (.map (mkE xs 0).toArray n) (cond (Nat.beq sz 3) (.cells (xs.take 2).toArray e (0, 0)) (match xs with | [.string s, .int _ p] => .stringIter s p.toNat | _ => .map #[] 0))
theorem ze7 (e sz n : Nat) (xs : List Value) : zaJ (zbs e sz n xs) = false := by
 unfold zbs
 cases Nat.beq sz 2 with
 | true => rfl
 | false =>
  cases Nat.beq sz 3 with
  | true => rfl
  | false => show zaJ (match xs with | [.string s, .int _ p] => Obj.stringIter s p.toNat | _ => .map #[] 0) = false; split <;> rfl
def ORow (w : World) (B e sz : Nat) (v : Value) (n : Nat) (xs : List Value) : Prop :=
 xs.length = n * sz ∧ ((v = .slice none 0 0 ∧ n = 0) ∨ (∃ g o cap cur, v = .slice (some ⟨g, o, none⟩) n cap ∧ B ≤ g ∧ w.heap[g]? = some (.cells cur e (0, 0)) ∧ n ≤ cap ∧ cap ≤ maxLen ∧ o + cap * sz ≤ cur.size ∧ (cur.toList.drop o).take (n * sz) = xs) ∨ ∃ r, v = .map (some r) ∧ B ≤ r ∧ w.heap[r]? = some (zbs e sz n xs))
theorem ORow.lt {w : World} {B e sz n : Nat} {v : Value} {xs : List Value} (h : ORow w B e sz v n xs) {g : Nat} (hg : qO v = some g) : B ≤ g ∧ g < w.heap.size := by
 rcases h.2 with ⟨rfl, _⟩ | ⟨g', o, cap, cur, rfl, hb, hg', _⟩ | ⟨g', rfl, hb, hg'⟩
 ·cases hg
 ·have e : g' = g := by simpa [qO] using hg
  subst e
  exact ⟨hb, (Array.getElem?_eq_some_iff.1 hg').1⟩
 ·have e : g' = g := by simpa [qO] using hg
  subst e
  exact ⟨hb, (Array.getElem?_eq_some_iff.1 hg').1⟩
theorem ORow.cells {w : World} {B e sz n g o cap : Nat} {xs : List Value} (h : ORow w B e sz (.slice (some ⟨g, o, none⟩) n cap) n xs) {j : Nat} {u : Value} (hj : xs[j]? = some u) : w.cell? ⟨g, o + j, none⟩ = some u := by
 rcases h.2 with ⟨hv, _⟩ | ⟨g', o', cap', cur, hv, _, hg, _, _, _, htake⟩ | ⟨_, hv, _⟩
 ·cases hv
 ·cases hv
  rw [← htake, List.getElem?_take] at hj
  split at hj
  ·rw [List.getElem?_drop] at hj
   unfold World.cell?
   simp only [hg]
   simpa using hj
  ·cases hj
 ·cases hv
def Row.ok (G : Gm) (w : World) (B : Nat) (c : Row) : Prop := ORow w B c.e c.sz c.v c.n c.cells ∧ ∀ g, qO c.v = some g → G g = none
structure Owns (G : Gm) (w : World) (B : Nat) (L : List Row) : Prop where
 each : ∀ c ∈ L, c.ok G w B
 apart : L.Pairwise (fun c d => ∀ g, qO c.v = some g → qO d.v ≠ some g)
 base : B ≤ w.heap.size
structure Since (B : Nat) (G0 : Gm) (w0 : World) (G : Gm) (w : World) : Prop where
 le : Gle G0 G
 sat : Sat G w
 below : Below B w0 w
 old : ∀ b, b < B → G b = G0 b
 base : B ≤ w.heap.size
 cells : ∀ b o, G b = some o → B ≤ b → zaJ o = false
section
variable {G G' G0 : Gm} {w w' w0 : World} {B : Nat} {L : List Row}
theorem Since.start (h : Sat G w) : Since w.heap.size G w G w := ⟨Gle.refl G, h, Below.refl _ _, fun _ _ => rfl, Nat.le_refl _, h.new⟩
theorem Since.grow (h : Since B G0 w0 G w) (k : Grow G w G' w') : Since B G0 w0 G' w' :=
 ⟨h.le.trans k.le, k.sat, h.below.trans (k.below.mono h.base), fun b hb => (k.old b (Nat.lt_of_lt_of_le hb h.base)).trans (h.old b hb), Nat.le_trans h.base k.below.size, fun b o hb hl => by
  rcases Nat.lt_or_ge b w.heap.size with h' | h'
  ·exact h.cells b o ((k.old b h').symm.trans hb) hl
  ·exact k.cells b o hb h'⟩
theorem Since.keep (h : Since B G0 w0 G w) (hb : Below w.heap.size w w') : Since B G0 w0 G w' := h.grow (Grow.of_below h.sat hb)
theorem Since.write (h : Since B G0 w0 G w) (hs : Sat G w') (hb : Below B w w') : Since B G0 w0 G w' := ⟨h.le, hs, h.below.trans hb, h.old, Nat.le_trans h.base hb.size, h.cells⟩
theorem Since.toGrow (h : Since w0.heap.size G0 w0 G w) : Grow G0 w0 G w := ⟨h.le, h.sat, h.below, h.old, h.cells⟩
theorem zj (w : World) : Below w.heap.size w w.drew := ⟨rfl, rfl, rfl, Nat.le_refl _, fun _ _ => rfl⟩
theorem Row.ok.lt {c : Row} (h : c.ok G w B) {g : Nat} (hg : qO c.v = some g) : B ≤ g ∧ g < w.heap.size := h.1.lt hg
theorem ky {X : Option Nat} {c : Row} (hc : c.ok G w B) (hs : w.heap.size ≤ w'.heap.size) (hd : ∀ b, b < w.heap.size → qO c.v ≠ some b → w'.heap[b]? = w.heap[b]?) : Keeps X w w' :=
 ⟨hs, fun D o _ hD ho => by
  have hlt := (Array.getElem?_eq_some_iff.1 hD).1
  by_cases e : qO c.v = some D
  ·exfalso
   rcases hc.1.2 with ⟨hv, _⟩ | ⟨g, o₀, cap, cur, hv, _, hg, _⟩ | ⟨g, hv, _, hg⟩
   ·rw [hv] at e; cases e
   ·rw [hv] at e
    have e' : g = D := by simpa [qO] using e
    subst e'
    rw [hg] at hD
    cases hD
    cases ho
   ·rw [hv] at e
    have e' : g = D := by simpa [qO] using e
    subst e'
    rw [hg] at hD
    cases hD
    rw [ze7] at ho
    cases ho
  ·exact (hd D hlt e).trans hD⟩
theorem vI {base e size : Nat} {v : Value} {n : Nat} {xs : List Value} (h : ORow w base e size v n xs) (hb : ∀ g, qO v = some g → w'.heap[g]? = w.heap[g]?) : ORow w' base e size v n xs := by
 refine ⟨h.1, ?_⟩
 rcases h.2 with hn | ⟨g, o, cap, cur, rfl, h1, h2, h3⟩ | ⟨g, rfl, h1, h2⟩
 ·exact .inl hn
 ·exact .inr (.inl ⟨g, o, cap, cur, rfl, h1, (hb g rfl).trans h2, h3⟩)
 ·exact .inr (.inr ⟨g, rfl, h1, (hb g rfl).trans h2⟩)
theorem Owns.nil (h : B ≤ w.heap.size) : Owns G w B [] := ⟨fun c hc => (by cases hc), .nil, h⟩
theorem Owns.keep (h : Owns G w B L) (hb : ∀ b, b < w.heap.size → w'.heap[b]? = w.heap[b]?) (hs : w.heap.size ≤ w'.heap.size) (hG : ∀ b, b < w.heap.size → G' b = G b) : Owns G' w' B L :=
 ⟨fun c hc => ⟨vI (h.each c hc).1 fun g hg => hb g ((h.each c hc).lt hg).2, fun g hg => (hG g ((h.each c hc).lt hg).2).trans ((h.each c hc).2 g hg)⟩, h.apart, Nat.le_trans h.base hs⟩
theorem Owns.below (h : Owns G w B L) (hb : Below w.heap.size w w') : Owns G w' B L := h.keep hb.block hb.size fun _ _ => rfl
theorem Owns.grow (h : Owns G w B L) (k : Grow G w G' w') : Owns G' w' B L := h.keep k.below.block k.below.size k.old
theorem Owns.cons_nil (h : Owns G w B L) (e sz : Nat) : Owns G w B (⟨e, sz, 0, .slice none 0 0, []⟩ :: L) :=
 ⟨fun c hc => by
  rcases List.mem_cons.1 hc with rfl | hc
  ·exact ⟨⟨by simp, .inl ⟨rfl, rfl⟩⟩, fun g hg => by simp [qO] at hg⟩
  ·exact h.each c hc, .cons (fun d _ g hg => by simp [qO] at hg) h.apart, h.base⟩
theorem Owns.new (h : Owns G w B L) (hS : Sat G w) (e sz n : Nat) (cs : List Value) (hl : cs.length = n * sz) (hn : n ≤ maxLen) : Owns G (w.alloc (.cells cs.toArray e)) B (⟨e, sz, n, .slice (some ⟨w.heap.size, 0, none⟩) n n, cs⟩ :: L) := by
 have hk : Owns G (w.alloc (.cells cs.toArray e)) B L := h.keep (fun b hb => Below.heap_alloc w _ b hb) (by simp) fun _ _ => rfl
 refine ⟨fun c hc => ?_, .cons (fun d hd g hg => ?_) h.apart, hk.base⟩
 ·rcases List.mem_cons.1 hc with rfl | hc
  ·refine ⟨⟨hl, .inr (.inl ⟨w.heap.size, 0, n, cs.toArray, rfl, h.base, Go.heap_alloc_new w _, Nat.le_refl _, hn, by simp [hl], ?_⟩)⟩, fun g hg => ?_⟩
   ·exact List.take_of_length_le (Nat.le_of_eq hl)
   ·simp [qO] at hg
    subst hg
    cases hG : G w.heap.size with
    | none => rfl
    | some o => exact absurd (hS.lt hG) (Nat.lt_irrefl _)
  ·exact hk.each c hc
 ·simp [qO] at hg
  subst hg
  intro hd'
  exact absurd ((h.each d hd).lt hd').2 (Nat.lt_irrefl _)
theorem zn5 {α : Type} {R : α → α → Prop} (hs : ∀ a b, R a b → R b a) : ∀ {l : List α} {k : Nat} {c : α}, l.Pairwise R → l[k]? = some c → ∀ d ∈ l.eraseIdx k, R c d
 | [], _, _, _, h, _, _ => by simp at h
 | a :: l, 0, c, hp, h, d, hd => by
  simp at h
  subst h
  exact (List.pairwise_cons.1 hp).1 d hd
 | a :: l, k + 1, c, hp, h, d, hd => by
  have hp' := List.pairwise_cons.1 hp
  simp at h
  rcases List.mem_cons.1 hd with rfl | hd
  ·exact hs _ _ (hp'.1 c (List.mem_of_getElem? h))
  ·exact zn5 hs hp'.2 h d hd
theorem zn4 {α : Type} {R : α → α → Prop} (hs : ∀ a b, R a b → R b a) : ∀ {l : List α} {k : Nat} {c : α}, l.Pairwise R → (∀ d ∈ l.eraseIdx k, R c d) → (l.set k c).Pairwise R
 | [], _, _, _, _ => .nil
 | a :: l, 0, c, hp, h => .cons (fun d hd => h d hd) (List.pairwise_cons.1 hp).2
 | a :: l, k + 1, c, hp, h => by
  have hp' := List.pairwise_cons.1 hp
  refine .cons (fun d hd => ?_) (zn4 hs hp'.2 fun d hd => h d (List.mem_cons_of_mem _ hd))
  rcases List.mem_or_eq_of_mem_set hd with hd | rfl
  ·exact hp'.1 d hd
  ·exact hs _ _ (h a (List.mem_cons_self ..))
theorem zeN {α : Type} : ∀ {l : List α} {k : Nat} {c d : α}, d ∈ l.set k c → d = c ∨ d ∈ l.eraseIdx k
 | [], _, _, _, h => by simp at h
 | a :: l, 0, c, d, h => by
  rcases List.mem_cons.1 h with rfl | h
  ·exact .inl rfl
  ·exact .inr h
 | a :: l, k + 1, c, d, h => by
  rcases List.mem_cons.1 h with rfl | h
  ·exact .inr (List.mem_cons_self ..)
  ·rcases zeN h with rfl | h
   ·exact .inl rfl
   ·exact .inr (List.mem_cons_of_mem _ h)
theorem kw {α : Type} : ∀ {l : List α} {k : Nat} {d : α}, d ∈ l.eraseIdx k → d ∈ l
 | [], _, _, h => by simp at h
 | a :: l, 0, _, h => List.mem_cons_of_mem _ h
 | a :: l, k + 1, d, h => by
  rcases List.mem_cons.1 h with rfl | h
  ·exact List.mem_cons_self ..
  ·exact List.mem_cons_of_mem _ (kw h)
theorem zig {α : Type} {R : α → α → Prop} : ∀ {l : List α} {k : Nat}, l.Pairwise R → (l.eraseIdx k).Pairwise R
 | [], _, h => h
 | _ :: _, 0, h => (List.pairwise_cons.1 h).2
 | _ :: _, _ + 1, h => .cons (fun d hd => (List.pairwise_cons.1 h).1 d (kw hd)) (zig (List.pairwise_cons.1 h).2)
theorem kP (a b : Row) (h : ∀ g, qO a.v = some g → qO b.v ≠ some g) : ∀ g, qO b.v = some g → qO a.v ≠ some g := fun g hb ha => h g ha hb
theorem Owns.drop (h : Owns G w B L) (k : Nat) : Owns G w B (L.eraseIdx k) := ⟨fun c hc => h.each c (kw hc), zig h.apart, h.base⟩
theorem Owns.write (h : Owns G w B L) {k : Nat} {c c' : Row} (hk : L[k]? = some c) (hs : w.heap.size ≤ w'.heap.size) (hb : ∀ b, b < w.heap.size → qO c.v ≠ some b → w'.heap[b]? = w.heap[b]?)
  (hc : c'.ok G w' B) (hnew : ∀ g, qO c'.v = some g → qO c.v = some g ∨ w.heap.size ≤ g) : Owns G w' B (L.set k c') := by
 have hap := zn5 kP h.apart hk
 refine ⟨fun d hd => ?_, zn4 kP h.apart fun d hd g hg => ?_, Nat.le_trans h.base hs⟩
 ·rcases zeN hd with rfl | hd
  ·exact hc
  ·have hm := h.each d (kw hd)
   exact ⟨vI hm.1 fun g hg => hb g (hm.lt hg).2 (kP _ _ (hap d hd) g hg), hm.2⟩
 ·rcases hnew g hg with hg | hg
  ·exact hap d hd g hg
  ·intro hd'
   have := ((h.each d (kw hd)).lt hd').2
   omega
theorem vk {c : Row} (hS : Sat G w) (hc : c.ok G w B) (hb : ∀ b, b < w.heap.size → qO c.v ≠ some b → w'.heap[b]? = w.heap[b]?) : Sat G w' := fun b o hG => by
 rw [hb b (hS.lt hG) (fun e => by rw [hc.2 b e] at hG; cases hG)]
 exact hS b o hG
def Rd {α : Type} (R : Gm → List Value → α → Prop) (sz : Nat) (G : Gm) (cells : List Value) (xs : List α) : Prop :=
 cells.length = xs.length * sz ∧ ∀ i x, xs[i]? = some x → ∃ cs, cs.length = sz ∧ (∀ j u, cs[j]? = some u → cells[i * sz + j]? = some u) ∧ R G cs x
theorem Rd.nil {α : Type} (R : Gm → List Value → α → Prop) (sz : Nat) (G : Gm) : Rd R sz G [] [] := ⟨by simp, fun i x h => by simp at h⟩
theorem Rd.mono {α : Type} {R : Gm → List Value → α → Prop} {sz : Nat} {cells : List Value} {xs : List α} (hR : zam R) (h : Rd R sz G cells xs) (hle : Gle G G') : Rd R sz G' cells xs :=
 ⟨h.1, fun i x hx => let ⟨cs, h1, h2, h3⟩ := h.2 i x hx; ⟨cs, h1, h2, hR _ _ _ _ hle h3⟩⟩
theorem Rd.append {α : Type} {R : Gm → List Value → α → Prop} {sz : Nat} {c1 c2 : List Value} {xs ys : List α} (h1 : Rd R sz G c1 xs) (h2 : Rd R sz G c2 ys) : Rd R sz G (c1 ++ c2) (xs ++ ys) := by
 refine ⟨by rw [List.length_append, List.length_append, h1.1, h2.1, Nat.add_mul], fun i x hx => ?_⟩
 by_cases hi : i < xs.length
 ·rw [List.getElem?_append_left hi] at hx
  obtain ⟨cs, p1, p2, p3⟩ := h1.2 i x hx
  refine ⟨cs, p1, fun j u hj => ?_, p3⟩
  have := p2 j u hj
  rw [List.getElem?_append_left (List.getElem?_eq_some_iff.1 this).1]
  exact this
 ·rw [List.getElem?_append_right (by omega)] at hx
  obtain ⟨cs, p1, p2, p3⟩ := h2.2 (i - xs.length) x hx
  refine ⟨cs, p1, fun j u hj => ?_, p3⟩
  have := p2 j u hj
  have he : i * sz + j = c1.length + ((i - xs.length) * sz + j) := by
   rw [h1.1, ← Nat.add_assoc, ← Nat.add_mul]
   congr 2
   omega
  rw [he, List.getElem?_append_right (by omega), Nat.add_sub_cancel_left]
  exact this
def One {α : Type} (R : Gm → List Value → α → Prop) : Prop := ∀ G cs x, R G cs x → ∀ u ∈ cs, u.oneCell' = true
theorem zqI : One yD := fun _ _ _ h u hu => by cases h; simp at hu; subst hu; rfl
theorem RSl.cells {α : Type} {R : Gm → List Value → α → Prop} {sz : Nat} (hone : One R) {ad : Option Addr} {n c : Nat} {ys : List α} (h : RSl R sz G ad n c ys) :
  ∃ news, news.length = n * sz ∧ Rd R sz G news ys ∧ (∀ u ∈ news, u.oneCell' = true) ∧ ∀ a, ad = some a → ∀ j u, news[j]? = some u → G.cell (a.add j) = some u := by
 obtain ⟨hn, hm, h⟩ := h
 subst hn
 clear hm
 have key : ∀ m, m ≤ ys.length → ∃ news, news.length = m * sz ∧ Rd R sz G news (ys.take m) ∧ (∀ u ∈ news, u.oneCell' = true) ∧ ∀ a, ad = some a → ∀ j u, news[j]? = some u → G.cell (a.add j) = some u := by
  intro m
  induction m with
  | zero => intro _; exact ⟨[], by simp, by simpa using Rd.nil R sz G, fun u hu => (by cases hu), fun a _ j u hj => (by simp at hj)⟩
  | succ m ih =>
   intro hm
   obtain ⟨news, h1, h2, h3, h4⟩ := ih (by omega)
   have hx : ys[m]? = some ys[m] := List.getElem?_eq_getElem (by omega)
   obtain ⟨b, off, cs, q1, q2, q3, q4⟩ := h m _ hx
   refine ⟨news ++ cs, by rw [List.length_append, h1, q3, Nat.add_mul, Nat.one_mul], ?_, ?_, ?_⟩
   ·have e : ys.take (m + 1) = ys.take m ++ [ys[m]] := by rw [List.take_succ_eq_append_getElem (by omega)]
    rw [e]
    refine h2.append ⟨by simp [q3], fun i x hx => ?_⟩
    cases i with
    | zero =>
     simp at hx
     subst hx
     exact ⟨cs, q3, fun j u hj => by simpa using hj, q4⟩
    | succ i => simp at hx
   ·intro u hu
    rcases List.mem_append.1 hu with hu | hu
    ·exact h3 u hu
    ·exact hone _ _ _ q4 u hu
   ·intro a ha j u hj
    by_cases hjl : j < news.length
    ·rw [List.getElem?_append_left hjl] at hj
     exact h4 a ha j u hj
    ·rw [List.getElem?_append_right (by omega)] at hj
     rw [q1] at ha
     cases ha
     have := q2 (j - news.length) u hj
     rw [xf]
     have e : off + m * sz + (j - news.length) = off + j := by rw [← h1]; omega
     rw [e] at this
     exact this
 obtain ⟨news, h1, h2, h3, h4⟩ := key ys.length (Nat.le_refl _)
 rw [List.take_length] at h2
 exact ⟨news, h1, h2, h3, h4⟩
theorem Owns.freeze (h : Owns G w B L) (hS : Since B G0 w0 G w) {k : Nat} {c : Row} (hk : L[k]? = some c) :
  ∃ G', Gle G G' ∧ Since B G0 w0 G' w ∧ Owns G' w B (L.eraseIdx k) ∧ (∀ b off n cap, c.v = .slice (some ⟨b, off, none⟩) n cap → Cells G' b off c.cells) ∧ (∀ ad n cap, c.v = .slice ad n cap → n = c.n ∧ (n ≤ maxLen ∧ n ≤ cap) ∧ (ad = none → c.n = 0) ∧ ∀ a, ad = some a → ∃ b o, a = ⟨b, o, none⟩) := by
 have hc := h.each c (List.mem_of_getElem? hk)
 rcases hc.1.2 with ⟨hv, hn⟩ | ⟨g, o₀, cap, cur, hv, hBg, hg, hnc, hcm, hcs, htake⟩ | ⟨g, hv, hBg, hg⟩
 ·refine ⟨G, Gle.refl G, hS, h.drop k, fun b off n cap e => (by rw [hv] at e; cases e), fun ad n cap e => ?_⟩
  rw [hv] at e
  cases e
  exact ⟨hn.symm, ⟨Nat.zero_le _, Nat.zero_le _⟩, fun _ => hn, fun a ha => (by cases ha)⟩
 ·have hGg : G g = none := hc.2 g (by rw [hv]; rfl)
  have hap := zn5 kP h.apart hk
  refine ⟨ins G g (.cells cur c.e (0, 0)), ?_, ?_, ?_, ?_, ?_⟩
  ·intro b o hb
   unfold ins
   split
   ·rename_i e; subst e; rw [hGg] at hb; cases hb
   ·exact hb
  ·refine ⟨hS.le.trans fun b o hb => ?_, fun b o hb => ?_, hS.below, fun b hb => ?_, hS.base, fun b o hb hl => ?_⟩
   ·unfold ins
    split
    ·rename_i e; subst e; rw [hGg] at hb; cases hb
    ·exact hb
   ·unfold ins at hb
    split at hb
    ·rename_i e; subst e; cases hb; exact hg
    ·exact hS.sat b o hb
   ·unfold ins
    rw [if_neg (by omega)]
    exact hS.old b hb
   ·unfold ins at hb
    split at hb
    ·cases hb; rfl
    ·exact hS.cells b o hb hl
  ·refine ⟨fun d hd => ?_, (h.drop k).apart, h.base⟩
   have hm := h.each d (kw hd)
   refine ⟨hm.1, fun g' hg' => ?_⟩
   unfold ins
   rw [if_neg (fun e => by subst e; exact hap d hd g' (by rw [hv]; rfl) hg')]
   exact hm.2 g' hg'
  ·intro b off n cap' e
   rw [hv] at e
   cases e
   refine fun j u hj => ?_
   unfold Gm.cell ins
   simp only [if_true]
   rw [← htake] at hj
   rw [List.getElem?_take] at hj
   split at hj
   ·rw [List.getElem?_drop] at hj
    simpa using hj
   ·cases hj
  ·intro ad n cap' e
   rw [hv] at e
   cases e
   exact ⟨rfl, ⟨Nat.le_trans hnc hcm, hnc⟩, fun e => (by cases e), fun a ha => (by cases ha; exact ⟨g, o₀, rfl⟩)⟩
 ·exact ⟨G, Gle.refl G, hS, h.drop k, fun b off n cap e => (by rw [hv] at e; cases e), fun ad n cap e => (by rw [hv] at e; cases e)⟩
theorem Owns.freezeS (h : Owns G w B L) (hS : Since B G0 w0 G w) {α : Type} {R : Gm → List Value → α → Prop} (hR : zam R) {k : Nat} {e sz n n' cap : Nat} {ad : Option Addr} {cells : List Value} (hk : L[k]? = some ⟨e, sz, n', .slice ad n cap, cells⟩) {xs : List α} (hrd : Rd R sz G cells xs) (hn : n' = xs.length) :
  ∃ G', Gle G G' ∧ Since B G0 w0 G' w ∧ Owns G' w B (L.eraseIdx k) ∧ RSl R sz G' ad n cap xs := by
 obtain ⟨G', h1, h2, h3, h4, h5⟩ := h.freeze hS hk
 refine ⟨G', h1, h2, h3, ?_⟩
 obtain ⟨p1, p2, p3, p4⟩ := h5 ad n cap rfl
 have p1' : n = n' := p1
 refine ⟨p1'.trans hn, p2, fun i x hx => ?_⟩
 cases ad with
 | none =>
  have h0 : n' = 0 := p3 rfl
  have : xs = [] := List.eq_nil_of_length_eq_zero (hn ▸ h0)
  subst this
  simp at hx
 | some a =>
  obtain ⟨b, o, rfl⟩ := p4 a rfl
  have hc := h4 b o n cap rfl
  obtain ⟨cs, q1, q2, q3⟩ := hrd.2 i x hx
  refine ⟨b, o, cs, rfl, fun j u hj => ?_, q1, hR _ _ _ _ h1 q3⟩
  have := hc (i * sz + j) u (q2 j u hj)
  rw [← Nat.add_assoc] at this
  exact this
end
section
variable {κ : Ctx} {p : List PanicEntry → Fr → World → Prop} {P : Program} {N : Nat} {F : Fr} {w : World} {K : Fr → World → Prop} {d : Nat} {ty : TypeId} {pos : String} {af : Array Edge} {gd : Option (Nat × Bool)} {G : Gm} {B : Nat} {L : List Row}
theorem ks {op : Op} {v : Value} {w' : World} (hrun : (execOp (ev F) ⟨some d, op, ty, pos, af, gd⟩).run P w = .ok (.value v) w') (hd : Nat.blt d N = true) (hk : Keeps κ.ex w w') (h : K (upd F d v) w') : OpP κ P N p ⟨some d, op, ty, pos, af, gd⟩ F w K := by
 refine ⟨zcv (fun _ h => by cases h) hrun, fun a wI h1 h3 => ?_⟩
 unfold Oper.wp
 rw [qT, h3, hrun]
 refine ⟨h1.put hk _ _, ?_⟩
 rw [qY a d v (h1.lt hd), h3]; exact h
theorem zY {op : Op} {v : Value} (hrun : (execOp (ev F) ⟨some d, op, ty, pos, af, gd⟩).run P w = .ok (.value v) w) (hd : Nat.blt d N = true) (h : K (upd F d v) w) : OpP κ P N p ⟨some d, op, ty, pos, af, gd⟩ F w K := ks hrun hd (.refl _) h
theorem zfH {op : Op} {w' : World} (hrun : (execOp (ev F) ⟨none, op, ty, pos, af, gd⟩).run P w = .ok .skip w') (hk : Keeps κ.ex w w') (h : K F w') : OpP κ P N p ⟨none, op, ty, pos, af, gd⟩ F w K := by
 refine ⟨zcv (fun _ h => by cases h) hrun, fun a wI h1 h3 => ?_⟩
 unfold Oper.wp
 rw [qT, h3, hrun]
 refine ⟨h1.put hk _ _, ?_⟩
 show K (yO a) w'
 rw [h3]; exact h
theorem jd {op : Op} {f : FuncId} {args : Array Value} {R : Ending → World → Prop} {w' : World} (hrun : (execOp (ev F) ⟨some d, op, ty, pos, af, gd⟩).run P w = .ok (.enter f args) w') (hd : Nat.blt d N = true) (hc : Calls P f args w' R)
  (h : ∀ e w'', R e w'' → ∃ v, e = .returned v ∧ Keeps κ.ex w w'' ∧ K (upd F d v) w'') : OpP κ P N p ⟨some d, op, ty, pos, af, gd⟩ F w K := by
 refine ⟨zcv (fun _ h => by cases h) hrun, fun a wI h1 h3 => ?_⟩
 unfold Oper.wp
 rw [qT, h3, hrun]
 refine hc.mono fun e w'' hR => ?_
 obtain ⟨v, rfl, hk, hW⟩ := h e w'' hR
 refine ⟨h1.put hk _ _, ?_⟩
 rw [qY a d v (h1.lt hd), h3]; exact hW
theorem zy {k : Nat} {args : Array Operand} {ats : Array TypeId} {al : List Value} {v : Value} (hk : zJ P k = true) (hc : Calls P k al.toArray w (qW w v)) (ha : args.toList.map (ev F) = al) (hd : Nat.blt d N = true)
  (h : ∀ w', Below w.heap.size w w' → K (upd F d v) w') : OpP κ P N p ⟨some d, .call { callee := .value (.func k), args := args, argTypes := ats }, ty, pos, af, gd⟩ F w K :=
 jd (zcj hk ha) hd hc fun _ w'' hR => ⟨v, hR.1, .below hR.2, h w'' hR.2⟩
theorem zS {k : Nat} {args : Array Operand} {ats : Array TypeId} {al : List Value} {Φ : Gm → Value → Prop} (hk : zJ P k = true) (hc : Calls P k al.toArray w (yL G w Φ)) (ha : args.toList.map (ev F) = al) (hd : Nat.blt d N = true)
  (h : ∀ v G' w', Grow G w G' w' → Φ G' v → K (upd F d v) w') : OpP κ P N p ⟨some d, .call { callee := .value (.func k), args := args, argTypes := ats }, ty, pos, af, gd⟩ F w K :=
 jd (zcj hk ha) hd hc fun _ w'' ⟨v, G', h1, h2, h3⟩ => ⟨v, h1, .below h2.below, h v G' w'' h2 h3⟩
theorem zP {op : Op} {v : Nat → Value} {cs : List Value} {e : TypeId} (hrun : (execOp (ev F) ⟨some d, op, ty, pos, af, gd⟩).run P w = .ok (.value (v w.heap.size)) (w.alloc (.cells cs.toArray e))) (hS : Sat G w) (hd : Nat.blt d N = true)
  (h : ∀ b G' w', Grow G w G' w' → Cells G' b 0 cs → K (upd F d (v b)) w') : OpP κ P N p ⟨some d, op, ty, pos, af, gd⟩ F w K :=
 ks hrun hd (.alloc _ _) (h _ _ _ (Grow.alloc hS _ rfl) (Cells.of_block (e := e) (fz := (0, 0)) (by unfold ins; simp)))
theorem z7 {op : Op} {v : Nat → Value} {cs : List Value} {e : TypeId} (hrun : (execOp (ev F) ⟨some d, op, ty, pos, af, gd⟩).run P w = .ok (.value (v w.heap.size)) (w.alloc (.cells cs.toArray e))) (hS : Sat G w) (hO : Owns G w B L) (hd : Nat.blt d N = true) (sz n : Nat) (hl : cs.length = n * sz) (hn : n ≤ maxLen)
  (h : ∀ b w', Below w.heap.size w w' → Owns G w' B (⟨e, sz, n, .slice (some ⟨b, 0, none⟩) n n, cs⟩ :: L) → K (upd F d (v b)) w') : OpP κ P N p ⟨some d, op, ty, pos, af, gd⟩ F w K :=
 ks hrun hd (.alloc _ _) (h _ _ ((Below.refl _ w).alloc (Nat.le_refl _) _) (hO.new hS e sz n cs hl hn))
theorem qu {T : Nat} {X : Operand} {cs : List Value} (hx : ev F X = .agg cs.toArray) : (execOp (ev F) ⟨some d, .box T X, ty, pos, af, gd⟩).run P w = .ok (.value ((fun b => .pointer (some ⟨b, 0, none⟩)) w.heap.size)) (w.alloc (.cells cs.toArray T)) := by
 simp only [execOp, hx]; rfl
theorem zhb {T : Nat} {X : Operand} {v : Value} (hx : ev F X = v) (hv : v.cells = #[v]) : (execOp (ev F) ⟨some d, .box T X, ty, pos, af, gd⟩).run P w = .ok (.value ((fun b => .pointer (some ⟨b, 0, none⟩)) w.heap.size)) (w.alloc (.cells [v].toArray T)) := by
 simp only [execOp, hx, Instr.box, newVar, hv]; rfl
end
end Go.Proofs.YtihedfkcccaonaaGreatDoor
