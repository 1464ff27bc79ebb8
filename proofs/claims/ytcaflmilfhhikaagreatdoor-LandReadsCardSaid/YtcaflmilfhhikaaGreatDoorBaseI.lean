/-
  Loops that are unrolled; calls that are walked into; slices of slices.
-/
import Derived.Test.YtcaflmilfhhikaaGreatDoorBaseH
import Derived.Laws.Slices
namespace Go.Proofs.YtcaflmilfhhikaaGreatDoor
open Go.RowKit

section
variable {κ : Ctx} {P : Program} {N : Nat} {n r : Fr → World → Prop} {x : List (Nat × (Fr → World → Prop))} {p : List PanicEntry → Fr → World → Prop} {F : Fr} {w : World}
/-! ### A loop, round by round -/
def WI (κ : Ctx) (P : Program) (N : Nat) (c : Code) (Q : Post) (F : Fr) (w : World) : Prop :=
  ∀ (a : Act) (wI : World), St κ N wI a w → frOf a = F → ∀ (b : Frame) (k : List Item) (cs : List Frame), b.roundOf = (FW κ.ro).round → (FW κ.ro).fn b.fn → (FW κ.ro).room (cs.length + 1 + 0) →
    ∃ e a' w', Q.act κ N wI e a' w' ∧ ArrivesIn (Machine.fenced P (FW κ.ro)) P (lone (b.atR a (.code c :: .inLoop c :: k)) cs w) b k cs e a' w'
theorem WC_loopI {c : Code} (h : WI κ P N c ⟨n, r, x, p⟩ F w) : WC κ P N (.loop c) ⟨n, r, x, p⟩ F w := by
  intro a wI h1 h3 b k cs hro hfn hroom
  obtain ⟨e, a', w', hq, harr⟩ := h a wI h1 h3 b k cs hro hfn hroom
  exact ⟨e, a', w', hq, .of_steps (.one (fenced_calm hfn hroom rfl) stepR_loop) harr⟩
theorem WI_step {c : Code} (h : WC κ P N c ⟨WI κ P N c ⟨n, r, x, p⟩, r, x, p⟩ F w) : WI κ P N c ⟨n, r, x, p⟩ F w := by
  intro a wI h1 h3 b k cs hro hfn hroom
  obtain ⟨e, a₁, w₁, ⟨p1, p3⟩, harr⟩ := h a wI h1 h3 b (.inLoop c :: k) cs hro hfn hroom
  cases e with
  | normal =>
    obtain ⟨e₂, a₂, w₂, hq₂, harr₂⟩ := p3 a₁ wI p1 rfl b k cs hro hfn hroom
    exact ⟨e₂, a₂, w₂, hq₂, .of_steps (StepsIn.trans harr (.one (fenced_calm hfn hroom rfl) stepR_inLoop)) harr₂⟩
  | exit id => exact ⟨.exit id, a₁, w₁, ⟨p1, p3⟩, .pass (x := .inLoop c) rfl (fun _ _ => .inl (by simp)) harr⟩
  | ret => exact ⟨.ret, a₁, w₁, ⟨p1, p3⟩, .pass (x := .inLoop c) rfl (fun _ _ => .inl (by simp)) harr⟩
  | goto l => exact p3.elim
  | panic ch => exact ⟨.panic ch, a₁, w₁, ⟨p1, p3⟩, .pass (x := .inLoop c) rfl (fun _ _ => .inl (by simp)) harr⟩
  | outgrown => exact p3.elim
end

/-! ### Calls that are walked into -/
section
variable {κ : Ctx} {p : List PanicEntry → Fr → World → Prop} {P : Program} {N N' : Nat} {F : Fr} {w : World} {K : Fr → World → Prop} {d : Nat} {ty : TypeId} {pos : String} {af : Array Edge} {gd : Option (Nat × Bool)}
theorem enterN {f : FuncId} {fn : Func} {c : Code} {al : List Value} {S : Value → World → Prop} (hf : P.funcs[f]? = some fn) (hb : fn.body = some c) (hn : fn.ntmps = N) (hN : Nat.ble al.length N = true)
    {T : Fr → World → Prop} (hT : ∀ (tmps : Array Value) w', T (fun t => tmps.getD t undef) w' → ∃ v, (results fn tmps).run P w' = .ok v w' ∧ S v w')
    (h : WC ⟨none, none, w.heap.size, true, []⟩ P N c ⟨T, T, [], fun _ _ _ => False⟩ (nthD al) w) : Calls P f al.toArray w fun e w' => ∃ v, e = .returned v ∧ Keeps none w w' ∧ S v w' := by
  have hle := Nat.le_of_ble_eq_true hN
  have h0 : CallsIn Fence.wide 0 P f al.toArray w fun e w' => ∃ v, e = .returned v ∧ Keeps none w w' ∧ S v w' := by
    refine callsIn_of_wp hf hb trivial (wpIn_mono (h _ w ⟨?_, Calm.nil _ _, Keeps.refl _, Nat.le_refl _⟩ ?_) ?_)
    · simp [hn]; omega
    · exact frOf_enter al _ _
    · rintro e a' w' ⟨p1, p3⟩
      cases e with
      | normal =>
        obtain ⟨v, h1, h2⟩ := hT a'.tmps w' p3
        exact ⟨p1.calm.none rfl, v, h1, v, rfl, p1.keep, h2⟩
      | ret =>
        obtain ⟨v, h1, h2⟩ := hT a'.tmps w' p3
        exact ⟨p1.calm.none rfl, v, h1, v, rfl, p1.keep, h2⟩
      | exit k => obtain ⟨K, hK, _⟩ := p3; cases hK
      | goto l => exact p3.elim
      | panic c => exact p3.elim
      | outgrown => exact p3.elim
  exact callsIn_wide.1 h0
theorem OpP_in {k : Nat} {args : Array Operand} {ats : Array TypeId} {al : List Value} (hk : callB P k = true) (ha : args.toList.map (ev F) = al) (hd : Nat.blt d N = true)
    (hc : Calls P k al.toArray w fun e w' => ∃ v, e = .returned v ∧ Keeps none w w' ∧ K (upd F d v) w') : OpP κ P N p ⟨some d, .call { callee := .value (.func k), args := args, argTypes := ats }, ty, pos, af, gd⟩ F w K :=
  OpP_enter (rn_call hk ha) hd hc fun _ _ ⟨v, h1, h2, h3⟩ => ⟨v, h1, h2.weak, h3⟩
variable {f : FuncId} {fn : Func} {c : Code} {args : Array Operand} {ats : Array TypeId}
theorem OpP_in1 {t : Nat} (al : List Value) (hk : callB P f = true) (hf : P.funcs[f]? = some fn) (hb : fn.body = some c) (hr : fn.results = #[.tmp t]) (hn : fn.ntmps = N') (hN : Nat.ble al.length N' = true) (ha : args.toList.map (ev F) = al) (hd : Nat.blt d N = true)
    (h : WC ⟨none, none, w.heap.size, true, []⟩ P N' c ⟨fun F' w' => ∃ v, F' t = v ∧ K (upd F d v) w', fun F' w' => ∃ v, F' t = v ∧ K (upd F d v) w', [], fun _ _ _ => False⟩ (nthD al) w) : OpP κ P N p ⟨some d, .call { callee := .value (.func f), args := args, argTypes := ats }, ty, pos, af, gd⟩ F w K :=
  OpP_in hk ha hd (enterN (S := fun v w' => K (upd F d v) w') hf hb hn hN (fun tmps w' ⟨v, h1, h2⟩ => ⟨_, results_tmp hr _ _ _, by
    have e : tmps.getD t undef = v := h1
    show K (upd F d (tmps.getD t undef)) w'
    rw [e]; exact h2⟩) h)
end

/-! ### Slices of slices -/
def subL {α : Type} (xs : List α) (l h : Int) : Option (List α) := if 0 ≤ l ∧ l ≤ h ∧ h ≤ (xs.length : Int) then some ((xs.drop l.toNat).take (h.toNat - l.toNat)) else none
theorem subL_some {α : Type} {xs zs : List α} {l h : Int} (e : subL xs l h = some zs) : 0 ≤ l ∧ l ≤ h ∧ h ≤ (xs.length : Int) ∧ zs = (xs.drop l.toNat).take (h.toNat - l.toNat) := by
  unfold subL at e
  split at e
  · rename_i h0; exact ⟨h0.1, h0.2.1, h0.2.2, (Option.some.inj e).symm⟩
  · cases e
section
variable {κ : Ctx} {P : Program} {N : Nat} {F : Fr} {d : Option Nat} {ty : TypeId} {pos : String} {af : Array Edge} {gd : Option (Nat × Bool)} {T e sz bytes n c : Nat} {X : Operand} {ad : Option Addr}
theorem elem_of {P : Program} {T e sz bytes : Nat} (hT : slB P T = some (e, sz, bytes)) : P.underlying T = some (.slice (P.elem T)) ∧ ∀ w, (sizeOf (P.elem T)).run P w = .ok sz w := by
  obtain ⟨hu, i, z, hi, _, rfl, _⟩ := slB_spec hT
  have he : P.elem T = e := by simp [Program.elem, hu]
  rw [he]
  exact ⟨hu, fun w => by simp [sizeOf, typeInfo, hi]⟩
theorem rn_sliceL {L : Operand} {k : IntKind} {l : Int} (hT : slB P T = some (e, sz, bytes)) (hx : ev F X = .slice ad n c) (hl : ev F L = .int k l) (h0 : 0 ≤ l) (h1 : l ≤ (n : Int)) (w : World) :
    (execOp (ev F) ⟨d, .slice T X (some L) none none, ty, pos, af, gd⟩).run P w = .ok (.value (sliced ad l.toNat n c sz)) w := by
  obtain ⟨q1, q2⟩ := elem_of hT
  simp [execOp, hx, hl, run_sliceAt_slice _ _ _ _ _ _ q1, run_slice_l w T ad n c q1 k l h0 h1, q2, Result.andThen]
/-- A slice of a slice that is read. -/
theorem RSl.sub {α : Type} {R : Gm → List Value → α → Prop} {G : Gm} {xs zs : List α} {l h : Int} (hs : RSl R sz G ad n c xs) (e : subL xs l h = some zs) {q : Nat} (hq : h.toNat = q) :
    ∃ a' n' c', sliced ad l.toNat q c sz = .slice a' n' c' ∧ RSl R sz G a' n' c' zs := by
  subst hq
  obtain ⟨h0, h1, h2, rfl⟩ := subL_some e
  obtain ⟨p1, ⟨p2, p2'⟩, p3⟩ := hs
  refine ⟨_, _, _, rfl, ?_, ⟨by omega, by omega⟩, fun i y hy => ?_⟩
  · simp only [List.length_take, List.length_drop]; omega
  · rw [List.getElem?_take] at hy
    split at hy
    · rename_i hi
      rw [List.getElem?_drop] at hy
      obtain ⟨b, off, cs, q1, q2, q3, q4⟩ := p3 _ _ hy
      refine ⟨b, off + l.toNat * sz, cs, ?_, ?_, q3, q4⟩
      · rw [if_neg (by omega), q1]
        simp [add_addr]
      · have : off + l.toNat * sz + i * sz = off + (l.toNat + i) * sz := by rw [Nat.add_mul]; omega
        rw [this]; exact q2
    · cases hy
end
end Go.Proofs.YtcaflmilfhhikaaGreatDoor
