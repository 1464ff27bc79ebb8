/-
  Functions that may leave by a panic.
-/
import Derived.Test.YtcaflmilfhhikaaGreatDoorBaseK
import Derived.Tactics
import Derived.Tactics2
import Derived.Defers
import Derived.Recover
import Derived.TacticsInMore
import Derived.RegionIn
import Derived.RecoverIn
namespace Go.Proofs.YtcaflmilfhhikaaGreatDoor
open Go.RowKit
set_option linter.unusedVariables false

/-- Behind a panic: the marks are shut, the panic goes on. -/
theorem leavesM_calmP {P : Program} {fn : Func} {tmps : Array Value} {R : Ending → World → Prop} {κ : Ctx} (hdf : κ.df = []) {ch : List PanicEntry} : ∀ (ds : List Deferred) (w : World), Calm κ ds w → (∀ w', Shut κ.ba w w' → R (.panicked ch) w') → LeavesInM Fence.wide 0 P fn tmps R ds (.panicking ch) w
  | [], w, _, h => h w (Shut.refl _ _)
  | d :: ds, w, hc, h => by
    obtain ⟨D, hd, hD, _, hB⟩ := (hc.each d (by simp)).resolve_left (by rw [hdf]; simp)
    refine ⟨by simp, .inl ⟨D, w.putObj D (.deferred none), by rw [hd], run_takeDeferred hD, ?_⟩⟩
    have hp := List.pairwise_cons.1 hc.apart
    refine leavesM_calmP hdf ds _ ⟨fun e he => .inr ?_, hp.2, fun h => absurd (hc.none h) (by rw [hdf]; simp)⟩ fun w' hw' => h w' ((Shut.one hB hD none).trans hw')
    obtain ⟨E, h1, h2, h3, h4⟩ := (hc.each e (by simp [he])).resolve_left (by rw [hdf]; simp)
    have hne : E ≠ D := by intro e'; subst e'; exact hp.1 e he (by rw [hd, h1])
    exact ⟨E, h1, (World.putObj_heap_other hne).trans h2, h3, h4⟩
section
variable {P : Program} {w : World}
/-- Entering a function that may panic. -/
theorem enterRP {f : FuncId} {fn : Func} {c : Code} {al : List Value} {R : Ending → World → Prop} {N : Nat} (S : Fr → World → Prop) (Q : List PanicEntry → Fr → World → Prop) (hf : P.funcs[f]? = some fn) (hb : fn.body = some c) (hn : fn.ntmps = N) (hN : Nat.ble al.length N = true)
    (hS : ∀ (tmps : Array Value) w' w'', S (fun t => tmps.getD t undef) w' → Shut w.heap.size w' w'' → ∃ v, (results fn tmps).run P w'' = .ok v w'' ∧ R (.returned v) w'')
    (hQ : ∀ ch F w' w'', Q ch F w' → Shut w.heap.size w' w'' → R (.panicked ch) w'')
    (h : WC ⟨none, none, w.heap.size, false, []⟩ P N c ⟨S, S, [], Q⟩ (nthD al) w) : Calls P f al.toArray w R := by
  have hle := Nat.le_of_ble_eq_true hN
  have h0 : CallsIn Fence.wide 0 P f al.toArray w R := by
    refine callsIn_of_wp_marks hf hb trivial (wpIn_mono (h _ w ⟨?_, Calm.nil _ _, Keeps.refl _, Nat.le_refl _⟩ ?_) ?_)
    · simp [hn]; omega
    · exact frOf_enter al _ _
    · rintro e a' w' ⟨p1, p3⟩
      cases e with
      | normal => exact leavesM_calm rfl _ _ p1.calm fun w'' hw => hS _ _ _ p3 hw
      | ret => exact leavesM_calm rfl _ _ p1.calm fun w'' hw => hS _ _ _ p3 hw
      | exit k => obtain ⟨K, hK, _⟩ := p3; cases hK
      | goto l => exact p3.elim
      | panic c => exact leavesM_calmP rfl _ _ p1.calm fun w'' hw => hQ _ _ _ _ p3 hw
      | outgrown => exact p3.elim
  exact callsIn_wide.1 h0
/-- What a function does that hands back a value, or panics. -/
def RetE (w0 : World) (e0 : Ending) : Ending → World → Prop := fun e w' => e = e0 ∧ Below w0.heap.size w0 w'
theorem shutE (w0 : World) (e0 : Ending) : ShutOk w0.heap.size (RetE w0 e0) :=
  ⟨fun _ _ _ h hs => ⟨h.1, ⟨hs.os.trans h.2.os, hs.tape.trans h.2.tape, hs.output.trans h.2.output, by rw [hs.size]; exact h.2.size, fun k hk => (hs.low k hk).trans (h.2.block k hk)⟩⟩⟩
theorem enterE0 {f : FuncId} {fn : Func} {c : Code} {al : List Value} {N : Nat} {e0 : Ending} (hf : P.funcs[f]? = some fn) (hb : fn.body = some c) (hr : fn.results = #[]) (hn : fn.ntmps = N) (hN : Nat.ble al.length N = true)
    (h : WC ⟨none, none, w.heap.size, false, []⟩ P N c ⟨fun _ w' => RetE w e0 (.returned (.tuple #[])) w', fun _ w' => RetE w e0 (.returned (.tuple #[])) w', [], fun ch _ w' => RetE w e0 (.panicked ch) w'⟩ (nthD al) w) : Calls P f al.toArray w (RetE w e0) :=
  enterRP _ _ hf hb hn hN (fun tmps w' w'' h1 h2 => ⟨.tuple #[], by simp [results, hr], (shutE _ _).out _ _ _ h1 h2⟩) (fun _ _ _ _ h1 h2 => (shutE _ _).out _ _ _ h1 h2) h
theorem enterE1 {f : FuncId} {fn : Func} {c : Code} {al : List Value} {t N : Nat} {e0 : Ending} (hf : P.funcs[f]? = some fn) (hb : fn.body = some c) (hr : fn.results = #[.tmp t]) (hn : fn.ntmps = N) (hN : Nat.ble al.length N = true)
    (h : WC ⟨none, none, w.heap.size, false, []⟩ P N c ⟨fun F w' => RetE w e0 (.returned (F t)) w', fun F w' => RetE w e0 (.returned (F t)) w', [], fun ch _ w' => RetE w e0 (.panicked ch) w'⟩ (nthD al) w) : Calls P f al.toArray w (RetE w e0) :=
  enterRP _ _ hf hb hn hN (fun tmps w' w'' h1 h2 => ⟨_, results_tmp hr _ _ _, (shutE _ _).out _ _ _ h1 h2⟩) (fun _ _ _ _ h1 h2 => (shutE _ _).out _ _ _ h1 h2) h
/-! ### Deferred calls -/
/-- A region's operations of which the last one defers a call. -/
def WLd (B : Nat) (P : Program) (N : Nat) (ops : Array Oper) (M : Deferred → Fr → World → Prop) (l : List Oper) (F : Fr) (w : World) : Prop :=
  ∀ (a : Act) (wI : World), St ⟨none, none, B, true, []⟩ N wI a w → frOf a = F → wpListIn Fence.wide 0 P ops (fun e a' w' => e = .normal ∧ ∃ d, St ⟨none, none, B, true, [d]⟩ N wI a' w' ∧ M d (frOf a') w') l a w
section
variable {B N : Nat} {ops : Array Oper} {M : Deferred → Fr → World → Prop} {l : List Oper} {F : Fr}
theorem WLd_val {d : Nat} {op : Op} {ty : TypeId} {pos : String} {af : Array Edge} {v : Value}
    (hrun : (execOp (ev F) ⟨some d, op, ty, pos, af, none⟩).run P w = .ok (.value v) w) (hd : Nat.blt d N = true) (h : WLd B P N ops M l (upd F d v) w) : WLd B P N ops M (⟨some d, op, ty, pos, af, none⟩ :: l) F w := by
  intro a wI h1 h3
  refine wpListIn_plain rfl fun K' hK' => ⟨fun _ _ => trivial, ?_⟩
  rw [semFW (ρ := Fence.wide.round) (w' := w) (nx := .value v) (fun _ h => by cases h) (by rw [eval_frOf, h3]; exact hrun)]
  refine hK' _ _ (h _ wI (h1.puts _ _) ?_)
  rw [← h3]; exact frOf_put a d v (h1.lt hd)
theorem WLd_defer {op : Op} {ty : TypeId} {pos : String} {af : Array Edge} {d : Deferred} (hd : ∀ D, d.target ≠ .collected D) (hrun : (execOp (ev F) ⟨none, op, ty, pos, af, none⟩).run P w = .ok (.defer d) w) (h : M d F w) : WLd B P N ops M [⟨none, op, ty, pos, af, none⟩] F w := by
  intro a wI h1 h3
  refine wpListIn_plain rfl fun K' hK' => ⟨fun _ _ => trivial, ?_⟩
  have e : (Oper.semAt Fence.wide.round a.eval ⟨none, op, ty, pos, af, none⟩).run P w = .ok (.defer d) w := by
    show (Oper.semAt none a.eval _).run P w = _
    rw [Oper.semAt_none, eval_frOf, h3]; exact hrun
  rw [e]
  have hnil : a.defers = [] := h1.calm.none rfl
  refine hK' _ _ ⟨rfl, d, ⟨h1.size, ⟨fun x hx => .inl ?_, ?_, fun _ => ?_⟩, h1.keep, h1.base⟩, ?_⟩
  · simpa [Act.put, hnil] using hx
  · show List.Pairwise _ (d :: a.defers)
    rw [hnil]; exact List.pairwise_singleton _ _
  · show d :: a.defers = [d]
    rw [hnil]
  · show M d (frOf a) w
    rw [h3]; exact h
end
end
end Go.Proofs.YtcaflmilfhhikaaGreatDoor
