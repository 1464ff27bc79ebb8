/-
  Bytes of a text that are written; parts of a text; functions that may return ahead of what they defer.
-/
import Derived.Test.YtcaflmilfhhikaaGreatDoorBaseT
import Derived.Lib.AtoiErrMem
import Derived.Laws.BitsLemmas
import Derived.Laws.IdiomCopy
import Derived.Laws.IdiomStrings
namespace Go.Proofs.YtcaflmilfhhikaaGreatDoor
open Go.RowKit
set_option linter.unusedVariables false

section
variable {κ : Ctx} {p : List PanicEntry → Fr → World → Prop} {P : Program} {N : Nat} {F : Fr} {w : World} {K : Fr → World → Prop} {d : Nat} {od : Option Nat} {ty : TypeId} {pos : String} {af : Array Edge} {gd : Option (Nat × Bool)} {G G0 : Gm} {w0 : World} {B : Nat} {L : List Row} {X Y J Hi : Operand} {T T' e : Nat} {a b : List UInt8} {h : Int} {k' : IntKind}
theorem rn_sliceSH {a b : List UInt8} (hT : P.underlying T = some .string) (hx : ev F X = .string ⟨a.toArray⟩) (hh : ev F Hi = .int k' h) (e : subL a 0 h = some b) :
    (execOp (ev F) ⟨od, .slice T X none (some Hi) none, ty, pos, af, gd⟩).run P w = .ok (.value (.string ⟨b.toArray⟩)) w := by
  obtain ⟨h0, h1, h2, rfl⟩ := subL_some e
  have e1 : (⟨a.toArray⟩ : ByteArray).size = a.length := rfl
  simp only [execOp, hx, hh, Option.map_some, Option.map_none, Sem.run_bind, run_sliceAt_string _ _ _ _ _ _ hT, run_slice_string_h w T _ hT k' h h1 (by rw [e1]; exact h2), Result.andThen_ok, Sem.run_pure, extract_sub (Nat.zero_le h.toNat)]
  rfl
def inL (x : List UInt8) (i : Int) : Option Unit := if 0 ≤ i ∧ i.toNat < x.length then some () else none
end
/-! ### A function that may return ahead of what it defers -/
section
variable {P : Program} {w : World}
def WB (B : Nat) (P : Program) (N : Nat) (fn : Func) (R : Ending → World → Prop) (c : Code) (F : Fr) (w : World) : Prop :=
  ∀ (a : Act) (wI : World), St ⟨none, none, B, true, []⟩ N wI a w → frOf a = F → c.wpIn Fence.wide 0 P (bodyPostM Fence.wide 0 P fn R) a w
theorem WB_seq {B N : Nat} {fn : Func} {R : Ending → World → Prop} {c d : Code} {F : Fr} (Lv : Fr → World → Prop) (hL : ∀ (tmps : Array Value) w', Lv (fun t => tmps.getD t undef) w' → LeavesInM Fence.wide 0 P fn tmps R [] .returning w')
    (h : WC ⟨none, none, B, true, []⟩ P N c ⟨WB B P N fn R d, Lv, [], fun _ _ _ => False⟩ F w) : WB B P N fn R (.seq c d) F w := by
  intro a wI h1 h3
  refine wpIn_seq (wpIn_mono (h a wI h1 h3) ?_)
  rintro e a' w' ⟨p1, p3⟩
  have hds := p1.calm.none rfl
  cases e with
  | normal => exact p3 a' wI p1 rfl
  | ret => show LeavesInM _ _ _ _ _ _ a'.defers _ _; rw [hds]; exact hL _ _ p3
  | exit k => obtain ⟨K, hK, _⟩ := p3; cases hK
  | goto l => exact p3.elim
  | panic c => exact p3.elim
  | outgrown => exact p3.elim
theorem WB_defer {B N : Nat} {fn : Func} {R : Ending → World → Prop} {id : Nat} {l : List Oper} {c1 : Code} {F : Fr} (S : Deferred → Fr → World → Prop) (Q : Deferred → List PanicEntry → Fr → World → Prop)
    (hS : ∀ (d : Deferred) (tmps : Array Value) w', S d (fun t => tmps.getD t undef) w' → LeavesInM Fence.wide 0 P fn tmps R [d] .returning w')
    (hQ : ∀ (d : Deferred) ch (tmps : Array Value) w', Q d ch (fun t => tmps.getD t undef) w' → LeavesInM Fence.wide 0 P fn tmps R [d] (.panicking ch) w')
    (h : WLd B P N l.toArray (fun d => WC ⟨none, none, B, true, [d]⟩ P N c1 ⟨S d, S d, [], Q d⟩) l F w) : WB B P N fn R (.seq (.region id l.toArray false) c1) F w := by
  intro a wI h1 h3
  refine wpIn_seq (wpIn_mono (wpIn_region_lit (h a wI h1 h3)) ?_)
  rintro e a2 w2 ⟨rfl, d, q1, q2⟩
  refine wpIn_mono (q2 a2 wI q1 rfl) ?_
  rintro e a3 w3 ⟨s1, s2⟩
  have hds := s1.calm.none rfl
  cases e with
  | normal => show LeavesInM _ _ _ _ _ _ a3.defers _ _; rw [hds]; exact hS _ _ _ s2
  | ret => show LeavesInM _ _ _ _ _ _ a3.defers _ _; rw [hds]; exact hS _ _ _ s2
  | panic c => show LeavesInM _ _ _ _ _ _ a3.defers _ _; rw [hds]; exact hQ _ _ _ _ s2
  | exit k => obtain ⟨K, hK, _⟩ := s2; cases hK
  | goto l => exact s2.elim
  | outgrown => exact s2.elim
theorem enterB {f : FuncId} {fn : Func} {c : Code} {al : List Value} {R : Ending → World → Prop} {N : Nat} (hf : P.funcs[f]? = some fn) (hb : fn.body = some c) (hn : fn.ntmps = N) (hN : Nat.ble al.length N = true)
    (h : WB w.heap.size P N fn R c (nthD al) w) : Calls P f al.toArray w R := by
  have hle := Nat.le_of_ble_eq_true hN
  have h0 : CallsIn Fence.wide 0 P f al.toArray w R := by
    refine callsIn_of_wp_marks hf hb trivial (h _ w ⟨?_, Calm.nil _ _, Keeps.refl _, Nat.le_refl _⟩ ?_)
    · simp [hn]; omega
    · exact frOf_enter al _ _
  exact callsIn_wide.1 h0
end
end Go.Proofs.YtcaflmilfhhikaaGreatDoor
