/-
 The council: an act is tried.
-/
import Derived.Test.YtncjnffbdhckdaaGreatDoorCb
import Derived.Test.YtncjnffbdhckdaaGreatDoorCc
namespace Go.Proofs.YtncjnffbdhckdaaGreatDoor
open Go.RowKit
set_option linter.unusedVariables false
set_option maxRecDepth 20000
theorem na55c : naB Tryz.prog 55 = true := by kernel_rfl
theorem na89c : naB Tryz.prog 89 = true := by kernel_rfl
theorem cb78c : callB Tryz.prog 78 = true := by kernel_rfl
theorem cb75c : callB Tryz.prog 75 = true := by kernel_rfl
theorem cb76c : callB Tryz.prog 76 = true := by kernel_rfl
theorem cb77c : callB Tryz.prog 77 = true := by kernel_rfl
section
variable {P : Program} {F : Fr} {w : World} {od : Option Nat} {ty t u e : TypeId} {pos : String} {af : Array Edge} {gd : Option (Nat × Bool)} {X Y I : Operand}
theorem rn_idxL {T e sz by' b o n cp j : Nat} {k : IntKind} (hT : slB P T = some (e, sz, by')) (hx : ev F X = .slice (some ⟨b, o, none⟩) n cp) (hi : ev F I = .int k (j : Int)) (hj : j < n) :
  (execOp (ev F) ⟨od, .indexAddr T X I, ty, pos, af, gd⟩).run P w = .ok (.value (.pointer (some ⟨b, o + j * sz, none⟩))) w := by
 obtain ⟨h1, i, z, h2, h3, h4, h5, h6, h7⟩ := slB_spec hT
 have hs : (sizeOf e).run P w = .ok sz w := by simp [sizeOf, typeInfo, h2, h4]
 simp [execOp, hx, hi, Instr.indexAt, asIntOf, run_underlying h1, hs, hj, Addr.add]
end
theorem sl168c : ∃ e by', slB Tryz.prog 168 = some (e, 1, by') := by
 have h : (match slB Tryz.prog 168 with | some (_, s, _) => s == 1 | none => false) = true := by kernel_rfl
 revert h
 cases slB Tryz.prog 168 with
 | none => intro h; cases h
 | some q =>
  obtain ⟨e, s, b⟩ := q
  intro h
  have : s = 1 := by simpa using h
  subst this
  exact ⟨e, b, rfl⟩
theorem f76_ok' {w0 : World} {c k : Nat} {ca : List Value} {is : Bool} (hc : w0.cell? ⟨c, 0, none⟩ = some (.func (.func k) #[] ca.toArray)) (hk : callB Tryz.prog k = true) (h : Calls Tryz.prog k ca.toArray w0 (RetV w0 (.bool is))) :
  Calls Tryz.prog 76 #[pV c] w0 (RetV w0 (iV (cond is 0 2))) := by
 refine enter1 (N := 5) (shutV _ _) Tryz.func76 rfl rfl rfl rfl (zQ (zR (zV (zA (v := iV 0) rfl) rfl (zN (zQ (zR (zV (zL na55c rfl hc) rfl ?_)))))))
 refine zO rfl (OpP_callVF (fi := []) (al := []) (ca := ca) hk h rfl rfl rfl fun w1 h1 => ?_)
 refine zO rfl (zC cb32c (f32_val is 2 w1) rfl rfl fun w2 h2 => ?_)
 refine zV (zA (v := iV (cond is 0 2)) rfl) rfl (zN (zr ?_))
 exact ⟨rfl, h1.trans (h2.mono h1.size)⟩
theorem f80_ok' {w0 : World} {c k : Nat} {ca : List Value} {is : Bool} (hc : w0.cell? ⟨c, 0, none⟩ = some (.func (.func k) #[] ca.toArray)) (hk : callB Tryz.prog k = true) (h : Calls Tryz.prog k ca.toArray w0 (RetV w0 (.bool is))) :
  Calls Tryz.prog 80 #[pV c] w0 (RetV w0 (iV (cond is 0 6))) := by
 refine enter1 (N := 5) (shutV _ _) Tryz.func80 rfl rfl rfl rfl (zQ (zR (zV (zA (v := iV 0) rfl) rfl (zN (zQ (zR (zV (zL na55c rfl hc) rfl ?_)))))))
 refine zO rfl (OpP_callVF (fi := []) (al := []) (ca := ca) hk h rfl rfl rfl fun w1 h1 => ?_)
 refine zO rfl (zC cb32c (f32_val is 6 w1) rfl rfl fun w2 h2 => ?_)
 refine zV (zA (v := iV (cond is 0 6)) rfl) rfl (zN (zr ?_))
 exact ⟨rfl, h1.trans (h2.mono h1.size)⟩
theorem f27_ok {G0 : Gm} {w0 : World} (hS0 : Sat G0 w0) {f : Fn} {a b : Array Value} : Calls Tryz.prog 27 #[.func f a b] w0 (RetG G0 w0 (fun G r => ∃ c, r = .func (.func 80) #[] #[pV c] ∧ Cells G c 0 [.func f a b])) := by
 have hS := Since.start hS0
 refine enter1 (N := 4) (shutG _ _ _) Tryz.func27 rfl rfl rfl rfl (zQ (zR ?_))
 refine zO rfl (OpP_newF (v := fun b => pV b) (cs := [.func f a b]) (e := 55) (by kernel_rfl) hS.sat rfl fun c G1 w1 hg hc => ?_)
 have hS := hS.grow hg
 refine zV (zA (v := .nilFunc) rfl) rfl (zN (zQ (zR (zV (rn_func (vs := []) (us := [pV c]) rfl rfl) rfl (zV (zA (v := .func (.func 80) #[] #[pV c]) rfl) rfl (zN (zr ?_)))))))
 exact ⟨_, _, rfl, hS.toGrow, _, rfl, hc⟩
end Go.Proofs.YtncjnffbdhckdaaGreatDoor
