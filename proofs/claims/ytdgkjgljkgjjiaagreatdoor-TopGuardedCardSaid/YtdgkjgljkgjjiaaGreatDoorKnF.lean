/-
  What the example of the chapters answers: true, beside the library's table.
-/
import Derived.Test.YtdgkjgljkgjjiaaGreatDoorKnB
import Derived.Test.YtdgkjgljkgjjiaaGreatDoorKnC
import Derived.Test.YtdgkjgljkgjjiaaGreatDoorKnD
import Derived.Test.YtdgkjgljkgjjiaaGreatDoorKnE
import Derived.Test.YtdgkjgljkgjjiaaGreatDoorKnG
namespace Go.Proofs.YtdgkjgljkgjjiaaGreatDoor.Ev
open Go.RowKit

theorem faults_ok : EntsS Tryz.prog faults := by
  intro p hp e he
  simp only [faults, List.mem_cons, List.not_mem_nil, or_false] at hp
  subst hp
  simp only [List.mem_cons, List.not_mem_nil, or_false] at he
  have h0 : ∀ O, CallS O Tryz.prog (evM Tryz.prog [] 1000) := fun O => evM_ok (none_ok _) 1000 O
  rcases he with rfl | rfl | rfl | rfl | rfl | rfl | rfl | rfl | rfl | rfl | rfl | rfl | rfl | rfl
  · exact ⟨rfl, ent_ok h0 fault00_b⟩
  · exact ⟨rfl, ent_ok h0 fault10_b⟩
  · exact ⟨rfl, ent_ok h0 fault01_b⟩
  · exact ⟨rfl, ent_ok h0 fault20_b⟩
  · exact ⟨rfl, ent_ok h0 fault11_b⟩
  · exact ⟨rfl, ent_ok h0 fault30_b⟩
  · exact ⟨rfl, ent_ok h0 fault02_b⟩
  · exact ⟨rfl, ent_ok h0 fault21_b⟩
  · exact ⟨rfl, ent_ok h0 fault40_b⟩
  · exact ⟨rfl, ent_ok h0 fault12_b⟩
  · exact ⟨rfl, ent_ok h0 fault31_b⟩
  · exact ⟨rfl, ent_ok h0 fault03_b⟩
  · exact ⟨rfl, ent_ok h0 fault50_b⟩
  · exact ⟨rfl, ent_ok h0 fault22_b⟩
theorem knowns_ok : EntsS Tryz.prog knowns := by
  have h0 : ∀ O, CallS O Tryz.prog (evM Tryz.prog [] 1000) := fun O => evM_ok (none_ok _) 1000 O
  have h1 : ∀ O, CallS O Tryz.prog (evM Tryz.prog faults 1000) := fun O => evM_ok faults_ok 1000 O
  intro p hp e he
  simp only [knowns, List.mem_cons, List.not_mem_nil, or_false] at hp
  rcases hp with rfl | rfl | rfl | rfl
  · have he : e = fewestE := by simpa using he
    subst he
    exact ⟨rfl, ent_ok h0 fewestE_b⟩
  · have he : e = bestE := by simpa using he
    subst he
    exact ⟨rfl, ent_ok h1 bestE_b⟩
  · have he : e = reefE := by simpa using he
    subst he
    exact ⟨rfl, ent_ok h0 reefE_b⟩
  · have he : e = guardsE := by simpa using he
    subst he
    exact ⟨rfl, ent_ok h0 guardsE_b⟩
theorem known20_b : isTrue (evM Tryz.prog knowns 1000 5 [] hp0 2) = true := by kernel_rfl
/-- known20 says true, wherever the table of powers lies as it was laid. -/
theorem known20_ok (w : World) {el : TypeId} {fz : Nat × Nat} (hw : w.heap[1]? = some (.cells pw.toArray el fz)) : Calls Tryz.prog 5 #[] w (RetV w (.bool true)) := closed_okT pw 1 (by decide) (by decide) (by decide) knowns_ok known20_b w hw
#print axioms known20_ok
end Go.Proofs.YtdgkjgljkgjjiaaGreatDoor.Ev
