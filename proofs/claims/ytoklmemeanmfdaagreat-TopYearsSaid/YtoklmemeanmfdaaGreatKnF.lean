/-
  What the example of the chapters answers: true, in whatever world.
-/
import Derived.Test.YtoklmemeanmfdaaGreatKnB
import Derived.Test.YtoklmemeanmfdaaGreatKnC
import Derived.Test.YtoklmemeanmfdaaGreatKnD
import Derived.Test.YtoklmemeanmfdaaGreatKnE
namespace Go.Proofs.YtoklmemeanmfdaaGreat.Ev
open Go.RowKit

theorem faults_ok : EntsS Tryz.prog faults := by
  intro p hp e he
  simp only [faults, List.mem_cons, List.not_mem_nil, or_false] at hp
  subst hp
  simp only [List.mem_cons, List.not_mem_nil, or_false] at he
  have h0 : ∀ O, CallS O Tryz.prog (evM Tryz.prog [] 1000) := fun O => evM_ok (none_ok _) 1000 O
  rcases he with rfl | rfl | rfl | rfl | rfl | rfl | rfl | rfl | rfl | rfl | rfl | rfl | rfl | rfl
  · exact ⟨rfl, ent_ok h0 fault00_b⟩
  · exact ⟨rfl, ent_ok h0 fault10_b⟩
  · exact ⟨rfl, ent_ok h0 fault01_b⟩
  · exact ⟨rfl, ent_ok h0 fault20_b⟩
  · exact ⟨rfl, ent_ok h0 fault11_b⟩
  · exact ⟨rfl, ent_ok h0 fault30_b⟩
  · exact ⟨rfl, ent_ok h0 fault02_b⟩
  · exact ⟨rfl, ent_ok h0 fault21_b⟩
  · exact ⟨rfl, ent_ok h0 fault40_b⟩
  · exact ⟨rfl, ent_ok h0 fault12_b⟩
  · exact ⟨rfl, ent_ok h0 fault31_b⟩
  · exact ⟨rfl, ent_ok h0 fault03_b⟩
  · exact ⟨rfl, ent_ok h0 fault50_b⟩
  · exact ⟨rfl, ent_ok h0 fault22_b⟩
theorem knowns_ok : EntsS Tryz.prog knowns := by
  have h0 : ∀ O, CallS O Tryz.prog (evM Tryz.prog [] 1000) := fun O => evM_ok (none_ok _) 1000 O
  have h1 : ∀ O, CallS O Tryz.prog (evM Tryz.prog faults 1000) := fun O => evM_ok faults_ok 1000 O
  intro p hp e he
  simp only [knowns, List.mem_cons, List.not_mem_nil, or_false] at hp
  rcases hp with rfl | rfl | rfl
  · have he : e = fewestE := by simpa using he
    subst he
    exact ⟨rfl, ent_ok h0 fewestE_b⟩
  · have he : e = bestE := by simpa using he
    subst he
    exact ⟨rfl, ent_ok h1 bestE_b⟩
  · have he : e = sellE := by simpa using he
    subst he
    exact ⟨rfl, ent_ok h0 sellE_b⟩
theorem known11_b : isTrue (evM Tryz.prog knowns 1000 7 [] (tnil 14) 0) = true := by kernel_rfl
theorem known11_ok (w : World) : Calls Tryz.prog 7 #[] w (RetV w (.bool true)) := closed_ok rfl knowns_ok known11_b w
#print axioms known11_ok
end Go.Proofs.YtoklmemeanmfdaaGreat.Ev
