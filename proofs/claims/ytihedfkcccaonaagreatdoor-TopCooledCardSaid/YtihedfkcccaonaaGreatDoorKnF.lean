/-
 What the example of the chapters answers: true, beside the library's table.
-/
import Derived.Test.YtihedfkcccaonaaGreatDoorKnB
import Derived.Test.YtihedfkcccaonaaGreatDoorKnC
import Derived.Test.YtihedfkcccaonaaGreatDoorKnD
import Derived.Test.YtihedfkcccaonaaGreatDoorKnE
import Derived.Test.YtihedfkcccaonaaGreatDoorKnG
namespace Go.Proofs.YtihedfkcccaonaaGreatDoor.Ev
open Go.RowKit
theorem zmQ : zcX Tryz.prog zfi := by
 intro p hp e he
 simp only [zfi, List.mem_cons, List.not_mem_nil, or_false] at hp
 subst hp
 simp only [List.mem_cons, List.not_mem_nil, or_false] at he
 have h0 : ∀ O, xC O Tryz.prog (evM Tryz.prog [] 1000) := fun O => zfk (zlg _) 1000 O
 rcases he with rfl | rfl | rfl | rfl | rfl | rfl | rfl | rfl | rfl | rfl | rfl | rfl | rfl | rfl
 ·exact ⟨rfl, xk h0 zm4⟩
 ·exact ⟨rfl, xk h0 zm0⟩
 ·exact ⟨rfl, xk h0 zm3⟩
 ·exact ⟨rfl, xk h0 zmX⟩
 ·exact ⟨rfl, xk h0 zmZ⟩
 ·exact ⟨rfl, xk h0 zmU⟩
 ·exact ⟨rfl, xk h0 zm2⟩
 ·exact ⟨rfl, xk h0 zmW⟩
 ·exact ⟨rfl, xk h0 zmS⟩
 ·exact ⟨rfl, xk h0 zmY⟩
 ·exact ⟨rfl, xk h0 zmT⟩
 ·exact ⟨rfl, xk h0 zm1⟩
 ·exact ⟨rfl, xk h0 zmR⟩
 ·exact ⟨rfl, xk h0 zmV⟩
theorem zmG : zcX Tryz.prog zka := by
 have h0 : ∀ O, xC O Tryz.prog (evM Tryz.prog [] 1000) := fun O => zfk (zlg _) 1000 O
 have h1 : ∀ O, xC O Tryz.prog (evM Tryz.prog zfi 1000) := fun O => zfk zmQ 1000 O
 intro p hp e he
 simp only [zka, List.mem_cons, List.not_mem_nil, or_false] at hp
 rcases hp with rfl | rfl | rfl | rfl
 ·have he : e = zhD := by simpa using he
  subst he
  exact ⟨rfl, xk h0 zmP⟩
 ·have he : e = zqm := by simpa using he
  subst he
  exact ⟨rfl, xk h1 zs1⟩
 ·have he : e = znQ := by simpa using he
  subst he
  exact ⟨rfl, xk h0 zq6⟩
 ·have he : e = zhy := by simpa using he
  subst he
  exact ⟨rfl, xk h0 zmM⟩
theorem zmH : zkm (evM Tryz.prog zka 1000 6 [] hp0 2) = true := by kernel_rfl
theorem known20_ok (w : World) {el : TypeId} {fz : Nat × Nat} (hw : w.heap[1]? = some (.cells pw.toArray el fz)) : Calls Tryz.prog 6 #[] w (qW w (.bool true)) := zkz pw 1 (by decide) (by decide) (by decide) zmG zmH w hw
#print axioms known20_ok
end Go.Proofs.YtihedfkcccaonaaGreatDoor.Ev
