/-
 What the example of the chapters answers: true, beside the library's table.
-/
import Derived.Test.YtcapocmenjcnhaaGreatDoorKnB
import Derived.Test.YtcapocmenjcnhaaGreatDoorKnC
import Derived.Test.YtcapocmenjcnhaaGreatDoorKnD
import Derived.Test.YtcapocmenjcnhaaGreatDoorKnE
import Derived.Test.YtcapocmenjcnhaaGreatDoorKnG
set_option linter.unusedVariables false
set_option linter.unusedSimpArgs false
namespace Go.Proofs.YtcapocmenjcnhaaGreatDoor.Ev
open Go.RowKit
theorem zsh : zdi Tryz.prog zfA := by
 intro p hp e he
 simp only [zfA, List.mem_cons, List.not_mem_nil, or_false] at hp
 subst hp
 simp only [List.mem_cons, List.not_mem_nil, or_false] at he
 have h0 : ∀ O, xU O Tryz.prog (evM Tryz.prog [] 1000) := fun O => zfF (zkv _) 1000 O
 rcases he with rfl | rfl | rfl | rfl | rfl | rfl | rfl | rfl | rfl | rfl | rfl | rfl | rfl | rfl
 ·exact ⟨rfl, xG h0 zsv⟩
 ·exact ⟨rfl, xG h0 zsr⟩
 ·exact ⟨rfl, xG h0 zsu⟩
 ·exact ⟨rfl, xG h0 zso⟩
 ·exact ⟨rfl, xG h0 zsq⟩
 ·exact ⟨rfl, xG h0 zsl⟩
 ·exact ⟨rfl, xG h0 zst⟩
 ·exact ⟨rfl, xG h0 zsn⟩
 ·exact ⟨rfl, xG h0 zsj⟩
 ·exact ⟨rfl, xG h0 zsp⟩
 ·exact ⟨rfl, xG h0 zsk⟩
 ·exact ⟨rfl, xG h0 zss⟩
 ·exact ⟨rfl, xG h0 zsi⟩
 ·exact ⟨rfl, xG h0 zsm⟩
theorem zr7 : zdi Tryz.prog zjv := by
 have h0 : ∀ O, xU O Tryz.prog (evM Tryz.prog [] 1000) := fun O => zfF (zkv _) 1000 O
 have h1 : ∀ O, xU O Tryz.prog (evM Tryz.prog zfA 1000) := fun O => zfF zsh 1000 O
 intro p hp e he
 simp only [zjv, List.mem_cons, List.not_mem_nil, or_false] at hp
 rcases hp with rfl | rfl | rfl | rfl
 ·have he : e = zhF := by simpa using he
  subst he
  exact ⟨rfl, xG h0 zsg⟩
 ·have he : e = znn := by simpa using he
  subst he
  exact ⟨rfl, xG h1 zvB⟩
 ·have he : e = zlS := by simpa using he
  subst he
  exact ⟨rfl, xG h0 ztV⟩
 ·have he : e = zhA := by simpa using he
  subst he
  exact ⟨rfl, xG h0 zsc⟩
theorem zr8 : zjG (evM Tryz.prog zjv 1000 6 [] hp0 2) = true := by kernel_rfl
theorem known20_ok (w : World) {el : TypeId} {fz : Nat × Nat} (hw : w.heap[1]? = some (.cells pw.toArray el fz)) : Calls Tryz.prog 6 #[] w (qQ w (.bool true)) := zrI pw 1 (by decide) (by decide) (by decide) zr7 zr8 w hw
#print axioms known20_ok
end Go.Proofs.YtcapocmenjcnhaaGreatDoor.Ev
