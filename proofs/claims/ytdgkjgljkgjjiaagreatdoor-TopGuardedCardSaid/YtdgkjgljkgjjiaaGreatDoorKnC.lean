/-
  The system that has no fault.
-/
import Derived.Test.YtdgkjgljkgjjiaaGreatDoorKnA
namespace Go.Proofs.YtdgkjgljkgjjiaaGreatDoor.Ev
open Go.RowKit

theorem fault22_b : entB Tryz.prog [] 1000 38 fault22 = true := by kernel_rfl
end Go.Proofs.YtdgkjgljkgjjiaaGreatDoor.Ev
