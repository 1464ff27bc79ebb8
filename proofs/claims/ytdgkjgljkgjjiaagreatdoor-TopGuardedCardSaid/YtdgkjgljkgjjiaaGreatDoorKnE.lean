/-
  The best system.
-/
import Derived.Test.YtdgkjgljkgjjiaaGreatDoorKnA
namespace Go.Proofs.YtdgkjgljkgjjiaaGreatDoor.Ev
open Go.RowKit

theorem bestE_b : entB Tryz.prog faults 1000 38 bestE = true := by kernel_rfl
end Go.Proofs.YtdgkjgljkgjjiaaGreatDoor.Ev
