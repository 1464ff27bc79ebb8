/-
  The best plan for the reef; the guards.
-/
import Derived.Test.YtdgkjgljkgjjiaaGreatDoorKnA
namespace Go.Proofs.YtdgkjgljkgjjiaaGreatDoor.Ev
open Go.RowKit

theorem reefE_b : entB Tryz.prog [] 1000 29 reefE = true := by kernel_rfl
theorem guardsE_b : entB Tryz.prog [] 1000 29 guardsE = true := by kernel_rfl
end Go.Proofs.YtdgkjgljkgjjiaaGreatDoor.Ev
