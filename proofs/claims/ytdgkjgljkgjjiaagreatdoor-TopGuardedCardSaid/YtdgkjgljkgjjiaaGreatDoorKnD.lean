/-
  The fewest tanks.
-/
import Derived.Test.YtdgkjgljkgjjiaaGreatDoorKnA
namespace Go.Proofs.YtdgkjgljkgjjiaaGreatDoor.Ev
open Go.RowKit

theorem fewestE_b : entB Tryz.prog [] 1000 10 fewestE = true := by kernel_rfl
end Go.Proofs.YtdgkjgljkgjjiaaGreatDoor.Ev
