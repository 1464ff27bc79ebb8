/-
 The system that has no fault.
-/
import Derived.Test.YtcapocmenjcnhaaGreatDoorKnA
set_option linter.unusedVariables false
set_option linter.unusedSimpArgs false
namespace Go.Proofs.YtcapocmenjcnhaaGreatDoor.Ev
open Go.RowKit
theorem zsm : zat Tryz.prog [] 1000 38 zkX = true := by kernel_rfl
end Go.Proofs.YtcapocmenjcnhaaGreatDoor.Ev
