/-
 The best system.
-/
import Derived.Test.YtcapocmenjcnhaaGreatDoorKnA
set_option linter.unusedVariables false
set_option linter.unusedSimpArgs false
namespace Go.Proofs.YtcapocmenjcnhaaGreatDoor.Ev
open Go.RowKit
theorem zvB : zat Tryz.prog zfA 1000 38 znn = true := by kernel_rfl
end Go.Proofs.YtcapocmenjcnhaaGreatDoor.Ev
