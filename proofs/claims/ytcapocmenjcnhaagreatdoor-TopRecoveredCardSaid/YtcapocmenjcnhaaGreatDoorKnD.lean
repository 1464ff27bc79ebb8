/-
 The fewest tanks.
-/
import Derived.Test.YtcapocmenjcnhaaGreatDoorKnA
set_option linter.unusedVariables false
set_option linter.unusedSimpArgs false
namespace Go.Proofs.YtcapocmenjcnhaaGreatDoor.Ev
open Go.RowKit
theorem zsg : zat Tryz.prog [] 1000 10 zhF = true := by kernel_rfl
end Go.Proofs.YtcapocmenjcnhaaGreatDoor.Ev
