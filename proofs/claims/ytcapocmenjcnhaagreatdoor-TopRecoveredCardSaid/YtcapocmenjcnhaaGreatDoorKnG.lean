/-
 The best plan for the reef; the guards.
-/
import Derived.Test.YtcapocmenjcnhaaGreatDoorKnA
set_option linter.unusedVariables false
set_option linter.unusedSimpArgs false
namespace Go.Proofs.YtcapocmenjcnhaaGreatDoor.Ev
open Go.RowKit
theorem ztV : zat Tryz.prog [] 1000 29 zlS = true := by kernel_rfl
theorem zsc : zat Tryz.prog [] 1000 29 zhA = true := by kernel_rfl
end Go.Proofs.YtcapocmenjcnhaaGreatDoor.Ev
