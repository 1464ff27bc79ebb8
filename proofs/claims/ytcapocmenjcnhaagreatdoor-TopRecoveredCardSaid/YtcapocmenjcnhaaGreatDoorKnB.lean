/-
 The zfA of all but the last of the systems that are tried.
-/
import Derived.Test.YtcapocmenjcnhaaGreatDoorKnA
set_option linter.unusedVariables false
set_option linter.unusedSimpArgs false
namespace Go.Proofs.YtcapocmenjcnhaaGreatDoor.Ev
open Go.RowKit
theorem zsv : zat Tryz.prog [] 1000 38 zk6 = true := by kernel_rfl
theorem zsr : zat Tryz.prog [] 1000 38 zk2 = true := by kernel_rfl
theorem zsu : zat Tryz.prog [] 1000 38 zk5 = true := by kernel_rfl
theorem zso : zat Tryz.prog [] 1000 38 zkZ = true := by kernel_rfl
theorem zsq : zat Tryz.prog [] 1000 38 zk1 = true := by kernel_rfl
theorem zsl : zat Tryz.prog [] 1000 38 zkW = true := by kernel_rfl
theorem zst : zat Tryz.prog [] 1000 38 zk4 = true := by kernel_rfl
theorem zsn : zat Tryz.prog [] 1000 38 zkY = true := by kernel_rfl
theorem zsj : zat Tryz.prog [] 1000 38 zkU = true := by kernel_rfl
theorem zsp : zat Tryz.prog [] 1000 38 zk0 = true := by kernel_rfl
theorem zsk : zat Tryz.prog [] 1000 38 zkV = true := by kernel_rfl
theorem zss : zat Tryz.prog [] 1000 38 zk3 = true := by kernel_rfl
theorem zsi : zat Tryz.prog [] 1000 38 zkT = true := by kernel_rfl
end Go.Proofs.YtcapocmenjcnhaaGreatDoor.Ev
