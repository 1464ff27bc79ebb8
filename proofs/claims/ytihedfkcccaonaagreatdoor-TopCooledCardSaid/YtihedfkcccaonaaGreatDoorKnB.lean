/-
 The zfi of all but the last of the systems that are tried.
-/
import Derived.Test.YtihedfkcccaonaaGreatDoorKnA
namespace Go.Proofs.YtihedfkcccaonaaGreatDoor.Ev
open Go.RowKit
theorem zm4 : zaa Tryz.prog [] 1000 38 zlR = true := by kernel_rfl
theorem zm0 : zaa Tryz.prog [] 1000 38 zlN = true := by kernel_rfl
theorem zm3 : zaa Tryz.prog [] 1000 38 zlQ = true := by kernel_rfl
theorem zmX : zaa Tryz.prog [] 1000 38 zlK = true := by kernel_rfl
theorem zmZ : zaa Tryz.prog [] 1000 38 zlM = true := by kernel_rfl
theorem zmU : zaa Tryz.prog [] 1000 38 zlH = true := by kernel_rfl
theorem zm2 : zaa Tryz.prog [] 1000 38 zlP = true := by kernel_rfl
theorem zmW : zaa Tryz.prog [] 1000 38 zlJ = true := by kernel_rfl
theorem zmS : zaa Tryz.prog [] 1000 38 zlF = true := by kernel_rfl
theorem zmY : zaa Tryz.prog [] 1000 38 zlL = true := by kernel_rfl
theorem zmT : zaa Tryz.prog [] 1000 38 zlG = true := by kernel_rfl
theorem zm1 : zaa Tryz.prog [] 1000 38 zlO = true := by kernel_rfl
theorem zmR : zaa Tryz.prog [] 1000 38 zlE = true := by kernel_rfl
end Go.Proofs.YtihedfkcccaonaaGreatDoor.Ev
