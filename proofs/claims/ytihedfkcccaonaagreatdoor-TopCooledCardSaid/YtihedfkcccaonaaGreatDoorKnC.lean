/-
 The system that has no fault.
-/
import Derived.Test.YtihedfkcccaonaaGreatDoorKnA
namespace Go.Proofs.YtihedfkcccaonaaGreatDoor.Ev
open Go.RowKit
theorem zmV : zaa Tryz.prog [] 1000 38 zlI = true := by kernel_rfl
end Go.Proofs.YtihedfkcccaonaaGreatDoor.Ev
