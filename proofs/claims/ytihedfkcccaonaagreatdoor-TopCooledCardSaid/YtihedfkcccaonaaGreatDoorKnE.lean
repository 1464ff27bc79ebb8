/-
 The best system.
-/
import Derived.Test.YtihedfkcccaonaaGreatDoorKnA
namespace Go.Proofs.YtihedfkcccaonaaGreatDoor.Ev
open Go.RowKit
theorem zs1 : zaa Tryz.prog zfi 1000 38 zqm = true := by kernel_rfl
end Go.Proofs.YtihedfkcccaonaaGreatDoor.Ev
