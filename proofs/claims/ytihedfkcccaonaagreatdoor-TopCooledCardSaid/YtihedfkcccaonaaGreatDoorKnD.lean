/-
 The fewest tanks.
-/
import Derived.Test.YtihedfkcccaonaaGreatDoorKnA
namespace Go.Proofs.YtihedfkcccaonaaGreatDoor.Ev
open Go.RowKit
theorem zmP : zaa Tryz.prog [] 1000 10 zhD = true := by kernel_rfl
end Go.Proofs.YtihedfkcccaonaaGreatDoor.Ev
