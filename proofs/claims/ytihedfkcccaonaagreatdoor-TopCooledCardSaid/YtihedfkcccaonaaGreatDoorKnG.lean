/-
 The best plan for the reef; the guards.
-/
import Derived.Test.YtihedfkcccaonaaGreatDoorKnA
namespace Go.Proofs.YtihedfkcccaonaaGreatDoor.Ev
open Go.RowKit
theorem zq6 : zaa Tryz.prog [] 1000 29 znQ = true := by kernel_rfl
theorem zmM : zaa Tryz.prog [] 1000 29 zhy = true := by kernel_rfl
end Go.Proofs.YtihedfkcccaonaaGreatDoor.Ev
