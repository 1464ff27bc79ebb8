/-
  What is handed to the laws, read as data of Lean's (printed by a program of ours).
-/
import Derived.Test.YtcaflmilfhhikaaGreatDoorRd
import Derived.Test.YtcaflmilfhhikaaGreatDoorBaseK
import Derived.Test.YtcaflmilfhhikaaGreatDoorChecked
namespace Go.Proofs.YtcaflmilfhhikaaGreatDoor
open Go.RowKit
set_option linter.unusedVariables false
open Go.ChangeShapes Go.WideShapes Go.ChangeAt
theorem own_knob : ownKnob Tryz.prog.godebug = none := by kernel_rfl
theorem laid_out : laidOutB Tryz.prog = true := by kernel_rfl
theorem un4b : Tryz.prog.underlying 4 = some .bool := by kernel_rfl
theorem un9 : Tryz.prog.underlying 9 = some .string := by kernel_rfl
end Go.Proofs.YtcaflmilfhhikaaGreatDoor
