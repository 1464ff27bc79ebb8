/-
  Lists that are as long as a slice may be are appended to.
-/
import Derived.Test.YtcaflmilfhhikaaGreatDoorIns
namespace Go.Proofs.YtcaflmilfhhikaaGreatDoor
open Go.RowKit
set_option linter.unusedVariables false

section
variable {κ : Ctx} {p : List PanicEntry → Fr → World → Prop} {P : Program} {N : Nat} {F : Fr} {w : World} {K : Fr → World → Prop} {d : Nat} {ty : TypeId} {pos : String} {af : Array Edge} {gd : Option (Nat × Bool)} {G G0 : Gm} {w0 : World} {B : Nat} {L : List Row}
end
/-! ### How long a slice inside a struct can be -/
end Go.Proofs.YtcaflmilfhhikaaGreatDoor
