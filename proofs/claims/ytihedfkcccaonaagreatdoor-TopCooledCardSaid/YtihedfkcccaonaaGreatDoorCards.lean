/-
  DERIVED. GIVEN WITH THE SEED: THE CARDS: each row of YtihedfkcccaonaaGreatDoorRows.lean that lists a variable, with what it lists TIED to the program's text (the seventh form; the later family's looks); each row that meets fmt, with fmt's text TOLD by the authors' own Lean function (tested against real Go, not proved from fmt's source: count such statements apart). THE CARD IS WHAT COUNTS. Prove the row's statement (the work); the ties are given (YtihedfkcccaonaaGreatDoorTie.lean); close each card by the builder's one call (the guide's Derived/Test/ToyasCard.lean, 'card_holds'). Laid BY PROGRAM, IN A SANDBOX (cutbox-door.mjs). By AI agents, Wed Nov 11 2026. No macro, syntax, notation, axiom, sorry.
-/
import Derived.Test.YtihedfkcccaonaaGreatDoorRows
import GoSem.ClaimSeven
namespace Go.Proofs.YtihedfkcccaonaaGreatDoor
namespace Rows

/-- THE TIED CARD OF 'motutop.TopCooled'. -/
def topCooledCard : Claim7 := { stood := { row := topCooledRow, standIns := [], harness := (true, "3159557a7a36e9d49366c31ecf90eaa8cb414f1e5dcd936cd42953ea27172a4e"), looks := true }, kinds := [], alts := [], laidByText := true, laidKinds := [.data, .data, .data, .data, .pinned], laidTests := true, laidLooks := .later }
def TopCooledCardSaid : Prop := Claim7.holds Tryz.pinned (.plain (OpenSpec.ofChange topCooledSpec)) topCooledCard

/-- THE SECOND FORM's CARD OF 'motutop.TopCooled'. -/
def topCooledUptoCard : Claim7 := { stood := { row := topCooledUptoRow, standIns := [], harness := (true, "3159557a7a36e9d49366c31ecf90eaa8cb414f1e5dcd936cd42953ea27172a4e"), looks := true }, kinds := [], alts := [], laidByText := true, laidKinds := [.data, .data, .data, .data, .pinned], laidTests := true, laidLooks := .later }
def TopCooledUptoCardSaid : Prop := Claim7.holds Tryz.pinned (.plain (OpenSpec.upto topCooledSpec)) topCooledUptoCard
end Rows
end Go.Proofs.YtihedfkcccaonaaGreatDoor
