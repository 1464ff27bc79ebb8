/-
  DERIVED. GIVEN WITH THE SEED: THE CARDS: each row of YtncjnffbdhckdaaGreatDoorRows.lean that lists a variable, with what it lists TIED to the program's text (the seventh form; the later family's looks); each row that meets fmt, with fmt's text TOLD by the authors' own Lean function (tested against real Go, not proved from fmt's source: count such statements apart). THE CARD IS WHAT COUNTS. Prove the row's statement (the work); the ties are given (YtncjnffbdhckdaaGreatDoorTie.lean); close each card by the builder's one call (the guide's Derived/Test/ToyasCard.lean, 'card_holds'). Laid BY PROGRAM, IN A SANDBOX (cutbox-door.mjs). By AI agents, Wed Nov 11 2026. No macro, syntax, notation, axiom, sorry.
-/
import Derived.Test.YtncjnffbdhckdaaGreatDoorRows
import GoSem.ClaimSeven
namespace Go.Proofs.YtncjnffbdhckdaaGreatDoor
namespace Rows

/-- THE TIED CARD OF 'motutop.TopHeard'. -/
def topHeardCard : Claim7 := { stood := { row := topHeardRow, standIns := [], harness := (true, "8f51ce8b7757a5c0de10c21aed9efeea996b6e16f26c0e91cafd84788e34d7b8"), looks := true }, kinds := [], alts := [], laidByText := true, laidKinds := [.data, .data, .data, .data, .pinned], laidTests := true, laidLooks := .later }
def TopHeardCardSaid : Prop := Claim7.holds Tryz.pinned (.plain (OpenSpec.ofChange topHeardSpec)) topHeardCard

/-- THE SECOND FORM's CARD OF 'motutop.TopHeard'. -/
def topHeardUptoCard : Claim7 := { stood := { row := topHeardUptoRow, standIns := [], harness := (true, "8f51ce8b7757a5c0de10c21aed9efeea996b6e16f26c0e91cafd84788e34d7b8"), looks := true }, kinds := [], alts := [], laidByText := true, laidKinds := [.data, .data, .data, .data, .pinned], laidTests := true, laidLooks := .later }
def TopHeardUptoCardSaid : Prop := Claim7.holds Tryz.pinned (.plain (OpenSpec.upto topHeardSpec)) topHeardUptoCard
end Rows
end Go.Proofs.YtncjnffbdhckdaaGreatDoor
