/-
  DERIVED. GIVEN WITH THE SEED: THE CARDS: each row of YtcapocmenjcnhaaGreatDoorRows.lean that lists a variable, with what it lists TIED to the program's text (the seventh form; the later family's looks); each row that meets fmt, with fmt's text TOLD by the authors' own Lean function (tested against real Go, not proved from fmt's source: count such statements apart). THE CARD IS WHAT COUNTS. Prove the row's statement (the work); the ties are given (YtcapocmenjcnhaaGreatDoorTie.lean); close each card by the builder's one call (the guide's Derived/Test/ToyasCard.lean, 'card_holds'). Laid BY PROGRAM, IN A SANDBOX (cutbox-door.mjs). By AI agents, Wed Nov 11 2026. No macro, syntax, notation, axiom, sorry.
-/
import Derived.Test.YtcapocmenjcnhaaGreatDoorRows
import GoSem.ClaimSeven
namespace Go.Proofs.YtcapocmenjcnhaaGreatDoor
namespace Rows

/-- THE TIED CARD OF 'motutop.TopRecovered'. -/
def topRecoveredCard : Claim7 := { stood := { row := topRecoveredRow, standIns := [], harness := (true, "d5ac3bdb8e201e8bfa90eced17c3b1962065dcfe4ad11c9f75778357af80d9a6"), looks := true }, kinds := [], alts := [], laidByText := true, laidKinds := [.data, .data, .data, .data, .pinned], laidTests := true, laidLooks := .later }
def TopRecoveredCardSaid : Prop := Claim7.holds Tryz.pinned (.plain (OpenSpec.ofChange topRecoveredSpec)) topRecoveredCard

/-- THE SECOND FORM's CARD OF 'motutop.TopRecovered'. -/
def topRecoveredUptoCard : Claim7 := { stood := { row := topRecoveredUptoRow, standIns := [], harness := (true, "d5ac3bdb8e201e8bfa90eced17c3b1962065dcfe4ad11c9f75778357af80d9a6"), looks := true }, kinds := [], alts := [], laidByText := true, laidKinds := [.data, .data, .data, .data, .pinned], laidTests := true, laidLooks := .later }
def TopRecoveredUptoCardSaid : Prop := Claim7.holds Tryz.pinned (.plain (OpenSpec.upto topRecoveredSpec)) topRecoveredUptoCard
end Rows
end Go.Proofs.YtcapocmenjcnhaaGreatDoor
