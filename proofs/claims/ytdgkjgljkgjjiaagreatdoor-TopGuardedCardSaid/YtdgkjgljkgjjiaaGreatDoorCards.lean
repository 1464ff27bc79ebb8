/-
  DERIVED. GIVEN WITH THE SEED: THE CARDS: each row of YtdgkjgljkgjjiaaGreatDoorRows.lean that lists a variable, with what it lists TIED to the program's text (the seventh form; the later family's looks); each row that meets fmt, with fmt's text TOLD by the authors' own Lean function (tested against real Go, not proved from fmt's source: count such statements apart). THE CARD IS WHAT COUNTS. Prove the row's statement (the work); the ties are given (YtdgkjgljkgjjiaaGreatDoorTie.lean); close each card by the builder's one call (the guide's Derived/Test/ToyasCard.lean, 'card_holds'). Laid BY PROGRAM, IN A SANDBOX (cutbox-door.mjs). By AI agents, Wed Nov 11 2026. No macro, syntax, notation, axiom, sorry.
-/
import Derived.Test.YtdgkjgljkgjjiaaGreatDoorRows
import GoSem.ClaimSeven
namespace Go.Proofs.YtdgkjgljkgjjiaaGreatDoor
namespace Rows

/-- THE TIED CARD OF 'motutop.TopGuarded'. -/
def topGuardedCard : Claim7 := { stood := { row := topGuardedRow, standIns := [], harness := (true, "f88935f536c02c9bf5610b8fa3e1fcca38e65b5f1e61c1521d2110355fef53ab"), looks := true }, kinds := [], alts := [], laidByText := true, laidKinds := [.data, .data, .data, .data, .pinned], laidTests := true, laidLooks := .later }
def TopGuardedCardSaid : Prop := Claim7.holds Tryz.pinned (.plain (OpenSpec.ofChange topGuardedSpec)) topGuardedCard

/-- THE SECOND FORM's CARD OF 'motutop.TopGuarded'. -/
def topGuardedUptoCard : Claim7 := { stood := { row := topGuardedUptoRow, standIns := [], harness := (true, "f88935f536c02c9bf5610b8fa3e1fcca38e65b5f1e61c1521d2110355fef53ab"), looks := true }, kinds := [], alts := [], laidByText := true, laidKinds := [.data, .data, .data, .data, .pinned], laidTests := true, laidLooks := .later }
def TopGuardedUptoCardSaid : Prop := Claim7.holds Tryz.pinned (.plain (OpenSpec.upto topGuardedSpec)) topGuardedUptoCard
end Rows
end Go.Proofs.YtdgkjgljkgjjiaaGreatDoor
