/-
  DERIVED. GIVEN WITH THE SEED: THE CARDS: each row of YtcaflmilfhhikaaGreatDoorRows.lean that lists a variable, with what it lists TIED to the program's text (the seventh form; the later family's looks); each row that meets fmt, with fmt's text TOLD by the authors' own Lean function (tested against real Go, not proved from fmt's source: count such statements apart). THE CARD IS WHAT COUNTS. Prove the row's statement (the work); the ties are given (YtcaflmilfhhikaaGreatDoorTie.lean); close each card by the builder's one call (the guide's Derived/Test/ToyasCard.lean, 'card_holds'). Laid BY PROGRAM, IN A SANDBOX (cutbox-door.mjs). By AI agents, Wed Nov 11 2026. No macro, syntax, notation, axiom, sorry.
-/
import Derived.Test.YtcaflmilfhhikaaGreatDoorRows
import GoSem.ClaimSeven
namespace Go.Proofs.YtcaflmilfhhikaaGreatDoor
namespace Rows

/-- THE TIED CARD OF 'motulaw02.LandBooks'. -/
def landBooksCard : Claim7 := { stood := { row := landBooksRow, standIns := [], harness := (true, "64fe2f9466974a3cade33c7afa9a6e4c7579f07d3eedcee193a69d7ff9c0d833"), looks := true }, kinds := [], alts := [], laidByText := true, laidKinds := [.data, .data, .data, .data, .sentinel, .sentinel, .pinned], laidTests := true, laidLooks := .later }
def LandBooksCardSaid : Prop := Claim7.holds Tryz.pinned (.plain (OpenSpec.ofChange landBooksSpec)) landBooksCard

/-- THE TIED CARD OF 'motulaw02.LandReads'. -/
def landReadsCard : Claim7 := { stood := { row := landReadsRow, standIns := [], harness := (true, "64fe2f9466974a3cade33c7afa9a6e4c7579f07d3eedcee193a69d7ff9c0d833"), looks := true }, kinds := [], alts := [], laidByText := true, laidKinds := [.data, .data, .data, .data, .sentinel, .sentinel, .pinned], laidTests := true, laidLooks := .later }
def LandReadsCardSaid : Prop := Claim7.holds Tryz.pinned (.plain (OpenSpec.ofChange landReadsSpec)) landReadsCard

/-- THE TIED CARD OF 'motulaw02.LandSpoilt'. -/
def landSpoiltCard : Claim7 := { stood := { row := landSpoiltRow, standIns := [], harness := (true, "64fe2f9466974a3cade33c7afa9a6e4c7579f07d3eedcee193a69d7ff9c0d833"), looks := true }, kinds := [], alts := [], laidByText := true, laidKinds := [.data, .data, .data, .data, .sentinel, .sentinel, .pinned], laidTests := true, laidLooks := .later }
def LandSpoiltCardSaid : Prop := Claim7.holds Tryz.pinned (.plain (OpenSpec.ofChange landSpoiltSpec)) landSpoiltCard

/-- THE SECOND FORM's CARD OF 'motulaw02.LandBooks'. -/
def landBooksUptoCard : Claim7 := { stood := { row := landBooksUptoRow, standIns := [], harness := (true, "64fe2f9466974a3cade33c7afa9a6e4c7579f07d3eedcee193a69d7ff9c0d833"), looks := true }, kinds := [], alts := [], laidByText := true, laidKinds := [.data, .data, .data, .data, .sentinel, .sentinel, .pinned], laidTests := true, laidLooks := .later }
def LandBooksUptoCardSaid : Prop := Claim7.holds Tryz.pinned (.plain (OpenSpec.upto landBooksSpec)) landBooksUptoCard

/-- THE SECOND FORM's CARD OF 'motulaw02.LandReads'. -/
def landReadsUptoCard : Claim7 := { stood := { row := landReadsUptoRow, standIns := [], harness := (true, "64fe2f9466974a3cade33c7afa9a6e4c7579f07d3eedcee193a69d7ff9c0d833"), looks := true }, kinds := [], alts := [], laidByText := true, laidKinds := [.data, .data, .data, .data, .sentinel, .sentinel, .pinned], laidTests := true, laidLooks := .later }
def LandReadsUptoCardSaid : Prop := Claim7.holds Tryz.pinned (.plain (OpenSpec.upto landReadsSpec)) landReadsUptoCard

/-- THE SECOND FORM's CARD OF 'motulaw02.LandSpoilt'. -/
def landSpoiltUptoCard : Claim7 := { stood := { row := landSpoiltUptoRow, standIns := [], harness := (true, "64fe2f9466974a3cade33c7afa9a6e4c7579f07d3eedcee193a69d7ff9c0d833"), looks := true }, kinds := [], alts := [], laidByText := true, laidKinds := [.data, .data, .data, .data, .sentinel, .sentinel, .pinned], laidTests := true, laidLooks := .later }
def LandSpoiltUptoCardSaid : Prop := Claim7.holds Tryz.pinned (.plain (OpenSpec.upto landSpoiltSpec)) landSpoiltUptoCard
end Rows
end Go.Proofs.YtcaflmilfhhikaaGreatDoor
