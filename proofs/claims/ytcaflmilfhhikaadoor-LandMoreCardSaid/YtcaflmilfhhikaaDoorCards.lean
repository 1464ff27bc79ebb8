/-
  DERIVED. GIVEN WITH THE SEED: THE CARDS: each row of YtcaflmilfhhikaaDoorRows.lean that lists a variable, with what it lists TIED to the program's text (the seventh form; the later family's looks); each row that meets fmt, with fmt's text TOLD by the authors' own Lean function (tested against real Go, not proved from fmt's source: count such statements apart). THE CARD IS WHAT COUNTS. Prove the row's statement (the work); the ties are given (YtcaflmilfhhikaaDoorTie.lean); close each card by the builder's one call (the guide's Derived/Test/ToyasCard.lean, 'card_holds'). Laid BY PROGRAM, IN A SANDBOX (cutbox-door.mjs). By AI agents, Wed Nov 11 2026. No macro, syntax, notation, axiom, sorry.
-/
import Derived.Test.YtcaflmilfhhikaaDoorRows
import GoSem.ClaimSeven
namespace Go.Proofs.YtcaflmilfhhikaaDoor
namespace Rows

/-- THE TIED CARD OF 'motulaw02.LandClashes'. -/
def landClashesCard : Claim7 := { stood := { row := landClashesRow, standIns := [], harness := (true, "ee650b3995c778a901d51841945f13b1ebceb7b21632fd06a887021cd4329e58"), looks := false }, kinds := [], alts := [], laidByText := true, laidKinds := [.data, .data, .data], laidTests := true, laidLooks := .later }
def LandClashesCardSaid : Prop := Claim7.holds Tryd.pinned (.plain (OpenSpec.ofChange landClashesSpec)) landClashesCard

/-- THE TIED CARD OF 'motulaw02.LandShown'. -/
def landShownCard : Claim7 := { stood := { row := landShownRow, standIns := [], harness := (true, "ee650b3995c778a901d51841945f13b1ebceb7b21632fd06a887021cd4329e58"), looks := false }, kinds := [], alts := [], laidByText := true, laidKinds := [.data, .data, .data], laidTests := true, laidLooks := .later }
def LandShownCardSaid : Prop := Claim7.holds Tryd.pinned (.plain (OpenSpec.ofChange landShownSpec)) landShownCard

/-- THE TIED CARD OF 'motulaw02.LandDropped'. -/
def landDroppedCard : Claim7 := { stood := { row := landDroppedRow, standIns := [], harness := (true, "ee650b3995c778a901d51841945f13b1ebceb7b21632fd06a887021cd4329e58"), looks := false }, kinds := [], alts := [], laidByText := true, laidKinds := [.data, .data, .data], laidTests := true, laidLooks := .later }
def LandDroppedCardSaid : Prop := Claim7.holds Tryd.pinned (.plain (OpenSpec.ofChange landDroppedSpec)) landDroppedCard

/-- THE TIED CARD OF 'motulaw02.LandTruths'. -/
def landTruthsCard : Claim7 := { stood := { row := landTruthsRow, standIns := [], harness := (true, "ee650b3995c778a901d51841945f13b1ebceb7b21632fd06a887021cd4329e58"), looks := false }, kinds := [], alts := [], laidByText := true, laidKinds := [.data, .data, .data], laidTests := true, laidLooks := .later }
def LandTruthsCardSaid : Prop := Claim7.holds Tryd.pinned (.plain (OpenSpec.ofChange landTruthsSpec)) landTruthsCard

/-- THE TIED CARD OF 'motulaw02.LandTold'. -/
def landToldCard : Claim7 := { stood := { row := landToldRow, standIns := [], harness := (true, "ee650b3995c778a901d51841945f13b1ebceb7b21632fd06a887021cd4329e58"), looks := false }, kinds := [], alts := [], laidByText := true, laidKinds := [.data, .data, .data], laidTests := true, laidLooks := .later }
def LandToldCardSaid : Prop := Claim7.holds Tryd.pinned (.plain (OpenSpec.ofChange landToldSpec)) landToldCard

/-- THE TIED CARD OF 'motulaw02.LandMore'. -/
def landMoreCard : Claim7 := { stood := { row := landMoreRow, standIns := [], harness := (true, "ee650b3995c778a901d51841945f13b1ebceb7b21632fd06a887021cd4329e58"), looks := false }, kinds := [], alts := [], laidByText := true, laidKinds := [.data, .data, .data], laidTests := true, laidLooks := .later }
def LandMoreCardSaid : Prop := Claim7.holds Tryd.pinned (.plain (OpenSpec.ofChange landMoreSpec)) landMoreCard

/-- THE TIED CARD OF 'motulaw02.LandLines'. -/
def landLinesCard : Claim7 := { stood := { row := landLinesRow, standIns := [], harness := (true, "ee650b3995c778a901d51841945f13b1ebceb7b21632fd06a887021cd4329e58"), looks := false }, kinds := [], alts := [], laidByText := true, laidKinds := [.data, .data, .data], laidTests := true, laidLooks := .later }
def LandLinesCardSaid : Prop := Claim7.holds Tryd.pinned (.plain (OpenSpec.ofChange landLinesSpec)) landLinesCard

/-- THE TIED CARD OF 'motulaw02.LandKnown'. -/
def landKnownCard : Claim7 := { stood := { row := landKnownRow, standIns := [], harness := (true, "ee650b3995c778a901d51841945f13b1ebceb7b21632fd06a887021cd4329e58"), looks := false }, kinds := [], alts := [], laidByText := true, laidKinds := [.data, .data, .data], laidTests := true, laidLooks := .later }
def LandKnownCardSaid : Prop := Claim7.holds Tryd.pinned (.plain (OpenSpec.ofChange landKnownSpec)) landKnownCard

/-- THE TIED CARD OF 'motulaw02.LandTrue'. -/
def landTrueCard : Claim7 := { stood := { row := landTrueRow, standIns := [], harness := (true, "ee650b3995c778a901d51841945f13b1ebceb7b21632fd06a887021cd4329e58"), looks := false }, kinds := [], alts := [], laidByText := true, laidKinds := [.data, .data, .data], laidTests := true, laidLooks := .later }
def LandTrueCardSaid : Prop := Claim7.holds Tryd.pinned (.plain (OpenSpec.ofChange landTrueSpec)) landTrueCard

/-- THE TIED CARD OF 'motulaw02.LandSharp'. -/
def landSharpCard : Claim7 := { stood := { row := landSharpRow, standIns := [], harness := (true, "ee650b3995c778a901d51841945f13b1ebceb7b21632fd06a887021cd4329e58"), looks := false }, kinds := [], alts := [], laidByText := true, laidKinds := [.data, .data, .data], laidTests := true, laidLooks := .later }
def LandSharpCardSaid : Prop := Claim7.holds Tryd.pinned (.plain (OpenSpec.ofChange landSharpSpec)) landSharpCard

/-- THE TIED CARD OF 'motulaw02.LandHeld'. -/
def landHeldCard : Claim7 := { stood := { row := landHeldRow, standIns := [], harness := (true, "ee650b3995c778a901d51841945f13b1ebceb7b21632fd06a887021cd4329e58"), looks := false }, kinds := [], alts := [], laidByText := true, laidKinds := [.data, .data, .data], laidTests := true, laidLooks := .later }
def LandHeldCardSaid : Prop := Claim7.holds Tryd.pinned (.plain (OpenSpec.ofChange landHeldSpec)) landHeldCard

/-- THE SECOND FORM's CARD OF 'motulaw02.LandClashes'. -/
def landClashesUptoCard : Claim7 := { stood := { row := landClashesUptoRow, standIns := [], harness := (true, "ee650b3995c778a901d51841945f13b1ebceb7b21632fd06a887021cd4329e58"), looks := false }, kinds := [], alts := [], laidByText := true, laidKinds := [.data, .data, .data], laidTests := true, laidLooks := .later }
def LandClashesUptoCardSaid : Prop := Claim7.holds Tryd.pinned (.plain (OpenSpec.upto landClashesSpec)) landClashesUptoCard

/-- THE SECOND FORM's CARD OF 'motulaw02.LandShown'. -/
def landShownUptoCard : Claim7 := { stood := { row := landShownUptoRow, standIns := [], harness := (true, "ee650b3995c778a901d51841945f13b1ebceb7b21632fd06a887021cd4329e58"), looks := false }, kinds := [], alts := [], laidByText := true, laidKinds := [.data, .data, .data], laidTests := true, laidLooks := .later }
def LandShownUptoCardSaid : Prop := Claim7.holds Tryd.pinned (.plain (OpenSpec.upto landShownSpec)) landShownUptoCard

/-- THE SECOND FORM's CARD OF 'motulaw02.LandDropped'. -/
def landDroppedUptoCard : Claim7 := { stood := { row := landDroppedUptoRow, standIns := [], harness := (true, "ee650b3995c778a901d51841945f13b1ebceb7b21632fd06a887021cd4329e58"), looks := false }, kinds := [], alts := [], laidByText := true, laidKinds := [.data, .data, .data], laidTests := true, laidLooks := .later }
def LandDroppedUptoCardSaid : Prop := Claim7.holds Tryd.pinned (.plain (OpenSpec.upto landDroppedSpec)) landDroppedUptoCard

/-- THE SECOND FORM's CARD OF 'motulaw02.LandTruths'. -/
def landTruthsUptoCard : Claim7 := { stood := { row := landTruthsUptoRow, standIns := [], harness := (true, "ee650b3995c778a901d51841945f13b1ebceb7b21632fd06a887021cd4329e58"), looks := false }, kinds := [], alts := [], laidByText := true, laidKinds := [.data, .data, .data], laidTests := true, laidLooks := .later }
def LandTruthsUptoCardSaid : Prop := Claim7.holds Tryd.pinned (.plain (OpenSpec.upto landTruthsSpec)) landTruthsUptoCard

/-- THE SECOND FORM's CARD OF 'motulaw02.LandTold'. -/
def landToldUptoCard : Claim7 := { stood := { row := landToldUptoRow, standIns := [], harness := (true, "ee650b3995c778a901d51841945f13b1ebceb7b21632fd06a887021cd4329e58"), looks := false }, kinds := [], alts := [], laidByText := true, laidKinds := [.data, .data, .data], laidTests := true, laidLooks := .later }
def LandToldUptoCardSaid : Prop := Claim7.holds Tryd.pinned (.plain (OpenSpec.upto landToldSpec)) landToldUptoCard

/-- THE SECOND FORM's CARD OF 'motulaw02.LandMore'. -/
def landMoreUptoCard : Claim7 := { stood := { row := landMoreUptoRow, standIns := [], harness := (true, "ee650b3995c778a901d51841945f13b1ebceb7b21632fd06a887021cd4329e58"), looks := false }, kinds := [], alts := [], laidByText := true, laidKinds := [.data, .data, .data], laidTests := true, laidLooks := .later }
def LandMoreUptoCardSaid : Prop := Claim7.holds Tryd.pinned (.plain (OpenSpec.upto landMoreSpec)) landMoreUptoCard

/-- THE SECOND FORM's CARD OF 'motulaw02.LandLines'. -/
def landLinesUptoCard : Claim7 := { stood := { row := landLinesUptoRow, standIns := [], harness := (true, "ee650b3995c778a901d51841945f13b1ebceb7b21632fd06a887021cd4329e58"), looks := false }, kinds := [], alts := [], laidByText := true, laidKinds := [.data, .data, .data], laidTests := true, laidLooks := .later }
def LandLinesUptoCardSaid : Prop := Claim7.holds Tryd.pinned (.plain (OpenSpec.upto landLinesSpec)) landLinesUptoCard

/-- THE SECOND FORM's CARD OF 'motulaw02.LandKnown'. -/
def landKnownUptoCard : Claim7 := { stood := { row := landKnownUptoRow, standIns := [], harness := (true, "ee650b3995c778a901d51841945f13b1ebceb7b21632fd06a887021cd4329e58"), looks := false }, kinds := [], alts := [], laidByText := true, laidKinds := [.data, .data, .data], laidTests := true, laidLooks := .later }
def LandKnownUptoCardSaid : Prop := Claim7.holds Tryd.pinned (.plain (OpenSpec.upto landKnownSpec)) landKnownUptoCard

/-- THE SECOND FORM's CARD OF 'motulaw02.LandTrue'. -/
def landTrueUptoCard : Claim7 := { stood := { row := landTrueUptoRow, standIns := [], harness := (true, "ee650b3995c778a901d51841945f13b1ebceb7b21632fd06a887021cd4329e58"), looks := false }, kinds := [], alts := [], laidByText := true, laidKinds := [.data, .data, .data], laidTests := true, laidLooks := .later }
def LandTrueUptoCardSaid : Prop := Claim7.holds Tryd.pinned (.plain (OpenSpec.upto landTrueSpec)) landTrueUptoCard

/-- THE SECOND FORM's CARD OF 'motulaw02.LandSharp'. -/
def landSharpUptoCard : Claim7 := { stood := { row := landSharpUptoRow, standIns := [], harness := (true, "ee650b3995c778a901d51841945f13b1ebceb7b21632fd06a887021cd4329e58"), looks := false }, kinds := [], alts := [], laidByText := true, laidKinds := [.data, .data, .data], laidTests := true, laidLooks := .later }
def LandSharpUptoCardSaid : Prop := Claim7.holds Tryd.pinned (.plain (OpenSpec.upto landSharpSpec)) landSharpUptoCard

/-- THE SECOND FORM's CARD OF 'motulaw02.LandHeld'. -/
def landHeldUptoCard : Claim7 := { stood := { row := landHeldUptoRow, standIns := [], harness := (true, "ee650b3995c778a901d51841945f13b1ebceb7b21632fd06a887021cd4329e58"), looks := false }, kinds := [], alts := [], laidByText := true, laidKinds := [.data, .data, .data], laidTests := true, laidLooks := .later }
def LandHeldUptoCardSaid : Prop := Claim7.holds Tryd.pinned (.plain (OpenSpec.upto landHeldSpec)) landHeldUptoCard
end Rows
end Go.Proofs.YtcaflmilfhhikaaDoor
