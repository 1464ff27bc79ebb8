/-
  No cell of these rows narrows 'for every input' (looked for: loops, veiled, ifaces, maps, wideKeys, modest, calm, conditions, laid).
  DERIVED. THE GIVEN ROWS OF THIS SEAT. 13 by the template 'for every input the law returns true; each argument reads behind the call as it read before'; 0 by the template 'total and deterministic' (their statements: YtajejmbnmphngaaTotals.lean).
  GIVEN WITH THE SEED: the statements are not yours to turn. If you find one false, say at which input.
  Laid BY PROGRAM, IN A SANDBOX (cutbox-rows.mjs): the forced cells as the released guide's own fill.sh prints them over the translation e668fb24d0624dd1… (all of the seat's roots in one cut). By AI agents, Wed Nov 11 2026. No macro, syntax, notation, axiom, sorry.
-/
import Derived.Test.YtajejmbnmphngaaChecked
import GoSem.Claim
import GoSem.ClaimJoined
import GoSem.ClaimMapViews
import Derived.JoinedTies
import Derived.KernelRfl
namespace Go.Proofs.Ytajejmbnmphngaa
/- THE CELL 'sum', in the pinned program and in every row, IS THE sha256 OF THE DUMP (.gsa) THAT YtajejmbnmphngaaProg.lean LOADS. Nothing in Lean hashes anything: it is a label: what it is worth is what the hold of that sum in a sandbox is worth. -/
noncomputable def Try.pinned : Pinned := { name := "ytajejmbnmphngaa", sum := "e668fb24d0624dd1050c5d560b995c5a489841b0df6228097d50a4b14f161037", checked := Try.checked }
namespace Rows
def none {H : Type} : Left H := { results := [], args := [] }

/-- 'motulaw06.ShipCalled': WHATEVER THE INPUT: true; the input reads as it did. -/
def shipCalledSpec : ChangeSpec := { name := "shipCalled", fn := fun _ => fun
  | [d1, d2, d3] => { results := [.lit (.bool true)], args := [d1, d2, d3] }
  | _ => none }
def shipCalledRow : OpenClaim := { program := "ytajejmbnmphngaa", sum := "e668fb24d0624dd1050c5d560b995c5a489841b0df6228097d50a4b14f161037", func := "motu/motulaw06.ShipCalled", spec := "shipCalled", unfollowed := true, recurses := true, plainKeys := false, apart := false }
def ShipCalledSaid : Prop := shipCalledRow.holds Try.pinned (OpenSpec.ofChange shipCalledSpec)

/-- ITS FALSE NEIGHBOUR: 'it returns false'. Refute it at one input. -/
def shipCalledWrong : ChangeSpec := { name := "shipCalled", fn := fun _ => fun
  | [d1, d2, d3] => { results := [.lit (.bool false)], args := [d1, d2, d3] }
  | _ => none }
def ShipCalledWrongFalsely : Prop := shipCalledRow.holds Try.pinned (OpenSpec.ofChange shipCalledWrong)

/-- 'motulaw06.ShipPlays': WHATEVER THE INPUT: true; the input reads as it did. -/
def shipPlaysSpec : ChangeSpec := { name := "shipPlays", fn := fun _ => fun
  | [d1, d2, d3, d4] => { results := [.lit (.bool true)], args := [d1, d2, d3, d4] }
  | _ => none }
def shipPlaysRow : OpenClaim := { program := "ytajejmbnmphngaa", sum := "e668fb24d0624dd1050c5d560b995c5a489841b0df6228097d50a4b14f161037", func := "motu/motulaw06.ShipPlays", spec := "shipPlays", unfollowed := true, recurses := true, plainKeys := false, apart := false }
def ShipPlaysSaid : Prop := shipPlaysRow.holds Try.pinned (OpenSpec.ofChange shipPlaysSpec)

/-- ITS FALSE NEIGHBOUR: 'it returns false'. Refute it at one input. -/
def shipPlaysWrong : ChangeSpec := { name := "shipPlays", fn := fun _ => fun
  | [d1, d2, d3, d4] => { results := [.lit (.bool false)], args := [d1, d2, d3, d4] }
  | _ => none }
def ShipPlaysWrongFalsely : Prop := shipPlaysRow.holds Try.pinned (OpenSpec.ofChange shipPlaysWrong)

/-- 'motulaw06.ShipTrue': WHATEVER THE INPUT: true; the input reads as it did. -/
def shipTrueSpec : ChangeSpec := { name := "shipTrue", fn := fun _ => fun
  | [d1, d2, d3, d4] => { results := [.lit (.bool true)], args := [d1, d2, d3, d4] }
  | _ => none }
def shipTrueRow : OpenClaim := { program := "ytajejmbnmphngaa", sum := "e668fb24d0624dd1050c5d560b995c5a489841b0df6228097d50a4b14f161037", func := "motu/motulaw06.ShipTrue", spec := "shipTrue", unfollowed := true, recurses := true, plainKeys := false, apart := false }
def ShipTrueSaid : Prop := shipTrueRow.holds Try.pinned (OpenSpec.ofChange shipTrueSpec)

/-- ITS FALSE NEIGHBOUR: 'it returns false'. Refute it at one input. -/
def shipTrueWrong : ChangeSpec := { name := "shipTrue", fn := fun _ => fun
  | [d1, d2, d3, d4] => { results := [.lit (.bool false)], args := [d1, d2, d3, d4] }
  | _ => none }
def ShipTrueWrongFalsely : Prop := shipTrueRow.holds Try.pinned (OpenSpec.ofChange shipTrueWrong)

/-- 'motulaw06.ShipSharp': WHATEVER THE INPUT: true; the input reads as it did. -/
def shipSharpSpec : ChangeSpec := { name := "shipSharp", fn := fun _ => fun
  | [d1, d2, d3] => { results := [.lit (.bool true)], args := [d1, d2, d3] }
  | _ => none }
def shipSharpRow : OpenClaim := { program := "ytajejmbnmphngaa", sum := "e668fb24d0624dd1050c5d560b995c5a489841b0df6228097d50a4b14f161037", func := "motu/motulaw06.ShipSharp", spec := "shipSharp", unfollowed := true, recurses := true, plainKeys := false, apart := false }
def ShipSharpSaid : Prop := shipSharpRow.holds Try.pinned (OpenSpec.ofChange shipSharpSpec)

/-- ITS FALSE NEIGHBOUR: 'it returns false'. Refute it at one input. -/
def shipSharpWrong : ChangeSpec := { name := "shipSharp", fn := fun _ => fun
  | [d1, d2, d3] => { results := [.lit (.bool false)], args := [d1, d2, d3] }
  | _ => none }
def ShipSharpWrongFalsely : Prop := shipSharpRow.holds Try.pinned (OpenSpec.ofChange shipSharpWrong)

/-- 'motulaw06.ShipRations': WHATEVER THE INPUT: true; the input reads as it did. -/
def shipRationsSpec : ChangeSpec := { name := "shipRations", fn := fun _ => fun
  | [d1, d2, d3, d4] => { results := [.lit (.bool true)], args := [d1, d2, d3, d4] }
  | _ => none }
def shipRationsRow : OpenClaim := { program := "ytajejmbnmphngaa", sum := "e668fb24d0624dd1050c5d560b995c5a489841b0df6228097d50a4b14f161037", func := "motu/motulaw06.ShipRations", spec := "shipRations", unfollowed := true, recurses := true, plainKeys := false, apart := false }
def ShipRationsSaid : Prop := shipRationsRow.holds Try.pinned (OpenSpec.ofChange shipRationsSpec)

/-- ITS FALSE NEIGHBOUR: 'it returns false'. Refute it at one input. -/
def shipRationsWrong : ChangeSpec := { name := "shipRations", fn := fun _ => fun
  | [d1, d2, d3, d4] => { results := [.lit (.bool false)], args := [d1, d2, d3, d4] }
  | _ => none }
def ShipRationsWrongFalsely : Prop := shipRationsRow.holds Try.pinned (OpenSpec.ofChange shipRationsWrong)

/-- 'motulaw06.ShipRationed': WHATEVER THE INPUT: true; the input reads as it did. -/
def shipRationedSpec : ChangeSpec := { name := "shipRationed", fn := fun _ => fun
  | [d1, d2, d3, d4, d5] => { results := [.lit (.bool true)], args := [d1, d2, d3, d4, d5] }
  | _ => none }
def shipRationedRow : OpenClaim := { program := "ytajejmbnmphngaa", sum := "e668fb24d0624dd1050c5d560b995c5a489841b0df6228097d50a4b14f161037", func := "motu/motulaw06.ShipRationed", spec := "shipRationed", unfollowed := true, recurses := true, plainKeys := false, apart := false }
def ShipRationedSaid : Prop := shipRationedRow.holds Try.pinned (OpenSpec.ofChange shipRationedSpec)

/-- ITS FALSE NEIGHBOUR: 'it returns false'. Refute it at one input. -/
def shipRationedWrong : ChangeSpec := { name := "shipRationed", fn := fun _ => fun
  | [d1, d2, d3, d4, d5] => { results := [.lit (.bool false)], args := [d1, d2, d3, d4, d5] }
  | _ => none }
def ShipRationedWrongFalsely : Prop := shipRationedRow.holds Try.pinned (OpenSpec.ofChange shipRationedWrong)

/-- 'motulaw06.ShipCargoes': WHATEVER THE INPUT: true; the input reads as it did. -/
def shipCargoesSpec : ChangeSpec := { name := "shipCargoes", fn := fun _ => fun
  | [d1, d2] => { results := [.lit (.bool true)], args := [d1, d2] }
  | _ => none }
def shipCargoesRow : OpenClaim := { program := "ytajejmbnmphngaa", sum := "e668fb24d0624dd1050c5d560b995c5a489841b0df6228097d50a4b14f161037", func := "motu/motulaw06.ShipCargoes", spec := "shipCargoes", unfollowed := true, recurses := true, plainKeys := false, apart := false }
def ShipCargoesSaid : Prop := shipCargoesRow.holds Try.pinned (OpenSpec.ofChange shipCargoesSpec)

/-- ITS FALSE NEIGHBOUR: 'it returns false'. Refute it at one input. -/
def shipCargoesWrong : ChangeSpec := { name := "shipCargoes", fn := fun _ => fun
  | [d1, d2] => { results := [.lit (.bool false)], args := [d1, d2] }
  | _ => none }
def ShipCargoesWrongFalsely : Prop := shipCargoesRow.holds Try.pinned (OpenSpec.ofChange shipCargoesWrong)

/-- 'motulaw06.ShipRivals': WHATEVER THE INPUT: true; the input reads as it did. -/
def shipRivalsSpec : ChangeSpec := { name := "shipRivals", fn := fun _ => fun
  | [d1, d2, d3, d4] => { results := [.lit (.bool true)], args := [d1, d2, d3, d4] }
  | _ => none }
def shipRivalsRow : OpenClaim := { program := "ytajejmbnmphngaa", sum := "e668fb24d0624dd1050c5d560b995c5a489841b0df6228097d50a4b14f161037", func := "motu/motulaw06.ShipRivals", spec := "shipRivals", unfollowed := true, recurses := true, plainKeys := false, apart := false }
def ShipRivalsSaid : Prop := shipRivalsRow.holds Try.pinned (OpenSpec.ofChange shipRivalsSpec)

/-- ITS FALSE NEIGHBOUR: 'it returns false'. Refute it at one input. -/
def shipRivalsWrong : ChangeSpec := { name := "shipRivals", fn := fun _ => fun
  | [d1, d2, d3, d4] => { results := [.lit (.bool false)], args := [d1, d2, d3, d4] }
  | _ => none }
def ShipRivalsWrongFalsely : Prop := shipRivalsRow.holds Try.pinned (OpenSpec.ofChange shipRivalsWrong)

/-- 'motulaw06.ShipMore': WHATEVER THE INPUT: true; the input reads as it did. -/
def shipMoreSpec : ChangeSpec := { name := "shipMore", fn := fun _ => fun
  | [d1, d2, d3, d4, d5, d6, d7, d8] => { results := [.lit (.bool true)], args := [d1, d2, d3, d4, d5, d6, d7, d8] }
  | _ => none }
def shipMoreRow : OpenClaim := { program := "ytajejmbnmphngaa", sum := "e668fb24d0624dd1050c5d560b995c5a489841b0df6228097d50a4b14f161037", func := "motu/motulaw06.ShipMore", spec := "shipMore", unfollowed := true, recurses := true, plainKeys := false, apart := false }
def ShipMoreSaid : Prop := shipMoreRow.holds Try.pinned (OpenSpec.ofChange shipMoreSpec)

/-- ITS FALSE NEIGHBOUR: 'it returns false'. Refute it at one input. -/
def shipMoreWrong : ChangeSpec := { name := "shipMore", fn := fun _ => fun
  | [d1, d2, d3, d4, d5, d6, d7, d8] => { results := [.lit (.bool false)], args := [d1, d2, d3, d4, d5, d6, d7, d8] }
  | _ => none }
def ShipMoreWrongFalsely : Prop := shipMoreRow.holds Try.pinned (OpenSpec.ofChange shipMoreWrong)

/-- 'motulaw06.ShipHours': WHATEVER THE INPUT: true; the input reads as it did. -/
def shipHoursSpec : ChangeSpec := { name := "shipHours", fn := fun _ => fun
  | [d1, d2, d3] => { results := [.lit (.bool true)], args := [d1, d2, d3] }
  | _ => none }
def shipHoursRow : OpenClaim := { program := "ytajejmbnmphngaa", sum := "e668fb24d0624dd1050c5d560b995c5a489841b0df6228097d50a4b14f161037", func := "motu/motulaw06.ShipHours", spec := "shipHours", unfollowed := true, recurses := true, plainKeys := false, apart := false }
def ShipHoursSaid : Prop := shipHoursRow.holds Try.pinned (OpenSpec.ofChange shipHoursSpec)

/-- ITS FALSE NEIGHBOUR: 'it returns false'. Refute it at one input. -/
def shipHoursWrong : ChangeSpec := { name := "shipHours", fn := fun _ => fun
  | [d1, d2, d3] => { results := [.lit (.bool false)], args := [d1, d2, d3] }
  | _ => none }
def ShipHoursWrongFalsely : Prop := shipHoursRow.holds Try.pinned (OpenSpec.ofChange shipHoursWrong)

/-- 'motulaw06.ShipOpen': WHATEVER THE INPUT: true; the input reads as it did. -/
def shipOpenSpec : ChangeSpec := { name := "shipOpen", fn := fun _ => fun
  | [d1, d2, d3, d4] => { results := [.lit (.bool true)], args := [d1, d2, d3, d4] }
  | _ => none }
def shipOpenRow : OpenClaim := { program := "ytajejmbnmphngaa", sum := "e668fb24d0624dd1050c5d560b995c5a489841b0df6228097d50a4b14f161037", func := "motu/motulaw06.ShipOpen", spec := "shipOpen", unfollowed := true, recurses := true, plainKeys := false, apart := false }
def ShipOpenSaid : Prop := shipOpenRow.holds Try.pinned (OpenSpec.ofChange shipOpenSpec)

/-- ITS FALSE NEIGHBOUR: 'it returns false'. Refute it at one input. -/
def shipOpenWrong : ChangeSpec := { name := "shipOpen", fn := fun _ => fun
  | [d1, d2, d3, d4] => { results := [.lit (.bool false)], args := [d1, d2, d3, d4] }
  | _ => none }
def ShipOpenWrongFalsely : Prop := shipOpenRow.holds Try.pinned (OpenSpec.ofChange shipOpenWrong)

/-- 'motulaw06.ShipPlanned': WHATEVER THE INPUT: true; the input reads as it did. -/
def shipPlannedSpec : ChangeSpec := { name := "shipPlanned", fn := fun _ => fun
  | [d1, d2, d3, d4, d5] => { results := [.lit (.bool true)], args := [d1, d2, d3, d4, d5] }
  | _ => none }
def shipPlannedRow : OpenClaim := { program := "ytajejmbnmphngaa", sum := "e668fb24d0624dd1050c5d560b995c5a489841b0df6228097d50a4b14f161037", func := "motu/motulaw06.ShipPlanned", spec := "shipPlanned", unfollowed := true, recurses := true, plainKeys := false, apart := false }
def ShipPlannedSaid : Prop := shipPlannedRow.holds Try.pinned (OpenSpec.ofChange shipPlannedSpec)

/-- ITS FALSE NEIGHBOUR: 'it returns false'. Refute it at one input. -/
def shipPlannedWrong : ChangeSpec := { name := "shipPlanned", fn := fun _ => fun
  | [d1, d2, d3, d4, d5] => { results := [.lit (.bool false)], args := [d1, d2, d3, d4, d5] }
  | _ => none }
def ShipPlannedWrongFalsely : Prop := shipPlannedRow.holds Try.pinned (OpenSpec.ofChange shipPlannedWrong)

/-- 'motulaw06.ShipWants': WHATEVER THE INPUT: true; the input reads as it did. -/
def shipWantsSpec : ChangeSpec := { name := "shipWants", fn := fun _ => fun
  | [d1, d2, d3] => { results := [.lit (.bool true)], args := [d1, d2, d3] }
  | _ => none }
def shipWantsRow : OpenClaim := { program := "ytajejmbnmphngaa", sum := "e668fb24d0624dd1050c5d560b995c5a489841b0df6228097d50a4b14f161037", func := "motu/motulaw06.ShipWants", spec := "shipWants", unfollowed := true, recurses := true, plainKeys := false, apart := false }
def ShipWantsSaid : Prop := shipWantsRow.holds Try.pinned (OpenSpec.ofChange shipWantsSpec)

/-- ITS FALSE NEIGHBOUR: 'it returns false'. Refute it at one input. -/
def shipWantsWrong : ChangeSpec := { name := "shipWants", fn := fun _ => fun
  | [d1, d2, d3] => { results := [.lit (.bool false)], args := [d1, d2, d3] }
  | _ => none }
def ShipWantsWrongFalsely : Prop := shipWantsRow.holds Try.pinned (OpenSpec.ofChange shipWantsWrong)

/- THE SECOND FORM. 'bulk': how many values and letters a reading holds, each counted each time it is reached (what is shared counts as often as it is met; a slice's spare places count too). A statement '..UptoSaid' is the law's where the arguments, and the package variables that the reading takes, are together of bulk at most 1048576: NARROWER than '..Said'. Prove '..Said' where nothing that the law and all that it calls make is longer than what came in: it says more and counts as full. Else prove '..UptoSaid'. A law counts once. -/
mutual
def uptoBulk {H : Type} : DataW H → Nat
  | .lit (.string bytes) => bytes.length + 1
  | .lit _ => 1
  | .nil => 1
  | .ptr d => uptoBulk d + 1
  | .slice elems spare => uptoBulkAll elems + uptoBulkAll spare + 1
  | .agg parts => uptoBulkAll parts + 1
  | .iface _ d => uptoBulk d + 1
  | .map entries => uptoBulkEntries entries + 1
  | .held _ => 1
def uptoBulkAll {H : Type} : List (DataW H) → Nat
  | [] => 0
  | d :: r => uptoBulk d + uptoBulkAll r
def uptoBulkEntries {H : Type} : List (Lit × DataW H) → Nat
  | [] => 0
  | x :: r => uptoBulkEntry x + uptoBulkEntries r
def uptoBulkEntry {H : Type} : Lit × DataW H → Nat
  | (.string bytes, d) => bytes.length + uptoBulk d + 1
  | (_, d) => uptoBulk d + 1
 end
def uptoSmall : (H : Type) → List (DataW H) → Bool := fun _ ds => decide (uptoBulkAll ds ≤ 1048576)
def OpenSpec.upto (s : _root_.Go.ChangeSpec) : _root_.Go.OpenSpec := { _root_.Go.OpenSpec.ofChange s with cond := some uptoSmall }

/-- 'motulaw06.ShipCalled', WHERE WHAT IT READS IS OF BULK AT MOST 1048576: true; the input reads as it did. -/
def shipCalledUptoRow : OpenClaim := { program := "ytajejmbnmphngaa", sum := "e668fb24d0624dd1050c5d560b995c5a489841b0df6228097d50a4b14f161037", func := "motu/motulaw06.ShipCalled", spec := "shipCalled", unfollowed := true, recurses := true, plainKeys := false, apart := false, narrowed := true }
def ShipCalledUptoSaid : Prop := shipCalledUptoRow.holds Try.pinned (OpenSpec.upto shipCalledSpec)

/-- 'motulaw06.ShipPlays', WHERE WHAT IT READS IS OF BULK AT MOST 1048576: true; the input reads as it did. -/
def shipPlaysUptoRow : OpenClaim := { program := "ytajejmbnmphngaa", sum := "e668fb24d0624dd1050c5d560b995c5a489841b0df6228097d50a4b14f161037", func := "motu/motulaw06.ShipPlays", spec := "shipPlays", unfollowed := true, recurses := true, plainKeys := false, apart := false, narrowed := true }
def ShipPlaysUptoSaid : Prop := shipPlaysUptoRow.holds Try.pinned (OpenSpec.upto shipPlaysSpec)

/-- 'motulaw06.ShipTrue', WHERE WHAT IT READS IS OF BULK AT MOST 1048576: true; the input reads as it did. -/
def shipTrueUptoRow : OpenClaim := { program := "ytajejmbnmphngaa", sum := "e668fb24d0624dd1050c5d560b995c5a489841b0df6228097d50a4b14f161037", func := "motu/motulaw06.ShipTrue", spec := "shipTrue", unfollowed := true, recurses := true, plainKeys := false, apart := false, narrowed := true }
def ShipTrueUptoSaid : Prop := shipTrueUptoRow.holds Try.pinned (OpenSpec.upto shipTrueSpec)

/-- 'motulaw06.ShipSharp', WHERE WHAT IT READS IS OF BULK AT MOST 1048576: true; the input reads as it did. -/
def shipSharpUptoRow : OpenClaim := { program := "ytajejmbnmphngaa", sum := "e668fb24d0624dd1050c5d560b995c5a489841b0df6228097d50a4b14f161037", func := "motu/motulaw06.ShipSharp", spec := "shipSharp", unfollowed := true, recurses := true, plainKeys := false, apart := false, narrowed := true }
def ShipSharpUptoSaid : Prop := shipSharpUptoRow.holds Try.pinned (OpenSpec.upto shipSharpSpec)

/-- 'motulaw06.ShipRations', WHERE WHAT IT READS IS OF BULK AT MOST 1048576: true; the input reads as it did. -/
def shipRationsUptoRow : OpenClaim := { program := "ytajejmbnmphngaa", sum := "e668fb24d0624dd1050c5d560b995c5a489841b0df6228097d50a4b14f161037", func := "motu/motulaw06.ShipRations", spec := "shipRations", unfollowed := true, recurses := true, plainKeys := false, apart := false, narrowed := true }
def ShipRationsUptoSaid : Prop := shipRationsUptoRow.holds Try.pinned (OpenSpec.upto shipRationsSpec)

/-- 'motulaw06.ShipRationed', WHERE WHAT IT READS IS OF BULK AT MOST 1048576: true; the input reads as it did. -/
def shipRationedUptoRow : OpenClaim := { program := "ytajejmbnmphngaa", sum := "e668fb24d0624dd1050c5d560b995c5a489841b0df6228097d50a4b14f161037", func := "motu/motulaw06.ShipRationed", spec := "shipRationed", unfollowed := true, recurses := true, plainKeys := false, apart := false, narrowed := true }
def ShipRationedUptoSaid : Prop := shipRationedUptoRow.holds Try.pinned (OpenSpec.upto shipRationedSpec)

/-- 'motulaw06.ShipCargoes', WHERE WHAT IT READS IS OF BULK AT MOST 1048576: true; the input reads as it did. -/
def shipCargoesUptoRow : OpenClaim := { program := "ytajejmbnmphngaa", sum := "e668fb24d0624dd1050c5d560b995c5a489841b0df6228097d50a4b14f161037", func := "motu/motulaw06.ShipCargoes", spec := "shipCargoes", unfollowed := true, recurses := true, plainKeys := false, apart := false, narrowed := true }
def ShipCargoesUptoSaid : Prop := shipCargoesUptoRow.holds Try.pinned (OpenSpec.upto shipCargoesSpec)

/-- 'motulaw06.ShipRivals', WHERE WHAT IT READS IS OF BULK AT MOST 1048576: true; the input reads as it did. -/
def shipRivalsUptoRow : OpenClaim := { program := "ytajejmbnmphngaa", sum := "e668fb24d0624dd1050c5d560b995c5a489841b0df6228097d50a4b14f161037", func := "motu/motulaw06.ShipRivals", spec := "shipRivals", unfollowed := true, recurses := true, plainKeys := false, apart := false, narrowed := true }
def ShipRivalsUptoSaid : Prop := shipRivalsUptoRow.holds Try.pinned (OpenSpec.upto shipRivalsSpec)

/-- 'motulaw06.ShipMore', WHERE WHAT IT READS IS OF BULK AT MOST 1048576: true; the input reads as it did. -/
def shipMoreUptoRow : OpenClaim := { program := "ytajejmbnmphngaa", sum := "e668fb24d0624dd1050c5d560b995c5a489841b0df6228097d50a4b14f161037", func := "motu/motulaw06.ShipMore", spec := "shipMore", unfollowed := true, recurses := true, plainKeys := false, apart := false, narrowed := true }
def ShipMoreUptoSaid : Prop := shipMoreUptoRow.holds Try.pinned (OpenSpec.upto shipMoreSpec)

/-- 'motulaw06.ShipHours', WHERE WHAT IT READS IS OF BULK AT MOST 1048576: true; the input reads as it did. -/
def shipHoursUptoRow : OpenClaim := { program := "ytajejmbnmphngaa", sum := "e668fb24d0624dd1050c5d560b995c5a489841b0df6228097d50a4b14f161037", func := "motu/motulaw06.ShipHours", spec := "shipHours", unfollowed := true, recurses := true, plainKeys := false, apart := false, narrowed := true }
def ShipHoursUptoSaid : Prop := shipHoursUptoRow.holds Try.pinned (OpenSpec.upto shipHoursSpec)

/-- 'motulaw06.ShipOpen', WHERE WHAT IT READS IS OF BULK AT MOST 1048576: true; the input reads as it did. -/
def shipOpenUptoRow : OpenClaim := { program := "ytajejmbnmphngaa", sum := "e668fb24d0624dd1050c5d560b995c5a489841b0df6228097d50a4b14f161037", func := "motu/motulaw06.ShipOpen", spec := "shipOpen", unfollowed := true, recurses := true, plainKeys := false, apart := false, narrowed := true }
def ShipOpenUptoSaid : Prop := shipOpenUptoRow.holds Try.pinned (OpenSpec.upto shipOpenSpec)

/-- 'motulaw06.ShipPlanned', WHERE WHAT IT READS IS OF BULK AT MOST 1048576: true; the input reads as it did. -/
def shipPlannedUptoRow : OpenClaim := { program := "ytajejmbnmphngaa", sum := "e668fb24d0624dd1050c5d560b995c5a489841b0df6228097d50a4b14f161037", func := "motu/motulaw06.ShipPlanned", spec := "shipPlanned", unfollowed := true, recurses := true, plainKeys := false, apart := false, narrowed := true }
def ShipPlannedUptoSaid : Prop := shipPlannedUptoRow.holds Try.pinned (OpenSpec.upto shipPlannedSpec)

/-- 'motulaw06.ShipWants', WHERE WHAT IT READS IS OF BULK AT MOST 1048576: true; the input reads as it did. -/
def shipWantsUptoRow : OpenClaim := { program := "ytajejmbnmphngaa", sum := "e668fb24d0624dd1050c5d560b995c5a489841b0df6228097d50a4b14f161037", func := "motu/motulaw06.ShipWants", spec := "shipWants", unfollowed := true, recurses := true, plainKeys := false, apart := false, narrowed := true }
def ShipWantsUptoSaid : Prop := shipWantsUptoRow.holds Try.pinned (OpenSpec.upto shipWantsSpec)

end Rows
end Go.Proofs.Ytajejmbnmphngaa
