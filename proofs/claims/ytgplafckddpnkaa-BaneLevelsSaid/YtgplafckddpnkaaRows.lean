/-
  No cell of these rows narrows 'for every input' (looked for: loops, veiled, ifaces, maps, wideKeys, modest, calm, conditions, laid).
  DERIVED. THE GIVEN ROWS OF THIS SEAT. 14 by the template 'for every input the law returns true; each argument reads behind the call as it read before'; 0 by the template 'total and deterministic' (their statements: YtgplafckddpnkaaTotals.lean).
  GIVEN WITH THE SEED: the statements are not yours to turn. If you find one false, say at which input.
  Laid BY PROGRAM, IN A SANDBOX (cutbox-rows.mjs): the forced cells as the released guide's own fill.sh prints them over the translation b1d1651118fef299… (all of the seat's roots in one cut). By AI agents, Wed Nov 11 2026. No macro, syntax, notation, axiom, sorry.
-/
import Derived.Test.YtgplafckddpnkaaChecked
import GoSem.Claim
import GoSem.ClaimJoined
import GoSem.ClaimMapViews
import Derived.JoinedTies
import Derived.KernelRfl
namespace Go.Proofs.Ytgplafckddpnkaa
/- THE CELL 'sum', in the pinned program and in every row, IS THE sha256 OF THE DUMP (.gsa) THAT YtgplafckddpnkaaProg.lean LOADS. Nothing in Lean hashes anything: it is a label: what it is worth is what the hold of that sum in a sandbox is worth. -/
noncomputable def Try.pinned : Pinned := { name := "ytgplafckddpnkaa", sum := "b1d1651118fef299293f712839fc356f9905508df9e28c7505b1c764cab50a09", checked := Try.checked }
namespace Rows
def none {H : Type} : Left H := { results := [], args := [] }

/-- 'motulaw04.BanePlays': WHATEVER THE INPUT: true; the input reads as it did. -/
def banePlaysSpec : ChangeSpec := { name := "banePlays", fn := fun _ => fun
  | [d1, d2] => { results := [.lit (.bool true)], args := [d1, d2] }
  | _ => none }
def banePlaysRow : OpenClaim := { program := "ytgplafckddpnkaa", sum := "b1d1651118fef299293f712839fc356f9905508df9e28c7505b1c764cab50a09", func := "motu/motulaw04.BanePlays", spec := "banePlays", unfollowed := true, recurses := true, plainKeys := false, apart := false }
def BanePlaysSaid : Prop := banePlaysRow.holds Try.pinned (OpenSpec.ofChange banePlaysSpec)

/-- ITS FALSE NEIGHBOUR: 'it returns false'. Refute it at one input. -/
def banePlaysWrong : ChangeSpec := { name := "banePlays", fn := fun _ => fun
  | [d1, d2] => { results := [.lit (.bool false)], args := [d1, d2] }
  | _ => none }
def BanePlaysWrongFalsely : Prop := banePlaysRow.holds Try.pinned (OpenSpec.ofChange banePlaysWrong)

/-- 'motulaw04.BaneSharp': WHATEVER THE INPUT: true; the input reads as it did. -/
def baneSharpSpec : ChangeSpec := { name := "baneSharp", fn := fun _ => fun
  | [d] => { results := [.lit (.bool true)], args := [d] }
  | _ => none }
def baneSharpRow : OpenClaim := { program := "ytgplafckddpnkaa", sum := "b1d1651118fef299293f712839fc356f9905508df9e28c7505b1c764cab50a09", func := "motu/motulaw04.BaneSharp", spec := "baneSharp", unfollowed := true, recurses := true, plainKeys := false, apart := false }
def BaneSharpSaid : Prop := baneSharpRow.holds Try.pinned (OpenSpec.ofChange baneSharpSpec)

/-- ITS FALSE NEIGHBOUR: 'it returns false'. Refute it at one input. -/
def baneSharpWrong : ChangeSpec := { name := "baneSharp", fn := fun _ => fun
  | [d] => { results := [.lit (.bool false)], args := [d] }
  | _ => none }
def BaneSharpWrongFalsely : Prop := baneSharpRow.holds Try.pinned (OpenSpec.ofChange baneSharpWrong)

/-- 'motulaw04.BanePaths': WHATEVER THE INPUT: true; the input reads as it did. -/
def banePathsSpec : ChangeSpec := { name := "banePaths", fn := fun _ => fun
  | [d1, d2, d3] => { results := [.lit (.bool true)], args := [d1, d2, d3] }
  | _ => none }
def banePathsRow : OpenClaim := { program := "ytgplafckddpnkaa", sum := "b1d1651118fef299293f712839fc356f9905508df9e28c7505b1c764cab50a09", func := "motu/motulaw04.BanePaths", spec := "banePaths", unfollowed := true, recurses := true, plainKeys := false, apart := false }
def BanePathsSaid : Prop := banePathsRow.holds Try.pinned (OpenSpec.ofChange banePathsSpec)

/-- ITS FALSE NEIGHBOUR: 'it returns false'. Refute it at one input. -/
def banePathsWrong : ChangeSpec := { name := "banePaths", fn := fun _ => fun
  | [d1, d2, d3] => { results := [.lit (.bool false)], args := [d1, d2, d3] }
  | _ => none }
def BanePathsWrongFalsely : Prop := banePathsRow.holds Try.pinned (OpenSpec.ofChange banePathsWrong)

/-- 'motulaw04.BaneGuards': WHATEVER THE INPUT: true; the input reads as it did. -/
def baneGuardsSpec : ChangeSpec := { name := "baneGuards", fn := fun _ => fun
  | [d] => { results := [.lit (.bool true)], args := [d] }
  | _ => none }
def baneGuardsRow : OpenClaim := { program := "ytgplafckddpnkaa", sum := "b1d1651118fef299293f712839fc356f9905508df9e28c7505b1c764cab50a09", func := "motu/motulaw04.BaneGuards", spec := "baneGuards", unfollowed := true, recurses := true, plainKeys := false, apart := false }
def BaneGuardsSaid : Prop := baneGuardsRow.holds Try.pinned (OpenSpec.ofChange baneGuardsSpec)

/-- ITS FALSE NEIGHBOUR: 'it returns false'. Refute it at one input. -/
def baneGuardsWrong : ChangeSpec := { name := "baneGuards", fn := fun _ => fun
  | [d] => { results := [.lit (.bool false)], args := [d] }
  | _ => none }
def BaneGuardsWrongFalsely : Prop := baneGuardsRow.holds Try.pinned (OpenSpec.ofChange baneGuardsWrong)

/-- 'motulaw04.BaneMore': WHATEVER THE INPUT: true; the input reads as it did. -/
def baneMoreSpec : ChangeSpec := { name := "baneMore", fn := fun _ => fun
  | [d1, d2, d3, d4, d5] => { results := [.lit (.bool true)], args := [d1, d2, d3, d4, d5] }
  | _ => none }
def baneMoreRow : OpenClaim := { program := "ytgplafckddpnkaa", sum := "b1d1651118fef299293f712839fc356f9905508df9e28c7505b1c764cab50a09", func := "motu/motulaw04.BaneMore", spec := "baneMore", unfollowed := true, recurses := true, plainKeys := false, apart := false }
def BaneMoreSaid : Prop := baneMoreRow.holds Try.pinned (OpenSpec.ofChange baneMoreSpec)

/-- ITS FALSE NEIGHBOUR: 'it returns false'. Refute it at one input. -/
def baneMoreWrong : ChangeSpec := { name := "baneMore", fn := fun _ => fun
  | [d1, d2, d3, d4, d5] => { results := [.lit (.bool false)], args := [d1, d2, d3, d4, d5] }
  | _ => none }
def BaneMoreWrongFalsely : Prop := baneMoreRow.holds Try.pinned (OpenSpec.ofChange baneMoreWrong)

/-- 'motulaw04.BaneTests': WHATEVER THE INPUT: true; the input reads as it did. -/
def baneTestsSpec : ChangeSpec := { name := "baneTests", fn := fun _ => fun
  | [d1, d2, d3] => { results := [.lit (.bool true)], args := [d1, d2, d3] }
  | _ => none }
def baneTestsRow : OpenClaim := { program := "ytgplafckddpnkaa", sum := "b1d1651118fef299293f712839fc356f9905508df9e28c7505b1c764cab50a09", func := "motu/motulaw04.BaneTests", spec := "baneTests", unfollowed := true, recurses := true, plainKeys := false, apart := false }
def BaneTestsSaid : Prop := baneTestsRow.holds Try.pinned (OpenSpec.ofChange baneTestsSpec)

/-- ITS FALSE NEIGHBOUR: 'it returns false'. Refute it at one input. -/
def baneTestsWrong : ChangeSpec := { name := "baneTests", fn := fun _ => fun
  | [d1, d2, d3] => { results := [.lit (.bool false)], args := [d1, d2, d3] }
  | _ => none }
def BaneTestsWrongFalsely : Prop := baneTestsRow.holds Try.pinned (OpenSpec.ofChange baneTestsWrong)

/-- 'motulaw04.BaneSafe': WHATEVER THE INPUT: true; the input reads as it did. -/
def baneSafeSpec : ChangeSpec := { name := "baneSafe", fn := fun _ => fun
  | [d1, d2, d3, d4] => { results := [.lit (.bool true)], args := [d1, d2, d3, d4] }
  | _ => none }
def baneSafeRow : OpenClaim := { program := "ytgplafckddpnkaa", sum := "b1d1651118fef299293f712839fc356f9905508df9e28c7505b1c764cab50a09", func := "motu/motulaw04.BaneSafe", spec := "baneSafe", unfollowed := true, recurses := true, plainKeys := false, apart := false }
def BaneSafeSaid : Prop := baneSafeRow.holds Try.pinned (OpenSpec.ofChange baneSafeSpec)

/-- ITS FALSE NEIGHBOUR: 'it returns false'. Refute it at one input. -/
def baneSafeWrong : ChangeSpec := { name := "baneSafe", fn := fun _ => fun
  | [d1, d2, d3, d4] => { results := [.lit (.bool false)], args := [d1, d2, d3, d4] }
  | _ => none }
def BaneSafeWrongFalsely : Prop := baneSafeRow.holds Try.pinned (OpenSpec.ofChange baneSafeWrong)

/-- 'motulaw04.BaneRivals': WHATEVER THE INPUT: true; the input reads as it did. -/
def baneRivalsSpec : ChangeSpec := { name := "baneRivals", fn := fun _ => fun
  | [d1, d2, d3] => { results := [.lit (.bool true)], args := [d1, d2, d3] }
  | _ => none }
def baneRivalsRow : OpenClaim := { program := "ytgplafckddpnkaa", sum := "b1d1651118fef299293f712839fc356f9905508df9e28c7505b1c764cab50a09", func := "motu/motulaw04.BaneRivals", spec := "baneRivals", unfollowed := true, recurses := true, plainKeys := false, apart := false }
def BaneRivalsSaid : Prop := baneRivalsRow.holds Try.pinned (OpenSpec.ofChange baneRivalsSpec)

/-- ITS FALSE NEIGHBOUR: 'it returns false'. Refute it at one input. -/
def baneRivalsWrong : ChangeSpec := { name := "baneRivals", fn := fun _ => fun
  | [d1, d2, d3] => { results := [.lit (.bool false)], args := [d1, d2, d3] }
  | _ => none }
def BaneRivalsWrongFalsely : Prop := baneRivalsRow.holds Try.pinned (OpenSpec.ofChange baneRivalsWrong)

/-- 'motulaw04.BaneBetter': WHATEVER THE INPUT: true; the input reads as it did. -/
def baneBetterSpec : ChangeSpec := { name := "baneBetter", fn := fun _ => fun
  | [d1, d2, d3, d4, d5, d6] => { results := [.lit (.bool true)], args := [d1, d2, d3, d4, d5, d6] }
  | _ => none }
def baneBetterRow : OpenClaim := { program := "ytgplafckddpnkaa", sum := "b1d1651118fef299293f712839fc356f9905508df9e28c7505b1c764cab50a09", func := "motu/motulaw04.BaneBetter", spec := "baneBetter", unfollowed := true, recurses := true, plainKeys := false, apart := false }
def BaneBetterSaid : Prop := baneBetterRow.holds Try.pinned (OpenSpec.ofChange baneBetterSpec)

/-- ITS FALSE NEIGHBOUR: 'it returns false'. Refute it at one input. -/
def baneBetterWrong : ChangeSpec := { name := "baneBetter", fn := fun _ => fun
  | [d1, d2, d3, d4, d5, d6] => { results := [.lit (.bool false)], args := [d1, d2, d3, d4, d5, d6] }
  | _ => none }
def BaneBetterWrongFalsely : Prop := baneBetterRow.holds Try.pinned (OpenSpec.ofChange baneBetterWrong)

/-- 'motulaw04.BaneCarried': WHATEVER THE INPUT: true; the input reads as it did. -/
def baneCarriedSpec : ChangeSpec := { name := "baneCarried", fn := fun _ => fun
  | [d1, d2, d3, d4, d5] => { results := [.lit (.bool true)], args := [d1, d2, d3, d4, d5] }
  | _ => none }
def baneCarriedRow : OpenClaim := { program := "ytgplafckddpnkaa", sum := "b1d1651118fef299293f712839fc356f9905508df9e28c7505b1c764cab50a09", func := "motu/motulaw04.BaneCarried", spec := "baneCarried", unfollowed := true, recurses := true, plainKeys := false, apart := false }
def BaneCarriedSaid : Prop := baneCarriedRow.holds Try.pinned (OpenSpec.ofChange baneCarriedSpec)

/-- ITS FALSE NEIGHBOUR: 'it returns false'. Refute it at one input. -/
def baneCarriedWrong : ChangeSpec := { name := "baneCarried", fn := fun _ => fun
  | [d1, d2, d3, d4, d5] => { results := [.lit (.bool false)], args := [d1, d2, d3, d4, d5] }
  | _ => none }
def BaneCarriedWrongFalsely : Prop := baneCarriedRow.holds Try.pinned (OpenSpec.ofChange baneCarriedWrong)

/-- 'motulaw04.BaneKept': WHATEVER THE INPUT: true; the input reads as it did. -/
def baneKeptSpec : ChangeSpec := { name := "baneKept", fn := fun _ => fun
  | [d1, d2, d3, d4] => { results := [.lit (.bool true)], args := [d1, d2, d3, d4] }
  | _ => none }
def baneKeptRow : OpenClaim := { program := "ytgplafckddpnkaa", sum := "b1d1651118fef299293f712839fc356f9905508df9e28c7505b1c764cab50a09", func := "motu/motulaw04.BaneKept", spec := "baneKept", unfollowed := true, recurses := true, plainKeys := false, apart := false }
def BaneKeptSaid : Prop := baneKeptRow.holds Try.pinned (OpenSpec.ofChange baneKeptSpec)

/-- ITS FALSE NEIGHBOUR: 'it returns false'. Refute it at one input. -/
def baneKeptWrong : ChangeSpec := { name := "baneKept", fn := fun _ => fun
  | [d1, d2, d3, d4] => { results := [.lit (.bool false)], args := [d1, d2, d3, d4] }
  | _ => none }
def BaneKeptWrongFalsely : Prop := baneKeptRow.holds Try.pinned (OpenSpec.ofChange baneKeptWrong)

/-- 'motulaw04.BaneSpreads': WHATEVER THE INPUT: true; the input reads as it did. -/
def baneSpreadsSpec : ChangeSpec := { name := "baneSpreads", fn := fun _ => fun
  | [d1, d2, d3] => { results := [.lit (.bool true)], args := [d1, d2, d3] }
  | _ => none }
def baneSpreadsRow : OpenClaim := { program := "ytgplafckddpnkaa", sum := "b1d1651118fef299293f712839fc356f9905508df9e28c7505b1c764cab50a09", func := "motu/motulaw04.BaneSpreads", spec := "baneSpreads", unfollowed := true, recurses := true, plainKeys := false, apart := false }
def BaneSpreadsSaid : Prop := baneSpreadsRow.holds Try.pinned (OpenSpec.ofChange baneSpreadsSpec)

/-- ITS FALSE NEIGHBOUR: 'it returns false'. Refute it at one input. -/
def baneSpreadsWrong : ChangeSpec := { name := "baneSpreads", fn := fun _ => fun
  | [d1, d2, d3] => { results := [.lit (.bool false)], args := [d1, d2, d3] }
  | _ => none }
def BaneSpreadsWrongFalsely : Prop := baneSpreadsRow.holds Try.pinned (OpenSpec.ofChange baneSpreadsWrong)

/-- 'motulaw04.BaneTrue': WHATEVER THE INPUT: true; the input reads as it did. -/
def baneTrueSpec : ChangeSpec := { name := "baneTrue", fn := fun _ => fun
  | [d1, d2, d3] => { results := [.lit (.bool true)], args := [d1, d2, d3] }
  | _ => none }
def baneTrueRow : OpenClaim := { program := "ytgplafckddpnkaa", sum := "b1d1651118fef299293f712839fc356f9905508df9e28c7505b1c764cab50a09", func := "motu/motulaw04.BaneTrue", spec := "baneTrue", unfollowed := true, recurses := true, plainKeys := false, apart := false }
def BaneTrueSaid : Prop := baneTrueRow.holds Try.pinned (OpenSpec.ofChange baneTrueSpec)

/-- ITS FALSE NEIGHBOUR: 'it returns false'. Refute it at one input. -/
def baneTrueWrong : ChangeSpec := { name := "baneTrue", fn := fun _ => fun
  | [d1, d2, d3] => { results := [.lit (.bool false)], args := [d1, d2, d3] }
  | _ => none }
def BaneTrueWrongFalsely : Prop := baneTrueRow.holds Try.pinned (OpenSpec.ofChange baneTrueWrong)

/-- 'motulaw04.BaneLevels': WHATEVER THE INPUT: true; the input reads as it did. -/
def baneLevelsSpec : ChangeSpec := { name := "baneLevels", fn := fun _ => fun
  | [d1, d2] => { results := [.lit (.bool true)], args := [d1, d2] }
  | _ => none }
def baneLevelsRow : OpenClaim := { program := "ytgplafckddpnkaa", sum := "b1d1651118fef299293f712839fc356f9905508df9e28c7505b1c764cab50a09", func := "motu/motulaw04.BaneLevels", spec := "baneLevels", unfollowed := true, recurses := true, plainKeys := false, apart := false }
def BaneLevelsSaid : Prop := baneLevelsRow.holds Try.pinned (OpenSpec.ofChange baneLevelsSpec)

/-- ITS FALSE NEIGHBOUR: 'it returns false'. Refute it at one input. -/
def baneLevelsWrong : ChangeSpec := { name := "baneLevels", fn := fun _ => fun
  | [d1, d2] => { results := [.lit (.bool false)], args := [d1, d2] }
  | _ => none }
def BaneLevelsWrongFalsely : Prop := baneLevelsRow.holds Try.pinned (OpenSpec.ofChange baneLevelsWrong)

/- THE SECOND FORM. 'bulk': how many values and letters a reading holds, each counted each time it is reached (what is shared counts as often as it is met; a slice's spare places count too). A statement '..UptoSaid' is the law's where the arguments, and the package variables that the reading takes, are together of bulk at most 1048576: NARROWER than '..Said'. Prove '..Said' where nothing that the law and all that it calls make is longer than what came in: it says more and counts as full. Else prove '..UptoSaid'. A law counts once. -/
mutual
def uptoBulk {H : Type} : DataW H → Nat
  | .lit (.string bytes) => bytes.length + 1
  | .lit _ => 1
  | .nil => 1
  | .ptr d => uptoBulk d + 1
  | .slice elems spare => uptoBulkAll elems + uptoBulkAll spare + 1
  | .agg parts => uptoBulkAll parts + 1
  | .iface _ d => uptoBulk d + 1
  | .map entries => uptoBulkEntries entries + 1
  | .held _ => 1
def uptoBulkAll {H : Type} : List (DataW H) → Nat
  | [] => 0
  | d :: r => uptoBulk d + uptoBulkAll r
def uptoBulkEntries {H : Type} : List (Lit × DataW H) → Nat
  | [] => 0
  | x :: r => uptoBulkEntry x + uptoBulkEntries r
def uptoBulkEntry {H : Type} : Lit × DataW H → Nat
  | (.string bytes, d) => bytes.length + uptoBulk d + 1
  | (_, d) => uptoBulk d + 1
 end
def uptoSmall : (H : Type) → List (DataW H) → Bool := fun _ ds => decide (uptoBulkAll ds ≤ 1048576)
def OpenSpec.upto (s : _root_.Go.ChangeSpec) : _root_.Go.OpenSpec := { _root_.Go.OpenSpec.ofChange s with cond := some uptoSmall }

/-- 'motulaw04.BanePlays', WHERE WHAT IT READS IS OF BULK AT MOST 1048576: true; the input reads as it did. -/
def banePlaysUptoRow : OpenClaim := { program := "ytgplafckddpnkaa", sum := "b1d1651118fef299293f712839fc356f9905508df9e28c7505b1c764cab50a09", func := "motu/motulaw04.BanePlays", spec := "banePlays", unfollowed := true, recurses := true, plainKeys := false, apart := false, narrowed := true }
def BanePlaysUptoSaid : Prop := banePlaysUptoRow.holds Try.pinned (OpenSpec.upto banePlaysSpec)

/-- 'motulaw04.BaneSharp', WHERE WHAT IT READS IS OF BULK AT MOST 1048576: true; the input reads as it did. -/
def baneSharpUptoRow : OpenClaim := { program := "ytgplafckddpnkaa", sum := "b1d1651118fef299293f712839fc356f9905508df9e28c7505b1c764cab50a09", func := "motu/motulaw04.BaneSharp", spec := "baneSharp", unfollowed := true, recurses := true, plainKeys := false, apart := false, narrowed := true }
def BaneSharpUptoSaid : Prop := baneSharpUptoRow.holds Try.pinned (OpenSpec.upto baneSharpSpec)

/-- 'motulaw04.BanePaths', WHERE WHAT IT READS IS OF BULK AT MOST 1048576: true; the input reads as it did. -/
def banePathsUptoRow : OpenClaim := { program := "ytgplafckddpnkaa", sum := "b1d1651118fef299293f712839fc356f9905508df9e28c7505b1c764cab50a09", func := "motu/motulaw04.BanePaths", spec := "banePaths", unfollowed := true, recurses := true, plainKeys := false, apart := false, narrowed := true }
def BanePathsUptoSaid : Prop := banePathsUptoRow.holds Try.pinned (OpenSpec.upto banePathsSpec)

/-- 'motulaw04.BaneGuards', WHERE WHAT IT READS IS OF BULK AT MOST 1048576: true; the input reads as it did. -/
def baneGuardsUptoRow : OpenClaim := { program := "ytgplafckddpnkaa", sum := "b1d1651118fef299293f712839fc356f9905508df9e28c7505b1c764cab50a09", func := "motu/motulaw04.BaneGuards", spec := "baneGuards", unfollowed := true, recurses := true, plainKeys := false, apart := false, narrowed := true }
def BaneGuardsUptoSaid : Prop := baneGuardsUptoRow.holds Try.pinned (OpenSpec.upto baneGuardsSpec)

/-- 'motulaw04.BaneMore', WHERE WHAT IT READS IS OF BULK AT MOST 1048576: true; the input reads as it did. -/
def baneMoreUptoRow : OpenClaim := { program := "ytgplafckddpnkaa", sum := "b1d1651118fef299293f712839fc356f9905508df9e28c7505b1c764cab50a09", func := "motu/motulaw04.BaneMore", spec := "baneMore", unfollowed := true, recurses := true, plainKeys := false, apart := false, narrowed := true }
def BaneMoreUptoSaid : Prop := baneMoreUptoRow.holds Try.pinned (OpenSpec.upto baneMoreSpec)

/-- 'motulaw04.BaneTests', WHERE WHAT IT READS IS OF BULK AT MOST 1048576: true; the input reads as it did. -/
def baneTestsUptoRow : OpenClaim := { program := "ytgplafckddpnkaa", sum := "b1d1651118fef299293f712839fc356f9905508df9e28c7505b1c764cab50a09", func := "motu/motulaw04.BaneTests", spec := "baneTests", unfollowed := true, recurses := true, plainKeys := false, apart := false, narrowed := true }
def BaneTestsUptoSaid : Prop := baneTestsUptoRow.holds Try.pinned (OpenSpec.upto baneTestsSpec)

/-- 'motulaw04.BaneSafe', WHERE WHAT IT READS IS OF BULK AT MOST 1048576: true; the input reads as it did. -/
def baneSafeUptoRow : OpenClaim := { program := "ytgplafckddpnkaa", sum := "b1d1651118fef299293f712839fc356f9905508df9e28c7505b1c764cab50a09", func := "motu/motulaw04.BaneSafe", spec := "baneSafe", unfollowed := true, recurses := true, plainKeys := false, apart := false, narrowed := true }
def BaneSafeUptoSaid : Prop := baneSafeUptoRow.holds Try.pinned (OpenSpec.upto baneSafeSpec)

/-- 'motulaw04.BaneRivals', WHERE WHAT IT READS IS OF BULK AT MOST 1048576: true; the input reads as it did. -/
def baneRivalsUptoRow : OpenClaim := { program := "ytgplafckddpnkaa", sum := "b1d1651118fef299293f712839fc356f9905508df9e28c7505b1c764cab50a09", func := "motu/motulaw04.BaneRivals", spec := "baneRivals", unfollowed := true, recurses := true, plainKeys := false, apart := false, narrowed := true }
def BaneRivalsUptoSaid : Prop := baneRivalsUptoRow.holds Try.pinned (OpenSpec.upto baneRivalsSpec)

/-- 'motulaw04.BaneBetter', WHERE WHAT IT READS IS OF BULK AT MOST 1048576: true; the input reads as it did. -/
def baneBetterUptoRow : OpenClaim := { program := "ytgplafckddpnkaa", sum := "b1d1651118fef299293f712839fc356f9905508df9e28c7505b1c764cab50a09", func := "motu/motulaw04.BaneBetter", spec := "baneBetter", unfollowed := true, recurses := true, plainKeys := false, apart := false, narrowed := true }
def BaneBetterUptoSaid : Prop := baneBetterUptoRow.holds Try.pinned (OpenSpec.upto baneBetterSpec)

/-- 'motulaw04.BaneCarried', WHERE WHAT IT READS IS OF BULK AT MOST 1048576: true; the input reads as it did. -/
def baneCarriedUptoRow : OpenClaim := { program := "ytgplafckddpnkaa", sum := "b1d1651118fef299293f712839fc356f9905508df9e28c7505b1c764cab50a09", func := "motu/motulaw04.BaneCarried", spec := "baneCarried", unfollowed := true, recurses := true, plainKeys := false, apart := false, narrowed := true }
def BaneCarriedUptoSaid : Prop := baneCarriedUptoRow.holds Try.pinned (OpenSpec.upto baneCarriedSpec)

/-- 'motulaw04.BaneKept', WHERE WHAT IT READS IS OF BULK AT MOST 1048576: true; the input reads as it did. -/
def baneKeptUptoRow : OpenClaim := { program := "ytgplafckddpnkaa", sum := "b1d1651118fef299293f712839fc356f9905508df9e28c7505b1c764cab50a09", func := "motu/motulaw04.BaneKept", spec := "baneKept", unfollowed := true, recurses := true, plainKeys := false, apart := false, narrowed := true }
def BaneKeptUptoSaid : Prop := baneKeptUptoRow.holds Try.pinned (OpenSpec.upto baneKeptSpec)

/-- 'motulaw04.BaneSpreads', WHERE WHAT IT READS IS OF BULK AT MOST 1048576: true; the input reads as it did. -/
def baneSpreadsUptoRow : OpenClaim := { program := "ytgplafckddpnkaa", sum := "b1d1651118fef299293f712839fc356f9905508df9e28c7505b1c764cab50a09", func := "motu/motulaw04.BaneSpreads", spec := "baneSpreads", unfollowed := true, recurses := true, plainKeys := false, apart := false, narrowed := true }
def BaneSpreadsUptoSaid : Prop := baneSpreadsUptoRow.holds Try.pinned (OpenSpec.upto baneSpreadsSpec)

/-- 'motulaw04.BaneTrue', WHERE WHAT IT READS IS OF BULK AT MOST 1048576: true; the input reads as it did. -/
def baneTrueUptoRow : OpenClaim := { program := "ytgplafckddpnkaa", sum := "b1d1651118fef299293f712839fc356f9905508df9e28c7505b1c764cab50a09", func := "motu/motulaw04.BaneTrue", spec := "baneTrue", unfollowed := true, recurses := true, plainKeys := false, apart := false, narrowed := true }
def BaneTrueUptoSaid : Prop := baneTrueUptoRow.holds Try.pinned (OpenSpec.upto baneTrueSpec)

/-- 'motulaw04.BaneLevels', WHERE WHAT IT READS IS OF BULK AT MOST 1048576: true; the input reads as it did. -/
def baneLevelsUptoRow : OpenClaim := { program := "ytgplafckddpnkaa", sum := "b1d1651118fef299293f712839fc356f9905508df9e28c7505b1c764cab50a09", func := "motu/motulaw04.BaneLevels", spec := "baneLevels", unfollowed := true, recurses := true, plainKeys := false, apart := false, narrowed := true }
def BaneLevelsUptoSaid : Prop := baneLevelsUptoRow.holds Try.pinned (OpenSpec.upto baneLevelsSpec)

end Rows
end Go.Proofs.Ytgplafckddpnkaa
