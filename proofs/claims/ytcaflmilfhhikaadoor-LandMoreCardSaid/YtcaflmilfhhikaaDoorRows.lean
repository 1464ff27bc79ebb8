/-
  NARROWER THAN 'FOR EVERY INPUT', by the rows' own cells (each row's printed sentence says how): LandClashes: laid · LandShown: laid · LandDropped: laid · LandTruths: laid · LandTold: laid · LandMore: laid · LandLines: laid · LandKnown: laid · LandTrue: laid · LandSharp: laid · LandHeld: laid.
  DERIVED. THE GIVEN ROWS OF THIS SEAT. 11 by the template 'for every input the law returns true; each argument reads behind the call as it read before'; 0 by the template 'total and deterministic' (their statements: YtcaflmilfhhikaaDoorTotals.lean).
  GIVEN WITH THE SEED: the statements are not yours to turn. If you find one false, say at which input.
  Laid BY PROGRAM, IN A SANDBOX (cutbox-rows.mjs): the forced cells as the released guide's own fill.sh prints them over the translation 3f81bb9dc283e008… (all of the seat's roots in one cut). By AI agents, Wed Nov 11 2026. No macro, syntax, notation, axiom, sorry.
-/
import Derived.Test.YtcaflmilfhhikaaDoorChecked
import GoSem.Claim
import GoSem.ClaimJoined
import GoSem.ClaimMapViews
import Derived.JoinedTies
import Derived.KernelRfl
namespace Go.Proofs.YtcaflmilfhhikaaDoor
/- THE CELL 'sum', in the pinned program and in every row, IS THE sha256 OF THE DUMP (.gsa) THAT YtcaflmilfhhikaaDoorProg.lean LOADS. Nothing in Lean hashes anything: it is a label: what it is worth is what the hold of that sum in a sandbox is worth. -/
noncomputable def Tryd.pinned : Pinned := { name := "ytcaflmilfhhikaadoor", sum := "3f81bb9dc283e00809a8813c3fa02dec18ba85315268e85535469b114dd35f5a", checked := Tryd.checked }
namespace Rows
def none {H : Type} : Left H := { results := [], args := [] }

/- WHAT THE LISTED PACKAGE-LEVEL VARIABLES READ AS WHEN THE CALL BEGINS. Each datum BY PROGRAM (the guide's laid-datum.mjs) off the statement by which the dump's own 'gosem.cut.vars' lays the variable. In a bare row this is a premise. The card (YtcaflmilfhhikaaDoorCards.lean) ties it to the program's text. -/
def laid_math_bits_deBruijn32tab {H : Type} : DataW H := .agg [.lit (.int .u8 0), .lit (.int .u8 1), .lit (.int .u8 28), .lit (.int .u8 2), .lit (.int .u8 29), .lit (.int .u8 14), .lit (.int .u8 24), .lit (.int .u8 3), .lit (.int .u8 30), .lit (.int .u8 22), .lit (.int .u8 20), .lit (.int .u8 15), .lit (.int .u8 25), .lit (.int .u8 17), .lit (.int .u8 4), .lit (.int .u8 8), .lit (.int .u8 31), .lit (.int .u8 27), .lit (.int .u8 13), .lit (.int .u8 23), .lit (.int .u8 21), .lit (.int .u8 19), .lit (.int .u8 16), .lit (.int .u8 7), .lit (.int .u8 26), .lit (.int .u8 12), .lit (.int .u8 18), .lit (.int .u8 6), .lit (.int .u8 11), .lit (.int .u8 5), .lit (.int .u8 10), .lit (.int .u8 9)]
def laid_math_bits_deBruijn64tab {H : Type} : DataW H := .agg [.lit (.int .u8 0), .lit (.int .u8 1), .lit (.int .u8 56), .lit (.int .u8 2), .lit (.int .u8 57), .lit (.int .u8 49), .lit (.int .u8 28), .lit (.int .u8 3), .lit (.int .u8 61), .lit (.int .u8 58), .lit (.int .u8 42), .lit (.int .u8 50), .lit (.int .u8 38), .lit (.int .u8 29), .lit (.int .u8 17), .lit (.int .u8 4), .lit (.int .u8 62), .lit (.int .u8 47), .lit (.int .u8 59), .lit (.int .u8 36), .lit (.int .u8 45), .lit (.int .u8 43), .lit (.int .u8 51), .lit (.int .u8 22), .lit (.int .u8 53), .lit (.int .u8 39), .lit (.int .u8 33), .lit (.int .u8 30), .lit (.int .u8 24), .lit (.int .u8 18), .lit (.int .u8 12), .lit (.int .u8 5), .lit (.int .u8 63), .lit (.int .u8 55), .lit (.int .u8 48), .lit (.int .u8 27), .lit (.int .u8 60), .lit (.int .u8 41), .lit (.int .u8 37), .lit (.int .u8 16), .lit (.int .u8 46), .lit (.int .u8 35), .lit (.int .u8 44), .lit (.int .u8 21), .lit (.int .u8 52), .lit (.int .u8 32), .lit (.int .u8 23), .lit (.int .u8 11), .lit (.int .u8 54), .lit (.int .u8 26), .lit (.int .u8 40), .lit (.int .u8 15), .lit (.int .u8 34), .lit (.int .u8 20), .lit (.int .u8 31), .lit (.int .u8 10), .lit (.int .u8 25), .lit (.int .u8 14), .lit (.int .u8 19), .lit (.int .u8 9), .lit (.int .u8 13), .lit (.int .u8 8), .lit (.int .u8 7), .lit (.int .u8 6)]
def laid_internal_strconv_uint64pow10 {H : Type} : DataW H := .agg [.lit (.int .u64 1), .lit (.int .u64 10), .lit (.int .u64 100), .lit (.int .u64 1000), .lit (.int .u64 10000), .lit (.int .u64 100000), .lit (.int .u64 1000000), .lit (.int .u64 10000000), .lit (.int .u64 100000000), .lit (.int .u64 1000000000), .lit (.int .u64 10000000000), .lit (.int .u64 100000000000), .lit (.int .u64 1000000000000), .lit (.int .u64 10000000000000), .lit (.int .u64 100000000000000), .lit (.int .u64 1000000000000000), .lit (.int .u64 10000000000000000), .lit (.int .u64 100000000000000000), .lit (.int .u64 1000000000000000000), .lit (.int .u64 10000000000000000000)]

/-- 'motulaw02.LandClashes': WHATEVER THE INPUT: true; the input reads as it did. -/
def landClashesSpec : ChangeSpec := { name := "landClashes", fn := fun _ => fun
  | [d] => { results := [.lit (.bool true)], args := [d] }
  | _ => none }
def landClashesRow : OpenClaim := { program := "ytcaflmilfhhikaadoor", sum := "3f81bb9dc283e00809a8813c3fa02dec18ba85315268e85535469b114dd35f5a", func := "motu/motulaw02.LandClashes", spec := "landClashes", inPlace := ["slices.overlaps[int]", "internal/abi.NoEscape"], unfollowed := true, recurses := true, named := ["internal/strconv.uint64pow10", "math/bits.deBruijn32tab", "math/bits.deBruijn64tab"], apart := false, laid := [("math/bits.deBruijn32tab", laid_math_bits_deBruijn32tab), ("math/bits.deBruijn64tab", laid_math_bits_deBruijn64tab), ("internal/strconv.uint64pow10", laid_internal_strconv_uint64pow10)] }
def LandClashesSaid : Prop := landClashesRow.holds Tryd.pinned (OpenSpec.ofChange landClashesSpec)

/-- ITS FALSE NEIGHBOUR: 'it returns false'. Refute it at one input. -/
def landClashesWrong : ChangeSpec := { name := "landClashes", fn := fun _ => fun
  | [d] => { results := [.lit (.bool false)], args := [d] }
  | _ => none }
def LandClashesWrongFalsely : Prop := landClashesRow.holds Tryd.pinned (OpenSpec.ofChange landClashesWrong)

/-- 'motulaw02.LandShown': WHATEVER THE INPUT: true; the input reads as it did. -/
def landShownSpec : ChangeSpec := { name := "landShown", fn := fun _ => fun
  | [d1, d2] => { results := [.lit (.bool true)], args := [d1, d2] }
  | _ => none }
def landShownRow : OpenClaim := { program := "ytcaflmilfhhikaadoor", sum := "3f81bb9dc283e00809a8813c3fa02dec18ba85315268e85535469b114dd35f5a", func := "motu/motulaw02.LandShown", spec := "landShown", inPlace := ["slices.overlaps[int]", "internal/abi.NoEscape"], unfollowed := true, recurses := true, named := ["internal/strconv.uint64pow10", "math/bits.deBruijn32tab", "math/bits.deBruijn64tab"], apart := false, laid := [("math/bits.deBruijn32tab", laid_math_bits_deBruijn32tab), ("math/bits.deBruijn64tab", laid_math_bits_deBruijn64tab), ("internal/strconv.uint64pow10", laid_internal_strconv_uint64pow10)] }
def LandShownSaid : Prop := landShownRow.holds Tryd.pinned (OpenSpec.ofChange landShownSpec)

/-- ITS FALSE NEIGHBOUR: 'it returns false'. Refute it at one input. -/
def landShownWrong : ChangeSpec := { name := "landShown", fn := fun _ => fun
  | [d1, d2] => { results := [.lit (.bool false)], args := [d1, d2] }
  | _ => none }
def LandShownWrongFalsely : Prop := landShownRow.holds Tryd.pinned (OpenSpec.ofChange landShownWrong)

/-- 'motulaw02.LandDropped': WHATEVER THE INPUT: true; the input reads as it did. -/
def landDroppedSpec : ChangeSpec := { name := "landDropped", fn := fun _ => fun
  | [d1, d2] => { results := [.lit (.bool true)], args := [d1, d2] }
  | _ => none }
def landDroppedRow : OpenClaim := { program := "ytcaflmilfhhikaadoor", sum := "3f81bb9dc283e00809a8813c3fa02dec18ba85315268e85535469b114dd35f5a", func := "motu/motulaw02.LandDropped", spec := "landDropped", inPlace := ["slices.overlaps[int]", "internal/abi.NoEscape"], unfollowed := true, recurses := true, named := ["internal/strconv.uint64pow10", "math/bits.deBruijn32tab", "math/bits.deBruijn64tab"], apart := false, laid := [("math/bits.deBruijn32tab", laid_math_bits_deBruijn32tab), ("math/bits.deBruijn64tab", laid_math_bits_deBruijn64tab), ("internal/strconv.uint64pow10", laid_internal_strconv_uint64pow10)] }
def LandDroppedSaid : Prop := landDroppedRow.holds Tryd.pinned (OpenSpec.ofChange landDroppedSpec)

/-- ITS FALSE NEIGHBOUR: 'it returns false'. Refute it at one input. -/
def landDroppedWrong : ChangeSpec := { name := "landDropped", fn := fun _ => fun
  | [d1, d2] => { results := [.lit (.bool false)], args := [d1, d2] }
  | _ => none }
def LandDroppedWrongFalsely : Prop := landDroppedRow.holds Tryd.pinned (OpenSpec.ofChange landDroppedWrong)

/-- 'motulaw02.LandTruths': WHATEVER THE INPUT: true; the input reads as it did. -/
def landTruthsSpec : ChangeSpec := { name := "landTruths", fn := fun _ => fun
  | [d1, d2] => { results := [.lit (.bool true)], args := [d1, d2] }
  | _ => none }
def landTruthsRow : OpenClaim := { program := "ytcaflmilfhhikaadoor", sum := "3f81bb9dc283e00809a8813c3fa02dec18ba85315268e85535469b114dd35f5a", func := "motu/motulaw02.LandTruths", spec := "landTruths", inPlace := ["slices.overlaps[int]", "internal/abi.NoEscape"], unfollowed := true, recurses := true, named := ["internal/strconv.uint64pow10", "math/bits.deBruijn32tab", "math/bits.deBruijn64tab"], apart := false, laid := [("math/bits.deBruijn32tab", laid_math_bits_deBruijn32tab), ("math/bits.deBruijn64tab", laid_math_bits_deBruijn64tab), ("internal/strconv.uint64pow10", laid_internal_strconv_uint64pow10)] }
def LandTruthsSaid : Prop := landTruthsRow.holds Tryd.pinned (OpenSpec.ofChange landTruthsSpec)

/-- ITS FALSE NEIGHBOUR: 'it returns false'. Refute it at one input. -/
def landTruthsWrong : ChangeSpec := { name := "landTruths", fn := fun _ => fun
  | [d1, d2] => { results := [.lit (.bool false)], args := [d1, d2] }
  | _ => none }
def LandTruthsWrongFalsely : Prop := landTruthsRow.holds Tryd.pinned (OpenSpec.ofChange landTruthsWrong)

/-- 'motulaw02.LandTold': WHATEVER THE INPUT: true; the input reads as it did. -/
def landToldSpec : ChangeSpec := { name := "landTold", fn := fun _ => fun
  | [d1, d2, d3, d4, d5] => { results := [.lit (.bool true)], args := [d1, d2, d3, d4, d5] }
  | _ => none }
def landToldRow : OpenClaim := { program := "ytcaflmilfhhikaadoor", sum := "3f81bb9dc283e00809a8813c3fa02dec18ba85315268e85535469b114dd35f5a", func := "motu/motulaw02.LandTold", spec := "landTold", inPlace := ["slices.overlaps[int]", "internal/abi.NoEscape"], unfollowed := true, recurses := true, named := ["internal/strconv.uint64pow10", "math/bits.deBruijn32tab", "math/bits.deBruijn64tab"], apart := false, laid := [("math/bits.deBruijn32tab", laid_math_bits_deBruijn32tab), ("math/bits.deBruijn64tab", laid_math_bits_deBruijn64tab), ("internal/strconv.uint64pow10", laid_internal_strconv_uint64pow10)] }
def LandToldSaid : Prop := landToldRow.holds Tryd.pinned (OpenSpec.ofChange landToldSpec)

/-- ITS FALSE NEIGHBOUR: 'it returns false'. Refute it at one input. -/
def landToldWrong : ChangeSpec := { name := "landTold", fn := fun _ => fun
  | [d1, d2, d3, d4, d5] => { results := [.lit (.bool false)], args := [d1, d2, d3, d4, d5] }
  | _ => none }
def LandToldWrongFalsely : Prop := landToldRow.holds Tryd.pinned (OpenSpec.ofChange landToldWrong)

/-- 'motulaw02.LandMore': WHATEVER THE INPUT: true; the input reads as it did. -/
def landMoreSpec : ChangeSpec := { name := "landMore", fn := fun _ => fun
  | [d1, d2, d3] => { results := [.lit (.bool true)], args := [d1, d2, d3] }
  | _ => none }
def landMoreRow : OpenClaim := { program := "ytcaflmilfhhikaadoor", sum := "3f81bb9dc283e00809a8813c3fa02dec18ba85315268e85535469b114dd35f5a", func := "motu/motulaw02.LandMore", spec := "landMore", inPlace := ["slices.overlaps[int]", "internal/abi.NoEscape"], unfollowed := true, recurses := true, named := ["internal/strconv.uint64pow10", "math/bits.deBruijn32tab", "math/bits.deBruijn64tab"], apart := false, laid := [("math/bits.deBruijn32tab", laid_math_bits_deBruijn32tab), ("math/bits.deBruijn64tab", laid_math_bits_deBruijn64tab), ("internal/strconv.uint64pow10", laid_internal_strconv_uint64pow10)] }
def LandMoreSaid : Prop := landMoreRow.holds Tryd.pinned (OpenSpec.ofChange landMoreSpec)

/-- ITS FALSE NEIGHBOUR: 'it returns false'. Refute it at one input. -/
def landMoreWrong : ChangeSpec := { name := "landMore", fn := fun _ => fun
  | [d1, d2, d3] => { results := [.lit (.bool false)], args := [d1, d2, d3] }
  | _ => none }
def LandMoreWrongFalsely : Prop := landMoreRow.holds Tryd.pinned (OpenSpec.ofChange landMoreWrong)

/-- 'motulaw02.LandLines': WHATEVER THE INPUT: true; the input reads as it did. -/
def landLinesSpec : ChangeSpec := { name := "landLines", fn := fun _ => fun
  | [d1, d2, d3] => { results := [.lit (.bool true)], args := [d1, d2, d3] }
  | _ => none }
def landLinesRow : OpenClaim := { program := "ytcaflmilfhhikaadoor", sum := "3f81bb9dc283e00809a8813c3fa02dec18ba85315268e85535469b114dd35f5a", func := "motu/motulaw02.LandLines", spec := "landLines", inPlace := ["slices.overlaps[int]", "internal/abi.NoEscape"], unfollowed := true, recurses := true, named := ["internal/strconv.uint64pow10", "math/bits.deBruijn32tab", "math/bits.deBruijn64tab"], apart := false, laid := [("math/bits.deBruijn32tab", laid_math_bits_deBruijn32tab), ("math/bits.deBruijn64tab", laid_math_bits_deBruijn64tab), ("internal/strconv.uint64pow10", laid_internal_strconv_uint64pow10)] }
def LandLinesSaid : Prop := landLinesRow.holds Tryd.pinned (OpenSpec.ofChange landLinesSpec)

/-- ITS FALSE NEIGHBOUR: 'it returns false'. Refute it at one input. -/
def landLinesWrong : ChangeSpec := { name := "landLines", fn := fun _ => fun
  | [d1, d2, d3] => { results := [.lit (.bool false)], args := [d1, d2, d3] }
  | _ => none }
def LandLinesWrongFalsely : Prop := landLinesRow.holds Tryd.pinned (OpenSpec.ofChange landLinesWrong)

/-- 'motulaw02.LandKnown': WHATEVER THE INPUT: true; the input reads as it did. -/
def landKnownSpec : ChangeSpec := { name := "landKnown", fn := fun _ => fun
  | [d1, d2, d3] => { results := [.lit (.bool true)], args := [d1, d2, d3] }
  | _ => none }
def landKnownRow : OpenClaim := { program := "ytcaflmilfhhikaadoor", sum := "3f81bb9dc283e00809a8813c3fa02dec18ba85315268e85535469b114dd35f5a", func := "motu/motulaw02.LandKnown", spec := "landKnown", inPlace := ["slices.overlaps[int]", "internal/abi.NoEscape"], unfollowed := true, recurses := true, named := ["internal/strconv.uint64pow10", "math/bits.deBruijn32tab", "math/bits.deBruijn64tab"], apart := false, laid := [("math/bits.deBruijn32tab", laid_math_bits_deBruijn32tab), ("math/bits.deBruijn64tab", laid_math_bits_deBruijn64tab), ("internal/strconv.uint64pow10", laid_internal_strconv_uint64pow10)] }
def LandKnownSaid : Prop := landKnownRow.holds Tryd.pinned (OpenSpec.ofChange landKnownSpec)

/-- ITS FALSE NEIGHBOUR: 'it returns false'. Refute it at one input. -/
def landKnownWrong : ChangeSpec := { name := "landKnown", fn := fun _ => fun
  | [d1, d2, d3] => { results := [.lit (.bool false)], args := [d1, d2, d3] }
  | _ => none }
def LandKnownWrongFalsely : Prop := landKnownRow.holds Tryd.pinned (OpenSpec.ofChange landKnownWrong)

/-- 'motulaw02.LandTrue': WHATEVER THE INPUT: true; the input reads as it did. -/
def landTrueSpec : ChangeSpec := { name := "landTrue", fn := fun _ => fun
  | [d1, d2, d3, d4] => { results := [.lit (.bool true)], args := [d1, d2, d3, d4] }
  | _ => none }
def landTrueRow : OpenClaim := { program := "ytcaflmilfhhikaadoor", sum := "3f81bb9dc283e00809a8813c3fa02dec18ba85315268e85535469b114dd35f5a", func := "motu/motulaw02.LandTrue", spec := "landTrue", inPlace := ["slices.overlaps[int]", "internal/abi.NoEscape"], unfollowed := true, recurses := true, named := ["internal/strconv.uint64pow10", "math/bits.deBruijn32tab", "math/bits.deBruijn64tab"], apart := false, laid := [("math/bits.deBruijn32tab", laid_math_bits_deBruijn32tab), ("math/bits.deBruijn64tab", laid_math_bits_deBruijn64tab), ("internal/strconv.uint64pow10", laid_internal_strconv_uint64pow10)] }
def LandTrueSaid : Prop := landTrueRow.holds Tryd.pinned (OpenSpec.ofChange landTrueSpec)

/-- ITS FALSE NEIGHBOUR: 'it returns false'. Refute it at one input. -/
def landTrueWrong : ChangeSpec := { name := "landTrue", fn := fun _ => fun
  | [d1, d2, d3, d4] => { results := [.lit (.bool false)], args := [d1, d2, d3, d4] }
  | _ => none }
def LandTrueWrongFalsely : Prop := landTrueRow.holds Tryd.pinned (OpenSpec.ofChange landTrueWrong)

/-- 'motulaw02.LandSharp': WHATEVER THE INPUT: true; the input reads as it did. -/
def landSharpSpec : ChangeSpec := { name := "landSharp", fn := fun _ => fun
  | [d1, d2, d3] => { results := [.lit (.bool true)], args := [d1, d2, d3] }
  | _ => none }
def landSharpRow : OpenClaim := { program := "ytcaflmilfhhikaadoor", sum := "3f81bb9dc283e00809a8813c3fa02dec18ba85315268e85535469b114dd35f5a", func := "motu/motulaw02.LandSharp", spec := "landSharp", inPlace := ["slices.overlaps[int]", "internal/abi.NoEscape"], unfollowed := true, recurses := true, named := ["internal/strconv.uint64pow10", "math/bits.deBruijn32tab", "math/bits.deBruijn64tab"], apart := false, laid := [("math/bits.deBruijn32tab", laid_math_bits_deBruijn32tab), ("math/bits.deBruijn64tab", laid_math_bits_deBruijn64tab), ("internal/strconv.uint64pow10", laid_internal_strconv_uint64pow10)] }
def LandSharpSaid : Prop := landSharpRow.holds Tryd.pinned (OpenSpec.ofChange landSharpSpec)

/-- ITS FALSE NEIGHBOUR: 'it returns false'. Refute it at one input. -/
def landSharpWrong : ChangeSpec := { name := "landSharp", fn := fun _ => fun
  | [d1, d2, d3] => { results := [.lit (.bool false)], args := [d1, d2, d3] }
  | _ => none }
def LandSharpWrongFalsely : Prop := landSharpRow.holds Tryd.pinned (OpenSpec.ofChange landSharpWrong)

/-- 'motulaw02.LandHeld': WHATEVER THE INPUT: true; the input reads as it did. -/
def landHeldSpec : ChangeSpec := { name := "landHeld", fn := fun _ => fun
  | [d1, d2, d3] => { results := [.lit (.bool true)], args := [d1, d2, d3] }
  | _ => none }
def landHeldRow : OpenClaim := { program := "ytcaflmilfhhikaadoor", sum := "3f81bb9dc283e00809a8813c3fa02dec18ba85315268e85535469b114dd35f5a", func := "motu/motulaw02.LandHeld", spec := "landHeld", inPlace := ["slices.overlaps[int]", "internal/abi.NoEscape"], unfollowed := true, recurses := true, named := ["internal/strconv.uint64pow10", "math/bits.deBruijn32tab", "math/bits.deBruijn64tab"], apart := false, laid := [("math/bits.deBruijn32tab", laid_math_bits_deBruijn32tab), ("math/bits.deBruijn64tab", laid_math_bits_deBruijn64tab), ("internal/strconv.uint64pow10", laid_internal_strconv_uint64pow10)] }
def LandHeldSaid : Prop := landHeldRow.holds Tryd.pinned (OpenSpec.ofChange landHeldSpec)

/-- ITS FALSE NEIGHBOUR: 'it returns false'. Refute it at one input. -/
def landHeldWrong : ChangeSpec := { name := "landHeld", fn := fun _ => fun
  | [d1, d2, d3] => { results := [.lit (.bool false)], args := [d1, d2, d3] }
  | _ => none }
def LandHeldWrongFalsely : Prop := landHeldRow.holds Tryd.pinned (OpenSpec.ofChange landHeldWrong)

/- THE SECOND FORM. 'bulk': how many values and letters a reading holds, each counted each time it is reached (what is shared counts as often as it is met; a slice's spare places count too). A statement '..UptoSaid' is the law's where the arguments, and the package variables that the reading takes, are together of bulk at most 1048576: NARROWER than '..Said'. Prove '..Said' where nothing that the law and all that it calls make is longer than what came in: it says more and counts as full. Else prove '..UptoSaid'. A law counts once. -/
mutual
def uptoBulk {H : Type} : DataW H → Nat
  | .lit (.string bytes) => bytes.length + 1
  | .lit _ => 1
  | .nil => 1
  | .ptr d => uptoBulk d + 1
  | .slice elems spare => uptoBulkAll elems + uptoBulkAll spare + 1
  | .agg parts => uptoBulkAll parts + 1
  | .iface _ d => uptoBulk d + 1
  | .map entries => uptoBulkEntries entries + 1
  | .held _ => 1
def uptoBulkAll {H : Type} : List (DataW H) → Nat
  | [] => 0
  | d :: r => uptoBulk d + uptoBulkAll r
def uptoBulkEntries {H : Type} : List (Lit × DataW H) → Nat
  | [] => 0
  | x :: r => uptoBulkEntry x + uptoBulkEntries r
def uptoBulkEntry {H : Type} : Lit × DataW H → Nat
  | (.string bytes, d) => bytes.length + uptoBulk d + 1
  | (_, d) => uptoBulk d + 1
 end
def uptoSmall : (H : Type) → List (DataW H) → Bool := fun _ ds => decide (uptoBulkAll ds ≤ 1048576)
def OpenSpec.upto (s : _root_.Go.ChangeSpec) : _root_.Go.OpenSpec := { _root_.Go.OpenSpec.ofChange s with cond := some uptoSmall }

/-- 'motulaw02.LandClashes', WHERE WHAT IT READS IS OF BULK AT MOST 1048576: true; the input reads as it did. -/
def landClashesUptoRow : OpenClaim := { program := "ytcaflmilfhhikaadoor", sum := "3f81bb9dc283e00809a8813c3fa02dec18ba85315268e85535469b114dd35f5a", func := "motu/motulaw02.LandClashes", spec := "landClashes", inPlace := ["slices.overlaps[int]", "internal/abi.NoEscape"], unfollowed := true, recurses := true, named := ["internal/strconv.uint64pow10", "math/bits.deBruijn32tab", "math/bits.deBruijn64tab"], apart := false, laid := [("math/bits.deBruijn32tab", laid_math_bits_deBruijn32tab), ("math/bits.deBruijn64tab", laid_math_bits_deBruijn64tab), ("internal/strconv.uint64pow10", laid_internal_strconv_uint64pow10)], narrowed := true }
def LandClashesUptoSaid : Prop := landClashesUptoRow.holds Tryd.pinned (OpenSpec.upto landClashesSpec)

/-- 'motulaw02.LandShown', WHERE WHAT IT READS IS OF BULK AT MOST 1048576: true; the input reads as it did. -/
def landShownUptoRow : OpenClaim := { program := "ytcaflmilfhhikaadoor", sum := "3f81bb9dc283e00809a8813c3fa02dec18ba85315268e85535469b114dd35f5a", func := "motu/motulaw02.LandShown", spec := "landShown", inPlace := ["slices.overlaps[int]", "internal/abi.NoEscape"], unfollowed := true, recurses := true, named := ["internal/strconv.uint64pow10", "math/bits.deBruijn32tab", "math/bits.deBruijn64tab"], apart := false, laid := [("math/bits.deBruijn32tab", laid_math_bits_deBruijn32tab), ("math/bits.deBruijn64tab", laid_math_bits_deBruijn64tab), ("internal/strconv.uint64pow10", laid_internal_strconv_uint64pow10)], narrowed := true }
def LandShownUptoSaid : Prop := landShownUptoRow.holds Tryd.pinned (OpenSpec.upto landShownSpec)

/-- 'motulaw02.LandDropped', WHERE WHAT IT READS IS OF BULK AT MOST 1048576: true; the input reads as it did. -/
def landDroppedUptoRow : OpenClaim := { program := "ytcaflmilfhhikaadoor", sum := "3f81bb9dc283e00809a8813c3fa02dec18ba85315268e85535469b114dd35f5a", func := "motu/motulaw02.LandDropped", spec := "landDropped", inPlace := ["slices.overlaps[int]", "internal/abi.NoEscape"], unfollowed := true, recurses := true, named := ["internal/strconv.uint64pow10", "math/bits.deBruijn32tab", "math/bits.deBruijn64tab"], apart := false, laid := [("math/bits.deBruijn32tab", laid_math_bits_deBruijn32tab), ("math/bits.deBruijn64tab", laid_math_bits_deBruijn64tab), ("internal/strconv.uint64pow10", laid_internal_strconv_uint64pow10)], narrowed := true }
def LandDroppedUptoSaid : Prop := landDroppedUptoRow.holds Tryd.pinned (OpenSpec.upto landDroppedSpec)

/-- 'motulaw02.LandTruths', WHERE WHAT IT READS IS OF BULK AT MOST 1048576: true; the input reads as it did. -/
def landTruthsUptoRow : OpenClaim := { program := "ytcaflmilfhhikaadoor", sum := "3f81bb9dc283e00809a8813c3fa02dec18ba85315268e85535469b114dd35f5a", func := "motu/motulaw02.LandTruths", spec := "landTruths", inPlace := ["slices.overlaps[int]", "internal/abi.NoEscape"], unfollowed := true, recurses := true, named := ["internal/strconv.uint64pow10", "math/bits.deBruijn32tab", "math/bits.deBruijn64tab"], apart := false, laid := [("math/bits.deBruijn32tab", laid_math_bits_deBruijn32tab), ("math/bits.deBruijn64tab", laid_math_bits_deBruijn64tab), ("internal/strconv.uint64pow10", laid_internal_strconv_uint64pow10)], narrowed := true }
def LandTruthsUptoSaid : Prop := landTruthsUptoRow.holds Tryd.pinned (OpenSpec.upto landTruthsSpec)

/-- 'motulaw02.LandTold', WHERE WHAT IT READS IS OF BULK AT MOST 1048576: true; the input reads as it did. -/
def landToldUptoRow : OpenClaim := { program := "ytcaflmilfhhikaadoor", sum := "3f81bb9dc283e00809a8813c3fa02dec18ba85315268e85535469b114dd35f5a", func := "motu/motulaw02.LandTold", spec := "landTold", inPlace := ["slices.overlaps[int]", "internal/abi.NoEscape"], unfollowed := true, recurses := true, named := ["internal/strconv.uint64pow10", "math/bits.deBruijn32tab", "math/bits.deBruijn64tab"], apart := false, laid := [("math/bits.deBruijn32tab", laid_math_bits_deBruijn32tab), ("math/bits.deBruijn64tab", laid_math_bits_deBruijn64tab), ("internal/strconv.uint64pow10", laid_internal_strconv_uint64pow10)], narrowed := true }
def LandToldUptoSaid : Prop := landToldUptoRow.holds Tryd.pinned (OpenSpec.upto landToldSpec)

/-- 'motulaw02.LandMore', WHERE WHAT IT READS IS OF BULK AT MOST 1048576: true; the input reads as it did. -/
def landMoreUptoRow : OpenClaim := { program := "ytcaflmilfhhikaadoor", sum := "3f81bb9dc283e00809a8813c3fa02dec18ba85315268e85535469b114dd35f5a", func := "motu/motulaw02.LandMore", spec := "landMore", inPlace := ["slices.overlaps[int]", "internal/abi.NoEscape"], unfollowed := true, recurses := true, named := ["internal/strconv.uint64pow10", "math/bits.deBruijn32tab", "math/bits.deBruijn64tab"], apart := false, laid := [("math/bits.deBruijn32tab", laid_math_bits_deBruijn32tab), ("math/bits.deBruijn64tab", laid_math_bits_deBruijn64tab), ("internal/strconv.uint64pow10", laid_internal_strconv_uint64pow10)], narrowed := true }
def LandMoreUptoSaid : Prop := landMoreUptoRow.holds Tryd.pinned (OpenSpec.upto landMoreSpec)

/-- 'motulaw02.LandLines', WHERE WHAT IT READS IS OF BULK AT MOST 1048576: true; the input reads as it did. -/
def landLinesUptoRow : OpenClaim := { program := "ytcaflmilfhhikaadoor", sum := "3f81bb9dc283e00809a8813c3fa02dec18ba85315268e85535469b114dd35f5a", func := "motu/motulaw02.LandLines", spec := "landLines", inPlace := ["slices.overlaps[int]", "internal/abi.NoEscape"], unfollowed := true, recurses := true, named := ["internal/strconv.uint64pow10", "math/bits.deBruijn32tab", "math/bits.deBruijn64tab"], apart := false, laid := [("math/bits.deBruijn32tab", laid_math_bits_deBruijn32tab), ("math/bits.deBruijn64tab", laid_math_bits_deBruijn64tab), ("internal/strconv.uint64pow10", laid_internal_strconv_uint64pow10)], narrowed := true }
def LandLinesUptoSaid : Prop := landLinesUptoRow.holds Tryd.pinned (OpenSpec.upto landLinesSpec)

/-- 'motulaw02.LandKnown', WHERE WHAT IT READS IS OF BULK AT MOST 1048576: true; the input reads as it did. -/
def landKnownUptoRow : OpenClaim := { program := "ytcaflmilfhhikaadoor", sum := "3f81bb9dc283e00809a8813c3fa02dec18ba85315268e85535469b114dd35f5a", func := "motu/motulaw02.LandKnown", spec := "landKnown", inPlace := ["slices.overlaps[int]", "internal/abi.NoEscape"], unfollowed := true, recurses := true, named := ["internal/strconv.uint64pow10", "math/bits.deBruijn32tab", "math/bits.deBruijn64tab"], apart := false, laid := [("math/bits.deBruijn32tab", laid_math_bits_deBruijn32tab), ("math/bits.deBruijn64tab", laid_math_bits_deBruijn64tab), ("internal/strconv.uint64pow10", laid_internal_strconv_uint64pow10)], narrowed := true }
def LandKnownUptoSaid : Prop := landKnownUptoRow.holds Tryd.pinned (OpenSpec.upto landKnownSpec)

/-- 'motulaw02.LandTrue', WHERE WHAT IT READS IS OF BULK AT MOST 1048576: true; the input reads as it did. -/
def landTrueUptoRow : OpenClaim := { program := "ytcaflmilfhhikaadoor", sum := "3f81bb9dc283e00809a8813c3fa02dec18ba85315268e85535469b114dd35f5a", func := "motu/motulaw02.LandTrue", spec := "landTrue", inPlace := ["slices.overlaps[int]", "internal/abi.NoEscape"], unfollowed := true, recurses := true, named := ["internal/strconv.uint64pow10", "math/bits.deBruijn32tab", "math/bits.deBruijn64tab"], apart := false, laid := [("math/bits.deBruijn32tab", laid_math_bits_deBruijn32tab), ("math/bits.deBruijn64tab", laid_math_bits_deBruijn64tab), ("internal/strconv.uint64pow10", laid_internal_strconv_uint64pow10)], narrowed := true }
def LandTrueUptoSaid : Prop := landTrueUptoRow.holds Tryd.pinned (OpenSpec.upto landTrueSpec)

/-- 'motulaw02.LandSharp', WHERE WHAT IT READS IS OF BULK AT MOST 1048576: true; the input reads as it did. -/
def landSharpUptoRow : OpenClaim := { program := "ytcaflmilfhhikaadoor", sum := "3f81bb9dc283e00809a8813c3fa02dec18ba85315268e85535469b114dd35f5a", func := "motu/motulaw02.LandSharp", spec := "landSharp", inPlace := ["slices.overlaps[int]", "internal/abi.NoEscape"], unfollowed := true, recurses := true, named := ["internal/strconv.uint64pow10", "math/bits.deBruijn32tab", "math/bits.deBruijn64tab"], apart := false, laid := [("math/bits.deBruijn32tab", laid_math_bits_deBruijn32tab), ("math/bits.deBruijn64tab", laid_math_bits_deBruijn64tab), ("internal/strconv.uint64pow10", laid_internal_strconv_uint64pow10)], narrowed := true }
def LandSharpUptoSaid : Prop := landSharpUptoRow.holds Tryd.pinned (OpenSpec.upto landSharpSpec)

/-- 'motulaw02.LandHeld', WHERE WHAT IT READS IS OF BULK AT MOST 1048576: true; the input reads as it did. -/
def landHeldUptoRow : OpenClaim := { program := "ytcaflmilfhhikaadoor", sum := "3f81bb9dc283e00809a8813c3fa02dec18ba85315268e85535469b114dd35f5a", func := "motu/motulaw02.LandHeld", spec := "landHeld", inPlace := ["slices.overlaps[int]", "internal/abi.NoEscape"], unfollowed := true, recurses := true, named := ["internal/strconv.uint64pow10", "math/bits.deBruijn32tab", "math/bits.deBruijn64tab"], apart := false, laid := [("math/bits.deBruijn32tab", laid_math_bits_deBruijn32tab), ("math/bits.deBruijn64tab", laid_math_bits_deBruijn64tab), ("internal/strconv.uint64pow10", laid_internal_strconv_uint64pow10)], narrowed := true }
def LandHeldUptoSaid : Prop := landHeldUptoRow.holds Tryd.pinned (OpenSpec.upto landHeldSpec)

end Rows
end Go.Proofs.YtcaflmilfhhikaaDoor
