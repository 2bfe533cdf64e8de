/-
  NARROWER THAN 'FOR EVERY INPUT', by the rows' own cells (each row's printed sentence says how): SetupOrder: laid · NodeIssues: laid · NodeOnce: laid · NodeSends: laid · NodeRoots: laid · NodeRefused: laid · NodeStops: laid · NodeAhead: laid · NodeTimer: laid · NodeRests: laid · NodePlays: laid · NodeNone: laid.
  DERIVED. THE GIVEN ROWS OF THIS SEAT. 12 by the template 'for every input the law returns true; each argument reads behind the call as it read before'; 0 by the template 'total and deterministic' (their statements: YtmpjjmilodjecaaGreatDoorTotals.lean).
  GIVEN WITH THE SEED: the statements are not yours to turn. If you find one false, say at which input.
  Laid BY PROGRAM, IN A SANDBOX (cutbox-rows.mjs): the forced cells as the released guide's own fill.sh prints them over the translation 0a220e31464f1ef6… (all of the seat's roots in one cut). By AI agents, Wed Nov 11 2026. No macro, syntax, notation, axiom, sorry.
-/
import Derived.Test.YtmpjjmilodjecaaGreatDoorChecked
import GoSem.PinnedTables
import GoSem.Claim
import GoSem.ClaimJoined
import GoSem.ClaimMapViews
import Derived.JoinedTies
import Derived.KernelRfl
namespace Go.Proofs.YtmpjjmilodjecaaGreatDoor
/- THE CELL 'sum', in the pinned program and in every row, IS THE sha256 OF THE DUMP (.gsa) THAT YtmpjjmilodjecaaGreatDoorProg.lean LOADS. Nothing in Lean hashes anything: it is a label: what it is worth is what the hold of that sum in a sandbox is worth. -/
noncomputable def Tryz.pinned : Pinned := { name := "ytmpjjmilodjecaagreatdoor", sum := "0a220e31464f1ef69c314f000330a6c38b79b97b74c803928087f8e7e00bfa1b", checked := Tryz.checked }
namespace Rows
def none {H : Type} : Left H := { results := [], args := [] }

/- WHAT THE LISTED PACKAGE-LEVEL VARIABLES READ AS WHEN THE CALL BEGINS. Each datum BY PROGRAM (the guide's laid-datum.mjs) off the statement by which the dump's own 'gosem.cut.vars' lays the variable. In a bare row this is a premise. The card (YtmpjjmilodjecaaGreatDoorCards.lean) ties it to the program's text. -/
def laid_math_bits_deBruijn32tab {H : Type} : DataW H := .agg [.lit (.int .u8 0), .lit (.int .u8 1), .lit (.int .u8 28), .lit (.int .u8 2), .lit (.int .u8 29), .lit (.int .u8 14), .lit (.int .u8 24), .lit (.int .u8 3), .lit (.int .u8 30), .lit (.int .u8 22), .lit (.int .u8 20), .lit (.int .u8 15), .lit (.int .u8 25), .lit (.int .u8 17), .lit (.int .u8 4), .lit (.int .u8 8), .lit (.int .u8 31), .lit (.int .u8 27), .lit (.int .u8 13), .lit (.int .u8 23), .lit (.int .u8 21), .lit (.int .u8 19), .lit (.int .u8 16), .lit (.int .u8 7), .lit (.int .u8 26), .lit (.int .u8 12), .lit (.int .u8 18), .lit (.int .u8 6), .lit (.int .u8 11), .lit (.int .u8 5), .lit (.int .u8 10), .lit (.int .u8 9)]
def laid_math_bits_deBruijn64tab {H : Type} : DataW H := .agg [.lit (.int .u8 0), .lit (.int .u8 1), .lit (.int .u8 56), .lit (.int .u8 2), .lit (.int .u8 57), .lit (.int .u8 49), .lit (.int .u8 28), .lit (.int .u8 3), .lit (.int .u8 61), .lit (.int .u8 58), .lit (.int .u8 42), .lit (.int .u8 50), .lit (.int .u8 38), .lit (.int .u8 29), .lit (.int .u8 17), .lit (.int .u8 4), .lit (.int .u8 62), .lit (.int .u8 47), .lit (.int .u8 59), .lit (.int .u8 36), .lit (.int .u8 45), .lit (.int .u8 43), .lit (.int .u8 51), .lit (.int .u8 22), .lit (.int .u8 53), .lit (.int .u8 39), .lit (.int .u8 33), .lit (.int .u8 30), .lit (.int .u8 24), .lit (.int .u8 18), .lit (.int .u8 12), .lit (.int .u8 5), .lit (.int .u8 63), .lit (.int .u8 55), .lit (.int .u8 48), .lit (.int .u8 27), .lit (.int .u8 60), .lit (.int .u8 41), .lit (.int .u8 37), .lit (.int .u8 16), .lit (.int .u8 46), .lit (.int .u8 35), .lit (.int .u8 44), .lit (.int .u8 21), .lit (.int .u8 52), .lit (.int .u8 32), .lit (.int .u8 23), .lit (.int .u8 11), .lit (.int .u8 54), .lit (.int .u8 26), .lit (.int .u8 40), .lit (.int .u8 15), .lit (.int .u8 34), .lit (.int .u8 20), .lit (.int .u8 31), .lit (.int .u8 10), .lit (.int .u8 25), .lit (.int .u8 14), .lit (.int .u8 19), .lit (.int .u8 9), .lit (.int .u8 13), .lit (.int .u8 8), .lit (.int .u8 7), .lit (.int .u8 6)]
def laid_internal_strconv_uint64pow10 {H : Type} : DataW H := .agg [.lit (.int .u64 1), .lit (.int .u64 10), .lit (.int .u64 100), .lit (.int .u64 1000), .lit (.int .u64 10000), .lit (.int .u64 100000), .lit (.int .u64 1000000), .lit (.int .u64 10000000), .lit (.int .u64 100000000), .lit (.int .u64 1000000000), .lit (.int .u64 10000000000), .lit (.int .u64 100000000000), .lit (.int .u64 1000000000000), .lit (.int .u64 10000000000000), .lit (.int .u64 100000000000000), .lit (.int .u64 1000000000000000), .lit (.int .u64 10000000000000000), .lit (.int .u64 100000000000000000), .lit (.int .u64 1000000000000000000), .lit (.int .u64 10000000000000000000)]
def laid_unicode_utf8_acceptRanges {H : Type} : DataW H := .agg [.agg [.lit (.int .u8 128), .lit (.int .u8 191)], .agg [.lit (.int .u8 160), .lit (.int .u8 191)], .agg [.lit (.int .u8 128), .lit (.int .u8 159)], .agg [.lit (.int .u8 144), .lit (.int .u8 191)], .agg [.lit (.int .u8 128), .lit (.int .u8 143)], .agg [.lit (.int .u8 0), .lit (.int .u8 0)], .agg [.lit (.int .u8 0), .lit (.int .u8 0)], .agg [.lit (.int .u8 0), .lit (.int .u8 0)], .agg [.lit (.int .u8 0), .lit (.int .u8 0)], .agg [.lit (.int .u8 0), .lit (.int .u8 0)], .agg [.lit (.int .u8 0), .lit (.int .u8 0)], .agg [.lit (.int .u8 0), .lit (.int .u8 0)], .agg [.lit (.int .u8 0), .lit (.int .u8 0)], .agg [.lit (.int .u8 0), .lit (.int .u8 0)], .agg [.lit (.int .u8 0), .lit (.int .u8 0)], .agg [.lit (.int .u8 0), .lit (.int .u8 0)]]
def laid_strconv_ErrRange {H : Type} : DataW H := .iface "*errors.errorString" (.ptr (.agg [.lit (.string [118, 97, 108, 117, 101, 32, 111, 117, 116, 32, 111, 102, 32, 114, 97, 110, 103, 101])]))
def laid_strconv_ErrSyntax {H : Type} : DataW H := .iface "*errors.errorString" (.ptr (.agg [.lit (.string [105, 110, 118, 97, 108, 105, 100, 32, 115, 121, 110, 116, 97, 120])]))
/-- One of Go's own tables, pinned by name: the form's constant. -/
def laid_unicode_utf8_first : DataW Unit := Go.Pinned.utf8First

/-- 'hourglasslaw29.SetupOrder': WHATEVER THE INPUT: true; the input reads as it did. -/
def setupOrderSpec : ChangeSpec := { name := "setupOrder", fn := fun _ => fun
  | [d1, d2, d3] => { results := [.lit (.bool true)], args := [d1, d2, d3] }
  | _ => none }
def setupOrderRow : OpenClaim := { program := "ytmpjjmilodjecaagreatdoor", sum := "0a220e31464f1ef69c314f000330a6c38b79b97b74c803928087f8e7e00bfa1b", func := "hourglass/hourglasslaw29.SetupOrder", spec := "setupOrder", inPlace := ["internal/bytealg.IndexByteString", "internal/bytealg.IndexString", "internal/bytealg.CountString", "internal/abi.NoEscape", "internal/bytealg.MakeNoZero"], unfollowed := true, recurses := true, named := ["internal/bytealg.MaxLen", "unicode/utf8.first", "unicode/utf8.acceptRanges", "strconv.ErrSyntax", "strconv.ErrRange", "internal/strconv.uint64pow10", "math/bits.deBruijn32tab", "math/bits.deBruijn64tab"], plainKeys := false, apart := false, laid := [("math/bits.deBruijn32tab", laid_math_bits_deBruijn32tab), ("math/bits.deBruijn64tab", laid_math_bits_deBruijn64tab), ("internal/strconv.uint64pow10", laid_internal_strconv_uint64pow10), ("unicode/utf8.acceptRanges", laid_unicode_utf8_acceptRanges), ("strconv.ErrRange", laid_strconv_ErrRange), ("strconv.ErrSyntax", laid_strconv_ErrSyntax), ("unicode/utf8.first", laid_unicode_utf8_first)] }
def SetupOrderSaid : Prop := setupOrderRow.holds Tryz.pinned (OpenSpec.ofChange setupOrderSpec)

/-- ITS FALSE NEIGHBOUR: 'it returns false'. Refute it at one input. -/
def setupOrderWrong : ChangeSpec := { name := "setupOrder", fn := fun _ => fun
  | [d1, d2, d3] => { results := [.lit (.bool false)], args := [d1, d2, d3] }
  | _ => none }
def SetupOrderWrongFalsely : Prop := setupOrderRow.holds Tryz.pinned (OpenSpec.ofChange setupOrderWrong)

/-- 'hourglasslaw27.NodeIssues': WHATEVER THE INPUT: true; the input reads as it did. -/
def nodeIssuesSpec : ChangeSpec := { name := "nodeIssues", fn := fun _ => fun
  | [d1, d2, d3, d4, d5, d6, d7] => { results := [.lit (.bool true)], args := [d1, d2, d3, d4, d5, d6, d7] }
  | _ => none }
def nodeIssuesRow : OpenClaim := { program := "ytmpjjmilodjecaagreatdoor", sum := "0a220e31464f1ef69c314f000330a6c38b79b97b74c803928087f8e7e00bfa1b", func := "hourglass/hourglasslaw27.NodeIssues", spec := "nodeIssues", inPlace := ["slices.overlaps[hourglass/owner.Owner]"], unfollowed := true, recurses := true, named := ["internal/strconv.uint64pow10", "math/bits.deBruijn32tab", "math/bits.deBruijn64tab"], plainKeys := false, apart := false, laid := [("math/bits.deBruijn32tab", laid_math_bits_deBruijn32tab), ("math/bits.deBruijn64tab", laid_math_bits_deBruijn64tab), ("internal/strconv.uint64pow10", laid_internal_strconv_uint64pow10)] }
def NodeIssuesSaid : Prop := nodeIssuesRow.holds Tryz.pinned (OpenSpec.ofChange nodeIssuesSpec)

/-- ITS FALSE NEIGHBOUR: 'it returns false'. Refute it at one input. -/
def nodeIssuesWrong : ChangeSpec := { name := "nodeIssues", fn := fun _ => fun
  | [d1, d2, d3, d4, d5, d6, d7] => { results := [.lit (.bool false)], args := [d1, d2, d3, d4, d5, d6, d7] }
  | _ => none }
def NodeIssuesWrongFalsely : Prop := nodeIssuesRow.holds Tryz.pinned (OpenSpec.ofChange nodeIssuesWrong)

/-- 'hourglasslaw27.NodeOnce': WHATEVER THE INPUT: true; the input reads as it did. -/
def nodeOnceSpec : ChangeSpec := { name := "nodeOnce", fn := fun _ => fun
  | [d1, d2, d3] => { results := [.lit (.bool true)], args := [d1, d2, d3] }
  | _ => none }
def nodeOnceRow : OpenClaim := { program := "ytmpjjmilodjecaagreatdoor", sum := "0a220e31464f1ef69c314f000330a6c38b79b97b74c803928087f8e7e00bfa1b", func := "hourglass/hourglasslaw27.NodeOnce", spec := "nodeOnce", inPlace := ["slices.overlaps[hourglass/owner.Owner]"], unfollowed := true, recurses := true, named := ["internal/strconv.uint64pow10", "math/bits.deBruijn32tab", "math/bits.deBruijn64tab"], plainKeys := false, apart := false, laid := [("math/bits.deBruijn32tab", laid_math_bits_deBruijn32tab), ("math/bits.deBruijn64tab", laid_math_bits_deBruijn64tab), ("internal/strconv.uint64pow10", laid_internal_strconv_uint64pow10)] }
def NodeOnceSaid : Prop := nodeOnceRow.holds Tryz.pinned (OpenSpec.ofChange nodeOnceSpec)

/-- ITS FALSE NEIGHBOUR: 'it returns false'. Refute it at one input. -/
def nodeOnceWrong : ChangeSpec := { name := "nodeOnce", fn := fun _ => fun
  | [d1, d2, d3] => { results := [.lit (.bool false)], args := [d1, d2, d3] }
  | _ => none }
def NodeOnceWrongFalsely : Prop := nodeOnceRow.holds Tryz.pinned (OpenSpec.ofChange nodeOnceWrong)

/-- 'hourglasslaw27.NodeSends': WHATEVER THE INPUT: true; the input reads as it did. -/
def nodeSendsSpec : ChangeSpec := { name := "nodeSends", fn := fun _ => fun
  | [d1, d2, d3] => { results := [.lit (.bool true)], args := [d1, d2, d3] }
  | _ => none }
def nodeSendsRow : OpenClaim := { program := "ytmpjjmilodjecaagreatdoor", sum := "0a220e31464f1ef69c314f000330a6c38b79b97b74c803928087f8e7e00bfa1b", func := "hourglass/hourglasslaw27.NodeSends", spec := "nodeSends", inPlace := ["slices.overlaps[hourglass/owner.Owner]"], unfollowed := true, recurses := true, named := ["internal/strconv.uint64pow10", "math/bits.deBruijn32tab", "math/bits.deBruijn64tab"], plainKeys := false, apart := false, laid := [("math/bits.deBruijn32tab", laid_math_bits_deBruijn32tab), ("math/bits.deBruijn64tab", laid_math_bits_deBruijn64tab), ("internal/strconv.uint64pow10", laid_internal_strconv_uint64pow10)] }
def NodeSendsSaid : Prop := nodeSendsRow.holds Tryz.pinned (OpenSpec.ofChange nodeSendsSpec)

/-- ITS FALSE NEIGHBOUR: 'it returns false'. Refute it at one input. -/
def nodeSendsWrong : ChangeSpec := { name := "nodeSends", fn := fun _ => fun
  | [d1, d2, d3] => { results := [.lit (.bool false)], args := [d1, d2, d3] }
  | _ => none }
def NodeSendsWrongFalsely : Prop := nodeSendsRow.holds Tryz.pinned (OpenSpec.ofChange nodeSendsWrong)

/-- 'hourglasslaw27.NodeRoots': WHATEVER THE INPUT: true; the input reads as it did. -/
def nodeRootsSpec : ChangeSpec := { name := "nodeRoots", fn := fun _ => fun
  | [d1, d2, d3] => { results := [.lit (.bool true)], args := [d1, d2, d3] }
  | _ => none }
def nodeRootsRow : OpenClaim := { program := "ytmpjjmilodjecaagreatdoor", sum := "0a220e31464f1ef69c314f000330a6c38b79b97b74c803928087f8e7e00bfa1b", func := "hourglass/hourglasslaw27.NodeRoots", spec := "nodeRoots", inPlace := ["slices.overlaps[hourglass/owner.Owner]"], unfollowed := true, recurses := true, named := ["internal/strconv.uint64pow10", "math/bits.deBruijn32tab", "math/bits.deBruijn64tab"], plainKeys := false, apart := false, laid := [("math/bits.deBruijn32tab", laid_math_bits_deBruijn32tab), ("math/bits.deBruijn64tab", laid_math_bits_deBruijn64tab), ("internal/strconv.uint64pow10", laid_internal_strconv_uint64pow10)] }
def NodeRootsSaid : Prop := nodeRootsRow.holds Tryz.pinned (OpenSpec.ofChange nodeRootsSpec)

/-- ITS FALSE NEIGHBOUR: 'it returns false'. Refute it at one input. -/
def nodeRootsWrong : ChangeSpec := { name := "nodeRoots", fn := fun _ => fun
  | [d1, d2, d3] => { results := [.lit (.bool false)], args := [d1, d2, d3] }
  | _ => none }
def NodeRootsWrongFalsely : Prop := nodeRootsRow.holds Tryz.pinned (OpenSpec.ofChange nodeRootsWrong)

/-- 'hourglasslaw27.NodeRefused': WHATEVER THE INPUT: true; the input reads as it did. -/
def nodeRefusedSpec : ChangeSpec := { name := "nodeRefused", fn := fun _ => fun
  | [d1, d2, d3, d4] => { results := [.lit (.bool true)], args := [d1, d2, d3, d4] }
  | _ => none }
def nodeRefusedRow : OpenClaim := { program := "ytmpjjmilodjecaagreatdoor", sum := "0a220e31464f1ef69c314f000330a6c38b79b97b74c803928087f8e7e00bfa1b", func := "hourglass/hourglasslaw27.NodeRefused", spec := "nodeRefused", inPlace := ["slices.overlaps[hourglass/owner.Owner]"], unfollowed := true, recurses := true, named := ["internal/strconv.uint64pow10", "math/bits.deBruijn32tab", "math/bits.deBruijn64tab"], plainKeys := false, apart := false, laid := [("math/bits.deBruijn32tab", laid_math_bits_deBruijn32tab), ("math/bits.deBruijn64tab", laid_math_bits_deBruijn64tab), ("internal/strconv.uint64pow10", laid_internal_strconv_uint64pow10)] }
def NodeRefusedSaid : Prop := nodeRefusedRow.holds Tryz.pinned (OpenSpec.ofChange nodeRefusedSpec)

/-- ITS FALSE NEIGHBOUR: 'it returns false'. Refute it at one input. -/
def nodeRefusedWrong : ChangeSpec := { name := "nodeRefused", fn := fun _ => fun
  | [d1, d2, d3, d4] => { results := [.lit (.bool false)], args := [d1, d2, d3, d4] }
  | _ => none }
def NodeRefusedWrongFalsely : Prop := nodeRefusedRow.holds Tryz.pinned (OpenSpec.ofChange nodeRefusedWrong)

/-- 'hourglasslaw27.NodeStops': WHATEVER THE INPUT: true; the input reads as it did. -/
def nodeStopsSpec : ChangeSpec := { name := "nodeStops", fn := fun _ => fun
  | [d1, d2, d3, d4, d5] => { results := [.lit (.bool true)], args := [d1, d2, d3, d4, d5] }
  | _ => none }
def nodeStopsRow : OpenClaim := { program := "ytmpjjmilodjecaagreatdoor", sum := "0a220e31464f1ef69c314f000330a6c38b79b97b74c803928087f8e7e00bfa1b", func := "hourglass/hourglasslaw27.NodeStops", spec := "nodeStops", inPlace := ["slices.overlaps[hourglass/owner.Owner]"], unfollowed := true, recurses := true, named := ["internal/strconv.uint64pow10", "math/bits.deBruijn32tab", "math/bits.deBruijn64tab"], plainKeys := false, apart := false, laid := [("math/bits.deBruijn32tab", laid_math_bits_deBruijn32tab), ("math/bits.deBruijn64tab", laid_math_bits_deBruijn64tab), ("internal/strconv.uint64pow10", laid_internal_strconv_uint64pow10)] }
def NodeStopsSaid : Prop := nodeStopsRow.holds Tryz.pinned (OpenSpec.ofChange nodeStopsSpec)

/-- ITS FALSE NEIGHBOUR: 'it returns false'. Refute it at one input. -/
def nodeStopsWrong : ChangeSpec := { name := "nodeStops", fn := fun _ => fun
  | [d1, d2, d3, d4, d5] => { results := [.lit (.bool false)], args := [d1, d2, d3, d4, d5] }
  | _ => none }
def NodeStopsWrongFalsely : Prop := nodeStopsRow.holds Tryz.pinned (OpenSpec.ofChange nodeStopsWrong)

/-- 'hourglasslaw27.NodeAhead': WHATEVER THE INPUT: true; the input reads as it did. -/
def nodeAheadSpec : ChangeSpec := { name := "nodeAhead", fn := fun _ => fun
  | [d1, d2, d3] => { results := [.lit (.bool true)], args := [d1, d2, d3] }
  | _ => none }
def nodeAheadRow : OpenClaim := { program := "ytmpjjmilodjecaagreatdoor", sum := "0a220e31464f1ef69c314f000330a6c38b79b97b74c803928087f8e7e00bfa1b", func := "hourglass/hourglasslaw27.NodeAhead", spec := "nodeAhead", inPlace := ["slices.overlaps[hourglass/owner.Owner]"], unfollowed := true, recurses := true, named := ["internal/strconv.uint64pow10", "math/bits.deBruijn32tab", "math/bits.deBruijn64tab"], plainKeys := false, apart := false, laid := [("math/bits.deBruijn32tab", laid_math_bits_deBruijn32tab), ("math/bits.deBruijn64tab", laid_math_bits_deBruijn64tab), ("internal/strconv.uint64pow10", laid_internal_strconv_uint64pow10)] }
def NodeAheadSaid : Prop := nodeAheadRow.holds Tryz.pinned (OpenSpec.ofChange nodeAheadSpec)

/-- ITS FALSE NEIGHBOUR: 'it returns false'. Refute it at one input. -/
def nodeAheadWrong : ChangeSpec := { name := "nodeAhead", fn := fun _ => fun
  | [d1, d2, d3] => { results := [.lit (.bool false)], args := [d1, d2, d3] }
  | _ => none }
def NodeAheadWrongFalsely : Prop := nodeAheadRow.holds Tryz.pinned (OpenSpec.ofChange nodeAheadWrong)

/-- 'hourglasslaw27.NodeTimer': WHATEVER THE INPUT: true; the input reads as it did. -/
def nodeTimerSpec : ChangeSpec := { name := "nodeTimer", fn := fun _ => fun
  | [d1, d2, d3, d4] => { results := [.lit (.bool true)], args := [d1, d2, d3, d4] }
  | _ => none }
def nodeTimerRow : OpenClaim := { program := "ytmpjjmilodjecaagreatdoor", sum := "0a220e31464f1ef69c314f000330a6c38b79b97b74c803928087f8e7e00bfa1b", func := "hourglass/hourglasslaw27.NodeTimer", spec := "nodeTimer", inPlace := ["slices.overlaps[hourglass/owner.Owner]"], unfollowed := true, recurses := true, named := ["internal/strconv.uint64pow10", "math/bits.deBruijn32tab", "math/bits.deBruijn64tab"], plainKeys := false, apart := false, laid := [("math/bits.deBruijn32tab", laid_math_bits_deBruijn32tab), ("math/bits.deBruijn64tab", laid_math_bits_deBruijn64tab), ("internal/strconv.uint64pow10", laid_internal_strconv_uint64pow10)] }
def NodeTimerSaid : Prop := nodeTimerRow.holds Tryz.pinned (OpenSpec.ofChange nodeTimerSpec)

/-- ITS FALSE NEIGHBOUR: 'it returns false'. Refute it at one input. -/
def nodeTimerWrong : ChangeSpec := { name := "nodeTimer", fn := fun _ => fun
  | [d1, d2, d3, d4] => { results := [.lit (.bool false)], args := [d1, d2, d3, d4] }
  | _ => none }
def NodeTimerWrongFalsely : Prop := nodeTimerRow.holds Tryz.pinned (OpenSpec.ofChange nodeTimerWrong)

/-- 'hourglasslaw27.NodeRests': WHATEVER THE INPUT: true; the input reads as it did. -/
def nodeRestsSpec : ChangeSpec := { name := "nodeRests", fn := fun _ => fun
  | [d1, d2, d3] => { results := [.lit (.bool true)], args := [d1, d2, d3] }
  | _ => none }
def nodeRestsRow : OpenClaim := { program := "ytmpjjmilodjecaagreatdoor", sum := "0a220e31464f1ef69c314f000330a6c38b79b97b74c803928087f8e7e00bfa1b", func := "hourglass/hourglasslaw27.NodeRests", spec := "nodeRests", inPlace := ["slices.overlaps[hourglass/owner.Owner]"], unfollowed := true, recurses := true, named := ["internal/strconv.uint64pow10", "math/bits.deBruijn32tab", "math/bits.deBruijn64tab"], plainKeys := false, apart := false, laid := [("math/bits.deBruijn32tab", laid_math_bits_deBruijn32tab), ("math/bits.deBruijn64tab", laid_math_bits_deBruijn64tab), ("internal/strconv.uint64pow10", laid_internal_strconv_uint64pow10)] }
def NodeRestsSaid : Prop := nodeRestsRow.holds Tryz.pinned (OpenSpec.ofChange nodeRestsSpec)

/-- ITS FALSE NEIGHBOUR: 'it returns false'. Refute it at one input. -/
def nodeRestsWrong : ChangeSpec := { name := "nodeRests", fn := fun _ => fun
  | [d1, d2, d3] => { results := [.lit (.bool false)], args := [d1, d2, d3] }
  | _ => none }
def NodeRestsWrongFalsely : Prop := nodeRestsRow.holds Tryz.pinned (OpenSpec.ofChange nodeRestsWrong)

/-- 'hourglasslaw27.NodePlays': WHATEVER THE INPUT: true; the input reads as it did. -/
def nodePlaysSpec : ChangeSpec := { name := "nodePlays", fn := fun _ => fun
  | [d1, d2, d3] => { results := [.lit (.bool true)], args := [d1, d2, d3] }
  | _ => none }
def nodePlaysRow : OpenClaim := { program := "ytmpjjmilodjecaagreatdoor", sum := "0a220e31464f1ef69c314f000330a6c38b79b97b74c803928087f8e7e00bfa1b", func := "hourglass/hourglasslaw27.NodePlays", spec := "nodePlays", inPlace := ["slices.overlaps[hourglass/owner.Owner]"], unfollowed := true, recurses := true, named := ["internal/strconv.uint64pow10", "math/bits.deBruijn32tab", "math/bits.deBruijn64tab"], plainKeys := false, apart := false, laid := [("math/bits.deBruijn32tab", laid_math_bits_deBruijn32tab), ("math/bits.deBruijn64tab", laid_math_bits_deBruijn64tab), ("internal/strconv.uint64pow10", laid_internal_strconv_uint64pow10)] }
def NodePlaysSaid : Prop := nodePlaysRow.holds Tryz.pinned (OpenSpec.ofChange nodePlaysSpec)

/-- ITS FALSE NEIGHBOUR: 'it returns false'. Refute it at one input. -/
def nodePlaysWrong : ChangeSpec := { name := "nodePlays", fn := fun _ => fun
  | [d1, d2, d3] => { results := [.lit (.bool false)], args := [d1, d2, d3] }
  | _ => none }
def NodePlaysWrongFalsely : Prop := nodePlaysRow.holds Tryz.pinned (OpenSpec.ofChange nodePlaysWrong)

/-- 'hourglasslaw27.NodeNone': WHATEVER THE INPUT: true; the input reads as it did. -/
def nodeNoneSpec : ChangeSpec := { name := "nodeNone", fn := fun _ => fun
  | [d] => { results := [.lit (.bool true)], args := [d] }
  | _ => none }
def nodeNoneRow : OpenClaim := { program := "ytmpjjmilodjecaagreatdoor", sum := "0a220e31464f1ef69c314f000330a6c38b79b97b74c803928087f8e7e00bfa1b", func := "hourglass/hourglasslaw27.NodeNone", spec := "nodeNone", inPlace := ["slices.overlaps[hourglass/owner.Owner]"], unfollowed := true, recurses := true, named := ["internal/strconv.uint64pow10", "math/bits.deBruijn32tab", "math/bits.deBruijn64tab"], plainKeys := false, apart := false, laid := [("math/bits.deBruijn32tab", laid_math_bits_deBruijn32tab), ("math/bits.deBruijn64tab", laid_math_bits_deBruijn64tab), ("internal/strconv.uint64pow10", laid_internal_strconv_uint64pow10)] }
def NodeNoneSaid : Prop := nodeNoneRow.holds Tryz.pinned (OpenSpec.ofChange nodeNoneSpec)

/-- ITS FALSE NEIGHBOUR: 'it returns false'. Refute it at one input. -/
def nodeNoneWrong : ChangeSpec := { name := "nodeNone", fn := fun _ => fun
  | [d] => { results := [.lit (.bool false)], args := [d] }
  | _ => none }
def NodeNoneWrongFalsely : Prop := nodeNoneRow.holds Tryz.pinned (OpenSpec.ofChange nodeNoneWrong)

/- THE SECOND FORM. 'bulk': how many values and letters a reading holds, each counted each time it is reached (what is shared counts as often as it is met; a slice's spare places count too). A statement '..UptoSaid' is the law's where the arguments, and the package variables that the reading takes, are together of bulk at most 1048576: NARROWER than '..Said'. Prove '..Said' where nothing that the law and all that it calls make is longer than what came in: it says more and counts as full. Else prove '..UptoSaid'. A law counts once. -/
mutual
def uptoBulk {H : Type} : DataW H → Nat
  | .lit (.string bytes) => bytes.length + 1
  | .lit _ => 1
  | .nil => 1
  | .ptr d => uptoBulk d + 1
  | .slice elems spare => uptoBulkAll elems + uptoBulkAll spare + 1
  | .agg parts => uptoBulkAll parts + 1
  | .iface _ d => uptoBulk d + 1
  | .map entries => uptoBulkEntries entries + 1
  | .held _ => 1
def uptoBulkAll {H : Type} : List (DataW H) → Nat
  | [] => 0
  | d :: r => uptoBulk d + uptoBulkAll r
def uptoBulkEntries {H : Type} : List (Lit × DataW H) → Nat
  | [] => 0
  | x :: r => uptoBulkEntry x + uptoBulkEntries r
def uptoBulkEntry {H : Type} : Lit × DataW H → Nat
  | (.string bytes, d) => bytes.length + uptoBulk d + 1
  | (_, d) => uptoBulk d + 1
 end
def uptoSmall : (H : Type) → List (DataW H) → Bool := fun _ ds => decide (uptoBulkAll ds ≤ 1048576)
def OpenSpec.upto (s : _root_.Go.ChangeSpec) : _root_.Go.OpenSpec := { _root_.Go.OpenSpec.ofChange s with cond := some uptoSmall }

/-- 'hourglasslaw29.SetupOrder', WHERE WHAT IT READS IS OF BULK AT MOST 1048576: true; the input reads as it did. -/
def setupOrderUptoRow : OpenClaim := { program := "ytmpjjmilodjecaagreatdoor", sum := "0a220e31464f1ef69c314f000330a6c38b79b97b74c803928087f8e7e00bfa1b", func := "hourglass/hourglasslaw29.SetupOrder", spec := "setupOrder", inPlace := ["internal/bytealg.IndexByteString", "internal/bytealg.IndexString", "internal/bytealg.CountString", "internal/abi.NoEscape", "internal/bytealg.MakeNoZero"], unfollowed := true, recurses := true, named := ["internal/bytealg.MaxLen", "unicode/utf8.first", "unicode/utf8.acceptRanges", "strconv.ErrSyntax", "strconv.ErrRange", "internal/strconv.uint64pow10", "math/bits.deBruijn32tab", "math/bits.deBruijn64tab"], plainKeys := false, apart := false, laid := [("math/bits.deBruijn32tab", laid_math_bits_deBruijn32tab), ("math/bits.deBruijn64tab", laid_math_bits_deBruijn64tab), ("internal/strconv.uint64pow10", laid_internal_strconv_uint64pow10), ("unicode/utf8.acceptRanges", laid_unicode_utf8_acceptRanges), ("strconv.ErrRange", laid_strconv_ErrRange), ("strconv.ErrSyntax", laid_strconv_ErrSyntax), ("unicode/utf8.first", laid_unicode_utf8_first)], narrowed := true }
def SetupOrderUptoSaid : Prop := setupOrderUptoRow.holds Tryz.pinned (OpenSpec.upto setupOrderSpec)

/-- 'hourglasslaw27.NodeIssues', WHERE WHAT IT READS IS OF BULK AT MOST 1048576: true; the input reads as it did. -/
def nodeIssuesUptoRow : OpenClaim := { program := "ytmpjjmilodjecaagreatdoor", sum := "0a220e31464f1ef69c314f000330a6c38b79b97b74c803928087f8e7e00bfa1b", func := "hourglass/hourglasslaw27.NodeIssues", spec := "nodeIssues", inPlace := ["slices.overlaps[hourglass/owner.Owner]"], unfollowed := true, recurses := true, named := ["internal/strconv.uint64pow10", "math/bits.deBruijn32tab", "math/bits.deBruijn64tab"], plainKeys := false, apart := false, laid := [("math/bits.deBruijn32tab", laid_math_bits_deBruijn32tab), ("math/bits.deBruijn64tab", laid_math_bits_deBruijn64tab), ("internal/strconv.uint64pow10", laid_internal_strconv_uint64pow10)], narrowed := true }
def NodeIssuesUptoSaid : Prop := nodeIssuesUptoRow.holds Tryz.pinned (OpenSpec.upto nodeIssuesSpec)

/-- 'hourglasslaw27.NodeOnce', WHERE WHAT IT READS IS OF BULK AT MOST 1048576: true; the input reads as it did. -/
def nodeOnceUptoRow : OpenClaim := { program := "ytmpjjmilodjecaagreatdoor", sum := "0a220e31464f1ef69c314f000330a6c38b79b97b74c803928087f8e7e00bfa1b", func := "hourglass/hourglasslaw27.NodeOnce", spec := "nodeOnce", inPlace := ["slices.overlaps[hourglass/owner.Owner]"], unfollowed := true, recurses := true, named := ["internal/strconv.uint64pow10", "math/bits.deBruijn32tab", "math/bits.deBruijn64tab"], plainKeys := false, apart := false, laid := [("math/bits.deBruijn32tab", laid_math_bits_deBruijn32tab), ("math/bits.deBruijn64tab", laid_math_bits_deBruijn64tab), ("internal/strconv.uint64pow10", laid_internal_strconv_uint64pow10)], narrowed := true }
def NodeOnceUptoSaid : Prop := nodeOnceUptoRow.holds Tryz.pinned (OpenSpec.upto nodeOnceSpec)

/-- 'hourglasslaw27.NodeSends', WHERE WHAT IT READS IS OF BULK AT MOST 1048576: true; the input reads as it did. -/
def nodeSendsUptoRow : OpenClaim := { program := "ytmpjjmilodjecaagreatdoor", sum := "0a220e31464f1ef69c314f000330a6c38b79b97b74c803928087f8e7e00bfa1b", func := "hourglass/hourglasslaw27.NodeSends", spec := "nodeSends", inPlace := ["slices.overlaps[hourglass/owner.Owner]"], unfollowed := true, recurses := true, named := ["internal/strconv.uint64pow10", "math/bits.deBruijn32tab", "math/bits.deBruijn64tab"], plainKeys := false, apart := false, laid := [("math/bits.deBruijn32tab", laid_math_bits_deBruijn32tab), ("math/bits.deBruijn64tab", laid_math_bits_deBruijn64tab), ("internal/strconv.uint64pow10", laid_internal_strconv_uint64pow10)], narrowed := true }
def NodeSendsUptoSaid : Prop := nodeSendsUptoRow.holds Tryz.pinned (OpenSpec.upto nodeSendsSpec)

/-- 'hourglasslaw27.NodeRoots', WHERE WHAT IT READS IS OF BULK AT MOST 1048576: true; the input reads as it did. -/
def nodeRootsUptoRow : OpenClaim := { program := "ytmpjjmilodjecaagreatdoor", sum := "0a220e31464f1ef69c314f000330a6c38b79b97b74c803928087f8e7e00bfa1b", func := "hourglass/hourglasslaw27.NodeRoots", spec := "nodeRoots", inPlace := ["slices.overlaps[hourglass/owner.Owner]"], unfollowed := true, recurses := true, named := ["internal/strconv.uint64pow10", "math/bits.deBruijn32tab", "math/bits.deBruijn64tab"], plainKeys := false, apart := false, laid := [("math/bits.deBruijn32tab", laid_math_bits_deBruijn32tab), ("math/bits.deBruijn64tab", laid_math_bits_deBruijn64tab), ("internal/strconv.uint64pow10", laid_internal_strconv_uint64pow10)], narrowed := true }
def NodeRootsUptoSaid : Prop := nodeRootsUptoRow.holds Tryz.pinned (OpenSpec.upto nodeRootsSpec)

/-- 'hourglasslaw27.NodeRefused', WHERE WHAT IT READS IS OF BULK AT MOST 1048576: true; the input reads as it did. -/
def nodeRefusedUptoRow : OpenClaim := { program := "ytmpjjmilodjecaagreatdoor", sum := "0a220e31464f1ef69c314f000330a6c38b79b97b74c803928087f8e7e00bfa1b", func := "hourglass/hourglasslaw27.NodeRefused", spec := "nodeRefused", inPlace := ["slices.overlaps[hourglass/owner.Owner]"], unfollowed := true, recurses := true, named := ["internal/strconv.uint64pow10", "math/bits.deBruijn32tab", "math/bits.deBruijn64tab"], plainKeys := false, apart := false, laid := [("math/bits.deBruijn32tab", laid_math_bits_deBruijn32tab), ("math/bits.deBruijn64tab", laid_math_bits_deBruijn64tab), ("internal/strconv.uint64pow10", laid_internal_strconv_uint64pow10)], narrowed := true }
def NodeRefusedUptoSaid : Prop := nodeRefusedUptoRow.holds Tryz.pinned (OpenSpec.upto nodeRefusedSpec)

/-- 'hourglasslaw27.NodeStops', WHERE WHAT IT READS IS OF BULK AT MOST 1048576: true; the input reads as it did. -/
def nodeStopsUptoRow : OpenClaim := { program := "ytmpjjmilodjecaagreatdoor", sum := "0a220e31464f1ef69c314f000330a6c38b79b97b74c803928087f8e7e00bfa1b", func := "hourglass/hourglasslaw27.NodeStops", spec := "nodeStops", inPlace := ["slices.overlaps[hourglass/owner.Owner]"], unfollowed := true, recurses := true, named := ["internal/strconv.uint64pow10", "math/bits.deBruijn32tab", "math/bits.deBruijn64tab"], plainKeys := false, apart := false, laid := [("math/bits.deBruijn32tab", laid_math_bits_deBruijn32tab), ("math/bits.deBruijn64tab", laid_math_bits_deBruijn64tab), ("internal/strconv.uint64pow10", laid_internal_strconv_uint64pow10)], narrowed := true }
def NodeStopsUptoSaid : Prop := nodeStopsUptoRow.holds Tryz.pinned (OpenSpec.upto nodeStopsSpec)

/-- 'hourglasslaw27.NodeAhead', WHERE WHAT IT READS IS OF BULK AT MOST 1048576: true; the input reads as it did. -/
def nodeAheadUptoRow : OpenClaim := { program := "ytmpjjmilodjecaagreatdoor", sum := "0a220e31464f1ef69c314f000330a6c38b79b97b74c803928087f8e7e00bfa1b", func := "hourglass/hourglasslaw27.NodeAhead", spec := "nodeAhead", inPlace := ["slices.overlaps[hourglass/owner.Owner]"], unfollowed := true, recurses := true, named := ["internal/strconv.uint64pow10", "math/bits.deBruijn32tab", "math/bits.deBruijn64tab"], plainKeys := false, apart := false, laid := [("math/bits.deBruijn32tab", laid_math_bits_deBruijn32tab), ("math/bits.deBruijn64tab", laid_math_bits_deBruijn64tab), ("internal/strconv.uint64pow10", laid_internal_strconv_uint64pow10)], narrowed := true }
def NodeAheadUptoSaid : Prop := nodeAheadUptoRow.holds Tryz.pinned (OpenSpec.upto nodeAheadSpec)

/-- 'hourglasslaw27.NodeTimer', WHERE WHAT IT READS IS OF BULK AT MOST 1048576: true; the input reads as it did. -/
def nodeTimerUptoRow : OpenClaim := { program := "ytmpjjmilodjecaagreatdoor", sum := "0a220e31464f1ef69c314f000330a6c38b79b97b74c803928087f8e7e00bfa1b", func := "hourglass/hourglasslaw27.NodeTimer", spec := "nodeTimer", inPlace := ["slices.overlaps[hourglass/owner.Owner]"], unfollowed := true, recurses := true, named := ["internal/strconv.uint64pow10", "math/bits.deBruijn32tab", "math/bits.deBruijn64tab"], plainKeys := false, apart := false, laid := [("math/bits.deBruijn32tab", laid_math_bits_deBruijn32tab), ("math/bits.deBruijn64tab", laid_math_bits_deBruijn64tab), ("internal/strconv.uint64pow10", laid_internal_strconv_uint64pow10)], narrowed := true }
def NodeTimerUptoSaid : Prop := nodeTimerUptoRow.holds Tryz.pinned (OpenSpec.upto nodeTimerSpec)

/-- 'hourglasslaw27.NodeRests', WHERE WHAT IT READS IS OF BULK AT MOST 1048576: true; the input reads as it did. -/
def nodeRestsUptoRow : OpenClaim := { program := "ytmpjjmilodjecaagreatdoor", sum := "0a220e31464f1ef69c314f000330a6c38b79b97b74c803928087f8e7e00bfa1b", func := "hourglass/hourglasslaw27.NodeRests", spec := "nodeRests", inPlace := ["slices.overlaps[hourglass/owner.Owner]"], unfollowed := true, recurses := true, named := ["internal/strconv.uint64pow10", "math/bits.deBruijn32tab", "math/bits.deBruijn64tab"], plainKeys := false, apart := false, laid := [("math/bits.deBruijn32tab", laid_math_bits_deBruijn32tab), ("math/bits.deBruijn64tab", laid_math_bits_deBruijn64tab), ("internal/strconv.uint64pow10", laid_internal_strconv_uint64pow10)], narrowed := true }
def NodeRestsUptoSaid : Prop := nodeRestsUptoRow.holds Tryz.pinned (OpenSpec.upto nodeRestsSpec)

/-- 'hourglasslaw27.NodePlays', WHERE WHAT IT READS IS OF BULK AT MOST 1048576: true; the input reads as it did. -/
def nodePlaysUptoRow : OpenClaim := { program := "ytmpjjmilodjecaagreatdoor", sum := "0a220e31464f1ef69c314f000330a6c38b79b97b74c803928087f8e7e00bfa1b", func := "hourglass/hourglasslaw27.NodePlays", spec := "nodePlays", inPlace := ["slices.overlaps[hourglass/owner.Owner]"], unfollowed := true, recurses := true, named := ["internal/strconv.uint64pow10", "math/bits.deBruijn32tab", "math/bits.deBruijn64tab"], plainKeys := false, apart := false, laid := [("math/bits.deBruijn32tab", laid_math_bits_deBruijn32tab), ("math/bits.deBruijn64tab", laid_math_bits_deBruijn64tab), ("internal/strconv.uint64pow10", laid_internal_strconv_uint64pow10)], narrowed := true }
def NodePlaysUptoSaid : Prop := nodePlaysUptoRow.holds Tryz.pinned (OpenSpec.upto nodePlaysSpec)

/-- 'hourglasslaw27.NodeNone', WHERE WHAT IT READS IS OF BULK AT MOST 1048576: true; the input reads as it did. -/
def nodeNoneUptoRow : OpenClaim := { program := "ytmpjjmilodjecaagreatdoor", sum := "0a220e31464f1ef69c314f000330a6c38b79b97b74c803928087f8e7e00bfa1b", func := "hourglass/hourglasslaw27.NodeNone", spec := "nodeNone", inPlace := ["slices.overlaps[hourglass/owner.Owner]"], unfollowed := true, recurses := true, named := ["internal/strconv.uint64pow10", "math/bits.deBruijn32tab", "math/bits.deBruijn64tab"], plainKeys := false, apart := false, laid := [("math/bits.deBruijn32tab", laid_math_bits_deBruijn32tab), ("math/bits.deBruijn64tab", laid_math_bits_deBruijn64tab), ("internal/strconv.uint64pow10", laid_internal_strconv_uint64pow10)], narrowed := true }
def NodeNoneUptoSaid : Prop := nodeNoneUptoRow.holds Tryz.pinned (OpenSpec.upto nodeNoneSpec)

end Rows
end Go.Proofs.YtmpjjmilodjecaaGreatDoor
