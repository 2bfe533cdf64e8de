/-
  No cell of these rows narrows 'for every input' (looked for: loops, veiled, ifaces, maps, wideKeys, modest, calm, conditions, laid).
  DERIVED. THE GIVEN ROWS OF THIS SEAT. 10 by the template 'for every input the law returns true; each argument reads behind the call as it read before'; 0 by the template 'total and deterministic' (their statements: YtcmngomncdeffaaTotals.lean).
  GIVEN WITH THE SEED: the statements are not yours to turn. If you find one false, say at which input.
  Laid BY PROGRAM, IN A SANDBOX (cutbox-rows.mjs): the forced cells as the released guide's own fill.sh prints them over the translation 418ffd8f5acdf574… (all of the seat's roots in one cut). By AI agents, Wed Nov 11 2026. No macro, syntax, notation, axiom, sorry.
-/
import Derived.Test.YtcmngomncdeffaaChecked
import GoSem.Claim
import GoSem.ClaimJoined
import GoSem.ClaimMapViews
import Derived.JoinedTies
import Derived.KernelRfl
namespace Go.Proofs.Ytcmngomncdeffaa
/- THE CELL 'sum', in the pinned program and in every row, IS THE sha256 OF THE DUMP (.gsa) THAT YtcmngomncdeffaaProg.lean LOADS. Nothing in Lean hashes anything: it is a label: what it is worth is what the hold of that sum in a sandbox is worth. -/
noncomputable def Try.pinned : Pinned := { name := "ytcmngomncdeffaa", sum := "418ffd8f5acdf574a9330a80b02da227551d2a3193562eda09d42a1b3609b091", checked := Try.checked }
namespace Rows
def none {H : Type} : Left H := { results := [], args := [] }

/-- 'hourglasslaw31.ForestCuts': WHATEVER THE INPUT: true; the input reads as it did. -/
def forestCutsSpec : ChangeSpec := { name := "forestCuts", fn := fun _ => fun
  | [d1, d2] => { results := [.lit (.bool true)], args := [d1, d2] }
  | _ => none }
def forestCutsRow : OpenClaim := { program := "ytcmngomncdeffaa", sum := "418ffd8f5acdf574a9330a80b02da227551d2a3193562eda09d42a1b3609b091", func := "hourglass/hourglasslaw31.ForestCuts", spec := "forestCuts", unfollowed := true, recurses := true, apart := false }
def ForestCutsSaid : Prop := forestCutsRow.holds Try.pinned (OpenSpec.ofChange forestCutsSpec)

/-- ITS FALSE NEIGHBOUR: 'it returns false'. Refute it at one input. -/
def forestCutsWrong : ChangeSpec := { name := "forestCuts", fn := fun _ => fun
  | [d1, d2] => { results := [.lit (.bool false)], args := [d1, d2] }
  | _ => none }
def ForestCutsWrongFalsely : Prop := forestCutsRow.holds Try.pinned (OpenSpec.ofChange forestCutsWrong)

/-- 'hourglasslaw31.ForestOrder': WHATEVER THE INPUT: true; the input reads as it did. -/
def forestOrderSpec : ChangeSpec := { name := "forestOrder", fn := fun _ => fun
  | [d] => { results := [.lit (.bool true)], args := [d] }
  | _ => none }
def forestOrderRow : OpenClaim := { program := "ytcmngomncdeffaa", sum := "418ffd8f5acdf574a9330a80b02da227551d2a3193562eda09d42a1b3609b091", func := "hourglass/hourglasslaw31.ForestOrder", spec := "forestOrder", unfollowed := true, recurses := true, apart := false }
def ForestOrderSaid : Prop := forestOrderRow.holds Try.pinned (OpenSpec.ofChange forestOrderSpec)

/-- ITS FALSE NEIGHBOUR: 'it returns false'. Refute it at one input. -/
def forestOrderWrong : ChangeSpec := { name := "forestOrder", fn := fun _ => fun
  | [d] => { results := [.lit (.bool false)], args := [d] }
  | _ => none }
def ForestOrderWrongFalsely : Prop := forestOrderRow.holds Try.pinned (OpenSpec.ofChange forestOrderWrong)

/-- 'hourglasslaw36.PathCovers': WHATEVER THE INPUT: true; the input reads as it did. -/
def pathCoversSpec : ChangeSpec := { name := "pathCovers", fn := fun _ => fun
  | [d1, d2] => { results := [.lit (.bool true)], args := [d1, d2] }
  | _ => none }
def pathCoversRow : OpenClaim := { program := "ytcmngomncdeffaa", sum := "418ffd8f5acdf574a9330a80b02da227551d2a3193562eda09d42a1b3609b091", func := "hourglass/hourglasslaw36.PathCovers", spec := "pathCovers", unfollowed := true, recurses := true, apart := false }
def PathCoversSaid : Prop := pathCoversRow.holds Try.pinned (OpenSpec.ofChange pathCoversSpec)

/-- ITS FALSE NEIGHBOUR: 'it returns false'. Refute it at one input. -/
def pathCoversWrong : ChangeSpec := { name := "pathCovers", fn := fun _ => fun
  | [d1, d2] => { results := [.lit (.bool false)], args := [d1, d2] }
  | _ => none }
def PathCoversWrongFalsely : Prop := pathCoversRow.holds Try.pinned (OpenSpec.ofChange pathCoversWrong)

/-- 'hourglasslaw36.PathOwns': WHATEVER THE INPUT: true; the input reads as it did. -/
def pathOwnsSpec : ChangeSpec := { name := "pathOwns", fn := fun _ => fun
  | [d1, d2] => { results := [.lit (.bool true)], args := [d1, d2] }
  | _ => none }
def pathOwnsRow : OpenClaim := { program := "ytcmngomncdeffaa", sum := "418ffd8f5acdf574a9330a80b02da227551d2a3193562eda09d42a1b3609b091", func := "hourglass/hourglasslaw36.PathOwns", spec := "pathOwns", unfollowed := true, recurses := true, apart := false }
def PathOwnsSaid : Prop := pathOwnsRow.holds Try.pinned (OpenSpec.ofChange pathOwnsSpec)

/-- ITS FALSE NEIGHBOUR: 'it returns false'. Refute it at one input. -/
def pathOwnsWrong : ChangeSpec := { name := "pathOwns", fn := fun _ => fun
  | [d1, d2] => { results := [.lit (.bool false)], args := [d1, d2] }
  | _ => none }
def PathOwnsWrongFalsely : Prop := pathOwnsRow.holds Try.pinned (OpenSpec.ofChange pathOwnsWrong)

/-- 'hourglasslaw36.PathTiles': WHATEVER THE INPUT: true; the input reads as it did. -/
def pathTilesSpec : ChangeSpec := { name := "pathTiles", fn := fun _ => fun
  | [d1, d2] => { results := [.lit (.bool true)], args := [d1, d2] }
  | _ => none }
def pathTilesRow : OpenClaim := { program := "ytcmngomncdeffaa", sum := "418ffd8f5acdf574a9330a80b02da227551d2a3193562eda09d42a1b3609b091", func := "hourglass/hourglasslaw36.PathTiles", spec := "pathTiles", unfollowed := true, recurses := true, apart := false }
def PathTilesSaid : Prop := pathTilesRow.holds Try.pinned (OpenSpec.ofChange pathTilesSpec)

/-- ITS FALSE NEIGHBOUR: 'it returns false'. Refute it at one input. -/
def pathTilesWrong : ChangeSpec := { name := "pathTiles", fn := fun _ => fun
  | [d1, d2] => { results := [.lit (.bool false)], args := [d1, d2] }
  | _ => none }
def PathTilesWrongFalsely : Prop := pathTilesRow.holds Try.pinned (OpenSpec.ofChange pathTilesWrong)

/-- 'hourglasslaw17.AdmitStarts': WHATEVER THE INPUT: true; the input reads as it did. -/
def admitStartsSpec : ChangeSpec := { name := "admitStarts", fn := fun _ => fun
  | [d1, d2, d3] => { results := [.lit (.bool true)], args := [d1, d2, d3] }
  | _ => none }
def admitStartsRow : OpenClaim := { program := "ytcmngomncdeffaa", sum := "418ffd8f5acdf574a9330a80b02da227551d2a3193562eda09d42a1b3609b091", func := "hourglass/hourglasslaw17.AdmitStarts", spec := "admitStarts", apart := false }
def AdmitStartsSaid : Prop := admitStartsRow.holds Try.pinned (OpenSpec.ofChange admitStartsSpec)

/-- ITS FALSE NEIGHBOUR: 'it returns false'. Refute it at one input. -/
def admitStartsWrong : ChangeSpec := { name := "admitStarts", fn := fun _ => fun
  | [d1, d2, d3] => { results := [.lit (.bool false)], args := [d1, d2, d3] }
  | _ => none }
def AdmitStartsWrongFalsely : Prop := admitStartsRow.holds Try.pinned (OpenSpec.ofChange admitStartsWrong)

/-- 'hourglasslaw17.AdmitLate': WHATEVER THE INPUT: true; the input reads as it did. -/
def admitLateSpec : ChangeSpec := { name := "admitLate", fn := fun _ => fun
  | [d1, d2, d3, d4] => { results := [.lit (.bool true)], args := [d1, d2, d3, d4] }
  | _ => none }
def admitLateRow : OpenClaim := { program := "ytcmngomncdeffaa", sum := "418ffd8f5acdf574a9330a80b02da227551d2a3193562eda09d42a1b3609b091", func := "hourglass/hourglasslaw17.AdmitLate", spec := "admitLate", apart := false }
def AdmitLateSaid : Prop := admitLateRow.holds Try.pinned (OpenSpec.ofChange admitLateSpec)

/-- ITS FALSE NEIGHBOUR: 'it returns false'. Refute it at one input. -/
def admitLateWrong : ChangeSpec := { name := "admitLate", fn := fun _ => fun
  | [d1, d2, d3, d4] => { results := [.lit (.bool false)], args := [d1, d2, d3, d4] }
  | _ => none }
def AdmitLateWrongFalsely : Prop := admitLateRow.holds Try.pinned (OpenSpec.ofChange admitLateWrong)

/-- 'hourglasslaw17.AdmitTells': WHATEVER THE INPUT: true; the input reads as it did. -/
def admitTellsSpec : ChangeSpec := { name := "admitTells", fn := fun _ => fun
  | [d1, d2, d3] => { results := [.lit (.bool true)], args := [d1, d2, d3] }
  | _ => none }
def admitTellsRow : OpenClaim := { program := "ytcmngomncdeffaa", sum := "418ffd8f5acdf574a9330a80b02da227551d2a3193562eda09d42a1b3609b091", func := "hourglass/hourglasslaw17.AdmitTells", spec := "admitTells", apart := false }
def AdmitTellsSaid : Prop := admitTellsRow.holds Try.pinned (OpenSpec.ofChange admitTellsSpec)

/-- ITS FALSE NEIGHBOUR: 'it returns false'. Refute it at one input. -/
def admitTellsWrong : ChangeSpec := { name := "admitTells", fn := fun _ => fun
  | [d1, d2, d3] => { results := [.lit (.bool false)], args := [d1, d2, d3] }
  | _ => none }
def AdmitTellsWrongFalsely : Prop := admitTellsRow.holds Try.pinned (OpenSpec.ofChange admitTellsWrong)

/-- 'hourglasslaw32.AuditStays': WHATEVER THE INPUT: true; the input reads as it did. -/
def auditStaysSpec : ChangeSpec := { name := "auditStays", fn := fun _ => fun
  | [d1, d2, d3] => { results := [.lit (.bool true)], args := [d1, d2, d3] }
  | _ => none }
def auditStaysRow : OpenClaim := { program := "ytcmngomncdeffaa", sum := "418ffd8f5acdf574a9330a80b02da227551d2a3193562eda09d42a1b3609b091", func := "hourglass/hourglasslaw32.AuditStays", spec := "auditStays", unfollowed := true, recurses := true, apart := false }
def AuditStaysSaid : Prop := auditStaysRow.holds Try.pinned (OpenSpec.ofChange auditStaysSpec)

/-- ITS FALSE NEIGHBOUR: 'it returns false'. Refute it at one input. -/
def auditStaysWrong : ChangeSpec := { name := "auditStays", fn := fun _ => fun
  | [d1, d2, d3] => { results := [.lit (.bool false)], args := [d1, d2, d3] }
  | _ => none }
def AuditStaysWrongFalsely : Prop := auditStaysRow.holds Try.pinned (OpenSpec.ofChange auditStaysWrong)

/-- 'hourglasslaw32.AuditPlants': WHATEVER THE INPUT: true; the input reads as it did. -/
def auditPlantsSpec : ChangeSpec := { name := "auditPlants", fn := fun _ => fun
  | [d1, d2, d3] => { results := [.lit (.bool true)], args := [d1, d2, d3] }
  | _ => none }
def auditPlantsRow : OpenClaim := { program := "ytcmngomncdeffaa", sum := "418ffd8f5acdf574a9330a80b02da227551d2a3193562eda09d42a1b3609b091", func := "hourglass/hourglasslaw32.AuditPlants", spec := "auditPlants", unfollowed := true, recurses := true, apart := false }
def AuditPlantsSaid : Prop := auditPlantsRow.holds Try.pinned (OpenSpec.ofChange auditPlantsSpec)

/-- ITS FALSE NEIGHBOUR: 'it returns false'. Refute it at one input. -/
def auditPlantsWrong : ChangeSpec := { name := "auditPlants", fn := fun _ => fun
  | [d1, d2, d3] => { results := [.lit (.bool false)], args := [d1, d2, d3] }
  | _ => none }
def AuditPlantsWrongFalsely : Prop := auditPlantsRow.holds Try.pinned (OpenSpec.ofChange auditPlantsWrong)

/- THE SECOND FORM. 'bulk': how many values and letters a reading holds, each counted each time it is reached (what is shared counts as often as it is met; a slice's spare places count too). A statement '..UptoSaid' is the law's where the arguments, and the package variables that the reading takes, are together of bulk at most 1048576: NARROWER than '..Said'. Prove '..Said' where nothing that the law and all that it calls make is longer than what came in: it says more and counts as full. Else prove '..UptoSaid'. A law counts once. -/
mutual
def uptoBulk {H : Type} : DataW H → Nat
  | .lit (.string bytes) => bytes.length + 1
  | .lit _ => 1
  | .nil => 1
  | .ptr d => uptoBulk d + 1
  | .slice elems spare => uptoBulkAll elems + uptoBulkAll spare + 1
  | .agg parts => uptoBulkAll parts + 1
  | .iface _ d => uptoBulk d + 1
  | .map entries => uptoBulkEntries entries + 1
  | .held _ => 1
def uptoBulkAll {H : Type} : List (DataW H) → Nat
  | [] => 0
  | d :: r => uptoBulk d + uptoBulkAll r
def uptoBulkEntries {H : Type} : List (Lit × DataW H) → Nat
  | [] => 0
  | x :: r => uptoBulkEntry x + uptoBulkEntries r
def uptoBulkEntry {H : Type} : Lit × DataW H → Nat
  | (.string bytes, d) => bytes.length + uptoBulk d + 1
  | (_, d) => uptoBulk d + 1
 end
def uptoSmall : (H : Type) → List (DataW H) → Bool := fun _ ds => decide (uptoBulkAll ds ≤ 1048576)
def OpenSpec.upto (s : _root_.Go.ChangeSpec) : _root_.Go.OpenSpec := { _root_.Go.OpenSpec.ofChange s with cond := some uptoSmall }

/-- 'hourglasslaw31.ForestCuts', WHERE WHAT IT READS IS OF BULK AT MOST 1048576: true; the input reads as it did. -/
def forestCutsUptoRow : OpenClaim := { program := "ytcmngomncdeffaa", sum := "418ffd8f5acdf574a9330a80b02da227551d2a3193562eda09d42a1b3609b091", func := "hourglass/hourglasslaw31.ForestCuts", spec := "forestCuts", unfollowed := true, recurses := true, apart := false, narrowed := true }
def ForestCutsUptoSaid : Prop := forestCutsUptoRow.holds Try.pinned (OpenSpec.upto forestCutsSpec)

/-- 'hourglasslaw31.ForestOrder', WHERE WHAT IT READS IS OF BULK AT MOST 1048576: true; the input reads as it did. -/
def forestOrderUptoRow : OpenClaim := { program := "ytcmngomncdeffaa", sum := "418ffd8f5acdf574a9330a80b02da227551d2a3193562eda09d42a1b3609b091", func := "hourglass/hourglasslaw31.ForestOrder", spec := "forestOrder", unfollowed := true, recurses := true, apart := false, narrowed := true }
def ForestOrderUptoSaid : Prop := forestOrderUptoRow.holds Try.pinned (OpenSpec.upto forestOrderSpec)

/-- 'hourglasslaw36.PathCovers', WHERE WHAT IT READS IS OF BULK AT MOST 1048576: true; the input reads as it did. -/
def pathCoversUptoRow : OpenClaim := { program := "ytcmngomncdeffaa", sum := "418ffd8f5acdf574a9330a80b02da227551d2a3193562eda09d42a1b3609b091", func := "hourglass/hourglasslaw36.PathCovers", spec := "pathCovers", unfollowed := true, recurses := true, apart := false, narrowed := true }
def PathCoversUptoSaid : Prop := pathCoversUptoRow.holds Try.pinned (OpenSpec.upto pathCoversSpec)

/-- 'hourglasslaw36.PathOwns', WHERE WHAT IT READS IS OF BULK AT MOST 1048576: true; the input reads as it did. -/
def pathOwnsUptoRow : OpenClaim := { program := "ytcmngomncdeffaa", sum := "418ffd8f5acdf574a9330a80b02da227551d2a3193562eda09d42a1b3609b091", func := "hourglass/hourglasslaw36.PathOwns", spec := "pathOwns", unfollowed := true, recurses := true, apart := false, narrowed := true }
def PathOwnsUptoSaid : Prop := pathOwnsUptoRow.holds Try.pinned (OpenSpec.upto pathOwnsSpec)

/-- 'hourglasslaw36.PathTiles', WHERE WHAT IT READS IS OF BULK AT MOST 1048576: true; the input reads as it did. -/
def pathTilesUptoRow : OpenClaim := { program := "ytcmngomncdeffaa", sum := "418ffd8f5acdf574a9330a80b02da227551d2a3193562eda09d42a1b3609b091", func := "hourglass/hourglasslaw36.PathTiles", spec := "pathTiles", unfollowed := true, recurses := true, apart := false, narrowed := true }
def PathTilesUptoSaid : Prop := pathTilesUptoRow.holds Try.pinned (OpenSpec.upto pathTilesSpec)

/-- 'hourglasslaw17.AdmitStarts', WHERE WHAT IT READS IS OF BULK AT MOST 1048576: true; the input reads as it did. -/
def admitStartsUptoRow : OpenClaim := { program := "ytcmngomncdeffaa", sum := "418ffd8f5acdf574a9330a80b02da227551d2a3193562eda09d42a1b3609b091", func := "hourglass/hourglasslaw17.AdmitStarts", spec := "admitStarts", apart := false, narrowed := true }
def AdmitStartsUptoSaid : Prop := admitStartsUptoRow.holds Try.pinned (OpenSpec.upto admitStartsSpec)

/-- 'hourglasslaw17.AdmitLate', WHERE WHAT IT READS IS OF BULK AT MOST 1048576: true; the input reads as it did. -/
def admitLateUptoRow : OpenClaim := { program := "ytcmngomncdeffaa", sum := "418ffd8f5acdf574a9330a80b02da227551d2a3193562eda09d42a1b3609b091", func := "hourglass/hourglasslaw17.AdmitLate", spec := "admitLate", apart := false, narrowed := true }
def AdmitLateUptoSaid : Prop := admitLateUptoRow.holds Try.pinned (OpenSpec.upto admitLateSpec)

/-- 'hourglasslaw17.AdmitTells', WHERE WHAT IT READS IS OF BULK AT MOST 1048576: true; the input reads as it did. -/
def admitTellsUptoRow : OpenClaim := { program := "ytcmngomncdeffaa", sum := "418ffd8f5acdf574a9330a80b02da227551d2a3193562eda09d42a1b3609b091", func := "hourglass/hourglasslaw17.AdmitTells", spec := "admitTells", apart := false, narrowed := true }
def AdmitTellsUptoSaid : Prop := admitTellsUptoRow.holds Try.pinned (OpenSpec.upto admitTellsSpec)

/-- 'hourglasslaw32.AuditStays', WHERE WHAT IT READS IS OF BULK AT MOST 1048576: true; the input reads as it did. -/
def auditStaysUptoRow : OpenClaim := { program := "ytcmngomncdeffaa", sum := "418ffd8f5acdf574a9330a80b02da227551d2a3193562eda09d42a1b3609b091", func := "hourglass/hourglasslaw32.AuditStays", spec := "auditStays", unfollowed := true, recurses := true, apart := false, narrowed := true }
def AuditStaysUptoSaid : Prop := auditStaysUptoRow.holds Try.pinned (OpenSpec.upto auditStaysSpec)

/-- 'hourglasslaw32.AuditPlants', WHERE WHAT IT READS IS OF BULK AT MOST 1048576: true; the input reads as it did. -/
def auditPlantsUptoRow : OpenClaim := { program := "ytcmngomncdeffaa", sum := "418ffd8f5acdf574a9330a80b02da227551d2a3193562eda09d42a1b3609b091", func := "hourglass/hourglasslaw32.AuditPlants", spec := "auditPlants", unfollowed := true, recurses := true, apart := false, narrowed := true }
def AuditPlantsUptoSaid : Prop := auditPlantsUptoRow.holds Try.pinned (OpenSpec.upto auditPlantsSpec)

end Rows
end Go.Proofs.Ytcmngomncdeffaa
