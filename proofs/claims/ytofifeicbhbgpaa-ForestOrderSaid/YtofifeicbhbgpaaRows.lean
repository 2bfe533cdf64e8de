/-
  No cell of these rows narrows 'for every input' (looked for: loops, veiled, ifaces, maps, wideKeys, modest, calm, conditions, laid).
  DERIVED. THE GIVEN ROWS OF THIS SEAT. 4 by the template 'for every input the law returns true; each argument reads behind the call as it read before'; 0 by the template 'total and deterministic' (their statements: YtofifeicbhbgpaaTotals.lean).
  GIVEN WITH THE SEED: the statements are not yours to turn. If you find one false, say at which input.
  Laid BY PROGRAM, IN A SANDBOX (cutbox-rows.mjs): the forced cells as the released guide's own fill.sh prints them over the translation e35c275b1482a294… (all of the seat's roots in one cut). By AI agents, Wed Nov 11 2026. No macro, syntax, notation, axiom, sorry.
-/
import Derived.Test.YtofifeicbhbgpaaChecked
import GoSem.Claim
import GoSem.ClaimJoined
import GoSem.ClaimMapViews
import Derived.JoinedTies
import Derived.KernelRfl
namespace Go.Proofs.Ytofifeicbhbgpaa
/- THE CELL 'sum', in the pinned program and in every row, IS THE sha256 OF THE DUMP (.gsa) THAT YtofifeicbhbgpaaProg.lean LOADS. Nothing in Lean hashes anything: it is a label: what it is worth is what the hold of that sum in a sandbox is worth. -/
noncomputable def Try.pinned : Pinned := { name := "ytofifeicbhbgpaa", sum := "e35c275b1482a294d04181b6e3cc8a2cc35beb60431da156eab1dbf55cc1ce34", checked := Try.checked }
namespace Rows
def none {H : Type} : Left H := { results := [], args := [] }

/-- 'hourglasslaw31.ForestOrder': WHATEVER THE INPUT: true; the input reads as it did. -/
def forestOrderSpec : ChangeSpec := { name := "forestOrder", fn := fun _ => fun
  | [d] => { results := [.lit (.bool true)], args := [d] }
  | _ => none }
def forestOrderRow : OpenClaim := { program := "ytofifeicbhbgpaa", sum := "e35c275b1482a294d04181b6e3cc8a2cc35beb60431da156eab1dbf55cc1ce34", func := "hourglass/hourglasslaw31.ForestOrder", spec := "forestOrder", unfollowed := true, recurses := true, apart := false }
def ForestOrderSaid : Prop := forestOrderRow.holds Try.pinned (OpenSpec.ofChange forestOrderSpec)

/-- ITS FALSE NEIGHBOUR: 'it returns false'. Refute it at one input. -/
def forestOrderWrong : ChangeSpec := { name := "forestOrder", fn := fun _ => fun
  | [d] => { results := [.lit (.bool false)], args := [d] }
  | _ => none }
def ForestOrderWrongFalsely : Prop := forestOrderRow.holds Try.pinned (OpenSpec.ofChange forestOrderWrong)

/-- 'hourglasslaw32.AuditStays': WHATEVER THE INPUT: true; the input reads as it did. -/
def auditStaysSpec : ChangeSpec := { name := "auditStays", fn := fun _ => fun
  | [d1, d2, d3] => { results := [.lit (.bool true)], args := [d1, d2, d3] }
  | _ => none }
def auditStaysRow : OpenClaim := { program := "ytofifeicbhbgpaa", sum := "e35c275b1482a294d04181b6e3cc8a2cc35beb60431da156eab1dbf55cc1ce34", func := "hourglass/hourglasslaw32.AuditStays", spec := "auditStays", unfollowed := true, recurses := true, apart := false }
def AuditStaysSaid : Prop := auditStaysRow.holds Try.pinned (OpenSpec.ofChange auditStaysSpec)

/-- ITS FALSE NEIGHBOUR: 'it returns false'. Refute it at one input. -/
def auditStaysWrong : ChangeSpec := { name := "auditStays", fn := fun _ => fun
  | [d1, d2, d3] => { results := [.lit (.bool false)], args := [d1, d2, d3] }
  | _ => none }
def AuditStaysWrongFalsely : Prop := auditStaysRow.holds Try.pinned (OpenSpec.ofChange auditStaysWrong)

/-- 'hourglasslaw32.AuditPlants': WHATEVER THE INPUT: true; the input reads as it did. -/
def auditPlantsSpec : ChangeSpec := { name := "auditPlants", fn := fun _ => fun
  | [d1, d2, d3] => { results := [.lit (.bool true)], args := [d1, d2, d3] }
  | _ => none }
def auditPlantsRow : OpenClaim := { program := "ytofifeicbhbgpaa", sum := "e35c275b1482a294d04181b6e3cc8a2cc35beb60431da156eab1dbf55cc1ce34", func := "hourglass/hourglasslaw32.AuditPlants", spec := "auditPlants", unfollowed := true, recurses := true, apart := false }
def AuditPlantsSaid : Prop := auditPlantsRow.holds Try.pinned (OpenSpec.ofChange auditPlantsSpec)

/-- ITS FALSE NEIGHBOUR: 'it returns false'. Refute it at one input. -/
def auditPlantsWrong : ChangeSpec := { name := "auditPlants", fn := fun _ => fun
  | [d1, d2, d3] => { results := [.lit (.bool false)], args := [d1, d2, d3] }
  | _ => none }
def AuditPlantsWrongFalsely : Prop := auditPlantsRow.holds Try.pinned (OpenSpec.ofChange auditPlantsWrong)

/-- 'hourglasslaw33.ChainLate': WHATEVER THE INPUT: true; the input reads as it did. -/
def chainLateSpec : ChangeSpec := { name := "chainLate", fn := fun _ => fun
  | [d1, d2, d3] => { results := [.lit (.bool true)], args := [d1, d2, d3] }
  | _ => none }
def chainLateRow : OpenClaim := { program := "ytofifeicbhbgpaa", sum := "e35c275b1482a294d04181b6e3cc8a2cc35beb60431da156eab1dbf55cc1ce34", func := "hourglass/hourglasslaw33.ChainLate", spec := "chainLate", unfollowed := true, recurses := true, apart := false }
def ChainLateSaid : Prop := chainLateRow.holds Try.pinned (OpenSpec.ofChange chainLateSpec)

/-- ITS FALSE NEIGHBOUR: 'it returns false'. Refute it at one input. -/
def chainLateWrong : ChangeSpec := { name := "chainLate", fn := fun _ => fun
  | [d1, d2, d3] => { results := [.lit (.bool false)], args := [d1, d2, d3] }
  | _ => none }
def ChainLateWrongFalsely : Prop := chainLateRow.holds Try.pinned (OpenSpec.ofChange chainLateWrong)

/- THE SECOND FORM. 'bulk': how many values and letters a reading holds, each counted each time it is reached (what is shared counts as often as it is met; a slice's spare places count too). A statement '..UptoSaid' is the law's where the arguments, and the package variables that the reading takes, are together of bulk at most 1048576: NARROWER than '..Said'. Prove '..Said' where nothing that the law and all that it calls make is longer than what came in: it says more and counts as full. Else prove '..UptoSaid'. A law counts once. -/
mutual
def uptoBulk {H : Type} : DataW H → Nat
  | .lit (.string bytes) => bytes.length + 1
  | .lit _ => 1
  | .nil => 1
  | .ptr d => uptoBulk d + 1
  | .slice elems spare => uptoBulkAll elems + uptoBulkAll spare + 1
  | .agg parts => uptoBulkAll parts + 1
  | .iface _ d => uptoBulk d + 1
  | .map entries => uptoBulkEntries entries + 1
  | .held _ => 1
def uptoBulkAll {H : Type} : List (DataW H) → Nat
  | [] => 0
  | d :: r => uptoBulk d + uptoBulkAll r
def uptoBulkEntries {H : Type} : List (Lit × DataW H) → Nat
  | [] => 0
  | x :: r => uptoBulkEntry x + uptoBulkEntries r
def uptoBulkEntry {H : Type} : Lit × DataW H → Nat
  | (.string bytes, d) => bytes.length + uptoBulk d + 1
  | (_, d) => uptoBulk d + 1
 end
def uptoSmall : (H : Type) → List (DataW H) → Bool := fun _ ds => decide (uptoBulkAll ds ≤ 1048576)
def OpenSpec.upto (s : _root_.Go.ChangeSpec) : _root_.Go.OpenSpec := { _root_.Go.OpenSpec.ofChange s with cond := some uptoSmall }

/-- 'hourglasslaw31.ForestOrder', WHERE WHAT IT READS IS OF BULK AT MOST 1048576: true; the input reads as it did. -/
def forestOrderUptoRow : OpenClaim := { program := "ytofifeicbhbgpaa", sum := "e35c275b1482a294d04181b6e3cc8a2cc35beb60431da156eab1dbf55cc1ce34", func := "hourglass/hourglasslaw31.ForestOrder", spec := "forestOrder", unfollowed := true, recurses := true, apart := false, narrowed := true }
def ForestOrderUptoSaid : Prop := forestOrderUptoRow.holds Try.pinned (OpenSpec.upto forestOrderSpec)

/-- 'hourglasslaw32.AuditStays', WHERE WHAT IT READS IS OF BULK AT MOST 1048576: true; the input reads as it did. -/
def auditStaysUptoRow : OpenClaim := { program := "ytofifeicbhbgpaa", sum := "e35c275b1482a294d04181b6e3cc8a2cc35beb60431da156eab1dbf55cc1ce34", func := "hourglass/hourglasslaw32.AuditStays", spec := "auditStays", unfollowed := true, recurses := true, apart := false, narrowed := true }
def AuditStaysUptoSaid : Prop := auditStaysUptoRow.holds Try.pinned (OpenSpec.upto auditStaysSpec)

/-- 'hourglasslaw32.AuditPlants', WHERE WHAT IT READS IS OF BULK AT MOST 1048576: true; the input reads as it did. -/
def auditPlantsUptoRow : OpenClaim := { program := "ytofifeicbhbgpaa", sum := "e35c275b1482a294d04181b6e3cc8a2cc35beb60431da156eab1dbf55cc1ce34", func := "hourglass/hourglasslaw32.AuditPlants", spec := "auditPlants", unfollowed := true, recurses := true, apart := false, narrowed := true }
def AuditPlantsUptoSaid : Prop := auditPlantsUptoRow.holds Try.pinned (OpenSpec.upto auditPlantsSpec)

/-- 'hourglasslaw33.ChainLate', WHERE WHAT IT READS IS OF BULK AT MOST 1048576: true; the input reads as it did. -/
def chainLateUptoRow : OpenClaim := { program := "ytofifeicbhbgpaa", sum := "e35c275b1482a294d04181b6e3cc8a2cc35beb60431da156eab1dbf55cc1ce34", func := "hourglass/hourglasslaw33.ChainLate", spec := "chainLate", unfollowed := true, recurses := true, apart := false, narrowed := true }
def ChainLateUptoSaid : Prop := chainLateUptoRow.holds Try.pinned (OpenSpec.upto chainLateSpec)

end Rows
end Go.Proofs.Ytofifeicbhbgpaa
