/- hourglasslaw29.SetupOrder: the closed facts of its row, one by one. (Printed by wip/gen_k.py, our own.) -/
import Derived.Test.YtmpjjmilodjecaaGreatDoorRow
import Derived.Test.YtmpjjmilodjecaaGreatDoorRows
import Derived.Test.YtmpjjmilodjecaaGreatDoorCards
import Derived.ProofKit
import Derived.SevenTiedAt
import Derived.Lay
namespace Go.Proofs.YtmpjjmilodjecaaGreatDoor.setupOrder
open Go.RowKit Go.ChangeShapes Go.WideShapes Go.ChangeAt
theorem k0 : (Rows.setupOrderRow.wf (OpenSpec.ofChange Rows.setupOrderSpec)) = true := by kernel_rfl
theorem k1 : (laidOutB Tryz.prog) = true := by kernel_rfl
theorem k2 : (mapsRowed Tryz.prog) = true := by kernel_rfl
theorem k3 : (Tryz.f3.params.all (Tryz.prog.readableRec ·)) = true := by kernel_rfl
theorem k4 : (namedTie Tryz.prog Rows.setupOrderRow.named Rows.setupOrderSpec.vars) = true := by kernel_rfl
theorem k5 : ((Rows.setupOrderRow.inPlace == Tryz.prog.inPlace 3)) = true := by kernel_rfl
theorem k6 : ((Rows.setupOrderRow.unfollowed == Tryz.prog.unfollowed 3)) = true := by kernel_rfl
theorem k7 : ((Rows.setupOrderRow.recurses == Tryz.prog.recurses 3)) = true := by kernel_rfl
theorem k8 : ((Rows.setupOrderRow.named == Tryz.prog.varsNamed 3)) = true := by kernel_rfl
theorem k9 : (Tryz.prog.stopsHeard) = true := by kernel_rfl
theorem k10 : (Tryz.prog.mayEnter) = true := by kernel_rfl
theorem k11 : ((Rows.setupOrderRow.lifted == Tryz.prog.liftsFinal)) = true := by kernel_rfl
theorem k12 : ((Rows.setupOrderRow.plainKeys == Tryz.prog.plainKeys)) = true := by kernel_rfl
theorem named : Tryz.prog.funcNamed "hourglass/hourglasslaw29.SetupOrder" = some 3 := by kernel_rfl
theorem closed : joinedFacts Tryz.prog 3 Tryz.f3 Rows.setupOrderSpec Rows.setupOrderRow = true := by
  unfold joinedFacts
  rw [k0, k1, k2, k3, k4, k5, k6, k7, k8, k9, k10, k11, k12]
  kernel_rfl
theorem ck_wf : Rows.setupOrderRow.wfByText (OpenSpec.ofChange Rows.setupOrderSpec) = true := by kernel_rfl
theorem ck_main : Tryz.prog.mainIs = some (Rows.setupOrderCard.stood.harness.1, Rows.setupOrderCard.stood.harness.2.toList) := by kernel_rfl
theorem ck_looks : Rows.setupOrderCard.stood.looks = Tryz.prog.looks [] := by kernel_rfl
theorem ck_goes : false = Rows.setupOrderRow.goesBy Tryz.prog := by kernel_rfl
end Go.Proofs.YtmpjjmilodjecaaGreatDoor.setupOrder
