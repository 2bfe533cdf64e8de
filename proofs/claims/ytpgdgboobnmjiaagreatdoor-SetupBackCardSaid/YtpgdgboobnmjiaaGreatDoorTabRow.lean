/- From the row's condition to the listed table. -/
import Derived.Test.YtpgdgboobnmjiaaGreatDoorItoa
import Derived.LaidSub
import Derived.Lib.LaidTab
namespace Go.Proofs.YtpgdgboobnmjiaaGreatDoor
open Go.RowKit
theorem tab_of {l : List (String × DataW Unit)} {W : World} (h : laidMetH Tryz.prog l W) (he : l.filter (fun x => x.1 == "internal/strconv.uint64pow10") = [("internal/strconv.uint64pow10", Lib.tabData .u64 Lib.pow10Tab)]) : Tab W := by
  have h1 := h.filter (fun x => x.1 == "internal/strconv.uint64pow10")
  rw [he] at h1
  have h2 := (laidMetH_iff.1 h1).1
  have e : ([("internal/strconv.uint64pow10", Lib.tabData .u64 Lib.pow10Tab)] : List (String × DataW Unit)).filter (fun x => x.2.handleName?.isNone) = [("internal/strconv.uint64pow10", Lib.tabData .u64 Lib.pow10Tab)] := rfl
  rw [e] at h2
  exact Lib.tabIs_of_head (t := 113) (e := 103) (n := 20) (g := ((Tryz.prog.globalNamed "internal/strconv.uint64pow10").getD 0)) (by kernel_rfl) (by kernel_rfl) (by kernel_rfl) (by kernel_rfl) (by kernel_rfl) (by kernel_rfl) h2
end Go.Proofs.YtpgdgboobnmjiaaGreatDoor
