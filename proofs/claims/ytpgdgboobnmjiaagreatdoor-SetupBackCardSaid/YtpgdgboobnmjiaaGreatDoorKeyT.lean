/- The texts of ids and keys: the program's, the document's. -/
import Derived.Test.YtpgdgboobnmjiaaGreatDoorItoa
namespace Go.Proofs.YtpgdgboobnmjiaaGreatDoor
open Go.RowKit Go.Shelf
set_option linter.unusedVariables false
set_option linter.unusedSimpArgs false
theorem digits_t (n : Int) (h0 : -9223372036854775808 ≤ n) (h1 : n ≤ 9223372036854775807) (w : World) (ht : Tab w) :
    Calls Tryz.prog 28 #[.int .i64 n] w fun r w' => r = .returned (strV (Lib.itoa n)) ∧ Below w.heap.size w w' := digits_c n h0 h1 w
theorem T.itoa_i64 {n : Int} (h : i64 n) : (Lib.itoa n).length ≤ 21 := Lib.itoa_length_le n h.1 h.2
section
attribute [local go_sem] Id.sz Key.sz bw_cell
end
end Go.Proofs.YtpgdgboobnmjiaaGreatDoor
