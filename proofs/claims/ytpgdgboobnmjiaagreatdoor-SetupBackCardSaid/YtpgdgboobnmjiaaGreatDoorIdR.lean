/- Ids and keys that may be: the program's, the document's. -/
import Derived.Test.YtpgdgboobnmjiaaGreatDoorText
import Derived.Test.YtpgdgboobnmjiaaGreatDoorOpen
import Derived.Test.YtpgdgboobnmjiaaGreatDoorLoadV
import Derived.Deep.DeepCutAuto
namespace Go.Proofs.YtpgdgboobnmjiaaGreatDoor
open Go.RowKit Go.Shelf
set_option linter.unusedVariables false
set_option linter.unusedSimpArgs false
def T.idRight (d : Id) : Bool := decide (0 ≤ d.node ∧ d.node ≤ 63 ∧ 0 ≤ d.inc ∧ d.inc ≤ 65535 ∧ 1 ≤ d.seq ∧ d.seq ≤ 16777215)
def T.keyRight (k : Key) : Bool := T.idRight k.id && decide (0 ≤ k.att ∧ k.att ≤ 5)
theorem T.idRight_cases (d : Id) : (T.idRight d = false ∧ d.node < 0) ∨ (T.idRight d = false ∧ 0 ≤ d.node ∧ 63 < d.node) ∨ (T.idRight d = false ∧ 0 ≤ d.node ∧ d.node ≤ 63 ∧ d.inc < 0) ∨ (T.idRight d = false ∧ 0 ≤ d.node ∧ d.node ≤ 63 ∧ 0 ≤ d.inc ∧ 65535 < d.inc)
    ∨ (T.idRight d = false ∧ 0 ≤ d.node ∧ d.node ≤ 63 ∧ 0 ≤ d.inc ∧ d.inc ≤ 65535 ∧ d.seq < 1) ∨ (T.idRight d = false ∧ 0 ≤ d.node ∧ d.node ≤ 63 ∧ 0 ≤ d.inc ∧ d.inc ≤ 65535 ∧ 1 ≤ d.seq ∧ 16777215 < d.seq) ∨ (T.idRight d = true ∧ 0 ≤ d.node ∧ d.node ≤ 63 ∧ 0 ≤ d.inc ∧ d.inc ≤ 65535 ∧ 1 ≤ d.seq ∧ d.seq ≤ 16777215) := by
  simp only [T.idRight, decide_eq_false_iff_not, decide_eq_true_eq]
  omega
end Go.Proofs.YtpgdgboobnmjiaaGreatDoor
