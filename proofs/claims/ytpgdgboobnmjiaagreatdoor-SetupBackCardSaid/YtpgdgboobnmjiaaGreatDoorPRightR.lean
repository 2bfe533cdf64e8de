/- Programs that may be, and their units: the document's; units: the program's. -/
import Derived.Test.YtpgdgboobnmjiaaGreatDoorPRight
namespace Go.Proofs.YtpgdgboobnmjiaaGreatDoor
open Go.RowKit Go.Shelf
set_option linter.unusedVariables false
set_option linter.unusedSimpArgs false
attribute [local go_sem] GoOp.sz
/-! Units. -/
def T.unit (o : GoOp) : Int := if o.kind = 1 then (if o.a < 0 then 0 else if 1000 < o.a then 1000 else o.a) else 1
def T.units (xs : List GoOp) : Int := (xs.map T.unit).foldl (· + ·) 0
theorem T.unit_bd (o : GoOp) : 0 ≤ T.unit o ∧ T.unit o ≤ 1000 := by unfold T.unit; split <;> (try split) <;> (try split) <;> omega
theorem T.units_snoc (xs : List GoOp) (o : GoOp) : T.units (xs ++ [o]) = T.units xs + T.unit o := by simp [T.units]
theorem T.units_bd (xs : List GoOp) : 0 ≤ T.units xs ∧ T.units xs ≤ 1000 * xs.length := by
  have key : ∀ (l : List GoOp) (z : Int), z ≤ (l.map T.unit).foldl (· + ·) z ∧ (l.map T.unit).foldl (· + ·) z ≤ z + 1000 * l.length := by
    intro l
    induction l with
    | nil => intro z; simp
    | cons x l ih =>
      intro z
      have := ih (z + T.unit x)
      have hb := T.unit_bd x
      simp only [List.map_cons, List.foldl_cons, List.length_cons]
      omega
  have := key xs 0
  unfold T.units; omega
end Go.Proofs.YtpgdgboobnmjiaaGreatDoor
