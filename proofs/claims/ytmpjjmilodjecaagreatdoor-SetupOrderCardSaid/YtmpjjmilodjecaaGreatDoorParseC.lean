/- Parsing: words for whole rows, cells, the error told. -/
import Derived.Test.YtmpjjmilodjecaaGreatDoorParseP
import Derived.Test.YtmpjjmilodjecaaGreatDoorLoadV
import Derived.Deep.DeepCutAuto
namespace Go.Proofs.YtmpjjmilodjecaaGreatDoor
open Go.RowKit Go.Shelf
set_option linter.unusedVariables false
set_option linter.unusedSimpArgs false
theorem rowAt_rowI {w : World} {b : Nat} {cs : Array Value} {t : TypeId} {fr : Nat × Nat} (h : w.heap[b]? = some (.cells cs t fr)) : rowAt w b 0 cs.size = some cs := by
  unfold rowAt
  rw [h]
  simp
theorem below_setRowI {B b : Nat} {a w : World} (h : Below B a w) (hb : B ≤ b) (cs : Array Value) : Below B a (w.setRow b cs) :=
  ⟨h.os, h.tape, h.output, by simpa using h.size, fun k hk => (setRow_other w b k cs (by omega)).trans (h.block k hk)⟩
theorem cell_of {w : World} {b : Nat} {cs : Array Value} {t : TypeId} (h : w.heap[b]? = some (.cells cs t (0, 0))) (j : Nat) : w.cell? ⟨b, j, none⟩ = cs[j]? ∧ w.frozen? ⟨b, j, none⟩ = false := by
  constructor <;> simp [World.cell?, World.frozen?, h]
/-- The error told. -/
def T.perr (ok : Bool) : Int := if ok = true then 0 else 10
end Go.Proofs.YtmpjjmilodjecaaGreatDoor
