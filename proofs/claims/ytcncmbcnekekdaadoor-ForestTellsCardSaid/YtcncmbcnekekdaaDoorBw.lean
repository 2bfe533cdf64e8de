/- Cells in a world in which all that lay lies. -/
import Derived.Test.YtcncmbcnekekdaaDoorBase
namespace Go.Proofs.YtcncmbcnekekdaaDoor
open Go.RowKit
theorem cell_lt {w : World} {b o : Nat} {v : Value} (h : w.cell? ⟨b, o, none⟩ = some v) : b < w.heap.size := by
  unfold World.cell? at h
  cases hh : w.heap[b]? with
  | none => simp [hh] at h
  | some x => exact (Array.getElem?_eq_some_iff.1 hh).1
theorem bw_then {w2 W : World} (hb : Below w2.heap.size w2 W) {b o : Nat} {v : Value} (h : w2.cell? ⟨b, o, none⟩ = some v) : ∀ y : BW W, y.1.cell? ⟨b, o, none⟩ = some v := fun y => by
  have h1 := cell_lt h
  have h2 := (hb.cell (p := ⟨b, o, none⟩) h1).trans h
  exact (y.2.cell (p := ⟨b, o, none⟩) (cell_lt h2)).trans h2
end Go.Proofs.YtcncmbcnekekdaaDoor
