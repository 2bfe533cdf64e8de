/- The reference's audit: all that is wrong of one event. -/
import Derived.Test.YtofifeicbhbgpaaDoorRefB
import Derived.Test.YtofifeicbhbgpaaDoorRefD
import Derived.Test.YtofifeicbhbgpaaDoorRefE
namespace Go.Proofs.YtofifeicbhbgpaaDoor
open Go.RowKit Go.Shelf
set_option linter.unusedVariables false
set_option linter.unusedSimpArgs false
theorem gen_wp {P : Program} {c : Code} {Q : Exit → Act → World → Prop} {a : Act} {Y : World} {S : World → Prop} (hS : S Y) (h : ∀ X, S X → c.wp P Q a X) : c.wp P Q a Y := h Y hS
theorem frame_then {g : Nat} {A B C : World} (h : Below g A B) (hs : g ≤ A.heap.size) (hb : Below B.heap.size B C) : Below g A C := h.trans (hb.mono (Nat.le_trans hs h.size))
/-- Truth values, in a block of their own. -/
def BoolsAt (X : World) (g : Nat) (vs : List Bool) : Prop := X.heap[g]? = some (.cells (vs.map Value.bool).toArray 4 (0, 0))
theorem BoolsAt.at {X : World} {g : Nat} {vs : List Bool} (h : BoolsAt X g vs) (j : Nat) (b : Bool) (hj : vs[j]? = some b) : X.cell? ⟨g, j, none⟩ = some (.bool b) ∧ X.frozen? ⟨g, j, none⟩ = false := by
  constructor
  · simp [World.cell?, show X.heap[g]? = _ from h, hj]
  · simp [World.frozen?, show X.heap[g]? = _ from h]
theorem BoolsAt.set {X : World} {g : Nat} {vs : List Bool} (h : BoolsAt X g vs) (j : Nat) (b : Bool) : BoolsAt (X.setCell ⟨g, j, none⟩ (.bool b)) g (vs.set j b) := by
  unfold BoolsAt at *
  simp [World.setCell, Array.getElem?_modify, h]
theorem BoolsAt.below {X Y : World} {g : Nat} {vs : List Bool} (h : BoolsAt X g vs) (hb : Below X.heap.size X Y) : BoolsAt Y g vs := by
  have hlt : g < X.heap.size := by
    rcases Nat.lt_or_ge g X.heap.size with h' | h'
    · exact h'
    · unfold BoolsAt at h; simp [Array.getElem?_eq_none h'] at h
  exact (hb.block g hlt).trans h
theorem BoolsAt.lt {X : World} {g : Nat} {vs : List Bool} (h : BoolsAt X g vs) : g < X.heap.size := by
  rcases Nat.lt_or_ge g X.heap.size with h' | h'
  · exact h'
  · unfold BoolsAt at h; simp [Array.getElem?_eq_none h'] at h
def T.wrongs (c : Config) (xs : List Event) (e : Event) : List Bool := [false, T.wrong c xs 1 e, T.wrong c xs 2 e, T.wrong c xs 3 e, T.wrong c xs 4 e, T.wrong c xs 5 e, T.wrong c xs 6 e, T.wrong c xs 7 e, T.wrong c xs 8 e, T.wrong c xs 9 e, T.wrong c xs 10 e, T.wrong c xs 11 e, T.wrong c xs 12 e]
theorem T.wrongs_at (c : Config) (xs : List Event) (e : Event) (j : Nat) (h1 : 1 ≤ j) (h2 : j ≤ 12) : (T.wrongs c xs e)[j]? = some (T.wrong c xs (j : Int) e) := by
  obtain rfl | rfl | rfl | rfl | rfl | rfl | rfl | rfl | rfl | rfl | rfl | rfl : j = 1 ∨ j = 2 ∨ j = 3 ∨ j = 4 ∨ j = 5 ∨ j = 6 ∨ j = 7 ∨ j = 8 ∨ j = 9 ∨ j = 10 ∨ j = 11 ∨ j = 12 := by omega
  all_goals rfl
end Go.Proofs.YtofifeicbhbgpaaDoor
