/- The names of the kinds of findings. -/
import Derived.Test.YtofifeicbhbgpaaDoorText
import Derived.Test.YtofifeicbhbgpaaDoorLits
namespace Go.Proofs.YtofifeicbhbgpaaDoor
open Go.RowKit Go.Shelf
set_option linter.unusedVariables false
set_option linter.unusedSimpArgs false
def T.names : List (List UInt8) := [[108, 111, 115, 116], [115, 116, 114, 97, 121], [116, 119, 105, 99, 101], [108, 97, 116, 101], [109, 97, 110, 121], [111, 118, 101, 114], [101, 97, 114, 108, 121], [117, 110, 97, 115, 107, 101, 100], [101, 109, 112, 116, 121], [99, 108, 111, 99, 107], [100, 101, 101, 112], [115, 111, 111, 110]]
def T.name (k : Int) : List UInt8 := if k < 1 ∨ 12 < k then [63] else T.names.getD (k - 1).toNat []
theorem T.name_len (k : Int) : (T.name k).length ≤ 8 := by
  unfold T.name
  split
  · decide
  · rename_i h
    obtain rfl | rfl | rfl | rfl | rfl | rfl | rfl | rfl | rfl | rfl | rfl | rfl : k = 1 ∨ k = 2 ∨ k = 3 ∨ k = 4 ∨ k = 5 ∨ k = 6 ∨ k = 7 ∨ k = 8 ∨ k = 9 ∨ k = 10 ∨ k = 11 ∨ k = 12 := by omega
    all_goals decide
set_option maxRecDepth 100000 in
set_option maxHeartbeats 4000000 in
theorem name_c (k : Int) (w : World) : Calls Tryd.prog 11 #[.int .i64 k] w fun r w' => r = .returned (strV (T.name k)) ∧ Below w.heap.size w w' := by
  rcases g1 : decide (k < 1) with _ | _
  · rcases g2 : decide (k > 12) with _ | _
    · have h1 : 1 ≤ k := by simpa using g1
      have h2 : k ≤ 12 := by simpa using g2
      clear g1 g2
      obtain rfl | rfl | rfl | rfl | rfl | rfl | rfl | rfl | rfl | rfl | rfl | rfl : k = 1 ∨ k = 2 ∨ k = 3 ∨ k = 4 ∨ k = 5 ∨ k = 6 ∨ k = 7 ∨ k = 8 ∨ k = 9 ∨ k = 10 ∨ k = 11 ∨ k = 12 := by omega
      all_goals
        clear h1 h2
        go_enter Tryd.func11, Tryd.ntmps11
        go_wp2
        go_ret
        exact ⟨rfl, (Below.refl _ _).alloc (Nat.le_refl _) _⟩
    · have h2 : 12 < k := by simpa using g2
      go_enter Tryd.func11, Tryd.ntmps11
      go_wp2
      go_ret
      refine ⟨by rw [T.name, if_pos (.inr h2)]; rfl, ?_⟩
      first | exact Below.refl _ _ | exact (Below.refl _ _).alloc (Nat.le_refl _) _
  · have h1 : k < 1 := by simpa using g1
    go_enter Tryd.func11, Tryd.ntmps11
    go_wp2
    go_ret
    refine ⟨by rw [T.name, if_pos (.inl h1)]; rfl, ?_⟩
    first | exact Below.refl _ _ | exact (Below.refl _ _).alloc (Nat.le_refl _) _
set_option maxRecDepth 100000 in
set_option maxHeartbeats 4000000 in
theorem refName_c (k : Int) (w : World) : Calls Tryd.prog 12 #[.int .i64 k] w fun r w' => r = .returned (strV (T.name k)) ∧ Below w.heap.size w w' := by
  rcases g1 : decide (k < 1) with _ | _
  · rcases g2 : decide (k > 12) with _ | _
    · have h1 : 1 ≤ k := by simpa using g1
      have h2 : k ≤ 12 := by simpa using g2
      clear g1 g2
      obtain rfl | rfl | rfl | rfl | rfl | rfl | rfl | rfl | rfl | rfl | rfl | rfl : k = 1 ∨ k = 2 ∨ k = 3 ∨ k = 4 ∨ k = 5 ∨ k = 6 ∨ k = 7 ∨ k = 8 ∨ k = 9 ∨ k = 10 ∨ k = 11 ∨ k = 12 := by omega
      all_goals
        clear h1 h2
        go_enter Tryd.func12, Tryd.ntmps12
        go_wp2
        go_ret
        exact ⟨rfl, (Below.refl _ _).alloc (Nat.le_refl _) _⟩
    · have h2 : 12 < k := by simpa using g2
      go_enter Tryd.func12, Tryd.ntmps12
      go_wp2
      go_ret
      refine ⟨by rw [T.name, if_pos (.inr h2)]; rfl, ?_⟩
      first | exact Below.refl _ _ | exact (Below.refl _ _).alloc (Nat.le_refl _) _
  · have h1 : k < 1 := by simpa using g1
    go_enter Tryd.func12, Tryd.ntmps12
    go_wp2
    go_ret
    refine ⟨by rw [T.name, if_pos (.inl h1)]; rfl, ?_⟩
    first | exact Below.refl _ _ | exact (Below.refl _ _).alloc (Nat.le_refl _) _
end Go.Proofs.YtofifeicbhbgpaaDoor
