/- The names of the kinds of events. -/
import Derived.Test.YtcncmbcnekekdaaDoorForP
import Derived.Test.YtcncmbcnekekdaaDoorLits
namespace Go.Proofs.YtcncmbcnekekdaaDoor
open Go.RowKit Go.Shelf
set_option linter.unusedVariables false
set_option linter.unusedSimpArgs false
set_option maxRecDepth 100000 in
theorem evNames_c (w : World) : Calls Tryd.prog 109 #[] w fun r w' => r = .returned (.slice (some ⟨w.heap.size, 0, none⟩) 12 12) ∧ w' = w.alloc (.cells #[.string ⟨#[63]⟩, .string ⟨#[105, 115, 115, 117, 101, 100]⟩, .string ⟨#[115, 101, 110, 116]⟩, .string ⟨#[115, 116, 97, 114, 116, 101, 100]⟩, .string ⟨#[119, 111, 114, 107, 101, 100]⟩, .string ⟨#[115, 116, 111, 112, 112, 101, 100]⟩, .string ⟨#[114, 101, 112, 108, 105, 101, 100]⟩, .string ⟨#[101, 110, 100, 101, 100]⟩, .string ⟨#[99, 97, 110, 99, 101, 108, 108, 101, 100]⟩, .string ⟨#[99, 114, 97, 115, 104, 101, 100]⟩, .string ⟨#[112, 117, 115, 104, 101, 100]⟩, .string ⟨#[99, 111, 109, 109, 105, 116, 116, 101, 100]⟩] 9) := by
  go_enter Tryd.func109, Tryd.ntmps109
  go_wp2
  go_ret
  exact ⟨rfl, rfl⟩
set_option maxRecDepth 100000 in
set_option maxHeartbeats 4000000 in
theorem evName_c (k : Int) (w : World) : Calls Tryd.prog 94 #[.int .i64 k] w fun r w' => r = .returned (strV (T.evName k)) ∧ Below w.heap.size w w' := by
  rcases g1 : decide (k < 1) with _ | _
  · rcases g2 : decide (k > 11) with _ | _
    · have h1 : 1 ≤ k := by simpa using g1
      have h2 : k ≤ 11 := by simpa using g2
      clear g1 g2
      obtain rfl | rfl | rfl | rfl | rfl | rfl | rfl | rfl | rfl | rfl | rfl : k = 1 ∨ k = 2 ∨ k = 3 ∨ k = 4 ∨ k = 5 ∨ k = 6 ∨ k = 7 ∨ k = 8 ∨ k = 9 ∨ k = 10 ∨ k = 11 := by omega
      all_goals
        clear h1 h2
        go_enter Tryd.func94, Tryd.ntmps94
        go_wp2_with (go_at_call 109; (with_reducible refine (evNames_c _).mono ?_); rintro e w1 ⟨rfl, rfl⟩)
        go_ret
        exact ⟨rfl, (Below.refl _ _).alloc (Nat.le_refl _) _⟩
    · have h2 : 11 < k := by simpa using g2
      go_enter Tryd.func94, Tryd.ntmps94
      go_wp2
      go_ret
      refine ⟨by rw [T.evName, if_pos (.inr h2)]; rfl, ?_⟩
      first | exact Below.refl _ _ | exact (Below.refl _ _).alloc (Nat.le_refl _) _
  · have h1 : k < 1 := by simpa using g1
    go_enter Tryd.func94, Tryd.ntmps94
    go_wp2
    go_ret
    refine ⟨by rw [T.evName, if_pos (.inl h1)]; rfl, ?_⟩
    first | exact Below.refl _ _ | exact (Below.refl _ _).alloc (Nat.le_refl _) _
set_option maxRecDepth 100000 in
set_option maxHeartbeats 4000000 in
theorem refEvName_c (k : Int) (w : World) : Calls Tryd.prog 67 #[.int .i64 k] w fun r w' => r = .returned (strV (T.evName k)) ∧ Below w.heap.size w w' := by
  rcases g1 : decide (k < 1) with _ | _
  · rcases g2 : decide (k > 11) with _ | _
    · have h1 : 1 ≤ k := by simpa using g1
      have h2 : k ≤ 11 := by simpa using g2
      clear g1 g2
      obtain rfl | rfl | rfl | rfl | rfl | rfl | rfl | rfl | rfl | rfl | rfl : k = 1 ∨ k = 2 ∨ k = 3 ∨ k = 4 ∨ k = 5 ∨ k = 6 ∨ k = 7 ∨ k = 8 ∨ k = 9 ∨ k = 10 ∨ k = 11 := by omega
      all_goals
        clear h1 h2
        go_enter Tryd.func67, Tryd.ntmps67
        go_wp2_with (go_at_call 109; (with_reducible refine (evNames_c _).mono ?_); rintro e w1 ⟨rfl, rfl⟩)
        go_ret
        exact ⟨rfl, (Below.refl _ _).alloc (Nat.le_refl _) _⟩
    · have h2 : 11 < k := by simpa using g2
      go_enter Tryd.func67, Tryd.ntmps67
      go_wp2
      go_ret
      refine ⟨by rw [T.evName, if_pos (.inr h2)]; rfl, ?_⟩
      first | exact Below.refl _ _ | exact (Below.refl _ _).alloc (Nat.le_refl _) _
  · have h1 : k < 1 := by simpa using g1
    go_enter Tryd.func67, Tryd.ntmps67
    go_wp2
    go_ret
    refine ⟨by rw [T.evName, if_pos (.inl h1)]; rfl, ?_⟩
    first | exact Below.refl _ _ | exact (Below.refl _ _).alloc (Nat.le_refl _) _
end Go.Proofs.YtcncmbcnekekdaaDoor
