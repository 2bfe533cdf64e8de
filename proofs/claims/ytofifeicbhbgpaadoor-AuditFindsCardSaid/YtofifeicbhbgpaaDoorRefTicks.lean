/- Contracts of the document's own ticks: the same plain functions. -/
import Derived.Test.YtofifeicbhbgpaaDoorTicks
namespace Go.Proofs.YtofifeicbhbgpaaDoor
open Go.RowKit

set_option maxHeartbeats 400000 in
theorem rclamp_c (a : Int) (w : World) :
    Calls Tryd.prog 70 #[.int .i64 a] w fun e w' => e = .returned (.int .i64 (T.clamp a)) ∧ w = w' := by
  go_enter Tryd.func70, Tryd.ntmps70
  go_wp2
  all_goals go_ret
  all_goals exact ⟨ret_int (by unfold T.clamp; split <;> (try split) <;> omega), rfl⟩
set_option maxHeartbeats 400000 in
theorem radd_c (a b : Int) (w : World) :
    Calls Tryd.prog 69 #[.int .i64 a, .int .i64 b] w fun e w' => e = .returned (.int .i64 (T.add a b)) ∧ w = w' := by
  have h1 := T.clamp_bd a
  have h2 := T.clamp_bd b
  have hE : T.add a b = if 1125899906842624 < T.clamp a + T.clamp b then 1125899906842624 else T.clamp a + T.clamp b := by
    unfold T.add
    have hx : 0 ≤ T.clamp a + T.clamp b := by omega
    generalize T.clamp a + T.clamp b = x at *
    unfold T.clamp; split <;> (try split) <;> omega
  have HE := Lib.hid hE
  clear hE
  go_enter Tryd.func69, Tryd.ntmps69
  go_wp2_with (go_at_call 70; (with_reducible refine (rclamp_c _ _).mono ?_); rintro e w' ⟨rfl, rfl⟩)
  all_goals go_ret
  all_goals exact ⟨ret_int (by rw [HE.out]; split <;> omega), rfl⟩
set_option maxHeartbeats 400000 in
theorem rsub_c (a b : Int) (w : World) :
    Calls Tryd.prog 72 #[.int .i64 a, .int .i64 b] w fun e w' => e = .returned (.int .i64 (T.sub a b)) ∧ w = w' := by
  have h1 := T.clamp_bd a
  have h2 := T.clamp_bd b
  go_enter Tryd.func72, Tryd.ntmps72
  go_wp2_with (go_at_call 70; (with_reducible refine (rclamp_c _ _).mono ?_); rintro e w' ⟨rfl, rfl⟩)
  all_goals go_ret
  all_goals exact ⟨ret_int (by unfold T.sub; split <;> omega), rfl⟩

end Go.Proofs.YtofifeicbhbgpaaDoor
