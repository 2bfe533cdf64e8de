/- Contracts of ticks, and of what the documents' own ticks do: whole numbers only. -/
import Derived.Test.YtmaegopojhmafaaTypes
namespace Go.Proofs.Ytmaegopojhmafaa
open Go.RowKit

def T.clamp (n : Int) : Int := if n < 0 then 0 else if 1125899906842624 < n then 1125899906842624 else n
theorem T.clamp_bd (n : Int) : 0 ≤ T.clamp n ∧ T.clamp n ≤ 1125899906842624 := by unfold T.clamp; split <;> (try split) <;> omega

set_option maxHeartbeats 400000 in
theorem clamp_c (a : Int) (w : World) :
    Calls Try.prog 52 #[.int .i64 a] w fun e w' => e = .returned (.int .i64 (T.clamp a)) ∧ w = w' := by
  by_cases h0 : a < 0
  · go_enter Try.func52, Try.ntmps52
    go_wp2
    go_ret
    exact ⟨ret_int (by unfold T.clamp; split <;> (try split) <;> omega), rfl⟩
  · by_cases h1 : 1125899906842624 < a
    · go_enter Try.func52, Try.ntmps52
      go_wp2
      go_ret
      exact ⟨ret_int (by unfold T.clamp; split <;> (try split) <;> omega), rfl⟩
    · go_enter Try.func52, Try.ntmps52
      go_wp2
      go_ret
      exact ⟨ret_int (by unfold T.clamp; split <;> (try split) <;> omega), rfl⟩

def T.sub (a b : Int) : Int := if T.clamp a - T.clamp b < 0 then 0 else T.clamp a - T.clamp b
set_option maxHeartbeats 400000 in
theorem sub_c (a b : Int) (w : World) :
    Calls Try.prog 75 #[.int .i64 a, .int .i64 b] w fun e w' => e = .returned (.int .i64 (T.sub a b)) ∧ w = w' := by
  have h1 := T.clamp_bd a
  have h2 := T.clamp_bd b
  go_enter Try.func75, Try.ntmps75
  go_wp2_with (go_at_call 52; (with_reducible refine (clamp_c _ _).mono ?_); rintro e w' ⟨rfl, rfl⟩)
  all_goals go_ret
  · exact ⟨ret_int (by unfold T.sub; rw [if_pos (by assumption)]), rfl⟩
  · exact ⟨ret_int (by unfold T.sub; rw [if_neg (by omega)]), rfl⟩
def T.add (a b : Int) : Int := T.clamp (T.clamp a + T.clamp b)
set_option maxHeartbeats 400000 in
theorem add_c (a b : Int) (w : World) :
    Calls Try.prog 67 #[.int .i64 a, .int .i64 b] w fun e w' => e = .returned (.int .i64 (T.add a b)) ∧ w = w' := by
  have h1 := T.clamp_bd a
  have h2 := T.clamp_bd b
  go_enter Try.func67, Try.ntmps67
  go_wp2_with (go_at_call 52; (with_reducible refine (clamp_c _ _).mono ?_); rintro e w' ⟨rfl, rfl⟩)
  go_ret
  exact ⟨rfl, rfl⟩
def T.mul (a b : Int) : Int := if 0 < T.clamp b ∧ 1125899906842624 / T.clamp b < T.clamp a then 1125899906842624 else T.clamp a * T.clamp b
theorem T.mul_bd (a b : Int) : 0 ≤ T.mul a b ∧ T.mul a b ≤ 1125899906842624 := by
  have h1 := T.clamp_bd a
  have h2 := T.clamp_bd b
  unfold T.mul
  split
  · omega
  · rename_i h
    refine ⟨Int.mul_nonneg h1.1 h2.1, ?_⟩
    by_cases hb : 0 < T.clamp b
    · have h3 : T.clamp a ≤ 1125899906842624 / T.clamp b := by
        have := (not_and.mp h) hb; omega
      exact (Int.le_ediv_iff_mul_le hb).1 h3
    · have : T.clamp b = 0 := by omega
      rw [this]; simp
set_option maxHeartbeats 400000 in
theorem mul_c (a b : Int) (w : World) :
    Calls Try.prog 77 #[.int .i64 a, .int .i64 b] w fun e w' => e = .returned (.int .i64 (T.mul a b)) ∧ w = w' := by
  have h1 := T.clamp_bd a
  have h2 := T.clamp_bd b
  have h3 := T.mul_bd a b
  have hm : ¬ (0 < T.clamp b ∧ 1125899906842624 / T.clamp b < T.clamp a) → wrap64 (T.clamp a * T.clamp b) = T.mul a b := by
    intro h
    have e : T.mul a b = T.clamp a * T.clamp b := by unfold T.mul; rw [if_neg h]
    rw [e] at h3
    rw [e]; unfold wrap64; omega
  have HM := Lib.hid hm
  clear hm h3
  go_enter Try.func77, Try.ntmps77
  go_wp2_with (go_at_call 52; (with_reducible refine (clamp_c _ _).mono ?_); rintro e w' ⟨rfl, rfl⟩)
  all_goals go_ret
  · exact ⟨ret_int (by unfold T.mul; rw [if_pos ⟨by assumption, by assumption⟩]), rfl⟩
  · exact ⟨ret_int (HM.out (by omega)), rfl⟩
  · exact ⟨ret_int (HM.out (by omega)), rfl⟩
end Go.Proofs.Ytmaegopojhmafaa
