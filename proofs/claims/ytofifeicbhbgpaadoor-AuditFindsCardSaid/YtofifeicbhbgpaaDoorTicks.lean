/- Contracts of ticks, and of what the documents' own ticks do: whole numbers only. -/
import Derived.Test.YtofifeicbhbgpaaDoorTypes
namespace Go.Proofs.YtofifeicbhbgpaaDoor
open Go.RowKit

def T.clamp (n : Int) : Int := if n < 0 then 0 else if 1125899906842624 < n then 1125899906842624 else n
theorem T.clamp_bd (n : Int) : 0 ≤ T.clamp n ∧ T.clamp n ≤ 1125899906842624 := by unfold T.clamp; split <;> (try split) <;> omega

set_option maxHeartbeats 400000 in
theorem clamp_c (a : Int) (w : World) :
    Calls Tryd.prog 58 #[.int .i64 a] w fun e w' => e = .returned (.int .i64 (T.clamp a)) ∧ w = w' := by
  by_cases h0 : a < 0
  · go_enter Tryd.func58, Tryd.ntmps58
    go_wp2
    go_ret
    exact ⟨ret_int (by unfold T.clamp; split <;> (try split) <;> omega), rfl⟩
  · by_cases h1 : 1125899906842624 < a
    · go_enter Tryd.func58, Tryd.ntmps58
      go_wp2
      go_ret
      exact ⟨ret_int (by unfold T.clamp; split <;> (try split) <;> omega), rfl⟩
    · go_enter Tryd.func58, Tryd.ntmps58
      go_wp2
      go_ret
      exact ⟨ret_int (by unfold T.clamp; split <;> (try split) <;> omega), rfl⟩

def T.sub (a b : Int) : Int := if T.clamp a - T.clamp b < 0 then 0 else T.clamp a - T.clamp b
def T.add (a b : Int) : Int := T.clamp (T.clamp a + T.clamp b)
set_option maxHeartbeats 400000 in
theorem add_c (a b : Int) (w : World) :
    Calls Tryd.prog 62 #[.int .i64 a, .int .i64 b] w fun e w' => e = .returned (.int .i64 (T.add a b)) ∧ w = w' := by
  have h1 := T.clamp_bd a
  have h2 := T.clamp_bd b
  go_enter Tryd.func62, Tryd.ntmps62
  go_wp2_with (go_at_call 58; (with_reducible refine (clamp_c _ _).mono ?_); rintro e w' ⟨rfl, rfl⟩)
  go_ret
  exact ⟨rfl, rfl⟩
def T.mul (a b : Int) : Int := if 0 < T.clamp b ∧ 1125899906842624 / T.clamp b < T.clamp a then 1125899906842624 else T.clamp a * T.clamp b
theorem T.mul_bd (a b : Int) : 0 ≤ T.mul a b ∧ T.mul a b ≤ 1125899906842624 := by
  have h1 := T.clamp_bd a
  have h2 := T.clamp_bd b
  unfold T.mul
  split
  · omega
  · rename_i h
    refine ⟨Int.mul_nonneg h1.1 h2.1, ?_⟩
    by_cases hb : 0 < T.clamp b
    · have h3 : T.clamp a ≤ 1125899906842624 / T.clamp b := by
        have := (not_and.mp h) hb; omega
      exact (Int.le_ediv_iff_mul_le hb).1 h3
    · have : T.clamp b = 0 := by omega
      rw [this]; simp
end Go.Proofs.YtofifeicbhbgpaaDoor
