/- Contracts of budget: deadlines. -/
import Derived.Test.YtmaegopojhmafaaTimeout
namespace Go.Proofs.Ytmaegopojhmafaa
open Go.RowKit

def T.deadline (stamp : Int) (s : List UInt8) : Int × Int := if (T.decode s).2 = 0 then (T.add stamp (T.decode s).1, 0) else (0, (T.decode s).2)
set_option maxHeartbeats 400000 in
theorem deadline_c (a : Int) (s : ByteArray) (w : World) :
    Calls Try.prog 53 #[.int .i64 a, .string s] w fun e w' => e = .returned (.tuple #[.int .i64 (T.deadline a s.data.toList).1, .int .i64 (T.deadline a s.data.toList).2]) ∧ w = w' := by
  by_cases h : (T.decode s.data.toList).2 = 0
  · have hd : T.deadline a s.data.toList = (T.add a (T.decode s.data.toList).1, 0) := by unfold T.deadline; rw [if_pos h]
    have hb : ((T.decode s.data.toList).2 != 0) = false := by rw [h]; rfl
    have HD := Lib.hid hd
    clear hd h
    go_enter Try.func53, Try.ntmps53
    go_wp2_with (first | (go_at_call 66; (with_reducible refine (decode_c _ _).mono ?_); rintro e w' ⟨rfl, rfl⟩) | (go_at_call 67; (with_reducible refine (add_c _ _ _).mono ?_); rintro e w' ⟨rfl, rfl⟩))
    go_ret2
    exact ⟨ret_ii HD.out, rfl⟩
  · have hd : T.deadline a s.data.toList = (0, (T.decode s.data.toList).2) := by unfold T.deadline; rw [if_neg h]
    have hb : ((T.decode s.data.toList).2 != 0) = true := by rw [bne_iff_ne]; exact h
    have HD := Lib.hid hd
    clear hd h
    go_enter Try.func53, Try.ntmps53
    go_wp2_with (first | (go_at_call 66; (with_reducible refine (decode_c _ _).mono ?_); rintro e w' ⟨rfl, rfl⟩) | (go_at_call 67; (with_reducible refine (add_c _ _ _).mono ?_); rintro e w' ⟨rfl, rfl⟩))
    go_ret2
    exact ⟨ret_ii HD.out, rfl⟩
set_option maxHeartbeats 400000 in
theorem left_c (a b : Int) (w : World) :
    Calls Try.prog 65 #[.int .i64 a, .int .i64 b] w fun e w' => e = .returned (.int .i64 (T.sub a b)) ∧ w = w' := by
  go_enter Try.func65, Try.ntmps65
  go_wp2_with (go_at_call 75; (with_reducible refine (sub_c _ _ _).mono ?_); rintro e w' ⟨rfl, rfl⟩)
  go_ret
  exact ⟨rfl, rfl⟩
def T.enough (d now least : Int) : Bool := decide (0 < T.sub d now) && decide (T.clamp least ≤ T.sub d now)
set_option maxHeartbeats 400000 in
theorem enough_c (d now least : Int) (w : World) :
    Calls Try.prog 51 #[.int .i64 d, .int .i64 now, .int .i64 least] w fun e w' => e = .returned (.bool (T.enough d now least)) ∧ w = w' := by
  by_cases h : 0 < T.sub d now
  · go_enter Try.func51, Try.ntmps51
    go_wp2_with (first | (go_at_call 65; (with_reducible refine (left_c _ _ _).mono ?_); rintro e w' ⟨rfl, rfl⟩) | (go_at_call 52; (with_reducible refine (clamp_c _ _).mono ?_); rintro e w' ⟨rfl, rfl⟩))
    go_ret
    exact ⟨ret_bool (by simp [T.enough, h]), rfl⟩
  · go_enter Try.func51, Try.ntmps51
    go_wp2_with (first | (go_at_call 65; (with_reducible refine (left_c _ _ _).mono ?_); rintro e w' ⟨rfl, rfl⟩) | (go_at_call 52; (with_reducible refine (clamp_c _ _).mono ?_); rintro e w' ⟨rfl, rfl⟩))
    go_ret
    exact ⟨ret_bool (by simp [T.enough]; omega), rfl⟩
end Go.Proofs.Ytmaegopojhmafaa
