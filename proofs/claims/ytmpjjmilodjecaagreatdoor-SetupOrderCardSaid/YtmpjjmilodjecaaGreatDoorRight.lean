/- Contracts of admit.Right and of the document's: whether a configuration may be. -/
import Derived.Test.YtmpjjmilodjecaaGreatDoorBase
import Derived.Test.YtmpjjmilodjecaaGreatDoorTypes
import Derived.LoopN
namespace Go.Proofs.YtmpjjmilodjecaaGreatDoor
open Go.RowKit
attribute [local go_sem] Config.sz Config.at0 Config.at1 Config.at2 Config.at3 Config.at4 Config.at5 Config.at6 Config.at7 Config.at8 Config.at9 Config.at10 Config.at11 Config.at12

def T.right (c : Config) (n : Nat) : Bool :=
  decide (1 ≤ c.nodes ∧ c.nodes ≤ 64 ∧ 0 ≤ c.skew ∧ c.skew ≤ 1000 ∧ 0 ≤ c.grain ∧ c.grain ≤ 6 ∧ 1 ≤ c.hops ∧ c.hops ≤ 16 ∧ 1 ≤ c.cap ∧ c.cap ≤ 64 ∧ 1 ≤ c.fan ∧ c.fan ≤ 8 ∧
    1 ≤ c.attempts ∧ c.attempts ≤ 5 ∧ 1 ≤ c.tokens ∧ c.tokens ≤ 1000 ∧ 1 ≤ n ∧ n ≤ 16 ∧ 1 ≤ c.lease ∧ c.lease ≤ 1000000 ∧ 1 ≤ c.least ∧ c.least ≤ 1000000 ∧ 1 ≤ c.base ∧ c.base ≤ 1000000 ∧
    1 ≤ c.most ∧ c.most ≤ 1000000 ∧ 1 ≤ c.wait ∧ c.wait ≤ 1000000 ∧ c.base ≤ c.most)

set_option maxHeartbeats 2000000 in
set_option maxRecDepth 100000 in
theorem right_c (c : Config) (A : Option Addr) (n cap : Nat) (hp : c.progs = .slice A n cap) (w : World) :
    Calls Tryz.prog 72 #[.agg (Config.arr c)] w fun e w' => e = .returned (.bool (T.right c n)) ∧ Below w.heap.size w w' := by
  have h13 : (Config.arr c)[13]? = some (.slice A n cap) := by rw [← hp]; rfl
  have HB := Lib.hid ((Below.refl w.heap.size w).alloc (Nat.le_refl _) (.cells (Config.arr c) 29))
  have HF := Lib.hid (fun h : ¬ (1 ≤ c.nodes ∧ c.nodes ≤ 64 ∧ 0 ≤ c.skew ∧ c.skew ≤ 1000 ∧ 0 ≤ c.grain ∧ c.grain ≤ 6 ∧ 1 ≤ c.hops ∧ c.hops ≤ 16 ∧ 1 ≤ c.cap ∧ c.cap ≤ 64 ∧ 1 ≤ c.fan ∧ c.fan ≤ 8 ∧
    1 ≤ c.attempts ∧ c.attempts ≤ 5 ∧ 1 ≤ c.tokens ∧ c.tokens ≤ 1000 ∧ 1 ≤ n ∧ n ≤ 16) => show T.right c n = false from decide_eq_false (by omega))
  clear hp
  go_enter Tryz.func72, Tryz.ntmps72
  go_wp2
  all_goals try (go_ret; exact ⟨ret_bool (HF.out (by omega)).symm, HB.out⟩)
  have HB2 := Lib.hid (HB.out.alloc (by simp) (.cells #[.int .i64 c.lease, .int .i64 c.least, .int .i64 c.base, .int .i64 c.most, .int .i64 c.wait] 3))
  refine wp_loop_rounds 6 ?_
  iterate 6
    rw [rounds_succ]
    go_wp2
    all_goals try (go_ret; exact ⟨ret_bool (show _ = T.right c n from (decide_eq_false (by omega)).symm), HB2.out⟩)
  go_ret
  exact ⟨ret_bool (show _ = T.right c n by unfold T.right; rw [decide_eq_decide]; omega), HB2.out⟩

def T.inn (x a b : Int) : Bool := decide (a ≤ x) && decide (x ≤ b)
set_option maxHeartbeats 400000 in
theorem rin_c (x a b : Int) (w : World) :
    Calls Tryz.prog 145 #[.int .i64 x, .int .i64 a, .int .i64 b] w fun e w' => e = .returned (.bool (T.inn x a b)) ∧ w = w' := by
  by_cases h : a ≤ x
  · go_enter Tryz.func145, Tryz.ntmps145
    go_wp2
    go_ret
    exact ⟨ret_bool (by simp [T.inn, h]), rfl⟩
  · go_enter Tryz.func145, Tryz.ntmps145
    go_wp2
    go_ret
    exact ⟨ret_bool (by simp [T.inn]; omega), rfl⟩
theorem T.right_inn (c : Config) (n : Nat) : T.right c n = (T.inn c.nodes 1 64 && T.inn c.skew 0 1000 && T.inn c.grain 0 6 && T.inn c.hops 1 16 && T.inn c.cap 1 64 && T.inn c.fan 1 8 && T.inn c.attempts 1 5 && T.inn c.tokens 1 1000 && T.inn n 1 16 &&
    T.inn c.lease 1 1000000 && T.inn c.least 1 1000000 && T.inn c.base 1 1000000 && T.inn c.most 1 1000000 && T.inn c.wait 1 1000000 && decide (c.base ≤ c.most)) := by
  rw [Bool.eq_iff_iff]
  simp only [T.right, T.inn, decide_eq_true_eq, Bool.and_eq_true]
  omega
set_option maxHeartbeats 4000000 in
set_option maxRecDepth 100000 in
theorem rright_c (c : Config) (A : Option Addr) (n cap : Nat) (hp : c.progs = .slice A n cap) (w : World) :
    Calls Tryz.prog 78 #[.agg (Config.arr c)] w fun e w' => e = .returned (.bool (T.right c n)) ∧ Below w.heap.size w w' := by
  have h13 : (Config.arr c)[13]? = some (.slice A n cap) := by rw [← hp]; rfl
  have HB := Lib.hid ((Below.refl w.heap.size w).alloc (Nat.le_refl _) (.cells (Config.arr c) 29))
  have HR := Lib.hid (T.right_inn c n)
  clear hp
  go_enter Tryz.func78, Tryz.ntmps78
  go_wp2_with (go_at_call 145; (with_reducible refine (rin_c _ _ _ _).mono ?_); rintro e w' ⟨rfl, rfl⟩)
  all_goals go_ret
  all_goals refine ⟨ret_bool ?_, HB.out⟩
  all_goals rw [HR.out]
  all_goals simp_all
end Go.Proofs.YtmpjjmilodjecaaGreatDoor
