/- Steps of programs that may be: the program's, the document's. Printed by wip/gen_pop.py (our own). -/
import Derived.Test.YtmpjjmilodjecaaGreatDoorPCode
namespace Go.Proofs.YtmpjjmilodjecaaGreatDoor
open Go.RowKit Go.Shelf
set_option linter.unusedVariables false
set_option linter.unusedSimpArgs false
def T.opOk (o : GoOp) (n m : Int) : Bool :=
  if o.kind = 1 then decide (o.b = 0 ∧ 1 ≤ o.a ∧ o.a ≤ 1000)
  else if o.kind = 2 then decide (0 ≤ o.a ∧ o.a < n ∧ 0 ≤ o.b ∧ o.b < m)
  else if o.kind = 3 then decide (o.a = 0 ∧ o.b = 0)
  else if o.kind = 4 then decide (o.a = 0 ∧ o.b = 0)
  else if o.kind = 5 then decide (o.b = 0 ∧ 0 ≤ o.a ∧ o.a < 2147483648)
  else if o.kind = 6 then decide (o.b = 0 ∧ 1 ≤ o.a ∧ o.a < 17)
  else if o.kind = 7 then decide (o.b = 0 ∧ -1 ≤ o.a ∧ o.a ≤ 1000000)
  else false
attribute [local go_sem] GoOp.sz
set_option maxRecDepth 100000 in
set_option maxHeartbeats 8000000 in
theorem op1_c (a b n m : Int) (w : World) : Calls Tryz.prog 59 #[.agg (GoOp.arr ⟨1, a, b⟩), .int .i64 n, .int .i64 m] w fun r w' => r = .returned (.bool (T.opOk ⟨1, a, b⟩ n m)) ∧ Below w.heap.size w w' := by
  obtain ⟨W0, hW0⟩ : ∃ W0, W0 = w.alloc (Obj.cells (GoOp.arr ⟨1, a, b⟩) 110) := ⟨_, rfl⟩
  have hB0 : Below w.heap.size w W0 := by rw [hW0]; exact (Below.refl _ w).alloc (Nat.le_refl _) _
  have rS : rowAt W0 w.heap.size 0 3 = some (GoOp.arr ⟨1, a, b⟩) := by rw [hW0]; exact rowAt_new _ _ _ _ _ rfl
  obtain ⟨c0, c1, c2⟩ := opCells rS
  have HW := Lib.hid hW0
  have HD := Lib.hid (show T.opOk ⟨1, a, b⟩ n m = decide (b = 0 ∧ 1 ≤ a ∧ a ≤ 1000) from rfl)
  have hct := counts_c 1 W0
  rw [show T.pcount 1 = 1 from rfl] at hct
  clear hW0 rS
  rcases f0 : (b != 0) with _ | _ <;> rcases f1 : decide (1 ≤ a) with _ | _ <;> rcases f2 : decide (a ≤ 1000) with _ | _
  all_goals
    (first | have g1 := of_decide_eq_true f1 | have g1 := of_decide_eq_false f1)
    (first | have g2 := of_decide_eq_true f2 | have g2 := of_decide_eq_false f2)
  all_goals try (exfalso; omega)
  all_goals
    go_enter Tryz.func59, Tryz.ntmps59
    go_upto_region 1 with (fail)
    rw [← HW.out]
    go_wp2_with (first | (go_at_call 68; (with_reducible refine hct.mono ?_); rintro r w1 ⟨rfl, hw1⟩; rw [hw1]; clear hw1))
    all_goals
      go_ret
      simp only [bne_iff_ne, bne_eq_false_iff_eq, beq_iff_eq, beq_eq_false_iff_ne, decide_eq_true_eq, decide_eq_false_iff_not] at *
      exact ⟨ret_bool (by rw [HD.out]; first | exact (decide_eq_true (by omega)).symm | exact (decide_eq_false (by omega)).symm), hB0⟩
set_option maxRecDepth 100000 in
set_option maxHeartbeats 8000000 in
theorem op2_c (a b n m : Int) (w : World) : Calls Tryz.prog 59 #[.agg (GoOp.arr ⟨2, a, b⟩), .int .i64 n, .int .i64 m] w fun r w' => r = .returned (.bool (T.opOk ⟨2, a, b⟩ n m)) ∧ Below w.heap.size w w' := by
  obtain ⟨W0, hW0⟩ : ∃ W0, W0 = w.alloc (Obj.cells (GoOp.arr ⟨2, a, b⟩) 110) := ⟨_, rfl⟩
  have hB0 : Below w.heap.size w W0 := by rw [hW0]; exact (Below.refl _ w).alloc (Nat.le_refl _) _
  have rS : rowAt W0 w.heap.size 0 3 = some (GoOp.arr ⟨2, a, b⟩) := by rw [hW0]; exact rowAt_new _ _ _ _ _ rfl
  obtain ⟨c0, c1, c2⟩ := opCells rS
  have HW := Lib.hid hW0
  have HD := Lib.hid (show T.opOk ⟨2, a, b⟩ n m = decide (0 ≤ a ∧ a < n ∧ 0 ≤ b ∧ b < m) from rfl)
  have hct := counts_c 2 W0
  rw [show T.pcount 2 = 2 from rfl] at hct
  clear hW0 rS
  rcases f0 : decide (0 ≤ a) with _ | _ <;> rcases f1 : decide (a < n) with _ | _ <;> rcases f2 : decide (0 ≤ b) with _ | _ <;> rcases f3 : decide (b < m) with _ | _
  all_goals
    (first | have g0 := of_decide_eq_true f0 | have g0 := of_decide_eq_false f0)
    (first | have g1 := of_decide_eq_true f1 | have g1 := of_decide_eq_false f1)
    (first | have g2 := of_decide_eq_true f2 | have g2 := of_decide_eq_false f2)
    (first | have g3 := of_decide_eq_true f3 | have g3 := of_decide_eq_false f3)
  all_goals try (exfalso; omega)
  all_goals
    go_enter Tryz.func59, Tryz.ntmps59
    go_upto_region 1 with (fail)
    rw [← HW.out]
    go_wp2_with (first | (go_at_call 68; (with_reducible refine hct.mono ?_); rintro r w1 ⟨rfl, hw1⟩; rw [hw1]; clear hw1))
    all_goals
      go_ret
      simp only [bne_iff_ne, bne_eq_false_iff_eq, beq_iff_eq, beq_eq_false_iff_ne, decide_eq_true_eq, decide_eq_false_iff_not] at *
      exact ⟨ret_bool (by rw [HD.out]; first | exact (decide_eq_true (by omega)).symm | exact (decide_eq_false (by omega)).symm), hB0⟩
set_option maxRecDepth 100000 in
set_option maxHeartbeats 8000000 in
theorem op3_c (a b n m : Int) (w : World) : Calls Tryz.prog 59 #[.agg (GoOp.arr ⟨3, a, b⟩), .int .i64 n, .int .i64 m] w fun r w' => r = .returned (.bool (T.opOk ⟨3, a, b⟩ n m)) ∧ Below w.heap.size w w' := by
  obtain ⟨W0, hW0⟩ : ∃ W0, W0 = w.alloc (Obj.cells (GoOp.arr ⟨3, a, b⟩) 110) := ⟨_, rfl⟩
  have hB0 : Below w.heap.size w W0 := by rw [hW0]; exact (Below.refl _ w).alloc (Nat.le_refl _) _
  have rS : rowAt W0 w.heap.size 0 3 = some (GoOp.arr ⟨3, a, b⟩) := by rw [hW0]; exact rowAt_new _ _ _ _ _ rfl
  obtain ⟨c0, c1, c2⟩ := opCells rS
  have HW := Lib.hid hW0
  have HD := Lib.hid (show T.opOk ⟨3, a, b⟩ n m = decide (a = 0 ∧ b = 0) from rfl)
  have hct := counts_c 3 W0
  rw [show T.pcount 3 = 0 from rfl] at hct
  clear hW0 rS
  rcases f0 : (b != 0) with _ | _ <;> rcases f1 : (a != 0) with _ | _
  all_goals
    go_enter Tryz.func59, Tryz.ntmps59
    go_upto_region 1 with (fail)
    rw [← HW.out]
    go_wp2_with (first | (go_at_call 68; (with_reducible refine hct.mono ?_); rintro r w1 ⟨rfl, hw1⟩; rw [hw1]; clear hw1))
    all_goals
      go_ret
      simp only [bne_iff_ne, bne_eq_false_iff_eq, beq_iff_eq, beq_eq_false_iff_ne, decide_eq_true_eq, decide_eq_false_iff_not] at *
      exact ⟨ret_bool (by rw [HD.out]; first | exact (decide_eq_true (by omega)).symm | exact (decide_eq_false (by omega)).symm), hB0⟩
set_option maxRecDepth 100000 in
set_option maxHeartbeats 8000000 in
theorem op4_c (a b n m : Int) (w : World) : Calls Tryz.prog 59 #[.agg (GoOp.arr ⟨4, a, b⟩), .int .i64 n, .int .i64 m] w fun r w' => r = .returned (.bool (T.opOk ⟨4, a, b⟩ n m)) ∧ Below w.heap.size w w' := by
  obtain ⟨W0, hW0⟩ : ∃ W0, W0 = w.alloc (Obj.cells (GoOp.arr ⟨4, a, b⟩) 110) := ⟨_, rfl⟩
  have hB0 : Below w.heap.size w W0 := by rw [hW0]; exact (Below.refl _ w).alloc (Nat.le_refl _) _
  have rS : rowAt W0 w.heap.size 0 3 = some (GoOp.arr ⟨4, a, b⟩) := by rw [hW0]; exact rowAt_new _ _ _ _ _ rfl
  obtain ⟨c0, c1, c2⟩ := opCells rS
  have HW := Lib.hid hW0
  have HD := Lib.hid (show T.opOk ⟨4, a, b⟩ n m = decide (a = 0 ∧ b = 0) from rfl)
  have hct := counts_c 4 W0
  rw [show T.pcount 4 = 0 from rfl] at hct
  clear hW0 rS
  rcases f0 : (b != 0) with _ | _ <;> rcases f1 : (a != 0) with _ | _
  all_goals
    go_enter Tryz.func59, Tryz.ntmps59
    go_upto_region 1 with (fail)
    rw [← HW.out]
    go_wp2_with (first | (go_at_call 68; (with_reducible refine hct.mono ?_); rintro r w1 ⟨rfl, hw1⟩; rw [hw1]; clear hw1))
    all_goals
      go_ret
      simp only [bne_iff_ne, bne_eq_false_iff_eq, beq_iff_eq, beq_eq_false_iff_ne, decide_eq_true_eq, decide_eq_false_iff_not] at *
      exact ⟨ret_bool (by rw [HD.out]; first | exact (decide_eq_true (by omega)).symm | exact (decide_eq_false (by omega)).symm), hB0⟩
set_option maxRecDepth 100000 in
set_option maxHeartbeats 8000000 in
theorem op5_c (a b n m : Int) (w : World) : Calls Tryz.prog 59 #[.agg (GoOp.arr ⟨5, a, b⟩), .int .i64 n, .int .i64 m] w fun r w' => r = .returned (.bool (T.opOk ⟨5, a, b⟩ n m)) ∧ Below w.heap.size w w' := by
  obtain ⟨W0, hW0⟩ : ∃ W0, W0 = w.alloc (Obj.cells (GoOp.arr ⟨5, a, b⟩) 110) := ⟨_, rfl⟩
  have hB0 : Below w.heap.size w W0 := by rw [hW0]; exact (Below.refl _ w).alloc (Nat.le_refl _) _
  have rS : rowAt W0 w.heap.size 0 3 = some (GoOp.arr ⟨5, a, b⟩) := by rw [hW0]; exact rowAt_new _ _ _ _ _ rfl
  obtain ⟨c0, c1, c2⟩ := opCells rS
  have HW := Lib.hid hW0
  have HD := Lib.hid (show T.opOk ⟨5, a, b⟩ n m = decide (b = 0 ∧ 0 ≤ a ∧ a < 2147483648) from rfl)
  have hct := counts_c 5 W0
  rw [show T.pcount 5 = 1 from rfl] at hct
  clear hW0 rS
  rcases f0 : (b != 0) with _ | _ <;> rcases f1 : decide (0 ≤ a) with _ | _ <;> rcases f2 : decide (a < 2147483648) with _ | _
  all_goals
    (first | have g1 := of_decide_eq_true f1 | have g1 := of_decide_eq_false f1)
    (first | have g2 := of_decide_eq_true f2 | have g2 := of_decide_eq_false f2)
  all_goals try (exfalso; omega)
  all_goals
    go_enter Tryz.func59, Tryz.ntmps59
    go_upto_region 1 with (fail)
    rw [← HW.out]
    go_wp2_with (first | (go_at_call 68; (with_reducible refine hct.mono ?_); rintro r w1 ⟨rfl, hw1⟩; rw [hw1]; clear hw1))
    all_goals
      go_ret
      simp only [bne_iff_ne, bne_eq_false_iff_eq, beq_iff_eq, beq_eq_false_iff_ne, decide_eq_true_eq, decide_eq_false_iff_not] at *
      exact ⟨ret_bool (by rw [HD.out]; first | exact (decide_eq_true (by omega)).symm | exact (decide_eq_false (by omega)).symm), hB0⟩
set_option maxRecDepth 100000 in
set_option maxHeartbeats 8000000 in
theorem op6_c (a b n m : Int) (w : World) : Calls Tryz.prog 59 #[.agg (GoOp.arr ⟨6, a, b⟩), .int .i64 n, .int .i64 m] w fun r w' => r = .returned (.bool (T.opOk ⟨6, a, b⟩ n m)) ∧ Below w.heap.size w w' := by
  obtain ⟨W0, hW0⟩ : ∃ W0, W0 = w.alloc (Obj.cells (GoOp.arr ⟨6, a, b⟩) 110) := ⟨_, rfl⟩
  have hB0 : Below w.heap.size w W0 := by rw [hW0]; exact (Below.refl _ w).alloc (Nat.le_refl _) _
  have rS : rowAt W0 w.heap.size 0 3 = some (GoOp.arr ⟨6, a, b⟩) := by rw [hW0]; exact rowAt_new _ _ _ _ _ rfl
  obtain ⟨c0, c1, c2⟩ := opCells rS
  have HW := Lib.hid hW0
  have HD := Lib.hid (show T.opOk ⟨6, a, b⟩ n m = decide (b = 0 ∧ 1 ≤ a ∧ a < 17) from rfl)
  have hct := counts_c 6 W0
  rw [show T.pcount 6 = 1 from rfl] at hct
  clear hW0 rS
  have hcr := codeRight_c a W0
  rcases f0 : (b != 0) with _ | _ <;> rcases f1 : decide (1 ≤ a) with _ | _ <;> rcases f2 : decide (0 ≤ a) with _ | _ <;> rcases f3 : decide (a < 17) with _ | _
  all_goals
    (first | have g1 := of_decide_eq_true f1 | have g1 := of_decide_eq_false f1)
    (first | have g2 := of_decide_eq_true f2 | have g2 := of_decide_eq_false f2)
    (first | have g3 := of_decide_eq_true f3 | have g3 := of_decide_eq_false f3)
  all_goals try (exfalso; omega)
  all_goals
    (first | (rw [show decide (0 ≤ a ∧ a < 17) = true from decide_eq_true (by omega)] at hcr) | rw [show decide (0 ≤ a ∧ a < 17) = false from decide_eq_false (by omega)] at hcr)
    have fz : (a != 0) = true ∨ (a != 0) = false := by cases (a != 0) <;> simp
    rcases fz with fz | fz
  all_goals
    go_enter Tryz.func59, Tryz.ntmps59
    go_upto_region 1 with (fail)
    rw [← HW.out]
    go_wp2_with (first | (go_at_call 68; (with_reducible refine hct.mono ?_); rintro r w1 ⟨rfl, hw1⟩; rw [hw1]; clear hw1) | (go_at_call 127; (with_reducible refine hcr.mono ?_); rintro r w2 ⟨rfl, hb2⟩; have hB0 := bthen hB0 hb2))
    all_goals
      go_ret
      simp only [bne_iff_ne, bne_eq_false_iff_eq, beq_iff_eq, beq_eq_false_iff_ne, decide_eq_true_eq, decide_eq_false_iff_not] at *
      exact ⟨ret_bool (by rw [HD.out]; first | exact (decide_eq_true (by omega)).symm | exact (decide_eq_false (by omega)).symm), hB0⟩
set_option maxRecDepth 100000 in
set_option maxHeartbeats 8000000 in
theorem op7_c (a b n m : Int) (w : World) : Calls Tryz.prog 59 #[.agg (GoOp.arr ⟨7, a, b⟩), .int .i64 n, .int .i64 m] w fun r w' => r = .returned (.bool (T.opOk ⟨7, a, b⟩ n m)) ∧ Below w.heap.size w w' := by
  obtain ⟨W0, hW0⟩ : ∃ W0, W0 = w.alloc (Obj.cells (GoOp.arr ⟨7, a, b⟩) 110) := ⟨_, rfl⟩
  have hB0 : Below w.heap.size w W0 := by rw [hW0]; exact (Below.refl _ w).alloc (Nat.le_refl _) _
  have rS : rowAt W0 w.heap.size 0 3 = some (GoOp.arr ⟨7, a, b⟩) := by rw [hW0]; exact rowAt_new _ _ _ _ _ rfl
  obtain ⟨c0, c1, c2⟩ := opCells rS
  have HW := Lib.hid hW0
  have HD := Lib.hid (show T.opOk ⟨7, a, b⟩ n m = decide (b = 0 ∧ -1 ≤ a ∧ a ≤ 1000000) from rfl)
  have hct := counts_c 7 W0
  rw [show T.pcount 7 = 1 from rfl] at hct
  clear hW0 rS
  rcases f0 : (b != 0) with _ | _ <;> rcases f1 : decide (-1 ≤ a) with _ | _ <;> rcases f2 : decide (a ≤ 1000000) with _ | _
  all_goals
    (first | have g1 := of_decide_eq_true f1 | have g1 := of_decide_eq_false f1)
    (first | have g2 := of_decide_eq_true f2 | have g2 := of_decide_eq_false f2)
  all_goals try (exfalso; omega)
  all_goals
    go_enter Tryz.func59, Tryz.ntmps59
    go_upto_region 1 with (fail)
    rw [← HW.out]
    go_wp2_with (first | (go_at_call 68; (with_reducible refine hct.mono ?_); rintro r w1 ⟨rfl, hw1⟩; rw [hw1]; clear hw1))
    all_goals
      go_ret
      simp only [bne_iff_ne, bne_eq_false_iff_eq, beq_iff_eq, beq_eq_false_iff_ne, decide_eq_true_eq, decide_eq_false_iff_not] at *
      exact ⟨ret_bool (by rw [HD.out]; first | exact (decide_eq_true (by omega)).symm | exact (decide_eq_false (by omega)).symm), hB0⟩
set_option maxRecDepth 100000 in
set_option maxHeartbeats 8000000 in
theorem op0_c (k a b n m : Int) (hk : k < 1 ∨ 7 < k) (w : World) : Calls Tryz.prog 59 #[.agg (GoOp.arr ⟨k, a, b⟩), .int .i64 n, .int .i64 m] w fun r w' => r = .returned (.bool (T.opOk ⟨k, a, b⟩ n m)) ∧ Below w.heap.size w w' := by
  obtain ⟨W0, hW0⟩ : ∃ W0, W0 = w.alloc (Obj.cells (GoOp.arr ⟨k, a, b⟩) 110) := ⟨_, rfl⟩
  have hB0 : Below w.heap.size w W0 := by rw [hW0]; exact (Below.refl _ w).alloc (Nat.le_refl _) _
  have rS : rowAt W0 w.heap.size 0 3 = some (GoOp.arr ⟨k, a, b⟩) := by rw [hW0]; exact rowAt_new _ _ _ _ _ rfl
  obtain ⟨c0, c1, c2⟩ := opCells rS
  have HW := Lib.hid hW0
  have HD := Lib.hid (show T.opOk ⟨k, a, b⟩ n m = false by simp only [T.opOk]; rw [if_neg (by omega), if_neg (by omega), if_neg (by omega), if_neg (by omega), if_neg (by omega), if_neg (by omega), if_neg (by omega)])
  have e1 : (k == 1) = false := by rw [beq_eq_false_iff_ne]; omega
  have e2 : (k == 2) = false := by rw [beq_eq_false_iff_ne]; omega
  have e3 : (k == 3) = false := by rw [beq_eq_false_iff_ne]; omega
  have e4 : (k == 4) = false := by rw [beq_eq_false_iff_ne]; omega
  have e5 : (k == 5) = false := by rw [beq_eq_false_iff_ne]; omega
  have e6 : (k == 6) = false := by rw [beq_eq_false_iff_ne]; omega
  have e7 : (k == 7) = false := by rw [beq_eq_false_iff_ne]; omega
  have e8 : (k != 2) = true := by rw [bne_iff_ne]; omega
  clear hk
  have hct := counts_c k W0
  rw [T.pcount_none k (by simpa using e1) (by simpa using e2) (by simpa using e5) (by simpa using e6) (by simpa using e7)] at hct
  clear hW0 rS
  rcases f0 : (b != 0) with _ | _ <;> rcases f1 : (a != 0) with _ | _
  all_goals
    go_enter Tryz.func59, Tryz.ntmps59
    go_upto_region 1 with (fail)
    rw [← HW.out]
    go_wp2_with (first | (go_at_call 68; (with_reducible refine hct.mono ?_); rintro r w1 ⟨rfl, hw1⟩; rw [hw1]; clear hw1))
    all_goals
      go_ret
      exact ⟨ret_bool (by rw [HD.out] <;> rfl), hB0⟩
set_option maxRecDepth 100000 in
set_option maxHeartbeats 8000000 in
theorem rop1_c (a b n m : Int) (w : World) : Calls Tryz.prog 223 #[.agg (GoOp.arr ⟨1, a, b⟩), .int .i64 n, .int .i64 m] w fun r w' => r = .returned (.bool (T.opOk ⟨1, a, b⟩ n m)) ∧ Below w.heap.size w w' := by
  obtain ⟨W0, hW0⟩ : ∃ W0, W0 = w.alloc (Obj.cells (GoOp.arr ⟨1, a, b⟩) 110) := ⟨_, rfl⟩
  have hB0 : Below w.heap.size w W0 := by rw [hW0]; exact (Below.refl _ w).alloc (Nat.le_refl _) _
  have rS : rowAt W0 w.heap.size 0 3 = some (GoOp.arr ⟨1, a, b⟩) := by rw [hW0]; exact rowAt_new _ _ _ _ _ rfl
  obtain ⟨c0, c1, c2⟩ := opCells rS
  have HW := Lib.hid hW0
  have HD := Lib.hid (show T.opOk ⟨1, a, b⟩ n m = decide (b = 0 ∧ 1 ≤ a ∧ a ≤ 1000) from rfl)
  clear hW0 rS
  rcases f0 : (b != 0) with _ | _ <;> rcases f1 : decide (1 ≤ a) with _ | _ <;> rcases f2 : decide (a ≤ 1000) with _ | _
  all_goals
    (first | have g1 := of_decide_eq_true f1 | have g1 := of_decide_eq_false f1)
    (first | have g2 := of_decide_eq_true f2 | have g2 := of_decide_eq_false f2)
  all_goals try (exfalso; omega)
  all_goals
    go_enter Tryz.func223, Tryz.ntmps223
    go_upto_region 1 with (fail)
    rw [← HW.out]
    go_wp2_with (fail)
    all_goals
      go_ret
      simp only [bne_iff_ne, bne_eq_false_iff_eq, beq_iff_eq, beq_eq_false_iff_ne, decide_eq_true_eq, decide_eq_false_iff_not] at *
      exact ⟨ret_bool (by rw [HD.out]; first | exact (decide_eq_true (by omega)).symm | exact (decide_eq_false (by omega)).symm), hB0⟩
set_option maxRecDepth 100000 in
set_option maxHeartbeats 8000000 in
theorem rop2_c (a b n m : Int) (w : World) : Calls Tryz.prog 223 #[.agg (GoOp.arr ⟨2, a, b⟩), .int .i64 n, .int .i64 m] w fun r w' => r = .returned (.bool (T.opOk ⟨2, a, b⟩ n m)) ∧ Below w.heap.size w w' := by
  obtain ⟨W0, hW0⟩ : ∃ W0, W0 = w.alloc (Obj.cells (GoOp.arr ⟨2, a, b⟩) 110) := ⟨_, rfl⟩
  have hB0 : Below w.heap.size w W0 := by rw [hW0]; exact (Below.refl _ w).alloc (Nat.le_refl _) _
  have rS : rowAt W0 w.heap.size 0 3 = some (GoOp.arr ⟨2, a, b⟩) := by rw [hW0]; exact rowAt_new _ _ _ _ _ rfl
  obtain ⟨c0, c1, c2⟩ := opCells rS
  have HW := Lib.hid hW0
  have HD := Lib.hid (show T.opOk ⟨2, a, b⟩ n m = decide (0 ≤ a ∧ a < n ∧ 0 ≤ b ∧ b < m) from rfl)
  clear hW0 rS
  rcases f0 : decide (0 ≤ a) with _ | _ <;> rcases f1 : decide (a < n) with _ | _ <;> rcases f2 : decide (0 ≤ b) with _ | _ <;> rcases f3 : decide (b < m) with _ | _
  all_goals
    (first | have g0 := of_decide_eq_true f0 | have g0 := of_decide_eq_false f0)
    (first | have g1 := of_decide_eq_true f1 | have g1 := of_decide_eq_false f1)
    (first | have g2 := of_decide_eq_true f2 | have g2 := of_decide_eq_false f2)
    (first | have g3 := of_decide_eq_true f3 | have g3 := of_decide_eq_false f3)
  all_goals try (exfalso; omega)
  all_goals
    go_enter Tryz.func223, Tryz.ntmps223
    go_upto_region 1 with (fail)
    rw [← HW.out]
    go_wp2_with (fail)
    all_goals
      go_ret
      simp only [bne_iff_ne, bne_eq_false_iff_eq, beq_iff_eq, beq_eq_false_iff_ne, decide_eq_true_eq, decide_eq_false_iff_not] at *
      exact ⟨ret_bool (by rw [HD.out]; first | exact (decide_eq_true (by omega)).symm | exact (decide_eq_false (by omega)).symm), hB0⟩
set_option maxRecDepth 100000 in
set_option maxHeartbeats 8000000 in
theorem rop3_c (a b n m : Int) (w : World) : Calls Tryz.prog 223 #[.agg (GoOp.arr ⟨3, a, b⟩), .int .i64 n, .int .i64 m] w fun r w' => r = .returned (.bool (T.opOk ⟨3, a, b⟩ n m)) ∧ Below w.heap.size w w' := by
  obtain ⟨W0, hW0⟩ : ∃ W0, W0 = w.alloc (Obj.cells (GoOp.arr ⟨3, a, b⟩) 110) := ⟨_, rfl⟩
  have hB0 : Below w.heap.size w W0 := by rw [hW0]; exact (Below.refl _ w).alloc (Nat.le_refl _) _
  have rS : rowAt W0 w.heap.size 0 3 = some (GoOp.arr ⟨3, a, b⟩) := by rw [hW0]; exact rowAt_new _ _ _ _ _ rfl
  obtain ⟨c0, c1, c2⟩ := opCells rS
  have HW := Lib.hid hW0
  have HD := Lib.hid (show T.opOk ⟨3, a, b⟩ n m = decide (a = 0 ∧ b = 0) from rfl)
  clear hW0 rS
  rcases f0 : (b != 0) with _ | _ <;> rcases f1 : (a == 0) with _ | _
  all_goals
    go_enter Tryz.func223, Tryz.ntmps223
    go_upto_region 1 with (fail)
    rw [← HW.out]
    go_wp2_with (fail)
    all_goals
      go_ret
      simp only [bne_iff_ne, bne_eq_false_iff_eq, beq_iff_eq, beq_eq_false_iff_ne, decide_eq_true_eq, decide_eq_false_iff_not] at *
      exact ⟨ret_bool (by rw [HD.out]; first | exact (decide_eq_true (by omega)).symm | exact (decide_eq_false (by omega)).symm), hB0⟩
set_option maxRecDepth 100000 in
set_option maxHeartbeats 8000000 in
theorem rop4_c (a b n m : Int) (w : World) : Calls Tryz.prog 223 #[.agg (GoOp.arr ⟨4, a, b⟩), .int .i64 n, .int .i64 m] w fun r w' => r = .returned (.bool (T.opOk ⟨4, a, b⟩ n m)) ∧ Below w.heap.size w w' := by
  obtain ⟨W0, hW0⟩ : ∃ W0, W0 = w.alloc (Obj.cells (GoOp.arr ⟨4, a, b⟩) 110) := ⟨_, rfl⟩
  have hB0 : Below w.heap.size w W0 := by rw [hW0]; exact (Below.refl _ w).alloc (Nat.le_refl _) _
  have rS : rowAt W0 w.heap.size 0 3 = some (GoOp.arr ⟨4, a, b⟩) := by rw [hW0]; exact rowAt_new _ _ _ _ _ rfl
  obtain ⟨c0, c1, c2⟩ := opCells rS
  have HW := Lib.hid hW0
  have HD := Lib.hid (show T.opOk ⟨4, a, b⟩ n m = decide (a = 0 ∧ b = 0) from rfl)
  clear hW0 rS
  rcases f0 : (b != 0) with _ | _ <;> rcases f1 : (a == 0) with _ | _
  all_goals
    go_enter Tryz.func223, Tryz.ntmps223
    go_upto_region 1 with (fail)
    rw [← HW.out]
    go_wp2_with (fail)
    all_goals
      go_ret
      simp only [bne_iff_ne, bne_eq_false_iff_eq, beq_iff_eq, beq_eq_false_iff_ne, decide_eq_true_eq, decide_eq_false_iff_not] at *
      exact ⟨ret_bool (by rw [HD.out]; first | exact (decide_eq_true (by omega)).symm | exact (decide_eq_false (by omega)).symm), hB0⟩
set_option maxRecDepth 100000 in
set_option maxHeartbeats 8000000 in
theorem rop5_c (a b n m : Int) (w : World) : Calls Tryz.prog 223 #[.agg (GoOp.arr ⟨5, a, b⟩), .int .i64 n, .int .i64 m] w fun r w' => r = .returned (.bool (T.opOk ⟨5, a, b⟩ n m)) ∧ Below w.heap.size w w' := by
  obtain ⟨W0, hW0⟩ : ∃ W0, W0 = w.alloc (Obj.cells (GoOp.arr ⟨5, a, b⟩) 110) := ⟨_, rfl⟩
  have hB0 : Below w.heap.size w W0 := by rw [hW0]; exact (Below.refl _ w).alloc (Nat.le_refl _) _
  have rS : rowAt W0 w.heap.size 0 3 = some (GoOp.arr ⟨5, a, b⟩) := by rw [hW0]; exact rowAt_new _ _ _ _ _ rfl
  obtain ⟨c0, c1, c2⟩ := opCells rS
  have HW := Lib.hid hW0
  have HD := Lib.hid (show T.opOk ⟨5, a, b⟩ n m = decide (b = 0 ∧ 0 ≤ a ∧ a < 2147483648) from rfl)
  clear hW0 rS
  rcases f0 : (b != 0) with _ | _ <;> rcases f1 : decide (0 ≤ a) with _ | _ <;> rcases f2 : decide (a ≤ 2147483647) with _ | _
  all_goals
    (first | have g1 := of_decide_eq_true f1 | have g1 := of_decide_eq_false f1)
    (first | have g2 := of_decide_eq_true f2 | have g2 := of_decide_eq_false f2)
  all_goals try (exfalso; omega)
  all_goals
    go_enter Tryz.func223, Tryz.ntmps223
    go_upto_region 1 with (fail)
    rw [← HW.out]
    go_wp2_with (fail)
    all_goals
      go_ret
      simp only [bne_iff_ne, bne_eq_false_iff_eq, beq_iff_eq, beq_eq_false_iff_ne, decide_eq_true_eq, decide_eq_false_iff_not] at *
      exact ⟨ret_bool (by rw [HD.out]; first | exact (decide_eq_true (by omega)).symm | exact (decide_eq_false (by omega)).symm), hB0⟩
set_option maxRecDepth 100000 in
set_option maxHeartbeats 8000000 in
theorem rop6_c (a b n m : Int) (w : World) : Calls Tryz.prog 223 #[.agg (GoOp.arr ⟨6, a, b⟩), .int .i64 n, .int .i64 m] w fun r w' => r = .returned (.bool (T.opOk ⟨6, a, b⟩ n m)) ∧ Below w.heap.size w w' := by
  obtain ⟨W0, hW0⟩ : ∃ W0, W0 = w.alloc (Obj.cells (GoOp.arr ⟨6, a, b⟩) 110) := ⟨_, rfl⟩
  have hB0 : Below w.heap.size w W0 := by rw [hW0]; exact (Below.refl _ w).alloc (Nat.le_refl _) _
  have rS : rowAt W0 w.heap.size 0 3 = some (GoOp.arr ⟨6, a, b⟩) := by rw [hW0]; exact rowAt_new _ _ _ _ _ rfl
  obtain ⟨c0, c1, c2⟩ := opCells rS
  have HW := Lib.hid hW0
  have HD := Lib.hid (show T.opOk ⟨6, a, b⟩ n m = decide (b = 0 ∧ 1 ≤ a ∧ a < 17) from rfl)
  clear hW0 rS
  rcases f0 : (b != 0) with _ | _ <;> rcases f1 : decide (1 ≤ a) with _ | _ <;> rcases f2 : decide (a ≤ 16) with _ | _
  all_goals
    (first | have g1 := of_decide_eq_true f1 | have g1 := of_decide_eq_false f1)
    (first | have g2 := of_decide_eq_true f2 | have g2 := of_decide_eq_false f2)
  all_goals try (exfalso; omega)
  all_goals
    go_enter Tryz.func223, Tryz.ntmps223
    go_upto_region 1 with (fail)
    rw [← HW.out]
    go_wp2_with (fail)
    all_goals
      go_ret
      simp only [bne_iff_ne, bne_eq_false_iff_eq, beq_iff_eq, beq_eq_false_iff_ne, decide_eq_true_eq, decide_eq_false_iff_not] at *
      exact ⟨ret_bool (by rw [HD.out]; first | exact (decide_eq_true (by omega)).symm | exact (decide_eq_false (by omega)).symm), hB0⟩
set_option maxRecDepth 100000 in
set_option maxHeartbeats 8000000 in
theorem rop7_c (a b n m : Int) (w : World) : Calls Tryz.prog 223 #[.agg (GoOp.arr ⟨7, a, b⟩), .int .i64 n, .int .i64 m] w fun r w' => r = .returned (.bool (T.opOk ⟨7, a, b⟩ n m)) ∧ Below w.heap.size w w' := by
  obtain ⟨W0, hW0⟩ : ∃ W0, W0 = w.alloc (Obj.cells (GoOp.arr ⟨7, a, b⟩) 110) := ⟨_, rfl⟩
  have hB0 : Below w.heap.size w W0 := by rw [hW0]; exact (Below.refl _ w).alloc (Nat.le_refl _) _
  have rS : rowAt W0 w.heap.size 0 3 = some (GoOp.arr ⟨7, a, b⟩) := by rw [hW0]; exact rowAt_new _ _ _ _ _ rfl
  obtain ⟨c0, c1, c2⟩ := opCells rS
  have HW := Lib.hid hW0
  have HD := Lib.hid (show T.opOk ⟨7, a, b⟩ n m = decide (b = 0 ∧ -1 ≤ a ∧ a ≤ 1000000) from rfl)
  clear hW0 rS
  rcases f0 : (b != 0) with _ | _ <;> rcases f1 : decide (-1 ≤ a) with _ | _ <;> rcases f2 : decide (a ≤ 1000000) with _ | _
  all_goals
    (first | have g1 := of_decide_eq_true f1 | have g1 := of_decide_eq_false f1)
    (first | have g2 := of_decide_eq_true f2 | have g2 := of_decide_eq_false f2)
  all_goals try (exfalso; omega)
  all_goals
    go_enter Tryz.func223, Tryz.ntmps223
    go_upto_region 1 with (fail)
    rw [← HW.out]
    go_wp2_with (fail)
    all_goals
      go_ret
      simp only [bne_iff_ne, bne_eq_false_iff_eq, beq_iff_eq, beq_eq_false_iff_ne, decide_eq_true_eq, decide_eq_false_iff_not] at *
      exact ⟨ret_bool (by rw [HD.out]; first | exact (decide_eq_true (by omega)).symm | exact (decide_eq_false (by omega)).symm), hB0⟩
set_option maxRecDepth 100000 in
set_option maxHeartbeats 8000000 in
theorem rop0_c (k a b n m : Int) (hk : k < 1 ∨ 7 < k) (w : World) : Calls Tryz.prog 223 #[.agg (GoOp.arr ⟨k, a, b⟩), .int .i64 n, .int .i64 m] w fun r w' => r = .returned (.bool (T.opOk ⟨k, a, b⟩ n m)) ∧ Below w.heap.size w w' := by
  obtain ⟨W0, hW0⟩ : ∃ W0, W0 = w.alloc (Obj.cells (GoOp.arr ⟨k, a, b⟩) 110) := ⟨_, rfl⟩
  have hB0 : Below w.heap.size w W0 := by rw [hW0]; exact (Below.refl _ w).alloc (Nat.le_refl _) _
  have rS : rowAt W0 w.heap.size 0 3 = some (GoOp.arr ⟨k, a, b⟩) := by rw [hW0]; exact rowAt_new _ _ _ _ _ rfl
  obtain ⟨c0, c1, c2⟩ := opCells rS
  have HW := Lib.hid hW0
  have HD := Lib.hid (show T.opOk ⟨k, a, b⟩ n m = false by simp only [T.opOk]; rw [if_neg (by omega), if_neg (by omega), if_neg (by omega), if_neg (by omega), if_neg (by omega), if_neg (by omega), if_neg (by omega)])
  have e1 : (k == 1) = false := by rw [beq_eq_false_iff_ne]; omega
  have e2 : (k == 2) = false := by rw [beq_eq_false_iff_ne]; omega
  have e3 : (k == 3) = false := by rw [beq_eq_false_iff_ne]; omega
  have e4 : (k == 4) = false := by rw [beq_eq_false_iff_ne]; omega
  have e5 : (k == 5) = false := by rw [beq_eq_false_iff_ne]; omega
  have e6 : (k == 6) = false := by rw [beq_eq_false_iff_ne]; omega
  have e7 : (k == 7) = false := by rw [beq_eq_false_iff_ne]; omega
  have e8 : (k != 2) = true := by rw [bne_iff_ne]; omega
  clear hk
  clear hW0 rS
  rcases f0 : (b != 0) with _ | _ <;> rcases f1 : (a != 0) with _ | _
  all_goals
    go_enter Tryz.func223, Tryz.ntmps223
    go_upto_region 1 with (fail)
    rw [← HW.out]
    go_wp2_with (fail)
    all_goals
      go_ret
      exact ⟨ret_bool (by rw [HD.out] <;> rfl), hB0⟩
theorem op_c (o : GoOp) (n m : Int) (w : World) : Calls Tryz.prog 59 #[.agg (GoOp.arr o), .int .i64 n, .int .i64 m] w fun r w' => r = .returned (.bool (T.opOk o n m)) ∧ Below w.heap.size w w' := by
  obtain ⟨k, a, b⟩ := o
  by_cases hk : k < 1 ∨ 7 < k
  · exact op0_c k a b n m hk w
  · obtain rfl | rfl | rfl | rfl | rfl | rfl | rfl : k = 1 ∨ k = 2 ∨ k = 3 ∨ k = 4 ∨ k = 5 ∨ k = 6 ∨ k = 7 := by omega
    · exact op1_c a b n m w
    · exact op2_c a b n m w
    · exact op3_c a b n m w
    · exact op4_c a b n m w
    · exact op5_c a b n m w
    · exact op6_c a b n m w
    · exact op7_c a b n m w
theorem rop_c (o : GoOp) (n m : Int) (w : World) : Calls Tryz.prog 223 #[.agg (GoOp.arr o), .int .i64 n, .int .i64 m] w fun r w' => r = .returned (.bool (T.opOk o n m)) ∧ Below w.heap.size w w' := by
  obtain ⟨k, a, b⟩ := o
  by_cases hk : k < 1 ∨ 7 < k
  · exact rop0_c k a b n m hk w
  · obtain rfl | rfl | rfl | rfl | rfl | rfl | rfl : k = 1 ∨ k = 2 ∨ k = 3 ∨ k = 4 ∨ k = 5 ∨ k = 6 ∨ k = 7 := by omega
    · exact rop1_c a b n m w
    · exact rop2_c a b n m w
    · exact rop3_c a b n m w
    · exact rop4_c a b n m w
    · exact rop5_c a b n m w
    · exact rop6_c a b n m w
    · exact rop7_c a b n m w
end Go.Proofs.YtmpjjmilodjecaaGreatDoor
