/- program.Op at each kind; Right; All. -/
import Derived.Test.YtofifeicbhbgpaaSteps
namespace Go.Proofs.Ytofifeicbhbgpaa
open Go.RowKit
set_option linter.unusedVariables false
set_option linter.unusedSimpArgs false
attribute [local go_sem] GoOp.sz GoOp.at0 GoOp.at1 GoOp.at2 Config.sz Config.at0 Config.at13

theorem op_k1 (a : Int) (n m : Int) (w : World) : Calls Try.prog 53 #[.agg (GoOp.arr ⟨1, a, 0⟩), .int .i64 n, .int .i64 m] w fun e w' => e = .returned (.bool (T.opOk ⟨1, a, 0⟩ n m)) ∧ Below w.heap.size w w' := by
  have hcc := fun W => counts_c 1 W
  rw [show T.cnt 1 = 1 by decide] at hcc
  by_cases h : 1≤a
  · have hr := Lib.hid (show T.opOk ⟨1, a, 0⟩ n m = decide (a≤1000) by simp [T.opOk, h])
    have h' : decide (1≤a) = true := by simpa using h
    go_enter Try.func53, Try.ntmps53
    go_wp2_with (go_at_call 59; (with_reducible refine (hcc _).mono ?_); rintro e w' ⟨rfl, rfl⟩)
    go_ret
    exact ⟨ret_bool hr.out.symm, (Below.refl _ _).alloc (Nat.le_refl _) _⟩
  · have hr := Lib.hid (show T.opOk ⟨1, a, 0⟩ n m = false by simp [T.opOk, h])
    have h' : decide (1≤a) = false := by simpa using h
    go_enter Try.func53, Try.ntmps53
    go_wp2_with (go_at_call 59; (with_reducible refine (hcc _).mono ?_); rintro e w' ⟨rfl, rfl⟩)
    go_ret
    exact ⟨ret_bool hr.out.symm, (Below.refl _ _).alloc (Nat.le_refl _) _⟩
theorem op_k5 (a : Int) (n m : Int) (w : World) : Calls Try.prog 53 #[.agg (GoOp.arr ⟨5, a, 0⟩), .int .i64 n, .int .i64 m] w fun e w' => e = .returned (.bool (T.opOk ⟨5, a, 0⟩ n m)) ∧ Below w.heap.size w w' := by
  have hcc := fun W => counts_c 5 W
  rw [show T.cnt 5 = 1 by decide] at hcc
  by_cases h : 0≤a
  · have hr := Lib.hid (show T.opOk ⟨5, a, 0⟩ n m = decide (a<2147483648) by simp [T.opOk, h])
    have h' : decide (0≤a) = true := by simpa using h
    go_enter Try.func53, Try.ntmps53
    go_wp2_with (go_at_call 59; (with_reducible refine (hcc _).mono ?_); rintro e w' ⟨rfl, rfl⟩)
    go_ret
    exact ⟨ret_bool hr.out.symm, (Below.refl _ _).alloc (Nat.le_refl _) _⟩
  · have hr := Lib.hid (show T.opOk ⟨5, a, 0⟩ n m = false by simp [T.opOk, h])
    have h' : decide (0≤a) = false := by simpa using h
    go_enter Try.func53, Try.ntmps53
    go_wp2_with (go_at_call 59; (with_reducible refine (hcc _).mono ?_); rintro e w' ⟨rfl, rfl⟩)
    go_ret
    exact ⟨ret_bool hr.out.symm, (Below.refl _ _).alloc (Nat.le_refl _) _⟩
theorem op_k7 (a : Int) (n m : Int) (w : World) : Calls Try.prog 53 #[.agg (GoOp.arr ⟨7, a, 0⟩), .int .i64 n, .int .i64 m] w fun e w' => e = .returned (.bool (T.opOk ⟨7, a, 0⟩ n m)) ∧ Below w.heap.size w w' := by
  have hcc := fun W => counts_c 7 W
  rw [show T.cnt 7 = 1 by decide] at hcc
  by_cases h : -1≤a
  · have hr := Lib.hid (show T.opOk ⟨7, a, 0⟩ n m = decide (a≤1000000) by simp [T.opOk, h])
    have h' : decide (-1≤a) = true := by simpa using h
    go_enter Try.func53, Try.ntmps53
    go_wp2_with (go_at_call 59; (with_reducible refine (hcc _).mono ?_); rintro e w' ⟨rfl, rfl⟩)
    go_ret
    exact ⟨ret_bool hr.out.symm, (Below.refl _ _).alloc (Nat.le_refl _) _⟩
  · have hr := Lib.hid (show T.opOk ⟨7, a, 0⟩ n m = false by simp [T.opOk, h])
    have h' : decide (-1≤a) = false := by simpa using h
    go_enter Try.func53, Try.ntmps53
    go_wp2_with (go_at_call 59; (with_reducible refine (hcc _).mono ?_); rintro e w' ⟨rfl, rfl⟩)
    go_ret
    exact ⟨ret_bool hr.out.symm, (Below.refl _ _).alloc (Nat.le_refl _) _⟩
theorem op_k6 (a : Int) (n m : Int) (w : World) : Calls Try.prog 53 #[.agg (GoOp.arr ⟨6, a, 0⟩), .int .i64 n, .int .i64 m] w fun e w' => e = .returned (.bool (T.opOk ⟨6, a, 0⟩ n m)) ∧ Below w.heap.size w w' := by
  have hcc := fun W => counts_c 6 W
  rw [show T.cnt 6 = 1 by decide] at hcc
  by_cases h : a = 0
  · have hr := Lib.hid (show T.opOk ⟨6, a, 0⟩ n m = false by simp [T.opOk, h])
    have h' : (a != 0) = false := by simpa using h
    clear h
    go_enter Try.func53, Try.ntmps53
    go_wp2_with (go_at_call 59; (with_reducible refine (hcc _).mono ?_); rintro e w' ⟨rfl, rfl⟩)
    go_ret
    exact ⟨ret_bool hr.out.symm, (Below.refl _ _).alloc (Nat.le_refl _) _⟩
  · have hr := Lib.hid (show T.opOk ⟨6, a, 0⟩ n m = T.codeB a by simp [T.opOk, h])
    have h' : (a != 0) = true := by simpa using h
    go_enter Try.func53, Try.ntmps53
    go_wp2_with (first | (go_at_call 59; (with_reducible refine (hcc _).mono ?_); rintro e w' ⟨rfl, rfl⟩) | (go_at_call 60; (with_reducible refine (codeRight_c _ _).mono ?_); rintro e w1 ⟨rfl, hb1⟩))
    go_ret
    exact ⟨ret_bool hr.out.symm, ((Below.refl _ _).alloc (Nat.le_refl _) _).trans (hb1.mono (by simp))⟩
theorem op_k2 (a b : Int) (n m : Int) (w : World) : Calls Try.prog 53 #[.agg (GoOp.arr ⟨2, a, b⟩), .int .i64 n, .int .i64 m] w fun e w' => e = .returned (.bool (T.opOk ⟨2, a, b⟩ n m)) ∧ Below w.heap.size w w' := by
  have hcc := fun W => counts_c 2 W
  rw [show T.cnt 2 = 2 by decide] at hcc
  by_cases h1 : 0 ≤ a
  case neg =>
    have hr := Lib.hid (show T.opOk ⟨2, a, b⟩ n m = false by simp [T.opOk, h1])
    have h' : decide (0 ≤ a) = false := by simpa using h1
    go_enter Try.func53, Try.ntmps53
    go_wp2_with (go_at_call 59; (with_reducible refine (hcc _).mono ?_); rintro e w' ⟨rfl, rfl⟩)
    go_ret
    exact ⟨ret_bool hr.out.symm, (Below.refl _ _).alloc (Nat.le_refl _) _⟩
  by_cases h2 : a < n
  case neg =>
    have hr := Lib.hid (show T.opOk ⟨2, a, b⟩ n m = false by simp [T.opOk, h1, h2])
    have h1' : decide (0 ≤ a) = true := by simpa using h1
    have h' : decide (a < n) = false := by simpa using h2
    go_enter Try.func53, Try.ntmps53
    go_wp2_with (go_at_call 59; (with_reducible refine (hcc _).mono ?_); rintro e w' ⟨rfl, rfl⟩)
    go_ret
    exact ⟨ret_bool hr.out.symm, (Below.refl _ _).alloc (Nat.le_refl _) _⟩
  have h1' : decide (0 ≤ a) = true := by simpa using h1
  have h2' : decide (a < n) = true := by simpa using h2
  by_cases h3 : 0 ≤ b
  case neg =>
    have hr := Lib.hid (show T.opOk ⟨2, a, b⟩ n m = false by simp [T.opOk, h1, h2, h3])
    have h' : decide (0 ≤ b) = false := by simpa using h3
    go_enter Try.func53, Try.ntmps53
    go_wp2_with (go_at_call 59; (with_reducible refine (hcc _).mono ?_); rintro e w' ⟨rfl, rfl⟩)
    go_ret
    exact ⟨ret_bool hr.out.symm, (Below.refl _ _).alloc (Nat.le_refl _) _⟩
  have hr := Lib.hid (show T.opOk ⟨2, a, b⟩ n m = decide (b < m) by simp [T.opOk, h1, h2, h3])
  have h3' : decide (0 ≤ b) = true := by simpa using h3
  go_enter Try.func53, Try.ntmps53
  go_wp2_with (go_at_call 59; (with_reducible refine (hcc _).mono ?_); rintro e w' ⟨rfl, rfl⟩)
  go_ret
  exact ⟨ret_bool hr.out.symm, (Below.refl _ _).alloc (Nat.le_refl _) _⟩
/-- A kind without numbers, or none. -/
theorem op_rest (o : GoOp) (n m : Int) (w : World) (h1 : o.kind ≠ 1) (h2 : o.kind ≠ 2) (h5 : o.kind ≠ 5) (h6 : o.kind ≠ 6) (h7 : o.kind ≠ 7) (hb : o.b = 0) : Calls Try.prog 53 #[.agg (GoOp.arr o), .int .i64 n, .int .i64 m] w fun e w' => e = .returned (.bool (T.opOk o n m)) ∧ Below w.heap.size w w' := by
  have hcc := fun W => counts_c o.kind W
  rw [show T.cnt o.kind = 0 by rw [T.cnt, if_neg (by omega), if_neg h2]] at hcc
  have e1 : (o.kind == 1) = false := by simpa using h1
  have e2 : (o.kind == 2) = false := by simpa using h2
  have e5 : (o.kind == 5) = false := by simpa using h5
  have e6 : (o.kind == 6) = false := by simpa using h6
  have e7 : (o.kind == 7) = false := by simpa using h7
  have hb' : (o.b != 0) = false := by simpa using hb
  by_cases ha : o.a = 0
  case neg =>
    have hr := Lib.hid (show T.opOk o n m = false by simp [T.opOk, h1, h2, h5, h6, h7, hb, ha])
    have ha' : (o.a != 0) = true := by simpa using ha
    clear h1 h2 h5 h6 h7 hb ha
    go_enter Try.func53, Try.ntmps53
    go_wp2_with (go_at_call 59; (with_reducible refine (hcc _).mono ?_); rintro e w' ⟨rfl, rfl⟩)
    go_ret
    exact ⟨ret_bool hr.out.symm, (Below.refl _ _).alloc (Nat.le_refl _) _⟩
  have ha' : (o.a != 0) = false := by simpa using ha
  by_cases h3 : o.kind = 3
  · have hr := Lib.hid (show T.opOk o n m = true by simp [T.opOk, h3, hb, ha])
    have e3 : (o.kind == 3) = true := by simpa using h3
    clear h1 h2 h5 h6 h7 hb ha h3
    go_enter Try.func53, Try.ntmps53
    go_wp2_with (go_at_call 59; (with_reducible refine (hcc _).mono ?_); rintro e w' ⟨rfl, rfl⟩)
    go_ret
    exact ⟨ret_bool hr.out.symm, (Below.refl _ _).alloc (Nat.le_refl _) _⟩
  · have hr := Lib.hid (show T.opOk o n m = (o.kind == 4) by simp [T.opOk, h1, h2, h5, h6, h7, h3, hb, ha]; rfl)
    have e3 : (o.kind == 3) = false := by simpa using h3
    clear h1 h2 h5 h6 h7 hb ha h3
    go_enter Try.func53, Try.ntmps53
    go_wp2_with (go_at_call 59; (with_reducible refine (hcc _).mono ?_); rintro e w' ⟨rfl, rfl⟩)
    go_ret
    exact ⟨ret_bool hr.out.symm, (Below.refl _ _).alloc (Nat.le_refl _) _⟩
theorem op_c (o : GoOp) (n m : Int) (w : World) : Calls Try.prog 53 #[.agg (GoOp.arr o), .int .i64 n, .int .i64 m] w fun e w' => e = .returned (.bool (T.opOk o n m)) ∧ Below w.heap.size w w' := by
  obtain ⟨k, a, b⟩ := o
  by_cases h2 : k = 2
  · subst h2; exact op_k2 a b n m w
  by_cases hb : b = 0
  · subst hb
    by_cases h1 : k = 1
    · subst h1; exact op_k1 a n m w
    by_cases h5 : k = 5
    · subst h5; exact op_k5 a n m w
    by_cases h6 : k = 6
    · subst h6; exact op_k6 a n m w
    by_cases h7 : k = 7
    · subst h7; exact op_k7 a n m w
    exact op_rest ⟨k, a, 0⟩ n m w h1 h2 h5 h6 h7 rfl
  · exact op_no2 ⟨k, a, b⟩ n m w h2 hb
end Go.Proofs.Ytofifeicbhbgpaa
