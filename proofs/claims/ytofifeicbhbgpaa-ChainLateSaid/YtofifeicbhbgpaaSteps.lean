/- program.All: whether a configuration's programs may be. -/
import Derived.Test.YtofifeicbhbgpaaFunc
namespace Go.Proofs.Ytofifeicbhbgpaa
open Go.RowKit
set_option linter.unusedVariables false
set_option linter.unusedSimpArgs false
attribute [local go_sem] GoOp.sz GoOp.at0 GoOp.at1 GoOp.at2 Config.sz Config.at0 Config.at13

theorem names_c (w : World) : Calls Try.prog 61 #[] w fun e w' => (∃ v, e = .returned v) ∧ Below w.heap.size w w' := by
  go_enter Try.func61, Try.ntmps61
  go_wp2
  refine bodyPost_ret (results_cell_row (p := 0) (ty := 101) rfl _ _ w.heap.size _ _ _ _ rfl (heap_alloc_new _ _) Try.underlying101 rfl (by kernel_rfl)) rfl ⟨⟨_, rfl⟩, (Below.refl _ _).alloc (Nat.le_refl _) _⟩
def T.codeB (a : Int) : Bool := decide (0 ≤ a) && decide (a < 17)
theorem codeRight_c (a : Int) (w : World) : Calls Try.prog 60 #[.int .i64 a] w fun e w' => e = .returned (.bool (T.codeB a)) ∧ Below w.heap.size w w' := by
  by_cases h : 0 ≤ a
  · have hr := Lib.hid (show T.codeB a = decide (a < 17) by simp [T.codeB, h])
    go_enter Try.func60, Try.ntmps60
    go_wp2_with (go_at_call 61; (with_reducible refine (names_c _).mono ?_); rintro e w1 ⟨⟨v, rfl⟩, hb1⟩)
    go_ret
    exact ⟨ret_bool hr.out.symm, hb1⟩
  · have hr := Lib.hid (show T.codeB a = false by simp [T.codeB, h])
    have h' : decide (0 ≤ a) = false := by simpa using h
    go_enter Try.func60, Try.ntmps60
    go_wp2
    go_ret
    exact ⟨ret_bool hr.out.symm, Below.refl _ _⟩
def T.cnt (k : Int) : Int := if k = 1 ∨ k = 5 ∨ k = 6 ∨ k = 7 then 1 else if k = 2 then 2 else 0
theorem counts_c (k : Int) (w : World) : Calls Try.prog 59 #[.int .i64 k] w fun e w' => e = .returned (.int .i64 (T.cnt k)) ∧ w = w' := by
  by_cases h : k = 1 ∨ k = 5 ∨ k = 6 ∨ k = 7
  · rcases h with rfl | rfl | rfl | rfl
    all_goals
      go_enter Try.func59, Try.ntmps59
      go_wp2
      go_ret
      exact ⟨rfl, rfl⟩
  · by_cases h2 : k = 2
    · subst h2
      go_enter Try.func59, Try.ntmps59
      go_wp2
      go_ret
      exact ⟨rfl, rfl⟩
    · have hr := Lib.hid (show T.cnt k = 0 by rw [T.cnt, if_neg h, if_neg h2])
      have e1 : (k == 1) = false := by simp; omega
      have e2 : (k == 2) = false := by simp; omega
      have e5 : (k == 5) = false := by simp; omega
      have e6 : (k == 6) = false := by simp; omega
      have e7 : (k == 7) = false := by simp; omega
      clear h h2
      go_enter Try.func59, Try.ntmps59
      go_wp2
      go_ret
      exact ⟨ret_int hr.out.symm, rfl⟩

def T.opOk (o : GoOp) (n m : Int) : Bool :=
  if o.kind = 1 then decide (o.b = 0) && (decide (1 ≤ o.a) && decide (o.a ≤ 1000))
  else if o.kind = 2 then decide (0 ≤ o.a) && (decide (o.a < n) && (decide (0 ≤ o.b) && decide (o.b < m)))
  else if o.kind = 5 then decide (o.b = 0) && (decide (0 ≤ o.a) && decide (o.a < 2147483648))
  else if o.kind = 6 then decide (o.b = 0) && (decide (o.a ≠ 0) && T.codeB o.a)
  else if o.kind = 7 then decide (o.b = 0) && (decide (-1 ≤ o.a) && decide (o.a ≤ 1000000))
  else decide (o.b = 0) && (decide (o.a = 0) && (decide (o.kind = 3) || decide (o.kind = 4)))
/-- One walk of Op: the tests' Bools at hand. -/
theorem op_no2 (o : GoOp) (n m : Int) (w : World) (hk : o.kind ≠ 2) (hb : o.b ≠ 0) : Calls Try.prog 53 #[.agg (GoOp.arr o), .int .i64 n, .int .i64 m] w fun e w' => e = .returned (.bool (T.opOk o n m)) ∧ Below w.heap.size w w' := by
  have hr := Lib.hid (show T.opOk o n m = false by simp [T.opOk, hk, hb])
  have hc : T.cnt o.kind < 2 := by unfold T.cnt; split <;> (try split) <;> omega
  have hb' : (o.b != 0) = true := by simpa using hb
  have hcc := fun W => counts_c o.kind W
  obtain ⟨c, hcd⟩ : ∃ c, c = T.cnt o.kind := ⟨_, rfl⟩
  rw [← hcd] at hcc hc
  clear hcd hk hb
  go_enter Try.func53, Try.ntmps53
  go_wp2_with (go_at_call 59; (with_reducible refine (hcc _).mono ?_); rintro e w' ⟨rfl, rfl⟩)
  go_ret
  exact ⟨ret_bool hr.out.symm, (Below.refl _ _).alloc (Nat.le_refl _) _⟩
end Go.Proofs.Ytofifeicbhbgpaa
