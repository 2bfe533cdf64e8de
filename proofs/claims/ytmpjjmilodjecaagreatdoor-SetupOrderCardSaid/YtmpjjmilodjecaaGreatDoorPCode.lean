/- Words of the walks of programs: an operation's cells, how many numbers a kind has, the codes. Printed by wip/gen_pcode.py (our own). -/
import Derived.Test.YtmpjjmilodjecaaGreatDoorText
import Derived.Test.YtmpjjmilodjecaaGreatDoorOpen
import Derived.Test.YtmpjjmilodjecaaGreatDoorLoadV
import Derived.Test.YtmpjjmilodjecaaGreatDoorLits
import Derived.Deep.DeepCutAuto
namespace Go.Proofs.YtmpjjmilodjecaaGreatDoor
open Go.RowKit Go.Shelf
set_option linter.unusedVariables false
set_option linter.unusedSimpArgs false
theorem opCells {w : World} {g : Nat} {s : GoOp} (h : rowAt w g 0 3 = some (GoOp.arr s)) :
    w.cell? ⟨g, 0, none⟩ = some (.int .i64 s.kind) ∧ w.cell? ⟨g, 1, none⟩ = some (.int .i64 s.a) ∧ w.cell? ⟨g, 2, none⟩ = some (.int .i64 s.b) :=
  ⟨rowAt_cell h 0 (by omega), rowAt_cell h 1 (by omega), rowAt_cell h 2 (by omega)⟩
def T.pcount (k : Int) : Int := if k = 2 then 2 else if k = 1 ∨ k = 5 ∨ k = 6 ∨ k = 7 then 1 else 0
theorem T.pcount_none (k : Int) (h1 : k ≠ 1) (h2 : k ≠ 2) (h5 : k ≠ 5) (h6 : k ≠ 6) (h7 : k ≠ 7) : T.pcount k = 0 := by
  unfold T.pcount; rw [if_neg h2, if_neg (by omega)]
theorem T.pcount_bd (k : Int) : 0 ≤ T.pcount k ∧ T.pcount k ≤ 2 := by unfold T.pcount; split <;> (try split) <;> omega
theorem counts_c (k : Int) (w : World) : Calls Tryz.prog 68 #[.int .i64 k] w fun r w' => r = .returned (.int .i64 (T.pcount k)) ∧ w' = w := by
  by_cases h : k = 1 ∨ k = 2 ∨ k = 5 ∨ k = 6 ∨ k = 7
  · rcases h with rfl | rfl | rfl | rfl | rfl
    all_goals
      go_enter Tryz.func68, Tryz.ntmps68
      go_wp2
      go_ret
      exact ⟨rfl, rfl⟩
  · have HD := Lib.hid (T.pcount_none k (by omega) (by omega) (by omega) (by omega) (by omega))
    have e1 : (k == 1) = false := by rw [beq_eq_false_iff_ne]; omega
    have e2 : (k == 2) = false := by rw [beq_eq_false_iff_ne]; omega
    have e5 : (k == 5) = false := by rw [beq_eq_false_iff_ne]; omega
    have e6 : (k == 6) = false := by rw [beq_eq_false_iff_ne]; omega
    have e7 : (k == 7) = false := by rw [beq_eq_false_iff_ne]; omega
    clear h
    go_enter Tryz.func68, Tryz.ntmps68
    go_wp2
    go_ret
    exact ⟨by rw [HD.out] <;> rfl, rfl⟩
theorem codeNames_results (tmps : Array Value) (w : World) (bR : Nat) (cs : Array Value) (h0 : tmps.getD 0 undef = .pointer (some ⟨bR, 0, none⟩)) (hr : rowAt w bR 0 17 = some cs) :
    (results Tryz.f211 tmps).run Tryz.prog w = .ok (.agg cs) w := by
  have hl := run_loadVar_at (P := Tryz.prog) w 269 bR 0 17 cs _ hr Tryz.underlying269 rfl (by kernel_rfl)
  have h0' : tmps[0]?.getD undef = .pointer (some ⟨bR, 0, none⟩) := by simpa using h0
  simp [results, Tryz.results211, asAddr, h0', hl]
def codeNamesV : Array Value := #[.string ⟨#[79, 75]⟩, .string ⟨#[67, 65, 78, 67, 69, 76, 76, 69, 68]⟩, .string ⟨#[85, 78, 75, 78, 79, 87, 78]⟩, .string ⟨#[73, 78, 86, 65, 76, 73, 68, 95, 65, 82, 71, 85, 77, 69, 78, 84]⟩, .string ⟨#[68, 69, 65, 68, 76, 73, 78, 69, 95, 69, 88, 67, 69, 69, 68, 69, 68]⟩, .string ⟨#[78, 79, 84, 95, 70, 79, 85, 78, 68]⟩, .string ⟨#[65, 76, 82, 69, 65, 68, 89, 95, 69, 88, 73, 83, 84, 83]⟩, .string ⟨#[80, 69, 82, 77, 73, 83, 83, 73, 79, 78, 95, 68, 69, 78, 73, 69, 68]⟩, .string ⟨#[82, 69, 83, 79, 85, 82, 67, 69, 95, 69, 88, 72, 65, 85, 83, 84, 69, 68]⟩, .string ⟨#[70, 65, 73, 76, 69, 68, 95, 80, 82, 69, 67, 79, 78, 68, 73, 84, 73, 79, 78]⟩, .string ⟨#[65, 66, 79, 82, 84, 69, 68]⟩, .string ⟨#[79, 85, 84, 95, 79, 70, 95, 82, 65, 78, 71, 69]⟩, .string ⟨#[85, 78, 73, 77, 80, 76, 69, 77, 69, 78, 84, 69, 68]⟩, .string ⟨#[73, 78, 84, 69, 82, 78, 65, 76]⟩, .string ⟨#[85, 78, 65, 86, 65, 73, 76, 65, 66, 76, 69]⟩, .string ⟨#[68, 65, 84, 65, 95, 76, 79, 83, 83]⟩, .string ⟨#[85, 78, 65, 85, 84, 72, 69, 78, 84, 73, 67, 65, 84, 69, 68]⟩]
theorem codeNamesV_one : codeNamesV.all (·.oneCell') = true := by simp [codeNamesV, Value.oneCell']
set_option maxRecDepth 100000 in
theorem codeNames_c (w : World) : Calls Tryz.prog 211 #[] w fun r w' => r = .returned (.agg codeNamesV) ∧ Below w.heap.size w w' := by
  go_enter Tryz.func211, Tryz.ntmps211
  go_wp2_with (refine wpList_store_new rfl _ _ _ rfl w.heap.size codeNamesV _ _ rfl rfl rfl rfl rfl codeNamesV_one ?_)
  exact bodyPost_ret (codeNames_results _ _ _ _ rfl (rowAt_new _ _ _ _ _ rfl)) rfl ⟨rfl, (Below.refl _ w).alloc (Nat.le_refl _) _⟩
theorem codeRight_c (c : Int) (w : World) : Calls Tryz.prog 127 #[.int .i64 c] w fun r w' => r = .returned (.bool (decide (0 ≤ c ∧ c < 17))) ∧ Below w.heap.size w w' := by
  rcases f0 : decide (0 ≤ c) with _ | _ <;> rcases f1 : decide (c < 17) with _ | _
  all_goals
    (first | have g0 := of_decide_eq_true f0 | have g0 := of_decide_eq_false f0)
    (first | have g1 := of_decide_eq_true f1 | have g1 := of_decide_eq_false f1)
    have HD := Lib.hid (show decide (0 ≤ c ∧ c < 17) = true ∧ (0 ≤ c ∧ c < 17) ∨ decide (0 ≤ c ∧ c < 17) = false ∧ ¬ (0 ≤ c ∧ c < 17) from by by_cases h : 0 ≤ c ∧ c < 17 <;> simp [h])
    rw [show decide (0 ≤ c ∧ c < 17) = (decide (0 ≤ c) && decide (c < 17)) from by simp, f0, f1]
    go_enter Tryz.func127, Tryz.ntmps127
    go_wp2_with (go_at_call 211; (with_reducible refine (codeNames_c _).mono ?_); rintro r w2 ⟨rfl, hb2⟩)
    go_ret
    first | exact ⟨rfl, Below.refl _ _⟩ | exact ⟨rfl, hb2⟩
end Go.Proofs.YtmpjjmilodjecaaGreatDoor
