/- Steps: kinds, words, numbers: the program's, the document's. -/
import Derived.Test.YtpgdgboobnmjiaaDoorKeyT
import Derived.Test.YtpgdgboobnmjiaaDoorLits
import Derived.Test.YtpgdgboobnmjiaaDoorLoadV
import Derived.Deep.DeepCutAuto
namespace Go.Proofs.YtpgdgboobnmjiaaDoor
open Go.RowKit Go.Shelf
set_option linter.unusedVariables false
set_option linter.unusedSimpArgs false
def T.words : List (List UInt8) := [[116, 105, 99, 107], [115, 104, 105, 102, 116], [116, 105, 109, 101, 114], [114, 117, 110], [100, 101, 108, 105, 118, 101, 114], [100, 114, 111, 112], [116, 119, 105, 99, 101], [104, 117, 114, 116], [105, 115, 115, 117, 101], [99, 97, 110, 99, 101, 108], [99, 114, 97, 115, 104]]
def T.word (k : Int) : List UInt8 := T.words.getD (k - 1).toNat []
def T.has (k : Int) : Int := if k = 2 ∨ k = 4 ∨ k = 10 then 2 else if k = 8 then 3 else if k = 9 then 4 else 1
def T.stepIs (k : Int) : Bool := decide (1 ≤ k ∧ k ≤ 11)
theorem T.has_bd (k : Int) : 1 ≤ T.has k ∧ T.has k ≤ 4 := by unfold T.has; split <;> (try split) <;> (try split) <;> omega
theorem T.kinds (k : Int) (h : 1 ≤ k ∧ k ≤ 11) : k = 1 ∨ k = 2 ∨ k = 3 ∨ k = 4 ∨ k = 5 ∨ k = 6 ∨ k = 7 ∨ k = 8 ∨ k = 9 ∨ k = 10 ∨ k = 11 := by omega
theorem T.word_len (k : Int) : (T.word k).length ≤ 7 := by
  unfold T.word
  by_cases h : (k - 1).toNat < 11
  · have : ∀ j : Nat, j < 11 → (T.words.getD j []).length ≤ 7 := by decide
    exact this _ h
  · rw [List.getD_eq_getElem?_getD, List.getElem?_eq_none (by show 11 ≤ _; omega)]; simp
theorem is_c (k : Int) (w : World) : Calls Tryd.prog 47 #[.int .i64 k] w fun r w' => r = .returned (.bool (T.stepIs k)) ∧ w' = w := by
  have hc : k < 1 ∨ (1 ≤ k ∧ 11 < k) ∨ (1 ≤ k ∧ k ≤ 11) := by omega
  have HD := Lib.hid (show T.stepIs k = decide (1 ≤ k ∧ k ≤ 11) from rfl)
  rcases hc with h | ⟨h, h2⟩ | ⟨h, h2⟩
  all_goals
    go_enter Tryd.func47, Tryd.ntmps47
    go_wp2
    go_ret
    exact ⟨ret_bool (by rw [HD.out]; simp <;> omega), rfl⟩
theorem has_c (k : Int) (w : World) : Calls Tryd.prog 48 #[.int .i64 k] w fun r w' => r = .returned (.int .i64 (T.has k)) ∧ w' = w := by
  by_cases h : k = 2 ∨ k = 4 ∨ k = 8 ∨ k = 9 ∨ k = 10
  · rcases h with rfl | rfl | rfl | rfl | rfl
    all_goals
      go_enter Tryd.func48, Tryd.ntmps48
      go_wp2
      go_ret
      exact ⟨rfl, rfl⟩
  · have HD := Lib.hid (show T.has k = 1 by unfold T.has; rw [if_neg (by omega), if_neg (by omega), if_neg (by omega)])
    have e2 : (k == 2) = false := by rw [beq_eq_false_iff_ne]; omega
    have e4 : (k == 4) = false := by rw [beq_eq_false_iff_ne]; omega
    have e8 : (k == 8) = false := by rw [beq_eq_false_iff_ne]; omega
    have e9 : (k == 9) = false := by rw [beq_eq_false_iff_ne]; omega
    have e10 : (k == 10) = false := by rw [beq_eq_false_iff_ne]; omega
    go_enter Tryd.func48, Tryd.ntmps48
    go_wp2
    go_ret
    exact ⟨by rw [HD.out]; rfl, rfl⟩
set_option maxRecDepth 100000 in
theorem words_c (w : World) : Calls Tryd.prog 41 #[] w fun r w' => r = .returned (.slice (some ⟨w.heap.size, 0, none⟩) 12 12) ∧ w' = w.alloc (.cells #[.string ⟨#[]⟩, .string ⟨#[116, 105, 99, 107]⟩, .string ⟨#[115, 104, 105, 102, 116]⟩, .string ⟨#[116, 105, 109, 101, 114]⟩, .string ⟨#[114, 117, 110]⟩, .string ⟨#[100, 101, 108, 105, 118, 101, 114]⟩, .string ⟨#[100, 114, 111, 112]⟩, .string ⟨#[116, 119, 105, 99, 101]⟩, .string ⟨#[104, 117, 114, 116]⟩, .string ⟨#[105, 115, 115, 117, 101]⟩, .string ⟨#[99, 97, 110, 99, 101, 108]⟩, .string ⟨#[99, 114, 97, 115, 104]⟩] 9) := by
  go_enter Tryd.func41, Tryd.ntmps41
  go_wp2
  go_ret
  exact ⟨rfl, rfl⟩
set_option maxRecDepth 100000 in
set_option maxHeartbeats 4000000 in
theorem word_c (k : Int) (h : 1 ≤ k ∧ k ≤ 11) (w : World) : Calls Tryd.prog 43 #[.int .i64 k] w fun r w' => r = .returned (strV (T.word k)) ∧ Below w.heap.size w w' := by
  rcases T.kinds k h with rfl | rfl | rfl | rfl | rfl | rfl | rfl | rfl | rfl | rfl | rfl
  all_goals
    clear h
    go_enter Tryd.func43, Tryd.ntmps43
    go_wp2
    go_ret
    exact ⟨rfl, (Below.refl _ _).alloc (Nat.le_refl _) _⟩
set_option maxRecDepth 100000 in
set_option maxHeartbeats 4000000 in
theorem count_c (k : Int) (h : 1 ≤ k ∧ k ≤ 11) (w : World) : Calls Tryd.prog 44 #[.int .i64 k] w fun r w' => r = .returned (.int .i64 (T.has k)) ∧ Below w.heap.size w w' := by
  rcases T.kinds k h with rfl | rfl | rfl | rfl | rfl | rfl | rfl | rfl | rfl | rfl | rfl
  all_goals
    clear h
    go_enter Tryd.func44, Tryd.ntmps44
    go_wp2
    go_ret
    exact ⟨rfl, (Below.refl _ _).alloc (Nat.le_refl _) _⟩
def Step.nums (s : Step) : List Int := [s.a, s.b, s.c, s.d]
theorem stepCells {w : World} {g : Nat} {s : Step} (h : rowAt w g 0 5 = some (Step.arr s)) :
    w.cell? ⟨g, 0, none⟩ = some (.int .i64 s.kind) ∧ w.cell? ⟨g, 1, none⟩ = some (.int .i64 s.a) ∧ w.cell? ⟨g, 2, none⟩ = some (.int .i64 s.b) ∧ w.cell? ⟨g, 3, none⟩ = some (.int .i64 s.c) ∧ w.cell? ⟨g, 4, none⟩ = some (.int .i64 s.d) :=
  ⟨rowAt_cell h 0 (by omega), rowAt_cell h 1 (by omega), rowAt_cell h 2 (by omega), rowAt_cell h 3 (by omega), rowAt_cell h 4 (by omega)⟩
theorem numbers_c (s : Step) (w : World) : Calls Tryd.prog 52 #[.agg (Step.arr s)] w fun r w' => ∃ g, r = .returned (.slice (some ⟨g, 0, none⟩) 4 4) ∧ w'.heap[g]? = some (.cells #[.int .i64 s.a, .int .i64 s.b, .int .i64 s.c, .int .i64 s.d] 3 (0, 0)) ∧ w.heap.size ≤ g ∧ Below w.heap.size w w' := by
  obtain ⟨W0, hW0⟩ : ∃ W0, W0 = w.alloc (Obj.cells (Step.arr s) 28) := ⟨_, rfl⟩
  have hB0 : Below w.heap.size w W0 := by rw [hW0]; exact (Below.refl _ w).alloc (Nat.le_refl _) _
  have rS : rowAt W0 w.heap.size 0 5 = some (Step.arr s) := by rw [hW0]; exact rowAt_new _ _ _ _ _ rfl
  obtain ⟨c0, c1, c2, c3, c4⟩ := stepCells rS
  have HW := Lib.hid hW0
  clear hW0 rS
  go_enter Tryd.func52, Tryd.ntmps52
  go_upto_region 1 with (fail)
  rw [← HW.out]
  go_wp2
  go_ret
  exact ⟨W0.heap.size, rfl, heap_alloc_new _ _, hB0.size, hB0.alloc hB0.size _⟩
theorem theirs_results (tmps : Array Value) (w : World) (bR : Nat) (cs : Array Value) (h2 : tmps.getD 2 undef = .pointer (some ⟨bR, 0, none⟩)) (hr : rowAt w bR 0 5 = some cs) :
    (results Tryd.f15 tmps).run Tryd.prog w = .ok (.agg cs) w := by
  have hl := run_loadVar_at (P := Tryd.prog) w 28 bR 0 5 cs _ hr Tryd.underlying28 rfl (by kernel_rfl)
  have h2' : tmps[2]?.getD undef = .pointer (some ⟨bR, 0, none⟩) := by simpa using h2
  simp [results, Tryd.results15, asAddr, h2', hl]
set_option maxRecDepth 100000 in
theorem theirs_c (s : Step) (w : World) : Calls Tryd.prog 15 #[.agg (Step.arr s)] w fun r w' => r = .returned (.agg (Step.arr s)) ∧ Below w.heap.size w w' := by
  obtain ⟨W0, hW0⟩ : ∃ W0, W0 = w.alloc (Obj.cells (Step.arr s) 24) := ⟨_, rfl⟩
  have hB0 : Below w.heap.size w W0 := by rw [hW0]; exact (Below.refl _ w).alloc (Nat.le_refl _) _
  have rS : rowAt W0 w.heap.size 0 5 = some (Step.arr s) := by rw [hW0]; exact rowAt_new _ _ _ _ _ rfl
  have hs0 : w.heap.size < W0.heap.size := by rw [hW0]; simp
  obtain ⟨W1, hW1⟩ : ∃ W1, W1 = W0.alloc (Obj.cells #[.int .i64 0, .int .i64 0, .int .i64 0, .int .i64 0, .int .i64 0] 28) := ⟨_, rfl⟩
  have hB1 : Below w.heap.size w W1 := by rw [hW1]; exact hB0.alloc hB0.size _
  have rS1 : rowAt W1 w.heap.size 0 5 = some (Step.arr s) := by rw [hW1, rowAt_alloc_old _ _ _ _ _ hs0]; exact rS
  have hR1 : W1.heap[W0.heap.size]? = some (.cells #[.int .i64 0, .int .i64 0, .int .i64 0, .int .i64 0, .int .i64 0] 28 (0, 0)) := by rw [hW1]; exact heap_alloc_new _ _
  obtain ⟨c0, c1, c2, c3, c4⟩ := stepCells rS1
  have hz : W0.heap.size = w.heap.size + 1 := by rw [hW0]; simp
  rw [hz] at hR1
  have HW0 := Lib.hid hW0
  have HW1 := Lib.hid hW1
  have HR := Lib.hid hR1
  clear hW0 hW1 rS rS1 hR1 hs0 hz
  go_enter Tryd.func15, Tryd.ntmps15
  go_upto_region 1 with (fail)
  rw [← HW0.out, ← HW1.out]
  go_wp2_with (first | (refine wpList_build_at rfl 28 _ rfl _ ?_ (Step.arr s) (builtStep' s) ?_; rfl) | (refine wpList_store_row rfl _ _ _ rfl (w.heap.size + 1) (Step.arr s) rfl rfl _ _ HR.out rfl rfl (Step.one _) ?_))
  have hR2 := setRow_heap _ (w.heap.size + 1) _ (Step.arr s) _ _ HR.out
  refine bodyPost_ret (theirs_results _ _ (w.heap.size + 1) _ rfl (by have := hR2; unfold rowAt; rw [this]; rfl)) rfl ⟨rfl, ?_⟩
  exact ⟨hB1.os, hB1.tape, hB1.output, by simpa using hB1.size, fun k hk => (setRow_other W1 (w.heap.size + 1) k _ (by omega)).trans (hB1.block k hk)⟩
end Go.Proofs.YtpgdgboobnmjiaaDoor
