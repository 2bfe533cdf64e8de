/- Programs that may be: the program's (with a function value), the document's. -/
import Derived.Test.YtmpjjmilodjecaaGreatDoorPOp
import Derived.Test.YtmpjjmilodjecaaGreatDoorList
import Derived.Test.YtmpjjmilodjecaaGreatDoorFunc
import Derived.Test.YtmpjjmilodjecaaGreatDoorParseC
namespace Go.Proofs.YtmpjjmilodjecaaGreatDoor
open Go.RowKit Go.Shelf
set_option linter.unusedVariables false
set_option linter.unusedSimpArgs false
attribute [local go_sem] GoOp.sz
set_option maxRecDepth 100000 in
theorem rightClosure_c (x : GoOp) (n m : Int) (bn bm : Nat) (w : World) (hn : w.cell? ⟨bn, 0, none⟩ = some (.int .i64 n)) (hm : w.cell? ⟨bm, 0, none⟩ = some (.int .i64 m)) (hbn : bn < w.heap.size) (hbm : bm < w.heap.size) :
    Calls Tryz.prog 58 #[.agg (GoOp.arr x), .pointer (some ⟨bn, 0, none⟩), .pointer (some ⟨bm, 0, none⟩)] w fun r w' => r = .returned (.bool (!T.opOk x n m)) ∧ Below w.heap.size w w' := by
  obtain ⟨W0, hW0⟩ : ∃ W0, W0 = w.alloc (Obj.cells (GoOp.arr x) 110) := ⟨_, rfl⟩
  have hB0 : Below w.heap.size w W0 := by rw [hW0]; exact (Below.refl _ w).alloc (Nat.le_refl _) _
  have rS : rowAt W0 w.heap.size 0 3 = some (GoOp.arr x) := by rw [hW0]; exact rowAt_new _ _ _ _ _ rfl
  have cn := (hB0.cell (p := ⟨bn, 0, none⟩) hbn).trans hn
  have cm := (hB0.cell (p := ⟨bm, 0, none⟩) hbm).trans hm
  have hop := op_c x n m W0
  have HW := Lib.hid hW0
  clear hW0 hn hm
  rcases ho : T.opOk x n m with _ | _
  all_goals
    rw [ho] at hop
    clear ho
    go_enter Tryz.func58, Tryz.ntmps58
    go_upto_region 1 with (fail)
    rw [← HW.out]
    go_wp2_with (first | (refine wpList_load_at_v 110 _ rfl rfl _ (0) 3 rfl _ _ rS rfl rfl rfl ?_) | (go_at_call 59; (with_reducible refine hop.mono ?_); rintro r w2 ⟨rfl, hb2⟩))
    go_ret
    exact ⟨rfl, bthen hB0 hb2⟩
def T.pright (xs : List GoOp) (n m : Int) : Bool := decide (xs.length ≤ 16) && xs.all fun o => T.opOk o n m
set_option maxRecDepth 100000 in
set_option maxHeartbeats 4000000 in
theorem pright_c (v : Value) (xs : List GoOp) (n m : Int) (w : World) (h : Sl GoOp.arr 3 w.heap.size w v xs) (hn : xs.length ≤ 9223372036854775807) :
    Calls Tryz.prog 15 #[v, .int .i64 n, .int .i64 m] w fun r w' => r = .returned (.bool (T.pright xs n m)) ∧ Below w.heap.size w w' := by
  obtain ⟨W1, hW1⟩ : ∃ W1, W1 = (w.alloc (.cells #[.int .i64 n] 3)).alloc (.cells #[.int .i64 m] 3) := ⟨_, rfl⟩
  have hB1 : Below w.heap.size w W1 := by rw [hW1]; exact ((Below.refl _ w).alloc (Nat.le_refl _) _).alloc (by simp) _
  have cn : W1.cell? ⟨w.heap.size, 0, none⟩ = some (.int .i64 n) := by
    rw [hW1]
    have := (Below.heap_alloc (w.alloc (.cells #[.int .i64 n] 3)) (.cells #[.int .i64 m] 3) (k := w.heap.size) (by simp)).trans (heap_alloc_new _ _)
    exact (cell_of this 0).1
  have cm : W1.cell? ⟨w.heap.size + 1, 0, none⟩ = some (.int .i64 m) := by
    rw [hW1]
    have := heap_alloc_new (w.alloc (.cells #[.int .i64 n] 3)) (.cells #[.int .i64 m] 3)
    rw [show (w.alloc (.cells #[.int .i64 n] 3)).heap.size = w.heap.size + 1 by simp] at this
    exact (cell_of this 0).1
  have hz1 : w.heap.size + 1 < W1.heap.size := by rw [hW1]; simp
  obtain ⟨A, cap, rfl, hcap, hl1, hl2⟩ := h.view
  have hcf := containsOp_c W1.heap.size 58 (enters_of Tryz.func58 (by kernel_rfl) rfl) [.pointer (some ⟨w.heap.size, 0, none⟩), .pointer (some ⟨w.heap.size + 1, 0, none⟩)] (fun o => !T.opOk o n m) _ xs W1 (Nat.le_refl _) ((h.below hB1).mono hB1.size) (fun x _ X hX =>
    rightClosure_c x n m _ _ X ((hX.cell (p := ⟨w.heap.size, 0, none⟩) (by show w.heap.size < W1.heap.size; omega)).trans cn) ((hX.cell (p := ⟨w.heap.size + 1, 0, none⟩) hz1).trans cm) (by have := hX.size; omega) (by have := hX.size; omega))
  have HW := Lib.hid hW1
  clear hW1 cn cm
  have hany : xs.any (fun o => !T.opOk o n m) = !(xs.all fun o => T.opOk o n m) := by simp [List.all_eq_not_any_not]
  rw [hany] at hcf
  have HP := Lib.hid (show T.pright xs n m = (decide (xs.length ≤ 16) && xs.all fun o => T.opOk o n m) from rfl)
  by_cases h16 : xs.length ≤ 16
  · have h16I : (xs.length : Int) ≤ 16 := by omega
    rw [decide_eq_true h16, Bool.true_and] at HP
    rcases ho : xs.all fun o => T.opOk o n m with _ | _
    all_goals
      rw [ho] at hcf HP
      clear ho hany h16
      go_enter Tryz.func15, Tryz.ntmps15
      go_upto_region 1 with (fail)
      rw [← HW.out]
      go_wp2_with (go_at_call 57; (with_reducible refine hcf.mono ?_); rintro r w2 ⟨rfl, hb2⟩)
      go_ret
      exact ⟨ret_bool (by rw [HP.out]), bthen hB1 hb2⟩
  · have h16I : ¬ (xs.length : Int) ≤ 16 := by omega
    rw [decide_eq_false h16, Bool.false_and] at HP
    clear hany h16
    go_enter Tryz.func15, Tryz.ntmps15
    go_upto_region 1 with (fail)
    rw [← HW.out]
    go_wp2
    go_ret
    exact ⟨ret_bool (by rw [HP.out]), hB1⟩
end Go.Proofs.YtmpjjmilodjecaaGreatDoor
