/- Layer 33, the example. -/
import Derived.Test.YtofifeicbhbgpaaOfB
import Derived.Test.YtofifeicbhbgpaaLits
namespace Go.Proofs.Ytofifeicbhbgpaa
open Go.RowKit
set_option linter.unusedVariables false
set_option linter.unusedSimpArgs false
attribute [local go_sem] GoOp.sz Plan.sz
attribute [local go_sem high] eqTPlan

def T.ex33 (v : Value) : Config := ⟨1, 0, 50, 0, 1, 2, 1, 1, 1, 1, 1, 20, 1, v⟩
theorem builtOp (k a : Int) : Try.prog.built 71 [(0, .int .i64 k), (1, .int .i64 a)] = some (GoOp.arr ⟨k, a, 0⟩) := by kernel_rfl
theorem built33 (A : Option Addr) (n cap : Nat) : Try.prog.built 40 [(0, .int .i64 1), (2, .int .i64 50), (4, .int .i64 1), (5, .int .i64 2), (6, .int .i64 1), (7, .int .i64 1), (8, .int .i64 1), (9, .int .i64 1), (10, .int .i64 1), (11, .int .i64 20), (12, .int .i64 1), (13, .slice A n cap)] = some (Config.arr (T.ex33 (.slice A n cap))) := by kernel_rfl
theorem T.ex33_of (v u : Value) : T.of (T.ex33 v) [(u, [⟨5, 5, 0⟩])] 0 0 = some ⟨1, 2, 5⟩ := by
  simp [T.of, T.ofOk, T.ex33, T.right, T.allOk, T.rightOk, T.opOk, T.plan, T.progs, T.ops, T.ans, T.planOf]
set_option maxRecDepth 100000 in
set_option maxHeartbeats 1000000 in
theorem awake33_c (w : World) : Calls Try.prog 16 #[] w fun e w' => e = .returned (.bool true) ∧ Below w.heap.size w w' := by
  obtain ⟨w1, hw1⟩ : ∃ w1, w1 = w.alloc (Obj.cells (GoOp.arr ⟨5, 5, 0⟩) 71) := ⟨_, rfl⟩
  obtain ⟨w2, hw2⟩ : ∃ w2, w2 = w1.alloc (Obj.cells #[Value.slice (some ⟨w.heap.size, 0, none⟩) 1 1] 72) := ⟨_, rfl⟩
  have hs1 : w1.heap.size = w.heap.size + 1 := by rw [hw1]; simp
  have hs2 : w2.heap.size = w.heap.size + 2 := by rw [hw2]; simp [hs1]
  have hB : Below w.heap.size w w2 := by rw [hw2, hw1]; exact ((Below.refl _ w).alloc (Nat.le_refl _) _).alloc (by simp) _
  have hr1 : rowAt w2 w.heap.size 0 3 = some (GoOp.arr ⟨5, 5, 0⟩) := by rw [hw2, rowAt_alloc_old _ _ _ _ _ (by omega), hw1]; exact rowAt_new _ _ _ _ _ rfl
  have hr2 : rowAt w2 (w.heap.size + 1) 0 1 = some #[Value.slice (some ⟨w.heap.size, 0, none⟩) 1 1] := by rw [hw2, ← hs1]; exact rowAt_new _ _ _ _ _ rfl
  have hP : Progs w2.heap.size w2 (.slice (some ⟨w.heap.size + 1, 0, none⟩) 1 1) [(.slice (some ⟨w.heap.size, 0, none⟩) 1 1, [⟨5, 5, 0⟩])] := by
    refine ⟨⟨some ⟨w.heap.size + 1, 0, none⟩, 1, rfl, Nat.le_refl _, by decide, fun _ => ⟨_, _, rfl, by omega, fun k x hk => ?_⟩⟩, fun z hz => ?_⟩
    · cases k with
      | zero => obtain rfl : Value.slice (some ⟨w.heap.size, 0, none⟩) 1 1 = x := by simpa using hk
                simpa [valArr] using hr2
      | succ k => simp at hk
    · obtain rfl : z = (.slice (some ⟨w.heap.size, 0, none⟩) 1 1, [⟨5, 5, 0⟩]) := by simpa using hz
      refine ⟨some ⟨w.heap.size, 0, none⟩, 1, rfl, Nat.le_refl _, by decide, fun _ => ⟨_, _, rfl, by omega, fun k x hk => ?_⟩⟩
      cases k with
      | zero => obtain rfl : (⟨5, 5, 0⟩ : GoOp) = x := by simpa using hk
                simpa using hr1
      | succ k => simp at hk
  have hof := of_c (T.ex33 (.slice (some ⟨w.heap.size + 1, 0, none⟩) 1 1)) _ 0 0 w2 hP
  rw [T.ex33_of] at hof
  have HW1 := Lib.hid hw1
  have HW2 := Lib.hid hw2
  clear hw1 hw2 hP hr1 hr2
  go_enter Try.func16, Try.ntmps16
  go_wp2_with (first | (refine wpList_build_at rfl 71 _ rfl _ ?_ _ (builtOp 5 5) ?_; rfl) | (refine wpList_slice1 rfl 72 71 _ rfl (GoOp.arr ⟨5, 5, 0⟩) 3 24 Try.underlying72 (by kernel_rfl) (by decide) rfl rfl w.heap.size rfl ?_; rw [← HW1.out]) | (refine wpList_slice1 rfl 38 72 _ rfl #[Value.slice (some ⟨w.heap.size, 0, none⟩) 1 1] 1 24 Try.underlying38 (by kernel_rfl) (by decide) rfl rfl (w.heap.size + 1) hs1 ?_; rw [← HW2.out]) | (refine wpList_build_at rfl 40 _ rfl _ ?_ _ (built33 (some ⟨w.heap.size + 1, 0, none⟩) 1 1) ?_; rfl) | (go_at_call 15; (with_reducible refine hof.mono ?_); rintro e w3 ⟨rfl, hb3⟩; have hN := rowAt_row (heap_alloc_new w3 (Obj.cells (Plan.arr ⟨1, 2, 5⟩) 51))) | (refine wpList_store_new rfl _ _ _ rfl w3.heap.size (Plan.arr ⟨1, 2, 5⟩) _ _ rfl rfl rfl rfl rfl (Plan.one _) ?_) | (refine wpList_load_at_w rfl 51 _ rfl _ (0) 3 rfl _ _ hN rfl rfl rfl ?_) | (refine wpList_build_w (by rfl) 51 _ rfl _ ?_ _ (builtPlan ⟨1, 2, 5⟩) ?_; rfl))
  go_ret
  exact ⟨rfl, ((hB.trans (hb3.mono (by omega))).alloc (by have := hb3.size; omega) _)⟩
end Go.Proofs.Ytofifeicbhbgpaa
