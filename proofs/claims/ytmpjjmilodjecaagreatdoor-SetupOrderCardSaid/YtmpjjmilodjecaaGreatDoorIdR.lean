/- Ids and keys that may be: the program's, the document's. -/
import Derived.Test.YtmpjjmilodjecaaGreatDoorText
import Derived.Test.YtmpjjmilodjecaaGreatDoorOpen
import Derived.Test.YtmpjjmilodjecaaGreatDoorLoadV
import Derived.Deep.DeepCutAuto
namespace Go.Proofs.YtmpjjmilodjecaaGreatDoor
open Go.RowKit Go.Shelf
set_option linter.unusedVariables false
set_option linter.unusedSimpArgs false
def T.idRight (d : Id) : Bool := decide (0 ≤ d.node ∧ d.node ≤ 63 ∧ 0 ≤ d.inc ∧ d.inc ≤ 65535 ∧ 1 ≤ d.seq ∧ d.seq ≤ 16777215)
def T.keyRight (k : Key) : Bool := T.idRight k.id && decide (0 ≤ k.att ∧ k.att ≤ 5)
theorem T.idRight_cases (d : Id) : (T.idRight d = false ∧ d.node < 0) ∨ (T.idRight d = false ∧ 0 ≤ d.node ∧ 63 < d.node) ∨ (T.idRight d = false ∧ 0 ≤ d.node ∧ d.node ≤ 63 ∧ d.inc < 0) ∨ (T.idRight d = false ∧ 0 ≤ d.node ∧ d.node ≤ 63 ∧ 0 ≤ d.inc ∧ 65535 < d.inc)
    ∨ (T.idRight d = false ∧ 0 ≤ d.node ∧ d.node ≤ 63 ∧ 0 ≤ d.inc ∧ d.inc ≤ 65535 ∧ d.seq < 1) ∨ (T.idRight d = false ∧ 0 ≤ d.node ∧ d.node ≤ 63 ∧ 0 ≤ d.inc ∧ d.inc ≤ 65535 ∧ 1 ≤ d.seq ∧ 16777215 < d.seq) ∨ (T.idRight d = true ∧ 0 ≤ d.node ∧ d.node ≤ 63 ∧ 0 ≤ d.inc ∧ d.inc ≤ 65535 ∧ 1 ≤ d.seq ∧ d.seq ≤ 16777215) := by
  simp only [T.idRight, decide_eq_false_iff_not, decide_eq_true_eq]
  omega
set_option maxRecDepth 100000 in
set_option maxHeartbeats 2000000 in
theorem idRight_c (d : Id) (w : World) : Calls Tryz.prog 299 #[.agg (Id.arr d)] w fun r w' => r = .returned (.bool (T.idRight d)) ∧ Below w.heap.size w w' := by
  obtain ⟨W0, hW0⟩ : ∃ W0, W0 = w.alloc (Obj.cells (Id.arr d) 54) := ⟨_, rfl⟩
  have hB0 : Below w.heap.size w W0 := by rw [hW0]; exact (Below.refl _ w).alloc (Nat.le_refl _) _
  have rD : rowAt W0 w.heap.size 0 3 = some (Id.arr d) := by rw [hW0]; exact rowAt_new _ _ _ _ _ rfl
  have c0 : W0.cell? ⟨w.heap.size, 0, none⟩ = some (.int .i64 d.node) := rowAt_cell rD 0 (by omega)
  have c1 : W0.cell? ⟨w.heap.size, 1, none⟩ = some (.int .i64 d.inc) := rowAt_cell rD 1 (by omega)
  have c2 : W0.cell? ⟨w.heap.size, 2, none⟩ = some (.int .i64 d.seq) := rowAt_cell rD 2 (by omega)
  have HW := Lib.hid hW0
  clear hW0 rD
  rcases T.idRight_cases d with ⟨hr, h0⟩ | ⟨hr, h0, h1⟩ | ⟨hr, h0, h1, h2⟩ | ⟨hr, h0, h1, h2, h3⟩ | ⟨hr, h0, h1, h2, h3, h4⟩ | ⟨hr, h0, h1, h2, h3, h4, h5⟩ | ⟨hr, h0, h1, h2, h3, h4, h5⟩
  all_goals
    have HR := Lib.hid hr
    clear hr
    go_enter Tryz.func299, Tryz.ntmps299
    go_upto_region 1 with (fail)
    rw [← HW.out]
    go_wp2
    go_ret
    exact ⟨ret_bool (by first | exact HR.out.symm | (rw [HR.out]; simp; omega)), hB0⟩
set_option maxRecDepth 100000 in
set_option maxHeartbeats 2000000 in
theorem rIdRight_c (d : Id) (w : World) : Calls Tryz.prog 236 #[.agg (Id.arr d)] w fun r w' => r = .returned (.bool (T.idRight d)) ∧ Below w.heap.size w w' := by
  obtain ⟨W0, hW0⟩ : ∃ W0, W0 = w.alloc (Obj.cells (Id.arr d) 54) := ⟨_, rfl⟩
  have hB0 : Below w.heap.size w W0 := by rw [hW0]; exact (Below.refl _ w).alloc (Nat.le_refl _) _
  have rD : rowAt W0 w.heap.size 0 3 = some (Id.arr d) := by rw [hW0]; exact rowAt_new _ _ _ _ _ rfl
  have c0 : W0.cell? ⟨w.heap.size, 0, none⟩ = some (.int .i64 d.node) := rowAt_cell rD 0 (by omega)
  have c1 : W0.cell? ⟨w.heap.size, 1, none⟩ = some (.int .i64 d.inc) := rowAt_cell rD 1 (by omega)
  have c2 : W0.cell? ⟨w.heap.size, 2, none⟩ = some (.int .i64 d.seq) := rowAt_cell rD 2 (by omega)
  have HW := Lib.hid hW0
  clear hW0 rD
  rcases T.idRight_cases d with ⟨hr, h0⟩ | ⟨hr, h0, h1⟩ | ⟨hr, h0, h1, h2⟩ | ⟨hr, h0, h1, h2, h3⟩ | ⟨hr, h0, h1, h2, h3, h4⟩ | ⟨hr, h0, h1, h2, h3, h4, h5⟩ | ⟨hr, h0, h1, h2, h3, h4, h5⟩
  all_goals
    have HR := Lib.hid hr
    clear hr
    go_enter Tryz.func236, Tryz.ntmps236
    go_upto_region 1 with (fail)
    rw [← HW.out]
    go_wp2
    go_ret
    exact ⟨ret_bool (by first | exact HR.out.symm | (rw [HR.out]; simp; omega)), hB0⟩
set_option maxRecDepth 100000 in
set_option maxHeartbeats 2000000 in
theorem keyRight_c (k : Key) (w : World) : Calls Tryz.prog 297 #[.agg (Key.arr k)] w fun r w' => r = .returned (.bool (T.keyRight k)) ∧ Below w.heap.size w w' := by
  obtain ⟨W0, hW0⟩ : ∃ W0, W0 = w.alloc (Obj.cells (Key.arr k) 56) := ⟨_, rfl⟩
  have hB0 : Below w.heap.size w W0 := by rw [hW0]; exact (Below.refl _ w).alloc (Nat.le_refl _) _
  have hz0 : w.heap.size < W0.heap.size := by rw [hW0]; simp
  have rK : rowAt W0 w.heap.size 0 4 = some (Key.arr k) := by rw [hW0]; exact rowAt_new _ _ _ _ _ rfl
  have rI : rowAt W0 w.heap.size 0 3 = some (Id.arr k.id) := (rowAt_part rK 0 3 (by omega)).trans (congrArg some (Key.part_id k))
  have c3 : W0.cell? ⟨w.heap.size, 3, none⟩ = some (.int .i64 k.att) := rowAt_cell rK 3 (by omega)
  have HW := Lib.hid hW0
  have HK := Lib.hid (show T.keyRight k = (T.idRight k.id && decide (0 ≤ k.att ∧ k.att ≤ 5)) from rfl)
  have hr := idRight_c k.id W0
  clear hW0 rK
  rcases h0 : T.idRight k.id with _ | _
  · rw [h0] at HK hr
    clear h0
    go_enter Tryz.func297, Tryz.ntmps297
    go_upto_region 1 with (fail)
    rw [← HW.out]
    go_wp2_with (first | (refine wpList_load_at_v 54 _ rfl rfl _ (0) 3 rfl _ _ rI rfl rfl rfl ?_) | (go_at_call 299; (with_reducible refine hr.mono ?_); rintro r w1 ⟨rfl, hb1⟩; have d3 := (hb1.cell (p := ⟨w.heap.size, 3, none⟩) hz0).trans c3))
    go_ret
    exact ⟨ret_bool (by rw [HK.out]; rfl), bthen hB0 hb1⟩
  · rw [h0] at HK hr
    clear h0
    have hc : k.att < 0 ∨ (0 ≤ k.att ∧ 5 < k.att) ∨ (0 ≤ k.att ∧ k.att ≤ 5) := by omega
    rcases hc with h1 | ⟨h1, h2⟩ | ⟨h1, h2⟩
    all_goals
      go_enter Tryz.func297, Tryz.ntmps297
      go_upto_region 1 with (fail)
      rw [← HW.out]
      go_wp2_with (first | (refine wpList_load_at_v 54 _ rfl rfl _ (0) 3 rfl _ _ rI rfl rfl rfl ?_) | (go_at_call 299; (with_reducible refine hr.mono ?_); rintro r w1 ⟨rfl, hb1⟩; have d3 := (hb1.cell (p := ⟨w.heap.size, 3, none⟩) hz0).trans c3))
      go_ret
      exact ⟨ret_bool (by rw [HK.out]; simp only [Bool.true_and]; first | (simp; done) | (simp; omega)), bthen hB0 hb1⟩
set_option maxRecDepth 100000 in
set_option maxHeartbeats 2000000 in
theorem rKeyRight_c (k : Key) (w : World) : Calls Tryz.prog 232 #[.agg (Key.arr k)] w fun r w' => r = .returned (.bool (T.keyRight k)) ∧ Below w.heap.size w w' := by
  obtain ⟨W0, hW0⟩ : ∃ W0, W0 = w.alloc (Obj.cells (Key.arr k) 56) := ⟨_, rfl⟩
  have hB0 : Below w.heap.size w W0 := by rw [hW0]; exact (Below.refl _ w).alloc (Nat.le_refl _) _
  have hz0 : w.heap.size < W0.heap.size := by rw [hW0]; simp
  have rK : rowAt W0 w.heap.size 0 4 = some (Key.arr k) := by rw [hW0]; exact rowAt_new _ _ _ _ _ rfl
  have rI : rowAt W0 w.heap.size 0 3 = some (Id.arr k.id) := (rowAt_part rK 0 3 (by omega)).trans (congrArg some (Key.part_id k))
  have c3 : W0.cell? ⟨w.heap.size, 3, none⟩ = some (.int .i64 k.att) := rowAt_cell rK 3 (by omega)
  have HW := Lib.hid hW0
  have HK := Lib.hid (show T.keyRight k = (T.idRight k.id && decide (0 ≤ k.att ∧ k.att ≤ 5)) from rfl)
  have hr := rIdRight_c k.id W0
  clear hW0 rK
  rcases h0 : T.idRight k.id with _ | _
  · rw [h0] at HK hr
    clear h0
    go_enter Tryz.func232, Tryz.ntmps232
    go_upto_region 1 with (fail)
    rw [← HW.out]
    go_wp2_with (first | (refine wpList_load_at_v 54 _ rfl rfl _ (0) 3 rfl _ _ rI rfl rfl rfl ?_) | (go_at_call 236; (with_reducible refine hr.mono ?_); rintro r w1 ⟨rfl, hb1⟩; have d3 := (hb1.cell (p := ⟨w.heap.size, 3, none⟩) hz0).trans c3))
    go_ret
    exact ⟨ret_bool (by rw [HK.out]; rfl), bthen hB0 hb1⟩
  · rw [h0] at HK hr
    clear h0
    have hc : k.att < 0 ∨ (0 ≤ k.att ∧ 5 < k.att) ∨ (0 ≤ k.att ∧ k.att ≤ 5) := by omega
    rcases hc with h1 | ⟨h1, h2⟩ | ⟨h1, h2⟩
    all_goals
      go_enter Tryz.func232, Tryz.ntmps232
      go_upto_region 1 with (fail)
      rw [← HW.out]
      go_wp2_with (first | (refine wpList_load_at_v 54 _ rfl rfl _ (0) 3 rfl _ _ rI rfl rfl rfl ?_) | (go_at_call 236; (with_reducible refine hr.mono ?_); rintro r w1 ⟨rfl, hb1⟩; have d3 := (hb1.cell (p := ⟨w.heap.size, 3, none⟩) hz0).trans c3))
      go_ret
      exact ⟨ret_bool (by rw [HK.out]; simp only [Bool.true_and]; first | (simp; done) | (simp; omega)), bthen hB0 hb1⟩
end Go.Proofs.YtmpjjmilodjecaaGreatDoor
