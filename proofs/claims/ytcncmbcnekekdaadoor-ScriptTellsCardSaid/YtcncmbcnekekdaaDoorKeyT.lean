/- The texts of ids and keys: the program's, the document's. -/
import Derived.Test.YtcncmbcnekekdaaDoorItoa
namespace Go.Proofs.YtcncmbcnekekdaaDoor
open Go.RowKit Go.Shelf
set_option linter.unusedVariables false
set_option linter.unusedSimpArgs false
theorem digits_t (n : Int) (h0 : -9223372036854775808 ≤ n) (h1 : n ≤ 9223372036854775807) (w : World) (ht : Tab w) :
    Calls Tryd.prog 66 #[.int .i64 n] w fun r w' => r = .returned (strV (Lib.itoa n)) ∧ Below w.heap.size w w' := digits_c n h0 h1 w
theorem T.itoa_i64 {n : Int} (h : i64 n) : (Lib.itoa n).length ≤ 21 := Lib.itoa_length_le n h.1 h.2
section
attribute [local go_sem] Id.sz Key.sz bw_cell
set_option maxRecDepth 100000 in
set_option maxHeartbeats 1000000 in
theorem idText_c (d : Id) (hd : Id.ok d) (w : World) (ht : Tab w) :
    Calls Tryd.prog 32 #[.agg (Id.arr d)] w fun r w' => r = .returned (strV (T.idText d)) ∧ Below w.heap.size w w' := by
  have l0 := T.itoa_i64 hd.1
  have l1 := T.itoa_i64 hd.2.1
  have l2 := T.itoa_i64 hd.2.2
  obtain ⟨W0, hW0⟩ : ∃ W0, W0 = w.alloc (Obj.cells (Id.arr d) 38) := ⟨_, rfl⟩
  have hB0 : Below w.heap.size w W0 := by rw [hW0]; exact (Below.refl _ w).alloc (Nat.le_refl _) _
  have hz0 : w.heap.size < W0.heap.size := by rw [hW0]; simp
  have rD : rowAt W0 w.heap.size 0 3 = some (Id.arr d) := by rw [hW0]; exact rowAt_new _ _ _ _ _ rfl
  have c0 : W0.cell? ⟨w.heap.size, 0, none⟩ = some (.int .i64 d.node) := rowAt_cell rD 0 (by omega)
  have c1 : W0.cell? ⟨w.heap.size, 1, none⟩ = some (.int .i64 d.inc) := rowAt_cell rD 1 (by omega)
  have c2 : W0.cell? ⟨w.heap.size, 2, none⟩ = some (.int .i64 d.seq) := rowAt_cell rD 2 (by omega)
  have ht0 := ht.below hB0
  have H0 := Lib.hid (fun x : BW W0 => itoa_c d.node hd.1.1 hd.1.2 x.1 (ht0.below x.2))
  have H1 := Lib.hid (fun x : BW W0 => itoa_c d.inc hd.2.1.1 hd.2.1.2 x.1 (ht0.below x.2))
  have H2 := Lib.hid (fun x : BW W0 => itoa_c d.seq hd.2.2.1 hd.2.2.2 x.1 (ht0.below x.2))
  have HW := Lib.hid hW0
  clear hW0 rD ht0 ht hd
  go_enter Tryd.func32, Tryd.ntmps32
  go_wp2
  rw [← HW.out]
  refine wp_region_calm (by kernel_rfl) (by kernel_rfl) ?_
  repeat ((fail_if_success (with_reducible refine wpQuiet_nil ?_)); (first | go_big_quiet_skip | go_big_quiet_step ((go_at_call 72; first | with_reducible exact calm_of (H0.out _) | with_reducible exact calm_of (H1.out _) | with_reducible exact calm_of (H2.out _)))))
  refine wpQuiet_nil ?_
  rintro _ ⟨⟨X, hX⟩, rfl⟩
  go_wp2
  go_ret
  exact ⟨by simp only [ByteArray.mk_append_mk]; rfl, hB0.trans (hX.mono hB0.size)⟩
set_option maxRecDepth 100000 in
set_option maxHeartbeats 1000000 in
theorem rIdText_c (d : Id) (hd : Id.ok d) (w : World) (ht : Tab w) :
    Calls Tryd.prog 33 #[.agg (Id.arr d)] w fun r w' => r = .returned (strV (T.idText d)) ∧ Below w.heap.size w w' := by
  have l0 := T.itoa_i64 hd.1
  have l1 := T.itoa_i64 hd.2.1
  have l2 := T.itoa_i64 hd.2.2
  obtain ⟨W0, hW0⟩ : ∃ W0, W0 = w.alloc (Obj.cells (Id.arr d) 38) := ⟨_, rfl⟩
  have hB0 : Below w.heap.size w W0 := by rw [hW0]; exact (Below.refl _ w).alloc (Nat.le_refl _) _
  have hz0 : w.heap.size < W0.heap.size := by rw [hW0]; simp
  have rD : rowAt W0 w.heap.size 0 3 = some (Id.arr d) := by rw [hW0]; exact rowAt_new _ _ _ _ _ rfl
  have c0 : W0.cell? ⟨w.heap.size, 0, none⟩ = some (.int .i64 d.node) := rowAt_cell rD 0 (by omega)
  have c1 : W0.cell? ⟨w.heap.size, 1, none⟩ = some (.int .i64 d.inc) := rowAt_cell rD 1 (by omega)
  have c2 : W0.cell? ⟨w.heap.size, 2, none⟩ = some (.int .i64 d.seq) := rowAt_cell rD 2 (by omega)
  have ht0 := ht.below hB0
  have H0 := Lib.hid (fun x : BW W0 => digits_t d.node hd.1.1 hd.1.2 x.1 (ht0.below x.2))
  have H1 := Lib.hid (fun x : BW W0 => digits_t d.inc hd.2.1.1 hd.2.1.2 x.1 (ht0.below x.2))
  have H2 := Lib.hid (fun x : BW W0 => digits_t d.seq hd.2.2.1 hd.2.2.2 x.1 (ht0.below x.2))
  have HW := Lib.hid hW0
  clear hW0 rD ht0 ht hd
  go_enter Tryd.func33, Tryd.ntmps33
  go_wp2
  rw [← HW.out]
  refine wp_region_calm (by kernel_rfl) (by kernel_rfl) ?_
  repeat ((fail_if_success (with_reducible refine wpQuiet_nil ?_)); (first | go_big_quiet_skip | go_big_quiet_step ((go_at_call 66; first | with_reducible exact calm_of (H0.out _) | with_reducible exact calm_of (H1.out _) | with_reducible exact calm_of (H2.out _)))))
  refine wpQuiet_nil ?_
  rintro _ ⟨⟨X, hX⟩, rfl⟩
  go_wp2
  go_ret
  exact ⟨by simp only [ByteArray.mk_append_mk]; rfl, hB0.trans (hX.mono hB0.size)⟩
set_option maxRecDepth 100000 in
set_option maxHeartbeats 1000000 in
theorem keyText_c (k : Key) (hk : Key.ok k) (w : World) (ht : Tab w) :
    Calls Tryd.prog 34 #[.agg (Key.arr k)] w fun r w' => r = .returned (strV (T.keyText k)) ∧ Below w.heap.size w w' := by
  have l0 := T.idText_len k.id hk.1
  have l1 := T.itoa_i64 hk.2
  obtain ⟨W0, hW0⟩ : ∃ W0, W0 = w.alloc (Obj.cells (Key.arr k) 46) := ⟨_, rfl⟩
  have hB0 : Below w.heap.size w W0 := by rw [hW0]; exact (Below.refl _ w).alloc (Nat.le_refl _) _
  have hz0 : w.heap.size < W0.heap.size := by rw [hW0]; simp
  have rK : rowAt W0 w.heap.size 0 4 = some (Key.arr k) := by rw [hW0]; exact rowAt_new _ _ _ _ _ rfl
  have rI : rowAt W0 w.heap.size 0 3 = some (Id.arr k.id) := (rowAt_part rK 0 3 (by omega)).trans (congrArg some (Key.part_id k))
  have c3 : W0.cell? ⟨w.heap.size, 3, none⟩ = some (.int .i64 k.att) := rowAt_cell rK 3 (by omega)
  have ht0 := ht.below hB0
  have H0 := Lib.hid (fun x : BW W0 => idText_c k.id hk.1 x.1 (ht0.below x.2))
  have H1 := Lib.hid (fun x : BW W0 => itoa_c k.att hk.2.1 hk.2.2 x.1 (ht0.below x.2))
  have HW := Lib.hid hW0
  clear hW0 rK ht0 ht hk
  go_enter Tryd.func34, Tryd.ntmps34
  go_wp2
  rw [← HW.out]
  refine wp_region_calm (by kernel_rfl) (by kernel_rfl) ?_
  repeat ((fail_if_success (with_reducible refine wpQuiet_nil ?_)); (first | go_big_quiet_skip | (refine wpQuiet_load_at (by rfl) 38 _ rfl _ 0 3 rfl _ _ rI rfl rfl rfl ?_; simp only [Act.put, List.setIfInBounds_toArray, List.set_cons_succ, List.set_cons_zero]) | go_big_quiet_step ((first | (go_at_call 32; exact calm_of (H0.out _)) | (go_at_call 72; exact calm_of (H1.out _))))))
  refine wpQuiet_nil ?_
  rintro _ ⟨⟨X, hX⟩, rfl⟩
  go_wp2
  go_ret
  exact ⟨by simp only [ByteArray.mk_append_mk]; rfl, hB0.trans (hX.mono hB0.size)⟩
set_option maxRecDepth 100000 in
set_option maxHeartbeats 1000000 in
theorem rKeyText_c (k : Key) (hk : Key.ok k) (w : World) (ht : Tab w) :
    Calls Tryd.prog 35 #[.agg (Key.arr k)] w fun r w' => r = .returned (strV (T.keyText k)) ∧ Below w.heap.size w w' := by
  have l0 := T.idText_len k.id hk.1
  have l1 := T.itoa_i64 hk.2
  obtain ⟨W0, hW0⟩ : ∃ W0, W0 = w.alloc (Obj.cells (Key.arr k) 46) := ⟨_, rfl⟩
  have hB0 : Below w.heap.size w W0 := by rw [hW0]; exact (Below.refl _ w).alloc (Nat.le_refl _) _
  have hz0 : w.heap.size < W0.heap.size := by rw [hW0]; simp
  have rK : rowAt W0 w.heap.size 0 4 = some (Key.arr k) := by rw [hW0]; exact rowAt_new _ _ _ _ _ rfl
  have rI : rowAt W0 w.heap.size 0 3 = some (Id.arr k.id) := (rowAt_part rK 0 3 (by omega)).trans (congrArg some (Key.part_id k))
  have c3 : W0.cell? ⟨w.heap.size, 3, none⟩ = some (.int .i64 k.att) := rowAt_cell rK 3 (by omega)
  have ht0 := ht.below hB0
  have H0 := Lib.hid (fun x : BW W0 => rIdText_c k.id hk.1 x.1 (ht0.below x.2))
  have H1 := Lib.hid (fun x : BW W0 => digits_t k.att hk.2.1 hk.2.2 x.1 (ht0.below x.2))
  have HW := Lib.hid hW0
  clear hW0 rK ht0 ht hk
  go_enter Tryd.func35, Tryd.ntmps35
  go_wp2
  rw [← HW.out]
  refine wp_region_calm (by kernel_rfl) (by kernel_rfl) ?_
  repeat ((fail_if_success (with_reducible refine wpQuiet_nil ?_)); (first | go_big_quiet_skip | (refine wpQuiet_load_at (by rfl) 38 _ rfl _ 0 3 rfl _ _ rI rfl rfl rfl ?_; simp only [Act.put, List.setIfInBounds_toArray, List.set_cons_succ, List.set_cons_zero]) | go_big_quiet_step ((first | (go_at_call 33; exact calm_of (H0.out _)) | (go_at_call 66; exact calm_of (H1.out _))))))
  refine wpQuiet_nil ?_
  rintro _ ⟨⟨X, hX⟩, rfl⟩
  go_wp2
  go_ret
  exact ⟨by simp only [ByteArray.mk_append_mk]; rfl, hB0.trans (hX.mono hB0.size)⟩
end
end Go.Proofs.YtcncmbcnekekdaaDoor
