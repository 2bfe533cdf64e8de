/- The bytes of ids and keys: the program's, the document's. -/
import Derived.Test.YtcncmbcnekekdaaDoorNum
import Derived.Test.YtcncmbcnekekdaaDoorParseP
namespace Go.Proofs.YtcncmbcnekekdaaDoor
open Go.RowKit Go.Shelf
set_option linter.unusedVariables false
set_option linter.unusedSimpArgs false
def T.idCode (d : Id) : List UInt8 := T.be d.node.toNat 1 ++ T.be d.inc.toNat 2 ++ T.be d.seq.toNat 3
def T.keyCode (k : Key) : List UInt8 := T.idCode k.id ++ T.be k.att.toNat 1
theorem T.idCode_len (d : Id) : (T.idCode d).length = 6 := by simp [T.idCode, T.be_len]
theorem T.keyCode_len (k : Key) : (T.keyCode k).length = 7 := by simp [T.keyCode, T.be_len, T.idCode_len]
theorem num1_c (n : Nat) (hn : n < 256) (w : World) : Calls Tryd.prog 74 #[.int .i64 (n : Int), .int .i64 1] w fun r w' => r = .returned (strV (T.be n 1)) ∧ Below w.heap.size w w' := num_c n 1 (by omega) (by omega) w
theorem num2_c (n : Nat) (hn : n < 65536) (w : World) : Calls Tryd.prog 74 #[.int .i64 (n : Int), .int .i64 2] w fun r w' => r = .returned (strV (T.be n 2)) ∧ Below w.heap.size w w' := num_c n 2 (by omega) (by omega) w
theorem num3_c (n : Nat) (hn : n < 16777216) (w : World) : Calls Tryd.prog 74 #[.int .i64 (n : Int), .int .i64 3] w fun r w' => r = .returned (strV (T.be n 3)) ∧ Below w.heap.size w w' := num_c n 3 (by omega) (by omega) w
theorem rnum1_c (n : Nat) (hn : n < 256) (w : World) : Calls Tryd.prog 75 #[.int .i64 (n : Int), .int .i64 1] w fun r w' => r = .returned (strV (T.be n 1)) ∧ Below w.heap.size w w' := rnum_c n 1 (by omega) (by omega) w
theorem rnum2_c (n : Nat) (hn : n < 65536) (w : World) : Calls Tryd.prog 75 #[.int .i64 (n : Int), .int .i64 2] w fun r w' => r = .returned (strV (T.be n 2)) ∧ Below w.heap.size w w' := rnum_c n 2 (by omega) (by omega) w
theorem rnum3_c (n : Nat) (hn : n < 16777216) (w : World) : Calls Tryd.prog 75 #[.int .i64 (n : Int), .int .i64 3] w fun r w' => r = .returned (strV (T.be n 3)) ∧ Below w.heap.size w w' := rnum_c n 3 (by omega) (by omega) w
section
attribute [local go_sem] Id.sz Key.sz bw_cell
set_option maxRecDepth 100000 in
set_option maxHeartbeats 1000000 in
theorem code_c (d : Id) (hd : T.idRight d = true) (w : World) : Calls Tryd.prog 41 #[.agg (Id.arr d)] w fun r w' => r = .returned (strV (T.idCode d)) ∧ Below w.heap.size w w' := by
  obtain ⟨a, b, c, hdd, ha, hb, hc⟩ := T.right_nat hd
  obtain ⟨W0, hW0⟩ : ∃ W0, W0 = w.alloc (Obj.cells (Id.arr d) 38) := ⟨_, rfl⟩
  have hB0 : Below w.heap.size w W0 := by rw [hW0]; exact (Below.refl _ w).alloc (Nat.le_refl _) _
  have hz0 : w.heap.size < W0.heap.size := by rw [hW0]; simp
  have rD : rowAt W0 w.heap.size 0 3 = some (Id.arr d) := by rw [hW0]; exact rowAt_new _ _ _ _ _ rfl
  have c0 : W0.cell? ⟨w.heap.size, 0, none⟩ = some (.int .i64 d.node) := rowAt_cell rD 0 (by omega)
  have c1 : W0.cell? ⟨w.heap.size, 1, none⟩ = some (.int .i64 d.inc) := rowAt_cell rD 1 (by omega)
  have c2 : W0.cell? ⟨w.heap.size, 2, none⟩ = some (.int .i64 d.seq) := rowAt_cell rD 2 (by omega)
  have e0 : d.node = (a : Int) := by rw [hdd]
  have e1 : d.inc = (b : Int) := by rw [hdd]
  have e2 : d.seq = (c : Int) := by rw [hdd]
  rw [e0] at c0
  rw [e1] at c1
  rw [e2] at c2
  have HC := Lib.hid (show T.idCode d = T.be a 1 ++ T.be b 2 ++ T.be c 3 by rw [T.idCode, e0, e1, e2]; rfl)
  have l0 := T.be_len a 1
  have l1 := T.be_len b 2
  have l2 := T.be_len c 3
  have H0 := Lib.hid (fun x : BW W0 => num1_c a (by omega) x.1)
  have H1 := Lib.hid (fun x : BW W0 => num2_c b (by omega) x.1)
  have H2 := Lib.hid (fun x : BW W0 => num3_c c (by omega) x.1)
  have HW := Lib.hid hW0
  clear hW0 rD hd hdd e0 e1 e2
  go_enter Tryd.func41, Tryd.ntmps41
  go_wp2
  rw [← HW.out]
  refine wp_region_calm (by kernel_rfl) (by kernel_rfl) ?_
  repeat ((fail_if_success (with_reducible refine wpQuiet_nil ?_)); (first | go_big_quiet_skip | go_big_quiet_step ((go_at_call 74; first | with_reducible exact calm_of (H0.out _) | with_reducible exact calm_of (H1.out _) | with_reducible exact calm_of (H2.out _)))))
  refine wpQuiet_nil ?_
  rintro _ ⟨⟨X, hX⟩, rfl⟩
  go_wp2
  go_ret
  exact ⟨by simp only [ByteArray.mk_append_mk]; rw [HC.out]; rfl, hB0.trans (hX.mono hB0.size)⟩
set_option maxRecDepth 100000 in
set_option maxHeartbeats 1000000 in
theorem rcode_c (d : Id) (hd : T.idRight d = true) (w : World) : Calls Tryd.prog 42 #[.agg (Id.arr d)] w fun r w' => r = .returned (strV (T.idCode d)) ∧ Below w.heap.size w w' := by
  obtain ⟨a, b, c, hdd, ha, hb, hc⟩ := T.right_nat hd
  obtain ⟨W0, hW0⟩ : ∃ W0, W0 = w.alloc (Obj.cells (Id.arr d) 38) := ⟨_, rfl⟩
  have hB0 : Below w.heap.size w W0 := by rw [hW0]; exact (Below.refl _ w).alloc (Nat.le_refl _) _
  have hz0 : w.heap.size < W0.heap.size := by rw [hW0]; simp
  have rD : rowAt W0 w.heap.size 0 3 = some (Id.arr d) := by rw [hW0]; exact rowAt_new _ _ _ _ _ rfl
  have c0 : W0.cell? ⟨w.heap.size, 0, none⟩ = some (.int .i64 d.node) := rowAt_cell rD 0 (by omega)
  have c1 : W0.cell? ⟨w.heap.size, 1, none⟩ = some (.int .i64 d.inc) := rowAt_cell rD 1 (by omega)
  have c2 : W0.cell? ⟨w.heap.size, 2, none⟩ = some (.int .i64 d.seq) := rowAt_cell rD 2 (by omega)
  have e0 : d.node = (a : Int) := by rw [hdd]
  have e1 : d.inc = (b : Int) := by rw [hdd]
  have e2 : d.seq = (c : Int) := by rw [hdd]
  rw [e0] at c0
  rw [e1] at c1
  rw [e2] at c2
  have HC := Lib.hid (show T.idCode d = T.be a 1 ++ T.be b 2 ++ T.be c 3 by rw [T.idCode, e0, e1, e2]; rfl)
  have l0 := T.be_len a 1
  have l1 := T.be_len b 2
  have l2 := T.be_len c 3
  have H0 := Lib.hid (fun x : BW W0 => rnum1_c a (by omega) x.1)
  have H1 := Lib.hid (fun x : BW W0 => rnum2_c b (by omega) x.1)
  have H2 := Lib.hid (fun x : BW W0 => rnum3_c c (by omega) x.1)
  have HW := Lib.hid hW0
  clear hW0 rD hd hdd e0 e1 e2
  go_enter Tryd.func42, Tryd.ntmps42
  go_wp2
  rw [← HW.out]
  refine wp_region_calm (by kernel_rfl) (by kernel_rfl) ?_
  repeat ((fail_if_success (with_reducible refine wpQuiet_nil ?_)); (first | go_big_quiet_skip | go_big_quiet_step ((go_at_call 75; first | with_reducible exact calm_of (H0.out _) | with_reducible exact calm_of (H1.out _) | with_reducible exact calm_of (H2.out _)))))
  refine wpQuiet_nil ?_
  rintro _ ⟨⟨X, hX⟩, rfl⟩
  go_wp2
  go_ret
  exact ⟨by simp only [ByteArray.mk_append_mk]; rw [HC.out]; rfl, hB0.trans (hX.mono hB0.size)⟩
set_option maxRecDepth 100000 in
set_option maxHeartbeats 1000000 in
theorem keyCode_c (k : Key) (hk : T.keyRight k = true) (w : World) : Calls Tryd.prog 39 #[.agg (Key.arr k)] w fun r w' => r = .returned (strV (T.keyCode k)) ∧ Below w.heap.size w w' := by
  simp only [T.keyRight, Bool.and_eq_true, decide_eq_true_eq] at hk
  obtain ⟨hk1, hk2, hk3⟩ := hk
  obtain ⟨a, ha⟩ : ∃ a : Nat, k.att = (a : Int) := ⟨k.att.toNat, by omega⟩
  obtain ⟨W0, hW0⟩ : ∃ W0, W0 = w.alloc (Obj.cells (Key.arr k) 46) := ⟨_, rfl⟩
  have hB0 : Below w.heap.size w W0 := by rw [hW0]; exact (Below.refl _ w).alloc (Nat.le_refl _) _
  have hz0 : w.heap.size < W0.heap.size := by rw [hW0]; simp
  have rK : rowAt W0 w.heap.size 0 4 = some (Key.arr k) := by rw [hW0]; exact rowAt_new _ _ _ _ _ rfl
  have rI : rowAt W0 w.heap.size 0 3 = some (Id.arr k.id) := (rowAt_part rK 0 3 (by omega)).trans (congrArg some (Key.part_id k))
  have c3 : W0.cell? ⟨w.heap.size, 3, none⟩ = some (.int .i64 k.att) := rowAt_cell rK 3 (by omega)
  rw [ha] at c3
  have HC := Lib.hid (show T.keyCode k = T.idCode k.id ++ T.be a 1 by rw [T.keyCode, ha]; rfl)
  have l0 := T.idCode_len k.id
  have l1 := T.be_len a 1
  have H0 := Lib.hid (fun x : BW W0 => code_c k.id hk1 x.1)
  have H1 := Lib.hid (fun x : BW W0 => num1_c a (by omega) x.1)
  have HW := Lib.hid hW0
  clear hW0 rK hk1 hk2 hk3 ha
  go_enter Tryd.func39, Tryd.ntmps39
  go_wp2
  rw [← HW.out]
  refine wp_region_calm (by kernel_rfl) (by kernel_rfl) ?_
  repeat ((fail_if_success (with_reducible refine wpQuiet_nil ?_)); (first | go_big_quiet_skip | (refine wpQuiet_load_at (by rfl) 38 _ rfl _ 0 3 rfl _ _ rI rfl rfl rfl ?_; simp only [Act.put, List.setIfInBounds_toArray, List.set_cons_succ, List.set_cons_zero]) | go_big_quiet_step ((first | (go_at_call 41; exact calm_of (H0.out _)) | (go_at_call 74; exact calm_of (H1.out _))))))
  refine wpQuiet_nil ?_
  rintro _ ⟨⟨X, hX⟩, rfl⟩
  go_wp2
  go_ret
  exact ⟨by simp only [ByteArray.mk_append_mk]; rw [HC.out]; rfl, hB0.trans (hX.mono hB0.size)⟩
set_option maxRecDepth 100000 in
set_option maxHeartbeats 1000000 in
theorem rkeyCode_c (k : Key) (hk : T.keyRight k = true) (w : World) : Calls Tryd.prog 40 #[.agg (Key.arr k)] w fun r w' => r = .returned (strV (T.keyCode k)) ∧ Below w.heap.size w w' := by
  simp only [T.keyRight, Bool.and_eq_true, decide_eq_true_eq] at hk
  obtain ⟨hk1, hk2, hk3⟩ := hk
  obtain ⟨a, ha⟩ : ∃ a : Nat, k.att = (a : Int) := ⟨k.att.toNat, by omega⟩
  obtain ⟨W0, hW0⟩ : ∃ W0, W0 = w.alloc (Obj.cells (Key.arr k) 46) := ⟨_, rfl⟩
  have hB0 : Below w.heap.size w W0 := by rw [hW0]; exact (Below.refl _ w).alloc (Nat.le_refl _) _
  have hz0 : w.heap.size < W0.heap.size := by rw [hW0]; simp
  have rK : rowAt W0 w.heap.size 0 4 = some (Key.arr k) := by rw [hW0]; exact rowAt_new _ _ _ _ _ rfl
  have rI : rowAt W0 w.heap.size 0 3 = some (Id.arr k.id) := (rowAt_part rK 0 3 (by omega)).trans (congrArg some (Key.part_id k))
  have c3 : W0.cell? ⟨w.heap.size, 3, none⟩ = some (.int .i64 k.att) := rowAt_cell rK 3 (by omega)
  rw [ha] at c3
  have HC := Lib.hid (show T.keyCode k = T.idCode k.id ++ T.be a 1 by rw [T.keyCode, ha]; rfl)
  have l0 := T.idCode_len k.id
  have l1 := T.be_len a 1
  have H0 := Lib.hid (fun x : BW W0 => rcode_c k.id hk1 x.1)
  have H1 := Lib.hid (fun x : BW W0 => rnum1_c a (by omega) x.1)
  have HW := Lib.hid hW0
  clear hW0 rK hk1 hk2 hk3 ha
  go_enter Tryd.func40, Tryd.ntmps40
  go_wp2
  rw [← HW.out]
  refine wp_region_calm (by kernel_rfl) (by kernel_rfl) ?_
  repeat ((fail_if_success (with_reducible refine wpQuiet_nil ?_)); (first | go_big_quiet_skip | (refine wpQuiet_load_at (by rfl) 38 _ rfl _ 0 3 rfl _ _ rI rfl rfl rfl ?_; simp only [Act.put, List.setIfInBounds_toArray, List.set_cons_succ, List.set_cons_zero]) | go_big_quiet_step ((first | (go_at_call 42; exact calm_of (H0.out _)) | (go_at_call 75; exact calm_of (H1.out _))))))
  refine wpQuiet_nil ?_
  rintro _ ⟨⟨X, hX⟩, rfl⟩
  go_wp2
  go_ret
  exact ⟨by simp only [ByteArray.mk_append_mk]; rw [HC.out]; rfl, hB0.trans (hX.mono hB0.size)⟩
end
end Go.Proofs.YtcncmbcnekekdaaDoor
