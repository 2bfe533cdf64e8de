/- IdentTells: its walk. -/
import Derived.Test.YtcncmbcnekekdaaDoorAwake07
import Derived.Test.YtcncmbcnekekdaaDoorCode
import Derived.Test.YtcncmbcnekekdaaDoorRow
namespace Go.Proofs.YtcncmbcnekekdaaDoor
open Go.RowKit Go.Shelf
set_option linter.unusedVariables false
set_option linter.unusedSimpArgs false
theorem BW.below {w : World} (x : BW w) : Below w.heap.size w x.1 := x.2
attribute [local go_sem] Key.sz Id.sz bw_cell
set_option maxRecDepth 100000 in
set_option maxHeartbeats 8000000 in
theorem identTells_w (a b : Key) (ha : Key.ok a) (w : World) (he : Env w) : Calls Tryd.prog 6 #[.agg (Key.arr a), .agg (Key.arr b)] w fun e w' => e = .returned (.bool true) ∧ Below w.heap.size w w' := by
  obtain ⟨W0, hW0⟩ : ∃ W0, W0 = (w.alloc (Obj.cells (Key.arr a) 46)).alloc (Obj.cells (Key.arr b) 46) := ⟨_, rfl⟩
  have hB0 : Below w.heap.size w W0 := by rw [hW0]; exact ((Below.refl _ w).alloc (Nat.le_refl _) _).alloc (by simp) _
  have hs0 : w.heap.size + 2 ≤ W0.heap.size := by rw [hW0]; simp
  have rA : rowAt W0 w.heap.size 0 4 = some (Key.arr a) := by rw [hW0, rowAt_alloc_old _ _ _ _ _ (by simp)]; exact rowAt_new _ _ _ _ _ rfl
  have rB : rowAt W0 (w.heap.size + 1) 0 4 = some (Key.arr b) := by rw [hW0]; exact rowAt_new _ _ _ _ _ (by simp)
  have iA : rowAt W0 w.heap.size 0 3 = some (Id.arr a.id) := (rowAt_part rA 0 3 (by omega)).trans (congrArg some (Key.part_id a))
  have iB : rowAt W0 (w.heap.size + 1) 0 3 = some (Id.arr b.id) := (rowAt_part rB 0 3 (by omega)).trans (congrArg some (Key.part_id b))
  have he0 := he.below hB0
  obtain ⟨x, hx⟩ : ∃ x, x = T.compare a.id b.id := ⟨_, rfl⟩
  obtain ⟨y, hy⟩ : ∃ y, y = T.keys a b := ⟨_, rfl⟩
  obtain ⟨r, hr⟩ : ∃ r, r = T.idRight a.id := ⟨_, rfl⟩
  obtain ⟨k, hk⟩ : ∃ k, k = T.keyRight a := ⟨_, rfl⟩
  have hkr : k = true → r = true := by rw [hk, hr]; intro h; simp only [T.keyRight, Bool.and_eq_true] at h; exact h.1
  have HC := Lib.hid (fun (X : World) (h : k = true) => (⟨keyCode_c a (hk ▸ h) X, rkeyCode_c a (hk ▸ h) X, code_c a.id (hr ▸ hkr h) X, rcode_c a.id (hr ▸ hkr h) X⟩ : _ ∧ _ ∧ _ ∧ _))
  have R1 := fun X : World => idRight_c a.id X
  have R2 := fun X : World => rIdRight_c a.id X
  have R3 := fun X : World => keyRight_c a X
  have R4 := fun X : World => rKeyRight_c a X
  have R9 := fun X : World => compare_c a.id b.id X
  have R10 := fun X : World => rcompare_c a.id b.id X
  have R11 := fun X : World => keys_c a b X
  have R12 := fun X : World => rkeys_c a b X
  rw [← hr] at R1 R2
  rw [← hk] at R3 R4
  rw [← hx] at R9 R10
  rw [← hy] at R11 R12
  have H1 := Lib.hid R1
  have H2 := Lib.hid R2
  have H3 := Lib.hid R3
  have H4 := Lib.hid R4
  have H5 := Lib.hid (fun X : BW W0 => idText_c a.id ha.1 X.1 (he0.tab.below X.2))
  have H6 := Lib.hid (fun X : BW W0 => rIdText_c a.id ha.1 X.1 (he0.tab.below X.2))
  have H7 := Lib.hid (fun X : BW W0 => keyText_c a ha X.1 (he0.tab.below X.2))
  have H8 := Lib.hid (fun X : BW W0 => rKeyText_c a ha X.1 (he0.tab.below X.2))
  have H9 := Lib.hid R9
  have H10 := Lib.hid R10
  have H11 := Lib.hid R11
  have H12 := Lib.hid R12
  have HW := Lib.hid hW0
  have HE := Lib.hid he0
  clear hW0 R1 R2 R3 R4 R9 R10 R11 R12 hx hy hr hk he he0
  rcases k with _ | _
  · clear HC
    rcases r with _ | _
    all_goals
      go_enter Tryd.func6, Tryd.ntmps6
      go_upto_region 1 with (fail)
      rw [← HW.out]
      refine wp_region_calm (by kernel_rfl) (by kernel_rfl) ?_
      repeat ((fail_if_success (with_reducible refine wpQuiet_nil ?_)); (first | go_big_quiet_skip | (refine wpQuiet_load_at (by rfl) 38 _ rfl _ 0 3 rfl _ _ iA rfl rfl rfl ?_; simp only [Act.put, List.setIfInBounds_toArray, List.set_cons_succ, List.set_cons_zero]) | (refine wpQuiet_load_at (by rfl) 46 _ rfl _ 0 4 rfl _ _ rA rfl rfl rfl ?_; simp only [Act.put, List.setIfInBounds_toArray, List.set_cons_succ, List.set_cons_zero]) | go_big_quiet_step ((first | (go_at_call 28; exact calm_of (H1.out _)) | (go_at_call 29; exact calm_of (H2.out _)) | (go_at_call 30; exact calm_of (H3.out _)) | (go_at_call 31; exact calm_of (H4.out _)) | (go_at_call 32; exact calm_of (H5.out _)) | (go_at_call 33; exact calm_of (H6.out _)) | (go_at_call 34; exact calm_of (H7.out _)) | (go_at_call 35; exact calm_of (H8.out _))))))
      refine wpQuiet_nil ?_
      rintro _ ⟨⟨X, hX⟩, rfl⟩
      have rA1 := (rowAt_block (hX.block w.heap.size (by omega))).trans rA
      have rB1 := (rowAt_block (hX.block (w.heap.size + 1) (by omega))).trans rB
      have iA1 := (rowAt_block (hX.block w.heap.size (by omega))).trans iA
      have iB1 := (rowAt_block (hX.block (w.heap.size + 1) (by omega))).trans iB
      have hzX := hX.size
      have HE1 := Lib.hid (HE.out.below hX)
      have hBX := bthen hB0 hX
      clear rA rB iA iB H1 H2 H3 H5 H6 H7 H8 hX
      go_wp2
      refine wp_region_calm (by kernel_rfl) (by kernel_rfl) ?_
      repeat ((fail_if_success (with_reducible refine wpQuiet_nil ?_)); (first | go_big_quiet_skip | (refine wpQuiet_load_at (by rfl) 38 _ rfl _ 0 3 rfl _ _ iA1 rfl rfl rfl ?_; simp only [Act.put, List.setIfInBounds_toArray, List.set_cons_succ, List.set_cons_zero]) | (refine wpQuiet_load_at (by rfl) 38 _ rfl _ 0 3 rfl _ _ iB1 rfl rfl rfl ?_; simp only [Act.put, List.setIfInBounds_toArray, List.set_cons_succ, List.set_cons_zero]) | (refine wpQuiet_load_at (by rfl) 46 _ rfl _ 0 4 rfl _ _ rA1 rfl rfl rfl ?_; simp only [Act.put, List.setIfInBounds_toArray, List.set_cons_succ, List.set_cons_zero]) | (refine wpQuiet_load_at (by rfl) 46 _ rfl _ 0 4 rfl _ _ rB1 rfl rfl rfl ?_; simp only [Act.put, List.setIfInBounds_toArray, List.set_cons_succ, List.set_cons_zero]) | go_big_quiet_step ((first | (go_at_call 36; exact calm_of (H9.out _)) | (go_at_call 37; exact calm_of (H10.out _)) | (go_at_call 27; exact calm_of (H11.out _)) | (go_at_call 38; exact calm_of (H12.out _)) | (go_at_call 31; exact calm_of (H4.out _)) | (go_at_call 26; exact calm_of (awake07_c _ (HE1.out.below (BW.below _))))))))
      refine wpQuiet_nil ?_
      rintro _ ⟨⟨Y, hY⟩, rfl⟩
      go_wp2
      go_ret
      exact ⟨rfl, bthen hBX hY⟩
  · have hr1 : r = true := hkr rfl
    subst hr1
    have C1 := Lib.hid (fun X : World => (HC.out X rfl).1)
    have C2 := Lib.hid (fun X : World => (HC.out X rfl).2.1)
    have C3 := Lib.hid (fun X : World => (HC.out X rfl).2.2.1)
    have C4 := Lib.hid (fun X : World => (HC.out X rfl).2.2.2)
    clear HC
    all_goals
      go_enter Tryd.func6, Tryd.ntmps6
      go_upto_region 1 with (fail)
      rw [← HW.out]
      refine wp_region_calm (by kernel_rfl) (by kernel_rfl) ?_
      repeat ((fail_if_success (with_reducible refine wpQuiet_nil ?_)); (first | go_big_quiet_skip | (refine wpQuiet_load_at (by rfl) 38 _ rfl _ 0 3 rfl _ _ iA rfl rfl rfl ?_; simp only [Act.put, List.setIfInBounds_toArray, List.set_cons_succ, List.set_cons_zero]) | (refine wpQuiet_load_at (by rfl) 46 _ rfl _ 0 4 rfl _ _ rA rfl rfl rfl ?_; simp only [Act.put, List.setIfInBounds_toArray, List.set_cons_succ, List.set_cons_zero]) | go_big_quiet_step ((first | (go_at_call 28; exact calm_of (H1.out _)) | (go_at_call 29; exact calm_of (H2.out _)) | (go_at_call 30; exact calm_of (H3.out _)) | (go_at_call 31; exact calm_of (H4.out _)) | (go_at_call 32; exact calm_of (H5.out _)) | (go_at_call 33; exact calm_of (H6.out _)) | (go_at_call 34; exact calm_of (H7.out _)) | (go_at_call 35; exact calm_of (H8.out _))))))
      refine wpQuiet_nil ?_
      rintro _ ⟨⟨X, hX⟩, rfl⟩
      have rA1 := (rowAt_block (hX.block w.heap.size (by omega))).trans rA
      have rB1 := (rowAt_block (hX.block (w.heap.size + 1) (by omega))).trans rB
      have iA1 := (rowAt_block (hX.block w.heap.size (by omega))).trans iA
      have iB1 := (rowAt_block (hX.block (w.heap.size + 1) (by omega))).trans iB
      have hzX := hX.size
      have HE1 := Lib.hid (HE.out.below hX)
      have hBX := bthen hB0 hX
      clear rA rB iA iB H1 H2 H3 H5 H6 H7 H8 hX
      go_wp2
      refine wp_region_calm (by kernel_rfl) (by kernel_rfl) ?_
      repeat ((fail_if_success (with_reducible refine wpQuiet_nil ?_)); (first | go_big_quiet_skip | (refine wpQuiet_load_at (by rfl) 38 _ rfl _ 0 3 rfl _ _ iA1 rfl rfl rfl ?_; simp only [Act.put, List.setIfInBounds_toArray, List.set_cons_succ, List.set_cons_zero]) | (refine wpQuiet_load_at (by rfl) 38 _ rfl _ 0 3 rfl _ _ iB1 rfl rfl rfl ?_; simp only [Act.put, List.setIfInBounds_toArray, List.set_cons_succ, List.set_cons_zero]) | (refine wpQuiet_load_at (by rfl) 46 _ rfl _ 0 4 rfl _ _ rA1 rfl rfl rfl ?_; simp only [Act.put, List.setIfInBounds_toArray, List.set_cons_succ, List.set_cons_zero]) | (refine wpQuiet_load_at (by rfl) 46 _ rfl _ 0 4 rfl _ _ rB1 rfl rfl rfl ?_; simp only [Act.put, List.setIfInBounds_toArray, List.set_cons_succ, List.set_cons_zero]) | go_big_quiet_step ((first | (go_at_call 36; exact calm_of (H9.out _)) | (go_at_call 37; exact calm_of (H10.out _)) | (go_at_call 27; exact calm_of (H11.out _)) | (go_at_call 38; exact calm_of (H12.out _)) | (go_at_call 31; exact calm_of (H4.out _)) | (go_at_call 39; exact calm_of (C1.out _)) | (go_at_call 40; exact calm_of (C2.out _)) | (go_at_call 41; exact calm_of (C3.out _)) | (go_at_call 42; exact calm_of (C4.out _)) | (go_at_call 26; exact calm_of (awake07_c _ (HE1.out.below (BW.below _))))))))
      refine wpQuiet_nil ?_
      rintro _ ⟨⟨Y, hY⟩, rfl⟩
      go_wp2
      go_ret
      exact ⟨rfl, bthen hBX hY⟩
theorem identTells_g (a b : Key) (W : World) (he : Env W) (ha : Key.ok a) (_ : Key.ok b) :
    Calls Tryd.prog 6 #[.agg (Key.arr a), .agg (Key.arr b)] W fun e w' => e = .returned (.bool true) ∧ Below W.heap.size W w' := identTells_w a b ha W he
end Go.Proofs.YtcncmbcnekekdaaDoor
