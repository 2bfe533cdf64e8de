/- ScriptTells: its walk. -/
import Derived.Test.YtcncmbcnekekdaaDoorAwake30
import Derived.Test.YtcncmbcnekekdaaDoorRow
namespace Go.Proofs.YtcncmbcnekekdaaDoor
open Go.RowKit Go.Shelf
set_option linter.unusedVariables false
set_option linter.unusedSimpArgs false
attribute [local go_sem] Step.sz bw_cell
set_option maxRecDepth 100000 in
set_option maxHeartbeats 8000000 in
theorem scriptTells_g (s : Step) (w : World) (he : Env w) (hok : Step.ok s) : Calls Tryd.prog 8 #[.agg (Step.arr s)] w fun e w' => e = .returned (.bool true) ∧ Below w.heap.size w w' := by
  obtain ⟨W0, hW0⟩ : ∃ W0, W0 = w.alloc (Obj.cells (Step.arr s) 60) := ⟨_, rfl⟩
  have hB0 : Below w.heap.size w W0 := by rw [hW0]; exact (Below.refl _ w).alloc (Nat.le_refl _) _
  have hs0 : w.heap.size < W0.heap.size := by rw [hW0]; simp
  have rA : rowAt W0 w.heap.size 0 5 = some (Step.arr s) := by rw [hW0]; exact rowAt_new _ _ _ _ _ rfl
  have he0 := he.below hB0
  obtain ⟨r, hr⟩ : ∃ r, r = T.stepRight s := ⟨_, rfl⟩
  have R1 := fun X : World => stepRight_c s X
  have R2 := fun X : World => rstepRight_c s X
  rw [← hr] at R1 R2
  have H1 := Lib.hid R1
  have H2 := Lib.hid R2
  have H3 := Lib.hid (fun X : BW W0 => stepText_c s hok X.1 (he0.tab.below X.2))
  have H4 := Lib.hid (fun X : World => rstepText_c s hok X)
  have H5 := Lib.hid (fun X : World => theirs_c s X)
  have H6 := Lib.hid (fun X : BW W0 => awake30_c X.1 (he0.below X.2))
  have HW := Lib.hid hW0
  clear hW0 R1 R2 hr he he0
  cases r
  all_goals
    go_enter Tryd.func8, Tryd.ntmps8
    go_upto_region 1 with (fail)
    rw [← HW.out]
    refine wp_region_calm (by kernel_rfl) (by kernel_rfl) ?_
    repeat ((fail_if_success (with_reducible refine wpQuiet_nil ?_)); (first | go_big_quiet_skip | (refine wpQuiet_load_at (by rfl) 60 _ rfl _ 0 5 rfl _ _ rA rfl rfl rfl ?_; simp only [Act.put, List.setIfInBounds_toArray, List.set_cons_succ, List.set_cons_zero]) | go_big_quiet_step ((first | (go_at_call 46; exact calm_of (H1.out _)) | (go_at_call 47; exact calm_of (H2.out _)) | (go_at_call 49; exact calm_of (H3.out _)) | (go_at_call 50; exact calm_of (H4.out _)) | (go_at_call 48; exact calm_of (H5.out _)) | (go_at_call 51; exact calm_of (H6.out _))))))
    refine wpQuiet_nil ?_
    rintro _ ⟨⟨X, hX⟩, rfl⟩
    go_wp2
    go_ret
    exact ⟨rfl, bthen hB0 hX⟩
end Go.Proofs.YtcncmbcnekekdaaDoor
