/- Programs alike, programs of known kinds: the document's comparison, the law's test. -/
import Derived.Test.YtmpjjmilodjecaaGreatDoorPText
namespace Go.Proofs.YtmpjjmilodjecaaGreatDoor
open Go.RowKit Go.Shelf
set_option linter.unusedVariables false
set_option linter.unusedSimpArgs false
attribute [local go_sem high] eqTGoOp
attribute [local go_sem] GoOp.sz bw_cell
set_option maxRecDepth 100000 in
set_option maxHeartbeats 4000000 in
theorem rsame22_c (u v : Value) (xs : List GoOp) (w : World) (hu : Sl GoOp.arr 3 w.heap.size w u xs) (hv : Sl GoOp.arr 3 w.heap.size w v xs) (hn : xs.length ≤ 1000000) :
    Calls Tryz.prog 75 #[u, v] w fun r w' => r = .returned (.bool true) ∧ Below w.heap.size w w' := by
  obtain ⟨A, cap, rfl, hcap, hl1, hl2⟩ := hu.view
  obtain ⟨A', cap', rfl, hcap', hl1', hl2'⟩ := hv.view
  go_enter Tryz.func75, Tryz.ntmps75
  go_wp2
  go_loopw [5] (fun i wr => ∃ k : Nat, k ≤ xs.length ∧ i = .int .i64 (k : Int) ∧ Below w.heap.size w wr) (fun i _ => xs.length - (intOf i).toNat)
  case atStart => exact ⟨0, Nat.zero_le _, rfl, Below.refl _ _⟩
  case round =>
    obtain ⟨k, hk, rfl, hB⟩ := hrel
    have hBz := hB.size
    by_cases hkl : k < xs.length
    · have hkI : (k : Int) < (xs.length : Int) := by omega
      have hS := (hu.below hB).mono hBz
      have hS' := (hv.below hB).mono hBz
      obtain ⟨b, off, hA, hb, hrow, _⟩ := hS.at hkl
      subst hA
      obtain ⟨b', off', hA', hb', hrow', _⟩ := hS'.at hkl
      subst hA'
      obtain ⟨x, hx⟩ : ∃ x, x = xs[k] := ⟨_, rfl⟩
      rw [← hx] at hrow hrow'
      have hwk : IntKind.i64.wrap ((k : Int) + 1) = (k : Int) + 1 := IntWalk.i64_in _ (by omega)
      clear hx hS hS'
      go_wp2
      refine wp_region_calm (by kernel_rfl) (by kernel_rfl) ?_
      repeat ((fail_if_success (with_reducible refine wpQuiet_nil ?_)); (first | go_big_quiet_skip | (refine wpQuiet_load_at (by rfl) 110 _ rfl _ (off+k*3) 3 rfl _ _ hrow rfl rfl rfl ?_; simp only [Act.put, List.setIfInBounds_toArray, List.set_cons_succ, List.set_cons_zero]) | (refine wpQuiet_load_at (by rfl) 110 _ rfl _ (off'+k*3) 3 rfl _ _ hrow' rfl rfl rfl ?_; simp only [Act.put, List.setIfInBounds_toArray, List.set_cons_succ, List.set_cons_zero]) | go_big_quiet_step (fail)))
      refine wpQuiet_nil ?_
      rintro _ ⟨⟨X, hX⟩, rfl⟩
      go_wp2
      go_roundw
      case rel => exact ⟨k + 1, by omega, by go_num, bthen hB hX⟩
      case measure => simp [intOf] <;> omega
    · have hkI : ¬ (k : Int) < (xs.length : Int) := by omega
      go_wp2
      go_ret
      exact ⟨rfl, hB⟩
end Go.Proofs.YtmpjjmilodjecaaGreatDoor
