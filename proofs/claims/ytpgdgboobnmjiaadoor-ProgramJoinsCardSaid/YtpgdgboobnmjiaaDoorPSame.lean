/- Programs alike, programs of known kinds: the document's comparison, the law's test. -/
import Derived.Test.YtpgdgboobnmjiaaDoorPText
namespace Go.Proofs.YtpgdgboobnmjiaaDoor
open Go.RowKit Go.Shelf
set_option linter.unusedVariables false
set_option linter.unusedSimpArgs false
attribute [local go_sem high] eqTGoOp
attribute [local go_sem] GoOp.sz bw_cell
set_option maxRecDepth 100000 in
set_option maxHeartbeats 4000000 in
theorem rsame22_c (u v : Value) (xs : List GoOp) (w : World) (hu : Sl GoOp.arr 3 w.heap.size w u xs) (hv : Sl GoOp.arr 3 w.heap.size w v xs) (hn : xs.length ≤ 1000000) :
    Calls Tryd.prog 35 #[u, v] w fun r w' => r = .returned (.bool true) ∧ Below w.heap.size w w' := by
  obtain ⟨A, cap, rfl, hcap, hl1, hl2⟩ := hu.view
  obtain ⟨A', cap', rfl, hcap', hl1', hl2'⟩ := hv.view
  go_enter Tryd.func35, Tryd.ntmps35
  go_wp2
  go_loopw [5] (fun i wr => ∃ k : Nat, k ≤ xs.length ∧ i = .int .i64 (k : Int) ∧ Below w.heap.size w wr) (fun i _ => xs.length - (intOf i).toNat)
  case atStart => exact ⟨0, Nat.zero_le _, rfl, Below.refl _ _⟩
  case round =>
    obtain ⟨k, hk, rfl, hB⟩ := hrel
    have hBz := hB.size
    by_cases hkl : k < xs.length
    · have hkI : (k : Int) < (xs.length : Int) := by omega
      have hS := (hu.below hB).mono hBz
      have hS' := (hv.below hB).mono hBz
      obtain ⟨b, off, hA, hb, hrow, _⟩ := hS.at hkl
      subst hA
      obtain ⟨b', off', hA', hb', hrow', _⟩ := hS'.at hkl
      subst hA'
      obtain ⟨x, hx⟩ : ∃ x, x = xs[k] := ⟨_, rfl⟩
      rw [← hx] at hrow hrow'
      have hwk : IntKind.i64.wrap ((k : Int) + 1) = (k : Int) + 1 := IntWalk.i64_in _ (by omega)
      clear hx hS hS'
      go_wp2
      refine wp_region_calm (by kernel_rfl) (by kernel_rfl) ?_
      repeat ((fail_if_success (with_reducible refine wpQuiet_nil ?_)); (first | go_big_quiet_skip | (refine wpQuiet_load_at (by rfl) 51 _ rfl _ (off+k*3) 3 rfl _ _ hrow rfl rfl rfl ?_; simp only [Act.put, List.setIfInBounds_toArray, List.set_cons_succ, List.set_cons_zero]) | (refine wpQuiet_load_at (by rfl) 51 _ rfl _ (off'+k*3) 3 rfl _ _ hrow' rfl rfl rfl ?_; simp only [Act.put, List.setIfInBounds_toArray, List.set_cons_succ, List.set_cons_zero]) | go_big_quiet_step (fail)))
      refine wpQuiet_nil ?_
      rintro _ ⟨⟨X, hX⟩, rfl⟩
      go_wp2
      go_roundw
      case rel => exact ⟨k + 1, by omega, by go_num, bthen hB hX⟩
      case measure => simp [intOf] <;> omega
    · have hkI : ¬ (k : Int) < (xs.length : Int) := by omega
      go_wp2
      go_ret
      exact ⟨rfl, hB⟩
set_option maxRecDepth 100000 in
set_option maxHeartbeats 4000000 in
theorem known_c (v : Value) (xs : List GoOp) (w : World) (h : Sl GoOp.arr 3 w.heap.size w v xs) (hn : xs.length ≤ 1000000) :
    Calls Tryd.prog 36 #[v] w fun r w' => r = .returned (.bool (xs.all T.known)) ∧ w' = w := by
  obtain ⟨A, cap, rfl, hcap, hl1, hl2⟩ := h.view
  go_enter Tryd.func36, Tryd.ntmps36
  go_wp2
  go_loop [3] (fun i => ∃ k : Nat, k ≤ xs.length ∧ i = .int .i64 (k : Int) ∧ Hid ((xs.take k).all T.known = true)) (fun i => xs.length - (intOf i).toNat)
  case atStart => exact ⟨0, Nat.zero_le _, rfl, Lib.hid rfl⟩
  case round =>
    obtain ⟨k, hk, rfl, hkn⟩ := hrel
    by_cases hkl : k < xs.length
    · have hkI : (k : Int) < (xs.length : Int) := by omega
      obtain ⟨bb, off, hA, hb, hrow, _⟩ := h.at hkl
      subst hA
      obtain ⟨x, hx⟩ : ∃ x, x = xs[k] := ⟨_, rfl⟩
      rw [← hx] at hrow
      have hmem : x ∈ xs := by rw [hx]; exact List.getElem_mem _
      have hknx : (xs.take (k + 1)).all T.known = ((xs.take k).all T.known && T.known x) := by rw [List.take_succ_eq_append_getElem hkl, List.all_append, ← hx]; simp
      have HM := Lib.hid hmem
      have HKN := Lib.hid hknx
      have hwk : IntKind.i64.wrap ((k : Int) + 1) = (k : Int) + 1 := IntWalk.i64_in _ (by omega)
      have c0 : w.cell? ⟨bb, off + k * 3, none⟩ = some (.int .i64 x.kind) := rowAt_cell hrow 0 (by omega)
      clear hx hrow hmem hknx
      obtain ⟨kd, hkd⟩ : ∃ kd, kd = x.kind := ⟨_, rfl⟩
      rw [← hkd] at c0
      by_cases hlow : kd < 1
      · have HR := Lib.hid (show xs.all T.known = false by
          rw [List.all_eq_false]; exact ⟨x, HM.out, by simp only [T.known, decide_eq_true_eq]; omega⟩)
        clear hkd HKN hkn
        go_wp2
        go_ret
        exact ⟨by rw [HR.out] <;> rfl, rfl⟩
      · by_cases hhi : 7 < kd
        · have HR := Lib.hid (show xs.all T.known = false by
            rw [List.all_eq_false]; exact ⟨x, HM.out, by simp only [T.known, decide_eq_true_eq]; omega⟩)
          clear hkd HKN hkn
          go_wp2
          go_ret
          exact ⟨by rw [HR.out] <;> rfl, rfl⟩
        · have hkn2 := Lib.hid (show (xs.take (k + 1)).all T.known = true by
            rw [HKN.out, hkn.out, Bool.true_and]; simp only [T.known, decide_eq_true_eq]; omega)
          clear hkd HKN hkn
          go_wp2
          go_round
          case rel => exact ⟨k + 1, by omega, by go_num, hkn2⟩
          case measure => simp [intOf] <;> omega
    · have hkI : ¬ (k : Int) < (xs.length : Int) := by omega
      have hall := hkn.out
      rw [List.take_of_length_le (by omega)] at hall
      have HR := Lib.hid hall
      clear hall hkn
      go_wp2
      go_ret
      exact ⟨by rw [HR.out] <;> rfl, rfl⟩
end Go.Proofs.YtpgdgboobnmjiaaDoor
