/- ScriptBack: its walk. -/
import Derived.Test.YtpgdgboobnmjiaaDoorSBackP
import Derived.Test.YtpgdgboobnmjiaaDoorAwake30
import Derived.Test.YtpgdgboobnmjiaaDoorRow
namespace Go.Proofs.YtpgdgboobnmjiaaDoor
open Go.RowKit Go.Shelf
set_option linter.unusedVariables false
set_option linter.unusedSimpArgs false
attribute [local go_sem high] eqTStep
attribute [local go_sem] Step.sz bw_cell
set_option maxRecDepth 100000 in
set_option maxHeartbeats 8000000 in
theorem scriptBack_g (v : Value) (xs : List Step) (w : World) (he : Env w) (h : Sl Step.arr 5 w.heap.size w v xs) (hok : ∀ x ∈ xs, Step.ok x) (_ : xs.length * 40 ≤ 140737488351232) :
    Calls Tryd.prog 5 #[v] w fun e w' => e = .returned (.bool true) ∧ Below w.heap.size w w' := by
  obtain ⟨A, cap, rfl, hcap, hl1, hl2⟩ := h.view
  have HEV := Lib.hid (fun (X : World) (hX : Below w.heap.size w X) => awake30_c X (he.below hX))
  have HOK := Lib.hid hok
  clear hok
  by_cases h5 : xs.length ≤ 500
  · have h1 : ¬ (500 : Int) < xs.length := by omega
    go_enter Tryd.func5, Tryd.ntmps5
    go_wp2
    go_loopw [3] (fun i wr => ∃ k : Nat, k ≤ xs.length ∧ i = .int .i64 (k : Int) ∧ Hid (∀ x ∈ xs.take k, T.stepRight x = true) ∧ Below w.heap.size w wr) (fun i _ => xs.length - (intOf i).toNat)
    case atStart => exact ⟨0, Nat.zero_le _, rfl, Lib.hid (by simp), Below.refl _ _⟩
    case round =>
      obtain ⟨k, hk, rfl, hri, hB⟩ := hrel
      have hBz := hB.size
      by_cases hkl : k < xs.length
      · have hkI : (k : Int) < (xs.length : Int) := by omega
        have hS := (h.below hB).mono hBz
        obtain ⟨b, off, hA, hb, hrow, _⟩ := hS.at hkl
        subst hA
        obtain ⟨x, hx⟩ : ∃ x, x = xs[k] := ⟨_, rfl⟩
        rw [← hx] at hrow
        have hxo := HOK.out x (by rw [hx]; exact List.getElem_mem _)
        have hwk : IntKind.i64.wrap ((k : Int) + 1) = (k : Int) + 1 := IntWalk.i64_in _ (by omega)
        have R1 := fun X : World => stepRight_c x X
        have HX := Lib.hid hx
        clear hx
        rcases hr : T.stepRight x with _ | _
        · rw [hr] at R1
          clear hr
          go_upto_region 7 with (first | (refine wpList_load_at_v 24 _ rfl rfl _ (off + k * 5) 5 rfl _ _ hrow rfl rfl rfl ?_) | (go_at_call 16; (with_reducible refine (R1 _).mono ?_); rintro r w2 ⟨rfl, hb2⟩))
          have hB2 := bthen hB hb2
          have hrow2 := (rowAt_block (hb2.block b hb)).trans hrow
          have H3 := Lib.hid (fun X : BW w2 => stepText_c x hxo X.1 ((he.below hB2).tab.below X.2))
          have H4 := Lib.hid (fun X : World => rstepText_c x hxo X)
          have H5 := Lib.hid (fun X : World => theirs_c x X)
          have H6 := Lib.hid (fun X : BW w2 => HEV.out X.1 (bthen hB2 X.2))
          clear hrow hS R1
          refine wp_region_calm (by kernel_rfl) (by kernel_rfl) ?_
          repeat ((fail_if_success (with_reducible refine wpQuiet_nil ?_)); (first | go_big_quiet_skip | (refine wpQuiet_load_at (by rfl) 24 _ rfl _ (off+k*5) 5 rfl _ _ hrow2 rfl rfl rfl ?_; simp only [Act.put, List.setIfInBounds_toArray, List.set_cons_succ, List.set_cons_zero]) | go_big_quiet_step ((first | (go_at_call 17; exact calm_of (H3.out _)) | (go_at_call 21; exact calm_of (H4.out _)) | (go_at_call 15; exact calm_of (H5.out _)) | (go_at_call 12; exact calm_of (H6.out _))))))
          refine wpQuiet_nil ?_
          rintro _ ⟨⟨X, hX⟩, rfl⟩
          go_wp2
          go_ret
          exact ⟨rfl, bthen hB2 hX⟩
        · rw [hr] at R1
          have hri2 := Lib.hid (show ∀ y ∈ xs.take (k + 1), T.stepRight y = true by
            intro y hy
            rw [List.take_succ_eq_append_getElem hkl, List.mem_append, List.mem_singleton, ← HX.out] at hy
            rcases hy with hy | rfl
            · exact hri.out y hy
            · exact hr)
          clear hr hri
          go_wp2_with (first | (refine wpList_load_at_v 24 _ rfl rfl _ (off + k * 5) 5 rfl _ _ hrow rfl rfl rfl ?_) | (go_at_call 16; (with_reducible refine (R1 _).mono ?_); rintro r w2 ⟨rfl, hb2⟩))
          go_roundw
          case rel => exact ⟨k + 1, by omega, by go_num, hri2, bthen hB hb2⟩
          case measure => simp [intOf] <;> omega
      · have hkI : ¬ (k : Int) < (xs.length : Int) := by omega
        have hall := hri.out
        rw [List.take_of_length_le (by omega)] at hall
        have hS := (h.below hB).mono hBz
        have hln := slines_c _ xs wr hS HOK.out (by omega) (he.below hB)
        have htl := T.scriptText_len xs HOK.out
        have hrd := fun (X : World) (hX : Below wr.heap.size wr X) => read_c (T.scriptText xs) (by omega) X ((he.below hB).below hX)
        unfold ReadPost at hrd
        rw [T.read_texts xs hall] at hrd
        obtain ⟨tx, htx⟩ : ∃ tx, tx = T.scriptText xs := ⟨_, rfl⟩
        rw [← htx] at hln hrd
        have HRD := Lib.hid hrd
        clear hall hri htx hrd htl
        by_cases h4 : xs.length ≤ 400
        · have hrd := fun (X : World) (hX : Below wr.heap.size wr X) => HRD.out X hX
          simp only [if_pos h4] at hrd
          have h4I : ¬ (400 : Int) < xs.length := by omega
          clear h4 HRD
          go_upto_region 9 with (first | (go_at_call 22; (with_reducible refine hln.mono ?_); rintro r w2 ⟨rfl, hb2⟩) | (go_at_call 18; (with_reducible refine (hrd _ hb2).mono ?_); rintro r w3 ⟨u, rfl, hu, hb3⟩))
          have hB3 := bthen (bthen hB hb2) hb3
          have hSu := hu.sl Step.sz
          obtain ⟨A2, cap2, rfl, _, _, _⟩ := hSu.view
          have hS3 := (h.below hB3).mono hB3.size
          clear hln hrd hu hS
          go_wp2
          go_loopw [7] (fun i wr2 => ∃ k : Nat, k ≤ xs.length ∧ i = .int .i64 (k : Int) ∧ Below w3.heap.size w3 wr2) (fun i _ => xs.length - (intOf i).toNat)
          case atStart => exact ⟨0, Nat.zero_le _, rfl, Below.refl _ _⟩
          case round =>
            obtain ⟨j, hj, rfl, hB4⟩ := hrel
            have hBz4 := hB4.size
            by_cases hjl : j < xs.length
            · have hjI : (j : Int) < (xs.length : Int) := by omega
              obtain ⟨b, off, hA, hb, hrow, _⟩ := ((hS3.below hB4).mono hBz4).at hjl
              subst hA
              obtain ⟨b', off', hA', hb', hrow', _⟩ := ((hSu.below hB4).mono hBz4).at hjl
              subst hA'
              obtain ⟨x, hx⟩ : ∃ x, x = xs[j] := ⟨_, rfl⟩
              rw [← hx] at hrow hrow'
              have hwk : IntKind.i64.wrap ((j : Int) + 1) = (j : Int) + 1 := IntWalk.i64_in _ (by omega)
              clear hx hS3 hSu
              go_wp2
              refine wp_region_calm (by kernel_rfl) (by kernel_rfl) ?_
              repeat ((fail_if_success (with_reducible refine wpQuiet_nil ?_)); (first | go_big_quiet_skip | (refine wpQuiet_load_at (by rfl) 24 _ rfl _ (off+j*5) 5 rfl _ _ hrow rfl rfl rfl ?_; simp only [Act.put, List.setIfInBounds_toArray, List.set_cons_succ, List.set_cons_zero]) | (refine wpQuiet_load_at (by rfl) 24 _ rfl _ (off'+j*5) 5 rfl _ _ hrow' rfl rfl rfl ?_; simp only [Act.put, List.setIfInBounds_toArray, List.set_cons_succ, List.set_cons_zero]) | go_big_quiet_step (fail)))
              refine wpQuiet_nil ?_
              rintro _ ⟨⟨X, hX⟩, rfl⟩
              go_wp2
              go_roundw
              case rel => exact ⟨j + 1, by omega, by go_num, bthen hB4 hX⟩
              case measure => simp [intOf] <;> omega
            · have hjI : ¬ (j : Int) < (xs.length : Int) := by omega
              have haw := HEV.out _ (bthen hB3 hB4)
              go_wp2_with (go_at_call 12; (with_reducible refine haw.mono ?_); rintro r w6 ⟨rfl, hb6⟩)
              go_ret
              exact ⟨rfl, bthen (bthen hB3 hB4) hb6⟩
        · have hrd := fun (X : World) (hX : Below wr.heap.size wr X) => HRD.out X hX
          simp only [if_neg h4] at hrd
          have h4I : (400 : Int) < xs.length := by omega
          clear h4 HRD
          go_upto_region 9 with (first | (go_at_call 22; (with_reducible refine hln.mono ?_); rintro r w2 ⟨rfl, hb2⟩) | (go_at_call 18; (with_reducible refine (hrd _ hb2).mono ?_); rintro r w3 ⟨u, rfl, hu, hb3⟩))
          have hB3 := bthen (bthen hB hb2) hb3
          obtain ⟨A2, m, cap2, rfl⟩ := hu.shape
          obtain rfl : m = 0 := hu.cnt
          have haw := HEV.out _ hB3
          clear hln hrd hu hS
          go_wp2_with (go_at_call 12; (with_reducible refine haw.mono ?_); rintro r w6 ⟨rfl, hb6⟩)
          go_ret
          exact ⟨rfl, bthen hB3 hb6⟩
  · have h1 : (500 : Int) < xs.length := by omega
    have haw := HEV.out w (Below.refl _ _)
    go_enter Tryd.func5, Tryd.ntmps5
    go_wp2_with (go_at_call 12; (with_reducible refine haw.mono ?_); rintro r w6 ⟨rfl, hb6⟩)
    go_ret
    exact ⟨rfl, hb6⟩
end Go.Proofs.YtpgdgboobnmjiaaDoor
