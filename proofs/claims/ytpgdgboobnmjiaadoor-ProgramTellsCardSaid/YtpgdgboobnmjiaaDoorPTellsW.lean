/- ProgramTells: its walk. -/
import Derived.Test.YtpgdgboobnmjiaaDoorPAwake
import Derived.Test.YtpgdgboobnmjiaaDoorPSame
import Derived.Test.YtpgdgboobnmjiaaDoorRow
namespace Go.Proofs.YtpgdgboobnmjiaaDoor
open Go.RowKit Go.Shelf
set_option linter.unusedVariables false
set_option linter.unusedSimpArgs false
attribute [local go_sem] GoOp.sz bw_cell
set_option maxRecDepth 100000 in
set_option maxHeartbeats 8000000 in
theorem programTells_g (v : Value) (xs : List GoOp) (a b : Int) (w : World) (he : Env w) (h : Sl GoOp.arr 3 w.heap.size w v xs) (hok : ∀ x ∈ xs, GoOp.ok x) (hz : xs.length * 24 ≤ 140737488351232) (_ : i64 a) (_ : i64 b) :
    Calls Tryd.prog 7 #[v, .int .i64 a, .int .i64 b] w fun e w' => e = .returned (.bool true) ∧ Below w.heap.size w w' := by
  obtain ⟨A, cap, rfl, hcap, hl1, hl2⟩ := h.view
  have HEV := Lib.hid (fun (X : World) (hX : Below w.heap.size w X) => awake22_c X (he.below hX))
  have HOK := Lib.hid hok
  clear hok
  by_cases h30 : xs.length ≤ 30
  · have h1 : ¬ (30 : Int) < xs.length := by omega
    go_enter Tryd.func7, Tryd.ntmps7
    go_wp2
    go_loopw [7] (fun i wr => ∃ k : Nat, k ≤ xs.length ∧ i = .int .i64 (k : Int) ∧ Below w.heap.size w wr) (fun i _ => xs.length - (intOf i).toNat)
    case atStart => exact ⟨0, Nat.zero_le _, rfl, Below.refl _ _⟩
    case round =>
      obtain ⟨k, hk, rfl, hB⟩ := hrel
      have hBz := hB.size
      by_cases hkl : k < xs.length
      · have hkI : (k : Int) < (xs.length : Int) := by omega
        obtain ⟨bb, off, hA, hb, hrow, _⟩ := ((h.below hB).mono hBz).at hkl
        subst hA
        obtain ⟨x, hx⟩ : ∃ x, x = xs[k] := ⟨_, rfl⟩
        rw [← hx] at hrow
        have hwk : IntKind.i64.wrap ((k : Int) + 1) = (k : Int) + 1 := IntWalk.i64_in _ (by omega)
        have H1 := Lib.hid (fun X : World => op_c x a b X)
        have H2 := Lib.hid (fun X : World => rop_c x a b X)
        clear hx
        go_wp2
        refine wp_region_calm (by kernel_rfl) (by kernel_rfl) ?_
        repeat ((fail_if_success (with_reducible refine wpQuiet_nil ?_)); (first | go_big_quiet_skip | (refine wpQuiet_load_at (by rfl) 51 _ rfl _ (off+k*3) 3 rfl _ _ hrow rfl rfl rfl ?_; simp only [Act.put, List.setIfInBounds_toArray, List.set_cons_succ, List.set_cons_zero]) | go_big_quiet_step ((first | (go_at_call 25; exact calm_of (H1.out _)) | (go_at_call 26; exact calm_of (H2.out _))))))
        refine wpQuiet_nil ?_
        rintro _ ⟨⟨X, hX⟩, rfl⟩
        go_wp2
        go_roundw
        case rel => exact ⟨k + 1, by omega, by go_num, bthen hB hX⟩
        case measure => simp [intOf] <;> omega
      · have hkI : ¬ (k : Int) < (xs.length : Int) := by omega
        have S (X : World) (hX : Below wr.heap.size wr X) : Sl GoOp.arr 3 X.heap.size X (.slice A xs.length cap) xs := (h.below (bthen hB hX)).mono (bthen hB hX).size
        have H1 := fun (X : World) (hX : Below wr.heap.size wr X) => pright_c _ xs a b X (S X hX) (by omega)
        have H2 := fun (X : World) (hX : Below wr.heap.size wr X) => rpright_c _ xs a b X (S X hX) (by omega)
        have H3 := fun (X : World) (hX : Below wr.heap.size wr X) => units_c _ xs X (S X hX) (by omega)
        have H4 := fun (X : World) (hX : Below wr.heap.size wr X) => runits_c _ xs X (S X hX) (by omega)
        have H5 := fun (X : World) (hX : Below wr.heap.size wr X) => ptext_c _ xs X (S X hX) HOK.out (by omega) (he.below (bthen hB hX)).tab
        have H6 := fun (X : World) (hX : Below wr.heap.size wr X) => rtext_c _ xs X (S X hX) HOK.out (by omega)
        have H7 := fun (X : World) (hX : Below wr.heap.size wr X) => HEV.out X (bthen hB hX)
        obtain ⟨tx, htx⟩ : ∃ tx, tx = T.progText xs := ⟨_, rfl⟩
        obtain ⟨un, hun⟩ : ∃ un, un = T.units xs := ⟨_, rfl⟩
        obtain ⟨pr, hpr⟩ : ∃ pr, pr = T.pright xs a b := ⟨_, rfl⟩
        rw [← htx] at H5 H6
        rw [← hun] at H3 H4
        rw [← hpr] at H1 H2
        clear htx hun hpr
        go_wp2_with (first | (go_at_call 27; (with_reducible refine (H1 _ (Below.refl _ _)).mono ?_); rintro r w1 ⟨rfl, hb1⟩) | (go_at_call 28; (with_reducible refine (H2 _ hb1).mono ?_); rintro r w2 ⟨rfl, hb2'⟩; have hb2 := bthen hb1 hb2') | (go_at_call 29; (with_reducible refine (H3 _ hb2).mono ?_); rintro r w3 ⟨rfl, hb3'⟩; have hb3 := bthen hb2 hb3') | (go_at_call 30; (with_reducible refine (H4 _ hb3).mono ?_); rintro r w4 ⟨rfl, hb4'⟩; have hb4 := bthen hb3 hb4') | (go_at_call 31; (with_reducible refine (H5 _ hb4).mono ?_); rintro r w5 ⟨rfl, hb5'⟩; have hb5 := bthen hb4 hb5') | (go_at_call 32; (with_reducible refine (H6 _ hb5).mono ?_); rintro r w6 ⟨rfl, hb6'⟩; have hb6 := bthen hb5 hb6') | (go_at_call 24; (with_reducible refine (H7 _ hb6).mono ?_); rintro r w7 ⟨rfl, hb7'⟩; have hb7 := bthen hb6 hb7'))
        go_ret
        exact ⟨rfl, bthen hB hb7⟩
  · have h1 : (30 : Int) < xs.length := by omega
    have haw := HEV.out w (Below.refl _ _)
    go_enter Tryd.func7, Tryd.ntmps7
    go_wp2_with (go_at_call 24; (with_reducible refine haw.mono ?_); rintro r w6 ⟨rfl, hb6⟩)
    go_ret
    exact ⟨rfl, hb6⟩
end Go.Proofs.YtpgdgboobnmjiaaDoor
