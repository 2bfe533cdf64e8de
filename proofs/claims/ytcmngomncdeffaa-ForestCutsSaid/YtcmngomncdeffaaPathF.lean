/- Layer 36, the document's last. -/
import Derived.Test.YtcmngomncdeffaaPathE
namespace Go.Proofs.Ytcmngomncdeffaa
open Go.RowKit
set_option linter.unusedVariables false
set_option linter.unusedSimpArgs false
attribute [local go_sem] Item.sz Item.at13 Item.at14 Item.at15

theorem T.upI_lt (xs : List Item) (k : Nat) : -1 ≤ T.upI xs k ∧ T.upI xs k < k := by
  unfold T.upI T.up
  cases hx : xs[k]? with
  | none => simp <;> omega
  | some x =>
    simp only
    cases hl : T.lastKey xs x.parent k with
    | none => simp <;> omega
    | some j => have := (T.lastKey_lt _ _ _ _ hl).1; simp <;> omega
def T.kidTo (xs : List Item) (i m : Nat) : List Nat := (List.range m).filter fun k => decide (T.upI xs k = (i : Int))
theorem T.kidTo_start (xs : List Item) (i : Nat) : T.kidTo xs i (i + 1) = [] := by
  simp only [T.kidTo, List.filter_eq_nil_iff, List.mem_range, decide_eq_true_eq]
  intro k hk h
  have := T.upI_lt xs k
  omega
theorem T.kidTo_hit (xs : List Item) (i m : Nat) (h : T.upI xs m = i) : T.kidTo xs i (m + 1) = T.kidTo xs i m ++ [m] := by simp [T.kidTo, List.range_succ, h]
theorem T.kidTo_miss (xs : List Item) (i m : Nat) (h : ¬ T.upI xs m = i) : T.kidTo xs i (m + 1) = T.kidTo xs i m := by simp [T.kidTo, List.range_succ, h]
theorem T.above_up (xs : List Item) (k : Nat) (hk : k < xs.length) : T.above xs (k : Int) = T.upI xs k := by
  rw [T.above, if_pos (by omega)]; simp
theorem T.kidTo_fold_miss (xs : List Item) (i m : Nat) (f t a : Int) (ha : a = (T.kidTo xs i m).foldl (T.lstep xs f t) (-1)) (h : ¬ T.upI xs m = i) : (T.kidTo xs i (m + 1)).foldl (T.lstep xs f t) (-1) = a := by rw [T.kidTo_miss xs i m h, ha]
theorem T.kidTo_fold_hit (xs : List Item) (i m : Nat) (f t a : Int) (ha : a = (T.kidTo xs i m).foldl (T.lstep xs f t) (-1)) (h : T.upI xs m = i) : (T.kidTo xs i (m + 1)).foldl (T.lstep xs f t) (-1) = T.lstep xs f t a m := by rw [T.kidTo_hit xs i m h, List.foldl_append, ← ha]; rfl
theorem cell_lt {w : World} {b o : Nat} {v : Value} (h : w.cell? ⟨b, o, none⟩ = some v) : b < w.heap.size := by
  unfold World.cell? at h
  cases hh : w.heap[b]? with
  | none => simp [hh] at h
  | some x => exact (Array.getElem?_eq_some_iff.1 hh).1
theorem bw_then {w2 W : World} (hb : Below w2.heap.size w2 W) {b o : Nat} {v : Value} (h : w2.cell? ⟨b, o, none⟩ = some v) : ∀ y : BW W, y.1.cell? ⟨b, o, none⟩ = some v := fun y => by
  have h1 := cell_lt h
  have h2 := (hb.cell (p := ⟨b, o, none⟩) h1).trans h
  exact (y.2.cell (p := ⟨b, o, none⟩) (cell_lt h2)).trans h2
set_option maxRecDepth 100000 in
set_option maxHeartbeats 4000000 in
theorem rlast_c (v : Value) (xs : List Item) (i : Nat) (hi : i < xs.length) (f t : Int) (w : World) (h : Sl Item.arr 17 w.heap.size w v xs) :
    Calls Try.prog 63 #[v, .int .i64 (i : Int), .int .i64 f, .int .i64 t] w fun e w' => e = .returned (.int .i64 (T.last xs i f t)) ∧ Below w.heap.size w w' := by
  obtain ⟨A, cap, rfl, hcap, hl1, hl2⟩ := h.view
  obtain ⟨b, off, rfl, hb, hrow, hall⟩ := h.at hi
  clear hrow
  go_enter Try.func63, Try.ntmps63
  go_wp2
  go_loopw [9, 10] (fun a j wr => ∃ (m : Nat) (a' : Int), i + 1 ≤ m ∧ m ≤ xs.length ∧ j = .int .i64 m ∧ a = .int .i64 a' ∧ (T.kidTo xs i m).foldl (T.lstep xs f t) (-1) = a' ∧ -1 ≤ a' ∧ a' < xs.length ∧ Below w.heap.size w wr) (fun _ j _ => xs.length - (intOf j).toNat)
  case atStart => exact ⟨i + 1, -1, by omega, by omega, by go_num, rfl, by rw [T.kidTo_start]; rfl, by omega, by omega, Below.refl _ _⟩
  case round =>
    obtain ⟨m, a, hm0, hm1, rfl, rfl, ha, ha1, ha2, hB⟩ := hrel
    by_cases hml : m < xs.length
    · obtain ⟨x, hx⟩ : ∃ x, x = xs[m] := ⟨_, rfl⟩
      have hxo : xs[m]? = some x := by rw [hx]; exact List.getElem?_eq_getElem hml
      have hrowx := (rowAt_block (hB.block b hb)).trans (hall m x hxo)
      have hsz := hB.size
      have HX := Lib.hid hxo
      have HA := Lib.hid ha.symm
      clear hx hxo ha
      have hS1 := (h.below hB).mono hsz
      have HS1 := Lib.hid hS1
      clear hS1
      go_wp2_with (first | (refine wpList_load_at rfl 56 _ rfl _ (off + m * 17) 17 rfl _ _ hrowx rfl rfl rfl ?_) | (refine wpList_store_new rfl _ _ _ rfl wr.heap.size (Item.arr x) _ _ rfl rfl rfl rfl rfl (Item.one x) ?_))
      obtain ⟨w2, hw2⟩ : ∃ w2, wr.alloc (Obj.cells (Item.arr x) 56) = w2 := ⟨_, rfl⟩
      have hr0 : rowAt w2 wr.heap.size 0 17 = some (Item.arr x) := by rw [← hw2]; exact rowAt_new _ _ _ _ _ rfl
      have hs2 : w2.heap.size = wr.heap.size + 1 := by rw [← hw2]; simp
      have hB2 : Below w.heap.size w w2 := by rw [← hw2]; exact hB.alloc hsz _
      have d13 := rowAt_cell hr0 13 (by omega)
      rw [Item.at13] at d13
      have d14 := rowAt_cell hr0 14 (by omega)
      rw [Item.at14] at d14
      have HLB := fun y : BW w2 => ((h.below hB2).below (y.2.mono hB2.size)).mono (Nat.le_trans hB2.size y.2.size)
      have HAb : ∀ y : BW w2, Calls Try.prog 50 #[.slice (some ⟨b, off, none⟩) xs.length cap, .int .i64 (m : Int)] y.1 fun e w' => e = .returned (.int .i64 (T.upI xs m)) ∧ Below y.1.heap.size y.1 w' := fun y => by have := rabove_c _ xs m y.1 (HLB y); rw [T.above_up xs m hml] at this; exact this
      have q1 := fun (y : BW w2) (o : Nat) => bw_cell y wr.heap.size o (by omega)
      have q3 := fun (y : BW w2) (o : Nat) => bw_cell y b o (by omega)
      rw [hw2]
      try simp only [Act.put]
      clear hw2 hrowx HLB HS1
      by_cases h0 : T.upI xs m = i
      case neg =>
        have h0' : (T.upI xs m != (i : Int)) = true := by simpa using h0
        have HC : ∀ W : World, Calls Try.prog 48 #[.agg (Item.arr x)] W fun e w' => e = .returned (.bool (T.counts x)) ∧ Below W.heap.size W w' := fun W => rcounts36_c x W
        refine wp_region_calm (by kernel_rfl) (by kernel_rfl) ?_
        repeat ((fail_if_success (with_reducible refine wpQuiet_nil ?_)); (first | go_big_quiet_skip | (refine wpQuiet_load_at (by rfl) 56 _ rfl _ 0 17 rfl _ _ hr0 rfl rfl rfl ?_; simp only [Act.put, List.setIfInBounds_toArray, List.set_cons_succ, List.set_cons_zero]) | go_big_quiet_step (first | (go_at_call 50; exact calm_of (HAb _)) | (go_at_call 48; exact calm_of (HC _)) | (go_at_call 64; exact calm_same (rlater_c _ _ _)))))
        refine wpQuiet_nil ?_
        rintro _ ⟨⟨w3, hb3⟩, rfl⟩
        go_wp2
        go_roundw
        case rel => exact ⟨m + 1, a, by omega, by omega, by go_num, rfl, by rw [T.kidTo_fold_miss xs i m f t a HA.out h0], by omega, by omega, bthen hB2 hb3⟩
        case measure => simp [intOf]; omega
      have HN := Lib.hid (T.kidTo_fold_hit xs i m f t a HA.out h0)
      rcases h1 : T.counts x with _ | _
      · have HC : ∀ W : World, Calls Try.prog 48 #[.agg (Item.arr x)] W fun e w' => e = .returned (.bool false) ∧ Below W.heap.size W w' := fun W => by have := rcounts36_c x W; rw [h1] at this; exact this
        refine wp_region_calm (by kernel_rfl) (by kernel_rfl) ?_
        repeat ((fail_if_success (with_reducible refine wpQuiet_nil ?_)); (first | go_big_quiet_skip | (refine wpQuiet_load_at (by rfl) 56 _ rfl _ 0 17 rfl _ _ hr0 rfl rfl rfl ?_; simp only [Act.put, List.setIfInBounds_toArray, List.set_cons_succ, List.set_cons_zero]) | go_big_quiet_step (first | (go_at_call 50; exact calm_of (HAb _)) | (go_at_call 48; exact calm_of (HC _)) | (go_at_call 64; exact calm_same (rlater_c _ _ _)))))
        refine wpQuiet_nil ?_
        rintro _ ⟨⟨w3, hb3⟩, rfl⟩
        go_wp2
        go_roundw
        case rel => exact ⟨m + 1, a, by omega, by omega, by go_num, rfl, by rw [HN.out, T.lstep_no xs f t a m x HX.out (by simp [T.cand, T.better, *])], by omega, by omega, bthen hB2 hb3⟩
        case measure => simp [intOf]; omega
      have HC : ∀ W : World, Calls Try.prog 48 #[.agg (Item.arr x)] W fun e w' => e = .returned (.bool true) ∧ Below W.heap.size W w' := fun W => by have := rcounts36_c x W; rw [h1] at this; exact this
      by_cases h2 : x.to_ ≤ t
      case neg =>
        have h2' : decide (t < x.to_) = true := by simp; omega
        refine wp_region_calm (by kernel_rfl) (by kernel_rfl) ?_
        repeat ((fail_if_success (with_reducible refine wpQuiet_nil ?_)); (first | go_big_quiet_skip | (refine wpQuiet_load_at (by rfl) 56 _ rfl _ 0 17 rfl _ _ hr0 rfl rfl rfl ?_; simp only [Act.put, List.setIfInBounds_toArray, List.set_cons_succ, List.set_cons_zero]) | go_big_quiet_step (first | (go_at_call 50; exact calm_of (HAb _)) | (go_at_call 48; exact calm_of (HC _)) | (go_at_call 64; exact calm_same (rlater_c _ _ _)))))
        refine wpQuiet_nil ?_
        rintro _ ⟨⟨w3, hb3⟩, rfl⟩
        go_wp2
        go_roundw
        case rel => exact ⟨m + 1, a, by omega, by omega, by go_num, rfl, by rw [HN.out, T.lstep_no xs f t a m x HX.out (by simp [T.cand, T.better, *])], by omega, by omega, bthen hB2 hb3⟩
        case measure => simp [intOf]; omega
      have h2' : decide (t < x.to_) = false := by simp; omega
      by_cases h3 : max x.from_ f < x.to_
      case neg =>
        have h3' : decide (x.to_ ≤ max x.from_ f) = true := by simp; omega
        refine wp_region_calm (by kernel_rfl) (by kernel_rfl) ?_
        repeat ((fail_if_success (with_reducible refine wpQuiet_nil ?_)); (first | go_big_quiet_skip | (refine wpQuiet_load_at (by rfl) 56 _ rfl _ 0 17 rfl _ _ hr0 rfl rfl rfl ?_; simp only [Act.put, List.setIfInBounds_toArray, List.set_cons_succ, List.set_cons_zero]) | go_big_quiet_step (first | (go_at_call 50; exact calm_of (HAb _)) | (go_at_call 48; exact calm_of (HC _)) | (go_at_call 64; exact calm_same (rlater_c _ _ _)))))
        refine wpQuiet_nil ?_
        rintro _ ⟨⟨w3, hb3⟩, rfl⟩
        go_wp2
        go_roundw
        case rel => exact ⟨m + 1, a, by omega, by omega, by go_num, rfl, by rw [HN.out, T.lstep_no xs f t a m x HX.out (by simp [T.cand, T.better, *])], by omega, by omega, bthen hB2 hb3⟩
        case measure => simp [intOf]; omega
      have h3' : decide (x.to_ ≤ max x.from_ f) = false := by simp; omega
      refine wp_region_calm (by kernel_rfl) (by kernel_rfl) ?_
      repeat ((fail_if_success (with_reducible refine wpQuiet_nil ?_)); (first | go_big_quiet_skip | (refine wpQuiet_load_at (by rfl) 56 _ rfl _ 0 17 rfl _ _ hr0 rfl rfl rfl ?_; simp only [Act.put, List.setIfInBounds_toArray, List.set_cons_succ, List.set_cons_zero]) | go_big_quiet_step (first | (go_at_call 50; exact calm_of (HAb _)) | (go_at_call 48; exact calm_of (HC _)) | (go_at_call 64; exact calm_same (rlater_c _ _ _)))))
      refine wpQuiet_nil ?_
      rintro _ ⟨⟨w3, hb3⟩, rfl⟩
      go_wp2
      by_cases h4 : a = -1
      case pos =>
        subst h4
        refine wp_region_calm (by kernel_rfl) (by kernel_rfl) ?_
        repeat ((fail_if_success (with_reducible refine wpQuiet_nil ?_)); (first | go_big_quiet_skip | go_big_quiet_step (fail)))
        refine wpQuiet_nil ?_
        rintro _ ⟨⟨w4, hb4⟩, rfl⟩
        go_wp2
        go_roundw
        case rel => exact ⟨m + 1, (m : Int), by omega, by omega, by go_num, rfl, by rw [HN.out, T.lstep_yes xs f t (-1) m x HX.out (by simp [T.cand, T.better, *])], by omega, by omega, bthen (bthen hB2 hb3) hb4⟩
        case measure => simp [intOf]; omega
      obtain ⟨a', rfl⟩ : ∃ n : Nat, a = n := ⟨a.toNat, by omega⟩
      have h4' : ((a' : Int) == -1) = false := by simp <;> omega
      have hal : a' < xs.length := by omega
      obtain ⟨z, hz⟩ : ∃ z, z = xs[a'] := ⟨_, rfl⟩
      have d14a := rowAt_cell ((rowAt_block (hB2.block b (by omega))).trans (hall a' z (by rw [hz]; exact List.getElem?_eq_getElem hal))) 14 (by omega)
      rw [Item.at14] at d14a
      have HT := Lib.hid (show T.toOf xs (a' : Int) = z.to_ by simp [T.toOf, hz, hal])
      clear hz hall
      have r1 := bw_then hb3 d14
      have r2 := bw_then hb3 d14a
      have h4n : decide ((a' : Int) = -1) = false := by simp <;> omega
      by_cases h5 : z.to_ ≤ x.to_
      · skip
        refine wp_region_calm (by kernel_rfl) (by kernel_rfl) ?_
        repeat ((fail_if_success (with_reducible refine wpQuiet_nil ?_)); (first | go_big_quiet_skip | go_big_quiet_step (fail)))
        refine wpQuiet_nil ?_
        rintro _ ⟨⟨w4, hb4⟩, rfl⟩
        go_wp2
        go_roundw
        case rel => exact ⟨m + 1, (m : Int), by omega, by omega, by go_num, rfl, by rw [HN.out, T.lstep_yes xs f t a' m x HX.out (by simp [T.cand, T.better, HT.out, *])], by omega, by omega, bthen (bthen hB2 hb3) hb4⟩
        case measure => simp [intOf]; omega
      · have h5' : decide (z.to_ ≤ x.to_) = false := by simp <;> omega
        refine wp_region_calm (by kernel_rfl) (by kernel_rfl) ?_
        repeat ((fail_if_success (with_reducible refine wpQuiet_nil ?_)); (first | go_big_quiet_skip | go_big_quiet_step (fail)))
        refine wpQuiet_nil ?_
        rintro _ ⟨⟨w4, hb4⟩, rfl⟩
        go_wp2
        go_roundw
        case rel => exact ⟨m + 1, (a' : Int), by omega, by omega, by go_num, rfl, by rw [HN.out, T.lstep_no xs f t a' m x HX.out (by simp [T.cand, T.better, HT.out, *])], by omega, by omega, bthen (bthen hB2 hb3) hb4⟩
        case measure => simp [intOf]; omega
    · have hme : m = xs.length := by omega
      have HA := Lib.hid (show T.last xs i f t = a by rw [← ha, hme]; rfl)
      clear ha
      go_wp2
      go_ret
      exact ⟨ret_int HA.out.symm, hB⟩
end Go.Proofs.Ytcmngomncdeffaa
