/- IdentRow: its walk. -/
import Derived.Test.YtcncmbcnekekdaaDoorAwake07
import Derived.Test.YtcncmbcnekekdaaDoorRow
namespace Go.Proofs.YtcncmbcnekekdaaDoor
open Go.RowKit Go.Shelf
set_option linter.unusedVariables false
set_option linter.unusedSimpArgs false
/-! The order turns round, and goes on. -/
theorem T.cmp_neg (a b : Int) : Lib.compareInt b a = -Lib.compareInt a b := by unfold Lib.compareInt; repeat' split <;> omega
theorem T.cmp_lt (a b : Int) : Lib.compareInt a b < 0 ↔ a < b := by unfold Lib.compareInt; split <;> (try split) <;> omega
theorem T.cmp_gt (a b : Int) : 0 < Lib.compareInt a b ↔ b < a := by unfold Lib.compareInt; split <;> (try split) <;> omega
theorem T.compare_neg (a b : Id) : T.compare b a = -T.compare a b := by
  simp only [T.compare, T.or, T.cmp_neg a.node b.node, T.cmp_neg a.inc b.inc, T.cmp_neg a.seq b.seq, Int.neg_eq_zero]
  repeat' split
  all_goals rfl
theorem T.keys_neg (a b : Key) : T.keys b a = -T.keys a b := by
  simp only [T.keys, T.or, T.compare_neg a.id b.id, T.cmp_neg a.att b.att, Int.neg_eq_zero]
  repeat' split
  all_goals rfl
theorem T.compare_le (a b : Id) : T.compare a b ≤ 0 ↔ a.node < b.node ∨ (a.node = b.node ∧ (a.inc < b.inc ∨ (a.inc = b.inc ∧ a.seq ≤ b.seq))) := by
  simp only [T.compare, T.or, T.cmp_zero]
  have h1 := T.cmp_gt a.node b.node
  have h2 := T.cmp_gt a.inc b.inc
  have h3 := T.cmp_gt a.seq b.seq
  split
  · split
    · split <;> omega
    · omega
  · omega
theorem T.keys_le (a b : Key) : T.keys a b ≤ 0 ↔ T.compare a.id b.id < 0 ∨ (a.id = b.id ∧ a.att ≤ b.att) := by
  have h1 := T.compare_zero a.id b.id
  have h2 := T.cmp_gt a.att b.att
  have h3 := T.cmp_zero a.att b.att
  simp only [T.keys, T.or]
  split
  · rename_i h
    have h4 := h1.1 h
    split
    · constructor
      · intro _; exact .inr ⟨h4, by omega⟩
      · omega
    · constructor
      · intro _; exact .inr ⟨h4, by omega⟩
      · rintro (h5 | ⟨_, h5⟩) <;> omega
  · rename_i h
    constructor
    · intro h5; exact .inl (by omega)
    · rintro (h5 | ⟨h5, _⟩)
      · omega
      · exact absurd (h1.2 h5) h
theorem T.id_eta {a b : Id} (h : a.node = b.node ∧ a.inc = b.inc ∧ a.seq = b.seq) : a = b := by
  obtain ⟨x, y, z⟩ := a
  obtain ⟨x', y', z'⟩ := b
  simp only at h
  simp [h.1, h.2.1, h.2.2]
theorem T.compare_lt (a b : Id) : T.compare a b < 0 ↔ a.node < b.node ∨ (a.node = b.node ∧ (a.inc < b.inc ∨ (a.inc = b.inc ∧ a.seq < b.seq))) := by
  simp only [T.compare, T.or, T.cmp_zero]
  have h1 := T.cmp_lt a.node b.node
  have h2 := T.cmp_lt a.inc b.inc
  have h3 := T.cmp_lt a.seq b.seq
  split
  · split
    · split <;> omega
    · omega
  · omega
theorem T.keys_trans (a b c : Key) (h1 : T.keys a b ≤ 0) (h2 : T.keys b c ≤ 0) : T.keys a c ≤ 0 := by
  rw [T.keys_le, T.compare_lt] at *
  rcases h1 with h1 | ⟨h1, h1'⟩
  · rcases h2 with h2 | ⟨h2, h2'⟩
    · left; omega
    · rw [← h2]; exact .inl h1
  · rw [h1]
    rcases h2 with h2 | ⟨h2, h2'⟩
    · exact .inl h2
    · exact .inr ⟨h2, by omega⟩
attribute [local go_sem high] eqTKey
attribute [local go_sem] Key.sz
set_option maxRecDepth 100000 in
set_option maxHeartbeats 4000000 in
theorem identRow_w (a b c : Key) (w : World) (he : Env w) : Calls Tryd.prog 5 #[.agg (Key.arr a), .agg (Key.arr b), .agg (Key.arr c)] w fun e w' => e = .returned (.bool true) ∧ Below w.heap.size w w' := by
  obtain ⟨W0, hW0⟩ : ∃ W0, W0 = ((w.alloc (Obj.cells (Key.arr a) 46)).alloc (Obj.cells (Key.arr b) 46)).alloc (Obj.cells (Key.arr c) 46) := ⟨_, rfl⟩
  have hB0 : Below w.heap.size w W0 := by rw [hW0]; exact (((Below.refl _ w).alloc (Nat.le_refl _) _).alloc (by simp) _).alloc (by simp; omega) _
  have hs0 : w.heap.size + 3 ≤ W0.heap.size := by rw [hW0]; simp
  have rA : rowAt W0 w.heap.size 0 4 = some (Key.arr a) := by rw [hW0, rowAt_alloc_old _ _ _ _ _ (by simp; omega), rowAt_alloc_old _ _ _ _ _ (by simp)]; exact rowAt_new _ _ _ _ _ rfl
  have rB : rowAt W0 (w.heap.size + 1) 0 4 = some (Key.arr b) := by rw [hW0, rowAt_alloc_old _ _ _ _ _ (by simp)]; exact rowAt_new _ _ _ _ _ (by simp)
  have rC : rowAt W0 (w.heap.size + 1 + 1) 0 4 = some (Key.arr c) := by rw [hW0]; exact rowAt_new _ _ _ _ _ (by simp)
  have HW := Lib.hid hW0
  have HE := Lib.hid (he.below hB0)
  obtain ⟨x, hx⟩ : ∃ x, x = T.keys a b := ⟨_, rfl⟩
  obtain ⟨y, hy⟩ : ∃ y, y = T.keys b c := ⟨_, rfl⟩
  obtain ⟨z, hz⟩ : ∃ z, z = T.keys a c := ⟨_, rfl⟩
  have K1 := Lib.hid (fun X : BW W0 => (by have := keys_c a b X.1; rw [← hx] at this; exact this : Calls Tryd.prog 27 #[.agg (Key.arr a), .agg (Key.arr b)] X.1 fun r w' => r = .returned (.int .i64 x) ∧ Below X.1.heap.size X.1 w'))
  have K2 := Lib.hid (fun X : BW W0 => (by have := keys_c b c X.1; rw [← hy] at this; exact this : Calls Tryd.prog 27 #[.agg (Key.arr b), .agg (Key.arr c)] X.1 fun r w' => r = .returned (.int .i64 y) ∧ Below X.1.heap.size X.1 w'))
  have K3 := Lib.hid (fun X : BW W0 => (by have := keys_c a c X.1; rw [← hz] at this; exact this : Calls Tryd.prog 27 #[.agg (Key.arr a), .agg (Key.arr c)] X.1 fun r w' => r = .returned (.int .i64 z) ∧ Below X.1.heap.size X.1 w'))
  have K4 := Lib.hid (fun X : World => (by have := keys_c b a X; rw [T.keys_neg a b, ← hx] at this; exact this : Calls Tryd.prog 27 #[.agg (Key.arr b), .agg (Key.arr a)] X fun r w' => r = .returned (.int .i64 (-x)) ∧ Below X.heap.size X w'))
  have hxb := T.keys_bound a b
  rw [← hx] at hxb
  have hxz := T.keys_zero a b
  rw [← hx] at hxz
  have htr := T.keys_trans a b c
  rw [← hx, ← hy, ← hz] at htr
  have hxe : (x == 0) = decide (a = b) := by rw [Bool.eq_iff_iff]; simpa using hxz
  clear hW0 hx hy hz he hxz
  have hcase : 0 < x ∨ (x ≤ 0 ∧ 0 < y) ∨ (x ≤ 0 ∧ y ≤ 0 ∧ z ≤ 0) := by omega
  have HT := Lib.hid htr
  clear htr
  have hdc : ∃ q : Bool, (x == 0) = q ∧ decide (a = b) = q := ⟨_, rfl, hxe.symm⟩
  clear hxe
  obtain ⟨q, hq1, hq2⟩ := hdc
  rcases hcase with h1 | ⟨h1, h2⟩ | ⟨h1, h2, h3⟩
  all_goals
    rcases q with _ | _
    all_goals
      go_enter Tryd.func5, Tryd.ntmps5
      go_wp2
      rw [← HW.out]
      refine wp_region_calm (by kernel_rfl) (by kernel_rfl) ?_
      repeat ((fail_if_success (with_reducible refine wpQuiet_nil ?_)); (first | go_big_quiet_skip | (refine wpQuiet_load_at (by rfl) 46 _ rfl _ 0 4 rfl _ _ rA rfl rfl rfl ?_; simp only [Act.put, List.setIfInBounds_toArray, List.set_cons_succ, List.set_cons_zero]) | (refine wpQuiet_load_at (by rfl) 46 _ rfl _ 0 4 rfl _ _ rB rfl rfl rfl ?_; simp only [Act.put, List.setIfInBounds_toArray, List.set_cons_succ, List.set_cons_zero]) | (refine wpQuiet_load_at (by rfl) 46 _ rfl _ 0 4 rfl _ _ rC rfl rfl rfl ?_; simp only [Act.put, List.setIfInBounds_toArray, List.set_cons_succ, List.set_cons_zero]) | go_big_quiet_step ((go_at_call 27; first | with_reducible exact calm_of (K1.out _) | with_reducible exact calm_of (K2.out _) | with_reducible exact calm_of (K3.out _)))))
      refine wpQuiet_nil ?_
      rintro _ ⟨⟨X, hX⟩, rfl⟩
      have rA1 := (rowAt_block (hX.block w.heap.size (by omega))).trans rA
      have rB1 := (rowAt_block (hX.block (w.heap.size + 1) (by omega))).trans rB
      have hz1 := hX.size
      clear rA rB rC K1 K2 K3
      go_wp2_with (first | (refine wpList_load_at_v 46 _ rfl rfl _ (0) 4 rfl _ _ rB1 rfl rfl rfl ?_) | (refine wpList_load_at_v 46 _ rfl rfl _ (0) 4 rfl _ _ rA1 rfl rfl rfl ?_) | (go_at_call 27; (with_reducible refine (K4.out _).mono ?_); rintro r w4 ⟨rfl, hb4⟩; have rA4 := (rowAt_block (hb4.block w.heap.size (by omega))).trans rA1; have rB4 := (rowAt_block (hb4.block (w.heap.size + 1) (by omega))).trans rB1; have hX4 := bthen hX hb4; have haw := awake07_c w4 (HE.out.below hX4); clear rA1 rB1) | (refine wpList_load_at_v 46 _ rfl rfl _ (0) 4 rfl _ _ rA4 rfl rfl rfl ?_) | (refine wpList_load_at_v 46 _ rfl rfl _ (0) 4 rfl _ _ rB4 rfl rfl rfl ?_) | (go_at_call 26; (with_reducible refine haw.mono ?_); rintro r w6 ⟨rfl, hb6⟩))
      go_ret
      exact ⟨rfl, bthen hB0 (bthen hX4 hb6)⟩
theorem identRow_g (a b c : Key) (W : World) (he : Env W) (_ : Key.ok a) (_ : Key.ok b) (_ : Key.ok c) :
    Calls Tryd.prog 5 #[.agg (Key.arr a), .agg (Key.arr b), .agg (Key.arr c)] W fun e w' => e = .returned (.bool true) ∧ Below W.heap.size W w' := identRow_w a b c W he
end Go.Proofs.YtcncmbcnekekdaaDoor
