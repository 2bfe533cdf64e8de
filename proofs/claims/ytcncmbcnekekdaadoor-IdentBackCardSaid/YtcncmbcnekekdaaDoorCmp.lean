/- How ids and keys stand: the program's, the document's. -/
import Derived.Test.YtcncmbcnekekdaaDoorText
import Derived.Test.YtcncmbcnekekdaaDoorOpen
import Derived.Test.YtcncmbcnekekdaaDoorLoadV
import Derived.Test.YtcncmbcnekekdaaDoorHeadP
import Derived.Test.YtcncmbcnekekdaaDoorShelf
import Derived.Deep.DeepCutAuto
namespace Go.Proofs.YtcncmbcnekekdaaDoor
open Go.RowKit Go.Shelf
set_option linter.unusedVariables false
set_option linter.unusedSimpArgs false
/-- The first that is not 0. -/
def T.or : List Int → Int
  | [] => 0
  | x :: l => if x = 0 then T.or l else x
theorem T.or_skip (l : List Int) (k : Nat) (h : ∀ x ∈ l.take k, x = 0) : T.or l = T.or (l.drop k) := by
  induction k generalizing l with
  | zero => rfl
  | succ k ih =>
    cases l with
    | nil => rfl
    | cons x l =>
      rw [T.or, if_pos (h x (by simp)), ih l (fun y hy => h y (by simp [hy]))]
      rfl
def T.compare (a b : Id) : Int := T.or [Lib.compareInt a.node b.node, Lib.compareInt a.inc b.inc, Lib.compareInt a.seq b.seq]
def T.keys (a b : Key) : Int := T.or [T.compare a.id b.id, Lib.compareInt a.att b.att]
theorem T.cmp_self (a : Int) : Lib.compareInt a a = 0 := by simp [Lib.compareInt]
theorem T.cmp_bound (a b : Int) : -1 ≤ Lib.compareInt a b ∧ Lib.compareInt a b ≤ 1 := by unfold Lib.compareInt; split <;> (try split) <;> omega
theorem T.or_bound (l : List Int) (h : ∀ x ∈ l, -1 ≤ x ∧ x ≤ 1) : -1 ≤ T.or l ∧ T.or l ≤ 1 := by
  induction l with
  | nil => simp [T.or]
  | cons x l ih =>
    rw [T.or]
    split
    · exact ih fun y hy => h y (List.mem_cons_of_mem _ hy)
    · exact h x List.mem_cons_self
theorem T.compare_bound (a b : Id) : -1 ≤ T.compare a b ∧ T.compare a b ≤ 1 := T.or_bound _ (by intro x hx; simp only [List.mem_cons, List.mem_nil_iff, or_false] at hx; rcases hx with rfl | rfl | rfl <;> exact T.cmp_bound _ _)
theorem T.keys_bound (a b : Key) : -1 ≤ T.keys a b ∧ T.keys a b ≤ 1 := T.or_bound _ (by intro x hx; simp only [List.mem_cons, List.mem_nil_iff, or_false] at hx; rcases hx with rfl | rfl; exact T.compare_bound _ _; exact T.cmp_bound _ _)
theorem Sl.intsNew (w : World) (xs : List Int) (t : TypeId) (hx : xs.length ≤ 1000) : Sl intArr 1 (w.heap.size + 1) (w.alloc (.cells (xs.map (Value.int .i64)).toArray t)) (.slice (some ⟨w.heap.size, 0, none⟩) xs.length xs.length) xs := by
  refine ⟨some ⟨w.heap.size, 0, none⟩, xs.length, rfl, Nat.le_refl _, by unfold maxLen; omega, fun _ => ⟨w.heap.size, 0, rfl, by omega, fun i x hi => ?_⟩⟩
  have hil := (List.getElem?_eq_some_iff.1 hi).1
  rw [rowAt_new_part _ _ _ _ _ _ _ rfl (by simp; omega)]
  congr 1
  apply Array.ext
  · simp [intArr]; omega
  · intro j h1 h2
    have : j = 0 := by simp [intArr] at h2; omega
    subst this
    simp [intArr, (List.getElem?_eq_some_iff.1 hi).2]
section
attribute [local go_sem] bw_cell
set_option maxRecDepth 100000 in
set_option maxHeartbeats 2000000 in
theorem or_c (v : Value) (xs : List Int) (w : World) (h : Sl intArr 1 w.heap.size w v xs) :
    Calls Tryd.prog 70 #[v] w fun r w' => r = .returned (.int .i64 (T.or xs)) ∧ Below w.heap.size w w' := by
  obtain ⟨A, cap, rfl, hcap, hl1, hl2⟩ := h.view
  go_enter Tryd.func70, Tryd.ntmps70
  go_wp2
  go_loopw [8] (fun i wr => ∃ k : Nat, k ≤ xs.length ∧ i = .int .i64 (k : Int) ∧ Hid (∀ x ∈ xs.take k, x = 0) ∧ Below w.heap.size w wr) (fun i _ => xs.length - (intOf i).toNat)
  case atStart => exact ⟨0, Nat.zero_le _, rfl, Lib.hid (by simp), Below.refl _ _⟩
  case round =>
    obtain ⟨k, hk, rfl, hno, hB⟩ := hrel
    by_cases hkl : k < xs.length
    · obtain ⟨b, off, rfl, hb, hrow, _⟩ := ((h.below hB).mono hB.size).at hkl
      obtain ⟨f, hf⟩ : ∃ f, f = xs[k] := ⟨_, rfl⟩
      rw [← hf] at hrow
      have c0 : wr.cell? ⟨b, off + k, none⟩ = some (.int .i64 f) := by have := rowAt_cell hrow 0 (by omega); simpa [intArr] using this
      have HF := Lib.hid hf
      clear hf hrow
      by_cases h0 : f = 0
      · have HN := Lib.hid (show ∀ x ∈ xs.take (k + 1), x = 0 by
          intro x hx
          rw [show xs.take (k + 1) = xs.take k ++ [f] by rw [HF.out]; simp] at hx
          rcases List.mem_append.1 hx with hx | hx
          · exact hno.out x hx
          · simp at hx; rw [hx, h0])
        go_wp2
        go_roundw
        case rel => exact ⟨k + 1, by omega, by go_num, HN, hB⟩
        case measure => simp [intOf]; omega
      · have HR := Lib.hid (show T.or xs = f by rw [T.or_skip xs k hno.out, List.drop_eq_getElem_cons hkl, ← HF.out, T.or, if_neg h0])
        go_wp2
        go_ret
        exact ⟨by rw [HR.out]; rfl, hB⟩
    · obtain rfl : k = xs.length := by omega
      have HR := Lib.hid (show T.or xs = 0 by rw [T.or_skip xs _ hno.out, List.drop_length]; rfl)
      go_wp2
      go_ret
      exact ⟨by rw [HR.out]; rfl, hB⟩
end
attribute [local go_sem] Id.sz Key.sz
set_option maxRecDepth 100000 in
set_option maxHeartbeats 4000000 in
theorem compare_c (a b : Id) (w : World) : Calls Tryd.prog 36 #[.agg (Id.arr a), .agg (Id.arr b)] w fun r w' => r = .returned (.int .i64 (T.compare a b)) ∧ Below w.heap.size w w' := by
  obtain ⟨W0, hW0⟩ : ∃ W0, W0 = (w.alloc (Obj.cells (Id.arr a) 38)).alloc (Obj.cells (Id.arr b) 38) := ⟨_, rfl⟩
  have hB0 : Below w.heap.size w W0 := by rw [hW0]; exact ((Below.refl _ w).alloc (Nat.le_refl _) _).alloc (by simp) _
  have hs0 : w.heap.size + 2 ≤ W0.heap.size := by rw [hW0]; simp
  have rA : rowAt W0 w.heap.size 0 3 = some (Id.arr a) := by rw [hW0, rowAt_alloc_old _ _ _ _ _ (by simp)]; exact rowAt_new _ _ _ _ _ rfl
  have rB : rowAt W0 (w.heap.size + 1) 0 3 = some (Id.arr b) := by rw [hW0]; exact rowAt_new _ _ _ _ _ (by simp)
  have a0 : W0.cell? ⟨w.heap.size, 0, none⟩ = some (.int .i64 a.node) := rowAt_cell rA 0 (by omega)
  have a1 : W0.cell? ⟨w.heap.size, 1, none⟩ = some (.int .i64 a.inc) := rowAt_cell rA 1 (by omega)
  have a2 : W0.cell? ⟨w.heap.size, 2, none⟩ = some (.int .i64 a.seq) := rowAt_cell rA 2 (by omega)
  have b0 : W0.cell? ⟨w.heap.size + 1, 0, none⟩ = some (.int .i64 b.node) := rowAt_cell rB 0 (by omega)
  have b1 : W0.cell? ⟨w.heap.size + 1, 1, none⟩ = some (.int .i64 b.inc) := rowAt_cell rB 1 (by omega)
  have b2 : W0.cell? ⟨w.heap.size + 1, 2, none⟩ = some (.int .i64 b.seq) := rowAt_cell rB 2 (by omega)
  have HW := Lib.hid hW0
  clear hW0 rA rB
  go_enter Tryd.func36, Tryd.ntmps36
  go_upto_region 1 with (fail)
  rw [← HW.out]
  refine wp_region_P 17 [4, 9, 14, 15, 16, 17] [0, 1, 2, 3, 5, 6, 7, 8, 10, 11, 12, 13, 4, 9, 14, 15, 16, 17] (fun X => Below W0.heap.size W0 X) (by kernel_rfl) (by kernel_rfl) (by kernel_rfl) (by decide) (by simp only [ordOps, List.map_cons, List.map_nil, List.getElem?_cons_succ, List.getElem?_cons_zero, Option.getD_some]; repeat (first | exact trivial | refine ⟨.inl rfl, ?_⟩ | refine ⟨.inr fun _ _ _ _ h => h, ?_⟩)) ?_ ?_
  rotate_left; simp only [ordOps, List.map_cons, List.map_nil, List.getElem?_cons_succ, List.getElem?_cons_zero, Option.getD_some]; rotate_left
  · exact (Below.refl _ W0).drew
  repeat ((first | (refine wpP_q (by rfl) (by rfl) ?_ ?_ ?_; rotate_left; focus (rintro W hX; have s0 := (hX.cell (p := ⟨w.heap.size, 0, none⟩) (by show w.heap.size < _; omega)).trans a0; have s1 := (hX.cell (p := ⟨w.heap.size + 1, 0, none⟩) (by show w.heap.size + 1 < _; omega)).trans b0; have s2 := (hX.cell (p := ⟨w.heap.size, 1, none⟩) (by show w.heap.size < _; omega)).trans a1; have s3 := (hX.cell (p := ⟨w.heap.size + 1, 1, none⟩) (by show w.heap.size + 1 < _; omega)).trans b1; have s4 := (hX.cell (p := ⟨w.heap.size, 2, none⟩) (by show w.heap.size < _; omega)).trans a2; have s5 := (hX.cell (p := ⟨w.heap.size + 1, 2, none⟩) (by show w.heap.size + 1 < _; omega)).trans b2; go_simp; try (with_reducible rfl); done)) | refine wpP_skip (by rfl) (by rfl) ?_); try simp only [Act.put, List.setIfInBounds_toArray, List.set_cons_succ, List.set_cons_zero])
  refine wpP_a (by rfl) (by rfl) fun K hK => ?_
  go_simp
  refine (Tryd.cmp_Compare_int _ _ _).mono ?_
  rintro r w2 ⟨rfl, rfl⟩
  have hX2 : Below W0.heap.size W0 W0.drew := (Below.refl _ W0).drew
  refine hK _ _ (fun _ => hX2) ?_; clear hK K; try simp only [Act.put, List.setIfInBounds_toArray, List.set_cons_succ, List.set_cons_zero]
  refine wpP_a (by rfl) (by rfl) fun K hK => ?_
  go_simp
  refine (Tryd.cmp_Compare_int _ _ _).mono ?_
  rintro r w3 ⟨rfl, rfl⟩
  refine hK _ _ (fun _ => hX2) ?_; clear hK K; try simp only [Act.put, List.setIfInBounds_toArray, List.set_cons_succ, List.set_cons_zero]
  refine wpP_a (by rfl) (by rfl) fun K hK => ?_
  go_simp
  refine (Tryd.cmp_Compare_int _ _ _).mono ?_
  rintro r w4 ⟨rfl, rfl⟩
  refine hK _ _ (fun _ => hX2) ?_; clear hK K; try simp only [Act.put, List.setIfInBounds_toArray, List.set_cons_succ, List.set_cons_zero]
  refine wpP_a (by rfl) (by rfl) fun K hK => ?_
  go_simp
  obtain ⟨W4, hW4⟩ : ∃ W4, W4 = (W0.alloc (Obj.cells #[.int .i64 (Lib.compareInt a.node b.node), .int .i64 (Lib.compareInt a.inc b.inc), .int .i64 (Lib.compareInt a.seq b.seq)] 3)).drew := ⟨_, rfl⟩
  have hX4 : Below W0.heap.size W0 W4 := by rw [hW4]; exact ((Below.refl _ W0).alloc (Nat.le_refl _) _).drew
  have hSl : Sl intArr 1 W4.heap.size W4 (.slice (some ⟨W0.heap.size, 0, none⟩) 3 3) [Lib.compareInt a.node b.node, Lib.compareInt a.inc b.inc, Lib.compareInt a.seq b.seq] := by
    rw [hW4]
    exact (Sl.intsNew W0 [Lib.compareInt a.node b.node, Lib.compareInt a.inc b.inc, Lib.compareInt a.seq b.seq] 3 (by simp)).mono (by show _ ≤ (World.alloc _ _).heap.size; simp)
  rw [← hW4]
  clear hW4
  refine hK _ _ (fun _ => hX4) ?_; clear hK K; try simp only [Act.put, List.setIfInBounds_toArray, List.set_cons_succ, List.set_cons_zero]
  refine wpP_a (by rfl) (by rfl) fun K hK => ?_
  go_simp
  refine (or_c _ _ _ hSl).mono ?_
  rintro r w5 ⟨rfl, hb5⟩
  have hX5 := bthen hX4 hb5
  refine hK _ _ (fun _ => hX5) ?_; clear hK K; try simp only [Act.put, List.setIfInBounds_toArray, List.set_cons_succ, List.set_cons_zero]
  refine wpP_a (by rfl) (by rfl) fun K hK => ?_
  go_simp
  refine hK _ _ (fun h => absurd h (by omega)) ?_; clear hK K; try simp only [Act.put, List.setIfInBounds_toArray, List.set_cons_succ, List.set_cons_zero]
  refine wpP_nil ?_
  go_wp2
  go_ret
  exact ⟨rfl, hB0.trans (hX5.mono hB0.size)⟩
set_option maxRecDepth 100000 in
set_option maxHeartbeats 4000000 in
theorem keys_c (a b : Key) (w : World) : Calls Tryd.prog 27 #[.agg (Key.arr a), .agg (Key.arr b)] w fun r w' => r = .returned (.int .i64 (T.keys a b)) ∧ Below w.heap.size w w' := by
  obtain ⟨W0, hW0⟩ : ∃ W0, W0 = (w.alloc (Obj.cells (Key.arr a) 46)).alloc (Obj.cells (Key.arr b) 46) := ⟨_, rfl⟩
  have hB0 : Below w.heap.size w W0 := by rw [hW0]; exact ((Below.refl _ w).alloc (Nat.le_refl _) _).alloc (by simp) _
  have hs0 : w.heap.size + 2 ≤ W0.heap.size := by rw [hW0]; simp
  have rA : rowAt W0 w.heap.size 0 4 = some (Key.arr a) := by rw [hW0, rowAt_alloc_old _ _ _ _ _ (by simp)]; exact rowAt_new _ _ _ _ _ rfl
  have rB : rowAt W0 (w.heap.size + 1) 0 4 = some (Key.arr b) := by rw [hW0]; exact rowAt_new _ _ _ _ _ (by simp)
  have iA : rowAt W0 w.heap.size 0 3 = some (Id.arr a.id) := (rowAt_part rA 0 3 (by omega)).trans (congrArg some (Key.part_id a))
  have iB : rowAt W0 (w.heap.size + 1) 0 3 = some (Id.arr b.id) := (rowAt_part rB 0 3 (by omega)).trans (congrArg some (Key.part_id b))
  have a3 : W0.cell? ⟨w.heap.size, 3, none⟩ = some (.int .i64 a.att) := rowAt_cell rA 3 (by omega)
  have b3 : W0.cell? ⟨w.heap.size + 1, 3, none⟩ = some (.int .i64 b.att) := rowAt_cell rB 3 (by omega)
  have HW := Lib.hid hW0
  clear hW0 rA rB
  go_enter Tryd.func27, Tryd.ntmps27
  go_upto_region 1 with (fail)
  rw [← HW.out]
  refine wp_region_P 12 [4, 9, 10, 11, 12] [0, 1, 2, 3, 5, 6, 7, 8, 4, 9, 10, 11, 12] (fun X => Below W0.heap.size W0 X) (by kernel_rfl) (by kernel_rfl) (by kernel_rfl) (by decide) (by simp only [ordOps, List.map_cons, List.map_nil, List.getElem?_cons_succ, List.getElem?_cons_zero, Option.getD_some]; repeat (first | exact trivial | refine ⟨.inl rfl, ?_⟩ | refine ⟨.inr fun _ _ _ _ h => h, ?_⟩)) ?_ ?_
  rotate_left; simp only [ordOps, List.map_cons, List.map_nil, List.getElem?_cons_succ, List.getElem?_cons_zero, Option.getD_some]; rotate_left
  · exact (Below.refl _ W0).drew
  iterate 1 ((first | (refine wpP_q (by rfl) (by rfl) ?_ ?_ ?_; rotate_left; focus (rintro W hX; go_simp; try (with_reducible rfl); done)) | refine wpP_skip (by rfl) (by rfl) ?_); try simp only [Act.put, List.setIfInBounds_toArray, List.set_cons_succ, List.set_cons_zero])
  refine wpP_q (by rfl) (by rfl) (.agg (Id.arr a.id)) ?_ ?_
  · intro X hX; exact yields_load_at 38 _ rfl w.heap.size (0) 3 rfl (Id.arr a.id) _ Tryd.underlying38 rfl (by kernel_rfl) ((rowAt_block (hX.block w.heap.size (by omega))).trans iA)
  simp only [Act.put, List.setIfInBounds_toArray, List.set_cons_succ, List.set_cons_zero]
  iterate 1 ((first | (refine wpP_q (by rfl) (by rfl) ?_ ?_ ?_; rotate_left; focus (rintro W hX; go_simp; try (with_reducible rfl); done)) | refine wpP_skip (by rfl) (by rfl) ?_); try simp only [Act.put, List.setIfInBounds_toArray, List.set_cons_succ, List.set_cons_zero])
  refine wpP_q (by rfl) (by rfl) (.agg (Id.arr b.id)) ?_ ?_
  · intro X hX; exact yields_load_at 38 _ rfl (w.heap.size + 1) (0) 3 rfl (Id.arr b.id) _ Tryd.underlying38 rfl (by kernel_rfl) ((rowAt_block (hX.block (w.heap.size + 1) (by omega))).trans iB)
  simp only [Act.put, List.setIfInBounds_toArray, List.set_cons_succ, List.set_cons_zero]
  repeat ((first | (refine wpP_q (by rfl) (by rfl) ?_ ?_ ?_; rotate_left; focus (rintro W hX; have s0 := (hX.cell (p := ⟨w.heap.size, 3, none⟩) (by show w.heap.size < _; omega)).trans a3; have s1 := (hX.cell (p := ⟨w.heap.size + 1, 3, none⟩) (by show w.heap.size + 1 < _; omega)).trans b3; go_simp; try (with_reducible rfl); done)) | refine wpP_skip (by rfl) (by rfl) ?_); try simp only [Act.put, List.setIfInBounds_toArray, List.set_cons_succ, List.set_cons_zero])
  have hX2 : Below W0.heap.size W0 W0.drew := (Below.refl _ W0).drew
  refine wpP_a (by rfl) (by rfl) fun K hK => ?_
  go_simp
  refine (compare_c _ _ _).mono ?_
  rintro r w2 ⟨rfl, hb2⟩
  have hX3 := bthen hX2 hb2
  refine hK _ _ (fun _ => hX3) ?_; clear hK K; try simp only [Act.put, List.setIfInBounds_toArray, List.set_cons_succ, List.set_cons_zero]
  refine wpP_a (by rfl) (by rfl) fun K hK => ?_
  go_simp
  refine (Tryd.cmp_Compare_int _ _ _).mono ?_
  rintro r w3 ⟨rfl, rfl⟩
  refine hK _ _ (fun _ => hX3) ?_; clear hK K; try simp only [Act.put, List.setIfInBounds_toArray, List.set_cons_succ, List.set_cons_zero]
  refine wpP_a (by rfl) (by rfl) fun K hK => ?_
  go_simp
  obtain ⟨W4, hW4⟩ : ∃ W4, W4 = (w3.alloc (Obj.cells #[.int .i64 (T.compare a.id b.id), .int .i64 (Lib.compareInt a.att b.att)] 3)) := ⟨_, rfl⟩
  have hX4 : Below W0.heap.size W0 W4 := by rw [hW4]; exact hX3.alloc hX3.size _
  have hSl : Sl intArr 1 W4.heap.size W4 (.slice (some ⟨w3.heap.size, 0, none⟩) 2 2) [T.compare a.id b.id, Lib.compareInt a.att b.att] := by
    rw [hW4]
    exact (Sl.intsNew w3 [T.compare a.id b.id, Lib.compareInt a.att b.att] 3 (by simp)).mono (by show _ ≤ (World.alloc _ _).heap.size; simp)
  rw [← hW4]
  clear hW4
  refine hK _ _ (fun _ => hX4) ?_; clear hK K; try simp only [Act.put, List.setIfInBounds_toArray, List.set_cons_succ, List.set_cons_zero]
  refine wpP_a (by rfl) (by rfl) fun K hK => ?_
  go_simp
  refine (or_c _ _ _ hSl).mono ?_
  rintro r w5 ⟨rfl, hb5⟩
  have hX5 := bthen hX4 hb5
  refine hK _ _ (fun _ => hX5) ?_; clear hK K; try simp only [Act.put, List.setIfInBounds_toArray, List.set_cons_succ, List.set_cons_zero]
  refine wpP_a (by rfl) (by rfl) fun K hK => ?_
  go_simp
  refine hK _ _ (fun h => absurd h (by omega)) ?_; clear hK K; try simp only [Act.put, List.setIfInBounds_toArray, List.set_cons_succ, List.set_cons_zero]
  refine wpP_nil ?_
  go_wp2
  go_ret
  exact ⟨rfl, hB0.trans (hX5.mono hB0.size)⟩
theorem T.cmp_zero (a b : Int) : Lib.compareInt a b = 0 ↔ a = b := by unfold Lib.compareInt; split <;> (try split) <;> omega
theorem T.or_cmp (x y : Int) (l : List Int) : T.or (Lib.compareInt x y :: l) = if x = y then T.or l else Lib.compareInt x y := by
  rw [T.or]
  by_cases h : x = y
  · rw [if_pos h, if_pos ((T.cmp_zero x y).2 h)]
  · rw [if_neg h, if_neg fun e => h ((T.cmp_zero x y).1 e)]
theorem T.compare_zero (a b : Id) : T.compare a b = 0 ↔ a = b := by
  obtain ⟨x, y, z⟩ := a
  obtain ⟨x', y', z'⟩ := b
  simp only [T.compare, T.or, T.cmp_zero, Id.mk.injEq]
  by_cases h1 : x = x'
  · rw [if_pos h1]
    by_cases h2 : y = y'
    · rw [if_pos h2]
      by_cases h3 : z = z'
      · simp [h1, h2, h3]
      · rw [if_neg h3]; simp [T.cmp_zero, h3]
    · rw [if_neg h2]; simp [T.cmp_zero, h2]
  · rw [if_neg h1]; simp [T.cmp_zero, h1]
theorem T.keys_zero (a b : Key) : T.keys a b = 0 ↔ a = b := by
  obtain ⟨x, y⟩ := a
  obtain ⟨x', y'⟩ := b
  simp only [T.keys, T.or, Key.mk.injEq]
  by_cases h1 : x = x'
  · rw [if_pos ((T.compare_zero x x').2 h1)]
    by_cases h2 : y = y'
    · rw [if_pos ((T.cmp_zero y y').2 h2)]; simp [h1, h2]
    · rw [if_neg fun e => h2 ((T.cmp_zero y y').1 e)]; simp [T.cmp_zero, h2]
  · rw [if_neg fun e => h1 ((T.compare_zero x x').1 e)]; simp [T.compare_zero, h1]
theorem rints_c (x y : Int) (w : World) : Calls Tryd.prog 73 #[.int .i64 x, .int .i64 y] w fun r w' => r = .returned (.int .i64 (Lib.compareInt x y)) ∧ w' = w := by
  have hc : x < y ∨ (¬ x < y ∧ y < x) ∨ (¬ x < y ∧ ¬ y < x) := by omega
  have hd : Lib.compareInt x y = if x < y then -1 else if x > y then 1 else 0 := rfl
  have HD := Lib.hid hd
  clear hd
  rcases hc with h | ⟨h, h2⟩ | ⟨h, h2⟩
  all_goals
    go_enter Tryd.func73, Tryd.ntmps73
    go_wp2
    go_ret
    exact ⟨ret_int (by rw [HD.out]; split <;> (try split) <;> omega), rfl⟩
set_option maxRecDepth 100000 in
set_option maxHeartbeats 2000000 in
theorem rcompare_c (a b : Id) (w : World) : Calls Tryd.prog 37 #[.agg (Id.arr a), .agg (Id.arr b)] w fun r w' => r = .returned (.int .i64 (T.compare a b)) ∧ Below w.heap.size w w' := by
  obtain ⟨W0, hW0⟩ : ∃ W0, W0 = (w.alloc (Obj.cells (Id.arr a) 38)).alloc (Obj.cells (Id.arr b) 38) := ⟨_, rfl⟩
  have hB0 : Below w.heap.size w W0 := by rw [hW0]; exact ((Below.refl _ w).alloc (Nat.le_refl _) _).alloc (by simp) _
  have rA : rowAt W0 w.heap.size 0 3 = some (Id.arr a) := by rw [hW0, rowAt_alloc_old _ _ _ _ _ (by simp)]; exact rowAt_new _ _ _ _ _ rfl
  have rB : rowAt W0 (w.heap.size + 1) 0 3 = some (Id.arr b) := by rw [hW0]; exact rowAt_new _ _ _ _ _ (by simp)
  have a0 : W0.cell? ⟨w.heap.size, 0, none⟩ = some (.int .i64 a.node) := rowAt_cell rA 0 (by omega)
  have a1 : W0.cell? ⟨w.heap.size, 1, none⟩ = some (.int .i64 a.inc) := rowAt_cell rA 1 (by omega)
  have a2 : W0.cell? ⟨w.heap.size, 2, none⟩ = some (.int .i64 a.seq) := rowAt_cell rA 2 (by omega)
  have b0 : W0.cell? ⟨w.heap.size + 1, 0, none⟩ = some (.int .i64 b.node) := rowAt_cell rB 0 (by omega)
  have b1 : W0.cell? ⟨w.heap.size + 1, 1, none⟩ = some (.int .i64 b.inc) := rowAt_cell rB 1 (by omega)
  have b2 : W0.cell? ⟨w.heap.size + 1, 2, none⟩ = some (.int .i64 b.seq) := rowAt_cell rB 2 (by omega)
  have HW := Lib.hid hW0
  have HT := Lib.hid (show T.compare a b = if a.node = b.node then (if a.inc = b.inc then Lib.compareInt a.seq b.seq else Lib.compareInt a.inc b.inc) else Lib.compareInt a.node b.node by
    simp only [T.compare, T.or, T.cmp_zero]
    by_cases h3 : a.seq = b.seq
    · rw [if_pos h3, (T.cmp_zero _ _).2 h3]
    · rw [if_neg h3])
  clear hW0 rA rB
  by_cases h1 : a.node = b.node
  · by_cases h2 : a.inc = b.inc
    · have HR := Lib.hid (show T.compare a b = Lib.compareInt a.seq b.seq by rw [HT.out, if_pos h1, if_pos h2])
      clear HT
      go_enter Tryd.func37, Tryd.ntmps37
      go_upto_region 1 with (fail)
      rw [← HW.out]
      go_wp2_with (go_at_call 73; (with_reducible refine (rints_c _ _ _).mono ?_); rintro r w1 ⟨rfl, rfl⟩)
      go_ret
      exact ⟨by rw [HR.out]; rfl, hB0⟩
    · have HR := Lib.hid (show T.compare a b = Lib.compareInt a.inc b.inc by rw [HT.out, if_pos h1, if_neg h2])
      clear HT
      go_enter Tryd.func37, Tryd.ntmps37
      go_upto_region 1 with (fail)
      rw [← HW.out]
      go_wp2_with (go_at_call 73; (with_reducible refine (rints_c _ _ _).mono ?_); rintro r w1 ⟨rfl, rfl⟩)
      go_ret
      exact ⟨by rw [HR.out]; rfl, hB0⟩
  · have HR := Lib.hid (show T.compare a b = Lib.compareInt a.node b.node by rw [HT.out, if_neg h1])
    clear HT
    go_enter Tryd.func37, Tryd.ntmps37
    go_upto_region 1 with (fail)
    rw [← HW.out]
    go_wp2_with (go_at_call 73; (with_reducible refine (rints_c _ _ _).mono ?_); rintro r w1 ⟨rfl, rfl⟩)
    go_ret
    exact ⟨by rw [HR.out]; rfl, hB0⟩
attribute [local go_sem high] eqTId
set_option maxRecDepth 100000 in
set_option maxHeartbeats 2000000 in
theorem rkeys_c (a b : Key) (w : World) : Calls Tryd.prog 38 #[.agg (Key.arr a), .agg (Key.arr b)] w fun r w' => r = .returned (.int .i64 (T.keys a b)) ∧ Below w.heap.size w w' := by
  obtain ⟨W0, hW0⟩ : ∃ W0, W0 = (w.alloc (Obj.cells (Key.arr a) 46)).alloc (Obj.cells (Key.arr b) 46) := ⟨_, rfl⟩
  have hB0 : Below w.heap.size w W0 := by rw [hW0]; exact ((Below.refl _ w).alloc (Nat.le_refl _) _).alloc (by simp) _
  have rA : rowAt W0 w.heap.size 0 4 = some (Key.arr a) := by rw [hW0, rowAt_alloc_old _ _ _ _ _ (by simp)]; exact rowAt_new _ _ _ _ _ rfl
  have rB : rowAt W0 (w.heap.size + 1) 0 4 = some (Key.arr b) := by rw [hW0]; exact rowAt_new _ _ _ _ _ (by simp)
  have iA : rowAt W0 w.heap.size 0 3 = some (Id.arr a.id) := (rowAt_part rA 0 3 (by omega)).trans (congrArg some (Key.part_id a))
  have iB : rowAt W0 (w.heap.size + 1) 0 3 = some (Id.arr b.id) := (rowAt_part rB 0 3 (by omega)).trans (congrArg some (Key.part_id b))
  have a3 : W0.cell? ⟨w.heap.size, 3, none⟩ = some (.int .i64 a.att) := rowAt_cell rA 3 (by omega)
  have b3 : W0.cell? ⟨w.heap.size + 1, 3, none⟩ = some (.int .i64 b.att) := rowAt_cell rB 3 (by omega)
  have HW := Lib.hid hW0
  clear hW0 rA rB
  rcases he : decide (a.id = b.id) with _ | _
  · have h1 : ¬ a.id = b.id := by simpa using he
    have HR := Lib.hid (show T.keys a b = T.compare a.id b.id by rw [T.keys, T.or, if_neg fun e => h1 ((T.compare_zero _ _).1 e)])
    clear h1
    go_enter Tryd.func38, Tryd.ntmps38
    go_upto_region 1 with (fail)
    rw [← HW.out]
    go_wp2_with (first | (refine wpList_load_at_v 38 _ rfl rfl _ (0) 3 rfl _ _ iA rfl rfl rfl ?_) | (refine wpList_load_at_v 38 _ rfl rfl _ (0) 3 rfl _ _ iB rfl rfl rfl ?_) | (go_at_call 37; (with_reducible refine (rcompare_c _ _ _).mono ?_); rintro r w1 ⟨rfl, hb1⟩))
    go_ret
    exact ⟨by rw [HR.out]; rfl, bthen hB0 hb1⟩
  · have h1 : a.id = b.id := by simpa using he
    have HR := Lib.hid (show T.keys a b = Lib.compareInt a.att b.att by
      rw [T.keys, T.or, if_pos ((T.compare_zero _ _).2 h1), T.or_cmp, T.or]
      split
      · rename_i h; rw [(T.cmp_zero _ _).2 h]
      · rfl)
    clear h1
    go_enter Tryd.func38, Tryd.ntmps38
    go_upto_region 1 with (fail)
    rw [← HW.out]
    go_wp2_with (first | (refine wpList_load_at_v 38 _ rfl rfl _ (0) 3 rfl _ _ iA rfl rfl rfl ?_) | (refine wpList_load_at_v 38 _ rfl rfl _ (0) 3 rfl _ _ iB rfl rfl rfl ?_) | (go_at_call 73; (with_reducible refine (rints_c _ _ _).mono ?_); rintro r w1 ⟨rfl, rfl⟩))
    go_ret
    exact ⟨by rw [HR.out]; rfl, hB0⟩
end Go.Proofs.YtcncmbcnekekdaaDoor
