/- Parsing an id: the document's walk. -/
import Derived.Test.YtcncmbcnekekdaaDoorParseW
import Derived.Test.YtcncmbcnekekdaaDoorHeadP
namespace Go.Proofs.YtcncmbcnekekdaaDoor
open Go.RowKit Go.Shelf
set_option linter.unusedVariables false
set_option linter.unusedSimpArgs false
/-- The world of the document's parse. -/
structure RW (n : Nat) (a b c : Int) (w : World) : Prop where
  res : w.heap[n]? = some (.cells #[.int .i64 0, .int .i64 0, .int .i64 0] 38 (0, 0))
  out : w.heap[n + 1]? = some (.cells #[.int .i64 a, .int .i64 b, .int .i64 c] 3 (0, 0))
theorem RW.lt {n : Nat} {a b c : Int} {w : World} (h : RW n a b c w) : n + 1 < w.heap.size := (Array.getElem?_eq_some_iff.1 h.out).1
theorem RW.below {n : Nat} {a b c : Int} {w w' : World} (h : RW n a b c w) (hb : Below w.heap.size w w') : RW n a b c w' where
  res := (hb.block _ (by have := h.lt; omega)).trans h.res
  out := (hb.block _ (by have := h.lt; omega)).trans h.out
theorem RW.set {n : Nat} {a b c : Int} {w : World} (h : RW n a b c w) (k : Nat) (v a' b' c' : Int) (hk : (k = 0 ∧ a' = v ∧ b' = b ∧ c' = c) ∨ (k = 1 ∧ a' = a ∧ b' = v ∧ c' = c) ∨ (k = 2 ∧ a' = a ∧ b' = b ∧ c' = v)) :
    RW n a' b' c' (w.setCell ⟨n + 1, k, none⟩ (.int .i64 v)) where
  res := (heap_setCell_other w ⟨n + 1, k, none⟩ n _ (by show n ≠ n + 1; omega)).trans h.res
  out := by
    have := heap_setCell_same w (n + 1) k _ _ (.int .i64 v) h.out
    rw [this]
    rcases hk with ⟨rfl, rfl, rfl, rfl⟩ | ⟨rfl, rfl, rfl, rfl⟩ | ⟨rfl, rfl, rfl, rfl⟩ <;> rfl
theorem T.scan_step (l : List UInt8) (k : Nat) (s : Scan) (h : k < l.length) (hs : T.scan T.scan0 (l.take k) = some s) : T.scan T.scan0 (l.take (k + 1)) = T.stepI s l[k].toNat := by
  rw [show l.take (k + 1) = l.take k ++ [l[k]] by simp, T.scan_snoc, hs]
  rfl
theorem T.scan_fail (l : List UInt8) (k : Nat) (h : T.scan T.scan0 (l.take (k + 1)) = none) : T.rparse l = (T.zeroId, false) := by
  have := T.scan_none _ (l.drop (k + 1)) h
  rwa [List.take_append_drop] at this
set_option maxRecDepth 100000 in
set_option maxHeartbeats 4000000 in
theorem rparse_c (l : List UInt8) (hl : l.length ≤ 1000000) (w : World) (ht : Tab w) :
    Calls Tryd.prog 25 #[strV l] w fun r w' => r = .returned (.tuple #[.agg (Id.arr (T.rparse l).1), .bool (T.rparse l).2]) ∧ Below w.heap.size w w' := by
  obtain ⟨n, hn⟩ : ∃ n, n = w.heap.size := ⟨_, rfl⟩
  obtain ⟨W0, hW0⟩ : ∃ W0, W0 = (w.alloc (Obj.cells #[.int .i64 0, .int .i64 0, .int .i64 0] 38)).alloc (Obj.cells #[.int .i64 0, .int .i64 0, .int .i64 0] 3) := ⟨_, rfl⟩
  have hB0 : Below w.heap.size w W0 := by rw [hW0]; exact ((Below.refl _ w).alloc (Nat.le_refl _) _).alloc (by simp) _
  have hP0 : RW n 0 0 0 W0 := by
    refine ⟨?_, ?_⟩
    · rw [hW0, Below.heap_alloc _ _ _ (by simp; omega), hn]; exact heap_alloc_new _ _
    · rw [hW0, show n + 1 = (w.alloc (Obj.cells #[.int .i64 0, .int .i64 0, .int .i64 0] 38)).heap.size by simp; omega]; exact heap_alloc_new _ _
  have HN := Lib.hid hn
  have HW0 := Lib.hid hW0
  clear hn hW0
  go_enter Tryd.func25, Tryd.ntmps25
  go_wp2
  rw [← HW0.out, ← HN.out]
  go_loopw [5, 6] (fun p i wr => ∃ (k : Nat) (s : Scan), k ≤ l.length ∧ p = .int .i64 (s.p : Int) ∧ i = .int .i64 (k : Int) ∧ Hid (T.scan T.scan0 (l.take k) = some s) ∧ s.ok ∧ RW n s.x s.y s.z wr ∧ Below w.heap.size w wr) (fun _ i _ => l.length - (intOf i).toNat)
  case atStart => exact ⟨0, T.scan0, Nat.zero_le _, rfl, rfl, Lib.hid rfl, T.scan0_ok, hP0, hB0⟩
  case round =>
    obtain ⟨k, ⟨p, x, y, z⟩, hk, rfl, rfl, hsc, hok, hP, hB⟩ := hrel
    clear hP0 hB0
    obtain ⟨hp2, x0, x1, y0, y1, z0, z1⟩ := hok
    simp only at hp2 x0 x1 y0 y1 z0 z1 hP
    by_cases hkl : k < l.length
    · have hst := Lib.hid (T.scan_step l k _ hkl hsc.out)
      obtain ⟨b, hb⟩ : ∃ b : Nat, b = l[k].toNat := ⟨_, rfl⟩
      have hb8 : b < 256 := by rw [hb]; exact UInt8.toNat_lt _
      rw [← hb] at hst
      have hbb : ((ByteArray.mk l.toArray)[k]'(by simpa [ByteArray.size] using hkl)).toNat = b := by rw [hb]; rfl
      have hnw := hP.lt
      have hnn : w.heap.size ≤ n := by have := HN.out; omega
      have hres := hP.res
      have HP := Lib.hid hP
      clear hb hP
      have hp3 : p = 0 ∨ p = 1 ∨ p = 2 := by omega
      rcases hp3 with rfl | rfl | rfl
      · have hcell := (cell_of HP.out.out 0).1
        have hfr := (cell_of HP.out.out 0).2
        by_cases h46 : b = 46
        · subst h46
          have HS := Lib.hid (show T.scan T.scan0 (l.take (k + 1)) = some ⟨1, x, y, z⟩ by rw [hst.out]; rfl)
          clear hst
          go_wp2
          go_roundw
          case rel => exact ⟨k + 1, ⟨1, x, y, z⟩, by omega, by go_num, by go_num, HS, ⟨by simp only; omega, x0, x1, y0, y1, z0, z1⟩, HP.out, hB⟩
          case measure => simp [intOf]; omega
        · have e46 : ((b : Int) == 46) = false := by rw [beq_eq_false_iff_ne]; omega
          by_cases h48 : b < 48
          · have HR := Lib.hid (T.scan_fail l k (by rw [hst.out]; simp only [T.stepI]; rw [if_neg h46, if_pos (.inl h48)]))
            clear hst
            go_wp2_with (refine wpList_store_row rfl _ _ _ rfl n (Id.arr T.zeroId) rfl rfl _ _ hres rfl rfl (Id.one _) ?_)
            have hR6 := setRow_heap _ n _ (Id.arr T.zeroId) _ _ hres
            exact bodyPost_ret (rparse_results _ _ n _ _ rfl rfl (rowAt_rowI hR6)) rfl ⟨by rw [HR.out]; rfl, below_setRowI hB hnn _⟩
          by_cases h57 : 57 < b
          · have HR := Lib.hid (T.scan_fail l k (by rw [hst.out]; simp only [T.stepI]; rw [if_neg h46, if_pos (.inr (.inl h57))]))
            clear hst
            go_wp2_with (refine wpList_store_row rfl _ _ _ rfl n (Id.arr T.zeroId) rfl rfl _ _ hres rfl rfl (Id.one _) ?_)
            have hR6 := setRow_heap _ n _ (Id.arr T.zeroId) _ _ hres
            exact bodyPost_ret (rparse_results _ _ n _ _ rfl rfl (rowAt_rowI hR6)) rfl ⟨by rw [HR.out]; rfl, below_setRowI hB hnn _⟩
          by_cases hbig : 100000000 < x
          · have HR := Lib.hid (T.scan_fail l k (by rw [hst.out]; simp only [T.stepI]; rw [if_neg h46, if_pos (.inr (.inr (by simpa [Scan.get] using hbig)))]))
            clear hst
            go_wp2_with (refine wpList_store_row rfl _ _ _ rfl n (Id.arr T.zeroId) rfl rfl _ _ hres rfl rfl (Id.one _) ?_)
            have hR6 := setRow_heap _ n _ (Id.arr T.zeroId) _ _ hres
            exact bodyPost_ret (rparse_results _ _ n _ _ rfl rfl (rowAt_rowI hR6)) rfl ⟨by rw [HR.out]; rfl, below_setRowI hB hnn _⟩
          have HS := Lib.hid (show T.scan T.scan0 (l.take (k + 1)) = some ⟨0, 10 * x + (b : Int) - 48, y, z⟩ by
            rw [hst.out]; simp only [T.stepI]; rw [if_neg h46, if_neg (by simp [Scan.get]; omega)]; simp [Scan.set, Scan.get])
          clear hst hsc
          go_wp2
          refine wp_region_P 14 [14] [0, 1, 2, 3, 4, 5, 6, 7, 8, 9, 10, 11, 12, 13, 14] (fun X => Below wr.heap.size wr X) (by kernel_rfl) (by kernel_rfl) (by kernel_rfl) (by decide) (by simp only [ordOps, List.map_cons, List.map_nil, List.getElem?_cons_succ, List.getElem?_cons_zero, Option.getD_some]; repeat (first | exact trivial | refine ⟨.inl rfl, ?_⟩ | refine ⟨.inr fun _ _ _ _ h => h, ?_⟩)) ?_ ?_
          rotate_left; simp only [ordOps, List.map_cons, List.map_nil, List.getElem?_cons_succ, List.getElem?_cons_zero, Option.getD_some]; rotate_left
          · exact (Below.refl _ wr).drew
          repeat ((first | (refine wpP_q (by rfl) (by rfl) ?_ ?_ ?_; rotate_left; focus (rintro W hX; have s0 := (hX.cell (p := ⟨n + 1, 0, none⟩) hnw).trans hcell; go_simp; try (with_reducible rfl); done)) | refine wpP_skip (by rfl) (by rfl) ?_); try simp only [Act.put, List.setIfInBounds_toArray, List.set_cons_succ, List.set_cons_zero])
          have hX2 : Below wr.heap.size wr wr.drew := (Below.refl _ wr).drew
          have HP2 := HP.out.below hX2
          refine wpP_a (by rfl) (by rfl) fun K hK => ?_
          go_simp
          refine hK _ _ (fun h => absurd h (by omega)) ?_; clear hK K; try simp only [Act.put, List.setIfInBounds_toArray, List.set_cons_succ, List.set_cons_zero]
          refine wpP_nil ?_
          have hv : IntKind.i64.wrap (IntKind.i64.wrap (IntKind.i64.wrap (10 * x) + IntKind.i64.wrap (b : Int)) - 48) = 10 * x + (b : Int) - 48 := by
            rw [IntWalk.i64_in (10 * x) (by omega), IntWalk.i64_in (b : Int) (by omega), IntWalk.i64_in (10 * x + (b : Int)) (by omega), IntWalk.i64_in _ (by omega)]
          rw [hv]
          have HP3 := (HP.out.set 0 (10 * x + (b : Int) - 48) _ _ _ (.inl ⟨rfl, rfl, rfl, rfl⟩)).below (Below.refl _ _).drew
          have hB3 := (hB.setCell (p := ⟨n + 1, 0, none⟩) (by show w.heap.size ≤ n + 1; omega) (.int .i64 (10 * x + (b : Int) - 48))).drew
          clear hv HP2 hX2
          go_wp2
          go_roundw
          case rel => exact ⟨k + 1, ⟨0, 10 * x + (b : Int) - 48, y, z⟩, by omega, by go_num, by go_num, HS, ⟨by simp only; omega, by simp only; omega, by simp only; omega, by simp only; omega, by simp only; omega, by simp only; omega, by simp only; omega⟩, HP3, hB3⟩
          case measure => simp [intOf]; omega
      · have hcell := (cell_of HP.out.out 1).1
        have hfr := (cell_of HP.out.out 1).2
        by_cases h46 : b = 46
        · subst h46
          have HS := Lib.hid (show T.scan T.scan0 (l.take (k + 1)) = some ⟨2, x, y, z⟩ by rw [hst.out]; rfl)
          clear hst
          go_wp2
          go_roundw
          case rel => exact ⟨k + 1, ⟨2, x, y, z⟩, by omega, by go_num, by go_num, HS, ⟨by simp only; omega, x0, x1, y0, y1, z0, z1⟩, HP.out, hB⟩
          case measure => simp [intOf]; omega
        · have e46 : ((b : Int) == 46) = false := by rw [beq_eq_false_iff_ne]; omega
          by_cases h48 : b < 48
          · have HR := Lib.hid (T.scan_fail l k (by rw [hst.out]; simp only [T.stepI]; rw [if_neg h46, if_pos (.inl h48)]))
            clear hst
            go_wp2_with (refine wpList_store_row rfl _ _ _ rfl n (Id.arr T.zeroId) rfl rfl _ _ hres rfl rfl (Id.one _) ?_)
            have hR6 := setRow_heap _ n _ (Id.arr T.zeroId) _ _ hres
            exact bodyPost_ret (rparse_results _ _ n _ _ rfl rfl (rowAt_rowI hR6)) rfl ⟨by rw [HR.out]; rfl, below_setRowI hB hnn _⟩
          by_cases h57 : 57 < b
          · have HR := Lib.hid (T.scan_fail l k (by rw [hst.out]; simp only [T.stepI]; rw [if_neg h46, if_pos (.inr (.inl h57))]))
            clear hst
            go_wp2_with (refine wpList_store_row rfl _ _ _ rfl n (Id.arr T.zeroId) rfl rfl _ _ hres rfl rfl (Id.one _) ?_)
            have hR6 := setRow_heap _ n _ (Id.arr T.zeroId) _ _ hres
            exact bodyPost_ret (rparse_results _ _ n _ _ rfl rfl (rowAt_rowI hR6)) rfl ⟨by rw [HR.out]; rfl, below_setRowI hB hnn _⟩
          by_cases hbig : 100000000 < y
          · have HR := Lib.hid (T.scan_fail l k (by rw [hst.out]; simp only [T.stepI]; rw [if_neg h46, if_pos (.inr (.inr (by simpa [Scan.get] using hbig)))]))
            clear hst
            go_wp2_with (refine wpList_store_row rfl _ _ _ rfl n (Id.arr T.zeroId) rfl rfl _ _ hres rfl rfl (Id.one _) ?_)
            have hR6 := setRow_heap _ n _ (Id.arr T.zeroId) _ _ hres
            exact bodyPost_ret (rparse_results _ _ n _ _ rfl rfl (rowAt_rowI hR6)) rfl ⟨by rw [HR.out]; rfl, below_setRowI hB hnn _⟩
          have HS := Lib.hid (show T.scan T.scan0 (l.take (k + 1)) = some ⟨1, x, 10 * y + (b : Int) - 48, z⟩ by
            rw [hst.out]; simp only [T.stepI]; rw [if_neg h46, if_neg (by simp [Scan.get]; omega)]; simp [Scan.set, Scan.get])
          clear hst hsc
          go_wp2
          refine wp_region_P 14 [14] [0, 1, 2, 3, 4, 5, 6, 7, 8, 9, 10, 11, 12, 13, 14] (fun X => Below wr.heap.size wr X) (by kernel_rfl) (by kernel_rfl) (by kernel_rfl) (by decide) (by simp only [ordOps, List.map_cons, List.map_nil, List.getElem?_cons_succ, List.getElem?_cons_zero, Option.getD_some]; repeat (first | exact trivial | refine ⟨.inl rfl, ?_⟩ | refine ⟨.inr fun _ _ _ _ h => h, ?_⟩)) ?_ ?_
          rotate_left; simp only [ordOps, List.map_cons, List.map_nil, List.getElem?_cons_succ, List.getElem?_cons_zero, Option.getD_some]; rotate_left
          · exact (Below.refl _ wr).drew
          repeat ((first | (refine wpP_q (by rfl) (by rfl) ?_ ?_ ?_; rotate_left; focus (rintro W hX; have s0 := (hX.cell (p := ⟨n + 1, 1, none⟩) hnw).trans hcell; go_simp; try (with_reducible rfl); done)) | refine wpP_skip (by rfl) (by rfl) ?_); try simp only [Act.put, List.setIfInBounds_toArray, List.set_cons_succ, List.set_cons_zero])
          have hX2 : Below wr.heap.size wr wr.drew := (Below.refl _ wr).drew
          have HP2 := HP.out.below hX2
          refine wpP_a (by rfl) (by rfl) fun K hK => ?_
          go_simp
          refine hK _ _ (fun h => absurd h (by omega)) ?_; clear hK K; try simp only [Act.put, List.setIfInBounds_toArray, List.set_cons_succ, List.set_cons_zero]
          refine wpP_nil ?_
          have hv : IntKind.i64.wrap (IntKind.i64.wrap (IntKind.i64.wrap (10 * y) + IntKind.i64.wrap (b : Int)) - 48) = 10 * y + (b : Int) - 48 := by
            rw [IntWalk.i64_in (10 * y) (by omega), IntWalk.i64_in (b : Int) (by omega), IntWalk.i64_in (10 * y + (b : Int)) (by omega), IntWalk.i64_in _ (by omega)]
          rw [hv]
          have HP3 := (HP.out.set 1 (10 * y + (b : Int) - 48) _ _ _ (.inr (.inl ⟨rfl, rfl, rfl, rfl⟩))).below (Below.refl _ _).drew
          have hB3 := (hB.setCell (p := ⟨n + 1, 1, none⟩) (by show w.heap.size ≤ n + 1; omega) (.int .i64 (10 * y + (b : Int) - 48))).drew
          clear hv HP2 hX2
          go_wp2
          go_roundw
          case rel => exact ⟨k + 1, ⟨1, x, 10 * y + (b : Int) - 48, z⟩, by omega, by go_num, by go_num, HS, ⟨by simp only; omega, by simp only; omega, by simp only; omega, by simp only; omega, by simp only; omega, by simp only; omega, by simp only; omega⟩, HP3, hB3⟩
          case measure => simp [intOf]; omega
      · have hcell := (cell_of HP.out.out 2).1
        have hfr := (cell_of HP.out.out 2).2
        by_cases h46 : b = 46
        · subst h46
          have HR := Lib.hid (T.scan_fail l k (by rw [hst.out]; rfl))
          clear hst
          go_wp2_with (refine wpList_store_row rfl _ _ _ rfl n (Id.arr T.zeroId) rfl rfl _ _ hres rfl rfl (Id.one _) ?_)
          have hR6 := setRow_heap _ n _ (Id.arr T.zeroId) _ _ hres
          exact bodyPost_ret (rparse_results _ _ n _ _ rfl rfl (rowAt_rowI hR6)) rfl ⟨by rw [HR.out]; rfl, below_setRowI hB hnn _⟩
        · have e46 : ((b : Int) == 46) = false := by rw [beq_eq_false_iff_ne]; omega
          by_cases h48 : b < 48
          · have HR := Lib.hid (T.scan_fail l k (by rw [hst.out]; simp only [T.stepI]; rw [if_neg h46, if_pos (.inl h48)]))
            clear hst
            go_wp2_with (refine wpList_store_row rfl _ _ _ rfl n (Id.arr T.zeroId) rfl rfl _ _ hres rfl rfl (Id.one _) ?_)
            have hR6 := setRow_heap _ n _ (Id.arr T.zeroId) _ _ hres
            exact bodyPost_ret (rparse_results _ _ n _ _ rfl rfl (rowAt_rowI hR6)) rfl ⟨by rw [HR.out]; rfl, below_setRowI hB hnn _⟩
          by_cases h57 : 57 < b
          · have HR := Lib.hid (T.scan_fail l k (by rw [hst.out]; simp only [T.stepI]; rw [if_neg h46, if_pos (.inr (.inl h57))]))
            clear hst
            go_wp2_with (refine wpList_store_row rfl _ _ _ rfl n (Id.arr T.zeroId) rfl rfl _ _ hres rfl rfl (Id.one _) ?_)
            have hR6 := setRow_heap _ n _ (Id.arr T.zeroId) _ _ hres
            exact bodyPost_ret (rparse_results _ _ n _ _ rfl rfl (rowAt_rowI hR6)) rfl ⟨by rw [HR.out]; rfl, below_setRowI hB hnn _⟩
          by_cases hbig : 100000000 < z
          · have HR := Lib.hid (T.scan_fail l k (by rw [hst.out]; simp only [T.stepI]; rw [if_neg h46, if_pos (.inr (.inr (by simpa [Scan.get] using hbig)))]))
            clear hst
            go_wp2_with (refine wpList_store_row rfl _ _ _ rfl n (Id.arr T.zeroId) rfl rfl _ _ hres rfl rfl (Id.one _) ?_)
            have hR6 := setRow_heap _ n _ (Id.arr T.zeroId) _ _ hres
            exact bodyPost_ret (rparse_results _ _ n _ _ rfl rfl (rowAt_rowI hR6)) rfl ⟨by rw [HR.out]; rfl, below_setRowI hB hnn _⟩
          have HS := Lib.hid (show T.scan T.scan0 (l.take (k + 1)) = some ⟨2, x, y, 10 * z + (b : Int) - 48⟩ by
            rw [hst.out]; simp only [T.stepI]; rw [if_neg h46, if_neg (by simp [Scan.get]; omega)]; simp [Scan.set, Scan.get])
          clear hst hsc
          go_wp2
          refine wp_region_P 14 [14] [0, 1, 2, 3, 4, 5, 6, 7, 8, 9, 10, 11, 12, 13, 14] (fun X => Below wr.heap.size wr X) (by kernel_rfl) (by kernel_rfl) (by kernel_rfl) (by decide) (by simp only [ordOps, List.map_cons, List.map_nil, List.getElem?_cons_succ, List.getElem?_cons_zero, Option.getD_some]; repeat (first | exact trivial | refine ⟨.inl rfl, ?_⟩ | refine ⟨.inr fun _ _ _ _ h => h, ?_⟩)) ?_ ?_
          rotate_left; simp only [ordOps, List.map_cons, List.map_nil, List.getElem?_cons_succ, List.getElem?_cons_zero, Option.getD_some]; rotate_left
          · exact (Below.refl _ wr).drew
          repeat ((first | (refine wpP_q (by rfl) (by rfl) ?_ ?_ ?_; rotate_left; focus (rintro W hX; have s0 := (hX.cell (p := ⟨n + 1, 2, none⟩) hnw).trans hcell; go_simp; try (with_reducible rfl); done)) | refine wpP_skip (by rfl) (by rfl) ?_); try simp only [Act.put, List.setIfInBounds_toArray, List.set_cons_succ, List.set_cons_zero])
          have hX2 : Below wr.heap.size wr wr.drew := (Below.refl _ wr).drew
          have HP2 := HP.out.below hX2
          refine wpP_a (by rfl) (by rfl) fun K hK => ?_
          go_simp
          refine hK _ _ (fun h => absurd h (by omega)) ?_; clear hK K; try simp only [Act.put, List.setIfInBounds_toArray, List.set_cons_succ, List.set_cons_zero]
          refine wpP_nil ?_
          have hv : IntKind.i64.wrap (IntKind.i64.wrap (IntKind.i64.wrap (10 * z) + IntKind.i64.wrap (b : Int)) - 48) = 10 * z + (b : Int) - 48 := by
            rw [IntWalk.i64_in (10 * z) (by omega), IntWalk.i64_in (b : Int) (by omega), IntWalk.i64_in (10 * z + (b : Int)) (by omega), IntWalk.i64_in _ (by omega)]
          rw [hv]
          have HP3 := (HP.out.set 2 (10 * z + (b : Int) - 48) _ _ _ (.inr (.inr ⟨rfl, rfl, rfl, rfl⟩))).below (Below.refl _ _).drew
          have hB3 := (hB.setCell (p := ⟨n + 1, 2, none⟩) (by show w.heap.size ≤ n + 1; omega) (.int .i64 (10 * z + (b : Int) - 48))).drew
          clear hv HP2 hX2
          go_wp2
          go_roundw
          case rel => exact ⟨k + 1, ⟨2, x, y, 10 * z + (b : Int) - 48⟩, by omega, by go_num, by go_num, HS, ⟨by simp only; omega, by simp only; omega, by simp only; omega, by simp only; omega, by simp only; omega, by simp only; omega, by simp only; omega⟩, HP3, hB3⟩
          case measure => simp [intOf]; omega
    · obtain rfl : k = l.length := by omega
      have hs := hsc.out
      rw [List.take_length] at hs
      obtain ⟨d, hd⟩ : ∃ d : Id, d = ⟨x, y, z⟩ := ⟨_, rfl⟩
      have hdo : Id.ok d := by rw [hd]; exact ⟨⟨by simp only; omega, by simp only; omega⟩, ⟨by simp only; omega, by simp only; omega⟩, ⟨by simp only; omega, by simp only; omega⟩⟩
      have HPR := Lib.hid (show T.rparse l = if T.idRight d = true ∧ T.idText d = l then (d, true) else (T.zeroId, false) by rw [T.rparse, hs, hd]; rfl)
      have harr : (#[.int .i64 x, .int .i64 y, .int .i64 z] : Array Value) = Id.arr d := by rw [hd]; rfl
      have HA := Lib.hid harr
      have hnw := hP.lt
      have hnn : w.heap.size ≤ n := by have := HN.out; omega
      have k0 := (cell_of hP.out 0).1
      have k1 := (cell_of hP.out 1).1
      have k2 := (cell_of hP.out 2).1
      have HP := Lib.hid hP
      have htw := ht.below hB
      clear hd harr hs hsc hP ht
      go_wp2
      refine wp_region_P 11 [10, 11] [0, 1, 2, 3, 4, 5, 6, 7, 8, 9, 10, 11] (fun X => Below wr.heap.size wr X) (by kernel_rfl) (by kernel_rfl) (by kernel_rfl) (by decide) (by simp only [ordOps, List.map_cons, List.map_nil, List.getElem?_cons_succ, List.getElem?_cons_zero, Option.getD_some]; repeat (first | exact trivial | refine ⟨.inl rfl, ?_⟩ | refine ⟨.inr fun _ _ _ _ h => h, ?_⟩)) ?_ ?_
      rotate_left; simp only [ordOps, List.map_cons, List.map_nil, List.getElem?_cons_succ, List.getElem?_cons_zero, Option.getD_some]; rotate_left
      · exact (Below.refl _ wr).drew
      repeat ((first | (refine wpP_q (by rfl) (by rfl) ?_ ?_ ?_; rotate_left; focus (rintro W hX; have s0 := (hX.cell (p := ⟨n + 1, 0, none⟩) hnw).trans k0; have s1 := (hX.cell (p := ⟨n + 1, 1, none⟩) hnw).trans k1; have s2 := (hX.cell (p := ⟨n + 1, 2, none⟩) hnw).trans k2; go_simp; try (with_reducible rfl); done)) | refine wpP_skip (by rfl) (by rfl) ?_); try simp only [Act.put, List.setIfInBounds_toArray, List.set_cons_succ, List.set_cons_zero])
      have hX2 : Below wr.heap.size wr wr.drew := (Below.refl _ wr).drew
      refine wpP_a (by rfl) (by rfl) fun K hK => ?_
      go_simp
      obtain ⟨g, hg⟩ : ∃ g, g = wr.heap.size := ⟨_, rfl⟩
      have hX3 : Below wr.heap.size wr (wr.alloc (Obj.cells #[Value.int IntKind.i64 0, Value.int IntKind.i64 0, Value.int IntKind.i64 0] 38)).drew := ((Below.refl _ wr).alloc (Nat.le_refl _) _).drew
      have hgh : (wr.alloc (Obj.cells #[Value.int IntKind.i64 0, Value.int IntKind.i64 0, Value.int IntKind.i64 0] 38)).drew.heap[g]? = some (.cells #[Value.int IntKind.i64 0, Value.int IntKind.i64 0, Value.int IntKind.i64 0] 38 (0, 0)) := by rw [hg]; exact heap_alloc_new wr _
      rw [← hg]
      refine hK _ _ (fun _ => hX3) ?_; clear hK K; try simp only [Act.put, List.setIfInBounds_toArray, List.set_cons_succ, List.set_cons_zero]
      refine wpP_a (by rfl) (by rfl) fun K hK => ?_
      refine wp_store_row _ _ _ rfl g (Id.arr d) rfl (congrArg Value.agg HA.out) _ _ hgh rfl rfl (Id.one _) ?_
      have hX4 := below_setRowI hX3 (Nat.le_of_eq hg.symm) (Id.arr d)
      have hG := setRow_heap _ g _ (Id.arr d) _ _ hgh
      obtain ⟨W4, hW4⟩ : ∃ W4, W4 = ((wr.alloc (Obj.cells #[Value.int IntKind.i64 0, Value.int IntKind.i64 0, Value.int IntKind.i64 0] 38)).drew).setRow g (Id.arr d) := ⟨_, rfl⟩
      rw [← hW4] at hX4 hG ⊢
      refine hK _ _ (fun h => absurd h (by omega)) ?_; clear hK K; try simp only [Act.put, List.setIfInBounds_toArray, List.set_cons_succ, List.set_cons_zero]
      refine wpP_nil ?_
      have r7 : rowAt W4 g 0 3 = some (Id.arr d) := rowAt_rowI hG
      have hgz : g < W4.heap.size := (Array.getElem?_eq_some_iff.1 hG).1
      have HP4 := Lib.hid (HP.out.below hX4)
      have hB4 := bthen hB hX4
      have ht4 := htw.below hX4
      have HG := Lib.hid hG
      have hri := rIdRight_c d W4
      have htx := fun (X : World) (hX : Below W4.heap.size W4 X) => rIdText_c d hdo X (ht4.below hX)
      clear hgh hX3 hX2 hW4 hG hX4 HP hB htw k0 k1 k2 hg
      rcases h0 : T.idRight d with _ | _
      · have HR := Lib.hid (show T.rparse l = (T.zeroId, false) by rw [HPR.out, if_neg (by rw [h0]; simp)])
        rw [h0] at hri
        clear h0 HPR
        go_wp2_with (first | (refine wpList_load_at_v 38 _ rfl rfl _ (0) 3 rfl _ _ r7 rfl rfl rfl ?_) | (go_at_call 29; (with_reducible refine hri.mono ?_); rintro r w5 ⟨rfl, hb5⟩; have hR5 := (HP4.out.below hb5).res) | (refine wpList_store_row rfl _ _ _ rfl n (Id.arr T.zeroId) rfl rfl _ _ hR5 rfl rfl (Id.one _) ?_))
        have hR6 := setRow_heap _ n _ (Id.arr T.zeroId) _ _ hR5
        refine bodyPost_ret (rparse_results _ _ n _ _ rfl rfl (rowAt_rowI hR6)) rfl ⟨by rw [HR.out]; rfl, below_setRowI (bthen hB4 hb5) hnn _⟩
      · rw [h0] at hri
        by_cases ht : T.idText d = l
        · have HR := Lib.hid (show T.rparse l = (d, true) by rw [HPR.out, if_pos ⟨h0, ht⟩])
          rw [ht] at htx
          clear h0 HPR ht
          go_wp2_with (first | (refine wpList_load_at_v 38 _ rfl rfl _ (0) 3 rfl _ _ r7 rfl rfl rfl ?_) | (go_at_call 29; (with_reducible refine hri.mono ?_); rintro r w5 ⟨rfl, hb5⟩; have r5 := (rowAt_block (hb5.block g hgz)).trans r7; have htx5 := htx _ hb5) | (refine wpList_load_at_v 38 _ rfl rfl _ (0) 3 rfl _ _ r5 rfl rfl rfl ?_) | (go_at_call 33; (with_reducible refine htx5.mono ?_); rintro r w6 ⟨rfl, hb6⟩; have hb56 := bthen hb5 hb6; have r6 := (rowAt_block (hb56.block g hgz)).trans r7; have hR6 := (HP4.out.below hb56).res) | (refine wpList_load_at_v 38 _ rfl rfl _ (0) 3 rfl _ _ r6 rfl rfl rfl ?_) | (refine wpList_store_row rfl _ _ _ rfl n (Id.arr d) rfl rfl _ _ hR6 rfl rfl (Id.one _) ?_))
          have hR7 := setRow_heap _ n _ (Id.arr d) _ _ hR6
          refine bodyPost_ret (rparse_results _ _ n _ _ rfl rfl (rowAt_rowI hR7)) rfl ⟨by rw [HR.out]; rfl, below_setRowI (bthen hB4 hb56) hnn _⟩
        · have HR := Lib.hid (show T.rparse l = (T.zeroId, false) by rw [HPR.out, if_neg fun hh => ht hh.2])
          have hne : (T.idText d == l) = false := beq_eq_false_iff_ne.2 ht
          clear h0 HPR ht
          go_wp2_with (first | (refine wpList_load_at_v 38 _ rfl rfl _ (0) 3 rfl _ _ r7 rfl rfl rfl ?_) | (go_at_call 29; (with_reducible refine hri.mono ?_); rintro r w5 ⟨rfl, hb5⟩; have r5 := (rowAt_block (hb5.block g hgz)).trans r7; have htx5 := htx _ hb5) | (refine wpList_load_at_v 38 _ rfl rfl _ (0) 3 rfl _ _ r5 rfl rfl rfl ?_) | (go_at_call 33; (with_reducible refine htx5.mono ?_); rintro r w6 ⟨rfl, hb6⟩; have hb56 := bthen hb5 hb6; have hR6 := (HP4.out.below hb56).res) | (refine wpList_store_row rfl _ _ _ rfl n (Id.arr T.zeroId) rfl rfl _ _ hR6 rfl rfl (Id.one _) ?_))
          have hR7 := setRow_heap _ n _ (Id.arr T.zeroId) _ _ hR6
          refine bodyPost_ret (rparse_results _ _ n _ _ rfl rfl (rowAt_rowI hR7)) rfl ⟨by rw [HR.out]; rfl, below_setRowI (bthen hB4 hb56) hnn _⟩
end Go.Proofs.YtcncmbcnekekdaaDoor
