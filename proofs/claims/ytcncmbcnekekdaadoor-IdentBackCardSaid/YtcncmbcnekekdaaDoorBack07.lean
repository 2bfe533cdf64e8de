/- IdentBack: its walk. -/
import Derived.Test.YtcncmbcnekekdaaDoorRead
import Derived.Test.YtcncmbcnekekdaaDoorRow
namespace Go.Proofs.YtcncmbcnekekdaaDoor
open Go.RowKit Go.Shelf
set_option linter.unusedVariables false
set_option linter.unusedSimpArgs false
/-- The library's variables read on, where a block g of the call's own is written. -/
theorem EnvB {g : Nat} {w w' : World} (h : Env w) (hb : Bsd g w w') (hg : 3 < g ∧ 2 < g ∧ 0 < g ∧ 1 < g) : Env w' := by
  obtain ⟨h1, h2, h3, h4⟩ := hg
  have hcell : ∀ (b : Nat) (v : Value), b < g → w.cell? ⟨b, 0, none⟩ = some v → w'.cell? ⟨b, 0, none⟩ = some v := by
    intro b v hb' hv
    have hlt : b < w.heap.size := World.block_lt_of_cell? w _ hv
    rw [World.cell?_of_block (w := w) (w' := w') (a := ⟨b, 0, none⟩) (hb.block b hlt (by omega))]; exact hv
  refine ⟨?_, ?_, ?_, ?_⟩
  · have ht := h.tab
    unfold Tab Lib.TabIs World.var? at ht ⊢
    rw [show Tryd.prog.globalNamed "internal/strconv.uint64pow10" = some 3 by kernel_rfl] at ht ⊢
    simp only [Option.bind_some] at ht ⊢
    have hlt : 3 < w.heap.size := by
      rcases Nat.lt_or_ge 3 w.heap.size with h' | h'
      · exact h'
      · rw [Array.getElem?_eq_none h'] at ht; simp at ht
    rw [hb.block _ hlt (by omega)]
    exact ht
  · obtain ⟨m, hm⟩ := h.max; exact ⟨m, hcell _ _ h2 hm⟩
  · obtain ⟨m, hm, hx⟩ := h.syn; exact ⟨m, hcell _ _ h3 hm, hx⟩
  · obtain ⟨m, hm, hx⟩ := h.ran; exact ⟨m, hcell _ _ h4 hm, hx⟩
/-- The library's variables lie in the world. -/
theorem Env.low {w : World} (h : Env w) : 3 < w.heap.size ∧ 2 < w.heap.size ∧ 0 < w.heap.size ∧ 1 < w.heap.size := by
  refine ⟨?_, ?_, ?_, ?_⟩
  · have ht := h.tab
    unfold Tab Lib.TabIs World.var? at ht
    rw [show Tryd.prog.globalNamed "internal/strconv.uint64pow10" = some 3 by kernel_rfl] at ht
    simp only [Option.bind_some] at ht
    rcases Nat.lt_or_ge 3 w.heap.size with h' | h'
    · exact h'
    · rw [Array.getElem?_eq_none h'] at ht; simp at ht
  · obtain ⟨m, hm⟩ := h.max; exact World.block_lt_of_cell? w _ hm
  · obtain ⟨m, hm, _⟩ := h.syn; exact World.block_lt_of_cell? w _ hm
  · obtain ⟨m, hm, _⟩ := h.ran; exact World.block_lt_of_cell? w _ hm
attribute [local go_sem] Key.sz Id.sz
attribute [local go_sem high] eqTId eqTKey
set_option maxRecDepth 100000 in
set_option maxHeartbeats 8000000 in
theorem identBack_w (k : Key) (hok : Key.ok k) (w : World) (he : Env w) : Calls Tryd.prog 7 #[.agg (Key.arr k)] w fun e w' => e = .returned (.bool true) ∧ Below w.heap.size w w' := by
  obtain ⟨n, hn⟩ : ∃ n, n = w.heap.size := ⟨_, rfl⟩
  obtain ⟨W0, hW0⟩ : ∃ W0, W0 = w.alloc (Obj.cells (Key.arr k) 46) := ⟨_, rfl⟩
  have hB0 : Below w.heap.size w W0 := by rw [hW0]; exact (Below.refl _ w).alloc (Nat.le_refl _) _
  have hz0 : n < W0.heap.size := by rw [hW0, hn]; simp
  have rK : rowAt W0 n 0 4 = some (Key.arr k) := by rw [hW0, hn]; exact rowAt_new _ _ _ _ _ rfl
  have rI : rowAt W0 n 0 3 = some (Id.arr k.id) := (rowAt_part rK 0 3 (by omega)).trans (congrArg some (Key.part_id k))
  have he0 := he.below hB0
  have hkr := keyRight_c k W0
  have HW := Lib.hid hW0
  have HN := Lib.hid hn
  have HE := Lib.hid he0
  have hlow := he.low
  clear hW0 hn he
  rcases hr : T.keyRight k with _ | _
  · rw [hr] at hkr
    clear hr
    go_enter Tryd.func7, Tryd.ntmps7
    go_upto_region 1 with (fail)
    rw [← HW.out, ← HN.out]
    go_wp2_with (first | (refine wpList_load_at_v 46 _ rfl rfl _ (0) 4 rfl _ _ rK rfl rfl rfl ?_) | (go_at_call 30; (with_reducible refine hkr.mono ?_); rintro r w1 ⟨rfl, hb1⟩; have haw := awake07_c w1 (HE.out.below hb1)) | (go_at_call 26; (with_reducible refine haw.mono ?_); rintro r w2 ⟨rfl, hb2⟩))
    go_ret
    exact ⟨rfl, bthen hB0 (bthen hb1 hb2)⟩
  · rw [hr] at hkr
    have hr1 : T.idRight k.id = true := by simp only [T.keyRight, Bool.and_eq_true] at hr; exact hr.1
    have htl := T.idText_len k.id hok.1
    have HT := Lib.hid (fun (X : World) (hX : Below W0.heap.size W0 X) => idText_c k.id hok.1 X (he0.tab.below hX))
    have hpa := fun (X : World) (hX : Below W0.heap.size W0 X) => parse_c (T.idText k.id) (by omega) X (he0.below hX)
    rw [T.parse_back hr1] at hpa
    have HPA := Lib.hid hpa
    have HKC := Lib.hid (fun X : World => keyCode_c k hr X)
    have HRK := Lib.hid (fun (g : Nat) (X : World) (h : Rd g (T.keyCode k) X) => readKey_c g k X h hr)
    have HOP := Lib.hid (fun X : World => open_c (T.keyCode k) X)
    have hpe : T.perr true = 0 := rfl
    have HK0 := Lib.hid rK
    have HI0 := Lib.hid rI
    clear hr hpa htl hok hr1
    go_enter Tryd.func7, Tryd.ntmps7
    go_upto_region 1 with (fail)
    rw [← HW.out, ← HN.out]
    go_upto_region 5 with (first | (refine wpList_load_at_v 46 _ rfl rfl _ (0) 4 rfl _ _ rK rfl rfl rfl ?_) | (go_at_call 30; (with_reducible refine hkr.mono ?_); rintro r w1 ⟨rfl, hb1⟩; have rI1 := (rowAt_block (hb1.block n hz0)).trans rI; have htx := HT.out w1 hb1; clear rK) | (refine wpList_load_at_v 38 _ rfl rfl _ (0) 3 rfl _ _ rI1 rfl rfl rfl ?_) | (go_at_call 32; (with_reducible refine htx.mono ?_); rintro r w2 ⟨rfl, hb2⟩; have hb02 := bthen hb1 hb2; have hps := HPA.out w2 hb02; clear rI1 htx) | (go_at_call 24; (with_reducible refine hps.mono ?_); rintro r w3 ⟨rfl, hb3⟩; have hb03 := bthen hb02 hb3; clear hps) | (refine wpList_store_new rfl _ _ _ rfl w3.heap.size (Id.arr k.id) _ _ rfl rfl rfl rfl rfl (Id.one _) ?_; have hb04 := hb03.alloc hb03.size (Obj.cells (Id.arr k.id) 38); have rK4 := (rowAt_block (hb04.block n hz0)).trans HK0.out) | (refine wpList_load_at_v 46 _ rfl rfl _ (0) 4 rfl _ _ rK4 rfl rfl rfl ?_) | (go_at_call 39; (with_reducible refine (HKC.out _).mono ?_); rintro r w5 ⟨rfl, hb5⟩; have hb05 := bthen hb04 hb5) | (go_at_call 43; (with_reducible refine (HOP.out _).mono ?_); rintro r w6 ⟨rfl, rfl⟩))
    obtain ⟨W5, hW5⟩ : ∃ W5, W5 = w5.alloc (Obj.cells #[strV (T.keyCode k), .int .i64 0] 113) := ⟨_, rfl⟩
    have hb06 : Below W0.heap.size W0 W5 := by rw [hW5]; exact hb05.alloc hb05.size _
    have hRd : Rd w5.heap.size (T.keyCode k) W5 := by rw [hW5]; exact heap_alloc_new _ _
    have hgd : w3.heap.size < w5.heap.size := Nat.lt_of_lt_of_le (show w3.heap.size < (w3.alloc (Obj.cells (Id.arr k.id) 38)).heap.size by simp) hb5.size
    have hg5 : w5.heap.size < W5.heap.size := by rw [hW5]; simp
    have hW0z : W0.heap.size ≤ w3.heap.size := hb03.size
    have rK5 := (rowAt_block (hb06.block n hz0)).trans HK0.out
    have rI5 := (rowAt_block (hb06.block n hz0)).trans HI0.out
    have rD5 : rowAt W5 w3.heap.size 0 3 = some (Id.arr k.id) := by
      rw [hW5, rowAt_alloc_old _ _ _ _ _ hgd]
      exact (rowAt_block (hb5.block w3.heap.size (by simp))).trans (rowAt_new _ _ _ _ _ rfl)
    rw [← hW5]
    obtain ⟨g, hg⟩ : ∃ g, g = w5.heap.size := ⟨_, rfl⟩
    obtain ⟨m, hm⟩ : ∃ m, m = w3.heap.size := ⟨_, rfl⟩
    rw [← hg] at hRd hgd hg5 ⊢
    rw [← hm] at rD5 hgd hW0z ⊢
    have hnn : w.heap.size ≤ n := by have := HN.out; omega
    have hrk := HRK.out g W5.drew (hRd.below (Below.refl _ W5).drew)
    have hX0 : Bsd g W5 W5.drew := (Bsd.refl g W5).below (Below.refl _ W5).drew
    have hmg : m ≠ g := by omega
    have hng : n ≠ g := by omega
    have hm5 : m < W5.heap.size := by omega
    have hn5 : n < W5.heap.size := by omega
    have hgn : w.heap.size ≤ g := by omega
    have hgl : 3 < g ∧ 2 < g ∧ 0 < g ∧ 1 < g := by omega
    have HB6 := Lib.hid (bthen hB0 hb06)
    have HE6 := Lib.hid (HE.out.below hb06)
    clear hW5 hg hm HRK HKC HOP HPA HT hb1 hb2 hb3 hb5 hb02 hb03 hb04 hb05 hb06 rK4 hkr hpe
    refine wp_region_P 22 [10, 16, 20, 22] [0, 1, 2, 3, 4, 5, 6, 7, 8, 9, 11, 10, 12, 13, 14, 15, 16, 17, 18, 19, 20, 21, 22] (fun X => Bsd g W5 X) (by kernel_rfl) (by kernel_rfl) (by kernel_rfl) (by decide) (by simp only [ordOps, List.map_cons, List.map_nil, List.getElem?_cons_succ, List.getElem?_cons_zero, Option.getD_some]; repeat (first | exact trivial | refine ⟨.inl rfl, ?_⟩ | refine ⟨.inr fun _ _ _ _ h => h, ?_⟩)) ?_ ?_
    rotate_left; simp only [ordOps, List.map_cons, List.map_nil, List.getElem?_cons_succ, List.getElem?_cons_zero, Option.getD_some]; rotate_left
    · exact hX0
    iterate 3 ((first | (refine wpP_q (by rfl) (by rfl) ?_ ?_ ?_; rotate_left; focus (rintro W hX; go_simp; try (with_reducible rfl); done)) | refine wpP_skip (by rfl) (by rfl) ?_); try simp only [Act.put, List.setIfInBounds_toArray, List.set_cons_succ, List.set_cons_zero])
    refine wpP_q (by rfl) (by rfl) (.agg (Id.arr k.id)) ?_ ?_
    · intro X hX; exact yields_load_at 38 _ rfl m (0) 3 rfl (Id.arr k.id) _ Tryd.underlying38 rfl (by kernel_rfl) ((rowAt_block (hX.block m hm5 hmg)).trans rD5)
    simp only [Act.put, List.setIfInBounds_toArray, List.set_cons_succ, List.set_cons_zero]
    iterate 1 ((first | (refine wpP_q (by rfl) (by rfl) ?_ ?_ ?_; rotate_left; focus (rintro W hX; go_simp; try (with_reducible rfl); done)) | refine wpP_skip (by rfl) (by rfl) ?_); try simp only [Act.put, List.setIfInBounds_toArray, List.set_cons_succ, List.set_cons_zero])
    refine wpP_q (by rfl) (by rfl) (.agg (Id.arr k.id)) ?_ ?_
    · intro X hX; exact yields_load_at 38 _ rfl n (0) 3 rfl (Id.arr k.id) _ Tryd.underlying38 rfl (by kernel_rfl) ((rowAt_block (hX.block n hn5 hng)).trans rI5)
    simp only [Act.put, List.setIfInBounds_toArray, List.set_cons_succ, List.set_cons_zero]
    iterate 4 ((first | (refine wpP_q (by rfl) (by rfl) ?_ ?_ ?_; rotate_left; focus (rintro W hX; go_simp; try (with_reducible rfl); done)) | refine wpP_skip (by rfl) (by rfl) ?_); try simp only [Act.put, List.setIfInBounds_toArray, List.set_cons_succ, List.set_cons_zero])
    refine wpP_q (by rfl) (by rfl) (.agg (Key.arr k)) ?_ ?_
    · intro X hX; exact yields_load_at 46 _ rfl n (0) 4 rfl (Key.arr k) _ Tryd.underlying46 rfl (by kernel_rfl) ((rowAt_block (hX.block n hn5 hng)).trans rK5)
    simp only [Act.put, List.setIfInBounds_toArray, List.set_cons_succ, List.set_cons_zero]
    refine wpP_a (by rfl) (by rfl) fun K hK => ?_
    go_simp
    refine hrk.mono ?_
    rintro r w7 ⟨rfl, hd7, hb7⟩
    have hX7 := hX0.trans hb7
    refine hK _ _ (fun _ => hX7) ?_; clear hK K; try simp only [Act.put, List.setIfInBounds_toArray, List.set_cons_succ, List.set_cons_zero]
    repeat ((first | (refine wpP_q (by rfl) (by rfl) ?_ ?_ ?_; rotate_left; focus (rintro W hX; go_simp; try (with_reducible rfl); done)) | refine wpP_skip (by rfl) (by rfl) ?_); try simp only [Act.put, List.setIfInBounds_toArray, List.set_cons_succ, List.set_cons_zero])
    refine wpP_a (by rfl) (by rfl) fun K hK => ?_
    go_simp
    refine (end_c g w7 hd7).mono ?_
    rintro r w8 ⟨rfl, rfl⟩
    refine hK _ _ (fun _ => hX7) ?_; clear hK K; try simp only [Act.put, List.setIfInBounds_toArray, List.set_cons_succ, List.set_cons_zero]
    repeat ((first | (refine wpP_q (by rfl) (by rfl) ?_ ?_ ?_; rotate_left; focus (rintro W hX; go_simp; try (with_reducible rfl); done)) | refine wpP_skip (by rfl) (by rfl) ?_); try simp only [Act.put, List.setIfInBounds_toArray, List.set_cons_succ, List.set_cons_zero])
    refine wpP_a (by rfl) (by rfl) fun K hK => ?_
    go_simp
    have hbw : Below W5.heap.size W5 W5 := Below.refl _ _
    refine (awake07_c _ (EnvB HE6.out hX7 hgl)).mono ?_
    rintro r w9 ⟨rfl, hb9⟩
    have hX9 := hX7.below hb9
    refine hK _ _ (fun _ => hX9) ?_; clear hK K; try simp only [Act.put, List.setIfInBounds_toArray, List.set_cons_succ, List.set_cons_zero]
    repeat ((first | (refine wpP_q (by rfl) (by rfl) ?_ ?_ ?_; rotate_left; focus (rintro W hX; go_simp; try (with_reducible rfl); done)) | refine wpP_skip (by rfl) (by rfl) ?_); try simp only [Act.put, List.setIfInBounds_toArray, List.set_cons_succ, List.set_cons_zero])
    refine wpP_a (by rfl) (by rfl) fun K hK => ?_
    go_simp
    refine hK _ _ (fun h => absurd h (by omega)) ?_; clear hK K; try simp only [Act.put, List.setIfInBounds_toArray, List.set_cons_succ, List.set_cons_zero]
    refine wpP_nil ?_
    go_wp2
    go_ret
    exact ⟨rfl, HB6.out.trans (hX9.toBelow hgn (HB6.out.size))⟩
theorem identBack_g (k : Key) (W : World) (he : Env W) (ha : Key.ok k) :
    Calls Tryd.prog 7 #[.agg (Key.arr k)] W fun e w' => e = .returned (.bool true) ∧ Below W.heap.size W w' := identBack_w k ha W he
end Go.Proofs.YtcncmbcnekekdaaDoor
