/- chain.Of, where all may be. -/
import Derived.Test.YtofifeicbhbgpaaOf
namespace Go.Proofs.Ytofifeicbhbgpaa
open Go.RowKit
set_option linter.unusedVariables false
set_option linter.unusedSimpArgs false
attribute [local go_sem] Config.sz Config.at13

theorem T.all_ops (c : Config) (zs : List (Value × List GoOp)) (h : T.allOk c zs = true) : ∀ l ∈ T.progs zs, l.length ≤ 16 ∧ ∀ o ∈ l, T.opOk o c.nodes zs.length = true := by
  intro l hl
  obtain ⟨z, hz, rfl⟩ := List.mem_map.1 hl
  have := List.all_eq_true.1 h z hz
  simp only [T.rightOk, Bool.and_eq_true, decide_eq_true_eq, List.all_eq_true] at this
  exact this
theorem T.right_hops (c : Config) (n : Nat) (h : T.right c n = true) : c.hops ≤ 16 := by unfold T.right at h; have := of_decide_eq_true h; omega
set_option maxRecDepth 100000 in
set_option maxHeartbeats 2000000 in
theorem of_yes (c : Config) (zs : List (Value × List GoOp)) (p late : Int) (w : World) (hz : Progs w.heap.size w c.progs zs) (h1 : T.right c zs.length = true) (h2 : T.allOk c zs = true) (p0 : 0 ≤ p) (p1 : p < zs.length) (l0 : 0 ≤ late) (l3 : late ≤ 3) :
    Calls Try.prog 15 #[.agg (Config.arr c), .int .i64 p, .int .i64 late] w (OfPost (T.of c zs p late) w) := by
  obtain ⟨A, cap, hv, hcap, hl1, hl2⟩ := hz.1.view
  rw [List.length_map] at hv hcap hl1
  have hr := fun W => right_c c A zs.length cap hv W
  rw [h1] at hr
  have hops := T.right_hops c _ h1
  have hall := T.all_ops c zs h2
  have hof : T.of c zs p late = T.planOf (T.plan (T.progs zs) c.hops c.fan late 17 p.toNat 1 0) := by
    unfold T.of; rw [if_pos (by simp [T.ofOk, h1, h2, p0, p1, l0, l3])]
  have hpc := fun g => plan_c g c late l0 l3 zs hall hops 17 p.toNat 1 0 (by omega) (by omega) (by omega) (by omega) (by omega) (by omega)
  obtain ⟨y, hy⟩ : ∃ y, y = T.plan (T.progs zs) c.hops c.fan late 17 p.toNat 1 0 := ⟨_, rfl⟩
  obtain ⟨w2, hw2⟩ : ∃ w2, w2 = (w.alloc (Obj.cells (Config.arr c) 40)).alloc (Obj.cells #[Value.int IntKind.i64 0, Value.int IntKind.i64 0, Value.int IntKind.i64 0] 51) := ⟨_, rfl⟩
  have hs2 : w2.heap.size = w.heap.size + 2 := by rw [hw2]; simp
  have hB2 : Below w.heap.size w w2 := by rw [hw2]; exact ((Below.refl _ w).alloc (Nat.le_refl _) _).alloc (by simp) _
  have rc : rowAt w2 w.heap.size 0 14 = some (Config.arr c) := by rw [hw2, rowAt_alloc_old _ _ _ _ _ (by simp)]; exact rowAt_new _ _ _ _ _ rfl
  have hR : w2.heap[w.heap.size + 1]? = some (.cells #[Value.int IntKind.i64 0, Value.int IntKind.i64 0, Value.int IntKind.i64 0] 51 (0, 0)) := by
    have := heap_alloc_new (w.alloc (Obj.cells (Config.arr c) 40)) (Obj.cells #[Value.int IntKind.i64 0, Value.int IntKind.i64 0, Value.int IntKind.i64 0] 51)
    rw [hw2]; simpa using this
  have hR3' : ∀ W, Below w2.heap.size w2 W → W.heap[w.heap.size + 1]? = some (.cells #[Value.int IntKind.i64 0, Value.int IntKind.i64 0, Value.int IntKind.i64 0] 51 (0, 0)) := fun W hb => (hb.block _ (by omega)).trans hR
  have hC3' : ∀ W, Below w2.heap.size w2 W → rowAt W w.heap.size 0 14 = some (Config.arr c) := fun W hb => (rowAt_block (hb.block _ (by omega))).trans rc
  have HA2 := Lib.hid h2
  have g1 : decide (p < 0) = false := by simp; omega
  have g2 : decide ((zs.length : Int) ≤ p) = false := by simp; omega
  have g3 : decide (late < 0) = false := by simp; omega
  have g4 : decide (3 < late) = false := by simp; omega
  rw [hof, ← hy]
  have hpc' : ∀ g W, PlAt g c late 0 W → Progs g W c.progs zs → Calls Try.prog 24 #[.pointer (some ⟨g, 0, none⟩), .int .i64 p, .int .i64 1] W (PlanPost g c late y W) := by
    intro g W a b
    have := hpc g W a b
    rw [Int.toNat_of_nonneg p0, ← hy] at this
    exact this
  clear h1 h2 hall hof hpc hy
  obtain ⟨k, yo⟩ := y
  have hPA : ∀ w4 : World, Below w.heap.size w w4 → PlAt w4.heap.size c late 0 (w4.alloc (Obj.cells (plArr c late 0) 68)) ∧ Progs w4.heap.size (w4.alloc (Obj.cells (plArr c late 0) 68)) c.progs zs := fun w4 h => ⟨heap_alloc_new _ _, (hz.below (h.alloc h.size _)).mono h.size⟩
  subst hw2
  rcases yo with _ | ⟨r, v⟩
  · go_enter Try.func15, Try.ntmps15
    go_wp2_with (first | (refine wpList_load_at rfl 40 _ rfl _ (0) 14 rfl _ _ rc rfl rfl rfl ?_) | (go_at_call 22; (with_reducible refine (hr _).mono ?_); rintro e w3 ⟨rfl, hb3⟩; have rc3 := hC3' _ hb3; have hB3 := hB2.trans (hb3.mono (by simp <;> omega)); have hz3 := (hz.below hB3).mono hB3.size; have ha := all_c c zs w3 hz3; rw [HA2.out] at ha) | (refine wpList_load_at_w rfl 40 _ rfl _ (0) 14 rfl _ _ rc3 rfl rfl rfl ?_) | (go_at_call 23; (with_reducible refine ha.mono ?_); rintro e w4 ⟨rfl, hb4⟩; have hbb := bthen hb3 hb4; have hR4 := hR3' _ hbb; have hB4 := bthen hB3 hb4; have rc4 := hC3' _ hbb; have hs4 := hbb.size; have c4 := rowAt_cell rc4 13 (by omega); rw [Config.at13, hv, Nat.zero_add] at c4; obtain ⟨hPA4, hZA4⟩ := hPA w4 hB4) | (refine wpList_load_at rfl 40 _ rfl _ (0) 14 rfl _ _ rc4 rfl rfl rfl ?_) | (refine wpList_build_at rfl 68 _ rfl _ ?_ _ (builtPl c late) ?_; rfl) | (go_at_call 24; (with_reducible refine (hpc' _ _ hPA4 hZA4).mono ?_); rintro e w5 ⟨x, ok, rfl, hR, hP5, hK5⟩; obtain rfl : ok = false := hR; have hB5 := (hB4.alloc hB4.size (Obj.cells (plArr c late 0) 68)).trans (hK5.below hB4.size (by simp)); have hR5 := (hK5.block (w.heap.size + 1) (by simp at hs4 ⊢; omega) (by simp at hs4 ⊢; omega)).trans ((Below.heap_alloc w4 (Obj.cells (plArr c late 0) 68) (w.heap.size + 1) (by simp at hs4; omega)).trans hR4); have hRx := (Below.heap_alloc w5 (Obj.cells (Plan.arr x) 51) (w.heap.size + 1) (Array.getElem?_eq_some_iff.1 hR5).1).trans hR5) | (refine wpList_store_new rfl _ _ _ rfl w5.heap.size (Plan.arr x) _ _ rfl rfl rfl rfl rfl (Plan.one x) ?_) | (refine wpList_store_row rfl _ _ _ rfl (w.heap.size + 1) (Plan.arr ⟨0, 0, 0⟩) rfl rfl _ _ hRx rfl rfl (Plan.one _) ?_))
    have hR6 := setRow_heap _ (w.heap.size + 1) _ (Plan.arr ⟨0, 0, 0⟩) _ _ hRx
    exact bodyPost_ret (of_results _ _ (w.heap.size + 1) _ _ rfl rfl (rowAt_row hR6)) rfl ⟨rfl, below_setRow (hB5.alloc hB5.size _) (by omega) _⟩
  · go_enter Try.func15, Try.ntmps15
    go_wp2_with (first | (refine wpList_load_at rfl 40 _ rfl _ (0) 14 rfl _ _ rc rfl rfl rfl ?_) | (go_at_call 22; (with_reducible refine (hr _).mono ?_); rintro e w3 ⟨rfl, hb3⟩; have rc3 := hC3' _ hb3; have hB3 := hB2.trans (hb3.mono (by simp <;> omega)); have hz3 := (hz.below hB3).mono hB3.size; have ha := all_c c zs w3 hz3; rw [HA2.out] at ha) | (refine wpList_load_at_w rfl 40 _ rfl _ (0) 14 rfl _ _ rc3 rfl rfl rfl ?_) | (go_at_call 23; (with_reducible refine ha.mono ?_); rintro e w4 ⟨rfl, hb4⟩; have hbb := bthen hb3 hb4; have hR4 := hR3' _ hbb; have hB4 := bthen hB3 hb4; have rc4 := hC3' _ hbb; have hs4 := hbb.size; have c4 := rowAt_cell rc4 13 (by omega); rw [Config.at13, hv, Nat.zero_add] at c4; obtain ⟨hPA4, hZA4⟩ := hPA w4 hB4) | (refine wpList_load_at rfl 40 _ rfl _ (0) 14 rfl _ _ rc4 rfl rfl rfl ?_) | (refine wpList_build_at rfl 68 _ rfl _ ?_ _ (builtPl c late) ?_; rfl) | (go_at_call 24; (with_reducible refine (hpc' _ _ hPA4 hZA4).mono ?_); rintro e w5 ⟨x, ok, rfl, hR, hP5, hK5⟩; obtain ⟨rfl, rfl⟩ : ok = true ∧ x = ⟨k, r, v⟩ := hR; have hB5 := (hB4.alloc hB4.size (Obj.cells (plArr c late 0) 68)).trans (hK5.below hB4.size (by simp)); have hR5 := (hK5.block (w.heap.size + 1) (by simp at hs4 ⊢; omega) (by simp at hs4 ⊢; omega)).trans ((Below.heap_alloc w4 (Obj.cells (plArr c late 0) 68) (w.heap.size + 1) (by simp at hs4; omega)).trans hR4); have hRx := (Below.heap_alloc w5 (Obj.cells (Plan.arr ⟨k, r, v⟩) 51) (w.heap.size + 1) (Array.getElem?_eq_some_iff.1 hR5).1).trans hR5; have hN := rowAt_row (heap_alloc_new w5 (Obj.cells (Plan.arr ⟨k, r, v⟩) 51))) | (refine wpList_store_new rfl _ _ _ rfl w5.heap.size (Plan.arr ⟨k, r, v⟩) _ _ rfl rfl rfl rfl rfl (Plan.one _) ?_) | (refine wpList_load_at rfl 51 _ rfl _ (0) 3 rfl _ _ hN rfl rfl rfl ?_) | (refine wpList_store_row rfl _ _ _ rfl (w.heap.size + 1) (Plan.arr ⟨k, r, v⟩) rfl rfl _ _ hRx rfl rfl (Plan.one _) ?_))
    have hR6 := setRow_heap _ (w.heap.size + 1) _ (Plan.arr ⟨k, r, v⟩) _ _ hRx
    exact bodyPost_ret (of_results _ _ (w.heap.size + 1) _ _ rfl rfl (rowAt_row hR6)) rfl ⟨rfl, below_setRow (hB5.alloc hB5.size _) (by omega) _⟩
theorem of_c (c : Config) (zs : List (Value × List GoOp)) (p late : Int) (w : World) (hz : Progs w.heap.size w c.progs zs) :
    Calls Try.prog 15 #[.agg (Config.arr c), .int .i64 p, .int .i64 late] w (OfPost (T.of c zs p late) w) := by
  rcases h : T.ofOk c zs p late with _ | _
  · have : T.of c zs p late = none := by unfold T.of; rw [h]; rfl
    rw [this]; exact of_no c zs p late w hz h
  · have h' := h
    simp only [T.ofOk, Bool.and_eq_true, decide_eq_true_eq] at h'
    exact of_yes c zs p late w hz h'.1.1 h'.1.2 h'.2.1.1 h'.2.1.2 h'.2.2.1 h'.2.2.2
end Go.Proofs.Ytofifeicbhbgpaa
