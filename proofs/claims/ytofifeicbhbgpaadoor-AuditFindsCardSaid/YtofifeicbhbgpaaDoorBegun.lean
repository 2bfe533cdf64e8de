/- audit: begun. -/
import Derived.Test.YtofifeicbhbgpaaDoorTwice
import Derived.Test.YtofifeicbhbgpaaDoorTail
import Derived.Test.YtofifeicbhbgpaaDoorHead
namespace Go.Proofs.YtofifeicbhbgpaaDoor
open Go.RowKit Go.Shelf
set_option linter.unusedVariables false
set_option linter.unusedSimpArgs false
attribute [local go_sem] Event.sz Config.sz
theorem twice_c (v : Value) (xs : List Event) (c : Config) (e : Event) (w : World) (h : Sl Event.arr 18 w.heap.size w v xs) :
    Calls Tryd.prog 37 #[v, .agg (Config.arr c), .int .i64 3, .agg (Event.arr e)] w fun r w' => r = .returned (.bool (T.twice e xs)) ∧ Below w.heap.size w w' :=
  (callsIn_wide (n := 3)).1 (twice_in Fence.wide 3 trivial trivial trivial rfl (by omega) v xs c e w h)
def T.lost (e : Event) (xs : List Event) : Bool := !(xs.any (T.kd 2 (T.pLost e)))
theorem box_facts {w : World} {b : Nat} {v : Value} {t : TypeId} (h : w.heap[b]? = some (.cells #[v] t (0, 0))) : w.cell? ⟨b, 0, none⟩ = some v ∧ w.frozen? ⟨b, 0, none⟩ = false := by
  constructor <;> simp [World.cell?, World.frozen?, h]
/-- The boxes of a configuration and an event, and what is laid next. -/
theorem boxes2 (c : Config) (e : Event) (w : World) (o : Obj) : ∃ W, W = (((w.alloc (Obj.cells (Config.arr c) 24)).alloc (Obj.cells (Event.arr e) 55)).alloc o) ∧ W.heap.size = w.heap.size + 3 ∧ Below w.heap.size w W ∧
    rowAt W w.heap.size 0 14 = some (Config.arr c) ∧ rowAt W (w.heap.size + 1) 0 18 = some (Event.arr e) ∧ W.heap[w.heap.size + 1 + 1]? = some o := by
  have h1 : rowAt ((w.alloc (Obj.cells (Config.arr c) 24)).alloc (Obj.cells (Event.arr e) 55)) (w.heap.size + 1) 0 18 = some (Event.arr e) := rowAt_new _ _ _ _ _ (by simp)
  have h0 : rowAt (w.alloc (Obj.cells (Config.arr c) 24)) w.heap.size 0 14 = some (Config.arr c) := rowAt_new _ _ _ _ _ rfl
  have h2 := heap_alloc_new ((w.alloc (Obj.cells (Config.arr c) 24)).alloc (Obj.cells (Event.arr e) 55)) o
  refine ⟨_, rfl, by simp, (((Below.refl _ w).alloc (Nat.le_refl _) _).alloc (by simp) _).alloc (by simp <;> omega) _, ?_, ?_, by simpa using h2⟩
  · rw [rowAt_alloc_old _ _ _ _ _ (by simp <;> omega), rowAt_alloc_old _ _ _ _ _ (by simp <;> omega)]; exact h0
  · rw [rowAt_alloc_old _ _ _ _ _ (by simp <;> omega)]; exact h1
set_option maxRecDepth 100000 in
set_option maxHeartbeats 1000000 in
theorem lost_c (v : Value) (xs : List Event) (c : Config) (e : Event) (w : World) (h : Sl Event.arr 18 w.heap.size w v xs) :
    Calls Tryd.prog 37 #[v, .agg (Config.arr c), .int .i64 1, .agg (Event.arr e)] w fun r w' => r = .returned (.bool (T.lost e xs)) ∧ Below w.heap.size w w' := by
  obtain ⟨W, hW, hsz, hB, rC, rE, bR⟩ := boxes2 c e w (Obj.cells #[Value.bool false] 4)
  have hS := (h.below hB).mono hB.size
  have hany := any_c W.heap.size 54 (enters_of Tryd.func54 (by kernel_rfl) rfl) [.pointer (some ⟨w.heap.size + 1, 0, none⟩)] (T.pLost e) v xs 2 W (Nat.le_refl _) hS (fun x _ W' hW' => lostF_c e x _ W' ((rowAt_block (hW'.block _ (by omega))).trans rE))
  obtain ⟨A, cap, rfl, hcap, hl1, hl2⟩ := h.view
  subst hW
  go_enter Tryd.func37, Tryd.ntmps37
  go_wp2_with (go_at_call 53; (with_reducible refine hany.mono ?_); rintro r w4 ⟨rfl, hb4⟩; have hR4 := (hb4.block (w.heap.size + 1 + 1) (by omega)).trans bR; obtain ⟨c8, f8⟩ := box_facts hR4)
  have hc := World.cell?_setCell_same' w4 ⟨w.heap.size + 1 + 1, 0, none⟩ (.bool (!xs.any (T.kd 2 (T.pLost e)))) (by rw [c8]; rfl)
  exact bodyPost_ret (v := .bool (!xs.any (T.kd 2 (T.pLost e)))) (by simp [results, Tryd.f37, go_sem, hc]) rfl ⟨rfl, (bthen hB hb4).setCell (p := ⟨w.heap.size + 1 + 1, 0, none⟩) (show w.heap.size ≤ w.heap.size + 1 + 1 by omega) _⟩
theorem tail_same {P : Program} {f : FuncId} {args : Array Value} {W0 : World} {v : Value} (h : Calls P f args W0 fun e w' => e = .returned v ∧ W0 = w') : Calls P f args W0 fun e w'' => e = .returned v ∧ w'' = W0 :=
  h.mono fun _ _ ⟨he, hm⟩ => ⟨he, hm.symm⟩
def T.lateE (c : Config) (e : Event) (xs : List Event) : Bool := match xs.find? (T.kd 1 (T.p_root e)) with
  | some x => decide (T.clamp x.real + T.clamp x.value + 2 * T.clamp c.skew ≤ T.clamp e.real)
  | none => true
set_option maxRecDepth 100000 in
set_option maxHeartbeats 4000000 in
theorem late_c (v : Value) (xs : List Event) (c : Config) (e : Event) (w : World) (h : Sl Event.arr 18 w.heap.size w v xs) :
    Calls Tryd.prog 37 #[v, .agg (Config.arr c), .int .i64 4, .agg (Event.arr e)] w fun r w' => r = .returned (.bool (T.lateE c e xs)) ∧ Below w.heap.size w w' := by
  obtain ⟨W, hW, hsz, hB, rC, rE, bR⟩ := boxes2 c e w (Obj.cells #[Value.bool false] 4)
  have hS := (h.below hB).mono hB.size
  have hfirst := first_c W.heap.size 57 (enters_of Tryd.func57 (by kernel_rfl) rfl) [.pointer (some ⟨w.heap.size + 1, 0, none⟩)] (T.p_root e) v xs 1 W (Nat.le_refl _) hS (fun x _ W' hW' => rootF_c e x _ W' ((rowAt_block (hW'.block _ (by omega))).trans rE))
  obtain ⟨A, cap, rfl, hcap, hl1, hl2⟩ := h.view
  subst hW
  rcases hx : xs.find? (T.kd 1 (T.p_root e)) with _ | x
  · rw [hx] at hfirst
    have HL := Lib.hid (show T.lateE c e xs = true by unfold T.lateE; rw [hx])
    clear hx
    go_enter Tryd.func37, Tryd.ntmps37
    go_wp2_with (first | (go_at_call 56; (with_reducible refine hfirst.mono ?_); rintro r w4 ⟨rfl, hb4⟩) | (refine wpList_store_new rfl _ _ _ rfl w4.heap.size (Event.arr T.zeroE) _ _ rfl rfl rfl rfl rfl (Event.one _) ?_))
    have hR4 := (Below.heap_alloc w4 (Obj.cells (Event.arr T.zeroE) 55) _ (by have := hb4.size; omega)).trans ((hb4.block (w.heap.size + 1 + 1) (by omega)).trans bR)
    obtain ⟨c8, f8⟩ := box_facts hR4
    have HC8 := Lib.hid c8
    refine wp_region_tail 20 (by kernel_rfl) (by kernel_rfl) ?_
    simp only [List.take_succ_cons, List.take_zero, List.drop_succ_cons, List.drop_zero]
    repeat ((fail_if_success (with_reducible refine wpQuiet_nil ?_)); (first | go_big_quiet_skip | go_big_quiet_step (fail) | (go_big_quiet_want; go_big_quiet_op; apply Exists.intro; refine ⟨?_, ?_⟩; (focus (go_at_call 58; exact tail_same (clamp_c _ _))); go_big_quiet_on)))
    refine wpQuiet_nil ?_
    go_wp2
    have hc := World.cell?_setCell_same' (w4.alloc (Obj.cells (Event.arr T.zeroE) 55)) ⟨w.heap.size + 1 + 1, 0, none⟩ (.bool true) (by rw [c8]; rfl)
    exact bodyPost_ret (v := .bool true) (by simp [results, Tryd.f37, go_sem, hc]) rfl ⟨ret_bool HL.out.symm, (below_drewN ((bthen hB hb4).alloc (bthen hB hb4).size _) 1).setCell (p := ⟨w.heap.size + 1 + 1, 0, none⟩) (show w.heap.size ≤ w.heap.size + 1 + 1 by omega) _⟩
  · rw [hx] at hfirst
    have HL := Lib.hid (show T.lateE c e xs = decide (T.clamp x.real + T.clamp x.value + 2 * T.clamp c.skew ≤ T.clamp e.real) by unfold T.lateE; rw [hx])
    clear hx
    have b1 := T.clamp_bd x.real
    have b2 := T.clamp_bd x.value
    have b3 := T.clamp_bd c.skew
    have b4 := T.clamp_bd e.real
    have w1 : IntKind.i64.wrap (T.clamp x.real + T.clamp x.value) = T.clamp x.real + T.clamp x.value := IntWalk.i64_in _ (by omega)
    have w2 : IntKind.i64.wrap (2 * T.clamp c.skew) = 2 * T.clamp c.skew := IntWalk.i64_in _ (by omega)
    have w3 : IntKind.i64.wrap (T.clamp x.real + T.clamp x.value + 2 * T.clamp c.skew) = T.clamp x.real + T.clamp x.value + 2 * T.clamp c.skew := IntWalk.i64_in _ (by omega)
    go_enter Tryd.func37, Tryd.ntmps37
    go_wp2_with (first | (go_at_call 56; (with_reducible refine hfirst.mono ?_); rintro r w4 ⟨rfl, hb4⟩) | (refine wpList_store_new rfl _ _ _ rfl w4.heap.size (Event.arr x) _ _ rfl rfl rfl rfl rfl (Event.one _) ?_))
    have hR4 := (Below.heap_alloc w4 (Obj.cells (Event.arr x) 55) _ (by have := hb4.size; omega)).trans ((hb4.block (w.heap.size + 1 + 1) (by omega)).trans bR)
    obtain ⟨c8, f8⟩ := box_facts hR4
    have rx : rowAt (w4.alloc (Obj.cells (Event.arr x) 55)) w4.heap.size 0 18 = some (Event.arr x) := rowAt_new _ _ _ _ _ rfl
    have re := (rowAt_alloc_old w4 (Obj.cells (Event.arr x) 55) _ 0 18 (by have := hb4.size; omega)).trans ((rowAt_block (hb4.block (w.heap.size + 1) (by omega))).trans rE)
    have rc := (rowAt_alloc_old w4 (Obj.cells (Event.arr x) 55) _ 0 14 (by have := hb4.size; omega)).trans ((rowAt_block (hb4.block w.heap.size (by omega))).trans rC)
    obtain ⟨_, x1, _, _, _, _, x9⟩ := Event.cells rx
    obtain ⟨_, e1, _⟩ := Event.cells re
    have c1 : (w4.alloc (Obj.cells (Event.arr x) 55)).cell? ⟨w.heap.size, 0 + 1, none⟩ = some (.int .i64 c.skew) := rowAt_cell rc 1 (by omega)
    simp only [Nat.zero_add] at x1 x9 e1 c1
    refine wp_region_tail 20 (by kernel_rfl) (by kernel_rfl) ?_
    simp only [List.take_succ_cons, List.take_zero, List.drop_succ_cons, List.drop_zero]
    repeat ((fail_if_success (with_reducible refine wpQuiet_nil ?_)); (first | go_big_quiet_skip | go_big_quiet_step (fail) | (go_big_quiet_want; go_big_quiet_op; apply Exists.intro; refine ⟨?_, ?_⟩; (focus (go_at_call 58; exact tail_same (clamp_c _ _))); go_big_quiet_on)))
    refine wpQuiet_nil ?_
    go_wp2
    have hc := World.cell?_setCell_same' (w4.alloc (Obj.cells (Event.arr x) 55)) ⟨w.heap.size + 1 + 1, 0, none⟩ (.bool (decide (T.clamp x.real + T.clamp x.value + 2 * T.clamp c.skew ≤ T.clamp e.real))) (by rw [c8]; rfl)
    exact bodyPost_ret (v := .bool (decide (T.clamp x.real + T.clamp x.value + 2 * T.clamp c.skew ≤ T.clamp e.real))) (by simp [results, Tryd.f37, go_sem, hc]) rfl ⟨ret_bool HL.out.symm, (below_drewN ((bthen hB hb4).alloc (bthen hB hb4).size _) 1).setCell (p := ⟨w.heap.size + 1 + 1, 0, none⟩) (show w.heap.size ≤ w.heap.size + 1 + 1 by omega) _⟩
end Go.Proofs.YtofifeicbhbgpaaDoor
