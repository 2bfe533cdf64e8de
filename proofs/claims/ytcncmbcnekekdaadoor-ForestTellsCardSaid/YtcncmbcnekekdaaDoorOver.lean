/- Forest: an item ended in place. -/
import Derived.Test.YtcncmbcnekekdaaDoorGrow
import Derived.Test.YtcncmbcnekekdaaDoorRev
namespace Go.Proofs.YtcncmbcnekekdaaDoor
open Go.RowKit
set_option linter.unusedVariables false
set_option linter.unusedSimpArgs false
attribute [local go_sem] Item.sz Event.sz

theorem setCell_cell_ne {w : World} {g o o' : Nat} {u : Value} (h : o ≠ o') : (w.setCell ⟨g, o, none⟩ u).cell? ⟨g, o', none⟩ = w.cell? ⟨g, o', none⟩ := World.cell?_setCell_other _ _ _ _ (by intro e; injection e with _ e2 _; exact h e2)
theorem T.over_eq (x : Item) (e : Event) : ({ ({ ({ x with to_ := e.real } : Item) with how := e.kind } : Item) with code := e.code } : Item) = T.over x e := rfl
set_option maxRecDepth 100000 in
set_option maxHeartbeats 2000000 in
theorem over_c (base g n cap : Nat) (xs : List Item) (i : Nat) (x : Item) (hx : xs[i]? = some x) (e : Event) (w : World) (h : Own Item.arr 17 base 88 w (.slice (some ⟨g, 0, none⟩) n cap) xs) :
    Calls Tryd.prog 90 #[.pointer (some ⟨g, i * 17, none⟩), .agg (Event.arr e)] w fun e' w' => (∃ v, e' = .returned v) ∧ Own Item.arr 17 base 88 w' (.slice (some ⟨g, 0, none⟩) n cap) (xs.set i (T.over x e)) ∧ Kept w.heap.size g w w' := by
  have hi := (List.getElem?_eq_some_iff.1 hx).1
  have hgl := (h.lt g rfl).2
  obtain ⟨b, hb⟩ : ∃ b, b = w.heap.size := ⟨_, rfl⟩
  obtain ⟨w0, hw0⟩ : ∃ w0, w0 = w.alloc (Obj.cells (Event.arr e) 85) := ⟨_, rfl⟩
  have hown0 : Own Item.arr 17 base 88 w0 (.slice (some ⟨g, 0, none⟩) n cap) xs := by rw [hw0]; exact h.alloc _
  have hev : w0.heap[b]? = some (.cells (Event.arr e) 85 (0, 0)) := by rw [hw0, hb]; exact heap_alloc_new _ _
  have hgb : g ≠ b := by omega
  have c0 : w0.cell? ⟨b, 0, none⟩ = some (.int .i64 e.kind) := by simp [World.cell?, hev, Event.at0]
  have c1 : w0.cell? ⟨b, 1, none⟩ = some (.int .i64 e.real) := by simp [World.cell?, hev, Event.at1]
  have c16 : w0.cell? ⟨b, 16, none⟩ = some (.int .i64 e.code) := by simp [World.cell?, hev, Event.at16]
  have r0 := hown0.row Item.sz i x hx
  have a14 := rowAt_cell r0 14 (by omega)
  have a15 := rowAt_cell r0 15 (by omega)
  have a16 := rowAt_cell r0 16 (by omega)
  rw [Item.at14] at a14
  rw [Item.at15] at a15
  rw [Item.at16] at a16
  have t0 := hown0.there i hi
  have f14 := (t0 14 (by omega)).2
  have f15 := (t0 15 (by omega)).2
  have f16 := (t0 16 (by omega)).2
  have o1 := hown0.setField Item.sz (by omega) i x _ hx 14 (by omega) (.int .i64 e.real) (Item.set_to_ x e.real)
  have hx1 : (xs.set i { x with to_ := e.real })[i]? = some { x with to_ := e.real } := by simp [hi]
  have o2 := o1.setField Item.sz (by omega) i _ _ hx1 15 (by omega) (.int .i64 e.kind) (Item.set_how _ e.kind)
  have hx2 : ((xs.set i { x with to_ := e.real }).set i { ({ x with to_ := e.real } : Item) with how := e.kind })[i]? = some { ({ x with to_ := e.real } : Item) with how := e.kind } := by simp [hi]
  have o3 := o2.setField Item.sz (by omega) i _ _ hx2 16 (by omega) (.int .i64 e.code) (Item.set_code _ e.code)
  rw [List.set_set, List.set_set, T.over_eq] at o3
  have b15 := (setCell_cell_ne (u := .int .i64 e.real) (show i * 17 + 14 ≠ i * 17 + 15 by omega)).trans a15
  have b16 := (setCell_cell_ne (u := .int .i64 e.kind) (show i * 17 + 15 ≠ i * 17 + 16 by omega)).trans ((setCell_cell_ne (u := .int .i64 e.real) (show i * 17 + 14 ≠ i * 17 + 16 by omega)).trans a16)
  have n1 : (w0.setCell ⟨g, i * 17 + 14, none⟩ (.int .i64 e.real)).heap[b]? = w0.heap[b]? := heap_setCell_other _ _ _ _ (by exact hgb.symm)
  have n2 : ((w0.setCell ⟨g, i * 17 + 14, none⟩ (.int .i64 e.real)).setCell ⟨g, i * 17 + 15, none⟩ (.int .i64 e.kind)).heap[b]? = w0.heap[b]? := (heap_setCell_other _ _ _ _ (by exact hgb.symm)).trans n1
  have O3 := Lib.hid o3.drew
  have hk : Kept w.heap.size g w w0 := by rw [hw0]; exact Kept.of_below ((Below.refl _ w).alloc (Nat.le_refl _) _) (Nat.le_refl _)
  clear o1 o2 o3 hx1 hx2 h hown0 r0 t0 hx
  go_enter Tryd.func90, Tryd.ntmps90
  go_wp2
  rw [← hw0, ← hb]
  have HB := Lib.hid hb
  have HW := Lib.hid hw0
  clear hb hw0
  refine wp_region_T 17 [11, 14, 17] (fun W => W.heap[b]? = w0.heap[b]?) (by kernel_rfl) (by kernel_rfl) (by repeat (first | exact trivial | refine ⟨.inl rfl, ?_⟩ | refine ⟨.inr fun _ _ _ _ h => h, ?_⟩)) ?_ ?_
  · rfl
  repeat ((first | (refine wpT_q (by rfl) (by rfl) ?_ ?_ ?_; rotate_left; focus (rintro W hS; have s0 := (World.cell?_of_block hS).trans c0; have s1 := (World.cell?_of_block hS).trans c1; have s2 := (World.cell?_of_block hS).trans c16; go_simp; try (with_reducible rfl); done)) | refine wpT_skip (by rfl) (by rfl) ?_); try simp only [Act.put, List.setIfInBounds_toArray, List.set_cons_succ, List.set_cons_zero])
  refine wpT_a (by rfl) (by rfl) fun K hK => ?_
  go_simp
  refine hK _ _ (fun _ => n1) ?_; clear hK K; try simp only [Act.put, List.setIfInBounds_toArray, List.set_cons_succ, List.set_cons_zero]
  repeat ((first | (refine wpT_q (by rfl) (by rfl) ?_ ?_ ?_; rotate_left; focus (rintro W hS; have s0 := (World.cell?_of_block hS).trans c0; have s1 := (World.cell?_of_block hS).trans c1; have s2 := (World.cell?_of_block hS).trans c16; go_simp; try (with_reducible rfl); done)) | refine wpT_skip (by rfl) (by rfl) ?_); try simp only [Act.put, List.setIfInBounds_toArray, List.set_cons_succ, List.set_cons_zero])
  refine wpT_a (by rfl) (by rfl) fun K hK => ?_
  go_simp
  refine hK _ _ (fun _ => n2) ?_; clear hK K; try simp only [Act.put, List.setIfInBounds_toArray, List.set_cons_succ, List.set_cons_zero]
  repeat ((first | (refine wpT_q (by rfl) (by rfl) ?_ ?_ ?_; rotate_left; focus (rintro W hS; have s0 := (World.cell?_of_block hS).trans c0; have s1 := (World.cell?_of_block hS).trans c1; have s2 := (World.cell?_of_block hS).trans c16; go_simp; try (with_reducible rfl); done)) | refine wpT_skip (by rfl) (by rfl) ?_); try simp only [Act.put, List.setIfInBounds_toArray, List.set_cons_succ, List.set_cons_zero])
  refine wpT_a (by rfl) (by rfl) fun K hK => ?_
  go_simp
  refine hK _ _ (fun h => absurd h (by omega)) ?_; clear hK K; try simp only [Act.put, List.setIfInBounds_toArray, List.set_cons_succ, List.set_cons_zero]
  refine wpT_nil ?_
  go_wp2
  go_end0
  exact ⟨⟨_, rfl⟩, O3.out, (((hk.setCell _ _).setCell _ _).setCell _ _).drew⟩
end Go.Proofs.YtcncmbcnekekdaaDoor
