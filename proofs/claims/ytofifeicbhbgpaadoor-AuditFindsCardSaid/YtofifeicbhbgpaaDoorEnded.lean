/- audit: ended. -/
import Derived.Test.YtofifeicbhbgpaaDoorSent
namespace Go.Proofs.YtofifeicbhbgpaaDoor
open Go.RowKit Go.Shelf
set_option linter.unusedVariables false
set_option linter.unusedSimpArgs false
attribute [local go_sem] Event.sz
/-- The boxes of a slice and an event. -/
theorem boxesL (u : Value) (e : Event) (w : World) : ∃ W, W = ((w.alloc (Obj.cells #[u] 58)).alloc (Obj.cells (Event.arr e) 55)) ∧ W.heap.size = w.heap.size + 2 ∧ Below w.heap.size w W ∧
    W.cell? ⟨w.heap.size, 0, none⟩ = some u ∧ rowAt W (w.heap.size + 1) 0 18 = some (Event.arr e) := by
  have h1 : rowAt ((w.alloc (Obj.cells #[u] 58)).alloc (Obj.cells (Event.arr e) 55)) (w.heap.size + 1) 0 18 = some (Event.arr e) := rowAt_new _ _ _ _ _ (by simp)
  have h0 := heap_alloc_new w (Obj.cells #[u] 58)
  have h2 := (Below.heap_alloc (w.alloc (Obj.cells #[u] 58)) (Obj.cells (Event.arr e) 55) w.heap.size (by simp)).trans h0
  exact ⟨_, rfl, by simp, ((Below.refl _ w).alloc (Nat.le_refl _) _).alloc (by simp) _, (box_facts h2).1, h1⟩
def T.over (e : Event) (xs : List Event) : Bool := (T.cntE (T.kd 1 (T.p_key e)) xs != 1) || xs.any (T.kd 7 (T.p_key e))
set_option maxRecDepth 100000 in
set_option maxHeartbeats 1000000 in
theorem over_c32 (v : Value) (xs : List Event) (e : Event) (w : World) (h : Sl Event.arr 18 w.heap.size w v xs) :
    Calls Tryd.prog 39 #[v, .int .i64 6, .agg (Event.arr e)] w fun r w' => r = .returned (.bool (T.over e xs)) ∧ Below w.heap.size w w' := by
  obtain ⟨A, cap, rfl, hcap, hl1, hl2⟩ := h.view
  obtain ⟨W, hW, hsz, hB, cL, rE⟩ := boxesL (.slice A xs.length cap) e w
  have hc := count_key e _ xs 1 (w.heap.size + 1) W rE ((h.below hB).mono hB.size)
  have HA := fun W' (hb : Below W.heap.size W W') => any_key e _ xs 7 (w.heap.size + 1) W' ((rowAt_block (hb.block _ (by omega))).trans rE) ((h.below (bthen hB hb)).mono (Nat.le_trans hB.size hb.size))
  have HL := fun W' (hb : Below W.heap.size W W') => (hb.cell (p := ⟨w.heap.size, 0, none⟩) (show w.heap.size < _ by omega)).trans cL
  obtain ⟨n, hn⟩ : ∃ n, n = T.cntE (T.kd 1 (T.p_key e)) xs := ⟨_, rfl⟩
  have HR0 : T.over e xs = ((n != 1) || xs.any (T.kd 7 (T.p_key e))) := by rw [hn]; rfl
  rw [← hn] at hc
  have HR1 := Lib.hid HR0
  clear hn HR0
  subst hW
  rcases g : (n != 1) with _ | _
  · have HR := Lib.hid (show T.over e xs = xs.any (T.kd 7 (T.p_key e)) by rw [HR1.out, g]; rfl)
    go_enter Tryd.func39, Tryd.ntmps39
    go_wp2_with (first | (go_at_call 61; (with_reducible refine hc.mono ?_); rintro r w4 ⟨rfl, hb4⟩; have c4 := HL _ hb4; have h4 := HA _ hb4) | (go_at_call 53; (with_reducible refine h4.mono ?_); rintro r w5 ⟨rfl, hb5⟩))
    go_ret
    exact ⟨ret_bool HR.out.symm, bthen hB (bthen hb4 hb5)⟩
  · have HR := Lib.hid (show T.over e xs = true by rw [HR1.out, g]; rfl)
    go_enter Tryd.func39, Tryd.ntmps39
    go_wp2_with (go_at_call 61; (with_reducible refine hc.mono ?_); rintro r w4 ⟨rfl, hb4⟩)
    go_ret
    exact ⟨ret_bool HR.out.symm, bthen hB hb4⟩
def T.unasked (e : Event) (xs : List Event) : Bool := (e.code == 1) && !(xs.any (T.kd 8 (T.p_key e)))
set_option maxRecDepth 100000 in
set_option maxHeartbeats 1000000 in
theorem unasked_c (v : Value) (xs : List Event) (e : Event) (w : World) (h : Sl Event.arr 18 w.heap.size w v xs) :
    Calls Tryd.prog 39 #[v, .int .i64 8, .agg (Event.arr e)] w fun r w' => r = .returned (.bool (T.unasked e xs)) ∧ Below w.heap.size w w' := by
  obtain ⟨A, cap, rfl, hcap, hl1, hl2⟩ := h.view
  obtain ⟨W, hW, hsz, hB, cL, rE⟩ := boxesL (.slice A xs.length cap) e w
  have ha := any_key e _ xs 8 (w.heap.size + 1) W rE ((h.below hB).mono hB.size)
  obtain ⟨_, _, _, _, _, eC, _⟩ := Event.cells rE
  simp only [Nat.zero_add] at eC
  subst hW
  rcases g : (e.code == 1) with _ | _
  · have HR := Lib.hid (show T.unasked e xs = false by unfold T.unasked; rw [g]; rfl)
    go_enter Tryd.func39, Tryd.ntmps39
    go_wp2
    go_ret
    exact ⟨ret_bool HR.out.symm, hB⟩
  · have HR := Lib.hid (show T.unasked e xs = !(xs.any (T.kd 8 (T.p_key e))) by unfold T.unasked; rw [g]; rfl)
    go_enter Tryd.func39, Tryd.ntmps39
    go_wp2_with (go_at_call 53; (with_reducible refine ha.mono ?_); rintro r w4 ⟨rfl, hb4⟩)
    go_ret
    exact ⟨ret_bool HR.out.symm, bthen hB hb4⟩
def T.pEmpty (e : Event) (xs : List Event) (x : Event) : Bool := (x.code == 0) && ((x.value == e.value) && xs.any (T.kd 3 (T.pStart e x)))
set_option maxRecDepth 100000 in
set_option maxHeartbeats 1000000 in
theorem emptyF_c (e x : Event) (u : Value) (xs : List Event) (be bl : Nat) (w : World) (hE : rowAt w be 0 18 = some (Event.arr e)) (hL : w.cell? ⟨bl, 0, none⟩ = some u) (h : Sl Event.arr 18 w.heap.size w u xs) :
    Calls Tryd.prog 64 #[.agg (Event.arr x), .pointer (some ⟨be, 0, none⟩), .pointer (some ⟨bl, 0, none⟩)] w fun r w' => r = .returned (.bool (T.pEmpty e xs x)) ∧ Below w.heap.size w w' := by
  obtain ⟨A, cap, rfl, hcap, hl1, hl2⟩ := h.view
  obtain ⟨h1, h2, hB⟩ := Event.boxed (x := x) hE 55
  have ll := World.block_lt_of_cell? w _ hL
  have hL1 : (w.alloc (Obj.cells (Event.arr x) 55)).cell? ⟨bl, 0, none⟩ = some (.slice A xs.length cap) := by rw [World.cell?_of_block (w := w) (Below.heap_alloc w _ _ ll)]; exact hL
  have ha := any_start e x _ xs 3 w.heap.size be _ h2 h1 ((h.below hB).mono hB.size)
  obtain ⟨_, _, _, _, _, xC, xV⟩ := Event.cells h2
  obtain ⟨_, _, _, _, _, _, eV⟩ := Event.cells h1
  simp only [Nat.zero_add] at xC xV eV
  have HB := Lib.hid hB
  clear hB hL
  rcases g1 : (x.code == 0) with _ | _
  · have HR := Lib.hid (show T.pEmpty e xs x = false by unfold T.pEmpty; rw [g1]; rfl)
    go_enter Tryd.func64, Tryd.ntmps64
    go_wp2
    go_ret
    exact ⟨ret_bool HR.out.symm, HB.out⟩
  · rcases g2 : (x.value == e.value) with _ | _
    · have HR := Lib.hid (show T.pEmpty e xs x = false by unfold T.pEmpty; rw [g1, g2]; rfl)
      go_enter Tryd.func64, Tryd.ntmps64
      go_wp2
      go_ret
      exact ⟨ret_bool HR.out.symm, HB.out⟩
    · have HR := Lib.hid (show T.pEmpty e xs x = xs.any (T.kd 3 (T.pStart e x)) by unfold T.pEmpty; rw [g1, g2]; rfl)
      go_enter Tryd.func64, Tryd.ntmps64
      go_wp2_with (go_at_call 53; (with_reducible refine ha.mono ?_); rintro r w4 ⟨rfl, hb4⟩)
      go_ret
      exact ⟨ret_bool HR.out.symm, bthen HB.out hb4⟩
def T.empty (e : Event) (xs : List Event) : Bool := (e.code == 0) && !(xs.any (T.kd 6 (T.pEmpty e xs)))
set_option maxRecDepth 100000 in
set_option maxHeartbeats 1000000 in
theorem empty_c (v : Value) (xs : List Event) (e : Event) (w : World) (h : Sl Event.arr 18 w.heap.size w v xs) :
    Calls Tryd.prog 39 #[v, .int .i64 9, .agg (Event.arr e)] w fun r w' => r = .returned (.bool (T.empty e xs)) ∧ Below w.heap.size w w' := by
  obtain ⟨A, cap, rfl, hcap, hl1, hl2⟩ := h.view
  obtain ⟨W, hW, hsz, hB, cL, rE⟩ := boxesL (.slice A xs.length cap) e w
  have hS := (h.below hB).mono hB.size
  have ha := any_c W.heap.size _ (enters_of Tryd.func64 (by kernel_rfl) rfl) [.pointer (some ⟨w.heap.size + 1, 0, none⟩), .pointer (some ⟨w.heap.size, 0, none⟩)] (T.pEmpty e xs) _ xs 6 W (Nat.le_refl _) hS
    (fun x _ W' hW' => emptyF_c e x _ xs _ _ W' ((rowAt_block (hW'.block _ (by omega))).trans rE) ((hW'.cell (p := ⟨w.heap.size, 0, none⟩) (show w.heap.size < _ by omega)).trans cL) ((hS.below hW').mono hW'.size))
  obtain ⟨_, _, _, _, _, eC, _⟩ := Event.cells rE
  simp only [Nat.zero_add] at eC
  subst hW
  rcases g : (e.code == 0) with _ | _
  · have HR := Lib.hid (show T.empty e xs = false by unfold T.empty; rw [g]; rfl)
    go_enter Tryd.func39, Tryd.ntmps39
    go_wp2
    go_ret
    exact ⟨ret_bool HR.out.symm, hB⟩
  · have HR := Lib.hid (show T.empty e xs = !(xs.any (T.kd 6 (T.pEmpty e xs))) by unfold T.empty; rw [g]; rfl)
    go_enter Tryd.func39, Tryd.ntmps39
    go_wp2_with (go_at_call 53; (with_reducible refine ha.mono ?_); rintro r w4 ⟨rfl, hb4⟩)
    go_ret
    exact ⟨ret_bool HR.out.symm, bthen hB hb4⟩
attribute [local go_sem] bw_cell
def T.early (e : Event) (xs : List Event) : Bool := (e.code == 4) && match xs.find? (T.kd 1 (T.p_key e)) with | some x => decide (T.clamp e.loc < T.add x.loc x.value) | none => false
set_option maxRecDepth 100000 in
set_option maxHeartbeats 4000000 in
theorem early_c (v : Value) (xs : List Event) (e : Event) (w : World) (h : Sl Event.arr 18 w.heap.size w v xs) :
    Calls Tryd.prog 39 #[v, .int .i64 7, .agg (Event.arr e)] w fun r w' => r = .returned (.bool (T.early e xs)) ∧ Below w.heap.size w w' := by
  obtain ⟨A, cap, rfl, hcap, hl1, hl2⟩ := h.view
  obtain ⟨W, hW, hsz, hB, cL, rE⟩ := boxesL (.slice A xs.length cap) e w
  have hf := first_key e _ xs 1 (w.heap.size + 1) W rE ((h.below hB).mono hB.size)
  have HE : ∀ x W', Below W.heap.size W W' → rowAt (W'.alloc (Obj.cells (Event.arr x) 55)) (w.heap.size + 1) 0 18 = some (Event.arr e) := fun x W' hb =>
    (rowAt_alloc_old _ _ _ _ _ (by have := hb.size; omega)).trans ((rowAt_block (hb.block _ (by omega))).trans rE)
  subst hW
  have hx : ∃ (y : Option Event) (b : Bool), xs.find? (T.kd 1 (T.p_key e)) = y ∧ y.isSome = b := ⟨_, _, rfl, rfl⟩
  obtain ⟨y, ok, hy, hok⟩ := hx
  rw [hy] at hf
  obtain ⟨x, hxx⟩ : ∃ x, x = y.getD T.zeroE := ⟨_, rfl⟩
  have hf' : Calls _ _ _ _ _ := hf.mono (R' := fun r w' => r = .returned (.tuple #[.agg (Event.arr x), .bool ok]) ∧ Below _ _ w') fun r w' hh => by rw [hxx, ← hok]; exact hh
  clear hf
  have HR0 := Lib.hid (show T.early e xs = ((e.code == 4) && (ok && decide (T.clamp e.loc < T.add x.loc x.value))) by
    unfold T.early; rw [hy]; cases y with
    | none => rw [← hok]; rfl
    | some q => rw [← hok, hxx]; rfl)
  clear hy hok hxx
  rcases and3 (e.code == 4) ok (decide (T.clamp e.loc < T.add x.loc x.value)) with ⟨hr, g1⟩ | ⟨hr, g1, g2⟩ | ⟨hr, g1, g2, g3⟩ | ⟨hr, g1, g2, g3⟩
  all_goals
    have HR := Lib.hid (HR0.out.trans hr)
    clear hr
    try subst g2
    go_enter Tryd.func39, Tryd.ntmps39
    go_wp2_with (first | (go_at_call 56; (with_reducible refine hf'.mono ?_); rintro r w4 ⟨rfl, hb4⟩) | (refine wpList_store_new rfl _ _ _ rfl w4.heap.size (Event.arr x) _ _ rfl rfl rfl rfl rfl (Event.one _) ?_))
    have rx : rowAt (w4.alloc (Obj.cells (Event.arr x) 55)) w4.heap.size 0 18 = some (Event.arr x) := rowAt_new _ _ _ _ _ rfl
    have re := HE x w4 hb4
    obtain ⟨_, _, _, x3, _, _, x9⟩ := Event.cells rx
    obtain ⟨_, _, _, e3, _, eC, _⟩ := Event.cells re
    simp only [Nat.zero_add] at x3 x9 e3 eC
    clear rx re
    have l4 : w.heap.size + 1 < w4.heap.size := by have := hb4.size; omega
    have l5 : w.heap.size < w4.heap.size := by omega
    have l6 : w.heap.size + 1 < w4.heap.size + 1 := by omega
    have l7 : w4.heap.size < w4.heap.size + 1 := by omega
    refine wp_region_calm (by kernel_rfl) (by kernel_rfl) ?_
    repeat ((fail_if_success (with_reducible refine wpQuiet_nil ?_)); (first | go_big_quiet_skip | go_big_quiet_step (first | (go_at_call 58; exact calm_same (clamp_c _ _)) | (go_at_call 62; exact calm_same (add_c _ _ _)))))
    refine wpQuiet_nil ?_
    rintro _ ⟨⟨w5, hb5⟩, rfl⟩
    go_wp2
    go_ret
    exact ⟨ret_bool HR.out.symm, bthen hB (bthen (hb4.alloc hb4.size _) hb5)⟩
end Go.Proofs.YtofifeicbhbgpaaDoor
