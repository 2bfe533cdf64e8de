/- audit: sent: Stray, Many. -/
import Derived.Test.YtofifeicbhbgpaaDoorAsk
import Derived.Laws.EntriesVeiled
namespace Go.Proofs.YtofifeicbhbgpaaDoor
open Go.RowKit Go.Shelf
set_option linter.unusedVariables false
set_option linter.unusedSimpArgs false
attribute [local go_sem] Event.sz Config.sz
def mineV (b : Nat) : Value := .func (.func 59) #[] #[.pointer (some ⟨b, 0, none⟩)]
def T.stray (e : Event) (xs : List Event) : Bool := !(xs.any (T.kd 1 (T.pBy e))) && !(xs.any (T.kd 3 (T.pBy e)))
theorem boxes3 (c : Config) (e : Event) (w : World) (o o2 : Obj) : ∃ W, W = ((((w.alloc (Obj.cells (Config.arr c) 24)).alloc (Obj.cells (Event.arr e) 55)).alloc o).alloc o2) ∧ W.heap.size = w.heap.size + 4 ∧ Below w.heap.size w W ∧
    rowAt W w.heap.size 0 14 = some (Config.arr c) ∧ rowAt W (w.heap.size + 1) 0 18 = some (Event.arr e) ∧ W.heap[w.heap.size + 1 + 1]? = some o ∧ W.heap[w.heap.size + 1 + 1 + 1]? = some o2 := by
  obtain ⟨W, rfl, hsz, hB, rC, rE, bR⟩ := boxes2 c e w o
  have h2 := heap_alloc_new (((w.alloc (Obj.cells (Config.arr c) 24)).alloc (Obj.cells (Event.arr e) 55)).alloc o) o2
  refine ⟨_, rfl, by simp, hB.alloc hB.size _, ?_, ?_, ?_, by simpa using h2⟩
  · rw [rowAt_alloc_old _ _ _ _ _ (by omega)]; exact rC
  · rw [rowAt_alloc_old _ _ _ _ _ (by omega)]; exact rE
  · exact (Below.heap_alloc _ _ _ (by omega)).trans bR
set_option maxRecDepth 100000 in
set_option maxHeartbeats 1000000 in
theorem stray_c (v : Value) (xs : List Event) (c : Config) (e : Event) (hh : e.hop ≤ 9223372036854775807) (w : World) (h : Sl Event.arr 18 w.heap.size w v xs) :
    Calls Tryd.prog 38 #[v, .agg (Config.arr c), .int .i64 2, .agg (Event.arr e)] w fun r w' => r = .returned (.bool (T.stray e xs)) ∧ Below w.heap.size w w' := by
  obtain ⟨W, hW, hsz, hB, rC, rE, bR, bM⟩ := boxes3 c e w (Obj.cells #[Value.bool false] 4) (Obj.cells #[.func (.func 59) #[] #[.pointer (some ⟨w.heap.size + 1, 0, none⟩)]] 96)
  have HA := fun k W' (hb : Below W.heap.size W W') => any_by e hh v xs k (w.heap.size + 1) W' ((rowAt_block (hb.block _ (by omega))).trans rE) ((h.below (bthen hB hb)).mono (Nat.le_trans hB.size hb.size))
  have h1 := HA 1 W (Below.refl _ _)
  have HA3 := fun W' hb => HA 3 W' hb
  obtain ⟨A, cap, rfl, hcap, hl1, hl2⟩ := h.view
  clear HA
  subst hW
  rcases ha : xs.any (T.kd 1 (T.pBy e)) with _ | _
  · rw [ha] at h1
    have HR := Lib.hid (show T.stray e xs = !(xs.any (T.kd 3 (T.pBy e))) by unfold T.stray; rw [ha]; rfl)
    clear ha
    go_enter Tryd.func38, Tryd.ntmps38
    go_wp2_with (first | (go_at_call 53; (with_reducible refine h1.mono ?_); rintro r w4 ⟨rfl, hb4⟩; have h3 := HA3 _ hb4) | (go_at_call 53; (with_reducible refine h3.mono ?_); rintro r w5 ⟨rfl, hb5⟩; have hb45 := bthen hb4 hb5; have hR5 := (hb45.block (w.heap.size + 1 + 1) (by omega)).trans bR; obtain ⟨c8, f8⟩ := box_facts hR5))
    have hc := World.cell?_setCell_same' w5 ⟨w.heap.size + 1 + 1, 0, none⟩ (.bool (!xs.any (T.kd 3 (T.pBy e)))) (by rw [c8]; rfl)
    exact bodyPost_ret (v := .bool (!xs.any (T.kd 3 (T.pBy e)))) (by simp [results, Tryd.f38, go_sem, hc]) rfl ⟨ret_bool HR.out.symm, (bthen hB hb45).setCell (p := ⟨w.heap.size + 1 + 1, 0, none⟩) (show w.heap.size ≤ w.heap.size + 1 + 1 by omega) _⟩
  · rw [ha] at h1
    have HR := Lib.hid (show T.stray e xs = false by unfold T.stray; rw [ha]; rfl)
    clear ha HA3
    go_enter Tryd.func38, Tryd.ntmps38
    go_wp2_with (go_at_call 53; (with_reducible refine h1.mono ?_); rintro r w4 ⟨rfl, hb4⟩; have hR5 := (hb4.block (w.heap.size + 1 + 1) (by omega)).trans bR; obtain ⟨c8, f8⟩ := box_facts hR5)
    have hc := World.cell?_setCell_same' w4 ⟨w.heap.size + 1 + 1, 0, none⟩ (.bool false) (by rw [c8]; rfl)
    exact bodyPost_ret (v := .bool false) (by simp [results, Tryd.f38, go_sem, hc]) rfl ⟨ret_bool HR.out.symm, (bthen hB hb4).setCell (p := ⟨w.heap.size + 1 + 1, 0, none⟩) (show w.heap.size ≤ w.heap.size + 1 + 1 by omega) _⟩
/-- An act that its guard passes over. -/
theorem wpT_askip {P : Program} {ops : Array Oper} {Q : Exit → Act → World → Prop} {S : World → Prop} {n : Nat} {act : List Nat} {o : Oper} {rest : List Oper} {k : Nat} {a : Act} {w : World} (hk : act.contains k = true) (hw : Region.wanted o (yielded ops a.tmps) = false) (hS : k < n → S w)
    (h : wpT P ops Q S n act rest (k + 1) (a.put o.dst undef) w) : wpT P ops Q S n act (o :: rest) k a w := by
  unfold wpT
  rw [if_pos hk]
  intro K hK
  rw [if_neg (by rw [hw]; exact Bool.false_ne_true)]
  exact hK _ _ hS h
def T.many (c : Config) (e : Event) (xs : List Event) : Bool := ((e.key.att != T.cntE (T.kd 2 (T.pMine e)) xs + 1) || decide (c.attempts < e.key.att)) || xs.any (T.kd 11 (T.pMine e))
set_option maxRecDepth 100000 in
set_option maxHeartbeats 4000000 in
theorem many_c (v : Value) (xs : List Event) (c : Config) (e : Event) (hn : xs.length ≤ 100000) (w : World) (h : Sl Event.arr 18 w.heap.size w v xs) :
    Calls Tryd.prog 38 #[v, .agg (Config.arr c), .int .i64 5, .agg (Event.arr e)] w fun r w' => r = .returned (.bool (T.many c e xs)) ∧ Below w.heap.size w w' := by
  obtain ⟨W, hW, hsz, hB, rC, rE, bR, bM⟩ := boxes3 c e w (Obj.cells #[Value.bool false] 4) (Obj.cells #[.func (.func 59) #[] #[.pointer (some ⟨w.heap.size + 1, 0, none⟩)]] 96)
  have HC := fun W' (hb : Below W.heap.size W W') => count_mine e v xs 2 (w.heap.size + 1) W' ((rowAt_block (hb.block _ (by omega))).trans rE) ((h.below (bthen hB hb)).mono (Nat.le_trans hB.size hb.size))
  have HA := fun W' (hb : Below W.heap.size W W') => any_mine e v xs 11 (w.heap.size + 1) W' ((rowAt_block (hb.block _ (by omega))).trans rE) ((h.below (bthen hB hb)).mono (Nat.le_trans hB.size hb.size))
  obtain ⟨A, cap, rfl, hcap, hl1, hl2⟩ := h.view
  have hcb := T.cnt_bd (T.kd 2 (T.pMine e)) xs
  obtain ⟨n, hnn⟩ : ∃ n, n = T.cntE (T.kd 2 (T.pMine e)) xs := ⟨_, rfl⟩
  have HR0 : T.many c e xs = (((e.key.att != n + 1) || decide (c.attempts < e.key.att)) || xs.any (T.kd 11 (T.pMine e))) := by rw [hnn]; rfl
  rw [← hnn] at HC hcb
  have HR1 := Lib.hid HR0
  have w1 : IntKind.i64.wrap (n + 1) = n + 1 := IntWalk.i64_in _ (by omega)
  have ea : rowAt W (w.heap.size + 1) 7 1 = some #[.int .i64 e.key.att] := (rowAt_part rE 7 1 (by omega)).trans rfl
  have c0 : W.cell? ⟨w.heap.size + 1, 7, none⟩ = some (.int .i64 e.key.att) := rowAt_cell rE 7 (by omega)
  have c1 : W.cell? ⟨w.heap.size, 8, none⟩ = some (.int .i64 c.attempts) := by have := rowAt_cell rC 8 (by omega); simpa [Config.at8] using this
  obtain ⟨c2, _⟩ := box_facts bM
  clear hnn HR0
  have HK := fun W' (hb : Below W.heap.size W W') (b o : Nat) (hlt : b < W.heap.size) => hb.cell (p := ⟨b, o, none⟩) hlt
  have HW := Lib.hid hW
  clear hW
  rcases g1 : (e.key.att != n + 1) with _ | _
  · rcases g2 : decide (c.attempts < e.key.att) with _ | _
    · have HR := Lib.hid (show T.many c e xs = xs.any (T.kd 11 (T.pMine e)) by rw [HR1.out, g1, g2]; rfl)
      go_enter Tryd.func38, Tryd.ntmps38
      go_wp2
      rw [← HW.out]
      refine wp_region_T 21 [5, 19, 21] (fun X => Below W.heap.size W X) (by kernel_rfl) (by kernel_rfl) (by repeat (first | exact trivial | refine ⟨.inl rfl, ?_⟩ | refine ⟨.inr fun _ _ _ _ h => h, ?_⟩)) ?_ ?_
      · exact (Below.refl _ W).drew
      repeat ((first | (refine wpT_q (by rfl) (by rfl) ?_ ?_ ?_; rotate_left; focus (rintro W hX; have s0 := (HK _ hX (w.heap.size + 1) 7 (by omega)).trans c0; have s1 := (HK _ hX w.heap.size 8 (by omega)).trans c1; have s2 := (HK _ hX (w.heap.size + 1 + 1 + 1) 0 (by omega)).trans c2; go_simp; try (with_reducible rfl); done)) | refine wpT_skip (by rfl) (by rfl) ?_); try simp only [Act.put, List.setIfInBounds_toArray, List.set_cons_succ, List.set_cons_zero])
      refine wpT_a (by rfl) (by rfl) fun K hK => ?_
      go_simp
      refine (HC _ (Below.refl _ W).drew).mono ?_
      rintro r w4 ⟨rfl, hb4⟩
      have hX4 : Below W.heap.size W w4 := (Below.refl _ W).drew.trans hb4
      refine hK _ _ (fun _ => hX4) ?_; clear hK K; try simp only [Act.put, List.setIfInBounds_toArray, List.set_cons_succ, List.set_cons_zero]
      repeat ((first | (refine wpT_q (by rfl) (by rfl) ?_ ?_ ?_; rotate_left; focus (rintro W hX; have s0 := (HK _ hX (w.heap.size + 1) 7 (by omega)).trans c0; have s1 := (HK _ hX w.heap.size 8 (by omega)).trans c1; have s2 := (HK _ hX (w.heap.size + 1 + 1 + 1) 0 (by omega)).trans c2; go_simp; try (with_reducible rfl); done)) | refine wpT_skip (by rfl) (by rfl) ?_); try simp only [Act.put, List.setIfInBounds_toArray, List.set_cons_succ, List.set_cons_zero])
      refine wpT_a (by rfl) (by rfl) fun K hK => ?_
      go_simp
      refine (HA _ hX4).mono ?_
      rintro r w5 ⟨rfl, hb5⟩
      have hX5 : Below W.heap.size W w5 := bthen hX4 hb5
      refine hK _ _ (fun _ => hX5) ?_; clear hK K; try simp only [Act.put, List.setIfInBounds_toArray, List.set_cons_succ, List.set_cons_zero]
      repeat ((first | (refine wpT_q (by rfl) (by rfl) ?_ ?_ ?_; rotate_left; focus (rintro W hX; have s0 := (HK _ hX (w.heap.size + 1) 7 (by omega)).trans c0; have s1 := (HK _ hX w.heap.size 8 (by omega)).trans c1; have s2 := (HK _ hX (w.heap.size + 1 + 1 + 1) 0 (by omega)).trans c2; go_simp; try (with_reducible rfl); done)) | refine wpT_skip (by rfl) (by rfl) ?_); try simp only [Act.put, List.setIfInBounds_toArray, List.set_cons_succ, List.set_cons_zero])
      obtain ⟨c8, f8⟩ := box_facts ((hX5.block (w.heap.size + 1 + 1) (by omega)).trans bR)
      refine wpT_a (by rfl) (by rfl) fun K hK => ?_
      go_simp
      refine hK _ _ (fun h => absurd h (by omega)) ?_; clear hK K; try simp only [Act.put, List.setIfInBounds_toArray, List.set_cons_succ, List.set_cons_zero]
      refine wpT_nil ?_
      go_wp2
      have hc := World.cell?_setCell_same' w5 ⟨w.heap.size + 1 + 1, 0, none⟩ (.bool (xs.any (T.kd 11 (T.pMine e)))) (by rw [c8]; rfl)
      exact bodyPost_ret (v := .bool (xs.any (T.kd 11 (T.pMine e)))) (by simp [results, Tryd.f38, go_sem, hc]) rfl ⟨ret_bool HR.out.symm, (bthen hB hX5).setCell (p := ⟨w.heap.size + 1 + 1, 0, none⟩) (show w.heap.size ≤ w.heap.size + 1 + 1 by omega) _⟩
    · have HR := Lib.hid (show T.many c e xs = true by rw [HR1.out, g1, g2]; rfl)
      go_enter Tryd.func38, Tryd.ntmps38
      go_wp2
      rw [← HW.out]
      refine wp_region_T 21 [5, 19, 21] (fun X => Below W.heap.size W X) (by kernel_rfl) (by kernel_rfl) (by repeat (first | exact trivial | refine ⟨.inl rfl, ?_⟩ | refine ⟨.inr fun _ _ _ _ h => h, ?_⟩)) ?_ ?_
      · exact (Below.refl _ W).drew
      repeat ((first | (refine wpT_q (by rfl) (by rfl) ?_ ?_ ?_; rotate_left; focus (rintro W hX; have s0 := (HK _ hX (w.heap.size + 1) 7 (by omega)).trans c0; have s1 := (HK _ hX w.heap.size 8 (by omega)).trans c1; have s2 := (HK _ hX (w.heap.size + 1 + 1 + 1) 0 (by omega)).trans c2; go_simp; try (with_reducible rfl); done)) | refine wpT_skip (by rfl) (by rfl) ?_); try simp only [Act.put, List.setIfInBounds_toArray, List.set_cons_succ, List.set_cons_zero])
      refine wpT_a (by rfl) (by rfl) fun K hK => ?_
      go_simp
      refine (HC _ (Below.refl _ W).drew).mono ?_
      rintro r w4 ⟨rfl, hb4⟩
      have hX4 : Below W.heap.size W w4 := (Below.refl _ W).drew.trans hb4
      refine hK _ _ (fun _ => hX4) ?_; clear hK K; try simp only [Act.put, List.setIfInBounds_toArray, List.set_cons_succ, List.set_cons_zero]
      repeat ((first | (refine wpT_q (by rfl) (by rfl) ?_ ?_ ?_; rotate_left; focus (rintro W hX; have s0 := (HK _ hX (w.heap.size + 1) 7 (by omega)).trans c0; have s1 := (HK _ hX w.heap.size 8 (by omega)).trans c1; have s2 := (HK _ hX (w.heap.size + 1 + 1 + 1) 0 (by omega)).trans c2; go_simp; try (with_reducible rfl); done)) | refine wpT_skip (by rfl) (by rfl) ?_); try simp only [Act.put, List.setIfInBounds_toArray, List.set_cons_succ, List.set_cons_zero])
      refine wpT_askip (by rfl) (by rfl) (fun _ => hX4) ?_; try simp only [Act.put, List.setIfInBounds_toArray, List.set_cons_succ, List.set_cons_zero]
      repeat ((first | (refine wpT_q (by rfl) (by rfl) ?_ ?_ ?_; rotate_left; focus (rintro W hX; have s0 := (HK _ hX (w.heap.size + 1) 7 (by omega)).trans c0; have s1 := (HK _ hX w.heap.size 8 (by omega)).trans c1; have s2 := (HK _ hX (w.heap.size + 1 + 1 + 1) 0 (by omega)).trans c2; go_simp; try (with_reducible rfl); done)) | refine wpT_skip (by rfl) (by rfl) ?_); try simp only [Act.put, List.setIfInBounds_toArray, List.set_cons_succ, List.set_cons_zero])
      obtain ⟨c8, f8⟩ := box_facts ((hX4.block (w.heap.size + 1 + 1) (by omega)).trans bR)
      refine wpT_a (by rfl) (by rfl) fun K hK => ?_
      go_simp
      refine hK _ _ (fun h => absurd h (by omega)) ?_; clear hK K; try simp only [Act.put, List.setIfInBounds_toArray, List.set_cons_succ, List.set_cons_zero]
      refine wpT_nil ?_
      go_wp2
      have hc := World.cell?_setCell_same' w4 ⟨w.heap.size + 1 + 1, 0, none⟩ (.bool (true)) (by rw [c8]; rfl)
      exact bodyPost_ret (v := .bool (true)) (by simp [results, Tryd.f38, go_sem, hc]) rfl ⟨ret_bool HR.out.symm, (bthen hB hX4).setCell (p := ⟨w.heap.size + 1 + 1, 0, none⟩) (show w.heap.size ≤ w.heap.size + 1 + 1 by omega) _⟩
  · have HR := Lib.hid (show T.many c e xs = true by rw [HR1.out, g1]; rfl)
    go_enter Tryd.func38, Tryd.ntmps38
    go_wp2
    rw [← HW.out]
    refine wp_region_T 21 [5, 19, 21] (fun X => Below W.heap.size W X) (by kernel_rfl) (by kernel_rfl) (by repeat (first | exact trivial | refine ⟨.inl rfl, ?_⟩ | refine ⟨.inr fun _ _ _ _ h => h, ?_⟩)) ?_ ?_
    · exact (Below.refl _ W).drew
    repeat ((first | (refine wpT_q (by rfl) (by rfl) ?_ ?_ ?_; rotate_left; focus (rintro W hX; have s0 := (HK _ hX (w.heap.size + 1) 7 (by omega)).trans c0; have s1 := (HK _ hX w.heap.size 8 (by omega)).trans c1; have s2 := (HK _ hX (w.heap.size + 1 + 1 + 1) 0 (by omega)).trans c2; go_simp; try (with_reducible rfl); done)) | refine wpT_skip (by rfl) (by rfl) ?_); try simp only [Act.put, List.setIfInBounds_toArray, List.set_cons_succ, List.set_cons_zero])
    refine wpT_a (by rfl) (by rfl) fun K hK => ?_
    go_simp
    refine (HC _ (Below.refl _ W).drew).mono ?_
    rintro r w4 ⟨rfl, hb4⟩
    have hX4 : Below W.heap.size W w4 := (Below.refl _ W).drew.trans hb4
    refine hK _ _ (fun _ => hX4) ?_; clear hK K; try simp only [Act.put, List.setIfInBounds_toArray, List.set_cons_succ, List.set_cons_zero]
    repeat ((first | (refine wpT_q (by rfl) (by rfl) ?_ ?_ ?_; rotate_left; focus (rintro W hX; have s0 := (HK _ hX (w.heap.size + 1) 7 (by omega)).trans c0; have s1 := (HK _ hX w.heap.size 8 (by omega)).trans c1; have s2 := (HK _ hX (w.heap.size + 1 + 1 + 1) 0 (by omega)).trans c2; go_simp; try (with_reducible rfl); done)) | refine wpT_skip (by rfl) (by rfl) ?_); try simp only [Act.put, List.setIfInBounds_toArray, List.set_cons_succ, List.set_cons_zero])
    refine wpT_askip (by rfl) (by rfl) (fun _ => hX4) ?_; try simp only [Act.put, List.setIfInBounds_toArray, List.set_cons_succ, List.set_cons_zero]
    repeat ((first | (refine wpT_q (by rfl) (by rfl) ?_ ?_ ?_; rotate_left; focus (rintro W hX; have s0 := (HK _ hX (w.heap.size + 1) 7 (by omega)).trans c0; have s1 := (HK _ hX w.heap.size 8 (by omega)).trans c1; have s2 := (HK _ hX (w.heap.size + 1 + 1 + 1) 0 (by omega)).trans c2; go_simp; try (with_reducible rfl); done)) | refine wpT_skip (by rfl) (by rfl) ?_); try simp only [Act.put, List.setIfInBounds_toArray, List.set_cons_succ, List.set_cons_zero])
    obtain ⟨c8, f8⟩ := box_facts ((hX4.block (w.heap.size + 1 + 1) (by omega)).trans bR)
    refine wpT_a (by rfl) (by rfl) fun K hK => ?_
    go_simp
    refine hK _ _ (fun h => absurd h (by omega)) ?_; clear hK K; try simp only [Act.put, List.setIfInBounds_toArray, List.set_cons_succ, List.set_cons_zero]
    refine wpT_nil ?_
    go_wp2
    have hc := World.cell?_setCell_same' w4 ⟨w.heap.size + 1 + 1, 0, none⟩ (.bool (true)) (by rw [c8]; rfl)
    exact bodyPost_ret (v := .bool (true)) (by simp [results, Tryd.f38, go_sem, hc]) rfl ⟨ret_bool HR.out.symm, (bthen hB hX4).setCell (p := ⟨w.heap.size + 1 + 1, 0, none⟩) (show w.heap.size ≤ w.heap.size + 1 + 1 by omega) _⟩
end Go.Proofs.YtofifeicbhbgpaaDoor
