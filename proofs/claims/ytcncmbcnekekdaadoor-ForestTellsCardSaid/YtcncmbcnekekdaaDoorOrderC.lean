/- Forest: Order. -/
import Derived.Test.YtcncmbcnekekdaaDoorOrderW
import Derived.Laws.EntriesVeiled
namespace Go.Proofs.YtcncmbcnekekdaaDoor
open Go.RowKit Go.Shelf Go.Maps
set_option linter.unusedVariables false
set_option linter.unusedSimpArgs false
theorem Grp.made {w : World} {base b : Nat} {xs : List Item} (hb : w.heap[b]? = some (.map #[] 0)) (hbb : b < base) : Grp w base b 0 xs :=
  ⟨.map [], ⟨#[], 0, hb, ⟨by simp, MapKept.stamped_empty 0, by simp⟩, Nat.le_refl _, rfl, hbb, by simp, by simp⟩, fun a => by simp [T.kd_, T.gdat, DataW.atKey]⟩
theorem wp_mapUpdate_run {P : Program} {o : Oper} {a : Act} {w w2 : World} {K : Act → World → Prop} {Q : Exit → Act → World → Prop} (m x v : Operand) (t : TypeId) (hop : o.op = .mapUpdate t m x v) {mv kv vv : Value} (hm : a.eval m = mv) (hx : a.eval x = kv) (hv : a.eval v = vv)
    (hrun : (Instr.mapUpdate t mv kv vv).run P w = .ok () w2) (h : K (a.put o.dst undef) w2) : o.wp P a w K Q := by
  unfold Oper.wp
  simp [execOp, hop, hm, hx, hv, hrun, Result.andThen]
  exact h
theorem yields_lookup {P : Program} {o : Oper} {a : Act} {w : World} (m x : Operand) (t : TypeId) (hop : o.op = .lookup t m x false) {mv kv v : Value} (hm : a.eval m = mv) (hx : a.eval x = kv)
    (hrun : (Instr.lookup t mv kv false).run P w = .ok v w) : (execOp a.eval o).run P w = .ok (.value v) w := by
  unfold execOp
  simp [hop, hm, hx, hrun, Result.andThen]
set_option maxRecDepth 100000 in
set_option maxHeartbeats 4000000 in
theorem order_c (v : Value) (xs : List Item) (w : World) (h : Sl Item.arr 17 w.heap.size w v xs) (hn : xs.length ≤ 100000) :
    Calls Tryd.prog 20 #[v] w fun e w' => ∃ u, e = .returned u ∧ Own intArr 1 w.heap.size 3 w' u (T.ints (T.order xs)) ∧ Below w.heap.size w w' := by
  obtain ⟨A, cap, rfl, hcap, hl1, hl2⟩ := h.view
  have hmm := @run_makeMap Tryd.prog
  obtain ⟨W0, hW0⟩ : ∃ W0, W0 = (w.alloc (.map #[] 0)).alloc (Obj.cells #[.map (some w.heap.size)] 93) := ⟨_, rfl⟩
  have hs0 : W0.heap.size = w.heap.size + 2 := by rw [hW0]; simp
  have hB0 : Below w.heap.size w W0 := by rw [hW0]; exact ((Below.refl _ w).alloc (Nat.le_refl _) _).alloc (by simp) _
  have hmap : W0.heap[w.heap.size]? = some (.map #[] 0) := by rw [hW0]; exact (Below.heap_alloc _ _ _ (by simp)).trans (heap_alloc_new _ _)
  have hcell : W0.heap[w.heap.size + 1]? = some (.cells #[.map (some w.heap.size)] 93 (0, 0)) := by
    rw [hW0]; have := heap_alloc_new (w.alloc (.map #[] 0)) (Obj.cells #[.map (some w.heap.size)] 93); simpa using this
  have hG0 : Grp W0 (w.heap.size + 2) w.heap.size 0 xs := Grp.made hmap (by omega)
  have HW := Lib.hid hW0
  clear hW0 hmap
  go_enter Tryd.func20, Tryd.ntmps20
  go_wp2
  rw [← HW.out]
  go_loopw [11] (fun i wr => ∃ k : Nat, k ≤ xs.length ∧ i = .int .i64 (k : Int) ∧ Grp wr (w.heap.size + 2) w.heap.size k xs ∧ wr.heap[w.heap.size + 1]? = some (.cells #[.map (some w.heap.size)] 93 (0, 0)) ∧ Below w.heap.size w wr ∧ w.heap.size + 2 ≤ wr.heap.size) (fun i _ => xs.length - (intOf i).toNat)
  case atStart => exact ⟨0, Nat.zero_le _, rfl, hG0, hcell, hB0, by omega⟩
  case round =>
    obtain ⟨k, hk, rfl, hG, hc3, hB, hsz⟩ := hrel
    by_cases hkl : k < xs.length
    · have hS := (h.below hB).mono hB.size
      have hab := above_c _ xs (k : Int) wr hS
      rw [show T.above xs (k : Int) = T.upI xs k by rw [T.above, if_pos (by omega)]; simp] at hab
      have hu := T.up_lt xs k
      obtain ⟨a, ha⟩ : ∃ a, a = T.upI xs k := ⟨_, rfl⟩
      rw [← ha] at hab hu
      have HA := Lib.hid ha
      clear ha
      go_wp2_with (go_at_call 15; (with_reducible refine hab.mono ?_); rintro e w1 ⟨rfl, hb1⟩)
      have hG1 := hG.below hb1
      have hB1 := bthen hB hb1
      have hc31 := (hb1.block (w.heap.size + 1) (by omega)).trans hc3
      have hz1 : w.heap.size + 2 ≤ w1.heap.size := Nat.le_trans hsz hb1.size
      obtain ⟨v1, hvo, hlook, hback⟩ := hG1.look (by omega) a (by omega) (by omega)
      obtain ⟨A1, n1, cap1, rfl⟩ := hvo.shape
      have hkdl := T.kd_len xs a k
      have hback' := hback HA.out.symm
      have hml : ((T.kd_ xs a k).map Int.ofNat).length ≤ 100000 := by simp; omega
      have hbl : w.heap.size < w.heap.size + 2 := by omega
      clear hback hG hG1 hb1 hB hc3 hS h hab hsz
      refine wp_region_P 8 [6, 7, 8] [0, 1, 2, 3, 5, 4, 6, 7, 8] (fun X => Below (w.heap.size + 2) w1 X) (by kernel_rfl) (by kernel_rfl) (by kernel_rfl) (by decide) (by simp only [ordOps, List.map_cons, List.map_nil, List.getElem?_cons_succ, List.getElem?_cons_zero, Option.getD_some]; repeat (first | exact trivial | refine ⟨.inl rfl, ?_⟩ | refine ⟨.inr fun _ _ _ _ h => h, ?_⟩)) ?_ ?_
      rotate_left; simp only [ordOps, List.map_cons, List.map_nil, List.getElem?_cons_succ, List.getElem?_cons_zero, Option.getD_some]; rotate_left
      · exact (Below.refl _ w1).drew
      repeat ((first | (refine wpP_q (by rfl) (by rfl) ?_ ?_ ?_; rotate_left; focus (rintro W hX; have s0 := (heap_box ((hX.block (w.heap.size + 1) (by omega)).trans hc31)).1; have s1 := hlook _ (hX.block w.heap.size (by omega)); go_simp; try (with_reducible rfl); done)) | refine wpP_skip (by rfl) (by rfl) ?_); try simp only [Act.put, List.setIfInBounds_toArray, List.set_cons_succ, List.set_cons_zero])
      refine wpP_a (by rfl) (by rfl) fun K hK => ?_
      refine wp_slice1 29 3 _ rfl (intArr (k : Int)) 1 8 Tryd.underlying29 (by kernel_rfl) (by decide) rfl rfl w1.heap.size rfl ?_
      have hX1 : Below (w.heap.size + 2) w1 (w1.drew.alloc (Obj.cells (intArr (k : Int)) 3)) := (Below.refl _ w1).drew.alloc hz1 _
      refine hK _ _ (fun _ => hX1) ?_; clear hK K; try simp only [Act.put, List.setIfInBounds_toArray, List.set_cons_succ, List.set_cons_zero]
      refine wpP_a (by rfl) (by rfl) fun K hK => ?_
      have py : rowAt (w1.drew.alloc (.cells (intArr (k : Int)) 3)) w1.heap.size 0 1 = some (intArr (k : Int)) := rowAt_new _ _ _ _ _ rfl
      refine wp_append1 intArr 1 _ _ _ rfl (w.heap.size + 2) 3 8 Tryd.underlying29 (by kernel_rfl) (by decide) (.slice A1 n1 cap1) ((T.kd_ xs a k).map Int.ofNat) (k : Int) rfl (hvo.drew.alloc _) w1.heap.size rfl py (intArr_one _) (by omega) (by omega) (by show _ ≤ (World.alloc _ _).heap.size; rw [World.size_alloc]; show _ ≤ w1.heap.size + 1; omega) ?_
      intro v2 w2 hown2 hgr2 hbel2 hloc2
      obtain ⟨A2, n2, cap2, rfl⟩ := hown2.shape
      have hX2 : Below (w.heap.size + 2) w1 w2 := hX1.trans hbel2
      refine hK _ _ (fun _ => hX2) ?_; clear hK K; try simp only [Act.put, List.setIfInBounds_toArray, List.set_cons_succ, List.set_cons_zero]
      refine wpP_a (by rfl) (by rfl) fun K hK => ?_
      have hgr : w1.grownBy w2 (Value.slice A1 n1 cap1).ownBlock := ⟨hgr2.os, hgr2.tape, hgr2.output, Nat.le_trans (show w1.heap.size ≤ (World.alloc w1.drew _).heap.size by rw [World.size_alloc]; exact Nat.le_succ _) hgr2.size, fun q hq hne => (hgr2.block q (by rw [World.size_alloc]; exact Nat.lt_succ_of_lt hq) hne).trans (Below.heap_alloc w1.drew _ q hq)⟩
      obtain ⟨w3, hrun3, hG3, hgr3⟩ := hback' w2 _ hgr hown2 (hloc2.imp id fun hh => ⟨_, hh, by rw [World.size_alloc]; exact Nat.le_succ _⟩)
      refine wp_mapUpdate_run _ _ _ _ rfl rfl rfl rfl hrun3 ?_
      refine hK _ _ (fun h => absurd h (by omega)) ?_; clear hK K; try simp only [Act.put, List.setIfInBounds_toArray, List.set_cons_succ, List.set_cons_zero]
      refine wpP_nil ?_
      have hc33 := (hgr3.block (w.heap.size + 1) (by have := hX2.size; omega) (by simp)).trans ((hX2.block _ (by omega)).trans hc31)
      have hB3 : Below w.heap.size w w3 := (hB1.trans (hX2.mono (by omega))).grown hgr3 (by have := hX2.size; omega) (fun j hj => by cases hj; exact Nat.le_refl _)
      have hz3 : w.heap.size + 2 ≤ w3.heap.size := Nat.le_trans (Nat.le_trans hz1 hX2.size) hgr3.size
      clear hback' hlook hgr hown2 hgr2 hbel2 hloc2 hX1 hX2 hrun3 hgr3
      go_wp2
      go_roundw
      case rel => exact ⟨k + 1, by omega, by go_num, hG3, hc33, hB3, hz3⟩
      case measure => simp [intOf]; omega
    · obtain rfl : k = xs.length := by omega
      obtain ⟨c3, f3⟩ := heap_box hc3
      obtain ⟨fv, hfv⟩ : ∃ fv : Value, fv = .func (.func 61) #[] #[.pointer (some ⟨w.heap.size + 1, 0, none⟩), .pointer (some ⟨wr.heap.size, 0, none⟩), .pointer (some ⟨wr.heap.size + 1, 0, none⟩)] := ⟨_, rfl⟩
      have hwk := owalk_c xs hn (w.heap.size + 2) w.heap.size (w.heap.size + 1) wr hG c3 fv hfv (xs.length + 1) (-1) (by omega) (by omega) (by omega)
      have hOI : OI wr fv ((wr.alloc (Obj.cells #[Value.slice none 0 0] 29)).alloc (Obj.cells #[fv] 94)) (.slice none 0 0) [] :=
        ⟨((Below.refl _ wr).alloc (Nat.le_refl _) _).alloc (by simp) _, (Below.heap_alloc _ _ _ (by simp)).trans (heap_alloc_new _ _), by have := heap_alloc_new (wr.alloc (Obj.cells #[Value.slice none 0 0] 29)) (Obj.cells #[fv] 94); simpa using this, Own.nil⟩
      have hwk1 := hwk _ _ [] hOI (by have := T.order_len xs; unfold T.order at this; simp only [List.nil_append]; omega)
      rw [hfv] at hwk1
      have HWK := Lib.hid hwk1
      clear hwk hOI hwk1 hG hc3
      go_wp2_with fail
      refine HWK.out.mono ?_
      rintro e w5 ⟨⟨r, rfl⟩, u5', hB5, hb0, hb1, hown5⟩
      obtain ⟨q0, g0⟩ := heap_box hb0
      obtain ⟨A5, n5, cap5, rfl⟩ := hown5.shape
      go_wp2
      go_ret
      exact ⟨_, rfl, by rw [List.nil_append] at hown5; exact hown5.lower (by omega), bthen hB hB5⟩
end Go.Proofs.YtcncmbcnekekdaaDoor
