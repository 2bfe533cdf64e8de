/- audit: Soon. -/
import Derived.Test.YtofifeicbhbgpaaDoorSent
import Derived.Test.YtofifeicbhbgpaaDoorHeadP
namespace Go.Proofs.YtofifeicbhbgpaaDoor
open Go.RowKit Go.Shelf
set_option linter.unusedVariables false
set_option linter.unusedSimpArgs false
attribute [local go_sem] Oper.semAt_some Event.sz Config.sz
theorem keeps_below {B : Nat} {W W' : World} (h : Below W.heap.size W W') : KeepsFrom B W W' := ⟨h.size, fun k o _ hk _ => (h.block k (Array.getElem?_eq_some_iff.1 hk).1).trans hk⟩
def T.soonE (e x : Event) : Bool := decide (x.value < 0) || decide (T.clamp e.loc < T.add x.loc x.value)
def T.soon (e : Event) (l : List Event) : Bool := match l.reverse.find? (T.kd 10 (T.pMine e)) with | some x => T.soonE e x | none => false
set_option maxRecDepth 100000 in
set_option maxHeartbeats 4000000 in
theorem soon_in (n : Nat) (hn : 3 ≤ n) (v : Value) (xs : List Event) (c : Config) (e : Event) (w : World) (h : Sl Event.arr 18 w.heap.size w v xs) :
    CallsIn Fence.wide n Tryd.prog 38 #[v, .agg (Config.arr c), .int .i64 12, .agg (Event.arr e)] w fun r w' => r = .returned (.bool (T.soon e xs)) ∧ Below w.heap.size w w' := by
  have h1 : 1 ≤ n := by omega
  have hn3 : 1 ≤ n - 1 - 1 := by omega
  have HFN : ∀ k, Fence.wide.fn k := fun _ => trivial
  obtain ⟨A, cap, rfl, hcap, hl1, hl2⟩ := h.view
  refine callsIn_of_wp_marks Tryd.func38 rfl trivial ?_ rfl
  simp only [Tryd.ntmps38, List.size_toArray, List.length_cons, List.length_nil, Nat.reduceAdd, Nat.reduceSub, Array.replicate_succ, Array.replicate_zero, List.push_toArray, List.append_toArray, List.nil_append, List.cons_append]
  gi_wp2_with (gi_at_call 55; refine (backAhead_in Fence.wide (n - 1) trivial rfl _ _ _ _).mono ?_; rintro e w' ⟨rfl, rfl⟩)
  obtain ⟨W1, hW1, hsz1, hB1, rC1, rE1, bR1, bM1⟩ := boxes3 c e w (Obj.cells #[Value.bool false] 4) (Obj.cells #[.func (.func 59) #[] #[.pointer (some ⟨w.heap.size + 1, 0, none⟩)]] 96)
  rw [← hW1]
  obtain ⟨W0, hW0⟩ : ∃ W0, W1.alloc (Obj.cells #[Value.slice A xs.length cap] 58) = W0 := ⟨_, rfl⟩
  have hsz : W0.heap.size = w.heap.size + 5 := by rw [← hW0]; simp; omega
  have hB10 : Below W1.heap.size W1 W0 := by rw [← hW0]; exact (Below.refl _ W1).alloc (Nat.le_refl _) _
  have hB0 : Below w.heap.size w W0 := bthen hB1 hB10
  have rE : rowAt W0 (w.heap.size + 1) 0 18 = some (Event.arr e) := (rowAt_block (hB10.block _ (by omega))).trans rE1
  have bR := box_facts ((hB10.block (w.heap.size + 1 + 1) (by omega)).trans bR1)
  have bM := box_facts ((hB10.block (w.heap.size + 1 + 1 + 1) (by omega)).trans bM1)
  have bB : Boxed W0 (w.heap.size + 1 + 1 + 1 + 1) 58 (.slice A xs.length cap) := by rw [← hW0]; have := Boxed.new W1 58 (.slice A xs.length cap); rw [hsz1] at this; simpa using this
  rw [hW0]
  clear hW0 hW1 rC1 rE1 bR1 bM1
  have hS0 : Sl Event.arr 18 W0.heap.size W0 (.slice A xs.length cap) xs := (h.below hB0).mono hB0.size
  refine wpIn_rangeFunc_ownH rfl h1 (gf := 82) (lb := #[.pointer (some ⟨w.heap.size + 1 + 1 + 1 + 1, 0, none⟩)]) rfl trivial (enters_of Tryd.func82 (by kernel_rfl) rfl)
    (backAhead_stops Fence.wide (n - 1) trivial rfl (by omega) (w.heap.size + 1 + 1 + 1 + 1) W0.heap.size _ xs W0 (by omega) (Nat.le_refl _) bB.cell hS0) belowK_t (belowK_b (Nat.le_refl _)) (Below.refl _ _) (fun _ => rfl)
    (fun pre W => (∀ q ∈ pre, T.kd 10 (T.pMine e) q.2 = false) ∧ Below W0.heap.size W0 W)
    (fun c pre W => ((c = .ret ∧ ∃ ini last, pre = ini ++ [last] ∧ (∀ q ∈ ini, T.kd 10 (T.pMine e) q.2 = false) ∧ T.kd 10 (T.pMine e) last.2 = true ∧ W.cell? ⟨w.heap.size + 1 + 1, 0, none⟩ = some (.bool (T.soonE e last.2))) ∧ Below w.heap.size w W))
    (OwnFrom.and (ownFrom_pure _ _) (ownFrom_below (Nat.le_refl _) (Nat.le_refl _)))
    (fun c => OwnFrom.and (_root_.Go.Own.from (fun s A B row hs hg hr => by obtain ⟨hc, ini, last, e1, e2, e3, e4⟩ := hs; exact ⟨hc, ini, last, e1, e2, e3, cell_kept e4 hg hr⟩) _) (ownFrom_below (Nat.le_refl _) (by omega)))
    ⟨by simp, Below.refl _ _⟩
    (fun x a' W => ∃ Bx, W0.heap.size ≤ Bx ∧ rowAt W Bx 0 18 = some (Event.arr x.2) ∧ a' = { tmps := #[Value.slice A xs.length cap, Value.agg c.arr, Value.int IntKind.i64 12, Value.agg e.arr, undef, Value.pointer (some { block := w.heap.size, off := 0 }), undef, Value.pointer (some { block := w.heap.size + 1, off := 0 }), Value.pointer (some { block := w.heap.size + 1 + 1, off := 0 }), Value.pointer (some { block := w.heap.size + 1 + 1 + 1, off := 0 }), undef, undef, Value.pointer (some { block := Bx, off := 0 }), Value.func (Fn.func 59) #[] #[Value.pointer (some { block := w.heap.size + 1, off := 0 })], Value.int IntKind.i64 12, Value.bool false, Value.bool false, undef, undef, undef, undef, undef, undef, undef, undef, undef, undef, undef, Value.bool false, Value.bool false, undef, undef, undef, undef, undef, undef, undef, undef, undef, undef, undef, undef, undef, undef, undef, undef, undef, undef, undef, undef, undef, Value.slice A xs.length cap, Value.func (Fn.func 82) #[] #[Value.pointer (some { block := w.heap.size + 1 + 1 + 1 + 1, off := 0 })], Value.int IntKind.i64 ↑x.fst, Value.agg (Event.arr x.snd), undef, undef, undef, undef, undef, undef, undef, undef, undef, undef, undef, undef, undef, undef, undef, undef, undef, undef, undef, undef, undef, undef], defers := [] })
    (fun x a' _ X Y row hs hg hr => by obtain ⟨Bx, h1, h2, h3⟩ := hs; exact ⟨Bx, h1, rowAt_kept h2 hg (fun r e => (hr r e).2), h3⟩)
    ?assign ?body ?done ?stop
  case assign =>
    rintro l pre x W K ⟨hp, hB⟩ hK
    gi_wp2_with (refine wpListIn_store_new rfl _ _ _ rfl W.heap.size (Event.arr x.2) _ _ rfl rfl rfl rfl rfl (Event.one x.2) ?_)
    exact hK _ _ ((KeepsOthers.alloc _ _).from _) ((Below.refl _ W).alloc hB.size _) ⟨hp, hB.alloc hB.size _⟩ ⟨W.heap.size, hB.size, rowAt_new W _ _ _ _ rfl, rfl⟩
  case body =>
    rintro l pre x a' W hl ⟨r, hr⟩ ⟨hp, hB⟩ ⟨Bx, hBx, hxr, rfl⟩ hlt
    obtain ⟨x0, _, _, x3, _, _, x9⟩ := Event.cells hxr
    have rE' := (rowAt_block (hB.block _ (show w.heap.size + 1 < _ by omega))).trans rE
    obtain ⟨_, _, _, e3, _⟩ := Event.cells rE'
    simp only [Nat.zero_add] at x0 x3 x9 e3
    have cM := (hB.cell (p := ⟨w.heap.size + 1 + 1 + 1, 0, none⟩) (show w.heap.size + 1 + 1 + 1 < _ by omega)).trans bM.1
    have cR := (hB.cell (p := ⟨w.heap.size + 1 + 1, 0, none⟩) (show w.heap.size + 1 + 1 < _ by omega)).trans bR.1
    have fR := (hB.frozen (p := ⟨w.heap.size + 1 + 1, 0, none⟩) (show w.heap.size + 1 + 1 < _ by omega)).trans bR.2
    have hmine := mineF_c e x.2 (w.heap.size + 1) W rE'
    rcases hk : (x.2.kind == 10) with _ | _
    · have HS := Lib.hid (show T.kd 10 (T.pMine e) x.2 = false by unfold T.kd; rw [hk]; rfl)
      gi_wp2
      exact ⟨⟨Nat.le_refl _, fun _ _ _ h _ => h⟩, Below.refl _ W, fun q hq => (List.mem_append.1 hq).elim (hp q) (fun e => by simp at e; subst e; exact HS.out), hB⟩
    · rcases hm : T.pMine e x.2 with _ | _
      · have HS := Lib.hid (show T.kd 10 (T.pMine e) x.2 = false by unfold T.kd; rw [hk, hm]; rfl)
        rw [hm] at hmine
        clear hm
        gi_wp2_with (first | (refine wpListIn_load_at_w 55 _ rfl rfl _ 0 18 rfl _ _ hxr rfl rfl rfl ?_) | (gi_at_call 59; refine (CallsIn.inRound l (callsIn_wide.2 hmine)).mono ?_; rintro r w5 ⟨rfl, hb5⟩))
        exact ⟨keeps_below hb5, hb5.mono hB.size, fun q hq => (List.mem_append.1 hq).elim (hp q) (fun e => by simp at e; subst e; exact HS.out), bthen hB hb5⟩
      · have HS := Lib.hid (show T.kd 10 (T.pMine e) x.2 = true by unfold T.kd; rw [hk, hm]; rfl)
        rw [hm] at hmine
        clear hm
        gi_wp2_with (first | (refine wpListIn_load_at_w 55 _ rfl rfl _ 0 18 rfl _ _ hxr rfl rfl rfl ?_) | (gi_at_call 59; refine (CallsIn.inRound l (callsIn_wide.2 hmine)).mono ?_; rintro r w5 ⟨rfl, hb5⟩))
        have hb5c := fun (b o : Nat) (hlt : b < W.heap.size) => hb5.cell (p := ⟨b, o, none⟩) hlt
        have hW5 := hb5.size
        have hBW := hB.size
        have hBx2 : Bx < W.heap.size := rowAt_lt hxr
        have y3 := (hb5c Bx 3 hBx2).trans x3
        have y9 := (hb5c Bx 17 hBx2).trans x9
        have z3 := (hb5c (w.heap.size + 1) 3 (by omega)).trans e3
        have zR := (hb5c (w.heap.size + 1 + 1) 0 (by omega)).trans cR
        have gR := (hb5.frozen (p := ⟨w.heap.size + 1 + 1, 0, none⟩) (show w.heap.size + 1 + 1 < _ by omega)).trans fR
        rcases hv : decide (x.2.value < 0) with _ | _
        · have HE := Lib.hid (show T.soonE e x.2 = decide (T.clamp e.loc < T.add x.2.loc x.2.value) by unfold T.soonE; rw [hv]; rfl)
          refine wpIn_region_P 14 [6, 11, 14] [0, 1, 2, 3, 4, 5, 7, 8, 9, 10, 6, 11, 12, 13, 14] (fun X => Below w5.heap.size w5 X) (by kernel_rfl) (by kernel_rfl) (by kernel_rfl) (by kernel_rfl) (by decide) (by simp only [ordOps, List.map_cons, List.map_nil, List.getElem?_cons_succ, List.getElem?_cons_zero, Option.getD_some]; repeat (first | exact trivial | refine ⟨.inl rfl, ?_⟩ | refine ⟨.inr fun _ _ _ _ h => h, ?_⟩)) ?_ ?_
          rotate_left; simp only [ordOps, List.map_cons, List.map_nil, List.getElem?_cons_succ, List.getElem?_cons_zero, Option.getD_some]; rotate_left
          · exact (Below.refl _ w5).drew
          repeat ((first | (refine wpP_q (by rfl) (by rfl) ?_ ?_ ?_; rotate_left; focus (rintro W hX; have s3 := (World.cell?_of_block (hX.block Bx (by omega))).trans y3; have s9 := (World.cell?_of_block (hX.block Bx (by omega))).trans y9; have t3 := (World.cell?_of_block (hX.block (w.heap.size + 1) (by omega))).trans z3; go_simp; try (with_reducible rfl); done)) | refine wpP_skip (by rfl) (by rfl) ?_); try simp only [Act.put, List.setIfInBounds_toArray, List.set_cons_succ, List.set_cons_zero])
          refine wpP_a (by rfl) (by rfl) fun K hK => ?_
          go_simp
          refine (clamp_c _ _).mono ?_
          rintro r w6 ⟨rfl, rfl⟩
          refine hK _ _ (fun _ => (Below.refl _ w5).drew) ?_; clear hK K; try simp only [Act.put, List.setIfInBounds_toArray, List.set_cons_succ, List.set_cons_zero]
          repeat ((first | (refine wpP_q (by rfl) (by rfl) ?_ ?_ ?_; rotate_left; focus (rintro W hX; have s3 := (World.cell?_of_block (hX.block Bx (by omega))).trans y3; have s9 := (World.cell?_of_block (hX.block Bx (by omega))).trans y9; have t3 := (World.cell?_of_block (hX.block (w.heap.size + 1) (by omega))).trans z3; go_simp; try (with_reducible rfl); done)) | refine wpP_skip (by rfl) (by rfl) ?_); try simp only [Act.put, List.setIfInBounds_toArray, List.set_cons_succ, List.set_cons_zero])
          refine wpP_a (by rfl) (by rfl) fun K hK => ?_
          go_simp
          refine (add_c _ _ _).mono ?_
          rintro r w6 ⟨rfl, rfl⟩
          refine hK _ _ (fun _ => (Below.refl _ w5).drew) ?_; clear hK K; try simp only [Act.put, List.setIfInBounds_toArray, List.set_cons_succ, List.set_cons_zero]
          repeat ((first | (refine wpP_q (by rfl) (by rfl) ?_ ?_ ?_; rotate_left; focus (rintro W hX; have s3 := (World.cell?_of_block (hX.block Bx (by omega))).trans y3; have s9 := (World.cell?_of_block (hX.block Bx (by omega))).trans y9; have t3 := (World.cell?_of_block (hX.block (w.heap.size + 1) (by omega))).trans z3; go_simp; try (with_reducible rfl); done)) | refine wpP_skip (by rfl) (by rfl) ?_); try simp only [Act.put, List.setIfInBounds_toArray, List.set_cons_succ, List.set_cons_zero])
          refine wpP_a (by rfl) (by rfl) fun K hK => ?_
          go_simp
          refine hK _ _ (fun h => absurd h (by omega)) ?_; clear hK K; try simp only [Act.put, List.setIfInBounds_toArray, List.set_cons_succ, List.set_cons_zero]
          refine wpP_nil ?_
          rw [noOut_normal]
          gi_wp2
          exact ⟨(keeps_below hb5).trans (((KeepsOthers.drew w5).trans (KeepsOthers.setCell w5.drew ⟨w.heap.size + 1 + 1, 0, none⟩ (.bool (decide (T.clamp e.loc < T.add x.2.loc x.2.value))))).from W0.heap.size), ⟨rfl, pre, x, rfl, hp, HS.out, by rw [HE.out]; exact World.cell?_setCell_same' w5 ⟨w.heap.size + 1 + 1, 0, none⟩ _ (by rw [zR]; rfl)⟩, ((hB0.trans ((bthen hB hb5).mono hB0.size)).drew).setCell (p := ⟨w.heap.size + 1 + 1, 0, none⟩) (show w.heap.size ≤ w.heap.size + 1 + 1 by omega) _⟩
        · have HE := Lib.hid (show T.soonE e x.2 = true by unfold T.soonE; rw [hv]; rfl)
          refine wpIn_region_P 14 [6, 11, 14] [0, 1, 2, 3, 4, 5, 7, 8, 9, 10, 6, 11, 12, 13, 14] (fun X => Below w5.heap.size w5 X) (by kernel_rfl) (by kernel_rfl) (by kernel_rfl) (by kernel_rfl) (by decide) (by simp only [ordOps, List.map_cons, List.map_nil, List.getElem?_cons_succ, List.getElem?_cons_zero, Option.getD_some]; repeat (first | exact trivial | refine ⟨.inl rfl, ?_⟩ | refine ⟨.inr fun _ _ _ _ h => h, ?_⟩)) ?_ ?_
          rotate_left; simp only [ordOps, List.map_cons, List.map_nil, List.getElem?_cons_succ, List.getElem?_cons_zero, Option.getD_some]; rotate_left
          · exact (Below.refl _ w5).drew
          repeat ((first | (refine wpP_q (by rfl) (by rfl) ?_ ?_ ?_; rotate_left; focus (rintro W hX; have s3 := (World.cell?_of_block (hX.block Bx (by omega))).trans y3; have s9 := (World.cell?_of_block (hX.block Bx (by omega))).trans y9; have t3 := (World.cell?_of_block (hX.block (w.heap.size + 1) (by omega))).trans z3; go_simp; try (with_reducible rfl); done)) | refine wpP_skip (by rfl) (by rfl) ?_); try simp only [Act.put, List.setIfInBounds_toArray, List.set_cons_succ, List.set_cons_zero])
          refine wpP_askip (by rfl) (by rfl) (fun _ => (Below.refl _ w5).drew) ?_; try simp only [Act.put, List.setIfInBounds_toArray, List.set_cons_succ, List.set_cons_zero]
          repeat ((first | (refine wpP_q (by rfl) (by rfl) ?_ ?_ ?_; rotate_left; focus (rintro W hX; have s3 := (World.cell?_of_block (hX.block Bx (by omega))).trans y3; have s9 := (World.cell?_of_block (hX.block Bx (by omega))).trans y9; have t3 := (World.cell?_of_block (hX.block (w.heap.size + 1) (by omega))).trans z3; go_simp; try (with_reducible rfl); done)) | refine wpP_skip (by rfl) (by rfl) ?_); try simp only [Act.put, List.setIfInBounds_toArray, List.set_cons_succ, List.set_cons_zero])
          refine wpP_askip (by rfl) (by rfl) (fun _ => (Below.refl _ w5).drew) ?_; try simp only [Act.put, List.setIfInBounds_toArray, List.set_cons_succ, List.set_cons_zero]
          repeat ((first | (refine wpP_q (by rfl) (by rfl) ?_ ?_ ?_; rotate_left; focus (rintro W hX; have s3 := (World.cell?_of_block (hX.block Bx (by omega))).trans y3; have s9 := (World.cell?_of_block (hX.block Bx (by omega))).trans y9; have t3 := (World.cell?_of_block (hX.block (w.heap.size + 1) (by omega))).trans z3; go_simp; try (with_reducible rfl); done)) | refine wpP_skip (by rfl) (by rfl) ?_); try simp only [Act.put, List.setIfInBounds_toArray, List.set_cons_succ, List.set_cons_zero])
          refine wpP_a (by rfl) (by rfl) fun K hK => ?_
          go_simp
          refine hK _ _ (fun h => absurd h (by omega)) ?_; clear hK K; try simp only [Act.put, List.setIfInBounds_toArray, List.set_cons_succ, List.set_cons_zero]
          refine wpP_nil ?_
          rw [noOut_normal]
          gi_wp2
          exact ⟨(keeps_below hb5).trans (((KeepsOthers.drew w5).trans (KeepsOthers.setCell w5.drew ⟨w.heap.size + 1 + 1, 0, none⟩ (.bool (true)))).from W0.heap.size), ⟨rfl, pre, x, rfl, hp, HS.out, by rw [HE.out]; exact World.cell?_setCell_same' w5 ⟨w.heap.size + 1 + 1, 0, none⟩ _ (by rw [zR]; rfl)⟩, ((hB0.trans ((bthen hB hb5).mono hB0.size)).drew).setCell (p := ⟨w.heap.size + 1 + 1, 0, none⟩) (show w.heap.size ≤ w.heap.size + 1 + 1 by omega) _⟩
  case done =>
    rintro D ys W hD rfl ⟨hp, hB⟩ hK
    have cR := (hB.cell (p := ⟨w.heap.size + 1 + 1, 0, none⟩) (show w.heap.size + 1 + 1 < _ by omega)).trans bR.1
    have fR := (hB.frozen (p := ⟨w.heap.size + 1 + 1, 0, none⟩) (show w.heap.size + 1 + 1 < _ by omega)).trans bR.2
    have HN := Lib.hid (show T.soon e xs = false by unfold T.soon; rw [T.rp_find_none _ _ hp])
    gi_wp2
    refine ⟨by simp, .inl ⟨_, _, rfl, run_takeDeferred ((KeepsOthers.setCell W ⟨w.heap.size + 1 + 1, 0, none⟩ (.bool false)).same D _ hK rfl), ?_⟩⟩
    have hc5 := cell_kept (World.cell?_setCell_same' W ⟨w.heap.size + 1 + 1, 0, none⟩ (.bool false) (by rw [cR]; rfl)) (grownBy_putObj' _ D (.deferred none)) (fun r e => by cases e; exact ⟨_, (KeepsOthers.setCell W ⟨w.heap.size + 1 + 1, 0, none⟩ (.bool false)).same D _ hK rfl, rfl⟩)
    refine ⟨.bool false, ?_, ?_, ((hB0.trans (hB.mono hB0.size)).setCell (p := ⟨w.heap.size + 1 + 1, 0, none⟩) (show w.heap.size ≤ w.heap.size + 1 + 1 by omega) _).trans (belowK_b (w := w) (Nat.le_refl _) _ D _ _ (by omega) ((KeepsOthers.setCell W ⟨w.heap.size + 1 + 1, 0, none⟩ (.bool false)).same D _ hK rfl) rfl rfl)⟩
    · simp [results, Tryd.f38, go_sem, hc5]
    · rw [HN.out]
  case stop =>
    rintro D c pre W hD ⟨k, hk, rfl⟩ ⟨⟨rfl, ini, last, e1, e2, e3, hcr⟩, hB⟩ hK
    have HN := Lib.hid (show T.soon e xs = T.soonE e last.2 by unfold T.soon; rw [T.rp_find_some _ _ k ini last e1 e2 e3])
    gi_wp2
    refine ⟨by simp, .inl ⟨_, _, rfl, run_takeDeferred hK, ?_⟩⟩
    have hc5 := cell_kept hcr (grownBy_putObj' _ D (.deferred none)) (fun r e => by cases e; exact ⟨_, hK, rfl⟩)
    refine ⟨.bool (T.soonE e last.2), ?_, ?_, hB.trans (belowK_b (w := w) (Nat.le_refl _) W D _ _ (by omega) hK rfl rfl)⟩
    · simp [results, Tryd.f38, go_sem, hc5]
    · rw [HN.out]
end Go.Proofs.YtofifeicbhbgpaaDoor
