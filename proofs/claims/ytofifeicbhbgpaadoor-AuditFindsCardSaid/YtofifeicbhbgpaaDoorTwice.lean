/- audit: what is asked of what stands ahead, the last one first: Twice, Soon. -/
import Derived.Test.YtofifeicbhbgpaaDoorAuditB
import Derived.Test.YtofifeicbhbgpaaDoorAuditC
import Derived.Test.YtofifeicbhbgpaaDoorBackA
import Derived.Test.YtofifeicbhbgpaaDoorAbove
namespace Go.Proofs.YtofifeicbhbgpaaDoor
open Go.RowKit Go.Shelf
set_option linter.unusedVariables false
set_option linter.unusedSimpArgs false

theorem T.rp_snd {α : Type} (xs : List α) : (T.rp xs).map (·.2) = xs.reverse := by
  simp only [T.rp, List.map_reverse, List.map_map]
  congr 1
  have : ((fun x : Nat × α => x.2) ∘ fun p : α × Nat => (p.2, p.1)) = Prod.fst := rfl
  rw [this]; simp
theorem T.rp_find_none {α : Type} (q : α → Bool) (xs : List α) (h : ∀ p ∈ T.rp xs, q p.2 = false) : xs.reverse.find? q = none := by
  rw [← T.rp_snd, List.find?_eq_none]
  intro x hx
  obtain ⟨p, hp, rfl⟩ := List.mem_map.1 hx
  rw [h p hp]; simp
theorem T.rp_find_some {α : Type} (q : α → Bool) (xs : List α) (k : Nat) (ini : List (Nat × α)) (last : Nat × α) (he : (T.rp xs).take k = ini ++ [last]) (h : ∀ p ∈ ini, q p.2 = false) (hl : q last.2 = true) : xs.reverse.find? q = some last.2 := by
  have e : T.rp xs = ini ++ (last :: (T.rp xs).drop k) := by
    have := List.take_append_drop k (T.rp xs)
    rw [he] at this
    rw [List.append_assoc] at this
    exact this.symm
  rw [← T.rp_snd, e, List.map_append, List.find?_append, List.find?_eq_none.2 (fun x hx => by obtain ⟨p, hp, rfl⟩ := List.mem_map.1 hx; rw [h p hp]; simp), List.map_cons, List.find?_cons_of_pos hl]
  rfl

def T.stop (e x : Event) : Bool := ((x.kind == 9) && (x.node == e.node)) || ((x.kind == 3) && ((x.node == e.node) && decide (x.key = e.key)))
def T.hit (e x : Event) : Bool := !((x.kind == 9) && (x.node == e.node))
def T.twice (e : Event) (l : List Event) : Bool := match l.reverse.find? (T.stop e) with | some x => T.hit e x | none => false
attribute [local go_sem] Oper.semAt_some Event.sz Config.sz Key.sz
attribute [local go_sem high] eqTKey
set_option maxRecDepth 100000 in
set_option maxHeartbeats 4000000 in
theorem twice_in (F : Fence) (n : Nat) (h1f : F.fn 37) (h2f : F.fn 55) (h3f : F.fn 82) (hro : F.round = none) (hn : 3 ≤ n) (v : Value) (xs : List Event) (c : Config) (e : Event) (w : World) (h : Sl Event.arr 18 w.heap.size w v xs) :
    CallsIn F n Tryd.prog 37 #[v, .agg (Config.arr c), .int .i64 3, .agg (Event.arr e)] w fun r w' => r = .returned (.bool (T.twice e xs)) ∧ Below w.heap.size w w' := by
  have h1 : 1 ≤ n := by omega
  obtain ⟨A, cap, rfl, hcap, hl1, hl2⟩ := h.view
  refine callsIn_of_wp_marks Tryd.func37 rfl h1f ?_ hro
  simp only [Tryd.ntmps37, List.size_toArray, List.length_cons, List.length_nil, Nat.reduceAdd, Nat.reduceSub, Array.replicate_succ, Array.replicate_zero, List.push_toArray, List.append_toArray, List.nil_append, List.cons_append]
  gi_wp2_with (gi_at_call 55; refine (backAhead_in F (n - 1) h2f hro _ _ _ _).mono ?_; rintro e w' ⟨rfl, rfl⟩)
  obtain ⟨W0, hW0⟩ : ∃ W0, (((w.alloc (Obj.cells (Config.arr c) 24)).alloc (Obj.cells (Event.arr e) 55)).alloc (Obj.cells #[Value.bool false] 4)).alloc (Obj.cells #[Value.slice A xs.length cap] 58) = W0 := ⟨_, rfl⟩
  have hsz : W0.heap.size = w.heap.size + 4 := by rw [← hW0]; simp
  have hB0 : Below w.heap.size w W0 := by rw [← hW0]; exact ((((Below.refl _ w).alloc (Nat.le_refl _) _).alloc (by simp) _).alloc (by simp <;> omega) _).alloc (by simp <;> omega) _
  have rE : rowAt W0 (w.heap.size + 1) 0 18 = some (Event.arr e) := by
    have h1 : rowAt ((w.alloc (Obj.cells (Config.arr c) 24)).alloc (Obj.cells (Event.arr e) 55)) (w.heap.size + 1) 0 18 = some (Event.arr e) := rowAt_new _ _ _ _ _ (by simp)
    rw [← hW0, rowAt_alloc_old _ _ _ _ _ (by simp <;> omega), rowAt_alloc_old _ _ _ _ _ (by simp)]; exact h1
  have bR : Boxed W0 (w.heap.size + 1 + 1) 4 (.bool false) := by rw [← hW0]; have := (Boxed.new ((w.alloc (Obj.cells (Config.arr c) 24)).alloc (Obj.cells (Event.arr e) 55)) 4 (.bool false)).alloc (Obj.cells #[Value.slice A xs.length cap] 58); simpa using this
  have bB : Boxed W0 (w.heap.size + 1 + 1 + 1) 58 (.slice A xs.length cap) := by rw [← hW0]; have := Boxed.new (((w.alloc (Obj.cells (Config.arr c) 24)).alloc (Obj.cells (Event.arr e) 55)).alloc (Obj.cells #[Value.bool false] 4)) 58 (.slice A xs.length cap); simpa using this
  rw [hW0]
  clear hW0
  have hS0 : Sl Event.arr 18 W0.heap.size W0 (.slice A xs.length cap) xs := (h.below hB0).mono hB0.size
  refine wpIn_rangeFunc_ownH hro h1 (gf := 82) (lb := #[.pointer (some ⟨w.heap.size + 1 + 1 + 1, 0, none⟩)]) rfl h3f (enters_of Tryd.func82 (by kernel_rfl) rfl)
    (backAhead_stops F (n - 1) h3f hro (by omega) (w.heap.size + 1 + 1 + 1) W0.heap.size _ xs W0 (by omega) (Nat.le_refl _) bB.cell hS0) belowK_t (belowK_b (Nat.le_refl _)) (Below.refl _ _) (fun _ => rfl)
    (fun pre W => (∀ q ∈ pre, T.stop e q.2 = false) ∧ Below W0.heap.size W0 W)
    (fun c pre W => ((c = .ret ∧ ∃ ini last, pre = ini ++ [last] ∧ (∀ q ∈ ini, T.stop e q.2 = false) ∧ T.stop e last.2 = true ∧ W.cell? ⟨w.heap.size + 1 + 1, 0, none⟩ = some (.bool (T.hit e last.2))) ∧ Below w.heap.size w W))
    (OwnFrom.and (ownFrom_pure _ _) (ownFrom_below (Nat.le_refl _) (Nat.le_refl _)))
    (fun c => OwnFrom.and (_root_.Go.Own.from (fun s A B row hs hg hr => by obtain ⟨hc, ini, last, e1, e2, e3, e4⟩ := hs; exact ⟨hc, ini, last, e1, e2, e3, cell_kept e4 hg hr⟩) _) (ownFrom_below (Nat.le_refl _) (by omega)))
    ⟨by simp, Below.refl _ _⟩
    (fun x a' W => ∃ Bx, W0.heap.size ≤ Bx ∧ rowAt W Bx 0 18 = some (Event.arr x.2) ∧ a' = { tmps := #[Value.slice A xs.length cap, Value.agg c.arr, Value.int IntKind.i64 3, Value.agg e.arr, undef, Value.pointer (some { block := w.heap.size, off := 0 }), undef, Value.pointer (some { block := w.heap.size + 1, off := 0 }), Value.pointer (some { block := w.heap.size + 1 + 1, off := 0 }), undef, Value.pointer (some { block := Bx, off := 0 }), undef, undef, Value.int IntKind.i64 3, Value.bool false, Value.bool false, undef, undef, undef, undef, Value.bool true, Value.bool true, Value.slice A xs.length cap, Value.func (Fn.func 82) #[] #[Value.pointer (some { block := w.heap.size + 1 + 1 + 1, off := 0 })], Value.int IntKind.i64 ↑x.fst, Value.agg (Event.arr x.snd), undef, undef, undef, undef, undef, undef, undef, undef, undef, undef, undef, undef, undef, undef, undef, undef, undef, undef, undef, undef, undef, undef, undef, undef, undef, undef, undef, undef, undef, undef, undef, undef, undef, undef, undef, undef, undef, undef, undef, undef, undef, undef, undef, undef, undef, undef, undef, undef, undef, undef, undef, undef, undef], defers := [] })
    (fun x a' _ X Y row hs hg hr => by obtain ⟨Bx, h1, h2, h3⟩ := hs; exact ⟨Bx, h1, rowAt_kept h2 hg (fun r e => (hr r e).2), h3⟩)
    ?assign ?body ?done ?stop
  case assign =>
    rintro l pre x W K ⟨hp, hB⟩ hK
    gi_wp2_with (refine wpListIn_store_new rfl _ _ _ rfl W.heap.size (Event.arr x.2) _ _ rfl rfl rfl rfl rfl (Event.one x.2) ?_)
    exact hK _ _ ((KeepsOthers.alloc _ _).from _) ((Below.refl _ W).alloc hB.size _) ⟨hp, hB.alloc hB.size _⟩ ⟨W.heap.size, hB.size, rowAt_new W _ _ _ _ rfl, rfl⟩
  case body =>
    rintro l pre x a' W hl ⟨r, hr⟩ ⟨hp, hB⟩ ⟨Bx, hBx, hxr, rfl⟩ hlt
    obtain ⟨x0, _, x2, _⟩ := Event.cells hxr
    obtain ⟨xk, _⟩ := Event.parts hxr
    have rE' := (rowAt_block (hB.block _ (show w.heap.size + 1 < _ by omega))).trans rE
    obtain ⟨_, _, e2, _⟩ := Event.cells rE'
    obtain ⟨ek, _⟩ := Event.parts rE'
    simp only [Nat.zero_add] at x0 x2 xk e2 ek
    have cR := (hB.cell (p := ⟨w.heap.size + 1 + 1, 0, none⟩) (show w.heap.size + 1 + 1 < _ by omega)).trans bR.cell
    have fR := (hB.frozen (p := ⟨w.heap.size + 1 + 1, 0, none⟩) (show w.heap.size + 1 + 1 < _ by omega)).trans bR.frozen
    rcases and2 (x.2.kind == 9) (x.2.node == e.node) with ⟨h9, g1⟩ | ⟨h9, g1, g2⟩ | ⟨h9, g1, g2⟩
    · rcases and3 (x.2.kind == 3) (x.2.node == e.node) (decide (x.2.key = e.key)) with ⟨h3, g3⟩ | ⟨h3, g3, g4⟩ | ⟨h3, g3, g4, g5⟩ | ⟨h3, g3, g4, g5⟩
      · have HS := Lib.hid (show T.stop e x.2 = false by unfold T.stop; rw [h9, h3]; rfl)
        clear h9 h3
        gi_wp2
        exact ⟨⟨Nat.le_refl _, fun _ _ _ h _ => h⟩, Below.refl _ W, fun q hq => (List.mem_append.1 hq).elim (hp q) (fun e => by simp at e; subst e; exact HS.out), hB⟩
      · have HS := Lib.hid (show T.stop e x.2 = false by unfold T.stop; rw [h9, h3]; rfl)
        clear h9 h3
        gi_wp2
        exact ⟨⟨Nat.le_refl _, fun _ _ _ h _ => h⟩, Below.refl _ W, fun q hq => (List.mem_append.1 hq).elim (hp q) (fun e => by simp at e; subst e; exact HS.out), hB⟩
      · have HS := Lib.hid (show T.stop e x.2 = false by unfold T.stop; rw [h9, h3]; rfl)
        clear h9 h3
        gi_wp2_with (first | (refine wpListIn_load_at_w 53 _ rfl rfl _ 4 4 rfl _ _ xk rfl rfl rfl ?_) | (refine wpListIn_load_at_w 53 _ rfl rfl _ 4 4 rfl _ _ ek rfl rfl rfl ?_))
        exact ⟨⟨Nat.le_refl _, fun _ _ _ h _ => h⟩, Below.refl _ W, fun q hq => (List.mem_append.1 hq).elim (hp q) (fun e => by simp at e; subst e; exact HS.out), hB⟩
      · have HS := Lib.hid (show T.stop e x.2 = true by unfold T.stop; rw [h9, h3]; rfl)
        have HH := Lib.hid (show T.hit e x.2 = true by unfold T.hit; rw [h9]; rfl)
        clear h9 h3
        gi_wp2_with (first | (refine wpListIn_load_at_w 53 _ rfl rfl _ 4 4 rfl _ _ xk rfl rfl rfl ?_) | (refine wpListIn_load_at_w 53 _ rfl rfl _ 4 4 rfl _ _ ek rfl rfl rfl ?_))
        exact ⟨((KeepsOthers.setCell W ⟨w.heap.size + 1 + 1, 0, none⟩ _).from W0.heap.size).trans ⟨Nat.le_refl _, fun _ _ _ h _ => h⟩, ⟨rfl, pre, x, rfl, hp, HS.out, by rw [HH.out]; exact World.cell?_setCell_same' _ _ _ (by rw [cR]; rfl)⟩, (hB0.trans (hB.mono hB0.size)).setCell (p := ⟨w.heap.size + 1 + 1, 0, none⟩) (show w.heap.size ≤ w.heap.size + 1 + 1 by omega) _⟩
    · rcases g3 : (x.2.kind == 3) with _ | _
      · have HS := Lib.hid (show T.stop e x.2 = false by unfold T.stop; rw [h9, g3]; rfl)
        clear h9
        gi_wp2
        exact ⟨⟨Nat.le_refl _, fun _ _ _ h _ => h⟩, Below.refl _ W, fun q hq => (List.mem_append.1 hq).elim (hp q) (fun e => by simp at e; subst e; exact HS.out), hB⟩
      · have HS := Lib.hid (show T.stop e x.2 = false by unfold T.stop; rw [h9, g3, g2]; rfl)
        clear h9
        gi_wp2
        exact ⟨⟨Nat.le_refl _, fun _ _ _ h _ => h⟩, Below.refl _ W, fun q hq => (List.mem_append.1 hq).elim (hp q) (fun e => by simp at e; subst e; exact HS.out), hB⟩
    · have HS := Lib.hid (show T.stop e x.2 = true by unfold T.stop; rw [h9]; rfl)
      have HH := Lib.hid (show T.hit e x.2 = false by unfold T.hit; rw [h9]; rfl)
      clear h9
      gi_wp2
      exact ⟨((KeepsOthers.setCell W ⟨w.heap.size + 1 + 1, 0, none⟩ _).from W0.heap.size).trans ⟨Nat.le_refl _, fun _ _ _ h _ => h⟩, ⟨rfl, pre, x, rfl, hp, HS.out, by rw [HH.out]; exact World.cell?_setCell_same' _ _ _ (by rw [cR]; rfl)⟩, (hB0.trans (hB.mono hB0.size)).setCell (p := ⟨w.heap.size + 1 + 1, 0, none⟩) (show w.heap.size ≤ w.heap.size + 1 + 1 by omega) _⟩
  case done =>
    rintro D ys W hD rfl ⟨hp, hB⟩ hK
    have cR := (hB.cell (p := ⟨w.heap.size + 1 + 1, 0, none⟩) (show w.heap.size + 1 + 1 < _ by omega)).trans bR.cell
    have fR := (hB.frozen (p := ⟨w.heap.size + 1 + 1, 0, none⟩) (show w.heap.size + 1 + 1 < _ by omega)).trans bR.frozen
    have HN := Lib.hid (show T.twice e xs = false by unfold T.twice; rw [T.rp_find_none _ _ hp])
    gi_wp2
    refine ⟨by simp, .inl ⟨_, _, rfl, run_takeDeferred ((KeepsOthers.setCell W ⟨w.heap.size + 1 + 1, 0, none⟩ (.bool false)).same D _ hK rfl), ?_⟩⟩
    have hc5 := cell_kept (World.cell?_setCell_same' W ⟨w.heap.size + 1 + 1, 0, none⟩ (.bool false) (by rw [cR]; rfl)) (grownBy_putObj' _ D (.deferred none)) (fun r e => by cases e; exact ⟨_, (KeepsOthers.setCell W ⟨w.heap.size + 1 + 1, 0, none⟩ (.bool false)).same D _ hK rfl, rfl⟩)
    refine ⟨.bool false, ?_, ?_, ((hB0.trans (hB.mono hB0.size)).setCell (p := ⟨w.heap.size + 1 + 1, 0, none⟩) (show w.heap.size ≤ w.heap.size + 1 + 1 by omega) _).trans (belowK_b (w := w) (Nat.le_refl _) _ D _ _ (by omega) ((KeepsOthers.setCell W ⟨w.heap.size + 1 + 1, 0, none⟩ (.bool false)).same D _ hK rfl) rfl rfl)⟩
    · simp [results, Tryd.f37, go_sem, hc5]
    · rw [HN.out]
  case stop =>
    rintro D c pre W hD ⟨k, hk, rfl⟩ ⟨⟨rfl, ini, last, e1, e2, e3, hcr⟩, hB⟩ hK
    have HN := Lib.hid (show T.twice e xs = T.hit e last.2 by unfold T.twice; rw [T.rp_find_some _ _ k ini last e1 e2 e3])
    gi_wp2
    refine ⟨by simp, .inl ⟨_, _, rfl, run_takeDeferred hK, ?_⟩⟩
    have hc5 := cell_kept hcr (grownBy_putObj' _ D (.deferred none)) (fun r e => by cases e; exact ⟨_, hK, rfl⟩)
    refine ⟨.bool (T.hit e last.2), ?_, ?_, hB.trans (belowK_b (w := w) (Nat.le_refl _) W D _ _ (by omega) hK rfl rfl)⟩
    · simp [results, Tryd.f37, go_sem, hc5]
    · rw [HN.out]
end Go.Proofs.YtofifeicbhbgpaaDoor
