/- Who is above whom: the program's, the document's. -/
import Derived.Test.YtcncmbcnekekdaaDoorBack
import Derived.LoopN
namespace Go.Proofs.YtcncmbcnekekdaaDoor
open Go.RowKit Go.Shelf
set_option linter.unusedVariables false
set_option linter.unusedSimpArgs false

/-- The last one ahead of place i whose key is p. -/
def T.lastKey (xs : List Item) (p : Key) : Nat → Option Nat
  | 0 => none
  | k + 1 => if (xs[k]?.map (·.key)) = some p then some k else T.lastKey xs p k
/-- The place of who began place i. -/
def T.up (xs : List Item) (i : Nat) : Option Nat := match xs[i]? with
  | some x => T.lastKey xs x.parent i
  | none => none
def T.upI (xs : List Item) (i : Nat) : Int := match T.up xs i with | some k => (k : Int) | none => -1
def T.above (xs : List Item) (i : Int) : Int := if 0 ≤ i ∧ i < xs.length then T.upI xs i.toNat else -1
theorem T.rp_succ (xs : List Item) (i : Nat) (hi : i < xs.length) : T.rp (xs.take (i + 1)) = (i, xs[i]) :: T.rp (xs.take i) := by
  simp only [T.rp]
  rw [show xs.take (i + 1) = xs.take i ++ [xs[i]] by simp]
  rw [List.zipIdx_append, List.map_append, List.reverse_append]
  simp [Nat.min_eq_left (Nat.le_of_lt hi)]
theorem T.lastKey_none (xs : List Item) (p : Key) (i : Nat) (hi : i ≤ xs.length) (h : ∀ q ∈ T.rp (xs.take i), q.2.key ≠ p) : T.lastKey xs p i = none := by
  induction i with
  | zero => rfl
  | succ i ih =>
    rw [T.rp_succ xs i (by omega)] at h
    have h0 := h _ List.mem_cons_self
    rw [T.lastKey, if_neg (by rw [List.getElem?_eq_getElem (by omega)]; simpa using h0)]
    exact ih (by omega) fun q hq => h q (List.mem_cons_of_mem _ hq)
theorem T.lastKey_some (xs : List Item) (p : Key) (i : Nat) (hi : i ≤ xs.length) (k : Nat) (ini : List (Nat × Item)) (last : Nat × Item) (he : (T.rp (xs.take i)).take k = ini ++ [last]) (h : ∀ q ∈ ini, q.2.key ≠ p) (hl : last.2.key = p) : T.lastKey xs p i = some last.1 := by
  induction i generalizing k ini with
  | zero => simp [T.rp] at he
  | succ i ih =>
    rw [T.rp_succ xs i (by omega)] at he
    cases k with
    | zero => simp at he
    | succ k =>
      rw [List.take_succ_cons] at he
      cases ini with
      | nil =>
        simp at he
        rw [← he.1] at hl ⊢
        rw [T.lastKey, if_pos (by rw [List.getElem?_eq_getElem (by omega)]; simpa using hl)]
      | cons y ini =>
        simp at he
        have h0 := h y List.mem_cons_self
        rw [← he.1] at h0
        rw [T.lastKey, if_neg (by rw [List.getElem?_eq_getElem (by omega)]; simpa using h0)]
        exact ih (by omega) k ini he.2 fun q hq => h q (List.mem_cons_of_mem _ hq)

theorem rowAt_kept {A B : World} {row : Option Nat} {g o n : Nat} {cs : Array Value} (h : rowAt A g o n = some cs) (hg : A.grownBy B row) (hr : ∀ r, row = some r → ∃ o : Obj, A.heap[r]? = some o ∧ o.isCells = false) : rowAt B g o n = some cs := by
  have hlt := rowAt_lt h
  refine (rowAt_block (hg.block g hlt fun e => ?_)).trans h
  obtain ⟨x, hx, hc⟩ := hr g e.symm
  unfold rowAt at h
  rw [hx] at h
  cases x <;> simp_all [Obj.isCells]

attribute [local go_sem] Oper.semAt_some Item.sz Key.sz
attribute [local go_sem high] eqTKey
set_option maxRecDepth 100000 in
set_option maxHeartbeats 4000000 in
theorem above_in (F : Fence) (n : Nat) (h1f : F.fn 15) (h2f : F.fn 60) (h3f : F.fn 91) (hro : F.round = none) (hn : 3 ≤ n) (v : Value) (xs : List Item) (i : Nat) (hi : i < xs.length) (w : World) (h : Sl Item.arr 17 w.heap.size w v xs) :
    CallsIn F n Tryd.prog 15 #[v, .int .i64 (i : Int)] w fun e w' => e = .returned (.int .i64 (T.upI xs i)) ∧ Below w.heap.size w w' := by
  have h1 : 1 ≤ n := by omega
  obtain ⟨A, cap, rfl, hcap, hl1, hl2⟩ := h.view
  refine callsIn_of_wp_marks Tryd.func15 rfl h1f ?_ hro
  simp only [Tryd.ntmps15, List.size_toArray, List.length_cons, List.length_nil, Nat.reduceAdd, Nat.reduceSub, Array.replicate_succ, Array.replicate_zero, List.push_toArray, List.append_toArray, List.nil_append, List.cons_append]
  gi_wp2_with (gi_at_call 60; refine (backItem_in F (n - 1) h2f hro _ _ _ _).mono ?_; rintro e w' ⟨rfl, rfl⟩)
  obtain ⟨W0, hW0⟩ : ∃ W0, (((w.alloc (Obj.cells #[Value.slice A xs.length cap] 24)).alloc (Obj.cells #[Value.int IntKind.i64 ↑i] 3)).alloc (Obj.cells #[Value.int IntKind.i64 0] 3)).alloc (Obj.cells #[Value.slice A i cap] 24) = W0 := ⟨_, rfl⟩
  have bS : Boxed W0 w.heap.size 24 (.slice A xs.length cap) := by rw [← hW0]; exact (((Boxed.new w _ _).alloc _).alloc _).alloc _
  have bI : Boxed W0 (w.heap.size + 1) 3 (.int .i64 i) := by rw [← hW0]; have := ((Boxed.new (w.alloc (Obj.cells #[Value.slice A xs.length cap] 24)) 3 (.int .i64 i)).alloc (Obj.cells #[Value.int IntKind.i64 0] 3)).alloc (Obj.cells #[Value.slice A i cap] 24); simpa using this
  have bR : Boxed W0 (w.heap.size + 1 + 1) 3 (.int .i64 0) := by rw [← hW0]; have := (Boxed.new ((w.alloc (Obj.cells #[Value.slice A xs.length cap] 24)).alloc (Obj.cells #[Value.int IntKind.i64 ↑i] 3)) 3 (.int .i64 0)).alloc (Obj.cells #[Value.slice A i cap] 24); simpa using this
  have bB : Boxed W0 (w.heap.size + 1 + 1 + 1) 24 (.slice A i cap) := by rw [← hW0]; have := Boxed.new (((w.alloc (Obj.cells #[Value.slice A xs.length cap] 24)).alloc (Obj.cells #[Value.int IntKind.i64 ↑i] 3)).alloc (Obj.cells #[Value.int IntKind.i64 0] 3)) 24 (.slice A i cap); simpa using this
  have hsz : W0.heap.size = w.heap.size + 4 := by rw [← hW0]; simp
  have hB0 : Below w.heap.size w W0 := by rw [← hW0]; exact ((((Below.refl _ w).alloc (Nat.le_refl _) _).alloc (by simp) _).alloc (by simp <;> omega) _).alloc (by simp <;> omega) _
  rw [hW0]
  clear hW0
  have hS0 : Sl Item.arr 17 W0.heap.size W0 (.slice A xs.length cap) xs := (h.below hB0).mono hB0.size
  obtain ⟨y, hy⟩ : ∃ y, y = xs[i] := ⟨_, rfl⟩
  have hup : T.up xs i = T.lastKey xs y.parent i := by unfold T.up; rw [List.getElem?_eq_getElem hi, hy]
  obtain ⟨b, off, rfl, hb, hrow, _⟩ := hS0.at hi
  rw [← hy] at hrow
  have HU := Lib.hid hup
  clear hup hy
  refine wpIn_rangeFunc_ownH hro h1 (gf := 91) (lb := #[.pointer (some ⟨w.heap.size + 1 + 1 + 1, 0, none⟩)]) rfl h3f (enters_of Tryd.func91 (by kernel_rfl) rfl)
    (backItem_stops F (n - 1) h3f hro (by omega) (w.heap.size + 1 + 1 + 1) W0.heap.size _ (xs.take i) W0 (by omega) (Nat.le_refl _) bB.cell (hS0.take i (by omega))) belowK_t (belowK_b (Nat.le_refl _)) (Below.refl _ _) (fun _ => rfl)
    (fun pre W => (∀ q ∈ pre, q.2.key ≠ y.parent) ∧ Below W0.heap.size W0 W)
    (fun c pre W => ((c = .ret ∧ ∃ ini last, pre = ini ++ [last] ∧ (∀ q ∈ ini, q.2.key ≠ y.parent) ∧ last.2.key = y.parent ∧ W.cell? ⟨w.heap.size + 1 + 1, 0, none⟩ = some (.int .i64 (last.1 : Int))) ∧ Below w.heap.size w W))
    (OwnFrom.and (ownFrom_pure _ _) (ownFrom_below (Nat.le_refl _) (Nat.le_refl _)))
    (fun c => OwnFrom.and (_root_.Go.Own.from (fun s A B row hs hg hr => by obtain ⟨hc, ini, last, e1, e2, e3, e4⟩ := hs; exact ⟨hc, ini, last, e1, e2, e3, cell_kept e4 hg hr⟩) _) (ownFrom_below (Nat.le_refl _) (by omega)))
    ⟨by simp, Below.refl _ _⟩
    (fun x a' W => ∃ Bx, W0.heap.size ≤ Bx ∧ rowAt W Bx 0 17 = some (Item.arr x.2) ∧ a' = { tmps := #[Value.slice (some { block := b, off := off }) xs.length cap, Value.int IntKind.i64 ↑i, Value.pointer (some { block := w.heap.size, off := 0 }), Value.pointer (some { block := w.heap.size + 1, off := 0 }), Value.pointer (some { block := w.heap.size + 1 + 1, off := 0 }), Value.int IntKind.i64 ↑x.fst, Value.pointer (some { block := Bx, off := 0 }), Value.int IntKind.i64 ↑i, Value.bool (decide ((i : Int) < 0)), Value.bool (decide ((i : Int) < 0)), Value.int IntKind.i64 ↑i, Value.slice (some { block := b, off := off }) xs.length cap, Value.int IntKind.i64 ↑xs.length, Value.bool false, Value.bool (decide ((i : Int) < 0)), Value.slice (some { block := b, off := off }) xs.length cap, Value.int IntKind.i64 ↑i, Value.slice (some { block := b, off := off }) i cap, Value.func (Fn.func 91) #[] #[Value.pointer (some { block := w.heap.size + 1 + 1 + 1, off := 0 })], Value.int IntKind.i64 ↑x.fst, Value.agg (Item.arr x.snd), undef, undef, undef, undef, undef, undef, undef, undef, undef], defers := [] })
    (fun x a' _ X Y row hs hg hr => by obtain ⟨Bx, h1, h2, h3⟩ := hs; exact ⟨Bx, h1, rowAt_kept h2 hg (fun r e => (hr r e).2), h3⟩)
    ?assign ?body ?done ?stop
  case assign =>
    rintro l pre x W K ⟨hp, hB⟩ hK
    gi_wp2_with (refine wpListIn_store_new rfl _ _ _ rfl W.heap.size (Item.arr x.2) _ _ rfl rfl rfl rfl rfl (Item.one x.2) ?_)
    exact hK _ _ ((KeepsOthers.alloc _ _).from _) ((Below.refl _ W).alloc hB.size _) ⟨hp, hB.alloc hB.size _⟩ ⟨W.heap.size, hB.size, rowAt_new W _ _ _ _ rfl, rfl⟩
  case body =>
    rintro l pre x a' W hl ⟨r, hr⟩ ⟨hp, hB⟩ ⟨Bx, hBx, hxr, rfl⟩ hlt
    have q1 : rowAt W Bx 0 4 = some (Key.arr x.2.key) := (rowAt_part hxr 0 4 (by omega)).trans (congrArg some (Item.part_key _))
    have q2 : rowAt W b (off + i * 17 + 4) 4 = some (Key.arr y.parent) := (rowAt_part ((rowAt_block (hB.block b hb)).trans hrow) 4 4 (by omega)).trans (congrArg some (Item.part_parent _))
    have cS := (hB.cell (p := ⟨w.heap.size, 0, none⟩) (show w.heap.size < _ by omega)).trans bS.cell
    have cI := (hB.cell (p := ⟨w.heap.size + 1, 0, none⟩) (show w.heap.size + 1 < _ by omega)).trans bI.cell
    have cR := (hB.cell (p := ⟨w.heap.size + 1 + 1, 0, none⟩) (show w.heap.size + 1 + 1 < _ by omega)).trans bR.cell
    have fR := (hB.frozen (p := ⟨w.heap.size + 1 + 1, 0, none⟩) (show w.heap.size + 1 + 1 < _ by omega)).trans bR.frozen
    gi_wp2
    refine wpIn_region_read (by kernel_rfl) (by kernel_rfl) (by kernel_rfl) ?_
    repeat (first | (refine wpQuietIn_load_at rfl 46 _ rfl Bx 0 4 rfl _ _ q1 rfl rfl rfl ?_; simp only [Act.put, List.setIfInBounds_toArray, List.set_cons_succ, List.set_cons_zero]) | (refine wpQuietIn_load_at rfl 46 _ rfl b (off + i * 17 + 4) 4 rfl _ _ q2 rfl rfl rfl ?_; simp only [Act.put, List.setIfInBounds_toArray, List.set_cons_succ, List.set_cons_zero]) | gi_big_quiet_step (fail))
    refine wpQuietIn_nil ?_
    rintro _ ⟨dk, rfl⟩
    gi_wp2
    · have hx : x.2.key = y.parent := by assumption
      exact ⟨((KeepsOthers.setCell W ⟨w.heap.size + 1 + 1, 0, none⟩ (.int .i64 x.1)).from W0.heap.size).trans ⟨Nat.le_refl _, fun _ _ _ h _ => h⟩, ⟨rfl, pre, x, rfl, hp, hx, World.cell?_setCell_same' _ _ _ (by rw [show (W.drewN dk).cell? ⟨w.heap.size + 1 + 1, 0, none⟩ = W.cell? ⟨w.heap.size + 1 + 1, 0, none⟩ from rfl, cR]; rfl)⟩, (below_drewN (hB0.trans (hB.mono hB0.size)) dk).setCell (p := ⟨w.heap.size + 1 + 1, 0, none⟩) (show w.heap.size ≤ w.heap.size + 1 + 1 by omega) _⟩
    · have hx : ¬ x.2.key = y.parent := by assumption
      exact ⟨⟨Nat.le_refl _, fun _ _ _ h _ => h⟩, below_drewN (Below.refl _ W) dk, fun q hq => (List.mem_append.1 hq).elim (hp q) (fun e => by simp at e; subst e; exact hx), below_drewN hB dk⟩
  case done =>
    rintro D ys W hD rfl ⟨hp, hB⟩ hK
    have cR := (hB.cell (p := ⟨w.heap.size + 1 + 1, 0, none⟩) (show w.heap.size + 1 + 1 < _ by omega)).trans bR.cell
    have fR := (hB.frozen (p := ⟨w.heap.size + 1 + 1, 0, none⟩) (show w.heap.size + 1 + 1 < _ by omega)).trans bR.frozen
    gi_wp2
    have hK' := (KeepsOthers.setCell W ⟨w.heap.size + 1 + 1, 0, none⟩ (.int .i64 (-1))).same D _ hK rfl
    refine ⟨by simp, .inl ⟨_, _, rfl, run_takeDeferred hK', ?_⟩⟩
    have hc5 := cell_kept (World.cell?_setCell_same' W ⟨w.heap.size + 1 + 1, 0, none⟩ (.int .i64 (-1)) (by rw [cR]; rfl)) (grownBy_putObj' _ D (.deferred none)) (fun r e => by cases e; exact ⟨_, hK', rfl⟩)
    have hnone := T.lastKey_none xs y.parent i (by omega) hp
    refine ⟨.int .i64 (-1), ?_, ?_, ((hB0.trans (hB.mono hB0.size)).setCell (p := ⟨w.heap.size + 1 + 1, 0, none⟩) (show w.heap.size ≤ w.heap.size + 1 + 1 by omega) _).trans (belowK_b (w := w) (Nat.le_refl _) _ D _ _ (by omega) hK' rfl rfl)⟩
    · simp [results, Tryd.f15, go_sem, hc5]
    · rw [T.upI, HU.out, hnone]
  case stop =>
    rintro D c pre W hD ⟨k, hk, rfl⟩ ⟨⟨rfl, ini, last, e1, e2, e3, hcr⟩, hB⟩ hK
    gi_wp2
    refine ⟨by simp, .inl ⟨_, _, rfl, run_takeDeferred hK, ?_⟩⟩
    have hc5 := cell_kept hcr (grownBy_putObj' _ D (.deferred none)) (fun r e => by cases e; exact ⟨_, hK, rfl⟩)
    have hsome := T.lastKey_some xs y.parent i (by omega) k ini last e1 e2 e3
    refine ⟨.int .i64 (last.1 : Int), ?_, ?_, hB.trans (belowK_b (w := w) (Nat.le_refl _) W D _ _ (by omega) hK rfl rfl)⟩
    · simp [results, Tryd.f15, go_sem, hc5]
    · rw [T.upI, HU.out, hsome]

set_option maxRecDepth 100000 in
set_option maxHeartbeats 1000000 in
theorem above_out (v : Value) (xs : List Item) (i : Int) (hi : i < 0 ∨ (xs.length : Int) ≤ i) (w : World) (h : Sl Item.arr 17 w.heap.size w v xs) :
    CallsIn Fence.wide 3 Tryd.prog 15 #[v, .int .i64 i] w fun e w' => e = .returned (.int .i64 (-1)) ∧ Below w.heap.size w w' := by
  obtain ⟨A, cap, rfl, hcap, hl1, hl2⟩ := h.view
  have hB := (((Below.refl w.heap.size w).alloc (Nat.le_refl _) (Obj.cells #[Value.slice A xs.length cap] 24)).alloc (by simp) (Obj.cells #[Value.int .i64 i] 3)).alloc (by simp <;> omega) (Obj.cells #[Value.int .i64 (-1)] 3)
  have HB := Lib.hid hB
  clear hB
  rcases hi with hi | hi
  all_goals
    refine callsIn_of_wp_marks Tryd.func15 rfl trivial ?_ rfl
    simp only [Tryd.ntmps15, List.size_toArray, List.length_cons, List.length_nil, Nat.reduceAdd, Nat.reduceSub, Array.replicate_succ, Array.replicate_zero, List.push_toArray, List.append_toArray, List.nil_append, List.cons_append]
    gi_wp2
    refine ⟨.int .i64 (-1), ?_, rfl, HB.out⟩
    simp [results, Tryd.f15, go_sem]
theorem above_c (v : Value) (xs : List Item) (i : Int) (w : World) (h : Sl Item.arr 17 w.heap.size w v xs) :
    Calls Tryd.prog 15 #[v, .int .i64 i] w fun e w' => e = .returned (.int .i64 (T.above xs i)) ∧ Below w.heap.size w w' := by
  refine (callsIn_wide (n := 3)).1 ?_
  by_cases hi : 0 ≤ i ∧ i < xs.length
  · obtain ⟨k, rfl⟩ : ∃ k : Nat, i = k := ⟨i.toNat, by omega⟩
    have := above_in Fence.wide 3 trivial trivial trivial rfl (by omega) v xs k (by omega) w h
    rw [show T.above xs (k : Int) = T.upI xs k by rw [T.above, if_pos hi]; simp]
    exact this
  · rw [show T.above xs i = -1 by rw [T.above, if_neg hi]]
    exact above_out v xs i (by omega) w h

/-! The document's. -/
def T.lastI (xs : List Item) (p : Key) (k : Nat) : Int := match T.lastKey xs p k with | some j => (j : Int) | none => -1
theorem T.lastI_hit (xs : List Item) (p : Key) (k : Nat) (x : Item) (hx : xs[k]? = some x) (h : x.key = p) : T.lastI xs p (k + 1) = k := by
  simp [T.lastI, T.lastKey, hx, h]
theorem T.lastI_miss (xs : List Item) (p : Key) (k : Nat) (x : Item) (hx : xs[k]? = some x) (h : ¬ x.key = p) : T.lastI xs p (k + 1) = T.lastI xs p k := by
  simp [T.lastI, T.lastKey, hx, h]
theorem T.upI_last (xs : List Item) (i : Nat) (y : Item) (hy : xs[i]? = some y) : T.upI xs i = T.lastI xs y.parent i := by
  simp [T.upI, T.up, hy, T.lastI]

set_option maxRecDepth 100000 in
set_option maxHeartbeats 1000000 in
theorem rabove_c (v : Value) (xs : List Item) (i : Int) (w : World) (h : Sl Item.arr 17 w.heap.size w v xs) :
    Calls Tryd.prog 16 #[v, .int .i64 i] w fun e w' => e = .returned (.int .i64 (T.above xs i)) ∧ Below w.heap.size w w' := by
  obtain ⟨A, cap, rfl, hcap, hl1, hl2⟩ := h.view
  by_cases hi : 0 ≤ i ∧ i < xs.length
  · obtain ⟨n, rfl⟩ : ∃ k : Nat, i = k := ⟨i.toNat, by omega⟩
    have hin : n < xs.length := by omega
    obtain ⟨y, hy⟩ : ∃ y, y = xs[n] := ⟨_, rfl⟩
    have hres : T.above xs (n : Int) = T.lastI xs y.parent n := by rw [T.above, if_pos hi, ← T.upI_last xs n y (by rw [hy]; exact List.getElem?_eq_getElem hin)]; simp
    rw [hres]
    clear hres
    obtain ⟨b, off, rfl, hb, hrow, hall⟩ := h.at hin
    rw [← hy] at hrow
    clear hi hy
    go_enter Tryd.func16, Tryd.ntmps16
    go_wp2
    go_loopw [5, 6] (fun a k wr => ∃ j : Nat, j ≤ n ∧ k = .int .i64 j ∧ a = .int .i64 (T.lastI xs y.parent j) ∧ Below w.heap.size w wr) (fun _ k _ => n - (intOf k).toNat)
    case atStart => exact ⟨0, Nat.zero_le _, rfl, rfl, Below.refl _ _⟩
    case round =>
      obtain ⟨j, hj, rfl, rfl, hB⟩ := hrel
      by_cases hjn : j < n
      · have hjl : j < xs.length := by omega
        obtain ⟨x, hx⟩ : ∃ x, x = xs[j] := ⟨_, rfl⟩
        have hxo : xs[j]? = some x := by rw [hx]; exact List.getElem?_eq_getElem hjl
        have hr1 := (rowAt_part ((rowAt_block (hB.block b hb)).trans (hall j x hxo)) 0 4 (by omega)).trans (congrArg some (Item.part_key _))
        have hr2 := (rowAt_part ((rowAt_block (hB.block b hb)).trans hrow) 4 4 (by omega)).trans (congrArg some (Item.part_parent _))
        have HX := Lib.hid hxo
        clear hx hxo
        go_wp2
        refine wp_region_calm (by kernel_rfl) (by kernel_rfl) ?_
        repeat ((fail_if_success (with_reducible refine wpQuiet_nil ?_)); (first | go_big_quiet_skip | (refine wpQuiet_load_at (by rfl) 46 _ rfl _ (off+j*17) 4 rfl _ _ hr1 rfl rfl rfl ?_; simp only [Act.put, List.setIfInBounds_toArray, List.set_cons_succ, List.set_cons_zero]) | (refine wpQuiet_load_at (by rfl) 46 _ rfl _ (off+n*17+4) 4 rfl _ _ hr2 rfl rfl rfl ?_; simp only [Act.put, List.setIfInBounds_toArray, List.set_cons_succ, List.set_cons_zero]) | go_big_quiet_step (fail)))
        refine wpQuiet_nil ?_
        rintro _ ⟨⟨w1, hb1⟩, rfl⟩
        go_wp2
        · have hk : x.key = y.parent := by assumption
          go_roundw
          case rel => exact ⟨j + 1, by omega, by go_num, by rw [T.lastI_hit xs _ j x HX.out hk], bthen hB hb1⟩
          case measure => simp [intOf]; omega
        · have hk : ¬ x.key = y.parent := by assumption
          go_roundw
          case rel => exact ⟨j + 1, by omega, by go_num, by rw [T.lastI_miss xs _ j x HX.out hk], bthen hB hb1⟩
          case measure => simp [intOf]; omega
      · obtain rfl : j = n := by omega
        go_wp2
        go_ret
        exact ⟨rfl, hB⟩
  · have hres : T.above xs i = -1 := by rw [T.above, if_neg hi]
    rw [hres]
    have hi : i < 0 ∨ (xs.length : Int) ≤ i := by omega
    rcases hi with hi | hi
    all_goals
      go_enter Tryd.func16, Tryd.ntmps16
      go_wp2
      refine wp_loop_rounds 1 ?_
      rw [rounds_succ]
      go_wp2
      all_goals (try omega)
      all_goals go_ret
      all_goals exact ⟨rfl, Below.refl _ _⟩
end Go.Proofs.YtcncmbcnekekdaaDoor
