/- Layer 36, the walker: what it has, what it keeps; begin, last, own. -/
import Derived.Test.YtcmngomncdeffaaPathC
namespace Go.Proofs.Ytcmngomncdeffaa
open Go.RowKit
set_option linter.unusedVariables false
set_option linter.unusedSimpArgs false
attribute [local go_sem] Item.sz Item.at13 Item.at14 Item.at15 Seg.sz Seg.at0 Seg.at1 Seg.at2

/-! Blocks below F, but for g, lie as they lay. -/
structure Kept (F g : Nat) (w w' : World) : Prop where
  os : w'.os = w.os
  tape : w'.tape = w.tape
  output : w'.output = w.output
  size : w.heap.size ≤ w'.heap.size
  block : ∀ k, k < F → k ≠ g → w'.heap[k]? = w.heap[k]?
theorem Kept.refl (F g : Nat) (w : World) : Kept F g w w := ⟨rfl, rfl, rfl, Nat.le_refl _, fun _ _ _ => rfl⟩
theorem Kept.trans {F g : Nat} {a b c : World} (h : Kept F g a b) (k : Kept F g b c) : Kept F g a c :=
  ⟨k.os.trans h.os, k.tape.trans h.tape, k.output.trans h.output, Nat.le_trans h.size k.size, fun i hi hg => (k.block i hi hg).trans (h.block i hi hg)⟩
theorem Kept.of_below {F g B : Nat} {w w' : World} (h : Below B w w') (hF : F ≤ B) : Kept F g w w' := ⟨h.os, h.tape, h.output, h.size, fun k hk _ => h.block k (by omega)⟩
theorem Kept.below {F g B : Nat} {w w' : World} (h : Kept F g w w') (hB : B ≤ g) (hF : g ≤ F) : Below B w w' := ⟨h.os, h.tape, h.output, h.size, fun k hk => h.block k (by omega) (by omega)⟩
theorem Kept.setCell {F g : Nat} {a w : World} (h : Kept F g a w) (o : Nat) (u : Value) : Kept F g a (w.setCell ⟨g, o, none⟩ u) :=
  ⟨h.os, h.tape, h.output, by simpa using h.size, fun k hk hg => (Below.heap_setCell w ⟨g, o, none⟩ u k hg).trans (h.block k hk hg)⟩

/-- As Sl, in a block from lo on. -/
def SlR {α : Type} (arr : α → Array Value) (sz : Nat) (lo B : Nat) (w : World) (v : Value) (xs : List α) : Prop :=
  ∃ A cap, v = .slice A xs.length cap ∧ xs.length ≤ cap ∧ cap ≤ maxLen ∧ (xs ≠ [] → ∃ b off, A = some ⟨b, off, none⟩ ∧ lo ≤ b ∧ b < B ∧ ∀ i x, xs[i]? = some x → rowAt w b (off + i * sz) sz = some (arr x))
section
variable {α : Type} {arr : α → Array Value} {sz lo B F g base : Nat} {e : TypeId} {w w1 : World} {v : Value} {xs : List α}
theorem SlR.sl (h : SlR arr sz lo B w v xs) : Sl arr sz B w v xs := by
  obtain ⟨A, cap, hv, h1, h2, h3⟩ := h
  exact ⟨A, cap, hv, h1, h2, fun hn => by obtain ⟨b, off, hA, _, hb, hr⟩ := h3 hn; exact ⟨b, off, hA, hb, hr⟩⟩
theorem SlR.kept (h : SlR arr sz lo B w v xs) (k : Kept F g w w1) (hlo : g < lo) (hF : B ≤ F) : SlR arr sz lo B w1 v xs := by
  obtain ⟨A, cap, hv, h1, h2, h3⟩ := h
  refine ⟨A, cap, hv, h1, h2, fun hn => ?_⟩
  obtain ⟨b, off, hA, hl, hb, hr⟩ := h3 hn
  exact ⟨b, off, hA, hl, hb, fun i x hi => (rowAt_block (k.block b (by omega) (by omega))).trans (hr i x hi)⟩
theorem Own.slr (hs : ∀ x, (arr x).size = sz) (h : Own arr sz base e w v xs) : SlR arr sz base w.heap.size w v xs := by
  obtain ⟨A, cap, hv, h1, h2, h3⟩ := h.sl hs
  refine ⟨A, cap, hv, h1, h2, fun hn => ?_⟩
  obtain ⟨b, off, hA, hb, hr⟩ := h3 hn
  refine ⟨b, off, hA, ?_, hb, hr⟩
  have := (h.lt b (by rw [hv, hA]; rfl)).1
  exact this
end
def valArr (v : Value) : Array Value := #[v]
/-- Who was begun by place i. -/
def T.kidN (xs : List Item) (i : Nat) : List Nat := (List.range xs.length).filter fun k => decide (T.upI xs k = (i : Int))
def T.kids (xs : List Item) (i : Nat) : List Int := (T.kidN xs i).map Int.ofNat
/-- What a walker reads: the items, the lists of those below. -/
def WInv (F g : Nat) (lv bv : Value) (xs : List Item) (w : World) : Prop :=
  g < F ∧ F ≤ w.heap.size ∧ Sl Item.arr 17 g w lv xs ∧ ∃ vs : List Value, vs.length = xs.length ∧ Sl valArr 1 g w bv vs ∧ ∀ i v, vs[i]? = some v → SlR intArr 1 (g + 1) F w v (T.kids xs i)
theorem WInv.kept {F g : Nat} {lv bv : Value} {xs : List Item} {w w1 : World} (h : WInv F g lv bv xs w) (k : Kept F g w w1) : WInv F g lv bv xs w1 := by
  obtain ⟨h1, h2, h3, vs, h4, h5, h6⟩ := h
  have hb := k.below (Nat.le_refl g) (by omega)
  exact ⟨h1, Nat.le_trans h2 k.size, h3.below hb, vs, h4, h5.below hb, fun i v hv => (h6 i v hv).kept k (by omega) (Nat.le_refl _)⟩
/-- The walker's own variable, and what it has laid. -/
def WOut (F g : Nat) (lv bv : Value) (w : World) (out : List Seg) : Prop :=
  ∃ ov, w.heap[g]? = some (.cells #[lv, bv, ov] 91 (0, 0)) ∧ Own Seg.arr 3 F 46 w ov out
theorem wcells {g : Nat} {lv bv ov : Value} {w : World} {t : TypeId} (h : w.heap[g]? = some (.cells #[lv, bv, ov] t (0, 0))) :
    w.cell? ⟨g, 0, none⟩ = some lv ∧ w.cell? ⟨g, 1, none⟩ = some bv ∧ w.cell? ⟨g, 2, none⟩ = some ov ∧ w.frozen? ⟨g, 2, none⟩ = false := by
  simp [World.cell?, World.frozen?, h]

theorem wout_set {g : Nat} {lv bv ov : Value} {w : World} {t : TypeId} (h : w.heap[g]? = some (.cells #[lv, bv, ov] t (0, 0))) (v : Value) : (w.setCell ⟨g, 2, none⟩ v).heap[g]? = some (.cells #[lv, bv, v] t (0, 0)) := by
  simp only [World.setCell, Array.getElem?_modify, if_true, h, Option.map_some, Option.isSome_none, Bool.false_eq_true, if_false]
  rfl
set_option maxHeartbeats 400000 in
theorem begin_c (g : Nat) (lv bv ov : Value) (xs : List Item) (k : Nat) (x : Item) (hx : xs[k]? = some x) (f : Int) (B : Nat) (w : World) (hg : w.heap[g]? = some (.cells #[lv, bv, ov] 91 (0, 0))) (h : Sl Item.arr 17 B w lv xs) :
    Calls Try.prog 62 #[.pointer (some ⟨g, 0, none⟩), .int .i64 (k : Int), .int .i64 f] w fun e w' => e = .returned (.int .i64 (max x.from_ f)) ∧ w = w' := by
  obtain ⟨A, cap, rfl, hcap, hl1, hl2⟩ := h.view
  obtain ⟨c0, c1, c2, _⟩ := wcells hg
  have hkl := (List.getElem?_eq_some_iff.1 hx).1
  obtain ⟨b, off, rfl, hb, hrow, _⟩ := h.at hkl
  rw [show xs[k] = x from (List.getElem?_eq_some_iff.1 hx).2] at hrow
  have d1 := rowAt_cell hrow 13 (by omega)
  rw [Item.at13] at d1
  clear h hg hx
  by_cases hlt : x.from_ < f
  · have hm := Lib.hid (show max x.from_ f = f by omega)
    go_enter Try.func62, Try.ntmps62
    go_wp2
    go_ret
    exact ⟨ret_int hm.out.symm, rfl⟩
  · have hm := Lib.hid (show max x.from_ f = x.from_ by omega)
    go_enter Try.func62, Try.ntmps62
    go_wp2
    go_ret
    exact ⟨ret_int hm.out.symm, rfl⟩
set_option maxRecDepth 100000 in
set_option maxHeartbeats 1000000 in
theorem wown_c (F g : Nat) (lv bv : Value) (xs : List Item) (i : Nat) (f t : Int) (out : List Seg) (hlen : out.length ≤ 100000) (w : World) (hgF : g < F) (hFs : F ≤ w.heap.size) (hO : WOut F g lv bv w out) :
    Calls Try.prog 61 #[.pointer (some ⟨g, 0, none⟩), .int .i64 (i : Int), .int .i64 f, .int .i64 t] w fun e w' => (∃ v, e = .returned v) ∧ WOut F g lv bv w' (out ++ (if f < t then [⟨(i : Int), f, t⟩] else [])) ∧ Kept F g w w' := by
  obtain ⟨ov, hg, hown⟩ := hO
  obtain ⟨c0, c1, c2, f2⟩ := wcells hg
  by_cases hft : f < t
  · rw [if_pos hft]
    have p4 : rowAt (w.alloc (.cells (Seg.arr ⟨i, f, t⟩) 46)) w.heap.size 0 3 = some (Seg.arr ⟨i, f, t⟩) := rowAt_new _ _ _ _ _ rfl
    have hgl : g < w.heap.size := by omega
    have hga := (Below.heap_alloc w (Obj.cells (Seg.arr ⟨i, f, t⟩) 46) g hgl).trans hg
    have c2a : (w.alloc (Obj.cells (Seg.arr ⟨i, f, t⟩) 46)).cell? ⟨g, 2, none⟩ = some ov := (wcells hga).2.2.1
    have f2a : (w.alloc (Obj.cells (Seg.arr ⟨i, f, t⟩) 46)).frozen? ⟨g, 2, none⟩ = false := (wcells hga).2.2.2
    have hk0 : Kept F g w (w.alloc (Obj.cells (Seg.arr ⟨i, f, t⟩) 46)) := Kept.of_below ((Below.refl w.heap.size w).alloc (Nat.le_refl _) _) hFs
    go_enter Try.func61, Try.ntmps61
    go_wp2_with (first | (refine wpList_build_at rfl _ _ rfl _ ?_ _ (builtSeg ⟨i, f, t⟩) ?_; rfl) | (refine wpList_slice1 rfl _ 46 _ rfl (Seg.arr ⟨i,f,t⟩) 3 24 Try.underlying41 (by kernel_rfl) (by decide) rfl rfl (w.heap.size) (by simp) ?_) | (at_builtin; refine wpList_append1 Seg.arr 3 rfl _ _ _ rfl F 46 24 Try.underlying41 (by kernel_rfl) (by decide) _ out ⟨i,f,t⟩ rfl (hown.alloc _) (w.heap.size) rfl p4 (Seg.one ⟨i,f,t⟩) (by omega) (by omega) (by simp <;> omega) ?_; intro v' w' hown' hgr' hbel'; obtain ⟨vA, vn, vc, rfl⟩ := hown'.shape; have c2b := (hbel'.cell (p := ⟨g, 2, none⟩) hgF).trans c2a; have f2b := (hbel'.frozen (p := ⟨g, 2, none⟩) hgF).trans f2a))
    go_end0
    refine ⟨⟨_, rfl⟩, ⟨_, wout_set ((hbel'.block g hgF).trans hga) _, ownsRow_setCell_below hown' hgF _⟩, (hk0.trans (Kept.of_below hbel' (Nat.le_refl _))).setCell 2 _⟩
  · rw [if_neg hft, List.append_nil]
    have HO : WOut F g lv bv w out := ⟨ov, hg, hown⟩
    clear hg hown
    go_enter Try.func61, Try.ntmps61
    go_wp2
    go_end0
    exact ⟨⟨_, rfl⟩, HO, Kept.refl _ _ _⟩
end Go.Proofs.Ytcmngomncdeffaa
