/- Layer 36, the segments of any place. -/
import Derived.Test.YtcmngomncdeffaaCover
namespace Go.Proofs.Ytcmngomncdeffaa
open Go.RowKit
set_option linter.unusedVariables false
set_option linter.unusedSimpArgs false
attribute [local go_sem] Item.sz Item.at13 Item.at14 Item.at15

set_option maxRecDepth 100000 in
set_option maxHeartbeats 1000000 in
theorem cover_no (v : Value) (xs : List Item) (i : Nat) (x : Item) (hx : xs[i]? = some x) (hc : T.counts x = false) (w : World) (h : Sl Item.arr 17 w.heap.size w v xs) :
    Calls Try.prog 21 #[v, .int .i64 (i : Int)] w fun e w' => ∃ z, e = .returned z ∧ Own Seg.arr 3 w.heap.size 46 w' z [] ∧ Below w.heap.size w w' := by
  obtain ⟨A, cap, rfl, hcap, hl1, hl2⟩ := h.view
  have hi := (List.getElem?_eq_some_iff.1 hx).1
  obtain ⟨b, off, rfl, hb, hrow0, hall⟩ := h.at hi
  have hrow := hall i x hx
  have HC : ∀ W : World, Calls Try.prog 45 #[.agg (Item.arr x)] W fun e w' => e = .returned (.bool false) ∧ Below W.heap.size W w' := fun W => by have := counts36_c x W; rw [hc] at this; exact this
  clear hrow0 hx hc
  have g1 : decide ((i : Int) < 0) = false := by simp
  have g2 : decide (xs.length ≤ i) = false := by simp <;> omega
  go_enter Try.func21, Try.ntmps21
  go_wp2_with (first | (refine wpList_load_at_w rfl 31 _ rfl _ (off + i * 17) 17 rfl _ _ hrow rfl rfl rfl ?_) | (go_at_call 45; (with_reducible refine (HC _).mono ?_); rintro e w1 ⟨rfl, hb1⟩))
  go_ret
  exact ⟨_, rfl, Own.nil, hb1⟩
set_option maxRecDepth 100000 in
set_option maxHeartbeats 1000000 in
theorem cover_out (v : Value) (xs : List Item) (i : Int) (hi : i < 0 ∨ (xs.length : Int) ≤ i) (w : World) (h : Sl Item.arr 17 w.heap.size w v xs) :
    Calls Try.prog 21 #[v, .int .i64 i] w fun e w' => ∃ z, e = .returned z ∧ Own Seg.arr 3 w.heap.size 46 w' z [] ∧ Below w.heap.size w w' := by
  obtain ⟨A, cap, rfl, hcap, hl1, hl2⟩ := h.view
  by_cases h0 : i < 0
  · clear hi
    go_enter Try.func21, Try.ntmps21
    go_wp2
    go_ret
    exact ⟨_, rfl, Own.nil, Below.refl _ _⟩
  · have h1 : (xs.length : Int) ≤ i := by omega
    have h0' : decide (i < 0) = false := by simpa using h0
    have h1' : decide ((xs.length : Int) ≤ i) = true := by simpa using h1
    clear hi
    go_enter Try.func21, Try.ntmps21
    go_wp2
    go_ret
    exact ⟨_, rfl, Own.nil, Below.refl _ _⟩
set_option maxRecDepth 100000 in
set_option maxHeartbeats 1000000 in
theorem rcover_no (v : Value) (xs : List Item) (i : Nat) (x : Item) (hx : xs[i]? = some x) (hc : T.counts x = false) (w : World) (h : Sl Item.arr 17 w.heap.size w v xs) :
    Calls Try.prog 23 #[v, .int .i64 (i : Int)] w fun e w' => ∃ z, e = .returned z ∧ Own Seg.arr 3 w.heap.size 47 w' z [] ∧ Below w.heap.size w w' := by
  obtain ⟨A, cap, rfl, hcap, hl1, hl2⟩ := h.view
  have hi := (List.getElem?_eq_some_iff.1 hx).1
  obtain ⟨b, off, rfl, hb, hrow0, hall⟩ := h.at hi
  have hrow := hall i x hx
  have HC : ∀ W : World, Calls Try.prog 48 #[.agg (Item.arr x)] W fun e w' => e = .returned (.bool false) ∧ Below W.heap.size W w' := fun W => by have := rcounts36_c x W; rw [hc] at this; exact this
  clear hrow0 hx hc
  have g1 : decide ((i : Int) < 0) = false := by simp
  have g2 : decide (xs.length ≤ i) = false := by simp <;> omega
  go_enter Try.func23, Try.ntmps23
  go_wp2_with (first | (refine wpList_load_at_w rfl 56 _ rfl _ (off + i * 17) 17 rfl _ _ hrow rfl rfl rfl ?_) | (go_at_call 48; (with_reducible refine (HC _).mono ?_); rintro e w1 ⟨rfl, hb1⟩))
  go_ret
  exact ⟨_, rfl, Own.nil, hb1⟩
set_option maxRecDepth 100000 in
set_option maxHeartbeats 1000000 in
theorem rcover_out (v : Value) (xs : List Item) (i : Int) (hi : i < 0 ∨ (xs.length : Int) ≤ i) (w : World) (h : Sl Item.arr 17 w.heap.size w v xs) :
    Calls Try.prog 23 #[v, .int .i64 i] w fun e w' => ∃ z, e = .returned z ∧ Own Seg.arr 3 w.heap.size 47 w' z [] ∧ Below w.heap.size w w' := by
  obtain ⟨A, cap, rfl, hcap, hl1, hl2⟩ := h.view
  by_cases h0 : i < 0
  · clear hi
    go_enter Try.func23, Try.ntmps23
    go_wp2
    go_ret
    exact ⟨_, rfl, Own.nil, Below.refl _ _⟩
  · have h1 : (xs.length : Int) ≤ i := by omega
    have h0' : decide (i < 0) = false := by simpa using h0
    have h1' : decide ((xs.length : Int) ≤ i) = true := by simpa using h1
    clear hi
    go_enter Try.func23, Try.ntmps23
    go_wp2
    go_ret
    exact ⟨_, rfl, Own.nil, Below.refl _ _⟩
set_option maxRecDepth 100000 in
set_option maxHeartbeats 1000000 in
theorem rcover_yes (v : Value) (xs : List Item) (i : Nat) (x : Item) (hx : xs[i]? = some x) (hc : T.counts x = true) (w : World) (h : Sl Item.arr 17 w.heap.size w v xs) (hn : xs.length ≤ 40000) :
    Calls Try.prog 23 #[v, .int .i64 (i : Int)] w fun e w' => ∃ z, e = .returned z ∧ Own Seg.arr 3 w.heap.size 47 w' z (T.span xs i x.from_ x.to_) ∧ Below w.heap.size w w' := by
  obtain ⟨A, cap, rfl, hcap, hl1, hl2⟩ := h.view
  have hi := (List.getElem?_eq_some_iff.1 hx).1
  obtain ⟨b, off, rfl, hb, hrow0, hall⟩ := h.at hi
  have hrow := hall i x hx
  have hft := T.counts_lt hc
  have HC : ∀ W : World, Calls Try.prog 48 #[.agg (Item.arr x)] W fun e w' => e = .returned (.bool true) ∧ Below W.heap.size W w' := fun W => by have := rcounts36_c x W; rw [hc] at this; exact this
  clear hrow0 hx hc
  have g1 : decide ((i : Int) < 0) = false := by simp
  have g2 : decide (xs.length ≤ i) = false := by simp <;> omega
  go_enter Try.func23, Try.ntmps23
  go_wp2_with (first | (refine wpList_load_at_w rfl 56 _ rfl _ (off + i * 17) 17 rfl _ _ hrow rfl rfl rfl ?_) | (go_at_call 48; (with_reducible refine (HC _).mono ?_); rintro e w1 ⟨rfl, hb1⟩))
  have hr1 := (rowAt_block (hb1.block b hb)).trans hrow
  have d13 := rowAt_cell hr1 13 (by omega)
  rw [Item.at13] at d13
  have d14 := rowAt_cell hr1 14 (by omega)
  rw [Item.at14] at d14
  have hsp := rspan_c _ xs (by omega) i hi x.from_ x.to_ (by omega) w1.drew ((h.below (hb1.drew)).mono hb1.size)
  clear HC hrow hr1 g1 g2
  refine wp_region_tail 12 (by kernel_rfl) (by kernel_rfl) ?_
  simp only [List.take_succ_cons, List.take_zero, List.drop_succ_cons, List.drop_zero]
  repeat ((fail_if_success (with_reducible refine wpQuiet_nil ?_)); (first | go_big_quiet_skip | go_big_quiet_step (fail)))
  refine wpQuiet_nil ?_
  go_wp2_with (go_at_call 49; (with_reducible refine hsp.mono ?_); rintro e w5 ⟨z, rfl, hown, hb5⟩)
  go_ret
  have hz := hb1.size
  exact ⟨_, rfl, hown.lower hz, hb1.drew.trans (hb5.mono hz)⟩
theorem cover_c (v : Value) (xs : List Item) (i : Int) (w : World) (h : Sl Item.arr 17 w.heap.size w v xs) (hn : xs.length ≤ 40000) :
    Calls Try.prog 21 #[v, .int .i64 i] w fun e w' => ∃ z, e = .returned z ∧ Own Seg.arr 3 w.heap.size 46 w' z (T.cover xs i) ∧ Below w.heap.size w w' := by
  by_cases hi : 0 ≤ i ∧ i < xs.length
  · obtain ⟨k, rfl⟩ : ∃ k : Nat, i = k := ⟨i.toNat, by omega⟩
    have hk : k < xs.length := by omega
    obtain ⟨x, hx⟩ : ∃ x, xs[k]? = some x := ⟨_, List.getElem?_eq_getElem hk⟩
    cases hc : T.counts x with
    | true => rw [T.cover_in xs k x hx hc]; exact cover_yes v xs k x hx hc w h hn
    | false => rw [T.cover_no xs k x hx hc]; exact cover_no v xs k x hx hc w h
  · rw [T.cover_out xs i (by omega)]; exact cover_out v xs i (by omega) w h
theorem rcover_c (v : Value) (xs : List Item) (i : Int) (w : World) (h : Sl Item.arr 17 w.heap.size w v xs) (hn : xs.length ≤ 40000) :
    Calls Try.prog 23 #[v, .int .i64 i] w fun e w' => ∃ z, e = .returned z ∧ Own Seg.arr 3 w.heap.size 47 w' z (T.cover xs i) ∧ Below w.heap.size w w' := by
  by_cases hi : 0 ≤ i ∧ i < xs.length
  · obtain ⟨k, rfl⟩ : ∃ k : Nat, i = k := ⟨i.toNat, by omega⟩
    have hk : k < xs.length := by omega
    obtain ⟨x, hx⟩ : ∃ x, xs[k]? = some x := ⟨_, List.getElem?_eq_getElem hk⟩
    cases hc : T.counts x with
    | true => rw [T.cover_in xs k x hx hc]; exact rcover_yes v xs k x hx hc w h hn
    | false => rw [T.cover_no xs k x hx hc]; exact rcover_no v xs k x hx hc w h
  · rw [T.cover_out xs i (by omega)]; exact rcover_out v xs i (by omega) w h
end Go.Proofs.Ytcmngomncdeffaa
