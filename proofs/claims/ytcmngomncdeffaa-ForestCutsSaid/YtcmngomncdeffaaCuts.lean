/- Forest: the example; ForestCuts' walk. -/
import Derived.Test.YtcmngomncdeffaaGrowW
import Derived.Test.YtcmngomncdeffaaOpen
namespace Go.Proofs.Ytcmngomncdeffaa
open Go.RowKit
set_option linter.unusedVariables false
set_option linter.unusedSimpArgs false
attribute [local go_sem] Item.sz Event.sz Item.at12 Item.at14 Item.at15 Item.set_to_ Item.set_how Item.set_code
attribute [local go_sem high] eqTItem

def T.ev31 : List Event := [⟨1, 0, 0, 0, ⟨⟨0, 0, 1⟩, 0⟩, ⟨⟨0, 0, 0⟩, 0⟩, ⟨0, 0, 0⟩, 0, 0, 0⟩, ⟨3, 0, 1, 0, ⟨⟨0, 0, 2⟩, 1⟩, ⟨⟨0, 0, 1⟩, 0⟩, ⟨0, 0, 0⟩, 0, 0, 0⟩, ⟨6, 4, 1, 0, ⟨⟨0, 0, 2⟩, 1⟩, ⟨⟨0, 0, 0⟩, 0⟩, ⟨0, 0, 0⟩, 0, 0, 0⟩]
def T.it31 : List Item := [⟨⟨⟨0, 0, 1⟩, 0⟩, ⟨⟨0, 0, 0⟩, 0⟩, ⟨0, 0, 0⟩, 0, 0, 0, -1, 0, 0⟩, ⟨⟨⟨0, 0, 2⟩, 1⟩, ⟨⟨0, 0, 1⟩, 0⟩, ⟨0, 0, 0⟩, 0, 1, 0, 4, 6, 0⟩]
theorem T.ev31_grow : T.grow T.ev31 = T.it31 := by decide +kernel
set_option maxRecDepth 100000 in
set_option maxHeartbeats 1000000 in
theorem awake31_c (w : World) : Calls Try.prog 13 #[] w fun e w' => e = .returned (.bool true) ∧ Below w.heap.size w w' := by
  go_enter Try.func13, Try.ntmps13
  go_wp2_with (refine wpList_sliceK Event.arr 18 rfl _ 79 _ [_, _, _] rfl T.ev31 rfl 144 Try.underlying22 (by kernel_rfl) (by decide) Event.sz (by decide) rfl ?_; intro w1 hown1 hb1)
  have hS1 := hown1.sl Event.sz
  have hB1 : Below w.heap.size w w1 := (((Below.refl _ w).alloc (Nat.le_refl _) _).alloc (by simp) _).trans (hb1.mono (by simp <;> omega))
  simp only [World.size_alloc] at hS1
  refine (grow_c _ _ _ hS1 (by decide)).mono ?_
  rintro e w2 ⟨z, rfl, hown2, hb2⟩
  rw [T.ev31_grow] at hown2
  have hB2 := bthen hB1 hb2
  obtain ⟨g, cap, rfl, hc1, hc2⟩ := own_block hown2 (by decide)
  have r0 := hown2.row Item.sz 0 T.it31[0] rfl
  have r1 := hown2.row Item.sz 1 T.it31[1] rfl
  have c14 : w2.cell? ⟨g, 14, none⟩ = some (.int .i64 (-1)) := rowAt_cell r0 14 (by omega)
  have c31 : w2.cell? ⟨g, 31, none⟩ = some (.int .i64 4) := rowAt_cell r1 14 (by omega)
  have c32 : w2.cell? ⟨g, 32, none⟩ = some (.int .i64 6) := rowAt_cell r1 15 (by omega)
  have hSl := hown2.sl Item.sz
  have hP := above_c_path _ T.it31 1 w2 hSl (by decide)
  rw [show T.path T.it31 1 = [1, 0] by decide +kernel] at hP
  have hl2 : T.it31.length = 2 := rfl
  simp only [hl2] at hP hSl ⊢
  clear hown1 hb1 hS1 hB1 hown2 r0 r1 hl2
  go_wp2_with (first | (go_at_call 18; (with_reducible refine hP.mono ?_); rintro e w3 ⟨u3, rfl, hown3, hb3⟩; obtain ⟨A3, n3, c3, rfl⟩ := hown3.shape; obtain rfl := own_len hown3; have hA := above_c _ T.it31 1 w3 ((hSl.below hb3).mono hb3.size); rw [show T.above T.it31 1 = 0 by decide +kernel] at hA) | (go_at_call 17; (with_reducible refine hA.mono ?_); rintro e w4 ⟨rfl, hb4⟩))
  go_ret
  exact ⟨rfl, bthen (bthen hB2 hb3) hb4⟩
theorem T.ext_len {xs ys : List Item} (h : T.ext xs ys) : xs.length ≤ ys.length := by
  cases hx : xs.length with
  | zero => omega
  | succ m =>
    obtain ⟨b, hb, _⟩ := h m xs[m] (List.getElem?_eq_getElem (by omega))
    have := (List.getElem?_eq_some_iff.1 hb).1
    omega
set_option maxRecDepth 100000 in
set_option maxHeartbeats 1000000 in
theorem forestCuts_out (v0 : Value) (a0 : List Event) (n : Int) (W : World) (s0 : Sl Event.arr 18 W.heap.size W v0 a0) (hno : 60 < a0.length ∨ n < 0 ∨ (a0.length : Int) < n) :
    Calls Try.prog 3 #[v0, .int .i64 n] W fun e w' => e = .returned (.bool true) ∧ Below W.heap.size W w' := by
  obtain ⟨A, cap, rfl, hcap, hl1, hl2⟩ := s0.view
  by_cases h1 : 60 < a0.length
  · clear hno
    go_enter Try.func3, Try.ntmps3
    go_wp2_with (go_at_call 13; (with_reducible refine (awake31_c _).mono ?_); rintro e w1 ⟨rfl, hb1⟩)
    go_ret
    exact ⟨rfl, hb1⟩
  by_cases h2 : n < 0
  · have h1' : decide (60 < (a0.length : Int)) = false := by simp; omega
    have h2' : decide (n < 0) = true := by simpa using h2
    clear hno
    go_enter Try.func3, Try.ntmps3
    go_wp2_with (go_at_call 13; (with_reducible refine (awake31_c _).mono ?_); rintro e w1 ⟨rfl, hb1⟩)
    go_ret
    exact ⟨rfl, hb1⟩
  · have h1' : decide (60 < (a0.length : Int)) = false := by simp; omega
    have h2' : decide (n < 0) = false := by simpa using h2
    have h3' : decide ((a0.length : Int) < n) = true := by simp; omega
    clear hno
    go_enter Try.func3, Try.ntmps3
    go_wp2_with (go_at_call 13; (with_reducible refine (awake31_c _).mono ?_); rintro e w1 ⟨rfl, hb1⟩)
    go_ret
    exact ⟨rfl, hb1⟩
set_option maxRecDepth 100000 in
set_option maxHeartbeats 4000000 in
theorem forestCuts_in (v0 : Value) (a0 : List Event) (k : Nat) (W : World) (s0 : Sl Event.arr 18 W.heap.size W v0 a0) (h60 : a0.length ≤ 60) (hk : k ≤ a0.length) :
    Calls Try.prog 3 #[v0, .int .i64 (k : Int)] W fun e w' => e = .returned (.bool true) ∧ Below W.heap.size W w' := by
  obtain ⟨A, cap, rfl, hcap, hl1, hl2⟩ := s0.view
  have st := s0.take k hk
  have hext : T.ext (T.grow (a0.take k)) (T.grow a0) := by have := T.ext_grow (a0.take k) (a0.drop k); rwa [List.take_append_drop] at this
  have hfr := T.fresh_grow (a0.take k)
  have hlx := T.grow_len (a0.take k)
  have hly := T.grow_len a0
  have hle := T.ext_len hext
  have htk : (a0.take k).length ≤ 100000 := by simp; omega
  obtain ⟨xs, hxs⟩ : ∃ xs, xs = T.grow (a0.take k) := ⟨_, rfl⟩
  obtain ⟨ys, hys⟩ : ∃ ys, ys = T.grow a0 := ⟨_, rfl⟩
  rw [← hxs] at hext hfr hlx hle
  rw [← hys] at hext hly hle
  have HX := Lib.hid hxs
  have HY := Lib.hid hys
  have HE := Lib.hid hext
  have HF := Lib.hid hfr
  have hx60 : xs.length ≤ 60 := by simp at hlx; omega
  have hy60 : ys.length ≤ 60 := by omega
  have g1 : decide (60 < (a0.length : Int)) = false := by simp; omega
  have g2 : decide ((k : Int) < 0) = false := by simp
  have g3 : decide (a0.length < k) = false := by simp; omega
  have g4 : decide (ys.length < xs.length) = false := by simp; omega
  clear hxs hys hext hfr hlx hly
  go_enter Try.func3, Try.ntmps3
  go_wp2_with (first | (go_at_call 14; (with_reducible refine (grow_c _ _ _ st htk).mono ?_); rintro e w1 ⟨u1, rfl, hown1, hb1⟩; rw [← HX.out] at hown1; obtain ⟨A1, n1, c1, rfl⟩ := hown1.shape; obtain rfl := own_len hown1; have s1 := (s0.below hb1).mono hb1.size) | (go_at_call 14; (with_reducible refine (grow_c _ _ _ s1 (by omega)).mono ?_); rintro e w2 ⟨u2, rfl, hown2, hb2⟩; rw [← HY.out] at hown2; obtain ⟨A2, n2, c2, rfl⟩ := hown2.shape; obtain rfl := own_len hown2; have hB2 := bthen hb1 hb2; have hown1' := hown1.below hb2))
  clear st s0 s1 g1 g2 g3 g4
  clear hown1
  go_loopw [7] (fun iv wr => ∃ j : Nat, j ≤ xs.length ∧ iv = .int .i64 (j : Int) ∧ Below w2.heap.size w2 wr) (fun iv _ => xs.length - (intOf iv).toNat)
  case atStart => exact ⟨0, Nat.zero_le _, rfl, Below.refl _ _⟩
  case round =>
    obtain ⟨j, hj, rfl, hBr⟩ := hrel
    have hBW := bthen hB2 hBr
    have hsr := hBr.size
    by_cases hjl : j < xs.length
    · obtain ⟨x, hx⟩ : ∃ x, xs[j]? = some x := ⟨_, List.getElem?_eq_getElem hjl⟩
      obtain ⟨y, hy, hlat⟩ := HE.out j x hx
      have hjy := (List.getElem?_eq_some_iff.1 hy).1
      have hfx := HF.out x (List.mem_of_getElem? hx)
      obtain ⟨g1, q1, hv1, _, hgs1⟩ := own_block hown1' (by omega)
      cases hv1
      obtain ⟨g2, q2, hv2, _, hgs2⟩ := own_block hown2 (by omega)
      cases hv2
      have rx := (hown1'.below hBr).row Item.sz j x hx
      have ry := (hown2.below hBr).row Item.sz j y hy
      have x14 := rowAt_cell rx 14 (by omega)
      have x15 := rowAt_cell rx 15 (by omega)
      have x16 := rowAt_cell rx 16 (by omega)
      rw [Item.at14] at x14
      rw [Item.at15] at x15
      rw [Item.at16] at x16
      have hga : g1 < wr.heap.size := by omega
      have hgb : g2 < wr.heap.size := by omega
      have e15 := bw_then (Below.refl _ wr) x15
      have HL := Lib.hid hlat.2
      by_cases h0 : x.how = 0
      case neg =>
        have hxy := hlat.1 h0
        subst hxy
        have h0' : (x.how == 0) = false := by simpa using h0
        have h0'' : (x.how != 0) = true := by simpa using h0
        clear hx hy hlat hfx h0
        go_wp2
        refine wp_region_calm (by kernel_rfl) (by kernel_rfl) ?_
        repeat ((fail_if_success (with_reducible refine wpQuiet_nil ?_)); (first | go_big_quiet_skip | (refine wpQuiet_load_at (by rfl) 31 _ rfl _ (j*17) 17 rfl _ _ rx rfl rfl rfl ?_; simp only [Act.put, List.setIfInBounds_toArray, List.set_cons_succ, List.set_cons_zero]) | (refine wpQuiet_load_at (by rfl) 31 _ rfl _ (j*17) 17 rfl _ _ ry rfl rfl rfl ?_; simp only [Act.put, List.setIfInBounds_toArray, List.set_cons_succ, List.set_cons_zero]) | go_big_quiet_step (fail)))
        refine wpQuiet_nil ?_
        rintro _ ⟨⟨w3, hb3⟩, rfl⟩
        rename_i w3
        have rx3 := (rowAt_block (hb3.block g1 hga)).trans rx
        have ry3 := (rowAt_block (hb3.block g2 hgb)).trans ry
        have f14 := (hb3.cell (p := ⟨g1, j * 17 + 14, none⟩) hga).trans x14
        have f15 := (hb3.cell (p := ⟨g1, j * 17 + 15, none⟩) hga).trans x15
        have f16 := (hb3.cell (p := ⟨g1, j * 17 + 16, none⟩) hga).trans x16
        have hga3 : g1 < w3.heap.size := Nat.lt_of_lt_of_le hga hb3.size
        clear rx ry e15 x14 x15 x16
        go_wp2_with (first | (refine wpList_load_at rfl 31 _ rfl _ (j * 17) 17 rfl _ _ ry3 rfl rfl rfl ?_) | (refine wpList_store_new rfl _ _ _ rfl w3.heap.size (Item.arr x) _ _ rfl rfl rfl rfl rfl (Item.one x) ?_))
        have a14 : (w3.alloc (Obj.cells (Item.arr x) 31)).heap[g1]? = w3.heap[g1]? := Below.heap_alloc w3 _ g1 hga3
        have hSk : ∀ X : Item, (w3.alloc (Obj.cells (Item.arr X) 31)).heap[g1]? = w3.heap[g1]? := fun X => Below.heap_alloc w3 _ g1 hga3
        have HSk := Lib.hid hSk
        clear hSk
        refine wp_region_T 20 [16, 18, 20] (fun W => W.heap[g1]? = w3.heap[g1]?) (by kernel_rfl) (by kernel_rfl) (by repeat (first | exact trivial | refine ⟨.inl rfl, ?_⟩ | refine ⟨.inr fun _ _ _ _ h => h, ?_⟩)) ?_ ?_
        · exact a14
        repeat ((first | (refine wpT_q (by rfl) (by rfl) ?_ ?_ ?_; rotate_left; focus (rintro W hS; have s0 := (World.cell?_of_block hS).trans f14; have s1 := (World.cell?_of_block hS).trans f15; have s2 := (World.cell?_of_block hS).trans f16; go_simp; try (with_reducible rfl); done)) | refine wpT_skip (by rfl) (by rfl) ?_); try simp only [Act.put, List.setIfInBounds_toArray, List.set_cons_succ, List.set_cons_zero])
        refine wpT_a (by rfl) (by rfl) fun K hK => ?_
        go_simp
        refine hK _ _ (fun _ => HSk.out _) ?_; clear hK K; try simp only [Act.put, List.setIfInBounds_toArray, List.set_cons_succ, List.set_cons_zero]
        repeat ((first | (refine wpT_q (by rfl) (by rfl) ?_ ?_ ?_; rotate_left; focus (rintro W hS; have s0 := (World.cell?_of_block hS).trans f14; have s1 := (World.cell?_of_block hS).trans f15; have s2 := (World.cell?_of_block hS).trans f16; go_simp; try (with_reducible rfl); done)) | refine wpT_skip (by rfl) (by rfl) ?_); try simp only [Act.put, List.setIfInBounds_toArray, List.set_cons_succ, List.set_cons_zero])
        refine wpT_a (by rfl) (by rfl) fun K hK => ?_
        go_simp
        refine hK _ _ (fun _ => HSk.out _) ?_; clear hK K; try simp only [Act.put, List.setIfInBounds_toArray, List.set_cons_succ, List.set_cons_zero]
        repeat ((first | (refine wpT_q (by rfl) (by rfl) ?_ ?_ ?_; rotate_left; focus (rintro W hS; have s0 := (World.cell?_of_block hS).trans f14; have s1 := (World.cell?_of_block hS).trans f15; have s2 := (World.cell?_of_block hS).trans f16; go_simp; try (with_reducible rfl); done)) | refine wpT_skip (by rfl) (by rfl) ?_); try simp only [Act.put, List.setIfInBounds_toArray, List.set_cons_succ, List.set_cons_zero])
        refine wpT_a (by rfl) (by rfl) fun K hK => ?_
        go_simp
        refine hK _ _ (fun h => absurd h (by omega)) ?_; clear hK K; try simp only [Act.put, List.setIfInBounds_toArray, List.set_cons_succ, List.set_cons_zero]
        refine wpT_nil ?_
        obtain ⟨w4, hw4⟩ : ∃ w4, w4 = (w3.alloc (Obj.cells (Item.arr x) 31)).drew := ⟨_, rfl⟩
        rw [← hw4]
        obtain ⟨b4, hb4⟩ : ∃ b4, b4 = w3.heap.size := ⟨_, rfl⟩
        rw [← hb4]
        have rz : rowAt w4 b4 0 17 = some (Item.arr x) := by rw [hw4, hb4]; exact rowAt_new _ _ _ _ _ rfl
        have hB4 : Below w3.heap.size w3 w4 := by rw [hw4]; exact ((Below.refl _ w3).alloc (Nat.le_refl _) _).drew
        have rx4 := (rowAt_block (hB4.block g1 hga3)).trans rx3
        have x14 := rowAt_cell rx4 14 (by omega)
        have x15 := rowAt_cell rx4 15 (by omega)
        rw [Item.at14] at x14
        rw [Item.at15] at x15
        have m14 := bw_then (Below.refl _ w4) x14
        have m15 := bw_then (Below.refl _ w4) x15
        clear hw4 hb4 f14 f15 f16 x14 x15
        go_wp2
        refine wp_region_calm (by kernel_rfl) (by kernel_rfl) ?_
        repeat ((fail_if_success (with_reducible refine wpQuiet_nil ?_)); (first | go_big_quiet_skip | (refine wpQuiet_load_at (by rfl) 31 _ rfl _ 0 17 rfl _ _ rz rfl rfl rfl ?_; simp only [Act.put, List.setIfInBounds_toArray, List.set_cons_succ, List.set_cons_zero]) | (refine wpQuiet_load_at (by rfl) 31 _ rfl _ (j*17) 17 rfl _ _ rx4 rfl rfl rfl ?_; simp only [Act.put, List.setIfInBounds_toArray, List.set_cons_succ, List.set_cons_zero]) | go_big_quiet_step (fail)))
        refine wpQuiet_nil ?_
        rintro _ ⟨⟨w5, hb5⟩, rfl⟩
        go_wp2
        go_roundw
        case rel => exact ⟨j + 1, by omega, by go_num, bthen (bthen (bthen hBr hb3) hB4) hb5⟩
        case measure => simp [intOf]; omega
      case pos =>
        have h0' : (x.how == 0) = true := by simpa using h0
        have h0'' : (x.how != 0) = false := by simpa using h0
        have hto := hfx h0
        have ht' : (x.to_ != -1) = false := by simpa using hto
        clear hx hy hlat hfx hto h0
        go_wp2
        refine wp_region_calm (by kernel_rfl) (by kernel_rfl) ?_
        repeat ((fail_if_success (with_reducible refine wpQuiet_nil ?_)); (first | go_big_quiet_skip | (refine wpQuiet_load_at (by rfl) 31 _ rfl _ (j*17) 17 rfl _ _ rx rfl rfl rfl ?_; simp only [Act.put, List.setIfInBounds_toArray, List.set_cons_succ, List.set_cons_zero]) | (refine wpQuiet_load_at (by rfl) 31 _ rfl _ (j*17) 17 rfl _ _ ry rfl rfl rfl ?_; simp only [Act.put, List.setIfInBounds_toArray, List.set_cons_succ, List.set_cons_zero]) | go_big_quiet_step (fail)))
        refine wpQuiet_nil ?_
        rintro _ ⟨⟨w3, hb3⟩, rfl⟩
        rename_i w3
        have rx3 := (rowAt_block (hb3.block g1 hga)).trans rx
        have ry3 := (rowAt_block (hb3.block g2 hgb)).trans ry
        have f14 := (hb3.cell (p := ⟨g1, j * 17 + 14, none⟩) hga).trans x14
        have f15 := (hb3.cell (p := ⟨g1, j * 17 + 15, none⟩) hga).trans x15
        have f16 := (hb3.cell (p := ⟨g1, j * 17 + 16, none⟩) hga).trans x16
        have hga3 : g1 < w3.heap.size := Nat.lt_of_lt_of_le hga hb3.size
        clear rx ry e15 x14 x15 x16
        go_wp2_with (first | (refine wpList_load_at rfl 31 _ rfl _ (j * 17) 17 rfl _ _ ry3 rfl rfl rfl ?_) | (refine wpList_store_new rfl _ _ _ rfl w3.heap.size (Item.arr y) _ _ rfl rfl rfl rfl rfl (Item.one y) ?_))
        have a14 : (w3.alloc (Obj.cells (Item.arr y) 31)).heap[g1]? = w3.heap[g1]? := Below.heap_alloc w3 _ g1 hga3
        have hSk : ∀ X : Item, (w3.alloc (Obj.cells (Item.arr X) 31)).heap[g1]? = w3.heap[g1]? := fun X => Below.heap_alloc w3 _ g1 hga3
        have HSk := Lib.hid hSk
        clear hSk
        refine wp_region_T 20 [16, 18, 20] (fun W => W.heap[g1]? = w3.heap[g1]?) (by kernel_rfl) (by kernel_rfl) (by repeat (first | exact trivial | refine ⟨.inl rfl, ?_⟩ | refine ⟨.inr fun _ _ _ _ h => h, ?_⟩)) ?_ ?_
        · exact a14
        repeat ((first | (refine wpT_q (by rfl) (by rfl) ?_ ?_ ?_; rotate_left; focus (rintro W hS; have s0 := (World.cell?_of_block hS).trans f14; have s1 := (World.cell?_of_block hS).trans f15; have s2 := (World.cell?_of_block hS).trans f16; go_simp; try (with_reducible rfl); done)) | refine wpT_skip (by rfl) (by rfl) ?_); try simp only [Act.put, List.setIfInBounds_toArray, List.set_cons_succ, List.set_cons_zero])
        refine wpT_a (by rfl) (by rfl) fun K hK => ?_
        go_simp
        refine hK _ _ (fun _ => HSk.out _) ?_; clear hK K; try simp only [Act.put, List.setIfInBounds_toArray, List.set_cons_succ, List.set_cons_zero]
        repeat ((first | (refine wpT_q (by rfl) (by rfl) ?_ ?_ ?_; rotate_left; focus (rintro W hS; have s0 := (World.cell?_of_block hS).trans f14; have s1 := (World.cell?_of_block hS).trans f15; have s2 := (World.cell?_of_block hS).trans f16; go_simp; try (with_reducible rfl); done)) | refine wpT_skip (by rfl) (by rfl) ?_); try simp only [Act.put, List.setIfInBounds_toArray, List.set_cons_succ, List.set_cons_zero])
        refine wpT_a (by rfl) (by rfl) fun K hK => ?_
        go_simp
        refine hK _ _ (fun _ => HSk.out _) ?_; clear hK K; try simp only [Act.put, List.setIfInBounds_toArray, List.set_cons_succ, List.set_cons_zero]
        repeat ((first | (refine wpT_q (by rfl) (by rfl) ?_ ?_ ?_; rotate_left; focus (rintro W hS; have s0 := (World.cell?_of_block hS).trans f14; have s1 := (World.cell?_of_block hS).trans f15; have s2 := (World.cell?_of_block hS).trans f16; go_simp; try (with_reducible rfl); done)) | refine wpT_skip (by rfl) (by rfl) ?_); try simp only [Act.put, List.setIfInBounds_toArray, List.set_cons_succ, List.set_cons_zero])
        refine wpT_a (by rfl) (by rfl) fun K hK => ?_
        go_simp
        refine hK _ _ (fun h => absurd h (by omega)) ?_; clear hK K; try simp only [Act.put, List.setIfInBounds_toArray, List.set_cons_succ, List.set_cons_zero]
        refine wpT_nil ?_
        rw [HL.out]
        obtain ⟨w4, hw4⟩ : ∃ w4, w4 = (w3.alloc (Obj.cells (Item.arr x) 31)).drew := ⟨_, rfl⟩
        rw [← hw4]
        obtain ⟨b4, hb4⟩ : ∃ b4, b4 = w3.heap.size := ⟨_, rfl⟩
        rw [← hb4]
        have rz : rowAt w4 b4 0 17 = some (Item.arr x) := by rw [hw4, hb4]; exact rowAt_new _ _ _ _ _ rfl
        have hB4 : Below w3.heap.size w3 w4 := by rw [hw4]; exact ((Below.refl _ w3).alloc (Nat.le_refl _) _).drew
        have rx4 := (rowAt_block (hB4.block g1 hga3)).trans rx3
        have x14 := rowAt_cell rx4 14 (by omega)
        have x15 := rowAt_cell rx4 15 (by omega)
        rw [Item.at14] at x14
        rw [Item.at15] at x15
        have m14 := bw_then (Below.refl _ w4) x14
        have m15 := bw_then (Below.refl _ w4) x15
        clear hw4 hb4 f14 f15 f16 x14 x15
        go_wp2
        refine wp_region_calm (by kernel_rfl) (by kernel_rfl) ?_
        repeat ((fail_if_success (with_reducible refine wpQuiet_nil ?_)); (first | go_big_quiet_skip | (refine wpQuiet_load_at (by rfl) 31 _ rfl _ 0 17 rfl _ _ rz rfl rfl rfl ?_; simp only [Act.put, List.setIfInBounds_toArray, List.set_cons_succ, List.set_cons_zero]) | (refine wpQuiet_load_at (by rfl) 31 _ rfl _ (j*17) 17 rfl _ _ rx4 rfl rfl rfl ?_; simp only [Act.put, List.setIfInBounds_toArray, List.set_cons_succ, List.set_cons_zero]) | go_big_quiet_step (fail)))
        refine wpQuiet_nil ?_
        rintro _ ⟨⟨w5, hb5⟩, rfl⟩
        go_wp2
        go_roundw
        case rel => exact ⟨j + 1, by omega, by go_num, bthen (bthen (bthen hBr hb3) hB4) hb5⟩
        case measure => simp [intOf]; omega
    · go_wp2_with (go_at_call 13; (with_reducible refine (awake31_c _).mono ?_); rintro e w9 ⟨rfl, hb9⟩)
      go_ret
      exact ⟨rfl, bthen hBW hb9⟩
theorem forestCuts_w (v0 : Value) (a0 : List Event) (n : Int) (W : World) (s0 : Sl Event.arr 18 W.heap.size W v0 a0) (w0 : ∀ x ∈ a0, Event.ok x) (z0 : a0.length * 144 ≤ 140737488351232) (hi : i64 n) :
    Calls Try.prog 3 #[v0, .int .i64 n] W fun e w' => e = .returned (.bool true) ∧ Below W.heap.size W w' := by
  by_cases h : 60 < a0.length ∨ n < 0 ∨ (a0.length : Int) < n
  · exact forestCuts_out v0 a0 n W s0 h
  · obtain ⟨k, rfl⟩ : ∃ k : Nat, n = k := ⟨n.toNat, by omega⟩
    exact forestCuts_in v0 a0 k W s0 (by omega) (by omega)
end Go.Proofs.Ytcmngomncdeffaa
