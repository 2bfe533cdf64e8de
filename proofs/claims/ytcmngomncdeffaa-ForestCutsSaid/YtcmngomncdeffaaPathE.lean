/- Layer 36, the walker's last. -/
import Derived.Test.YtcmngomncdeffaaPathD
namespace Go.Proofs.Ytcmngomncdeffaa
open Go.RowKit
set_option linter.unusedVariables false
set_option linter.unusedSimpArgs false
attribute [local go_sem] Item.sz Item.at13 Item.at14 Item.at15

def T.cand (f t : Int) (x : Item) : Bool := T.counts x && (decide (x.to_ ≤ t) && decide (max x.from_ f < x.to_))
def T.toOf (xs : List Item) (a : Int) : Int := match xs[a.toNat]? with | some x => x.to_ | none => 0
def T.better (xs : List Item) (a : Int) (x : Item) : Bool := decide (a < 0) || decide (T.toOf xs a ≤ x.to_)
def T.lstep (xs : List Item) (f t : Int) (a : Int) (k : Nat) : Int := match xs[k]? with
  | some x => if T.cand f t x && T.better xs a x then (k : Int) else a
  | none => a
def T.last (xs : List Item) (i : Nat) (f t : Int) : Int := (T.kidN xs i).foldl (T.lstep xs f t) (-1)
theorem T.lstep_yes (xs : List Item) (f t a : Int) (k : Nat) (x : Item) (hx : xs[k]? = some x) (h : (T.cand f t x && T.better xs a x) = true) : T.lstep xs f t a k = k := by
  simp only [T.lstep, hx, h, if_true]
theorem T.lstep_no (xs : List Item) (f t a : Int) (k : Nat) (x : Item) (hx : xs[k]? = some x) (h : (T.cand f t x && T.better xs a x) = false) : T.lstep xs f t a k = a := by
  simp only [T.lstep, hx, h, Bool.false_eq_true, if_false]
theorem T.kidN_lt (xs : List Item) (i k : Nat) (h : k ∈ T.kidN xs i) : k < xs.length ∧ T.upI xs k = i := by
  simp only [T.kidN, List.mem_filter, List.mem_range, decide_eq_true_eq] at h
  exact h
theorem T.kidN_length (xs : List Item) (i : Nat) : (T.kidN xs i).length ≤ xs.length := by
  have := List.length_filter_le (fun k => decide (T.upI xs k = (i : Int))) (List.range xs.length)
  simpa [T.kidN] using this

set_option maxRecDepth 100000 in
set_option maxHeartbeats 4000000 in
theorem last_c (F g : Nat) (lv bv ov : Value) (xs : List Item) (i : Nat) (hi : i < xs.length) (f t : Int) (w : World) (hg : w.heap[g]? = some (.cells #[lv, bv, ov] 91 (0, 0))) (hI : WInv F g lv bv xs w) :
    Calls Try.prog 60 #[.pointer (some ⟨g, 0, none⟩), .int .i64 (i : Int), .int .i64 f, .int .i64 t] w fun e w' => e = .returned (.int .i64 (T.last xs i f t)) ∧ Below w.heap.size w w' := by
  obtain ⟨hgF, hFs, hl, vs, hvl, hbv, hkid⟩ := hI
  obtain ⟨A, cap, rfl, hcap, hl1, hl2⟩ := hl.view
  obtain ⟨A2, cap2, rfl, hcap2, hl12, hl22⟩ := hbv.view
  obtain ⟨c0, c1, c2, _⟩ := wcells hg
  have hiv : i < vs.length := by omega
  obtain ⟨b, off, rfl, hb, hrow, hall⟩ := hl.at hi
  obtain ⟨b2, off2, rfl, hb2, hrow2, _⟩ := hbv.at hiv
  obtain ⟨v, hv⟩ : ∃ v, v = vs[i] := ⟨_, rfl⟩
  rw [← hv] at hrow2
  have hK := (hkid i v (by rw [hv]; exact List.getElem?_eq_getElem hiv)).sl
  obtain ⟨A3, cap3, rfl, hcap3, hl13, hl23⟩ := hK.view
  have e1 := rowAt_cell hrow2 0 (by omega)
  have e1 : w.cell? ⟨b2, off2 + i, none⟩ = some (Value.slice A3 (T.kids xs i).length cap3) := by simpa [valArr] using e1
  have hklen : (T.kids xs i).length = (T.kidN xs i).length := by simp [T.kids]
  clear hv hrow2 hkid hbv hrow
  go_enter Try.func60, Try.ntmps60
  go_wp2
  go_loopw [9, 21] (fun a j wr => ∃ (k : Nat) (a' : Int), k ≤ (T.kidN xs i).length ∧ j = .int .i64 k ∧ a = .int .i64 a' ∧ a' = ((T.kidN xs i).take k).foldl (T.lstep xs f t) (-1) ∧ -1 ≤ a' ∧ a' < xs.length ∧ Below w.heap.size w wr) (fun _ j _ => (T.kidN xs i).length - (intOf j).toNat)
  case atStart => exact ⟨0, -1, Nat.zero_le _, rfl, rfl, rfl, by omega, by omega, Below.refl _ _⟩
  case round =>
    obtain ⟨k, a, hk, rfl, rfl, ha, ha1, ha2, hB⟩ := hrel
    by_cases hkl : k < (T.kidN xs i).length
    · obtain ⟨m, hm⟩ : ∃ m, m = (T.kidN xs i)[k] := ⟨_, rfl⟩
      have hml := (T.kidN_lt xs i m (by rw [hm]; exact List.getElem_mem _)).1
      have hkl' : k < (T.kids xs i).length := by omega
      obtain ⟨b3, off3, rfl, hb3, hrow3, _⟩ := hK.at hkl'
      have hmk : (T.kids xs i)[k] = (m : Int) := by simp [T.kids, hm]
      rw [hmk] at hrow3
      have e3 := rowAt_cell hrow3 0 (by omega)
      have e3 : w.cell? ⟨b3, off3 + k, none⟩ = some (.int .i64 (m : Int)) := by simpa [intArr] using e3
      obtain ⟨x, hx⟩ : ∃ x, x = xs[m] := ⟨_, rfl⟩
      have hxo : xs[m]? = some x := by rw [hx]; exact List.getElem?_eq_getElem hml
      have hrowx := (rowAt_block (hB.block b (by omega))).trans (hall m x hxo)
      have hsz := hB.size
      have hnext : ((T.kidN xs i).take (k + 1)).foldl (T.lstep xs f t) (-1) = T.lstep xs f t a m := by rw [List.take_add_one, List.getElem?_eq_getElem hkl, ← hm, List.foldl_append, ← ha]; rfl
      have e3r := (hB.cell (p := ⟨b3, off3 + k, none⟩) (show b3 < _ by omega)).trans e3
      have c0r := (hB.cell (p := ⟨g, 0, none⟩) (show g < _ by omega)).trans c0
      have HX := Lib.hid hxo
      have HN := Lib.hid hnext
      have hgl : g < wr.heap.size := by omega
      have hbl : b < wr.heap.size := by omega
      clear hm hrow3 hmk hx hxo hnext ha e3 e1 c1 c2 hK
      go_wp2_with (first | (refine wpList_load_at rfl 31 _ rfl _ (off + m * 17) 17 rfl _ _ hrowx rfl rfl rfl ?_) | (refine wpList_store_new rfl _ _ _ rfl wr.heap.size (Item.arr x) _ _ rfl rfl rfl rfl rfl (Item.one x) ?_))
      obtain ⟨w2, hw2⟩ : ∃ w2, wr.alloc (Obj.cells (Item.arr x) 31) = w2 := ⟨_, rfl⟩
      have hr0 : rowAt w2 wr.heap.size 0 17 = some (Item.arr x) := by rw [← hw2]; exact rowAt_new _ _ _ _ _ rfl
      have hs2 : w2.heap.size = wr.heap.size + 1 := by rw [← hw2]; simp
      have hB2 : Below w.heap.size w w2 := by rw [← hw2]; exact hB.alloc hsz _
      have d14 := rowAt_cell hr0 14 (by omega)
      rw [Item.at14] at d14
      have c02 := (hB2.cell (p := ⟨g, 0, none⟩) (show g < _ by omega)).trans c0
      have hg2 := (hB2.block g (by omega)).trans hg
      have hlx := hl.below (hB2.mono (show g ≤ w.heap.size by omega))
      have HGB := fun y : BW w2 => (y.2.block g (by omega)).trans hg2
      have HLB := fun y : BW w2 => hlx.below (y.2.mono (show g ≤ w2.heap.size by omega))
      have q1 := fun (y : BW w2) (o : Nat) => bw_cell y wr.heap.size o (by omega)
      have q2 := fun (y : BW w2) (o : Nat) => bw_cell y g o (by omega)
      have q3 := fun (y : BW w2) (o : Nat) => bw_cell y b o (by omega)
      rw [hw2]
      clear hw2 hg hg2 hl hlx c0 hrowx
      rcases h1 : T.counts x with _ | _
      · have HC : ∀ W : World, Calls Try.prog 45 #[.agg (Item.arr x)] W fun e w' => e = .returned (.bool false) ∧ Below W.heap.size W w' := fun W => by have := counts36_c x W; rw [h1] at this; exact this
        refine wp_region_calm (by kernel_rfl) (by kernel_rfl) ?_
        repeat ((fail_if_success (with_reducible refine wpQuiet_nil ?_)); (first | go_big_quiet_skip | (refine wpQuiet_load_at (by rfl) 31 _ rfl _ 0 17 rfl _ _ hr0 rfl rfl rfl ?_; simp only [Act.put, List.setIfInBounds_toArray, List.set_cons_succ, List.set_cons_zero]) | go_big_quiet_step (first | (go_at_call 45; exact calm_of (HC _)) | (go_at_call 62; exact calm_same (begin_c g _ _ ov xs m x HX.out f g _ (HGB _) (HLB _))))))
        refine wpQuiet_nil ?_
        rintro _ ⟨⟨w3, hb3⟩, rfl⟩
        go_wp2
        go_roundw
        case rel => exact ⟨k + 1, a, by omega, by go_num, rfl, by rw [HN.out, T.lstep_no xs f t a m x HX.out (by simp [T.cand, T.better, *])], by omega, by omega, bthen hB2 hb3⟩
        case measure => simp [intOf]; omega
      have HC : ∀ W : World, Calls Try.prog 45 #[.agg (Item.arr x)] W fun e w' => e = .returned (.bool true) ∧ Below W.heap.size W w' := fun W => by have := counts36_c x W; rw [h1] at this; exact this
      by_cases h2 : x.to_ ≤ t
      case neg =>
        · skip
          refine wp_region_calm (by kernel_rfl) (by kernel_rfl) ?_
          repeat ((fail_if_success (with_reducible refine wpQuiet_nil ?_)); (first | go_big_quiet_skip | (refine wpQuiet_load_at (by rfl) 31 _ rfl _ 0 17 rfl _ _ hr0 rfl rfl rfl ?_; simp only [Act.put, List.setIfInBounds_toArray, List.set_cons_succ, List.set_cons_zero]) | go_big_quiet_step (first | (go_at_call 45; exact calm_of (HC _)) | (go_at_call 62; exact calm_same (begin_c g _ _ ov xs m x HX.out f g _ (HGB _) (HLB _))))))
          refine wpQuiet_nil ?_
          rintro _ ⟨⟨w3, hb3⟩, rfl⟩
          go_wp2
          go_roundw
          case rel => exact ⟨k + 1, a, by omega, by go_num, rfl, by rw [HN.out, T.lstep_no xs f t a m x HX.out (by simp [T.cand, T.better, *])], by omega, by omega, bthen hB2 hb3⟩
          case measure => simp [intOf]; omega
      by_cases h3 : max x.from_ f < x.to_
      case neg =>
        · skip
          refine wp_region_calm (by kernel_rfl) (by kernel_rfl) ?_
          repeat ((fail_if_success (with_reducible refine wpQuiet_nil ?_)); (first | go_big_quiet_skip | (refine wpQuiet_load_at (by rfl) 31 _ rfl _ 0 17 rfl _ _ hr0 rfl rfl rfl ?_; simp only [Act.put, List.setIfInBounds_toArray, List.set_cons_succ, List.set_cons_zero]) | go_big_quiet_step (first | (go_at_call 45; exact calm_of (HC _)) | (go_at_call 62; exact calm_same (begin_c g _ _ ov xs m x HX.out f g _ (HGB _) (HLB _))))))
          refine wpQuiet_nil ?_
          rintro _ ⟨⟨w3, hb3⟩, rfl⟩
          go_wp2
          go_roundw
          case rel => exact ⟨k + 1, a, by omega, by go_num, rfl, by rw [HN.out, T.lstep_no xs f t a m x HX.out (by simp [T.cand, T.better, *])], by omega, by omega, bthen hB2 hb3⟩
          case measure => simp [intOf]; omega
      by_cases h4 : a < 0
      case pos =>
        · skip
          refine wp_region_calm (by kernel_rfl) (by kernel_rfl) ?_
          repeat ((fail_if_success (with_reducible refine wpQuiet_nil ?_)); (first | go_big_quiet_skip | (refine wpQuiet_load_at (by rfl) 31 _ rfl _ 0 17 rfl _ _ hr0 rfl rfl rfl ?_; simp only [Act.put, List.setIfInBounds_toArray, List.set_cons_succ, List.set_cons_zero]) | go_big_quiet_step (first | (go_at_call 45; exact calm_of (HC _)) | (go_at_call 62; exact calm_same (begin_c g _ _ ov xs m x HX.out f g _ (HGB _) (HLB _))))))
          refine wpQuiet_nil ?_
          rintro _ ⟨⟨w3, hb3⟩, rfl⟩
          go_wp2
          go_roundw
          case rel => exact ⟨k + 1, (m : Int), by omega, by go_num, rfl, by rw [HN.out, T.lstep_yes xs f t a m x HX.out (by simp [T.cand, T.better, *])], by omega, by omega, bthen hB2 hb3⟩
          case measure => simp [intOf]; omega
      obtain ⟨a', rfl⟩ : ∃ n : Nat, a = n := ⟨a.toNat, by omega⟩
      have hal : a' < xs.length := by omega
      obtain ⟨z, hz⟩ : ∃ z, z = xs[a'] := ⟨_, rfl⟩
      have d14a := rowAt_cell ((rowAt_block (hB2.block b (by omega))).trans (hall a' z (by rw [hz]; exact List.getElem?_eq_getElem hal))) 14 (by omega)
      rw [Item.at14] at d14a
      have hto : T.toOf xs (a' : Int) = z.to_ := by simp [T.toOf, hz, hal]
      have HT := Lib.hid hto
      clear hto hz hall
      by_cases h5 : z.to_ ≤ x.to_
      · skip
        refine wp_region_calm (by kernel_rfl) (by kernel_rfl) ?_
        repeat ((fail_if_success (with_reducible refine wpQuiet_nil ?_)); (first | go_big_quiet_skip | (refine wpQuiet_load_at (by rfl) 31 _ rfl _ 0 17 rfl _ _ hr0 rfl rfl rfl ?_; simp only [Act.put, List.setIfInBounds_toArray, List.set_cons_succ, List.set_cons_zero]) | go_big_quiet_step (first | (go_at_call 45; exact calm_of (HC _)) | (go_at_call 62; exact calm_same (begin_c g _ _ ov xs m x HX.out f g _ (HGB _) (HLB _))))))
        refine wpQuiet_nil ?_
        rintro _ ⟨⟨w3, hb3⟩, rfl⟩
        go_wp2
        go_roundw
        case rel => exact ⟨k + 1, (m : Int), by omega, by go_num, rfl, by rw [HN.out, T.lstep_yes xs f t a' m x HX.out (by simp [T.cand, T.better, HT.out, *])], by omega, by omega, bthen hB2 hb3⟩
        case measure => simp [intOf]; omega
      · skip
        refine wp_region_calm (by kernel_rfl) (by kernel_rfl) ?_
        repeat ((fail_if_success (with_reducible refine wpQuiet_nil ?_)); (first | go_big_quiet_skip | (refine wpQuiet_load_at (by rfl) 31 _ rfl _ 0 17 rfl _ _ hr0 rfl rfl rfl ?_; simp only [Act.put, List.setIfInBounds_toArray, List.set_cons_succ, List.set_cons_zero]) | go_big_quiet_step (first | (go_at_call 45; exact calm_of (HC _)) | (go_at_call 62; exact calm_same (begin_c g _ _ ov xs m x HX.out f g _ (HGB _) (HLB _))))))
        refine wpQuiet_nil ?_
        rintro _ ⟨⟨w3, hb3⟩, rfl⟩
        go_wp2
        go_roundw
        case rel => exact ⟨k + 1, (a' : Int), by omega, by go_num, rfl, by rw [HN.out, T.lstep_no xs f t a' m x HX.out (by simp [T.cand, T.better, HT.out, *])], by omega, by omega, bthen hB2 hb3⟩
        case measure => simp [intOf]; omega
    · rw [List.take_of_length_le (by omega)] at ha
      have HA := Lib.hid (show T.last xs i f t = a from ha.symm)
      clear ha
      go_wp2
      go_ret
      exact ⟨ret_int HA.out.symm, hB⟩
end Go.Proofs.Ytcmngomncdeffaa
