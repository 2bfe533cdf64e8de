/- Layer 36, the document's own. -/
import Derived.Test.YtcmngomncdeffaaPathB
namespace Go.Proofs.Ytcmngomncdeffaa
open Go.RowKit
set_option linter.unusedVariables false
set_option linter.unusedSimpArgs false
attribute [local go_sem] Seg.sz Seg.at0 Seg.at1 Seg.at2

theorem T.own_succ (n : Nat) (ss : List Seg) : T.own (n + 1) ss = T.own n ss ++ [T.whole (T.mineOf ss n)] := by simp [T.own, List.range_succ]
theorem T.mineOf_hit (ss : List Seg) (s : Seg) (i : Nat) (h : s.at_ = i) : T.mineOf (ss ++ [s]) i = T.mineOf ss i ++ [s] := by simp [T.mineOf, h]
theorem T.mineOf_miss (ss : List Seg) (s : Seg) (i : Nat) (h : ¬ s.at_ = i) : T.mineOf (ss ++ [s]) i = T.mineOf ss i := by simp [T.mineOf, h]

set_option maxRecDepth 100000 in
set_option maxHeartbeats 2000000 in
theorem rown36_c (u v : Value) (xs : List Item) (ss : List Seg) (w : World) (h : Sl Item.arr 17 w.heap.size w u xs) (h' : Sl Seg.arr 3 w.heap.size w v ss) (hok : ∀ s ∈ ss, T.segOk s) (hlen : ss.length ≤ 1000) (hxl : xs.length ≤ 100000) :
    Calls Try.prog 28 #[u, v] w fun e w' => ∃ z, e = .returned z ∧ Own intArr 1 w.heap.size 3 w' z (T.own xs.length ss) ∧ Below w.heap.size w w' := by
  obtain ⟨A, cap, rfl, hcap, hl1, hl2⟩ := h.view
  obtain ⟨A', cap', rfl, hcap', hl1', hl2'⟩ := h'.view
  go_enter Try.func28, Try.ntmps28
  go_wp2
  go_loopw [5, 6, 7, 8] (fun o i _ _ wr => ∃ k : Nat, k ≤ xs.length ∧ i = .int .i64 k ∧ Own intArr 1 w.heap.size 3 wr o (T.own k ss) ∧ Below w.heap.size w wr) (fun _ i _ _ _ => xs.length - (intOf i).toNat)
  case atStart => exact ⟨0, Nat.zero_le _, rfl, Own.nil, Below.refl _ _⟩
  case round =>
    obtain ⟨i, hi, rfl, hown, hB⟩ := hrel
    by_cases hil : i < xs.length
    · have hsz := hB.size
      obtain ⟨w0, hw0⟩ : ∃ z, z = wr := ⟨wr, rfl⟩
      subst hw0
      go_wp2
      go_loopw [7, 8] (fun m j wi => ∃ k : Nat, k ≤ ss.length ∧ j = .int .i64 k ∧ Own Seg.arr 3 w0.heap.size 47 wi m (T.mineOf (ss.take k) i) ∧ Below w0.heap.size w0 wi) (fun _ j _ => ss.length - (intOf j).toNat)
      case atStart => exact ⟨0, Nat.zero_le _, rfl, Own.nil, Below.refl _ _⟩
      case round =>
        obtain ⟨k, hk, rfl, hmine, hI⟩ := hrel
        have hBI := hB.trans (hI.mono hsz)
        by_cases hkl : k < ss.length
        · obtain ⟨b, off, rfl, hb, hrow, _⟩ := (h'.below hBI).at hkl
          obtain ⟨x, hx⟩ : ∃ x, x = ss[k] := ⟨_, rfl⟩
          rw [← hx] at hrow
          have hisz := hI.size
          have hnext : ss.take (k + 1) = ss.take k ++ [x] := by rw [hx]; simp
          have c0 := rowAt_cell hrow 0 (by omega)
          rw [Seg.at0, Nat.add_zero] at c0
          have hlen2 : (T.mineOf (ss.take k) i).length ≤ 1000 := by
            have := List.length_filter_le (fun s : Seg => decide (s.at_ = (i : Int))) (ss.take k)
            simp only [T.mineOf, List.length_take] at this ⊢
            omega
          have p4 : rowAt (wr.alloc (.cells (Seg.arr x) 47)) wr.heap.size 0 3 = some (Seg.arr x) := rowAt_new _ _ _ _ _ rfl
          have HN := Lib.hid hnext
          clear hx hnext h h' hown
          by_cases hat : x.at_ = i
          · have HM := Lib.hid (T.mineOf_hit (ss.take k) x i hat)
            go_wp2_with (first | (refine wpList_load_at rfl 47 _ rfl _ (off + k * 3) 3 rfl _ _ hrow rfl rfl rfl ?_) | (refine wpList_slice1 rfl _ 47 _ rfl (Seg.arr x) 3 24 Try.underlying43 (by kernel_rfl) (by decide) rfl rfl (wr.heap.size) (by simp) ?_) | (at_builtin; refine wpList_append1 Seg.arr 3 rfl _ _ _ rfl w0.heap.size 47 24 Try.underlying43 (by kernel_rfl) (by decide) _ (T.mineOf (ss.take k) i) x rfl (hmine.alloc _) (wr.heap.size) rfl p4 (Seg.one x) (by omega) (by omega) (by simp <;> omega) ?_; intro v' w' hown' hgr' hbel'))
            clear hgr'
            go_roundw
            case rel => exact ⟨k + 1, by omega, by go_num, by rw [HN.out, HM.out]; exact hown', (hI.alloc hisz _).trans hbel'⟩
            case measure => simp [intOf]; omega
          · have HM := Lib.hid (T.mineOf_miss (ss.take k) x i hat)
            go_wp2
            go_roundw
            case rel => exact ⟨k + 1, by omega, by go_num, by rw [HN.out, HM.out]; exact hmine, hI⟩
            case measure => simp [intOf]; omega
        · rw [List.take_of_length_le (by omega)] at hmine
          have hlen2 : (T.mineOf ss i).length ≤ 1000 := Nat.le_trans (List.length_filter_le _ _) hlen
          have hok2 : ∀ s ∈ T.mineOf ss i, T.segOk s := fun s hs => hok s (List.mem_filter.1 hs).1
          have hS := hmine.sl Seg.sz
          have hown2 := hown.below hI
          have HN := Lib.hid (T.own_succ i ss)
          have hisz := hI.size
          have hlenT := T.own_length i ss
          clear hok hown h h'
          go_wp2_with (first | (go_at_call 25; (with_reducible refine (rwhole36_c _ (T.mineOf ss i) _ hS hok2 hlen2).mono ?_); rintro e w2 ⟨rfl, hb2⟩; have hown3 := hown2.below hb2; have hB2 := hBI.trans (hb2.mono (Nat.le_trans hsz hisz)); have hz2 := hB2.size; have p4 : rowAt (w2.alloc (.cells #[.int .i64 (T.whole (T.mineOf ss i))] 3)) w2.heap.size 0 1 = some (intArr (T.whole (T.mineOf ss i))) := rowAt_new _ _ _ _ _ rfl) | (at_builtin; refine wpList_append1 intArr 1 rfl _ _ _ rfl w.heap.size 3 8 Try.underlying35 (by kernel_rfl) (by decide) _ (T.own i ss) (T.whole (T.mineOf ss i)) rfl (hown3.alloc _) (w2.heap.size) rfl p4 (intArr_one (T.whole (T.mineOf ss i))) (by omega) (by omega) (by simp <;> omega) ?_; intro v' w' hown' hgr' hbel'))
          clear hgr'
          go_roundw
          case rel => exact ⟨i + 1, by omega, by go_num, by rw [HN.out]; exact hown', (hB2.alloc hz2 _).trans hbel'⟩
          case measure => simp [intOf]; omega
    · have hie : i = xs.length := by omega
      rw [hie] at hown
      go_wp2
      go_ret
      exact ⟨_, rfl, hown, hB⟩
end Go.Proofs.Ytcmngomncdeffaa
