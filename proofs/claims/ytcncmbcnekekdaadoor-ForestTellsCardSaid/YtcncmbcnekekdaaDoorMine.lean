/- The laws' own items, made the program's. -/
import Derived.Test.YtcncmbcnekekdaaDoorList
import Derived.Test.YtcncmbcnekekdaaDoorTypes
namespace Go.Proofs.YtcncmbcnekekdaaDoor
open Go.RowKit
attribute [local go_sem] Item.sz Key.sz Id.sz Item.at11 Item.at12 Item.at13 Item.at14 Item.at15 Item.at16

set_option maxRecDepth 100000 in
set_option maxHeartbeats 1000000 in
theorem mine31_c (v : Value) (xs : List Item) (w : World) (h : Sl Item.arr 17 w.heap.size w v xs) (hn : xs.length ≤ 100000) :
    Calls Tryd.prog 14 #[v] w fun e w' => ∃ u, e = .returned u ∧ Own Item.arr 17 w.heap.size 88 w' u xs ∧ Below w.heap.size w w' := by
  obtain ⟨A, cap, rfl, hcap, hl1, hl2⟩ := h.view
  go_enter Tryd.func14, Tryd.ntmps14
  go_wp2
  go_loopw [3, 4] (fun u i wr => ∃ k : Nat, k ≤ xs.length ∧ i = .int .i64 k ∧ Own Item.arr 17 w.heap.size 88 wr u (xs.take k) ∧ Below w.heap.size w wr) (fun _ i _ => xs.length - (intOf i).toNat)
  case atStart => exact ⟨0, Nat.zero_le _, rfl, Own.nil, Below.refl _ _⟩
  case round =>
    obtain ⟨k, hk, rfl, hown, hB⟩ := hrel
    by_cases hkl : k < xs.length
    · obtain ⟨b, off, rfl, hb, hrow, _⟩ := (h.below hB).at hkl
      obtain ⟨x, hx⟩ : ∃ x, x = xs[k] := ⟨_, rfl⟩
      rw [← hx] at hrow
      have hnext : xs.take (k + 1) = xs.take k ++ [x] := by rw [hx]; simp
      clear hx h
      have hlen : (xs.take k).length = k := by simp; omega
      have hsz := hB.size
      have p1 : rowAt (wr.alloc (.cells (Item.arr x) 89)) wr.heap.size 0 4 = some (Key.arr x.key) := (rowAt_new_part _ _ _ _ _ _ _ rfl (Nat.le_of_ble_eq_true rfl)).trans (congrArg some (Item.part_key x))
      have p2 : rowAt (wr.alloc (.cells (Item.arr x) 89)) wr.heap.size 4 4 = some (Key.arr x.parent) := (rowAt_new_part _ _ _ _ _ _ _ rfl (Nat.le_of_ble_eq_true rfl)).trans (congrArg some (Item.part_parent x))
      have p3 : rowAt (wr.alloc (.cells (Item.arr x) 89)) wr.heap.size 8 3 = some (Id.arr x.root) := (rowAt_new_part _ _ _ _ _ _ _ rfl (Nat.le_of_ble_eq_true rfl)).trans (congrArg some (Item.part_root x))
      have p4 : rowAt ((wr.alloc (.cells (Item.arr x) 89)).alloc (.cells (Item.arr x) 88)) (wr.heap.size + 1) 0 17 = some (Item.arr x) := rowAt_new _ _ _ _ _ (by simp)
      have HN := Lib.hid hnext
      have HL := Lib.hid hlen
      clear hnext hlen
      go_wp2_with (first | (refine wpList_load_at rfl 89 _ rfl _ (off + k * 17) 17 rfl _ _ hrow rfl rfl rfl ?_) | (refine wpList_store_new rfl _ _ _ rfl wr.heap.size (Item.arr x) _ _ rfl rfl rfl rfl rfl (Item.one x) ?_) | (refine wpList_load_at rfl 46 _ rfl _ (0) 4 rfl _ _ p1 rfl rfl rfl ?_) | (refine wpList_load_at rfl 46 _ rfl _ (4) 4 rfl _ _ p2 rfl rfl rfl ?_) | (refine wpList_load_at rfl 38 _ rfl _ (8) 3 rfl _ _ p3 rfl rfl rfl ?_) | (refine wpList_build_at rfl _ _ rfl _ ?_ _ (builtItem x) ?_; rfl) | (refine wpList_slice1 rfl _ 88 _ rfl (Item.arr x) 17 136 Tryd.underlying24 (by kernel_rfl) (by decide) rfl rfl (wr.heap.size + 1) (by simp) ?_) | (at_builtin; refine wpList_append1 Item.arr 17 rfl _ _ _ rfl w.heap.size 88 136 Tryd.underlying24 (by kernel_rfl) (by decide) _ (xs.take k) x rfl ((hown.alloc _).alloc _) (wr.heap.size + 1) rfl p4 (Item.one x) (by rw [HL.out]; omega) (by rw [HL.out]; omega) (by simp <;> omega) ?_; intro v' w' hown' hgr' hbel'))
      clear hgr'
      go_roundw
      case rel => exact ⟨k + 1, by omega, by go_num, by rw [HN.out]; exact hown', ((hB.alloc hsz _).alloc (by simp; omega) _).trans hbel'⟩
      case measure => simp [intOf]; omega
    · go_wp2
      go_ret
      rw [List.take_of_length_le (by omega)] at hown
      exact ⟨_, rfl, hown, hB⟩
end Go.Proofs.YtcncmbcnekekdaaDoor
