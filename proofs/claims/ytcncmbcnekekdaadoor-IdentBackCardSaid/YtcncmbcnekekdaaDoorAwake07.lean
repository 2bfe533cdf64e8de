/- Ids: the example. -/
import Derived.Test.YtcncmbcnekekdaaDoorParseW
import Derived.Test.YtcncmbcnekekdaaDoorCmp
namespace Go.Proofs.YtcncmbcnekekdaaDoor
open Go.RowKit Go.Shelf
set_option linter.unusedVariables false
set_option linter.unusedSimpArgs false
def T.d07 : Id := ⟨3, 0, 17⟩
def T.k07 : Key := ⟨T.d07, 2⟩
theorem T.d07_ok : Id.ok T.d07 := by unfold Id.ok i64 T.d07; simp
theorem T.k07_ok : Key.ok T.k07 := ⟨T.d07_ok, by unfold i64 T.k07; simp⟩
theorem T.d07_right : T.idRight T.d07 = true := by decide
theorem T.k07_right : T.keyRight T.k07 = true := by decide
theorem T.d07_text : T.idText T.d07 = [51, 46, 48, 46, 49, 55] := by decide +kernel
theorem T.k07_text : T.keyText T.k07 = [51, 46, 48, 46, 49, 55, 47, 50] := by decide +kernel
theorem T.d07_parse : T.parse [51, 46, 48, 46, 49, 55] = (T.d07, true) := by rw [← T.d07_text]; exact T.parse_back T.d07_right
attribute [local go_sem high] eqTId
attribute [local go_sem] Id.sz Key.sz
set_option maxRecDepth 100000 in
set_option maxHeartbeats 4000000 in
theorem awake07_c (w : World) (he : Env w) : Calls Tryd.prog 26 #[] w fun e w' => e = .returned (.bool true) ∧ Below w.heap.size w w' := by
  obtain ⟨W1, hW1⟩ : ∃ W1, W1 = w.alloc (Obj.cells (Key.arr T.k07) 46) := ⟨_, rfl⟩
  have hB1 : Below w.heap.size w W1 := by rw [hW1]; exact (Below.refl _ w).alloc (Nat.le_refl _) _
  have hz1 : w.heap.size < W1.heap.size := by rw [hW1]; simp
  have rK : rowAt W1 w.heap.size 0 4 = some (Key.arr T.k07) := by rw [hW1]; exact rowAt_new _ _ _ _ _ rfl
  have hp := parse_c [51, 46, 48, 46, 49, 55] (by decide) W1 (he.below hB1)
  rw [T.d07_parse] at hp
  have HW := Lib.hid hW1
  have HE := Lib.hid (he.below hB1)
  clear hW1
  go_enter Tryd.func26, Tryd.ntmps26
  go_wp2_with (first | (refine wpList_build_at rfl 38 _ rfl _ ?_ (Id.arr T.d07) (by kernel_rfl) ?_; rfl) | (refine wpList_build_at rfl 46 _ rfl _ ?_ (Key.arr T.k07) (by kernel_rfl) ?_; rfl) | (refine wpList_store_new rfl _ _ _ rfl w.heap.size (Key.arr T.k07) _ _ rfl rfl rfl rfl rfl (Key.one _) ?_; rw [← HW.out]))
  refine hp.mono ?_
  rintro r w2 ⟨rfl, hb2⟩
  obtain ⟨W3, hW3⟩ : ∃ W3, W3 = w2.alloc (Obj.cells (Id.arr T.d07) 38) := ⟨_, rfl⟩
  have hb3 : Below W1.heap.size W1 W3 := by rw [hW3]; exact hb2.alloc hb2.size _
  have hgz : w2.heap.size < W3.heap.size := by rw [hW3]; simp
  have rK3 := (rowAt_block (hb3.block w.heap.size hz1)).trans rK
  have rI3 : rowAt W3 w.heap.size 0 3 = some (Id.arr T.d07) := (rowAt_part rK3 0 3 (by omega)).trans (congrArg some (Key.part_id T.k07))
  have rD3 : rowAt W3 w2.heap.size 0 3 = some (Id.arr T.d07) := by rw [hW3]; exact rowAt_new _ _ _ _ _ rfl
  have hwz3 : w.heap.size < W3.heap.size := Nat.lt_of_lt_of_le hz1 hb3.size
  have he3 := HE.out.below hb3
  have K1 := keyText_c T.k07 T.k07_ok W3 he3.tab
  rw [T.k07_text] at K1
  have K2 := fun (X : World) => keyRight_c T.k07 X
  rw [T.k07_right] at K2
  have K3 := fun (X : World) => keys_c T.k07 T.k07 X
  rw [(T.keys_zero T.k07 T.k07).2 rfl] at K3
  have HW3 := Lib.hid hW3
  have hpe : T.perr true = 0 := rfl
  clear hW3 he rK
  go_wp2_with (first | (refine wpList_store_new rfl _ _ _ rfl w2.heap.size (Id.arr T.d07) _ _ rfl rfl rfl rfl rfl (Id.one _) ?_; rw [← HW3.out]) | (refine wpList_load_at_v 46 _ rfl rfl _ (0) 4 rfl _ _ rK3 rfl rfl rfl ?_) | (go_at_call 34; (with_reducible refine K1.mono ?_); rintro r w4 ⟨rfl, hb4⟩; have rK4 := (rowAt_block (hb4.block w.heap.size hwz3)).trans rK3; clear rK3 K1) | (refine wpList_load_at_v 46 _ rfl rfl _ (0) 4 rfl _ _ rK4 rfl rfl rfl ?_) | (go_at_call 30; (with_reducible refine (K2 _).mono ?_); rintro r w5 ⟨rfl, hb5⟩; have hb35 := bthen hb4 hb5; have rK5 := (rowAt_block (hb5.block w.heap.size (Nat.lt_of_lt_of_le hwz3 hb4.size))).trans rK4; have rI5 := (rowAt_block (hb35.block w.heap.size hwz3)).trans rI3; have rD5 := (rowAt_block (hb35.block w2.heap.size hgz)).trans rD3; clear rK4 rI3 rD3 K2) | (refine wpList_load_at_v 38 _ rfl rfl _ (0) 3 rfl _ _ rD5 rfl rfl rfl ?_) | (refine wpList_load_at_v 38 _ rfl rfl _ (0) 3 rfl _ _ rI5 rfl rfl rfl ?_) | (refine wpList_load_at_v 46 _ rfl rfl _ (0) 4 rfl _ _ rK5 rfl rfl rfl ?_) | (go_at_call 27; (with_reducible refine (K3 _).mono ?_); rintro r w6 ⟨rfl, hb6⟩))
  go_ret
  exact ⟨rfl, bthen hB1 (bthen hb3 (bthen hb35 hb6))⟩
end Go.Proofs.YtcncmbcnekekdaaDoor
