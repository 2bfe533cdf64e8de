/- Forest: the example. -/
import Derived.Test.YtcncmbcnekekdaaDoorGrowW
namespace Go.Proofs.YtcncmbcnekekdaaDoor
open Go.RowKit
set_option linter.unusedVariables false
set_option linter.unusedSimpArgs false
attribute [local go_sem] Item.sz Event.sz Item.at12 Item.at14 Item.at15 Item.set_to_ Item.set_how Item.set_code
attribute [local go_sem high] eqTItem

def T.ev31 : List Event := [⟨1, 0, 0, 0, ⟨⟨0, 0, 1⟩, 0⟩, ⟨⟨0, 0, 0⟩, 0⟩, ⟨0, 0, 0⟩, 0, 0, 0⟩, ⟨3, 0, 1, 0, ⟨⟨0, 0, 2⟩, 1⟩, ⟨⟨0, 0, 1⟩, 0⟩, ⟨0, 0, 0⟩, 0, 0, 0⟩, ⟨6, 4, 1, 0, ⟨⟨0, 0, 2⟩, 1⟩, ⟨⟨0, 0, 0⟩, 0⟩, ⟨0, 0, 0⟩, 0, 0, 0⟩]
def T.it31 : List Item := [⟨⟨⟨0, 0, 1⟩, 0⟩, ⟨⟨0, 0, 0⟩, 0⟩, ⟨0, 0, 0⟩, 0, 0, 0, -1, 0, 0⟩, ⟨⟨⟨0, 0, 2⟩, 1⟩, ⟨⟨0, 0, 1⟩, 0⟩, ⟨0, 0, 0⟩, 0, 1, 0, 4, 6, 0⟩]
theorem T.ev31_grow : T.grow T.ev31 = T.it31 := by decide +kernel
set_option maxRecDepth 100000 in
set_option maxHeartbeats 1000000 in
theorem awake31_c (w : World) : Calls Tryd.prog 13 #[] w fun e w' => e = .returned (.bool true) ∧ Below w.heap.size w w' := by
  go_enter Tryd.func13, Tryd.ntmps13
  go_wp2_with (refine wpList_sliceK Event.arr 18 rfl _ 85 _ [_, _, _] rfl T.ev31 rfl 144 Tryd.underlying86 (by kernel_rfl) (by decide) Event.sz (by decide) rfl ?_; intro w1 hown1 hb1)
  have hS1 := hown1.sl Event.sz
  have hB1 : Below w.heap.size w w1 := (((Below.refl _ w).alloc (Nat.le_refl _) _).alloc (by simp) _).trans (hb1.mono (by simp <;> omega))
  simp only [World.size_alloc] at hS1
  refine (grow_c _ _ _ hS1 (by decide)).mono ?_
  rintro e w2 ⟨z, rfl, hown2, hb2⟩
  rw [T.ev31_grow] at hown2
  have hB2 := bthen hB1 hb2
  obtain ⟨g, cap, rfl, hc1, hc2⟩ := own_block hown2 (by decide)
  have r0 := hown2.row Item.sz 0 T.it31[0] rfl
  have r1 := hown2.row Item.sz 1 T.it31[1] rfl
  have c14 : w2.cell? ⟨g, 14, none⟩ = some (.int .i64 (-1)) := rowAt_cell r0 14 (by omega)
  have c31 : w2.cell? ⟨g, 31, none⟩ = some (.int .i64 4) := rowAt_cell r1 14 (by omega)
  have c32 : w2.cell? ⟨g, 32, none⟩ = some (.int .i64 6) := rowAt_cell r1 15 (by omega)
  have hSl := hown2.sl Item.sz
  have hP := above_c_path _ T.it31 1 w2 hSl (by decide)
  rw [show T.path T.it31 1 = [1, 0] by decide +kernel] at hP
  have hl2 : T.it31.length = 2 := rfl
  simp only [hl2] at hP hSl ⊢
  clear hown1 hb1 hS1 hB1 hown2 r0 r1 hl2
  go_wp2_with (first | (go_at_call 18; (with_reducible refine hP.mono ?_); rintro e w3 ⟨u3, rfl, hown3, hb3⟩; obtain ⟨A3, n3, c3, rfl⟩ := hown3.shape; obtain rfl := own_len hown3; have hA := above_c _ T.it31 1 w3 ((hSl.below hb3).mono hb3.size); rw [show T.above T.it31 1 = 0 by decide +kernel] at hA) | (go_at_call 15; (with_reducible refine hA.mono ?_); rintro e w4 ⟨rfl, hb4⟩))
  go_ret
  exact ⟨rfl, bthen (bthen hB2 hb3) hb4⟩
end Go.Proofs.YtcncmbcnekekdaaDoor
