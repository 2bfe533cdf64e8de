/- Layer 36, the example. -/
import Derived.Test.YtcmngomncdeffaaCoverB
import Derived.Test.YtcmngomncdeffaaLits
namespace Go.Proofs.Ytcmngomncdeffaa
open Go.RowKit
set_option linter.unusedVariables false
set_option linter.unusedSimpArgs false
attribute [local go_sem] Item.sz Seg.sz
attribute [local go_sem high] eqTSeg

def T.ex36 : List Item := [⟨⟨⟨0, 0, 1⟩, 0⟩, ⟨⟨0, 0, 0⟩, 0⟩, ⟨0, 0, 0⟩, 0, 0, 0, 10, 7, 0⟩, ⟨⟨⟨0, 0, 2⟩, 1⟩, ⟨⟨0, 0, 1⟩, 0⟩, ⟨0, 0, 0⟩, 0, 0, 2, 7, 6, 0⟩]
instance (s : Seg) : Decidable (T.segOk s) := inferInstanceAs (Decidable ((_ ∧ _) ∧ _ ∧ _))
def T.sg36 : List Seg := [⟨0, 0, 2⟩, ⟨1, 2, 7⟩, ⟨0, 7, 10⟩]
theorem T.ex36_cover : T.cover T.ex36 0 = T.sg36 := by
  show T.cover T.ex36 ((0 : Nat) : Int) = T.sg36
  rw [T.cover_in T.ex36 0 _ rfl (by decide +kernel), T.span_some (k := 1) (x := T.ex36[1]) (by decide +kernel), T.span_none (i := 0) (f := 0) (by decide +kernel), T.span_none (i := 1) (by decide +kernel)]
  rfl
theorem Own.block {α : Type} {arr : α → Array Value} {sz base : Nat} {e : TypeId} {w : World} {v : Value} {xs : List α} (h : Own arr sz base e w v xs) (hn : 0 < xs.length) : ∃ g cap, v = .slice (some ⟨g, 0, none⟩) xs.length cap ∧ xs.length ≤ cap ∧ cap ≤ 9223372036854775807 := by
  rcases h.2 with ⟨_, h0⟩ | ⟨g, cap, cur, hv, _, _, hnc, hcm, _⟩
  · omega
  · exact ⟨g, cap, hv, hnc, by unfold maxLen at hcm; omega⟩
set_option maxRecDepth 100000 in
set_option maxHeartbeats 1000000 in
theorem awake36_c (w : World) : Calls Try.prog 20 #[] w fun e w' => e = .returned (.bool true) ∧ Below w.heap.size w w' := by
  go_enter Try.func20, Try.ntmps20
  go_wp2_with (refine wpList_sliceK Item.arr 17 rfl _ 31 _ [_, _] rfl T.ex36 rfl 136 Try.underlying24 (by kernel_rfl) (by decide) Item.sz (by decide) rfl ?_; intro w1 hown1 hb1)
  have hS1 := hown1.sl Item.sz
  have hB1 : Below w.heap.size w w1 := (((Below.refl _ w).alloc (Nat.le_refl _) _).alloc (by simp) _).trans (hb1.mono (by simp <;> omega))
  simp only [World.size_alloc] at hS1
  refine (cover_c _ _ _ _ hS1 (by decide)).mono ?_
  rintro e w2 ⟨z, rfl, hown2, hb2⟩
  rw [T.ex36_cover] at hown2
  have hB2 := bthen hB1 hb2
  obtain ⟨g, cap, rfl, hc1, hc2⟩ := hown2.block (by decide)
  have r0 := hown2.row Seg.sz 0 ⟨0, 0, 2⟩ rfl
  have r1 := hown2.row Seg.sz 1 ⟨1, 2, 7⟩ rfl
  have r2 := hown2.row Seg.sz 2 ⟨0, 7, 10⟩ rfl
  have hW := whole36_c _ T.sg36 w2 (hown2.sl Seg.sz) (by decide) (by decide)
  rw [show T.whole T.sg36 = 10 by decide] at hW
  have hsz2 := hB2.size
  have hl3 : T.sg36.length = 3 := rfl
  simp only [hl3] at hc1 hW ⊢
  simp only [Nat.zero_mul, Nat.one_mul, Nat.reduceMul] at r0 r1 r2
  clear hown1 hb1 hS1 hB1 hown2 hl3
  have tk : True := trivial
  go_wp2_with (first | (refine wpList_load_at_w rfl 46 _ rfl _ (0) 3 rfl _ _ r0 rfl rfl rfl ?_) | (refine wpList_load_at_w rfl 46 _ rfl _ (3) 3 rfl _ _ r1 rfl rfl rfl ?_) | (refine wpList_load_at_w rfl 46 _ rfl _ (6) 3 rfl _ _ r2 rfl rfl rfl ?_) | (refine wpList_build_w (by rfl) _ _ rfl _ ?_ _ (builtSeg ⟨0, 0, 2⟩) ?_; rfl) | (refine wpList_build_w (by rfl) _ _ rfl _ ?_ _ (builtSeg ⟨1, 2, 7⟩) ?_; rfl) | (refine wpList_build_w (by rfl) _ _ rfl _ ?_ _ (builtSeg ⟨0, 7, 10⟩) ?_; rfl) | (go_at_call 24; (with_reducible refine hW.mono ?_); rintro e w3 ⟨rfl, hb3⟩))
  go_ret
  exact ⟨rfl, bthen hB2 hb3⟩
end Go.Proofs.Ytcmngomncdeffaa
