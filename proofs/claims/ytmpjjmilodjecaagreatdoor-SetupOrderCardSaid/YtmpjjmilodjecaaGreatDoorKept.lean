/- Worlds that differ in one block. -/
import Derived.Test.YtmpjjmilodjecaaGreatDoorList
namespace Go.Proofs.YtmpjjmilodjecaaGreatDoor
open Go.RowKit
set_option linter.unusedVariables false

/-! Blocks below F, but for g, lie as they lay. -/
structure Kept (F g : Nat) (w w' : World) : Prop where
  os : w'.os = w.os
  tape : w'.tape = w.tape
  output : w'.output = w.output
  size : w.heap.size ≤ w'.heap.size
  block : ∀ k, k < F → k ≠ g → w'.heap[k]? = w.heap[k]?
theorem Kept.refl (F g : Nat) (w : World) : Kept F g w w := ⟨rfl, rfl, rfl, Nat.le_refl _, fun _ _ _ => rfl⟩
theorem Kept.trans {F g : Nat} {a b c : World} (h : Kept F g a b) (k : Kept F g b c) : Kept F g a c :=
  ⟨k.os.trans h.os, k.tape.trans h.tape, k.output.trans h.output, Nat.le_trans h.size k.size, fun i hi hg => (k.block i hi hg).trans (h.block i hi hg)⟩
theorem Kept.of_below {F g B : Nat} {w w' : World} (h : Below B w w') (hF : F ≤ B) : Kept F g w w' := ⟨h.os, h.tape, h.output, h.size, fun k hk _ => h.block k (by omega)⟩
theorem Kept.below {F g B : Nat} {w w' : World} (h : Kept F g w w') (hB : B ≤ g) (hF : g ≤ F) : Below B w w' := ⟨h.os, h.tape, h.output, h.size, fun k hk => h.block k (by omega) (by omega)⟩
theorem Kept.setCell {F g : Nat} {a w : World} (h : Kept F g a w) (o : Nat) (u : Value) : Kept F g a (w.setCell ⟨g, o, none⟩ u) :=
  ⟨h.os, h.tape, h.output, by simpa using h.size, fun k hk hg => (Below.heap_setCell w ⟨g, o, none⟩ u k hg).trans (h.block k hk hg)⟩

theorem Kept.drew {F g : Nat} {a w : World} (h : Kept F g a w) : Kept F g a w.drew := ⟨h.os, h.tape, h.output, h.size, h.block⟩
end Go.Proofs.YtmpjjmilodjecaaGreatDoor
