/- slices.IndexFunc, ContainsFunc at the program's structs: the first element that is so. -/
import Derived.Test.YtcncmbcnekekdaaDoorList
import Derived.Test.YtcncmbcnekekdaaDoorTypes
namespace Go.Proofs.YtcncmbcnekekdaaDoor
open Go.RowKit
set_option linter.unusedVariables false
set_option linter.unusedSimpArgs false

def T.idx {α : Type} (p : α → Bool) (xs : List α) : Int := if xs.any p then (xs.findIdx p : Int) else -1
theorem T.idx_hit {α : Type} (p : α → Bool) (xs : List α) (k : Nat) (x : α) (hx : xs[k]? = some x) (hp : p x = true) (h : ∀ y ∈ xs.take k, p y = false) : T.idx p xs = (k : Int) := by
  have hk := (List.getElem?_eq_some_iff.1 hx).1
  have hm := List.mem_of_getElem? hx
  have ha : xs.any p = true := List.any_eq_true.2 ⟨x, hm, hp⟩
  unfold T.idx
  rw [if_pos ha]
  have e : xs = xs.take k ++ (x :: xs.drop (k + 1)) := by
    have h1 := List.take_append_drop k xs
    rw [List.drop_eq_getElem_cons hk, (List.getElem?_eq_some_iff.1 hx).2] at h1
    exact h1.symm
  have hf : xs.findIdx p = k := by
    rw [e, List.findIdx_append]
    have hn : ¬ (List.findIdx p (xs.take k) < (xs.take k).length) := by
      intro hlt
      have := List.findIdx_getElem (w := hlt)
      rw [h _ (List.getElem_mem _)] at this
      cases this
    rw [if_neg hn, List.findIdx_cons]
    simp [hp, Nat.min_eq_left (Nat.le_of_lt hk)]
  rw [hf]
theorem T.idx_none {α : Type} (p : α → Bool) (xs : List α) (h : ∀ y ∈ xs, p y = false) : T.idx p xs = -1 := by
  have ha : ¬ (xs.any p = true) := by
    intro ha
    obtain ⟨x, hx, hp⟩ := List.any_eq_true.1 ha
    rw [h x hx] at hp; cases hp
  unfold T.idx
  rw [if_neg ha]
theorem T.idx_any {α : Type} (p : α → Bool) (xs : List α) : decide (0 ≤ T.idx p xs) = xs.any p := by
  unfold T.idx
  split
  · rename_i h; rw [h]; simp
  · rename_i h; simp at h ⊢; exact h
/-- What a function value answers on elements, in whatever world that holds what lies below B as w does. -/
def Answers {α : Type} (arg : α → Value) (f : FuncId) (lb : List Value) (p : α → Bool) (B : Nat) (w : World) (xs : List α) : Prop :=
  ∀ x ∈ xs, ∀ W, Below B w W → Calls Tryd.prog f (arg x :: lb).toArray W fun e W' => e = .returned (.bool (p x)) ∧ Below W.heap.size W W'
end Go.Proofs.YtcncmbcnekekdaaDoor
