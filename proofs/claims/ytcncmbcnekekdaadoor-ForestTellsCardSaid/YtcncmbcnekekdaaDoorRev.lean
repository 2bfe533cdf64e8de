/- slices.Reverse over a list of the call's own, in place. -/
import Derived.Test.YtcncmbcnekekdaaDoorMany
import Derived.Test.YtcncmbcnekekdaaDoorKept
import Derived.Test.YtcncmbcnekekdaaDoorAny
namespace Go.Proofs.YtcncmbcnekekdaaDoor
open Go.RowKit
set_option linter.unusedVariables false
set_option linter.unusedSimpArgs false

theorem Kept.setCells {F g : Nat} {a w : World} (h : Kept F g a w) (o : Nat) (vs : List Value) : Kept F g a (w.setCells g o vs) := by
  obtain ⟨h1, h2, h3, h4⟩ := setCells_rest g vs o w
  exact ⟨h1.trans h.os, h2.trans h.tape, h3.trans h.output, by rw [h4]; exact h.size, fun k hk hg => (setCells_other g vs o w k hg).trans (h.block k hk hg)⟩
theorem rev_step {α : Type} (L M : List α) (k q : Nat) (x y : α) (hl : M.length = L.length) (hq : q = L.length - 1 - k) (hkq : k < q) (hx : M[k]? = some x) (hy : M[q]? = some y)
    (h : ∀ m, m < L.length → M[m]? = if m < k ∨ L.length - k ≤ m then L[L.length - 1 - m]? else L[m]?) :
    ∀ m, m < L.length → ((M.set k y).set q x)[m]? = if m < k + 1 ∨ L.length - (k + 1) ≤ m then L[L.length - 1 - m]? else L[m]? := by
  intro m hm
  simp only [List.getElem?_set, List.length_set]
  by_cases e : q = m
  · subst e
    rw [if_pos rfl, if_pos (by omega), if_pos (by omega)]
    have := h k (by omega)
    rw [if_neg (by omega)] at this
    rw [show L.length - 1 - q = k by omega, ← this, hx]
  · rw [if_neg e]
    by_cases e2 : k = m
    · subst e2
      rw [if_pos rfl, if_pos (by omega), if_pos (by omega)]
      have := h q (by omega)
      rw [if_neg (by omega)] at this
      rw [← hq, ← this, hy]
    · rw [if_neg e2, h m hm]
      by_cases c : m < k ∨ L.length - k ≤ m
      · rw [if_pos c, if_pos (by omega)]
      · rw [if_neg c, if_neg (by omega)]
theorem rev_end {α : Type} (L M : List α) (k : Nat) (hl : M.length = L.length) (hk : L.length - 1 - k ≤ k)
    (h : ∀ m, m < L.length → M[m]? = if m < k ∨ L.length - k ≤ m then L[L.length - 1 - m]? else L[m]?) : M = L.reverse := by
  apply List.ext_getElem?
  intro m
  by_cases hm : m < L.length
  · rw [h m hm, List.getElem?_reverse hm]
    split
    · rfl
    · rw [show L.length - 1 - m = m by omega]
  · rw [List.getElem?_eq_none (by omega), List.getElem?_eq_none (by simp; omega)]
end Go.Proofs.YtcncmbcnekekdaaDoor
