/- A step's text is parsed back. -/
import Derived.Test.YtpgdgboobnmjiaaDoorSParse
namespace Go.Proofs.YtpgdgboobnmjiaaDoor
open Go.RowKit Go.Shelf
set_option linter.unusedVariables false
set_option linter.unusedSimpArgs false
theorem T.itoa_free (n : Int) : ∀ b ∈ Lib.itoa n, b ≠ 32 := by
  have hd : ∀ m : Nat, ∀ b ∈ Lib.decDigits m, b ≠ 32 := fun m b hb e => by
    have := T.dec_digit m b hb
    rw [e] at this
    exact absurd this (by decide)
  by_cases h0 : 0 ≤ n
  · obtain ⟨m, rfl⟩ : ∃ m : Nat, n = (m : Int) := ⟨n.toNat, by omega⟩
    rw [Lib.itoa_nonneg]
    exact hd m
  · obtain ⟨m, rfl⟩ : ∃ m : Nat, n = -(m : Int) := ⟨(-n).toNat, by omega⟩
    rw [Lib.itoa_neg m (by omega)]
    intro b hb
    rcases List.mem_cons.1 hb with rfl | hb
    · decide
    · exact hd m b hb
theorem T.itoa_short (n : Int) (h : -1125899906842624 ≤ n ∧ n ≤ 1125899906842624) : (Lib.itoa n).length ≤ 17 := by
  by_cases h0 : 0 ≤ n
  · obtain ⟨m, rfl⟩ : ∃ m : Nat, n = (m : Int) := ⟨n.toNat, by omega⟩
    rw [Lib.itoa_nonneg]
    have := T.dec_len 16 m (by have : (m : Int) ≤ 1125899906842624 := h.2; omega) (by omega)
    omega
  · obtain ⟨m, rfl⟩ : ∃ m : Nat, n = -(m : Int) := ⟨(-n).toNat, by omega⟩
    rw [Lib.itoa_neg m (by omega)]
    have := T.dec_len 16 m (by omega) (by omega)
    simp; omega
theorem T.word_free (k : Int) (h : 1 ≤ k ∧ k ≤ 11) : ∀ b ∈ T.word k, b ≠ 32 := by
  rcases T.kinds k h with rfl | rfl | rfl | rfl | rfl | rfl | rfl | rfl | rfl | rfl | rfl <;> decide
theorem T.parts_nums (p : List UInt8) (hp : ∀ b ∈ p, b ≠ 32) (ns : List Int) : T.parts 32 (p ++ T.numsText ns) = p :: ns.map Lib.itoa := by
  induction ns generalizing p with
  | nil => simp only [T.numsText, List.flatMap_nil, List.append_nil, List.map_nil]; exact T.parts_free 32 p hp
  | cons n ns ih =>
    have : p ++ T.numsText (n :: ns) = p ++ 32 :: (Lib.itoa n ++ T.numsText ns) := by simp [T.numsText]
    rw [this, T.parts_app 32 p _ hp, ih _ (T.itoa_free n)]
    rfl
theorem T.stepRight_kind {s : Step} (h : T.stepRight s = true) : 1 ≤ s.kind ∧ s.kind ≤ 11 := by
  simp only [T.stepRight, Bool.and_eq_true, T.stepIs, decide_eq_true_eq] at h
  exact h.1
theorem T.stepRight_num {s : Step} (h : T.stepRight s = true) (k : Nat) (hk : k < 4) : (-1125899906842624 ≤ s.nums[k]'hk ∧ s.nums[k]'hk ≤ 1125899906842624) ∧ ((k : Int) < T.has s.kind ∨ s.nums[k]'hk = 0) := by
  simp only [T.stepRight, Bool.and_eq_true] at h
  have h2 := h.2
  rw [Step.nums, T.nums4] at h2
  simp only [Bool.and_eq_true, T.numOk, decide_eq_true_eq] at h2
  obtain ⟨a, b, c, d⟩ := h2
  match k, hk with
  | 0, _ => exact ⟨⟨a.1, a.2.1⟩, a.2.2⟩
  | 1, _ => exact ⟨⟨b.1, b.2.1⟩, b.2.2⟩
  | 2, _ => exact ⟨⟨c.1, c.2.1⟩, c.2.2⟩
  | 3, _ => exact ⟨⟨d.1, d.2.1⟩, d.2.2⟩
theorem T.step_parts {s : Step} (h : T.stepRight s = true) : T.parts 32 (T.stepText s) = T.word s.kind :: (s.nums.take (T.has s.kind).toNat).map Lib.itoa := by
  have hk := T.stepRight_kind h
  have : T.stepText s = T.word s.kind ++ T.numsText (s.nums.take (T.has s.kind).toNat) := by
    rw [T.stepText, if_pos (by simp [T.stepIs, hk])]
  rw [this, T.parts_nums _ (T.word_free _ hk)]
theorem T.snum_step {s : Step} (h : T.stepRight s = true) (k : Nat) (hk : k < 4) : T.snum (T.stepText s) k = s.nums[k]'hk := by
  have hp := T.step_parts h
  obtain ⟨hb, hz⟩ := T.stepRight_num h k hk
  unfold T.snum
  rw [hp, List.getElem?_cons_succ, List.getElem?_map]
  have hb4 := T.has_bd s.kind
  by_cases hh : (k : Int) < T.has s.kind
  · rw [List.getElem?_take_of_lt (by omega), List.getElem?_eq_getElem hk]
    simp only [Option.map_some]
    exact T.atoi_itoa _ (by have := T.itoa_short _ hb; omega)
  · rw [List.getElem?_eq_none (by simp; omega)]
    simp only [Option.map_none]
    exact (hz.resolve_left hh).symm
theorem T.rawStep_text {s : Step} (h : T.stepRight s = true) : T.rawStep (T.stepText s) = s := by
  have h0 := T.snum_step h 0 (by omega)
  have h1 := T.snum_step h 1 (by omega)
  have h2 := T.snum_step h 2 (by omega)
  have h3 := T.snum_step h 3 (by omega)
  have hk : T.kindOf (T.head (T.stepText s)) = s.kind := by
    rw [T.head, T.step_parts h]
    exact T.kindOf_word _ (T.stepRight_kind h)
  unfold T.rawStep
  rw [h0, h1, h2, h3, hk]
  rfl
theorem T.sparse_text {s : Step} (h : T.stepRight s = true) : T.sparse (T.stepText s) = (s, true) := by
  unfold T.sparse
  rw [T.rawStep_text h, if_pos ⟨h, rfl⟩]
theorem T.sparse_some {l : List UInt8} (h : (T.sparse l).2 = true) : T.stepRight (T.sparse l).1 = true ∧ T.stepText (T.sparse l).1 = l := by
  unfold T.sparse at h ⊢
  split
  · rename_i hc; exact hc
  · rename_i hc; rw [if_neg hc] at h; cases h
theorem T.sparse_none {l : List UInt8} (h : (T.sparse l).2 = false) : T.sparse l = (T.zeroS, false) := by
  unfold T.sparse at h ⊢
  split
  · rename_i hc; rw [if_pos hc] at h; cases h
  · rfl
end Go.Proofs.YtpgdgboobnmjiaaDoor
