/- Lines of a text, each with its end; and without. -/
import Derived.Test.YtpgdgboobnmjiaaGreatDoorText
import Derived.Lib.Strings
import Derived.Lib.Bytealg
namespace Go.Proofs.YtpgdgboobnmjiaaGreatDoor
open Go.RowKit Go.Shelf
set_option linter.unusedVariables false
set_option linter.unusedSimpArgs false
/-- The lines, each with the line's end that it has. -/
def T.linesK : List UInt8 → List (List UInt8)
  | [] => []
  | c :: cs => if c = 10 then [10] :: T.linesK cs else match T.linesK cs with
    | [] => [[c]]
    | l :: ls => (c :: l) :: ls
theorem T.linesK_nil (l : List UInt8) : T.linesK l = [] ↔ l = [] := by
  cases l with
  | nil => simp [T.linesK]
  | cons c cs =>
    simp only [T.linesK]
    split
    · simp
    · split <;> simp
theorem T.linesK_line (p r : List UInt8) (hp : ∀ c ∈ p, c ≠ 10) : T.linesK (p ++ 10 :: r) = (p ++ [10]) :: T.linesK r := by
  induction p with
  | nil => simp [T.linesK]
  | cons c p ih =>
    have hc : c ≠ 10 := hp c List.mem_cons_self
    have := ih fun x hx => hp x (List.mem_cons_of_mem _ hx)
    simp only [List.cons_append, T.linesK, if_neg hc, this]
theorem T.linesK_last (p : List UInt8) (h0 : p ≠ []) (hp : ∀ c ∈ p, c ≠ 10) : T.linesK p = [p] := by
  induction p with
  | nil => exact absurd rfl h0
  | cons c p ih =>
    have hc : c ≠ 10 := hp c List.mem_cons_self
    cases p with
    | nil => simp [T.linesK, hc]
    | cons d q =>
      have := ih (by simp) fun x hx => hp x (List.mem_cons_of_mem _ hx)
      rw [T.linesK, if_neg hc, this]
theorem T.linesK_flat (l : List UInt8) : (T.linesK l).flatten = l := by
  induction l with
  | nil => rfl
  | cons c l ih =>
    simp only [T.linesK]
    split
    · rename_i h; simp [ih, h]
    · split
      · rename_i h; rw [h] at ih; simp at ih; simp [← ih]
      · rename_i l ls h; rw [h] at ih; simp at ih; simp [← ih]
theorem T.linesK_ne (l : List UInt8) : ∀ x ∈ T.linesK l, x ≠ [] := by
  induction l with
  | nil => simp [T.linesK]
  | cons c l ih =>
    simp only [T.linesK]
    split
    · intro x hx
      rcases List.mem_cons.1 hx with rfl | h
      · simp
      · exact ih x h
    · split
      · intro x hx; simp at hx; simp [hx]
      · rename_i l ls h
        rw [h] at ih
        intro x hx
        rcases List.mem_cons.1 hx with rfl | hx
        · simp
        · exact ih x (List.mem_cons_of_mem _ hx)
theorem T.linesK_len (l : List UInt8) : (T.linesK l).length ≤ l.length := by
  induction l with
  | nil => simp [T.linesK]
  | cons c l ih =>
    simp only [T.linesK]
    split
    · simp; exact ih
    · split
      · simp
      · rename_i l ls h
        rw [h] at ih
        simp at ih ⊢
        omega
theorem T.linesK_le (l x : List UInt8) (h : x ∈ T.linesK l) : x.length ≤ l.length := by
  have := T.linesK_flat l
  have h2 : x.length ≤ ((T.linesK l).map List.length).sum := by
    generalize T.linesK l = ls at h
    induction ls with
    | nil => cases h
    | cons y ys ih =>
      simp only [List.map_cons, List.sum_cons]
      rcases List.mem_cons.1 h with rfl | h
      · omega
      · have := ih h; omega
  rw [← List.length_flatten, this] at h2
  exact h2
/-- The next line's bounds. -/
theorem T.index_bd (l : List UInt8) : -1 ≤ Lib.indexByte l 10 ∧ Lib.indexByte l 10 < l.length := by
  induction l with
  | nil => simp [Lib.indexByte]
  | cons b l ih =>
    simp only [Lib.indexByte, List.length_cons]
    split
    · omega
    · split <;> omega
theorem T.index_cut (l : List UInt8) (i : Nat) (h : Lib.indexByte l 10 = (i : Int)) : i < l.length ∧ T.linesK l = l.take (i + 1) :: T.linesK (l.drop (i + 1)) := by
  refine ⟨by have := (T.index_bd l).2; omega, ?_⟩
  induction l generalizing i with
  | nil => simp [Lib.indexByte] at h
  | cons b l ih =>
    simp only [Lib.indexByte] at h
    by_cases hb : b = 10
    · simp [hb] at h
      obtain rfl : i = 0 := by omega
      simp [T.linesK, hb]
    · have hbd := T.index_bd l
      rw [if_neg (by simpa using hb)] at h
      split at h
      · rename_i h'
        omega
      · rename_i h'
        have h' : Lib.indexByte l 10 ≠ -1 := by simpa using h'
        obtain ⟨k, rfl⟩ : ∃ k, i = k + 1 := ⟨i - 1, by omega⟩
        have := ih k (by omega)
        rw [T.linesK, if_neg hb, this]
        simp
theorem T.index_none (l : List UInt8) (h0 : l ≠ []) (h : Lib.indexByte l 10 = -1) : T.linesK l = [l] := by
  refine T.linesK_last l h0 ?_
  clear h0
  induction l with
  | nil => simp
  | cons b l ih =>
    simp only [Lib.indexByte] at h
    by_cases hb : b = 10
    · simp [hb] at h
    · rw [if_neg (by simpa using hb)] at h
      have hbd := T.index_bd l
      have h1 : Lib.indexByte l 10 = -1 := by
        split at h
        · rename_i h'; simpa using h'
        · omega
      intro c hc
      rcases List.mem_cons.1 hc with rfl | hc
      · exact hb
      · exact ih h1 c hc
theorem T.index_cases (l : List UInt8) : Lib.indexByte l 10 = -1 ∨ ∃ i : Nat, Lib.indexByte l 10 = (i : Int) := by
  have := T.index_bd l
  by_cases h : Lib.indexByte l 10 = -1
  · exact .inl h
  · exact .inr ⟨(Lib.indexByte l 10).toNat, by omega⟩
/-- Without its end. -/
def T.trimNL (l : List UInt8) : List UInt8 := Lib.trimSuffix l [10]
def T.lines (l : List UInt8) : List (List UInt8) := (T.linesK l).map T.trimNL
end Go.Proofs.YtpgdgboobnmjiaaGreatDoor
