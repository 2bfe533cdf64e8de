/- Steps read as they were told; lines that say nothing: the plain law. -/
import Derived.Test.YtpgdgboobnmjiaaDoorSBack
import Derived.Test.YtpgdgboobnmjiaaDoorReadP
import Derived.Test.YtpgdgboobnmjiaaDoorRLines
import Derived.Test.YtpgdgboobnmjiaaDoorSLines
namespace Go.Proofs.YtpgdgboobnmjiaaDoor
open Go.RowKit Go.Shelf
set_option linter.unusedVariables false
set_option linter.unusedSimpArgs false
theorem T.itoa_no10 (n : Int) : ∀ b ∈ Lib.itoa n, b ≠ 10 := by
  intro b hb e
  have hd : ∀ m : Nat, ∀ b ∈ Lib.decDigits m, b ≠ 10 := by
    intro m
    induction m using Nat.strongRecOn with
    | _ m ih =>
    intro b hb
    by_cases h : m < 10
    · rw [Lib.decDigits_one h] at hb
      simp only [List.mem_singleton] at hb
      subst hb
      have hm : ∀ k : Nat, k < 10 → UInt8.ofNat (48 + k) ≠ 10 := by decide
      exact hm m h
    · rw [decDigits_more m h, List.mem_append] at hb
      rcases hb with hb | hb
      · exact ih (m / 10) (by omega) b hb
      · exact ih (m % 10) (by omega) b hb
  rcases Int.lt_or_le n 0 with h | h
  · obtain ⟨m, rfl⟩ : ∃ m : Nat, n = -(m : Int) := ⟨n.natAbs, by omega⟩
    rw [Lib.itoa_neg m (by omega)] at hb
    rcases List.mem_cons.1 hb with rfl | hb
    · exact absurd e (by decide)
    · exact hd m b hb e
  · obtain ⟨m, rfl⟩ : ∃ m : Nat, n = (m : Int) := ⟨n.toNat, by omega⟩
    rw [Lib.itoa_nonneg] at hb
    exact hd m b hb e
theorem T.word_no10 (k : Int) (h : 1 ≤ k ∧ k ≤ 11) : ∀ b ∈ T.word k, b ≠ 10 := by
  rcases T.kinds k h with rfl | rfl | rfl | rfl | rfl | rfl | rfl | rfl | rfl | rfl | rfl <;> decide +kernel
theorem T.word_head (k : Int) (h : 1 ≤ k ∧ k ≤ 11) (l : List UInt8) : ¬ (T.word k ++ l = [] ∨ (T.word k ++ l).head? = some 35) := by
  rcases T.kinds k h with rfl | rfl | rfl | rfl | rfl | rfl | rfl | rfl | rfl | rfl | rfl <;> simp [T.word, T.words]
theorem T.numsText_no10 (l : List Int) : ∀ b ∈ T.numsText l, b ≠ 10 := by
  intro b hb
  unfold T.numsText at hb
  obtain ⟨n, _, hn⟩ := List.mem_flatMap.1 hb
  rcases List.mem_cons.1 hn with rfl | hn
  · decide
  · exact T.itoa_no10 n b hn
theorem T.stepText_form {s : Step} (h : T.stepRight s = true) : T.stepText s = T.word s.kind ++ T.numsText (s.nums.take (T.has s.kind).toNat) := by
  have hk := T.stepRight_kind h
  rw [T.stepText, if_pos (by simpa [T.stepIs] using hk)]
theorem T.stepText_no10 {s : Step} (h : T.stepRight s = true) : ∀ b ∈ T.stepText s, b ≠ 10 := by
  intro b hb
  rw [T.stepText_form h, List.mem_append] at hb
  rcases hb with hb | hb
  · exact T.word_no10 _ (T.stepRight_kind h) b hb
  · exact T.numsText_no10 _ b hb
theorem T.stepText_says {s : Step} (h : T.stepRight s = true) : ¬ (T.stepText s = [] ∨ (T.stepText s).head? = some 35) := by
  rw [T.stepText_form h]; exact T.word_head _ (T.stepRight_kind h) _
/-- The lines of lines. -/
def T.allOf (ls : List (List UInt8)) : List UInt8 := ls.flatMap fun l => l ++ [10]
theorem T.allOf_snoc (ls : List (List UInt8)) (l : List UInt8) : T.allOf (ls ++ [l]) = T.allOf ls ++ (l ++ [10]) := by simp [T.allOf]
theorem T.lines_all (ls : List (List UInt8)) (h : ∀ l ∈ ls, ∀ b ∈ l, b ≠ 10) : T.lines (T.allOf ls) = ls := by
  induction ls with
  | nil => rfl
  | cons l ls ih =>
    have e : T.allOf (l :: ls) = l ++ 10 :: T.allOf ls := by simp [T.allOf]
    rw [e, T.lines_line _ _ (h l List.mem_cons_self), ih fun x hx => h x (List.mem_cons_of_mem _ hx)]
theorem T.script_all (xs : List Step) : T.scriptText xs = T.allOf (xs.map T.stepText) := by
  simp [T.scriptText, T.allOf, List.flatMap_map]
theorem T.readGo_texts (xs : List Step) (h : ∀ x ∈ xs, T.stepRight x = true) (out : List Step) (k : Nat) (ho : out.length ≤ 400) :
    T.readGo (xs.map T.stepText) out k = if out.length + xs.length ≤ 400 then (out ++ xs, 0, 0) else ([], ((k + (400 - out.length) : Nat) : Int) + 1, 6) := by
  induction xs generalizing out k with
  | nil => rw [if_pos (by simpa using ho)]; simp [T.readGo]
  | cons x xs ih =>
    have hx := h x List.mem_cons_self
    rw [List.map_cons]
    by_cases hf : 400 ≤ out.length
    · rw [T.readGo_full _ _ _ _ (T.stepText_says hx) hf, if_neg (by simp only [List.length_cons]; omega), show k + (400 - out.length) = k by omega]
    · have hp := T.sparse_text hx
      rw [T.readGo_one _ _ _ _ (T.stepText_says hx) hf (by rw [hp]), hp, ih (fun y hy => h y (List.mem_cons_of_mem _ hy)) _ _ (by simp; omega)]
      by_cases hl : out.length + (xs.length + 1) ≤ 400
      · rw [if_pos (by simp; omega), if_pos (by simpa using hl)]; simp
      · rw [if_neg (by simp; omega), if_neg (by simpa using hl)]
        simp only [List.length_append, List.length_cons, List.length_nil]
        rw [show k + 1 + (400 - (out.length + (0 + 1))) = k + (400 - out.length) by omega]
theorem T.read_texts (xs : List Step) (h : ∀ x ∈ xs, T.stepRight x = true) : T.read (T.scriptText xs) = if xs.length ≤ 400 then (xs, 0, 0) else ([], 401, 6) := by
  rw [T.read, T.script_all, T.lines_all _ (by
    intro l hl
    obtain ⟨x, hx, rfl⟩ := List.mem_map.1 hl
    exact T.stepText_no10 (h x hx)), T.readGo_texts xs h [] 0 (by simp)]
  simp
/-! Lines that say nothing. -/
def T.mute (l : List UInt8) : Bool := decide (l = [] ∨ l.head? = some 35)
def T.badLine (l : List UInt8) : Bool := !T.mute l && !(T.sparse l).2
def T.wantOf (ls : List (List UInt8)) : List UInt8 := T.allOf (ls.filter fun l => !T.mute l)
def T.wrongFrom : List (List UInt8) → Nat → Nat
  | [], _ => 0
  | l :: ls, k => if T.badLine l = true then k + 1 else T.wrongFrom ls (k + 1)
theorem T.wrongFrom_snoc (ls : List (List UInt8)) (l : List UInt8) (k : Nat) : T.wrongFrom (ls ++ [l]) k = if T.wrongFrom ls k = 0 ∧ T.badLine l = true then k + ls.length + 1 else T.wrongFrom ls k := by
  induction ls generalizing k with
  | nil => simp [T.wrongFrom]
  | cons x ls ih =>
    simp only [List.cons_append, T.wrongFrom, List.length_cons]
    by_cases hx : T.badLine x = true
    · simp [hx]
    · simp only [hx, if_false, Bool.false_eq_true, if_false]
      rw [ih]
      split
      · omega
      · rfl
def T.wrongOf (ls : List (List UInt8)) : Nat := T.wrongFrom ls 0
theorem T.wrongOf_snoc (ls : List (List UInt8)) (l : List UInt8) : T.wrongOf (ls ++ [l]) = if T.wrongOf ls = 0 ∧ T.badLine l = true then ls.length + 1 else T.wrongOf ls := by
  unfold T.wrongOf; rw [T.wrongFrom_snoc]; simp
theorem T.wrongFrom_le (ls : List (List UInt8)) (k : Nat) : T.wrongFrom ls k ≤ k + ls.length := by
  induction ls generalizing k with
  | nil => simp [T.wrongFrom]
  | cons x ls ih =>
    simp only [T.wrongFrom, List.length_cons]
    split
    · omega
    · have := ih (k + 1); omega
theorem T.wantOf_snoc (ls : List (List UInt8)) (l : List UInt8) : T.wantOf (ls ++ [l]) = if T.mute l = true then T.wantOf ls else T.wantOf ls ++ (l ++ [10]) := by
  unfold T.wantOf
  rw [List.filter_append]
  by_cases h : T.mute l = true
  · simp [h]
  · rw [if_neg h, show [l].filter (fun l => !T.mute l) = [l] by simp [h], T.allOf_snoc]
theorem T.readGo_lines (ls : List (List UInt8)) (out : List Step) (k : Nat) (hn : out.length + ls.length ≤ 400) :
    (T.wrongFrom ls k = 0 → ∃ xs, T.readGo ls out k = (out ++ xs, 0, 0) ∧ T.scriptText xs = T.wantOf ls ∧ xs.length ≤ ls.length) ∧ (T.wrongFrom ls k ≠ 0 → T.readGo ls out k = ([], (T.wrongFrom ls k : Int), 10)) := by
  induction ls generalizing out k with
  | nil => exact ⟨fun _ => ⟨[], by simp [T.readGo], rfl, by simp⟩, fun h => absurd rfl h⟩
  | cons l ls ih =>
    simp only [List.length_cons] at hn
    by_cases hm : l = [] ∨ l.head? = some 35
    · have hmt : T.mute l = true := by simpa [T.mute] using hm
      have hw : T.wrongFrom (l :: ls) k = T.wrongFrom ls (k + 1) := by simp [T.wrongFrom, T.badLine, hmt]
      have hwant : T.wantOf (l :: ls) = T.wantOf ls := by simp [T.wantOf, hmt]
      rw [hw, hwant, T.readGo_skip l ls out k hm]
      obtain ⟨h1, h2⟩ := ih out (k + 1) (by omega)
      refine ⟨fun h => ?_, h2⟩
      obtain ⟨xs, e1, e2, e3⟩ := h1 h
      exact ⟨xs, e1, e2, by simp only [List.length_cons]; omega⟩
    · have hmt : T.mute l = false := by simpa [T.mute] using hm
      have hf : ¬ 400 ≤ out.length := by omega
      rcases hs : (T.sparse l).2 with _ | _
      · have hw : T.wrongFrom (l :: ls) k = k + 1 := by simp [T.wrongFrom, T.badLine, hmt, hs]
        rw [hw, T.readGo_bad l ls out k hm hf hs]
        exact ⟨fun h => by omega, fun _ => by simp⟩
      · have hw : T.wrongFrom (l :: ls) k = T.wrongFrom ls (k + 1) := by simp [T.wrongFrom, T.badLine, hmt, hs]
        have hwant : T.wantOf (l :: ls) = l ++ 10 :: T.wantOf ls := by simp [T.wantOf, hmt, T.allOf]
        rw [hw, hwant, T.readGo_one l ls out k hm hf hs]
        obtain ⟨h1, h2⟩ := ih (out ++ [(T.sparse l).1]) (k + 1) (by simp; omega)
        refine ⟨fun h => ?_, h2⟩
        obtain ⟨xs, e1, e2, e3⟩ := h1 h
        refine ⟨(T.sparse l).1 :: xs, by rw [e1]; simp, ?_, by simp only [List.length_cons]; omega⟩
        rw [show T.scriptText ((T.sparse l).1 :: xs) = (T.stepText (T.sparse l).1 ++ [10]) ++ T.scriptText xs by simp [T.scriptText], (T.sparse_some hs).2, e2]
        simp
theorem T.read_lines (ls : List (List UInt8)) (hn : ls.length ≤ 400) (h : ∀ l ∈ ls, ∀ b ∈ l, b ≠ 10) :
    (T.wrongOf ls = 0 → ∃ xs, T.read (T.allOf ls) = (xs, 0, 0) ∧ T.scriptText xs = T.wantOf ls ∧ xs.length ≤ ls.length) ∧ (T.wrongOf ls ≠ 0 → T.read (T.allOf ls) = ([], (T.wrongOf ls : Int), 10)) := by
  have := T.readGo_lines ls [] 0 (by simpa using hn)
  rw [T.read, T.lines_all ls h]
  simpa [T.wrongOf] using this
end Go.Proofs.YtpgdgboobnmjiaaDoor
