/- What Read of a script reads. -/
import Derived.Test.YtpgdgboobnmjiaaDoorLinesK
import Derived.Test.YtpgdgboobnmjiaaDoorSParse
namespace Go.Proofs.YtpgdgboobnmjiaaDoor
open Go.RowKit Go.Shelf
set_option linter.unusedVariables false
set_option linter.unusedSimpArgs false
/-- The lines that are still to come, the steps so far, the lines so far. -/
def T.readGo : List (List UInt8) → List Step → Nat → List Step × Int × Int
  | [], out, _ => (out, 0, 0)
  | l :: ls, out, k =>
    if l = [] ∨ l.head? = some 35 then T.readGo ls out (k + 1)
    else if 400 ≤ out.length then ([], (k : Int) + 1, 6)
    else if (T.sparse l).2 = true then T.readGo ls (out ++ [(T.sparse l).1]) (k + 1)
    else ([], (k : Int) + 1, 10)
def T.read (s : List UInt8) : List Step × Int × Int := T.readGo (T.lines s) [] 0
theorem T.readGo_skip (l : List UInt8) (ls : List (List UInt8)) (out : List Step) (k : Nat) (h : l = [] ∨ l.head? = some 35) : T.readGo (l :: ls) out k = T.readGo ls out (k + 1) := by rw [T.readGo, if_pos h]
theorem T.readGo_full (l : List UInt8) (ls : List (List UInt8)) (out : List Step) (k : Nat) (h : ¬ (l = [] ∨ l.head? = some 35)) (h1 : 400 ≤ out.length) : T.readGo (l :: ls) out k = ([], (k : Int) + 1, 6) := by rw [T.readGo, if_neg h, if_pos h1]
theorem T.readGo_bad (l : List UInt8) (ls : List (List UInt8)) (out : List Step) (k : Nat) (h : ¬ (l = [] ∨ l.head? = some 35)) (h1 : ¬ 400 ≤ out.length) (h2 : (T.sparse l).2 = false) : T.readGo (l :: ls) out k = ([], (k : Int) + 1, 10) := by
  rw [T.readGo, if_neg h, if_neg h1, h2]; rfl
theorem T.readGo_one (l : List UInt8) (ls : List (List UInt8)) (out : List Step) (k : Nat) (h : ¬ (l = [] ∨ l.head? = some 35)) (h1 : ¬ 400 ≤ out.length) (h2 : (T.sparse l).2 = true) : T.readGo (l :: ls) out k = T.readGo ls (out ++ [(T.sparse l).1]) (k + 1) := by
  rw [T.readGo, if_neg h, if_neg h1, h2]; rfl
theorem T.trimNL_le (l : List UInt8) : (T.trimNL l).length ≤ l.length := by
  unfold T.trimNL Lib.trimSuffix
  split
  · simp
  · exact Nat.le_refl _
theorem T.readGo_len (ls : List (List UInt8)) (out : List Step) (k : Nat) (h : out.length ≤ 400) : (T.readGo ls out k).1.length ≤ 400 := by
  induction ls generalizing out k with
  | nil => exact h
  | cons l ls ih =>
    rw [T.readGo]
    split
    · exact ih _ _ h
    · split
      · simp
      · split
        · exact ih _ _ (by simp; omega)
        · simp
end Go.Proofs.YtpgdgboobnmjiaaDoor
