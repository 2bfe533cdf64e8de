/- The text of a program: the plain words; the document's walk; the document's units. -/
import Derived.Test.YtmpjjmilodjecaaGreatDoorPRightR
import Derived.Test.YtmpjjmilodjecaaGreatDoorText
import Derived.Test.YtmpjjmilodjecaaGreatDoorItoa
namespace Go.Proofs.YtmpjjmilodjecaaGreatDoor
open Go.RowKit Go.Shelf
set_option linter.unusedVariables false
set_option linter.unusedSimpArgs false
def T.verbs : List (List UInt8) := [[119, 111, 114, 107], [115, 112, 97, 119, 110], [106, 111, 105, 110], [104, 101, 97, 100], [97, 110, 115, 119, 101, 114], [102, 97, 105, 108], [114, 101, 102, 117, 115, 101]]
def T.verb (k : Int) : List UInt8 := T.verbs.getD (k - 1).toNat []
theorem T.kinds7 (k : Int) (h : 1 ≤ k ∧ k ≤ 7) : k = 1 ∨ k = 2 ∨ k = 3 ∨ k = 4 ∨ k = 5 ∨ k = 6 ∨ k = 7 := by omega
theorem T.verb_len (k : Int) (h : 1 ≤ k ∧ k ≤ 7) : (T.verb k).length ≤ 6 := by
  rcases T.kinds7 k h with rfl | rfl | rfl | rfl | rfl | rfl | rfl <;> decide
def T.opNum1 (o : GoOp) : List UInt8 := if T.pcount o.kind = 0 then [] else 32 :: Lib.itoa o.a
def T.opNum2 (o : GoOp) : List UInt8 := if T.pcount o.kind = 2 then 32 :: Lib.itoa o.b else []
def T.opText (o : GoOp) : List UInt8 := T.verb o.kind ++ T.opNum1 o ++ T.opNum2 o
def T.known (o : GoOp) : Bool := decide (1 ≤ o.kind ∧ o.kind ≤ 7)
def T.joinS : List (List UInt8) → List UInt8
  | [] => []
  | p :: ps => if ps = [] then p else p ++ ([59, 32] ++ T.joinS ps)
theorem T.joinS_snoc (ps : List (List UInt8)) (p : List UInt8) : T.joinS (ps ++ [p]) = if ps = [] then p else T.joinS ps ++ ([59, 32] ++ p) := by
  induction ps with
  | nil => simp [T.joinS]
  | cons q ps ih =>
    rw [List.cons_append, T.joinS, if_neg (by simp), if_neg (by simp), ih, T.joinS]
    by_cases h : ps = []
    · rw [if_pos h, if_pos h]
    · rw [if_neg h, if_neg h]; simp
def T.progText (xs : List GoOp) : List UInt8 := if xs.all T.known = true then T.joinS (xs.map T.opText) else []
theorem T.itoa21 {n : Int} (h : i64 n) : (Lib.itoa n).length ≤ 21 := by
  have := T.itoa_i64 h
  omega
theorem T.opText_len (o : GoOp) (h : GoOp.ok o) (hk : T.known o = true) : (T.opText o).length ≤ 50 := by
  have hk' : 1 ≤ o.kind ∧ o.kind ≤ 7 := by simpa [T.known] using hk
  have h1 := T.verb_len o.kind hk'
  have h2 := T.itoa21 h.2.1
  have h3 := T.itoa21 h.2.2
  unfold T.opText T.opNum1 T.opNum2
  split <;> split <;> simp <;> omega
theorem T.joinS_len (xs : List GoOp) (h : ∀ x ∈ xs, GoOp.ok x) (hk : xs.all T.known = true) : (T.joinS (xs.map T.opText)).length ≤ 52 * xs.length := by
  induction xs with
  | nil => simp [T.joinS]
  | cons x xs ih =>
    rw [List.all_cons, Bool.and_eq_true] at hk
    have h1 := T.opText_len x (h x List.mem_cons_self) hk.1
    have h2 := ih (fun y hy => h y (List.mem_cons_of_mem _ hy)) hk.2
    rw [List.map_cons, T.joinS, List.length_cons]
    split
    · omega
    · simp only [List.length_append, List.length_cons, List.length_nil]; omega
theorem T.joinS_step (xs : List GoOp) (k : Nat) (hk : k < xs.length) : T.joinS ((xs.take (k + 1)).map T.opText) = if k = 0 then T.opText xs[k] else T.joinS ((xs.take k).map T.opText) ++ ([59, 32] ++ T.opText xs[k]) := by
  rw [List.take_succ_eq_append_getElem hk, List.map_append, List.map_cons, List.map_nil, T.joinS_snoc]
  by_cases h0 : k = 0
  · subst h0; simp
  · rw [if_neg h0, if_neg]
    intro e
    have : ((xs.take k).map T.opText).length = 0 := by rw [e]; rfl
    rw [List.length_map, List.length_take] at this
    omega
attribute [local go_sem] GoOp.sz
end Go.Proofs.YtmpjjmilodjecaaGreatDoor
