/- Forest: the plain laws of the order below a place, and the text of items. -/
import Derived.Test.YtcncmbcnekekdaaDoorOrderP
import Derived.Test.YtcncmbcnekekdaaDoorPath
import Derived.Test.YtcncmbcnekekdaaDoorKeyT
import Derived.Lib.Repeat
namespace Go.Proofs.YtcncmbcnekekdaaDoor
open Go.RowKit
set_option linter.unusedVariables false
set_option linter.unusedSimpArgs false
/-! The text. -/
theorem T.pathF_len (xs : List Item) : ∀ (f : Nat) (i : Int), (T.pathF xs f i).length ≤ f
  | 0, i => by simp [T.pathF]
  | f + 1, i => by
    simp only [T.pathF]
    split
    · have := T.pathF_len xs f (T.above xs i); simp only [List.length_cons]; omega
    · simp
theorem T.path_len (xs : List Item) (i : Int) : (T.path xs i).length ≤ xs.length := by
  unfold T.path
  split
  · exact T.pathF_len _ _ _
  · simp
theorem T.path_pos (xs : List Item) (k : Nat) (h : k < xs.length) : 1 ≤ (T.path xs (k : Int)).length := by
  rw [T.path, if_pos (by omega), T.pathF_step xs k (by omega) (by omega)]
  simp
def T.evNames : List (List UInt8) := [[105, 115, 115, 117, 101, 100], [115, 101, 110, 116], [115, 116, 97, 114, 116, 101, 100], [119, 111, 114, 107, 101, 100], [115, 116, 111, 112, 112, 101, 100], [114, 101, 112, 108, 105, 101, 100], [101, 110, 100, 101, 100], [99, 97, 110, 99, 101, 108, 108, 101, 100], [99, 114, 97, 115, 104, 101, 100], [112, 117, 115, 104, 101, 100], [99, 111, 109, 109, 105, 116, 116, 101, 100]]
def T.evName (k : Int) : List UInt8 := if k < 1 ∨ 11 < k then [63] else T.evNames.getD (k - 1).toNat []
theorem T.evName_len (k : Int) : (T.evName k).length ≤ 9 := by
  unfold T.evName
  split
  · decide
  · rename_i h
    obtain rfl | rfl | rfl | rfl | rfl | rfl | rfl | rfl | rfl | rfl | rfl : k = 1 ∨ k = 2 ∨ k = 3 ∨ k = 4 ∨ k = 5 ∨ k = 6 ∨ k = 7 ∨ k = 8 ∨ k = 9 ∨ k = 10 ∨ k = 11 := by omega
    all_goals decide
/-- The first words of an item's line, its end. -/
def T.head31 (x : Item) : List UInt8 := T.keyText x.key ++ [32, 97, 116, 32] ++ Lib.itoa x.node ++ [32, 102, 114, 111, 109, 32] ++ Lib.itoa x.from_
def T.tail31 (x : Item) : List UInt8 := if x.how = 0 then [] else [32, 116, 111, 32] ++ Lib.itoa x.to_ ++ [32] ++ T.evName x.how ++ (if x.how = 9 then [] else [32] ++ Lib.itoa x.code)
def T.deep31 (deep : Nat) : List UInt8 := Lib.repeatL [32, 32] deep
def T.line31 (deep : Nat) (x : Item) : List UInt8 := T.deep31 deep ++ T.head31 x ++ T.tail31 x
theorem T.head31_len (x : Item) (h : Item.ok x) : (T.head31 x).length ≤ 140 := by
  obtain ⟨hk, _, _, _, hn, hf, _⟩ := h
  have := T.keyText_len x.key hk
  have := T.itoa_i64 hn
  have := T.itoa_i64 hf
  simp [T.head31]; omega
theorem T.tail31_len (x : Item) (h : Item.ok x) : (T.tail31 x).length ≤ 60 := by
  obtain ⟨_, _, _, _, _, _, ht, _, hc⟩ := h
  have := T.evName_len x.how
  have := T.itoa_i64 ht
  have := T.itoa_i64 hc
  unfold T.tail31
  split
  · simp
  · split
    · simp; omega
    · simp; omega
theorem T.deep31_succ (n : Nat) : T.deep31 (n + 1) = T.deep31 n ++ [32, 32] := by
  unfold T.deep31
  induction n with
  | zero => rfl
  | succ n ih =>
    show [32, 32] ++ Lib.repeatL [32, 32] (n + 1) = ([32, 32] ++ Lib.repeatL [32, 32] n) ++ [32, 32]
    rw [ih, List.append_assoc]
theorem T.deep31_len (n : Nat) : (T.deep31 n).length = 2 * n := by
  induction n with
  | zero => rfl
  | succ n ih => rw [T.deep31_succ, List.length_append, ih]; simp; omega
def T.lineAt (xs : List Item) (k : Nat) : List UInt8 := match xs[k]? with
  | some x => T.line31 ((T.path xs (k : Int)).length - 1) x ++ [10]
  | none => []
theorem T.lineAt_some (xs : List Item) (k : Nat) (x : Item) (h : xs[k]? = some x) : T.lineAt xs k = T.deep31 ((T.path xs (k : Int)).length - 1) ++ T.head31 x ++ T.tail31 x ++ [10] := by
  unfold T.lineAt
  rw [h]; rfl
def T.textOf (xs : List Item) (ks : List Nat) : List UInt8 := ks.flatMap (T.lineAt xs)
def T.text31 (xs : List Item) : List UInt8 := T.textOf xs (T.order xs)
theorem T.textOf_succ (xs : List Item) (ks : List Nat) (n k : Nat) (h : ks[n]? = some k) : T.textOf xs (ks.take (n + 1)) = T.textOf xs (ks.take n) ++ T.lineAt xs k := by
  rw [List.take_add_one, h]
  simp [T.textOf]
theorem T.lineAt_len (xs : List Item) (hok : ∀ x ∈ xs, Item.ok x) (k : Nat) : (T.lineAt xs k).length ≤ 2 * xs.length + 210 := by
  cases h : xs[k]? with
  | none => simp [T.lineAt, h]
  | some x =>
    have hx := hok x (List.mem_of_getElem? h)
    have h1 := T.head31_len x hx
    have h2 := T.tail31_len x hx
    have h3 := T.path_len xs (k : Int)
    rw [T.lineAt_some xs k x h]
    simp only [List.length_append, T.deep31_len, List.length_cons, List.length_nil]
    omega
theorem T.textOf_len (xs : List Item) (hok : ∀ x ∈ xs, Item.ok x) (ks : List Nat) : (T.textOf xs ks).length ≤ (2 * xs.length + 210) * ks.length := by
  induction ks with
  | nil => simp [T.textOf]
  | cons k ks ih =>
    have := T.lineAt_len xs hok k
    simp only [T.textOf, List.flatMap_cons, List.length_append, List.length_cons, Nat.mul_add] at ih ⊢
    omega
end Go.Proofs.YtcncmbcnekekdaaDoor
