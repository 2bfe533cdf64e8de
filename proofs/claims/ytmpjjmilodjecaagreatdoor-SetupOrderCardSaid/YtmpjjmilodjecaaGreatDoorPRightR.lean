/- Programs that may be, and their units: the document's; units: the program's. -/
import Derived.Test.YtmpjjmilodjecaaGreatDoorPRight
namespace Go.Proofs.YtmpjjmilodjecaaGreatDoor
open Go.RowKit Go.Shelf
set_option linter.unusedVariables false
set_option linter.unusedSimpArgs false
attribute [local go_sem] GoOp.sz
set_option maxRecDepth 100000 in
set_option maxHeartbeats 4000000 in
theorem rpright_c (v : Value) (xs : List GoOp) (n m : Int) (w : World) (h : Sl GoOp.arr 3 w.heap.size w v xs) (hn : xs.length ≤ 9223372036854775807) :
    Calls Tryz.prog 146 #[v, .int .i64 n, .int .i64 m] w fun r w' => r = .returned (.bool (T.pright xs n m)) ∧ Below w.heap.size w w' := by
  obtain ⟨A, cap, rfl, hcap, hl1, hl2⟩ := h.view
  have HP := Lib.hid (show T.pright xs n m = (decide (xs.length ≤ 16) && xs.all fun o => T.opOk o n m) from rfl)
  go_enter Tryz.func146, Tryz.ntmps146
  go_wp2
  go_loopw [7] (fun i wr => ∃ k : Nat, k ≤ xs.length ∧ i = .int .i64 (k : Int) ∧ Hid (((xs.take k).all fun o => T.opOk o n m) = true) ∧ Below w.heap.size w wr) (fun i _ => xs.length - (intOf i).toNat)
  case atStart => exact ⟨0, Nat.zero_le _, rfl, Lib.hid rfl, Below.refl _ _⟩
  case round =>
    obtain ⟨k, hk, rfl, hyes, hB⟩ := hrel
    have hBz := hB.size
    by_cases hkl : k < xs.length
    · have hkI : (k : Int) < (xs.length : Int) := by omega
      have hS := h.below hB
      obtain ⟨bb, off, hA, hb, hrow, _⟩ := hS.at hkl
      subst hA
      obtain ⟨x, hx⟩ : ∃ x, x = xs[k] := ⟨_, rfl⟩
      rw [← hx] at hrow
      have hc := rop_c x n m wr
      have hwk : IntKind.i64.wrap ((k : Int) + 1) = (k : Int) + 1 := IntWalk.i64_in _ (by omega)
      rcases hp : T.opOk x n m with _ | _
      · rw [hp] at hc
        have hno : T.pright xs n m = false := by
          rw [HP.out]
          have : (xs.all fun o => T.opOk o n m) = false := by
            rw [List.all_eq_false]; exact ⟨x, by rw [hx]; exact List.getElem_mem _, by rw [hp]; simp⟩
          rw [this, Bool.and_false]
        have HNO := Lib.hid hno
        clear hx hp hyes hno
        go_wp2_with (first | (refine wpList_load_at_v 110 _ rfl rfl _ (off + k * 3) 3 rfl _ _ hrow rfl rfl rfl ?_) | (go_at_call 223; (with_reducible refine hc.mono ?_); rintro r w2 ⟨rfl, hb2⟩))
        go_ret
        exact ⟨ret_bool HNO.out.symm, bthen hB hb2⟩
      · rw [hp] at hc
        have hyes2 := Lib.hid (show ((xs.take (k + 1)).all fun o => T.opOk o n m) = true by rw [List.take_succ_eq_append_getElem hkl, List.all_append, hyes.out, ← hx]; simp [hp])
        clear hx hp hyes
        go_wp2_with (first | (refine wpList_load_at_v 110 _ rfl rfl _ (off + k * 3) 3 rfl _ _ hrow rfl rfl rfl ?_) | (go_at_call 223; (with_reducible refine hc.mono ?_); rintro r w2 ⟨rfl, hb2⟩))
        go_roundw
        case rel => exact ⟨k + 1, by omega, by go_num, hyes2, bthen hB hb2⟩
        case measure => simp [intOf] <;> omega
    · have hkI : ¬ (k : Int) < (xs.length : Int) := by omega
      have hall := hyes.out
      rw [List.take_of_length_le (by omega)] at hall
      rw [hall, Bool.and_true] at HP
      clear hall hyes
      by_cases h16 : xs.length ≤ 16
      · have h16I : (xs.length : Int) ≤ 16 := by omega
        rw [decide_eq_true h16] at HP
        clear h16
        go_wp2
        go_ret
        exact ⟨ret_bool (by rw [HP.out] <;> rfl), hB⟩
      · have h16I : ¬ (xs.length : Int) ≤ 16 := by omega
        rw [decide_eq_false h16] at HP
        clear h16
        go_wp2
        go_ret
        exact ⟨ret_bool (by rw [HP.out] <;> rfl), hB⟩
/-! Units. -/
def T.unit (o : GoOp) : Int := if o.kind = 1 then (if o.a < 0 then 0 else if 1000 < o.a then 1000 else o.a) else 1
def T.units (xs : List GoOp) : Int := (xs.map T.unit).foldl (· + ·) 0
theorem T.unit_bd (o : GoOp) : 0 ≤ T.unit o ∧ T.unit o ≤ 1000 := by unfold T.unit; split <;> (try split) <;> (try split) <;> omega
theorem T.units_snoc (xs : List GoOp) (o : GoOp) : T.units (xs ++ [o]) = T.units xs + T.unit o := by simp [T.units]
theorem T.units_bd (xs : List GoOp) : 0 ≤ T.units xs ∧ T.units xs ≤ 1000 * xs.length := by
  have key : ∀ (l : List GoOp) (z : Int), z ≤ (l.map T.unit).foldl (· + ·) z ∧ (l.map T.unit).foldl (· + ·) z ≤ z + 1000 * l.length := by
    intro l
    induction l with
    | nil => intro z; simp
    | cons x l ih =>
      intro z
      have := ih (z + T.unit x)
      have hb := T.unit_bd x
      simp only [List.map_cons, List.foldl_cons, List.length_cons]
      omega
  have := key xs 0
  unfold T.units; omega
end Go.Proofs.YtmpjjmilodjecaaGreatDoor
