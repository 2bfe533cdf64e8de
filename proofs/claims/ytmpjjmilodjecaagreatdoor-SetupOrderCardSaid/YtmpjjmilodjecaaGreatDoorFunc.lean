/- slices.IndexFunc, ContainsFunc at the program's structs: the first element that is so. -/
import Derived.Test.YtmpjjmilodjecaaGreatDoorList
import Derived.Test.YtmpjjmilodjecaaGreatDoorTypes
namespace Go.Proofs.YtmpjjmilodjecaaGreatDoor
open Go.RowKit
set_option linter.unusedVariables false
set_option linter.unusedSimpArgs false

def T.idx {α : Type} (p : α → Bool) (xs : List α) : Int := if xs.any p then (xs.findIdx p : Int) else -1
theorem T.idx_hit {α : Type} (p : α → Bool) (xs : List α) (k : Nat) (x : α) (hx : xs[k]? = some x) (hp : p x = true) (h : ∀ y ∈ xs.take k, p y = false) : T.idx p xs = (k : Int) := by
  have hk := (List.getElem?_eq_some_iff.1 hx).1
  have hm := List.mem_of_getElem? hx
  have ha : xs.any p = true := List.any_eq_true.2 ⟨x, hm, hp⟩
  unfold T.idx
  rw [if_pos ha]
  have e : xs = xs.take k ++ (x :: xs.drop (k + 1)) := by
    have h1 := List.take_append_drop k xs
    rw [List.drop_eq_getElem_cons hk, (List.getElem?_eq_some_iff.1 hx).2] at h1
    exact h1.symm
  have hf : xs.findIdx p = k := by
    rw [e, List.findIdx_append]
    have hn : ¬ (List.findIdx p (xs.take k) < (xs.take k).length) := by
      intro hlt
      have := List.findIdx_getElem (w := hlt)
      rw [h _ (List.getElem_mem _)] at this
      cases this
    rw [if_neg hn, List.findIdx_cons]
    simp [hp, Nat.min_eq_left (Nat.le_of_lt hk)]
  rw [hf]
theorem T.idx_none {α : Type} (p : α → Bool) (xs : List α) (h : ∀ y ∈ xs, p y = false) : T.idx p xs = -1 := by
  have ha : ¬ (xs.any p = true) := by
    intro ha
    obtain ⟨x, hx, hp⟩ := List.any_eq_true.1 ha
    rw [h x hx] at hp; cases hp
  unfold T.idx
  rw [if_neg ha]
theorem T.idx_any {α : Type} (p : α → Bool) (xs : List α) : decide (0 ≤ T.idx p xs) = xs.any p := by
  unfold T.idx
  split
  · rename_i h; rw [h]; simp
  · rename_i h; simp at h ⊢; exact h
/-- What a function value answers on elements, in whatever world that holds what lies below B as w does. -/
def Answers {α : Type} (arg : α → Value) (f : FuncId) (lb : List Value) (p : α → Bool) (B : Nat) (w : World) (xs : List α) : Prop :=
  ∀ x ∈ xs, ∀ W, Below B w W → Calls Tryz.prog f (arg x :: lb).toArray W fun e W' => e = .returned (.bool (p x)) ∧ Below W.heap.size W W'
set_option maxRecDepth 100000 in
set_option maxHeartbeats 1000000 in
theorem indexOp_c (B : Nat) (f : FuncId) (eg : ∀ args w, (callFunc f args).run Tryz.prog w = .ok (.enter f args) w) (lb : List Value) (p : GoOp → Bool) (v : Value) (xs : List GoOp) (w : World) (hBw : B ≤ w.heap.size) (h : Sl GoOp.arr 3 w.heap.size w v xs) (hp : Answers (fun x => .agg (GoOp.arr x)) f lb p B w xs) :
    Calls Tryz.prog 126 #[v, .func (.func f) #[] lb.toArray] w fun e w' => e = .returned (.int .i64 (T.idx p xs)) ∧ Below w.heap.size w w' := by
  obtain ⟨A, cap, rfl, hcap, hl1, hl2⟩ := h.view
  have HP := Lib.hid hp
  clear hp
  go_enter Tryz.func126, Tryz.ntmps126
  go_wp2
  go_loopw [8] (fun iv wr => ∃ k : Nat, k ≤ xs.length ∧ iv = .int .i64 (k : Int) ∧ Hid (∀ y ∈ xs.take k, p y = false) ∧ Below w.heap.size w wr) (fun iv _ => xs.length - (intOf iv).toNat)
  case atStart => exact ⟨0, Nat.zero_le _, rfl, Lib.hid (by simp), Below.refl _ _⟩
  case round =>
    obtain ⟨k, hk, rfl, hall, hB⟩ := hrel
    by_cases hkl : k < xs.length
    · obtain ⟨b, off, rfl, hb, hrow, _⟩ := (h.below hB).at hkl
      obtain ⟨x, hx⟩ : ∃ x, x = xs[k] := ⟨_, rfl⟩
      rw [← hx] at hrow
      have hxo : xs[k]? = some x := by rw [hx]; exact List.getElem?_eq_getElem hkl
      have hc := HP.out x (List.mem_of_getElem? hxo) wr (hB.mono hBw)
      have hnext : xs.take (k + 1) = xs.take k ++ [x] := by rw [hx]; simp
      have HN := Lib.hid hnext
      have HX := Lib.hid hxo
      have HC := Lib.hid hc
      clear hx hxo hnext hc
      rcases hpx : p x with _ | _
      · rw [hpx] at HC
        have hz := Lib.hid (show ∀ y ∈ xs.take (k + 1), p y = false by
          rw [HN.out]; intro y hy; rcases List.mem_append.1 hy with hy | hy
          · exact hall.out y hy
          · simp at hy; rw [hy]; exact hpx)
        clear hpx
        go_wp2_with (first | (refine wpList_load_at rfl 110 _ rfl _ (off + k * 3) 3 rfl _ _ hrow rfl rfl rfl ?_) | ((with_reducible refine HC.out.mono ?_); rintro e w1 ⟨rfl, hb1⟩))
        go_roundw
        case rel => exact ⟨k + 1, by omega, by go_num, hz, bthen hB hb1⟩
        case measure => simp [intOf]; omega
      · rw [hpx] at HC
        have HI := Lib.hid (T.idx_hit p xs k x HX.out hpx hall.out)
        clear hpx
        go_wp2_with (first | (refine wpList_load_at rfl 110 _ rfl _ (off + k * 3) 3 rfl _ _ hrow rfl rfl rfl ?_) | ((with_reducible refine HC.out.mono ?_); rintro e w1 ⟨rfl, hb1⟩))
        go_ret
        exact ⟨ret_int HI.out.symm, bthen hB hb1⟩
    · rw [List.take_of_length_le (by omega)] at hall
      have HI := Lib.hid (T.idx_none p xs hall.out)
      go_wp2
      go_ret
      exact ⟨ret_int HI.out.symm, hB⟩
theorem containsOp_c (B : Nat) (f : FuncId) (eg : ∀ args w, (callFunc f args).run Tryz.prog w = .ok (.enter f args) w) (lb : List Value) (p : GoOp → Bool) (v : Value) (xs : List GoOp) (w : World) (hBw : B ≤ w.heap.size) (h : Sl GoOp.arr 3 w.heap.size w v xs) (hp : Answers (fun x => .agg (GoOp.arr x)) f lb p B w xs) :
    Calls Tryz.prog 57 #[v, .func (.func f) #[] lb.toArray] w fun e w' => e = .returned (.bool (xs.any p)) ∧ Below w.heap.size w w' := by
  obtain ⟨A, cap, rfl, hcap, hl1, hl2⟩ := h.view
  have hi := indexOp_c B f eg lb p _ xs w hBw h hp
  have HA := Lib.hid (T.idx_any p xs)
  obtain ⟨i, hii⟩ : ∃ i, i = T.idx p xs := ⟨_, rfl⟩
  rw [← hii] at hi
  have HI := Lib.hid hii
  clear hii hp
  go_enter Tryz.func57, Tryz.ntmps57
  go_wp2_with (go_at_call 126; (with_reducible refine hi.mono ?_); rintro e w1 ⟨rfl, hb1⟩)
  go_ret
  exact ⟨ret_bool (by have := HA.out; rw [← HI.out] at this; simpa using this), hb1⟩
end Go.Proofs.YtmpjjmilodjecaaGreatDoor
