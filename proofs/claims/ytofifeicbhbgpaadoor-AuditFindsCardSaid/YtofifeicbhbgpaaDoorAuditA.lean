/- audit: what any and first ask of an event. -/
import Derived.Test.YtofifeicbhbgpaaDoorFunc
import Derived.Test.YtofifeicbhbgpaaDoorTicks
import Derived.Test.YtofifeicbhbgpaaDoorKept
namespace Go.Proofs.YtofifeicbhbgpaaDoor
open Go.RowKit
set_option linter.unusedVariables false
set_option linter.unusedSimpArgs false
set_option maxRecDepth 100000 in
set_option maxHeartbeats 1000000 in
theorem indexAhead_c (B : Nat) (f : FuncId) (eg : ∀ args w, (callFunc f args).run Tryd.prog w = .ok (.enter f args) w) (lb : List Value) (p : Event → Bool) (v : Value) (xs : List Event) (w : World) (hBw : B ≤ w.heap.size) (h : Sl Event.arr 18 w.heap.size w v xs) (hp : Answers (fun x => .agg (Event.arr x)) f lb p B w xs) :
    Calls Tryd.prog 83 #[v, .func (.func f) #[] lb.toArray] w fun e w' => e = .returned (.int .i64 (T.idx p xs)) ∧ Below w.heap.size w w' := by
  obtain ⟨A, cap, rfl, hcap, hl1, hl2⟩ := h.view
  have HP := Lib.hid hp
  clear hp
  go_enter Tryd.func83, Tryd.ntmps83
  go_wp2
  go_loopw [8] (fun iv wr => ∃ k : Nat, k ≤ xs.length ∧ iv = .int .i64 (k : Int) ∧ Hid (∀ y ∈ xs.take k, p y = false) ∧ Below w.heap.size w wr) (fun iv _ => xs.length - (intOf iv).toNat)
  case atStart => exact ⟨0, Nat.zero_le _, rfl, Lib.hid (by simp), Below.refl _ _⟩
  case round =>
    obtain ⟨k, hk, rfl, hall, hB⟩ := hrel
    by_cases hkl : k < xs.length
    · obtain ⟨b, off, rfl, hb, hrow, _⟩ := (h.below hB).at hkl
      obtain ⟨x, hx⟩ : ∃ x, x = xs[k] := ⟨_, rfl⟩
      rw [← hx] at hrow
      have hxo : xs[k]? = some x := by rw [hx]; exact List.getElem?_eq_getElem hkl
      have hc := HP.out x (List.mem_of_getElem? hxo) wr (hB.mono hBw)
      have hnext : xs.take (k + 1) = xs.take k ++ [x] := by rw [hx]; simp
      have HN := Lib.hid hnext
      have HX := Lib.hid hxo
      have HC := Lib.hid hc
      clear hx hxo hnext hc
      rcases hpx : p x with _ | _
      · rw [hpx] at HC
        have hz := Lib.hid (show ∀ y ∈ xs.take (k + 1), p y = false by
          rw [HN.out]; intro y hy; rcases List.mem_append.1 hy with hy | hy
          · exact hall.out y hy
          · simp at hy; rw [hy]; exact hpx)
        clear hpx
        go_wp2_with (first | (refine wpList_load_at rfl 55 _ rfl _ (off + k * 18) 18 rfl _ _ hrow rfl rfl rfl ?_) | ((with_reducible refine HC.out.mono ?_); rintro e w1 ⟨rfl, hb1⟩))
        go_roundw
        case rel => exact ⟨k + 1, by omega, by go_num, hz, bthen hB hb1⟩
        case measure => simp [intOf]; omega
      · rw [hpx] at HC
        have HI := Lib.hid (T.idx_hit p xs k x HX.out hpx hall.out)
        clear hpx
        go_wp2_with (first | (refine wpList_load_at rfl 55 _ rfl _ (off + k * 18) 18 rfl _ _ hrow rfl rfl rfl ?_) | ((with_reducible refine HC.out.mono ?_); rintro e w1 ⟨rfl, hb1⟩))
        go_ret
        exact ⟨ret_int HI.out.symm, bthen hB hb1⟩
    · rw [List.take_of_length_le (by omega)] at hall
      have HI := Lib.hid (T.idx_none p xs hall.out)
      go_wp2
      go_ret
      exact ⟨ret_int HI.out.symm, hB⟩
theorem containsAhead_c (B : Nat) (f : FuncId) (eg : ∀ args w, (callFunc f args).run Tryd.prog w = .ok (.enter f args) w) (lb : List Value) (p : Event → Bool) (v : Value) (xs : List Event) (w : World) (hBw : B ≤ w.heap.size) (h : Sl Event.arr 18 w.heap.size w v xs) (hp : Answers (fun x => .agg (Event.arr x)) f lb p B w xs) :
    Calls Tryd.prog 66 #[v, .func (.func f) #[] lb.toArray] w fun e w' => e = .returned (.bool (xs.any p)) ∧ Below w.heap.size w w' := by
  obtain ⟨A, cap, rfl, hcap, hl1, hl2⟩ := h.view
  have hi := indexAhead_c B f eg lb p _ xs w hBw h hp
  have HA := Lib.hid (T.idx_any p xs)
  obtain ⟨i, hii⟩ : ∃ i, i = T.idx p xs := ⟨_, rfl⟩
  rw [← hii] at hi
  have HI := Lib.hid hii
  clear hii hp
  go_enter Tryd.func66, Tryd.ntmps66
  go_wp2_with (go_at_call 83; (with_reducible refine hi.mono ?_); rintro e w1 ⟨rfl, hb1⟩)
  go_ret
  exact ⟨ret_bool (by have := HA.out; rw [← HI.out] at this; simpa using this), hb1⟩

/-! any, first, count. -/
def T.kd (kind : Int) (p : Event → Bool) (x : Event) : Bool := (x.kind == kind) && p x
attribute [local go_sem] Event.sz
set_option maxRecDepth 100000 in
set_option maxHeartbeats 1000000 in
theorem anyF_c (x : Event) (kind : Int) (f : FuncId) (eg : ∀ args w, (callFunc f args).run Tryd.prog w = .ok (.enter f args) w) (lb : List Value) (p : Event → Bool) (bk bf : Nat) (w : World)
    (h1 : w.cell? ⟨bk, 0, none⟩ = some (.int .i64 kind)) (h2 : w.cell? ⟨bf, 0, none⟩ = some (.func (.func f) #[] lb.toArray))
    (hp : ∀ W, Below w.heap.size w W → Calls Tryd.prog f (.agg (Event.arr x) :: lb).toArray W fun e W' => e = .returned (.bool (p x)) ∧ Below W.heap.size W W') :
    Calls Tryd.prog 81 #[.agg (Event.arr x), .pointer (some ⟨bk, 0, none⟩), .pointer (some ⟨bf, 0, none⟩)] w fun r w' => r = .returned (.bool (T.kd kind p x)) ∧ Below w.heap.size w w' := by
  have l1 := World.block_lt_of_cell? w _ h1
  have l2 := World.block_lt_of_cell? w _ h2
  have hB : Below w.heap.size w (w.alloc (Obj.cells (Event.arr x) 55)) := (Below.refl _ w).alloc (Nat.le_refl _) _
  have hr : rowAt (w.alloc (Obj.cells (Event.arr x) 55)) w.heap.size 0 18 = some (Event.arr x) := rowAt_new _ _ _ _ _ rfl
  have c0 : (w.alloc (Obj.cells (Event.arr x) 55)).cell? ⟨w.heap.size, 0, none⟩ = some (.int .i64 x.kind) := rowAt_cell hr 0 (by omega)
  have c1 : (w.alloc (Obj.cells (Event.arr x) 55)).cell? ⟨bk, 0, none⟩ = some (.int .i64 kind) := by rw [World.cell?_of_block (w := w) (Below.heap_alloc w _ _ l1)]; exact h1
  have c2 : (w.alloc (Obj.cells (Event.arr x) 55)).cell? ⟨bf, 0, none⟩ = some (.func (.func f) #[] lb.toArray) := by rw [World.cell?_of_block (w := w) (Below.heap_alloc w _ _ l2)]; exact h2
  have hc := hp _ hB
  have HC := Lib.hid hc
  have HB := Lib.hid hB
  clear hp hc hB h1 h2
  rcases hk : (x.kind == kind) with _ | _
  · have HR := Lib.hid (show T.kd kind p x = false by rw [T.kd, hk]; rfl)
    go_enter Tryd.func81, Tryd.ntmps81
    go_wp2
    go_ret
    exact ⟨ret_bool HR.out.symm, HB.out⟩
  · have HR := Lib.hid (show T.kd kind p x = p x by rw [T.kd, hk]; rfl)
    go_enter Tryd.func81, Tryd.ntmps81
    go_wp2_with (first | (refine wpList_load_at_w rfl 55 _ rfl _ (0) 18 rfl _ _ hr rfl rfl rfl ?_) | ((with_reducible refine HC.out.mono ?_); rintro e w1 ⟨rfl, hb1⟩))
    go_ret
    exact ⟨ret_bool HR.out.symm, bthen HB.out hb1⟩
set_option maxRecDepth 100000 in
set_option maxHeartbeats 1000000 in
theorem firstF_c (x : Event) (kind : Int) (f : FuncId) (eg : ∀ args w, (callFunc f args).run Tryd.prog w = .ok (.enter f args) w) (lb : List Value) (p : Event → Bool) (bk bf : Nat) (w : World)
    (h1 : w.cell? ⟨bk, 0, none⟩ = some (.int .i64 kind)) (h2 : w.cell? ⟨bf, 0, none⟩ = some (.func (.func f) #[] lb.toArray))
    (hp : ∀ W, Below w.heap.size w W → Calls Tryd.prog f (.agg (Event.arr x) :: lb).toArray W fun e W' => e = .returned (.bool (p x)) ∧ Below W.heap.size W W') :
    Calls Tryd.prog 84 #[.agg (Event.arr x), .pointer (some ⟨bk, 0, none⟩), .pointer (some ⟨bf, 0, none⟩)] w fun r w' => r = .returned (.bool (T.kd kind p x)) ∧ Below w.heap.size w w' := by
  have l1 := World.block_lt_of_cell? w _ h1
  have l2 := World.block_lt_of_cell? w _ h2
  have hB : Below w.heap.size w (w.alloc (Obj.cells (Event.arr x) 55)) := (Below.refl _ w).alloc (Nat.le_refl _) _
  have hr : rowAt (w.alloc (Obj.cells (Event.arr x) 55)) w.heap.size 0 18 = some (Event.arr x) := rowAt_new _ _ _ _ _ rfl
  have c0 : (w.alloc (Obj.cells (Event.arr x) 55)).cell? ⟨w.heap.size, 0, none⟩ = some (.int .i64 x.kind) := rowAt_cell hr 0 (by omega)
  have c1 : (w.alloc (Obj.cells (Event.arr x) 55)).cell? ⟨bk, 0, none⟩ = some (.int .i64 kind) := by rw [World.cell?_of_block (w := w) (Below.heap_alloc w _ _ l1)]; exact h1
  have c2 : (w.alloc (Obj.cells (Event.arr x) 55)).cell? ⟨bf, 0, none⟩ = some (.func (.func f) #[] lb.toArray) := by rw [World.cell?_of_block (w := w) (Below.heap_alloc w _ _ l2)]; exact h2
  have hc := hp _ hB
  have HC := Lib.hid hc
  have HB := Lib.hid hB
  clear hp hc hB h1 h2
  rcases hk : (x.kind == kind) with _ | _
  · have HR := Lib.hid (show T.kd kind p x = false by rw [T.kd, hk]; rfl)
    go_enter Tryd.func84, Tryd.ntmps84
    go_wp2
    go_ret
    exact ⟨ret_bool HR.out.symm, HB.out⟩
  · have HR := Lib.hid (show T.kd kind p x = p x by rw [T.kd, hk]; rfl)
    go_enter Tryd.func84, Tryd.ntmps84
    go_wp2_with (first | (refine wpList_load_at_w rfl 55 _ rfl _ (0) 18 rfl _ _ hr rfl rfl rfl ?_) | ((with_reducible refine HC.out.mono ?_); rintro e w1 ⟨rfl, hb1⟩))
    go_ret
    exact ⟨ret_bool HR.out.symm, bthen HB.out hb1⟩
end Go.Proofs.YtofifeicbhbgpaaDoor
