/- slices.Backward over items: its closure's rounds, the last element first. -/
import Derived.Test.YtcncmbcnekekdaaDoorListIn
import Derived.Test.YtcncmbcnekekdaaDoorTypes
namespace Go.Proofs.YtcncmbcnekekdaaDoor
open Go.RowKit Go.Shelf
attribute [local go_sem] Oper.semAt_some
set_option linter.unusedVariables false

/-- The pairs (place, element), the last one first. -/
def T.rp {α : Type} (xs : List α) : List (Nat × α) := (xs.zipIdx.map fun p => (p.2, p.1)).reverse
theorem T.rp_length {α : Type} (xs : List α) : (T.rp xs).length = xs.length := by simp [T.rp]
theorem T.rp_get {α : Type} (xs : List α) (k : Nat) (hk : k < xs.length) : (T.rp xs)[k]? = some (xs.length - 1 - k, xs[xs.length - 1 - k]'(by omega)) := by
  simp only [T.rp]
  rw [List.getElem?_reverse (by simpa using hk)]
  simp only [List.length_map, List.length_zipIdx, List.getElem?_map, List.getElem?_zipIdx]
  rw [List.getElem?_eq_getElem (by omega)]
  simp
theorem T.rp_take_succ {α : Type} (xs : List α) (k : Nat) (hk : k < xs.length) : (T.rp xs).take (k + 1) = (T.rp xs).take k ++ [(xs.length - 1 - k, xs[xs.length - 1 - k]'(by omega))] := by
  rw [List.take_add_one, T.rp_get xs k hk]; rfl

set_option maxRecDepth 100000 in
set_option maxHeartbeats 2000000 in
theorem backItem1_in (F : Fence) (n : Nat) (hf : F.fn 91) (hro : F.round = none) (hn : 1 ≤ n) (l Bs n₀ : Nat) (v : Value) (xs : List Item) (J Jx : List (Nat × Item) → World → Prop)
    (hY : ∀ pre x W, J pre W → pre.length < xs.length → YieldAt F (n - 1) Tryd.prog l #[.int .i64 (x.1 : Int), .agg (Item.arr x.2)] W fun e W' =>
      (e = .returned (.bool true) ∧ J (pre ++ [x]) W' ∧ Below n₀ W W') ∨ (e = .returned (.bool false) ∧ Jx (pre ++ [x]) W'))
    (W : World) (hBs : W.cell? ⟨Bs, 0, none⟩ = some v) (hS : Sl Item.arr 17 n₀ W v xs) (hBn : Bs < n₀) (h0 : J [] W) :
    CallsIn F n Tryd.prog 91 #[.func (.yield l) #[] #[], .pointer (some ⟨Bs, 0, none⟩)] W fun e W' => (∃ v, e = .returned v) ∧
      ((∃ ys, ys = T.rp xs ∧ J ys W') ∨ (∃ pre, (∃ k, k ≤ xs.length ∧ pre = (T.rp xs).take k) ∧ Jx pre W')) := by
  obtain ⟨A, cap, rfl, hcap, hl1, hl2⟩ := hS.view
  refine callsIn_of_wp Tryd.func91 rfl hf ?_ hro
  simp only [Tryd.ntmps91, List.size_toArray, List.length_cons, List.length_nil, Nat.reduceAdd, Nat.reduceSub, Array.replicate_succ, Array.replicate_zero, List.push_toArray, List.append_toArray, List.nil_append, List.cons_append]
  gi_wp2
  gi_loopw [3] (fun i wr => ∃ k : Nat, k ≤ xs.length ∧ i = .int .i64 ((xs.length : Int) - 1 - k) ∧ J ((T.rp xs).take k) wr ∧ Below n₀ W wr)
    (fun i _ => (intOf i + 1).toNat)
  case atStart => exact ⟨0, Nat.zero_le _, by go_num, h0, Below.refl _ _⟩
  case round =>
    obtain ⟨k, hk, rfl, hJs, hnx⟩ := hrel
    have hBc := (hnx.cell (p := ⟨Bs, 0, none⟩) hBn).trans hBs
    by_cases hlt : k < xs.length
    · obtain ⟨x, hx⟩ : ∃ x, x = xs[xs.length - 1 - k] := ⟨_, rfl⟩
      have hnext := T.rp_take_succ xs k hlt
      obtain ⟨b, off, rfl, hb, hrow, _⟩ := (hS.below hnx).at (show xs.length - 1 - k < xs.length by omega)
      rw [← hx] at hrow hnext
      have hidx : ((xs.length : Int) - 1 - k) = ((xs.length - 1 - k : Nat) : Int) := by omega
      obtain ⟨j, hj⟩ : ∃ j, j = xs.length - 1 - k := ⟨_, rfl⟩
      rw [hidx]
      rw [← hj] at hrow hnext ⊢
      have hjl : j < xs.length := by omega
      have HX := Lib.hid hx
      have HN := Lib.hid hnext
      have HJ := Lib.hid hj
      clear hx hnext hidx hj
      obtain ⟨fn, tmps, assign, body, hy, hR⟩ := hY _ (j, x) wr hJs (by simp [T.rp_length]; omega)
      dsimp only at hy
      gi_wp2_with (refine wpListIn_load_at rfl 88 _ rfl _ (off + j * 17) 17 rfl _ _ hrow rfl rfl rfl ?_)
      refine hR.mono ?_
      rintro e W3 (⟨rfl, hJ3, hk3⟩ | ⟨rfl, hJx3⟩)
      · gi_wp2
        go_roundw
        case rel => exact ⟨k + 1, by omega, by have := HJ.out; go_num, by rw [HN.out]; exact hJ3, hnx.trans hk3⟩
        case measure => simp [intOf] <;> omega
      · gi_wp2
        refine bodyPost_ret (results_none rfl _ _ _) rfl ?_
        exact ⟨⟨_, rfl⟩, .inr ⟨_, ⟨k + 1, by omega, HN.out.symm⟩, hJx3⟩⟩
    · obtain rfl : k = xs.length := by omega
      gi_wp2
      go_end0
      exact ⟨⟨_, rfl⟩, .inl ⟨_, by rw [List.take_of_length_le (by simp [T.rp_length])], hJs⟩⟩
set_option maxHeartbeats 1000000 in
theorem backItem_in (F : Fence) (n : Nat) (hf : F.fn 60) (hro : F.round = none) (a : Option Addr) (len cap : Nat) (w : World) :
    CallsIn F n Tryd.prog 60 #[.slice a len cap] w fun e w' => e = .returned (.func (.func 91) #[] #[.pointer (some ⟨w.heap.size, 0, none⟩)]) ∧ w' = w.alloc (.cells #[.slice a len cap] 24) := by
  refine callsIn_of_wp Tryd.func60 rfl hf ?_ hro
  simp only [Tryd.ntmps60, List.size_toArray, List.length_cons, List.length_nil, Nat.reduceAdd, Nat.reduceSub, Array.replicate_succ, Array.replicate_zero, List.push_toArray, List.append_toArray, List.nil_append, List.cons_append]
  gi_wp2
  go_ret
  exact ⟨rfl, rfl⟩
theorem backItem_stops (F : Fence) (n : Nat) (hf : F.fn 91) (hro : F.round = none) (hn : 1 ≤ n) (Bs n₀ : Nat) (v : Value) (xs : List Item) (w : World) (hBs : Bs < n₀) (hn₀ : n₀ ≤ w.heap.size)
    (hc : w.cell? ⟨Bs, 0, none⟩ = some v) (hS : Sl Item.arr 17 n₀ w v xs) :
    SeqStopsK F n Tryd.prog 91 #[.pointer (some ⟨Bs, 0, none⟩)] (fun x : Nat × Item => #[Value.int .i64 (x.1 : Int), Value.agg (Item.arr x.2)]) (Below n₀) (fun ys => ys = T.rp xs)
      (fun pre => ∃ k, k ≤ xs.length ∧ pre = (T.rp xs).take k) xs.length w := fun l J Jx W hW _ _ hY h0 =>
  backItem1_in F n hf hro hn l Bs n₀ v xs J Jx hY W ((hW.cell (p := ⟨Bs, 0, none⟩) (show Bs < _ by omega)).trans hc) (hS.below (hW.mono hn₀)) hBs h0
end Go.Proofs.YtcncmbcnekekdaaDoor
