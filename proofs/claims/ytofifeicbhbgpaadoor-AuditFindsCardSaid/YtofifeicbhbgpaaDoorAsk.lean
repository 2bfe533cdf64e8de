/- audit: any, count, first, asked with each of the closures. -/
import Derived.Test.YtofifeicbhbgpaaDoorBegun
namespace Go.Proofs.YtofifeicbhbgpaaDoor
open Go.RowKit Go.Shelf
set_option linter.unusedVariables false
theorem any_mine (e : Event) (v : Value) (xs : List Event) (k : Int) (b : Nat) (W : World) (hE : rowAt W b 0 18 = some (Event.arr e)) (hS : Sl Event.arr 18 W.heap.size W v xs) :
    Calls Tryd.prog 53 #[v, .int .i64 k, .func (.func 59) #[] #[.pointer (some ⟨b, 0, none⟩)]] W fun r W' => r = .returned (.bool (xs.any (T.kd k (T.pMine e)))) ∧ Below W.heap.size W W' :=
  any_c W.heap.size _ (enters_of Tryd.func59 (by kernel_rfl) rfl) [.pointer (some ⟨b, 0, none⟩)] (T.pMine e) v xs k W (Nat.le_refl _) hS (fun x _ W' hW' => mineF_c e x _ W' ((rowAt_block (hW'.block _ (rowAt_lt hE))).trans hE))
theorem count_mine (e : Event) (v : Value) (xs : List Event) (k : Int) (b : Nat) (W : World) (hE : rowAt W b 0 18 = some (Event.arr e)) (hS : Sl Event.arr 18 W.heap.size W v xs) :
    Calls Tryd.prog 61 #[v, .int .i64 k, .func (.func 59) #[] #[.pointer (some ⟨b, 0, none⟩)]] W fun r W' => r = .returned (.int .i64 (T.cntE (T.kd k (T.pMine e)) xs)) ∧ Below W.heap.size W W' :=
  count_c W.heap.size _ (enters_of Tryd.func59 (by kernel_rfl) rfl) [.pointer (some ⟨b, 0, none⟩)] (T.pMine e) v xs k W (Nat.le_refl _) hS (fun x _ W' hW' => mineF_c e x _ W' ((rowAt_block (hW'.block _ (rowAt_lt hE))).trans hE))
theorem first_mine (e : Event) (v : Value) (xs : List Event) (k : Int) (b : Nat) (W : World) (hE : rowAt W b 0 18 = some (Event.arr e)) (hS : Sl Event.arr 18 W.heap.size W v xs) :
    Calls Tryd.prog 56 #[v, .int .i64 k, .func (.func 59) #[] #[.pointer (some ⟨b, 0, none⟩)]] W (FirstPost (xs.find? (T.kd k (T.pMine e))) W) :=
  first_c W.heap.size _ (enters_of Tryd.func59 (by kernel_rfl) rfl) [.pointer (some ⟨b, 0, none⟩)] (T.pMine e) v xs k W (Nat.le_refl _) hS (fun x _ W' hW' => mineF_c e x _ W' ((rowAt_block (hW'.block _ (rowAt_lt hE))).trans hE))
theorem any_key (e : Event) (v : Value) (xs : List Event) (k : Int) (b : Nat) (W : World) (hE : rowAt W b 0 18 = some (Event.arr e)) (hS : Sl Event.arr 18 W.heap.size W v xs) :
    Calls Tryd.prog 53 #[v, .int .i64 k, .func (.func 63) #[] #[.pointer (some ⟨b, 0, none⟩)]] W fun r W' => r = .returned (.bool (xs.any (T.kd k (T.p_key e)))) ∧ Below W.heap.size W W' :=
  any_c W.heap.size _ (enters_of Tryd.func63 (by kernel_rfl) rfl) [.pointer (some ⟨b, 0, none⟩)] (T.p_key e) v xs k W (Nat.le_refl _) hS (fun x _ W' hW' => keyF_c e x _ W' ((rowAt_block (hW'.block _ (rowAt_lt hE))).trans hE))
theorem count_key (e : Event) (v : Value) (xs : List Event) (k : Int) (b : Nat) (W : World) (hE : rowAt W b 0 18 = some (Event.arr e)) (hS : Sl Event.arr 18 W.heap.size W v xs) :
    Calls Tryd.prog 61 #[v, .int .i64 k, .func (.func 63) #[] #[.pointer (some ⟨b, 0, none⟩)]] W fun r W' => r = .returned (.int .i64 (T.cntE (T.kd k (T.p_key e)) xs)) ∧ Below W.heap.size W W' :=
  count_c W.heap.size _ (enters_of Tryd.func63 (by kernel_rfl) rfl) [.pointer (some ⟨b, 0, none⟩)] (T.p_key e) v xs k W (Nat.le_refl _) hS (fun x _ W' hW' => keyF_c e x _ W' ((rowAt_block (hW'.block _ (rowAt_lt hE))).trans hE))
theorem first_key (e : Event) (v : Value) (xs : List Event) (k : Int) (b : Nat) (W : World) (hE : rowAt W b 0 18 = some (Event.arr e)) (hS : Sl Event.arr 18 W.heap.size W v xs) :
    Calls Tryd.prog 56 #[v, .int .i64 k, .func (.func 63) #[] #[.pointer (some ⟨b, 0, none⟩)]] W (FirstPost (xs.find? (T.kd k (T.p_key e))) W) :=
  first_c W.heap.size _ (enters_of Tryd.func63 (by kernel_rfl) rfl) [.pointer (some ⟨b, 0, none⟩)] (T.p_key e) v xs k W (Nat.le_refl _) hS (fun x _ W' hW' => keyF_c e x _ W' ((rowAt_block (hW'.block _ (rowAt_lt hE))).trans hE))
theorem any_by (e : Event) (hh : e.hop ≤ 9223372036854775807) (v : Value) (xs : List Event) (k : Int) (b : Nat) (W : World) (hE : rowAt W b 0 18 = some (Event.arr e)) (hS : Sl Event.arr 18 W.heap.size W v xs) :
    Calls Tryd.prog 53 #[v, .int .i64 k, .func (.func 60) #[] #[.pointer (some ⟨b, 0, none⟩)]] W fun r W' => r = .returned (.bool (xs.any (T.kd k (T.pBy e)))) ∧ Below W.heap.size W W' :=
  any_c W.heap.size _ (enters_of Tryd.func60 (by kernel_rfl) rfl) [.pointer (some ⟨b, 0, none⟩)] (T.pBy e) v xs k W (Nat.le_refl _) hS (fun x _ W' hW' => byF_c e x hh _ W' ((rowAt_block (hW'.block _ (rowAt_lt hE))).trans hE))
theorem any_start (e x : Event) (v : Value) (xs : List Event) (k : Int) (bx b : Nat) (W : World) (hX : rowAt W bx 0 18 = some (Event.arr x)) (hE : rowAt W b 0 18 = some (Event.arr e)) (hS : Sl Event.arr 18 W.heap.size W v xs) :
    Calls Tryd.prog 53 #[v, .int .i64 k, .func (.func 65) #[] #[.pointer (some ⟨bx, 0, none⟩), .pointer (some ⟨b, 0, none⟩)]] W fun r W' => r = .returned (.bool (xs.any (T.kd k (T.pStart e x)))) ∧ Below W.heap.size W W' :=
  any_c W.heap.size _ (enters_of Tryd.func65 (by kernel_rfl) rfl) [.pointer (some ⟨bx, 0, none⟩), .pointer (some ⟨b, 0, none⟩)] (T.pStart e x) v xs k W (Nat.le_refl _) hS (fun y _ W' hW' => startF_c e x y _ _ W' ((rowAt_block (hW'.block _ (rowAt_lt hX))).trans hX) ((rowAt_block (hW'.block _ (rowAt_lt hE))).trans hE))
end Go.Proofs.YtofifeicbhbgpaaDoor
