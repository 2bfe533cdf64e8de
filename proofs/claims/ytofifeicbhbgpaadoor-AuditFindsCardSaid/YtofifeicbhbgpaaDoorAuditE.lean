/- audit: facts on events. -/
import Derived.Test.YtofifeicbhbgpaaDoorAuditA
namespace Go.Proofs.YtofifeicbhbgpaaDoor
open Go.RowKit
set_option linter.unusedVariables false
set_option linter.unusedSimpArgs false
/-- As wpList_load_at_w; the operation is looked at first. -/
theorem wpList_load_at_v {P : Program} {ops : Array Oper} {rest : List Oper} {o : Oper} {a : Act} {w : World} {Q : Exit → Act → World → Prop} (ty : TypeId) (x : Operand) (ho : o.op = .load ty x) (hw : Region.wanted o (yielded ops a.tmps) = true)
    (g off n : Nat) (hx : a.eval x = .pointer (some ⟨g, off, none⟩)) (cs : Array Value) (d : TypeDesc) (hg : rowAt w g off n = some cs)
    (hu : P.underlying ty = some d) (hd : (match d with | .struct _ | .array _ _ => true | _ => false) = true) (hi : (P.info? ty).map (·.size) = some n)
    (h : wpList P ops Q rest (a.put o.dst (.agg cs)) w) : wpList P ops Q (o :: rest) a w := wpList_load_at_w hw ty x ho g off n hx cs d hg hu hd hi h
theorem Event.cells {w : World} {g o : Nat} {e : Event} (h : rowAt w g o 18 = some (Event.arr e)) :
    w.cell? ⟨g, o, none⟩ = some (.int .i64 e.kind) ∧ w.cell? ⟨g, o + 1, none⟩ = some (.int .i64 e.real) ∧ w.cell? ⟨g, o + 2, none⟩ = some (.int .i64 e.node) ∧ w.cell? ⟨g, o + 3, none⟩ = some (.int .i64 e.loc) ∧
    w.cell? ⟨g, o + 15, none⟩ = some (.int .i64 e.hop) ∧ w.cell? ⟨g, o + 16, none⟩ = some (.int .i64 e.code) ∧ w.cell? ⟨g, o + 17, none⟩ = some (.int .i64 e.value) :=
  ⟨rowAt_cell h 0 (by omega), rowAt_cell h 1 (by omega), rowAt_cell h 2 (by omega), rowAt_cell h 3 (by omega), rowAt_cell h 15 (by omega), rowAt_cell h 16 (by omega), rowAt_cell h 17 (by omega)⟩
theorem Event.parts {w : World} {g o : Nat} {e : Event} (h : rowAt w g o 18 = some (Event.arr e)) :
    rowAt w g (o + 4) 4 = some (Key.arr e.key) ∧ rowAt w g (o + 8) 4 = some (Key.arr e.parent) ∧ rowAt w g (o + 12) 3 = some (Id.arr e.root) ∧ rowAt w g (o + 4) 3 = some (Id.arr e.key.id) :=
  ⟨(rowAt_part h 4 4 (by omega)).trans (congrArg some (Event.part_key e)), (rowAt_part h 8 4 (by omega)).trans (congrArg some (Event.part_parent e)), (rowAt_part h 12 3 (by omega)).trans (congrArg some (Event.part_root e)), (rowAt_part h 4 3 (by omega)).trans (congrArg some (Event.part_key_id e))⟩
/-- A box of an event, beside one that lay there. -/
theorem Event.boxed {w : World} {b : Nat} {e x : Event} (h : rowAt w b 0 18 = some (Event.arr e)) (t : TypeId) :
    rowAt (w.alloc (.cells (Event.arr x) t)) b 0 18 = some (Event.arr e) ∧ rowAt (w.alloc (.cells (Event.arr x) t)) w.heap.size 0 18 = some (Event.arr x) ∧ Below w.heap.size w (w.alloc (.cells (Event.arr x) t)) :=
  ⟨(rowAt_alloc_old _ _ _ _ _ (rowAt_lt h)).trans h, rowAt_new _ _ _ _ _ rfl, (Below.refl _ w).alloc (Nat.le_refl _) _⟩
theorem and2 (a b : Bool) : ((a && b) = false ∧ a = false) ∨ ((a && b) = false ∧ a = true ∧ b = false) ∨ ((a && b) = true ∧ a = true ∧ b = true) := by cases a <;> cases b <;> simp
theorem and3 (a b c : Bool) : ((a && (b && c)) = false ∧ a = false) ∨ ((a && (b && c)) = false ∧ a = true ∧ b = false) ∨ ((a && (b && c)) = false ∧ a = true ∧ b = true ∧ c = false) ∨ ((a && (b && c)) = true ∧ a = true ∧ b = true ∧ c = true) := by cases a <;> cases b <;> cases c <;> simp
theorem and4 (a b c d : Bool) : ((a && (b && (c && d))) = false ∧ a = false) ∨ ((a && (b && (c && d))) = false ∧ a = true ∧ b = false) ∨ ((a && (b && (c && d))) = false ∧ a = true ∧ b = true ∧ c = false) ∨ ((a && (b && (c && d))) = false ∧ a = true ∧ b = true ∧ c = true ∧ d = false) ∨ ((a && (b && (c && d))) = true ∧ a = true ∧ b = true ∧ c = true ∧ d = true) := by cases a <;> cases b <;> cases c <;> cases d <;> simp

end Go.Proofs.YtofifeicbhbgpaaDoor
