/- An event, cell by cell; keys and ids compared so. -/
import Derived.Test.YtofifeicbhbgpaaDoorAuditE
import Derived.Deep.DeepCutAuto
namespace Go.Proofs.YtofifeicbhbgpaaDoor
open Go.RowKit
set_option linter.unusedVariables false
set_option linter.unusedSimpArgs false
theorem Event.cellsL {w : World} {g : Nat} {e : Event} (h : rowAt w g 0 18 = some (Event.arr e)) :
    w.cell? ⟨g, 0, none⟩ = some (.int .i64 e.kind) ∧ w.cell? ⟨g, 1, none⟩ = some (.int .i64 e.real) ∧ w.cell? ⟨g, 2, none⟩ = some (.int .i64 e.node) ∧ w.cell? ⟨g, 3, none⟩ = some (.int .i64 e.loc) ∧
    w.cell? ⟨g, 4, none⟩ = some (.int .i64 e.key.id.node) ∧ w.cell? ⟨g, 5, none⟩ = some (.int .i64 e.key.id.inc) ∧ w.cell? ⟨g, 6, none⟩ = some (.int .i64 e.key.id.seq) ∧ w.cell? ⟨g, 7, none⟩ = some (.int .i64 e.key.att) ∧
    w.cell? ⟨g, 8, none⟩ = some (.int .i64 e.parent.id.node) ∧ w.cell? ⟨g, 9, none⟩ = some (.int .i64 e.parent.id.inc) ∧ w.cell? ⟨g, 10, none⟩ = some (.int .i64 e.parent.id.seq) ∧ w.cell? ⟨g, 11, none⟩ = some (.int .i64 e.parent.att) ∧
    w.cell? ⟨g, 12, none⟩ = some (.int .i64 e.root.node) ∧ w.cell? ⟨g, 13, none⟩ = some (.int .i64 e.root.inc) ∧ w.cell? ⟨g, 14, none⟩ = some (.int .i64 e.root.seq) ∧
    w.cell? ⟨g, 15, none⟩ = some (.int .i64 e.hop) ∧ w.cell? ⟨g, 16, none⟩ = some (.int .i64 e.code) ∧ w.cell? ⟨g, 17, none⟩ = some (.int .i64 e.value) :=
  ⟨rowAt_cell h 0 (by omega), rowAt_cell h 1 (by omega), rowAt_cell h 2 (by omega), rowAt_cell h 3 (by omega), rowAt_cell h 4 (by omega), rowAt_cell h 5 (by omega), rowAt_cell h 6 (by omega), rowAt_cell h 7 (by omega), rowAt_cell h 8 (by omega), rowAt_cell h 9 (by omega), rowAt_cell h 10 (by omega), rowAt_cell h 11 (by omega), rowAt_cell h 12 (by omega), rowAt_cell h 13 (by omega), rowAt_cell h 14 (by omega), rowAt_cell h 15 (by omega), rowAt_cell h 16 (by omega), rowAt_cell h 17 (by omega)⟩
def T.eqK (a b c d a' b' c' d' : Int) : Bool := decide ((⟨⟨a, b, c⟩, d⟩ : Key) = ⟨⟨a', b', c'⟩, d'⟩)
def T.eqI (a b c a' b' c' : Int) : Bool := decide ((⟨a, b, c⟩ : Id) = ⟨a', b', c'⟩)
theorem eqKL (w : World) (a b c d a' b' c' d' : Int) : (Op.equalIn 10000 53 (.agg #[.int .i64 a, .int .i64 b, .int .i64 c, .int .i64 d]) (.agg #[.int .i64 a', .int .i64 b', .int .i64 c', .int .i64 d'])).run Tryd.prog w = .ok (T.eqK a b c d a' b' c' d') w := eqTKey w ⟨⟨a, b, c⟩, d⟩ ⟨⟨a', b', c'⟩, d'⟩
theorem eqIL (w : World) (a b c a' b' c' : Int) : (Op.equalIn 10000 51 (.agg #[.int .i64 a, .int .i64 b, .int .i64 c]) (.agg #[.int .i64 a', .int .i64 b', .int .i64 c'])).run Tryd.prog w = .ok (T.eqI a b c a' b' c') w := eqTId w ⟨a, b, c⟩ ⟨a', b', c'⟩
/-- The same, of keys and ids; the names of the cells in the walk. -/
def T.eqKey (x e : Key) : Bool := T.eqK x.id.node x.id.inc x.id.seq x.att e.id.node e.id.inc e.id.seq e.att
def T.eqId (x e : Id) : Bool := T.eqI x.node x.inc x.seq e.node e.inc e.seq
theorem T.eqKey_dec (x e : Key) : T.eqKey x e = decide (x = e) := rfl
theorem T.eqId_dec (x e : Id) : T.eqId x e = decide (x = e) := rfl
theorem T.eqKey_u {x e : Key} {v : Bool} (h : T.eqKey x e = v) : T.eqK x.id.node x.id.inc x.id.seq x.att e.id.node e.id.inc e.id.seq e.att = v := h
theorem T.eqId_u {x e : Id} {v : Bool} (h : T.eqId x e = v) : T.eqI x.node x.inc x.seq e.node e.inc e.seq = v := h
end Go.Proofs.YtofifeicbhbgpaaDoor
