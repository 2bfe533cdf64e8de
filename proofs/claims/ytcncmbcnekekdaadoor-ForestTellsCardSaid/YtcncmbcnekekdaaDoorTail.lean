/- A region that draws its order and ends in operations that write: one walk in the order of the text. -/
import Derived.Test.YtcncmbcnekekdaaDoorList
import Derived.StillTail
namespace Go.Proofs.YtcncmbcnekekdaaDoor
open Go.RowKit

theorem still_of_quiet {P : Program} {ops : Array Oper} {W0 : World} {Q : Act → Prop} : ∀ (l : List Oper) (a : Act), wpQuiet P ops (fun W => W = W0) Q l a → wpStill P ops W0 Q l a
  | [], a, h => h
  | o :: l, a, h => by
    unfold wpQuiet at h
    unfold wpStill
    split
    · rename_i hw
      rw [if_pos hw] at h
      obtain ⟨v, h1, h2⟩ := h
      have h3 := h1 W0 rfl
      unfold Oper.quietAt at h3
      unfold Oper.still
      generalize (execOp a.eval o).run P W0 = r at *
      cases r with
      | ok x w' =>
        cases x <;> simp only [Oper.quietUpon] at h3 <;> simp only [Oper.stillUpon]
        case value u => exact ⟨h3.1, by rw [h3.2]; exact still_of_quiet l _ h2⟩
        case skip => exact ⟨h3.1, by rw [← h3.2]; exact still_of_quiet l _ h2⟩
        case enter f args => exact ⟨h3.1, v, h3.2, still_of_quiet l _ h2⟩
      | halt x w' => simp only [Oper.quietUpon] at h3
    · rename_i hw
      rw [if_neg hw] at h
      exact still_of_quiet l _ h
theorem wp_region_tail {P : Program} {id : Nat} {Q : Exit → Act → World → Prop} {a : Act} {w : World} {l : List Oper} (n : Nat) (hm : P.follows .mixedOrders = true) (hB : Region.lexTailB .any l.toArray n = true)
    (h : wpQuiet P l.toArray (fun W => W = w.drew) (fun a' => wpList P l.toArray Q (l.drop n) a' w.drew) (l.take n) a) : (Code.region id l.toArray true).wp P Q a w :=
  wp_region_still_tail n hm hB (still_of_quiet _ _ h)
/-- A whole struct, read in such a region. -/
theorem wpQuiet_load_tail {P : Program} {ops : Array Oper} {Q : Act → Prop} {W0 : World} {o : Oper} {rest : List Oper} {a : Act} (hw : Region.wanted o (yielded ops a.tmps) = true) (ty : TypeId) (x : Operand) (ho : o.op = .load ty x)
    (b off n : Nat) (hx : a.eval x = .pointer (some ⟨b, off, none⟩)) (cs : Array Value) (d : TypeDesc) (hr : rowAt W0 b off n = some cs)
    (hu : P.underlying ty = some d) (hd : (match d with | .struct _ | .array _ _ => true | _ => false) = true) (hi : (P.info? ty).map (·.size) = some n)
    (h : wpQuiet P ops (fun W => W = W0) Q rest (a.put o.dst (.agg cs))) : wpQuiet P ops (fun W => W = W0) Q (o :: rest) a := by
  unfold wpQuiet
  rw [if_pos hw]
  refine ⟨.agg cs, ?_, h⟩
  intro W1 hW1
  rw [hW1]
  unfold Oper.quietAt
  have he : (execOp a.eval o).run P W0 = .ok (.value (.agg cs)) W0 := by
    unfold execOp
    simp only [ho, hx, Instr.loadAt, Instr.sureAddr, Sem.run_bind, Sem.run_pure, Result.andThen_ok, run_loadVar_at W0 ty b off n cs d hr hu hd hi]
  rw [he]
  exact ⟨rfl, rfl⟩
end Go.Proofs.YtcncmbcnekekdaaDoor
