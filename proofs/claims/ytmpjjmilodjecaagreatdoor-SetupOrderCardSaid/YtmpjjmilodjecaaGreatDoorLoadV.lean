/- A whole struct read; the operation is looked at first. -/
import Derived.Test.YtmpjjmilodjecaaGreatDoorBase
namespace Go.Proofs.YtmpjjmilodjecaaGreatDoor
open Go.RowKit
/-- As wpList_load_at_w; the operation is looked at first. -/
theorem wpList_load_at_v {P : Program} {ops : Array Oper} {rest : List Oper} {o : Oper} {a : Act} {w : World} {Q : Exit → Act → World → Prop} (ty : TypeId) (x : Operand) (ho : o.op = .load ty x) (hw : Region.wanted o (yielded ops a.tmps) = true)
    (g off n : Nat) (hx : a.eval x = .pointer (some ⟨g, off, none⟩)) (cs : Array Value) (d : TypeDesc) (hg : rowAt w g off n = some cs)
    (hu : P.underlying ty = some d) (hd : (match d with | .struct _ | .array _ _ => true | _ => false) = true) (hi : (P.info? ty).map (·.size) = some n)
    (h : wpList P ops Q rest (a.put o.dst (.agg cs)) w) : wpList P ops Q (o :: rest) a w := wpList_load_at_w hw ty x ho g off n hx cs d hg hu hd hi h
end Go.Proofs.YtmpjjmilodjecaaGreatDoor
