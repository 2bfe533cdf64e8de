/- AuditPlants, at arguments as they came in. -/
import Derived.Test.YtofifeicbhbgpaaPlantsW
import Derived.Test.YtofifeicbhbgpaaRow
namespace Go.Proofs.Ytofifeicbhbgpaa
open Go.RowKit
theorem Event.ok_hop {e : Event} (h : Event.ok e) : e.hop ≤ 9223372036854775807 := by
  unfold Event.ok i64 at h
  omega
theorem auditPlants_g {H : Type} {enc : TypeId × Value → H} (c : Config) (v : Value) (l : List Event) (n : Int) (W : World) (_ : Config.ok c) (_ : ∃ fuel y, DataW.trod enc Try.prog W 0 (fun _ => true) true fuel 38 [c.progs] = some y)
    (s : Sl Event.arr 18 W.heap.size W v l) (h : ∀ e ∈ l, Event.ok e) (_ : l.length * 144 ≤ 140737488351232) (_ : i64 n) :
    Calls Try.prog 5 #[.agg (Config.arr c), v, .int .i64 n] W fun e w' => e = .returned (.bool true) ∧ Below W.heap.size W w' :=
  plants_w c v l n W s fun e he => Event.ok_hop (h e he)
end Go.Proofs.Ytofifeicbhbgpaa
