/- ChainLate, at arguments as they came in. -/
import Derived.Test.YtofifeicbhbgpaaChainLate
import Derived.Test.YtofifeicbhbgpaaRowP
namespace Go.Proofs.Ytofifeicbhbgpaa
open Go.RowKit
theorem chainLate_g {H : Type} {enc : TypeId × Value → H} (c : Config) (p late : Int) (W : World) (_ : Config.ok c) (g : ∃ fuel y, DataW.trod enc Try.prog W 0 (fun _ => true) true fuel 38 [c.progs] = some y)
    (_ : i64 p) (_ : i64 late) :
    Calls Try.prog 6 #[.agg (Config.arr c), .int .i64 p, .int .i64 late] W fun e w' => e = .returned (.bool true) ∧ Below W.heap.size W w' := by
  obtain ⟨zs, hz, _⟩ := progs_open g
  exact chainLate_w c p late W zs hz
end Go.Proofs.Ytofifeicbhbgpaa
