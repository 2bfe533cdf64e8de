/- ForestOrder, at arguments as they came in. -/
import Derived.Test.YtofifeicbhbgpaaOrderL
import Derived.Test.YtofifeicbhbgpaaRow
namespace Go.Proofs.Ytofifeicbhbgpaa
open Go.RowKit
theorem forestOrder_g (v : Value) (l : List Item) (W : World) (s : Sl Item.arr 17 W.heap.size W v l) (_ : ∀ e ∈ l, Item.ok e) (_ : l.length * 136 ≤ 140737488351232) :
    Calls Try.prog 3 #[v] W fun e w' => e = .returned (.bool true) ∧ Below W.heap.size W w' := forestOrder_c v l W s
end Go.Proofs.Ytofifeicbhbgpaa
