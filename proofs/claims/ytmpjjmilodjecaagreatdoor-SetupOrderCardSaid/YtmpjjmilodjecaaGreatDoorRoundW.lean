/- In a round of a loop over a function a region's operations may be walked as anywhere. -/
import Derived.Test.YtmpjjmilodjecaaGreatDoorHeadIn
namespace Go.Proofs.YtmpjjmilodjecaaGreatDoor
open Go.RowKit
set_option linter.unusedVariables false
theorem list_in {P : Program} {ops : Array Oper} {Q : Exit → Act → World → Prop} {l n : Nat} : ∀ (rest : List Oper) (a : Act) (w : World), (∀ o ∈ rest, ∀ c, o.op ≠ .defer c) → wpList P ops (noOut Q) rest a w → wpListIn (Fence.wide.inRound l) n P ops Q rest a w
  | [], a, w, _, h => noOut_q h
  | o :: rest, a, w, hp, h => by
    unfold wpList at h
    unfold wpListIn
    have ih := fun a w => list_in (P := P) (ops := ops) (Q := Q) (l := l) (n := n) rest a w (fun o ho => hp o (List.mem_cons_of_mem _ ho))
    split
    · rename_i hw
      rw [if_pos hw] at h
      rcases h with h | ⟨_, a1, w1, hf⟩
      · exact oper_in (hp o List.mem_cons_self) (Oper.wp_mono (fun a' w' h' => ih a' w' h') h)
      · exact hf.elim
    · rename_i hw
      rw [if_neg hw] at h
      exact ⟨fun f _ => trivial, ih _ _ h⟩
/-- A region that draws no order. -/
theorem wpIn_list_W {P : Program} {Q : Exit → Act → World → Prop} {l n id : Nat} {a : Act} {w : World} {ops : List Oper} (hp : noDefer ops.toArray = true) (h : wpList P ops.toArray (noOut Q) ops a w) : (Code.region id ops.toArray false).wpIn (Fence.wide.inRound l) n P Q a w := by
  refine wpIn_region_lit (list_in ops a w (fun o ho c hc => ?_) h)
  have hop := (Array.all_eq_true_iff_forall_mem.1 hp) o (by simpa using ho)
  simp [hc] at hop
end Go.Proofs.YtmpjjmilodjecaaGreatDoor
