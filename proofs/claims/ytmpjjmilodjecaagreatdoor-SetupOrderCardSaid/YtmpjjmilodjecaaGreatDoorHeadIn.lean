/- A region that draws its order, in a round of a loop over a function: as XHead's law. -/
import Derived.Test.YtmpjjmilodjecaaGreatDoorHead
import Derived.RangeFuncCalls
import Derived.OrdersIn
import Derived.Test.YtmpjjmilodjecaaGreatDoorListIn
namespace Go.Proofs.YtmpjjmilodjecaaGreatDoor
open Go.RowKit
set_option linter.unusedVariables false
def noOut (Q : Exit → Act → World → Prop) : Exit → Act → World → Prop
  | .outgrown, _, _ => False
  | e, a, w => Q e a w
theorem noOut_q {Q : Exit → Act → World → Prop} {e : Exit} {a : Act} {w : World} (h : noOut Q e a w) : Q e a w := by
  cases e <;> first | exact h | exact False.elim h
theorem noOut_normal {Q : Exit → Act → World → Prop} {a : Act} {w : World} : noOut Q .normal a w = Q .normal a w := rfl
section
variable {P : Program} {ops : Array Oper} {Q : Exit → Act → World → Prop} {l n : Nat}
theorem oper_in {o : Oper} {a : Act} {w : World} {K : Act → World → Prop} (hnd : ∀ c, o.op ≠ .defer c) (h : o.wp P a w K (noOut Q)) : o.wpIn (Fence.wide.inRound l) n P a w K Q := by
  unfold Oper.wpIn
  refine ⟨fun f _ => trivial, ?_⟩
  rw [Oper.semAt_plain _ _ _ hnd]
  unfold Oper.wp at h
  generalize (execOp a.eval o).run P w = r at *
  cases r with
  | ok x w' =>
    cases x <;> simp only [Oper.upon] at h <;> simp only [Oper.uponIn]
    case value u => exact h
    case skip => exact h
    case defer d => exact h
    case enter f args =>
      refine ⟨(fun hd => by cases hd), (CallsIn.inRound l (callsIn_wide.2 h)).mono fun e w'' he => ?_⟩
      cases e with
      | returned v => exact he
      | panicked c => exact he
      | outgrown => obtain ⟨a1, w1, hf⟩ := he; exact hf.elim
    case row r args =>
      exact ⟨(fun hd => by cases hd), fun c cs _ => let ⟨v, w', r, s⟩ := h c cs; ⟨v, w', r, stepsIn_wide.2 s⟩⟩
  | halt x w' => cases x <;> simp only [Oper.upon] at h <;> simp only [Oper.uponIn] <;> first | exact h | exact h.elim
/-- No operation is a defer statement. -/
def noDefer (ops : Array Oper) : Bool := ops.all fun o => match o.op with | .defer _ => false | _ => true
theorem any_in (hp : noDefer ops = true) {md : Region.Mode} : ∀ (fuel : Nat) (listed : Array Bool) (a : Act) (w : World), wpAny P md ops (noOut Q) fuel listed a w → wpAnyIn (Fence.wide.inRound l) n P md ops Q fuel listed a w
  | 0, _, _, _, h => ⟨h.1, noOut_q h.2⟩
  | fuel + 1, listed, a, w, h => ⟨fun h0 => noOut_q (h.1 h0), fun i hi => by
      have hh := h.2 i hi
      unfold wpOp at hh
      unfold wpOpIn
      cases ho : ops[i]? with
      | none => simp only [ho] at hh; exact any_in hp fuel _ _ _ hh
      | some o =>
        simp only [ho] at hh ⊢
        have hop := (Array.all_eq_true_iff_forall_mem.1 hp) o (Array.mem_of_getElem? ho)
        split
        · rename_i hw
          simp only [hw, if_true] at hh
          rcases hh with hh | ⟨_, a1, w1, hf⟩
          · exact oper_in (by intro c hc; simp [hc] at hop) (Oper.wp_mono (fun a' w' h' => any_in hp fuel _ _ _ h') hh)
          · exact hf.elim
        · rename_i hw
          simp only [hw] at hh
          exact ⟨fun f _ => trivial, any_in hp fuel _ _ _ hh⟩⟩
theorem wpIn_region_T {id : Nat} {a : Act} {w : World} {l' : List Oper} (m : Nat) (act : List Nat) (S : World → Prop) (hp : noDefer l'.toArray = true) (hm : P.follows .mixedOrders = true) (hB : lexTB .any l'.toArray m act = true)
    (hQ : blind (noOut Q) act l' 0) (hS : S w.drew) (h : wpT P l'.toArray (noOut Q) S m act l' 0 a w.drew) : (Code.region id l'.toArray true).wpIn (Fence.wide.inRound l) n P Q a w := by
  simp only [lexTB, Bool.and_eq_true, decide_eq_true_eq] at hB
  obtain ⟨⟨⟨⟨hsel, hn⟩, hs⟩, hc⟩, hlex⟩ := hB
  have inv0 : HeadInv .any l'.toArray m (Array.replicate l'.toArray.size false) :=
    ⟨by simp, fun j oj _ hl => (by rw [getD_replicate_false] at hl; cases hl), fun t _ ht => getD_in (by simpa using ht) (getD_replicate_false _ _)⟩
  have := wpAnyT_of (S := S) hsel hs hc hn act l' 0 (Array.replicate l'.toArray.size false) a w.drew (fun j => by simp) (fun _ => inv0) (fun _ => hS) (by simpa using hlex) hQ h
  exact wpIn_region_any hm (any_in hp _ _ _ _ (wpAny_of_T _ _ _ _ (by simpa using this)))
end
end Go.Proofs.YtmpjjmilodjecaaGreatDoor
