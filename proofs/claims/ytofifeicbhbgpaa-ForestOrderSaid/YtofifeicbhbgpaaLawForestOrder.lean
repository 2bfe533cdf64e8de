/- Whatever the arguments are, hourglasslaw31.ForestOrder returns true, and each argument reads behind the call as it read before; no condition is added. (Printed by wip/gen_row.py, our own.) -/
import Derived.Test.YtofifeicbhbgpaaRow
import Derived.Test.YtofifeicbhbgpaaOrderRow
import Derived.Test.YtofifeicbhbgpaaRows
namespace Go.Proofs.Ytofifeicbhbgpaa.forestOrder
open Go.RowKit Go.ChangeShapes Go.WideShapes Go.ChangeAt
open Go.ChangeMaps (open_string shut_string)
set_option linter.unusedVariables false
theorem own : ownKnob Try.prog.godebug = none := by kernel_rfl
theorem laidOut : laidOutB Try.prog = true := by kernel_rfl
set_option maxRecDepth 100000 in
theorem lifted (os : Os) (started : os.Started) (H : Type) (enc : TypeId × Value → H) :
    ReturnsInHanded {} Try.checked os 3 .any (Rows.forestOrderSpec.pre6 enc Try.prog Try.f3 Rows.forestOrderRow.domain false) (Rows.forestOrderSpec.post enc Try.prog Try.f3 false true false false) := by
  refine returnsInHanded_of_change_sized (C := Try.checked) own started (by kernel_rfl) Try.func3
    (ChangeSpec.witness6 (enc := enc) (C := Try.checked) false ⟨#[], #[.slice none 0 0], []⟩ 8 (by kernel_rfl) (by kernel_rfl) (by kernel_rfl) (by kernel_rfl)) ?_
  intro W base args ds gs before hval0 hW hcnd hsz0 _
  have hsz : (DataW.weightsEach Try.prog (Try.f3.params.toList ++ Rows.forestOrderSpec.plain.varTypes Try.prog) (ds ++ gs)).all (· ≤ reachBytes) = true := hsz0
  have hval : ∀ (j : Nat) t v, Try.f3.params[j]? = some t → args[j]? = some v → Value.okWide Try.prog W .any base t v := hval0
  have hW' := hW
  obtain ⟨p, q, hA0, hV, rfl, hfz, hnd⟩ := hW
  have hA : DataW.TrodAll enc Try.prog W 0 (fun _ => true) true Try.f3.params.toList args.toList ds p := hA0
  rw [Try.params3] at hA hval hsz
  obtain ⟨v0, vs0, d0, ds0, p0, q0, hargs, rfl, rfl, h0, r0⟩ := trodAll_cons hA
  obtain ⟨rfl, rfl, rfl⟩ := trodAll_nil r0
  obtain rfl : args = #[v0] := by cases args; simp_all
  obtain ⟨rfl, rfl⟩ := trodVars_none hV
  have lt0 : ∀ x ∈ p0, x.block < W.heap.size := by obtain ⟨m, hm⟩ := h0; exact DataW.trod_lt m _ _ _ hm
  have k0 := h0
  obtain ⟨a0, s0, w0, b0⟩ := slice_open (arr := Item.arr) (sz := 17) Try.underlying22 (by kernel_rfl) (by omega) (fun fuel cs y h => Item.open' h) (hval 0 22 v0 rfl rfl) h0
  have z0 : a0.length * 136 ≤ 140737488351232 := by
    rcases b0 with ⟨_, e⟩ | ⟨el, sp, e, hl⟩
    · rw [e]; simp
    · have z := sized_slice hsz (j := 0) (t := 22) (elems := el) (spare := sp) rfl (by rw [e]; rfl) Try.underlying22
      have hb : Try.prog.bytesOf 56 = 136 := by kernel_rfl
      rw [hb] at z
      exact Nat.le_trans (Nat.mul_le_mul_right _ hl) z
  clear hA0 hval0 hsz0 hsz
  refine (forestOrder_g v0 a0 W s0 w0 z0).mono fun e W' ⟨he, bel⟩ => ?_
  subst he
  exact ⟨_, rfl, _, _, _, [], _, [], hW', trodAll_mk1 (shut_bool Try.underlying4 _), (trodAll_cons_mk (Below.trod laidOut (by kernel_rfl) (of_decide_eq_true (by kernel_rfl)) k0 bel lt0) trodAll_mk0), rfl, bel.frame _, fun h => by cases h⟩
theorem over : Rows.forestOrderRow.holds Try.pinned (OpenSpec.ofChange Rows.forestOrderSpec) :=
  OpenClaim.holds_of_wide 3 Try.f3 rfl rfl rfl rfl rfl rfl rfl ⟨rfl, rfl, rfl, rfl, rfl⟩ rfl rfl rfl rfl rfl (by kernel_rfl) Try.func3 (by kernel_rfl)
    (of_decide_eq_true (by kernel_rfl)) (by unfold Func.isWrapper; first | (rw [if_pos (by decide +kernel)]; kernel_rfl) | (rw [if_neg (by decide +kernel)]; exact ⟨rfl, rfl⟩))
    (fun os started H enc _ => lifted os started H enc)
theorem proved : Rows.ForestOrderSaid := over
end Go.Proofs.Ytofifeicbhbgpaa.forestOrder
namespace Go.Proofs.Ytofifeicbhbgpaa
/-- The row, under a short name, for the claim. -/
theorem forestOrder_holds : Rows.ForestOrderSaid := forestOrder.proved
#print axioms forestOrder_holds
end Go.Proofs.Ytofifeicbhbgpaa
