/- Whatever the arguments are, hourglasslaw29.SetupOrder returns true, and each argument reads behind the call as it read before; no condition is added. (Printed by wip/gen_row.py and wip/gen_door.py, our own.) The listed variables are tied by the card; the walk reads what the tie gives. -/
import Derived.Test.YtmpjjmilodjecaaGreatDoorRow
import Derived.Test.YtmpjjmilodjecaaGreatDoorSetOrd
import Derived.Test.YtmpjjmilodjecaaGreatDoorRows
import Derived.Test.YtmpjjmilodjecaaGreatDoorLawSetupOrderK
import Derived.Test.YtmpjjmilodjecaaGreatDoorTie
import Derived.Test.YtmpjjmilodjecaaGreatDoorCards
import Derived.ProofKit
import Derived.LaidMore
import Derived.OpenShut
import Derived.Stop.Joined
import Derived.SevenTiedAt
import Derived.Lay
import Derived.Test.YtmpjjmilodjecaaGreatDoorEnvRow
namespace Go.Proofs.YtmpjjmilodjecaaGreatDoor.setupOrder
open Go.RowKit Go.ChangeShapes Go.WideShapes Go.ChangeAt
open Go.ChangeMaps (open_string shut_string)
set_option linter.unusedVariables false
theorem own : ownKnob Tryz.prog.godebug = none := by kernel_rfl
theorem laidOut : laidOutB Tryz.prog = true := k1
/-- The laid world meets the condition. -/
theorem laid_met (os : Os) (args : Array Value) : laidMetH Tryz.prog Rows.setupOrderRow.laid ((World.laidAll Tryz.prog os Rows.setupOrderRow.laid).forCall (fun _ _ => 0) ⟨#[], args, []⟩).memory :=
  laidMetH_iff.2 ⟨by
    have e : (Rows.setupOrderRow.laid.filter fun x => x.2.handleName?.isNone) = Rows.setupOrderRow.laid := List.filter_eq_self.2 (List.all_eq_true.1 (by kernel_rfl))
    rw [e]; exact laidMet_laidAll _ (by kernel_rfl) (by kernel_rfl), by
    have e : (Rows.setupOrderRow.laid.filter fun x => x.2.handleName?.isSome) = [] := List.filter_eq_nil_iff.2 fun x hx => by
      have h : (Rows.setupOrderRow.laid.all fun x => !x.2.handleName?.isSome) = true := by kernel_rfl
      have := List.all_eq_true.1 h x hx
      simpa using this
    rw [e]; intro x hx; cases hx⟩
set_option maxRecDepth 100000 in
theorem lifted (os : Os) (started : os.Started) (H : Type) (enc : TypeId × Value → H) :
    ReturnsInHanded {} Tryz.checked os 3 .any (fun w args => (Rows.setupOrderSpec.pre enc Tryz.prog Tryz.f3 Rows.setupOrderRow.domain false w args ∧ laidMetH Tryz.prog Rows.setupOrderRow.laid w) ∧ sizedMet enc Tryz.prog Tryz.f3 (OpenSpec.ofChange Rows.setupOrderSpec) false w args)
      (Rows.setupOrderSpec.post enc Tryz.prog Tryz.f3 false true false false) := by
  refine handed_and_shaped (C := Tryz.checked) (X := fun w _ => laidMetH Tryz.prog Rows.setupOrderRow.laid w) (fun _ _ _ hh h => h.of_heap hh) own started (by kernel_rfl) Tryz.func3
    (ChangeSpec.witness_shaped (enc := enc) (C := Tryz.checked) (os := os) (X := fun w _ => laidMetH Tryz.prog Rows.setupOrderRow.laid w) false (World.laidAll Tryz.prog os Rows.setupOrderRow.laid) #[.slice none 0 0, .slice none 0 0, .slice none 0 0] 8 (World.laidAll_os _ _ _) (World.shaped_of_ZipB (by kernel_rfl) (by kernel_rfl)) (by kernel_rfl) (by kernel_rfl) (by kernel_rfl) (laid_met os _)) ?_
  intro W base args ds gs before hval0 hW hcnd hsz0 hL hsh _
  have henv : Env W := env_of hL hsh (by rfl) (by rfl) (by rfl)
  clear hsh
  have hsz : (DataW.weightsEach Tryz.prog (Tryz.f3.params.toList ++ Rows.setupOrderSpec.plain.varTypes Tryz.prog) (ds ++ gs)).all (· ≤ reachBytes) = true := hsz0
  have hval : ∀ (j : Nat) t v, Tryz.f3.params[j]? = some t → args[j]? = some v → Value.okWide Tryz.prog W .any base t v := hval0
  have hW' := hW
  obtain ⟨p, q, hA0, hV, rfl, hfz, hnd⟩ := hW
  have hA : DataW.TrodAll enc Tryz.prog W 0 (fun _ => true) true Tryz.f3.params.toList args.toList ds p := hA0
  rw [Tryz.params3] at hA hval hsz
  obtain ⟨v0, vs0, d0, ds0, p0, q0, hargs, rfl, rfl, h0, r0⟩ := trodAll_cons hA
  obtain ⟨v1, vs1, d1, ds1, p1, q1, rfl, rfl, rfl, h1, r1⟩ := trodAll_cons r0
  obtain ⟨v2, vs2, d2, ds2, p2, q2, rfl, rfl, rfl, h2, r2⟩ := trodAll_cons r1
  obtain ⟨rfl, rfl, rfl⟩ := trodAll_nil r2
  obtain rfl : args = #[v0, v1, v2] := by cases args; simp_all
  obtain ⟨rfl, rfl⟩ := trodVars_none hV
  have lt0 : ∀ x ∈ p0, x.block < W.heap.size := by obtain ⟨m, hm⟩ := h0; exact DataW.trod_lt m _ _ _ hm
  have k0 := h0
  obtain ⟨a0, s0, w0, b0⟩ := slice_open (arr := (fun x : Int => #[Value.int .i64 x])) (sz := 1) Tryz.underlying22 (by kernel_rfl) (by omega) (fun fuel cs y h => int_open h) (hval 0 22 v0 rfl rfl) h0
  have z0 : a0.length * 8 ≤ 140737488351232 := by
    rcases b0 with ⟨_, e⟩ | ⟨el, sp, e, hl⟩
    · rw [e]; simp
    · have z := sized_slice hsz (j := 0) (t := 22) (elems := el) (spare := sp) rfl (by rw [e]; rfl) Tryz.underlying22
      have hb : Tryz.prog.bytesOf 3 = 8 := by kernel_rfl
      rw [hb] at z
      exact Nat.le_trans (Nat.mul_le_mul_right _ hl) z
  have lt1 : ∀ x ∈ p1, x.block < W.heap.size := by obtain ⟨m, hm⟩ := h1; exact DataW.trod_lt m _ _ _ hm
  have k1 := h1
  obtain ⟨a1, s1, w1, b1⟩ := slice_open (arr := (fun x : Int => #[Value.int .i64 x])) (sz := 1) Tryz.underlying22 (by kernel_rfl) (by omega) (fun fuel cs y h => int_open h) (hval 1 22 v1 rfl rfl) h1
  have z1 : a1.length * 8 ≤ 140737488351232 := by
    rcases b1 with ⟨_, e⟩ | ⟨el, sp, e, hl⟩
    · rw [e]; simp
    · have z := sized_slice hsz (j := 1) (t := 22) (elems := el) (spare := sp) rfl (by rw [e]; rfl) Tryz.underlying22
      have hb : Tryz.prog.bytesOf 3 = 8 := by kernel_rfl
      rw [hb] at z
      exact Nat.le_trans (Nat.mul_le_mul_right _ hl) z
  have lt2 : ∀ x ∈ p2, x.block < W.heap.size := by obtain ⟨m, hm⟩ := h2; exact DataW.trod_lt m _ _ _ hm
  have k2 := h2
  obtain ⟨a2, s2, w2, b2⟩ := slice_open (arr := GoOp.arr) (sz := 3) Tryz.underlying23 (by kernel_rfl) (by omega) (fun fuel cs y h => GoOp.open h) (hval 2 23 v2 rfl rfl) h2
  have z2 : a2.length * 24 ≤ 140737488351232 := by
    rcases b2 with ⟨_, e⟩ | ⟨el, sp, e, hl⟩
    · rw [e]; simp
    · have z := sized_slice hsz (j := 2) (t := 23) (elems := el) (spare := sp) rfl (by rw [e]; rfl) Tryz.underlying23
      have hb : Tryz.prog.bytesOf 110 = 24 := by kernel_rfl
      rw [hb] at z
      exact Nat.le_trans (Nat.mul_le_mul_right _ hl) z
  clear hA0 hval0 hsz0 hsz
  refine (setupOrder_g v0 a0 v1 a1 v2 a2 W henv s0 w0 z0 s1 w1 z1 s2 w2 z2).mono fun e W' ⟨he, bel⟩ => ?_
  subst he
  exact ⟨_, rfl, _, _, _, [], _, [], hW', trodAll_mk1 (shut_bool Tryz.underlying4 _), (trodAll_cons_mk (Below.trod laidOut (by kernel_rfl) (of_decide_eq_true (by kernel_rfl)) k0 bel lt0) (trodAll_cons_mk (Below.trod laidOut (by kernel_rfl) (of_decide_eq_true (by kernel_rfl)) k1 bel lt1) (trodAll_cons_mk (Below.trod laidOut (by kernel_rfl) (of_decide_eq_true (by kernel_rfl)) k2 bel lt2) trodAll_mk0))), rfl, bel.frame _, fun h => by cases h⟩
theorem over : Rows.setupOrderRow.holds Tryz.pinned (OpenSpec.ofChange Rows.setupOrderSpec) :=
  OpenClaim.holds_of_wide 3 Tryz.f3 rfl rfl rfl rfl rfl rfl rfl ⟨rfl, rfl, rfl, rfl, rfl⟩ rfl rfl rfl rfl rfl named Tryz.func3 closed
    (of_decide_eq_true (by kernel_rfl)) (by unfold Func.isWrapper; first | (rw [if_pos (by decide +kernel)]; kernel_rfl) | (rw [if_neg (by decide +kernel)]; exact ⟨rfl, rfl⟩))
    (fun os started H enc _ => lifted os started H enc)
theorem proved : Rows.SetupOrderSaid := over
/-- The card: the row, its listed variables tied to the program's text. -/
theorem card : Rows.SetupOrderCardSaid :=
  Claim7.holds_tied_plain_at .later [] Rows.setupOrderCard.laidKinds true Rows.setupOrderCard.stood.harness Rows.setupOrderCard.stood.looks
    over (fun _ h => by cases h) ck_wf (fun _ h => by cases h) setupOrder_row_tie rfl ⟨rfl, rfl⟩ ck_main rfl
    (fun f fn hf hfn => by
      obtain rfl : f = 3 := Option.some.inj (named.symm.trans hf) |>.symm
      obtain rfl : fn = Tryz.f3 := (Option.some.inj (Tryz.func3.symm.trans hfn)).symm
      exact ⟨ck_looks, fun j t ht => by
        rw [Tryz.params3] at ht
        have hall : (#[22, 22, 23] : Array TypeId).all (fun t => !Tryz.prog.wantsStandIn t) = true := by kernel_rfl
        have hm := Array.all_eq_true_iff_forall_mem.1 hall t (Array.mem_of_getElem? ht)
        exact (show Tryz.prog.wantsStandIn t = false by simpa using hm)⟩)
    ck_goes
end Go.Proofs.YtmpjjmilodjecaaGreatDoor.setupOrder
namespace Go.Proofs.YtmpjjmilodjecaaGreatDoor
/-- The tied card, under a short name, for the claim. -/
theorem setupOrder_holds : Rows.SetupOrderCardSaid := setupOrder.card
#print axioms setupOrder_holds
end Go.Proofs.YtmpjjmilodjecaaGreatDoor
