/- Whatever the arguments are, hourglasslaw29.SetupBack returns true, and each argument reads behind the call as it read before; no condition is added. (Printed by wip/gen_row.py and wip/gen_door.py, our own.) The listed variables are tied by the card; the walk reads what the tie gives. -/
import Derived.Test.YtpgdgboobnmjiaaGreatDoorRow
import Derived.Test.YtpgdgboobnmjiaaGreatDoorSetBack
import Derived.Test.YtpgdgboobnmjiaaGreatDoorRows
import Derived.Test.YtpgdgboobnmjiaaGreatDoorTie
import Derived.Test.YtpgdgboobnmjiaaGreatDoorCards
import Derived.ProofKit
import Derived.LaidMore
import Derived.OpenShut
import Derived.Stop.Joined
import Derived.SevenTiedAt
import Derived.Lay
import Derived.Test.YtpgdgboobnmjiaaGreatDoorEnvRow
namespace Go.Proofs.YtpgdgboobnmjiaaGreatDoor.setupBack
open Go.RowKit Go.ChangeShapes Go.WideShapes Go.ChangeAt
open Go.ChangeMaps (open_string shut_string)
set_option linter.unusedVariables false
theorem own : ownKnob Tryz.prog.godebug = none := by kernel_rfl
theorem laidOut : laidOutB Tryz.prog = true := by kernel_rfl
/-- The laid world meets the condition. -/
theorem laid_met (os : Os) (args : Array Value) : laidMetH Tryz.prog Rows.setupBackRow.laid ((World.laidAll Tryz.prog os Rows.setupBackRow.laid).forCall (fun _ _ => 0) ⟨#[], args, []⟩).memory :=
  laidMetH_iff.2 ⟨by
    have e : (Rows.setupBackRow.laid.filter fun x => x.2.handleName?.isNone) = Rows.setupBackRow.laid := List.filter_eq_self.2 (List.all_eq_true.1 (by kernel_rfl))
    rw [e]; exact laidMet_laidAll _ (by kernel_rfl) (by kernel_rfl), by
    have e : (Rows.setupBackRow.laid.filter fun x => x.2.handleName?.isSome) = [] := List.filter_eq_nil_iff.2 fun x hx => by
      have h : (Rows.setupBackRow.laid.all fun x => !x.2.handleName?.isSome) = true := by kernel_rfl
      have := List.all_eq_true.1 h x hx
      simpa using this
    rw [e]; intro x hx; cases hx⟩
set_option maxRecDepth 100000 in
theorem lifted (os : Os) (started : os.Started) (H : Type) (enc : TypeId × Value → H) :
    ReturnsInHanded {} Tryz.checked os 4 .any (fun w args => (Rows.setupBackSpec.pre enc Tryz.prog Tryz.f4 Rows.setupBackRow.domain false w args ∧ laidMetH Tryz.prog Rows.setupBackRow.laid w) ∧ sizedMet enc Tryz.prog Tryz.f4 (OpenSpec.ofChange Rows.setupBackSpec) false w args)
      (Rows.setupBackSpec.post enc Tryz.prog Tryz.f4 false true false false) := by
  refine handed_and_shaped (C := Tryz.checked) (X := fun w _ => laidMetH Tryz.prog Rows.setupBackRow.laid w) (fun _ _ _ hh h => h.of_heap hh) own started (by kernel_rfl) Tryz.func4
    (ChangeSpec.witness_shaped (enc := enc) (C := Tryz.checked) (os := os) (X := fun w _ => laidMetH Tryz.prog Rows.setupBackRow.laid w) false (World.laidAll Tryz.prog os Rows.setupBackRow.laid) #[.agg #[.int .i64 0, .int .i64 0, .int .i64 0, .int .i64 0, .int .i64 0, .int .i64 0, .int .i64 0, .int .i64 0, .int .i64 0, .int .i64 0, .int .i64 0, .int .i64 0, .int .i64 0, .slice none 0 0]] 8 (World.laidAll_os _ _ _) (World.shaped_of_ZipB (by kernel_rfl) (by kernel_rfl)) (by kernel_rfl) (by kernel_rfl) (by kernel_rfl) (laid_met os _)) ?_
  intro W base args ds gs before hval0 hW hcnd hsz0 hL hsh _
  have henv : Env W := env_of hL hsh (by rfl) (by rfl) (by rfl)
  clear hsh
  have hsz : (DataW.weightsEach Tryz.prog (Tryz.f4.params.toList ++ Rows.setupBackSpec.plain.varTypes Tryz.prog) (ds ++ gs)).all (· ≤ reachBytes) = true := hsz0
  have hval : ∀ (j : Nat) t v, Tryz.f4.params[j]? = some t → args[j]? = some v → Value.okWide Tryz.prog W .any base t v := hval0
  have hW' := hW
  obtain ⟨p, q, hA0, hV, rfl, hfz, hnd⟩ := hW
  have hA : DataW.TrodAll enc Tryz.prog W 0 (fun _ => true) true Tryz.f4.params.toList args.toList ds p := hA0
  rw [Tryz.params4] at hA hval hsz
  obtain ⟨v0, vs0, d0, ds0, p0, q0, hargs, rfl, rfl, h0, r0⟩ := trodAll_cons hA
  obtain ⟨rfl, rfl, rfl⟩ := trodAll_nil r0
  obtain rfl : args = #[v0] := by cases args; simp_all
  obtain ⟨rfl, rfl⟩ := trodVars_none hV
  have lt0 : ∀ x ∈ p0, x.block < W.heap.size := by obtain ⟨m, hm⟩ := h0; exact DataW.trod_lt m _ _ _ hm
  have k0 := h0
  obtain ⟨c0, fu0, rfl, t0⟩ := agg_open Tryz.underlying24 (hval 0 24 v0 rfl rfl) h0
  obtain ⟨a0, e0, w0, g0⟩ := Config.open t0
  obtain rfl := arr_of e0
  clear hA0 hval0 hsz0 hsz
  refine (setupBack_g a0 W henv w0 g0).mono fun e W' ⟨he, bel⟩ => ?_
  subst he
  exact ⟨_, rfl, _, _, _, [], _, [], hW', trodAll_mk1 (shut_bool Tryz.underlying4 _), (trodAll_cons_mk (Below.trod laidOut (by kernel_rfl) (of_decide_eq_true (by kernel_rfl)) k0 bel lt0) trodAll_mk0), rfl, bel.frame _, fun h => by cases h⟩
theorem over : Rows.setupBackRow.holds Tryz.pinned (OpenSpec.ofChange Rows.setupBackSpec) :=
  OpenClaim.holds_of_wide 4 Tryz.f4 rfl rfl rfl rfl rfl rfl rfl ⟨rfl, rfl, rfl, rfl, rfl⟩ rfl rfl rfl rfl rfl (by kernel_rfl) Tryz.func4 (by kernel_rfl)
    (of_decide_eq_true (by kernel_rfl)) (by unfold Func.isWrapper; first | (rw [if_pos (by decide +kernel)]; kernel_rfl) | (rw [if_neg (by decide +kernel)]; exact ⟨rfl, rfl⟩))
    (fun os started H enc _ => lifted os started H enc)
theorem proved : Rows.SetupBackSaid := over
/-- The card: the row, its listed variables tied to the program's text. -/
theorem card : Rows.SetupBackCardSaid :=
  Claim7.holds_tied_plain_at .later [] Rows.setupBackCard.laidKinds true Rows.setupBackCard.stood.harness Rows.setupBackCard.stood.looks
    over (fun _ h => by cases h) (by kernel_rfl) (fun _ h => by cases h) setupBack_row_tie rfl ⟨rfl, rfl⟩ (by kernel_rfl) rfl
    (fun f fn hf hfn => by
      obtain rfl : f = 4 := Option.some.inj ((show Tryz.prog.funcNamed "hourglass/hourglasslaw29.SetupBack" = some 4 by kernel_rfl).symm.trans hf) |>.symm
      obtain rfl : fn = Tryz.f4 := (Option.some.inj (Tryz.func4.symm.trans hfn)).symm
      exact ⟨by kernel_rfl, fun j t ht => by
        rw [Tryz.params4] at ht
        have hall : (#[24] : Array TypeId).all (fun t => !Tryz.prog.wantsStandIn t) = true := by kernel_rfl
        have hm := Array.all_eq_true_iff_forall_mem.1 hall t (Array.mem_of_getElem? ht)
        exact (show Tryz.prog.wantsStandIn t = false by simpa using hm)⟩)
    (by kernel_rfl)
end Go.Proofs.YtpgdgboobnmjiaaGreatDoor.setupBack
namespace Go.Proofs.YtpgdgboobnmjiaaGreatDoor
/-- The tied card, under a short name, for the claim. -/
theorem setupBack_holds : Rows.SetupBackCardSaid := setupBack.card
#print axioms setupBack_holds
end Go.Proofs.YtpgdgboobnmjiaaGreatDoor
