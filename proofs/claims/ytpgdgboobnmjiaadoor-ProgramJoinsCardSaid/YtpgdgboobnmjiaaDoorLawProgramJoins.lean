/- Whatever the arguments are, hourglasslaw22.ProgramJoins returns true, and each argument reads behind the call as it read before; no condition is added. (Printed by wip/gen_row.py and wip/gen_door.py, our own.) The listed variables are tied by the card; the walk reads what the tie gives. -/
import Derived.Test.YtpgdgboobnmjiaaDoorRow
import Derived.Test.YtpgdgboobnmjiaaDoorPJoinsW
import Derived.Test.YtpgdgboobnmjiaaDoorRows
import Derived.Test.YtpgdgboobnmjiaaDoorTie
import Derived.Test.YtpgdgboobnmjiaaDoorCards
import Derived.ProofKit
import Derived.LaidMore
import Derived.OpenShut
import Derived.Stop.Joined
import Derived.SevenTiedAt
import Derived.Lay
import Derived.Test.YtpgdgboobnmjiaaDoorEnvRow
namespace Go.Proofs.YtpgdgboobnmjiaaDoor.programJoins
open Go.RowKit Go.ChangeShapes Go.WideShapes Go.ChangeAt
open Go.ChangeMaps (open_string shut_string)
set_option linter.unusedVariables false
theorem own : ownKnob Tryd.prog.godebug = none := by kernel_rfl
theorem laidOut : laidOutB Tryd.prog = true := by kernel_rfl
/-- The laid world meets the condition. -/
theorem laid_met (os : Os) (args : Array Value) : laidMetH Tryd.prog Rows.programJoinsRow.laid ((World.laidAll Tryd.prog os Rows.programJoinsRow.laid).forCall (fun _ _ => 0) ⟨#[], args, []⟩).memory :=
  laidMetH_iff.2 ⟨by
    have e : (Rows.programJoinsRow.laid.filter fun x => x.2.handleName?.isNone) = Rows.programJoinsRow.laid := List.filter_eq_self.2 (List.all_eq_true.1 (by kernel_rfl))
    rw [e]; exact laidMet_laidAll _ (by kernel_rfl) (by kernel_rfl), by
    have e : (Rows.programJoinsRow.laid.filter fun x => x.2.handleName?.isSome) = [] := List.filter_eq_nil_iff.2 fun x hx => by
      have h : (Rows.programJoinsRow.laid.all fun x => !x.2.handleName?.isSome) = true := by kernel_rfl
      have := List.all_eq_true.1 h x hx
      simpa using this
    rw [e]; intro x hx; cases hx⟩
set_option maxRecDepth 100000 in
theorem lifted (os : Os) (started : os.Started) (H : Type) (enc : TypeId × Value → H) :
    ReturnsInHanded {} Tryd.checked os 10 .any (fun w args => (Rows.programJoinsSpec.pre enc Tryd.prog Tryd.f10 Rows.programJoinsRow.domain false w args ∧ laidMetH Tryd.prog Rows.programJoinsRow.laid w) ∧ sizedMet enc Tryd.prog Tryd.f10 (OpenSpec.ofChange Rows.programJoinsSpec) false w args)
      (Rows.programJoinsSpec.post enc Tryd.prog Tryd.f10 false true false false) := by
  refine handed_and_shaped (C := Tryd.checked) (X := fun w _ => laidMetH Tryd.prog Rows.programJoinsRow.laid w) (fun _ _ _ hh h => h.of_heap hh) own started (by kernel_rfl) Tryd.func10
    (ChangeSpec.witness_shaped (enc := enc) (C := Tryd.checked) (os := os) (X := fun w _ => laidMetH Tryd.prog Rows.programJoinsRow.laid w) false (World.laidAll Tryd.prog os Rows.programJoinsRow.laid) #[.slice none 0 0, .slice none 0 0, .int .i64 0, .int .i64 0] 8 (World.laidAll_os _ _ _) (World.shaped_of_ZipB (by kernel_rfl) (by kernel_rfl)) (by kernel_rfl) (by kernel_rfl) (by kernel_rfl) (laid_met os _)) ?_
  intro W base args ds gs before hval0 hW hcnd hsz0 hL hsh _
  have henv : Env W := env_of hL hsh (by rfl) (by rfl) (by rfl)
  clear hsh
  have hsz : (DataW.weightsEach Tryd.prog (Tryd.f10.params.toList ++ Rows.programJoinsSpec.plain.varTypes Tryd.prog) (ds ++ gs)).all (· ≤ reachBytes) = true := hsz0
  have hval : ∀ (j : Nat) t v, Tryd.f10.params[j]? = some t → args[j]? = some v → Value.okWide Tryd.prog W .any base t v := hval0
  have hW' := hW
  obtain ⟨p, q, hA0, hV, rfl, hfz, hnd⟩ := hW
  have hA : DataW.TrodAll enc Tryd.prog W 0 (fun _ => true) true Tryd.f10.params.toList args.toList ds p := hA0
  rw [Tryd.params10] at hA hval hsz
  obtain ⟨v0, vs0, d0, ds0, p0, q0, hargs, rfl, rfl, h0, r0⟩ := trodAll_cons hA
  obtain ⟨v1, vs1, d1, ds1, p1, q1, rfl, rfl, rfl, h1, r1⟩ := trodAll_cons r0
  obtain ⟨v2, vs2, d2, ds2, p2, q2, rfl, rfl, rfl, h2, r2⟩ := trodAll_cons r1
  obtain ⟨v3, vs3, d3, ds3, p3, q3, rfl, rfl, rfl, h3, r3⟩ := trodAll_cons r2
  obtain ⟨rfl, rfl, rfl⟩ := trodAll_nil r3
  obtain rfl : args = #[v0, v1, v2, v3] := by cases args; simp_all
  obtain ⟨rfl, rfl⟩ := trodVars_none hV
  have lt0 : ∀ x ∈ p0, x.block < W.heap.size := by obtain ⟨m, hm⟩ := h0; exact DataW.trod_lt m _ _ _ hm
  have k0 := h0
  obtain ⟨a0, s0, w0, b0⟩ := slice_open (arr := GoOp.arr) (sz := 3) Tryd.underlying48 (by kernel_rfl) (by omega) (fun fuel cs y h => GoOp.open h) (hval 0 48 v0 rfl rfl) h0
  have z0 : a0.length * 24 ≤ 140737488351232 := by
    rcases b0 with ⟨_, e⟩ | ⟨el, sp, e, hl⟩
    · rw [e]; simp
    · have z := sized_slice hsz (j := 0) (t := 48) (elems := el) (spare := sp) rfl (by rw [e]; rfl) Tryd.underlying48
      have hb : Tryd.prog.bytesOf 51 = 24 := by kernel_rfl
      rw [hb] at z
      exact Nat.le_trans (Nat.mul_le_mul_right _ hl) z
  have lt1 : ∀ x ∈ p1, x.block < W.heap.size := by obtain ⟨m, hm⟩ := h1; exact DataW.trod_lt m _ _ _ hm
  have k1 := h1
  obtain ⟨a1, s1, w1, b1⟩ := slice_open (arr := GoOp.arr) (sz := 3) Tryd.underlying48 (by kernel_rfl) (by omega) (fun fuel cs y h => GoOp.open h) (hval 1 48 v1 rfl rfl) h1
  have z1 : a1.length * 24 ≤ 140737488351232 := by
    rcases b1 with ⟨_, e⟩ | ⟨el, sp, e, hl⟩
    · rw [e]; simp
    · have z := sized_slice hsz (j := 1) (t := 48) (elems := el) (spare := sp) rfl (by rw [e]; rfl) Tryd.underlying48
      have hb : Tryd.prog.bytesOf 51 = 24 := by kernel_rfl
      rw [hb] at z
      exact Nat.le_trans (Nat.mul_le_mul_right _ hl) z
  have lt2 : ∀ x ∈ p2, x.block < W.heap.size := by obtain ⟨m, hm⟩ := h2; exact DataW.trod_lt m _ _ _ hm
  have k2 := h2
  obtain ⟨a2, rfl, rfl, rfl, w2⟩ := open_int Tryd.underlying3 (hval 2 3 v2 rfl rfl) h2
  have lt3 : ∀ x ∈ p3, x.block < W.heap.size := by obtain ⟨m, hm⟩ := h3; exact DataW.trod_lt m _ _ _ hm
  have k3 := h3
  obtain ⟨a3, rfl, rfl, rfl, w3⟩ := open_int Tryd.underlying3 (hval 3 3 v3 rfl rfl) h3
  clear hA0 hval0 hsz0 hsz
  refine (programJoins_g v0 a0 v1 a1 a2 a3 W henv s0 w0 z0 s1 w1 z1 (i64_wf w2) (i64_wf w3)).mono fun e W' ⟨he, bel⟩ => ?_
  subst he
  exact ⟨_, rfl, _, _, _, [], _, [], hW', trodAll_mk1 (shut_bool Tryd.underlying4 _), (trodAll_cons_mk (Below.trod laidOut (by kernel_rfl) (of_decide_eq_true (by kernel_rfl)) k0 bel lt0) (trodAll_cons_mk (Below.trod laidOut (by kernel_rfl) (of_decide_eq_true (by kernel_rfl)) k1 bel lt1) (trodAll_cons_mk (Below.trod laidOut (by kernel_rfl) (of_decide_eq_true (by kernel_rfl)) k2 bel lt2) (trodAll_cons_mk (Below.trod laidOut (by kernel_rfl) (of_decide_eq_true (by kernel_rfl)) k3 bel lt3) trodAll_mk0)))), rfl, bel.frame _, fun h => by cases h⟩
theorem over : Rows.programJoinsRow.holds Tryd.pinned (OpenSpec.ofChange Rows.programJoinsSpec) :=
  OpenClaim.holds_of_wide 10 Tryd.f10 rfl rfl rfl rfl rfl rfl rfl ⟨rfl, rfl, rfl, rfl, rfl⟩ rfl rfl rfl rfl rfl (by kernel_rfl) Tryd.func10 (by kernel_rfl)
    (of_decide_eq_true (by kernel_rfl)) (by unfold Func.isWrapper; first | (rw [if_pos (by decide +kernel)]; kernel_rfl) | (rw [if_neg (by decide +kernel)]; exact ⟨rfl, rfl⟩))
    (fun os started H enc _ => lifted os started H enc)
theorem proved : Rows.ProgramJoinsSaid := over
/-- The card: the row, its listed variables tied to the program's text. -/
theorem card : Rows.ProgramJoinsCardSaid :=
  Claim7.holds_tied_plain_at .later [] Rows.programJoinsCard.laidKinds true Rows.programJoinsCard.stood.harness Rows.programJoinsCard.stood.looks
    over (fun _ h => by cases h) (by kernel_rfl) (fun _ h => by cases h) programJoins_row_tie rfl ⟨rfl, rfl⟩ (by kernel_rfl) rfl
    (fun f fn hf hfn => by
      obtain rfl : f = 10 := Option.some.inj ((show Tryd.prog.funcNamed "hourglass/hourglasslaw22.ProgramJoins" = some 10 by kernel_rfl).symm.trans hf) |>.symm
      obtain rfl : fn = Tryd.f10 := (Option.some.inj (Tryd.func10.symm.trans hfn)).symm
      exact ⟨by kernel_rfl, fun j t ht => by
        rw [Tryd.params10] at ht
        have hall : (#[48, 48, 3, 3] : Array TypeId).all (fun t => !Tryd.prog.wantsStandIn t) = true := by kernel_rfl
        have hm := Array.all_eq_true_iff_forall_mem.1 hall t (Array.mem_of_getElem? ht)
        exact (show Tryd.prog.wantsStandIn t = false by simpa using hm)⟩)
    (by kernel_rfl)
end Go.Proofs.YtpgdgboobnmjiaaDoor.programJoins
namespace Go.Proofs.YtpgdgboobnmjiaaDoor
/-- The tied card, under a short name, for the claim. -/
theorem programJoins_holds : Rows.ProgramJoinsCardSaid := programJoins.card
#print axioms programJoins_holds
end Go.Proofs.YtpgdgboobnmjiaaDoor
