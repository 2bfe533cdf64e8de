/- All programs of a configuration: the program's All, the document's. -/
import Derived.Test.YtmpjjmilodjecaaGreatDoorPV
namespace Go.Proofs.YtmpjjmilodjecaaGreatDoor
open Go.RowKit Go.Shelf
set_option linter.unusedVariables false
set_option linter.unusedSimpArgs false
def T.pall (ps : List PV) (n : Int) : Bool := ps.all fun p => T.pright p.xs n ps.length
attribute [local go_sem] Config.sz bw_cell
set_option maxRecDepth 100000 in
set_option maxHeartbeats 4000000 in
theorem allClosure_c (p : PV) (n : Int) (A : Option Addr) (m cap : Nat) (b : Nat) (w : World) (hp : PV.ok w p) (hb : b < w.heap.size) (c0 : w.cell? ⟨b, 0, none⟩ = some (.int .i64 n)) (c13 : w.cell? ⟨b, 13, none⟩ = some (.slice A m cap)) :
    Calls Tryz.prog 140 #[p.v, .pointer (some ⟨b, 0, none⟩)] w fun r w' => r = .returned (.bool (!T.pright p.xs n m)) ∧ Below w.heap.size w w' := by
  obtain ⟨A2, cap2, hv, _, hl, _⟩ := hp.1.view
  have hr := pright_c p.v p.xs n m w hp.1 hl
  rw [hv] at hr ⊢
  generalize p.xs.length = pl at *
  rcases ho : T.pright p.xs n m with _ | _
  all_goals
    rw [ho] at hr
    clear ho hv hp
    go_enter Tryz.func140, Tryz.ntmps140
    go_wp2_with (go_at_call 15; (with_reducible refine hr.mono ?_); rintro r w2 ⟨rfl, hb2⟩)
    go_ret
    exact ⟨rfl, hb2⟩
set_option maxRecDepth 100000 in
set_option maxHeartbeats 4000000 in
theorem pall_c (c : Config) (ps : List PV) (w : World) (h : Sl PV.arr 1 w.heap.size w c.progs ps) (hok : ∀ p ∈ ps, PV.ok w p) :
    Calls Tryz.prog 73 #[.agg (Config.arr c)] w fun r w' => r = .returned (.bool (T.pall ps c.nodes)) ∧ Below w.heap.size w w' := by
  obtain ⟨A, cap, hv, hcap, hl1, hl2⟩ := h.view
  obtain ⟨W1, hW1⟩ : ∃ W1, W1 = w.alloc (.cells (Config.arr c) 29) := ⟨_, rfl⟩
  have hB1 : Below w.heap.size w W1 := by rw [hW1]; exact (Below.refl _ w).alloc (Nat.le_refl _) _
  have hz1 : w.heap.size < W1.heap.size := by rw [hW1]; simp
  have hr : rowAt W1 w.heap.size 0 14 = some (Config.arr c) := by rw [hW1]; exact rowAt_new _ _ _ _ _ rfl
  have c0 : W1.cell? ⟨w.heap.size, 0, none⟩ = some (.int .i64 c.nodes) := rowAt_cell hr 0 (by omega)
  have c13 : W1.cell? ⟨w.heap.size, 13, none⟩ = some c.progs := rowAt_cell hr 13 (by omega)
  rw [hv] at c13
  have hcf := containsPV_c W1.heap.size 140 (enters_of Tryz.func140 (by kernel_rfl) rfl) [.pointer (some ⟨w.heap.size, 0, none⟩)] (fun p => !T.pright p.xs c.nodes ps.length) _ ps W1 (Nat.le_refl _) ((h.below hB1).mono hB1.size) (fun x hx => PV.shape (hok x hx)) (fun x hx X hX =>
    allClosure_c x c.nodes A ps.length cap _ X (PV.below (PV.below (hok x hx) hB1) hX) (by have := hX.size; omega) ((hX.cell (p := ⟨w.heap.size, 0, none⟩) hz1).trans c0) ((hX.cell (p := ⟨w.heap.size, 13, none⟩) hz1).trans c13))
  have hany : ps.any (fun p => !T.pright p.xs c.nodes ps.length) = !(T.pall ps c.nodes) := by unfold T.pall; rw [List.all_eq_not_any_not, Bool.not_not]
  rw [hany, hv] at hcf
  generalize T.pall ps c.nodes = b at *
  have HW := Lib.hid hW1
  clear hW1 hany h hok hv c0 hr
  rcases b with _ | _
  all_goals
    go_enter Tryz.func73, Tryz.ntmps73
    go_upto_region 1 with (fail)
    rw [← HW.out]
    go_wp2_with (go_at_call 139; (with_reducible refine hcf.mono ?_); rintro r w2 ⟨rfl, hb2⟩)
    go_ret
    exact ⟨rfl, bthen hB1 hb2⟩
set_option maxRecDepth 100000 in
set_option maxHeartbeats 4000000 in
theorem rall_c (c : Config) (ps : List PV) (w : World) (h : Sl PV.arr 1 w.heap.size w c.progs ps) (hok : ∀ p ∈ ps, PV.ok w p) :
    Calls Tryz.prog 79 #[.agg (Config.arr c)] w fun r w' => r = .returned (.bool (T.pall ps c.nodes)) ∧ Below w.heap.size w w' := by
  obtain ⟨A, cap, hv, hcap, hl1, hl2⟩ := h.view
  obtain ⟨W1, hW1⟩ : ∃ W1, W1 = w.alloc (.cells (Config.arr c) 29) := ⟨_, rfl⟩
  have hB1 : Below w.heap.size w W1 := by rw [hW1]; exact (Below.refl _ w).alloc (Nat.le_refl _) _
  have hz1 : w.heap.size < W1.heap.size := by rw [hW1]; simp
  have hr : rowAt W1 w.heap.size 0 14 = some (Config.arr c) := by rw [hW1]; exact rowAt_new _ _ _ _ _ rfl
  have c0 : W1.cell? ⟨w.heap.size, 0, none⟩ = some (.int .i64 c.nodes) := rowAt_cell hr 0 (by omega)
  have c13 : W1.cell? ⟨w.heap.size, 13, none⟩ = some c.progs := rowAt_cell hr 13 (by omega)
  rw [hv] at c13 h
  have HP := Lib.hid (show T.pall ps c.nodes = ps.all fun p => T.pright p.xs c.nodes ps.length from rfl)
  obtain ⟨n, hn⟩ : ∃ n, n = c.nodes := ⟨_, rfl⟩
  rw [← hn] at HP c0 ⊢
  have HW := Lib.hid hW1
  have HOK := Lib.hid hok
  clear hW1 hr hv hn hok
  go_enter Tryz.func79, Tryz.ntmps79
  go_upto_region 1 with (fail)
  rw [← HW.out]
  go_wp2
  go_loopw [3] (fun i wr => ∃ k : Nat, k ≤ ps.length ∧ i = .int .i64 (k : Int) ∧ Hid (((ps.take k).all fun p => T.pright p.xs n ps.length) = true) ∧ Below W1.heap.size W1 wr) (fun i _ => ps.length - (intOf i).toNat)
  case atStart => exact ⟨0, Nat.zero_le _, rfl, Lib.hid rfl, Below.refl _ _⟩
  case round =>
    obtain ⟨k, hk, rfl, hyes, hB⟩ := hrel
    have hBz := hB.size
    have d0 := (hB.cell (p := ⟨w.heap.size, 0, none⟩) hz1).trans c0
    have d13 := (hB.cell (p := ⟨w.heap.size, 13, none⟩) hz1).trans c13
    have hzr : w.heap.size < wr.heap.size := by omega
    by_cases hkl : k < ps.length
    · have hkI : (k : Int) < (ps.length : Int) := by omega
      have hS := (h.below (bthen hB1 hB)).mono (bthen hB1 hB).size
      obtain ⟨bb, off, hA, hb, hrow, _⟩ := hS.at hkl
      subst hA
      obtain ⟨x, hx⟩ : ∃ x, x = ps[k] := ⟨_, rfl⟩
      rw [← hx] at hrow
      have hpx := PV.below (HOK.out x (by rw [hx]; exact List.getElem_mem _)) (bthen hB1 hB)
      obtain ⟨A2, cap2, hxv, _, hxl, _⟩ := hpx.1.view
      have e0 : wr.cell? ⟨bb, off + k * 1, none⟩ = some x.v := rowAt_cell hrow 0 (by omega)
      rw [Nat.mul_one, hxv] at e0
      have hc := fun (X : World) (hX : Below wr.heap.size wr X) => rpright_c x.v x.xs n ps.length X (PV.below hpx hX).1 hxl
      rw [hxv] at hc
      have hwk : IntKind.i64.wrap ((k : Int) + 1) = (k : Int) + 1 := IntWalk.i64_in _ (by omega)
      rcases hp : T.pright x.xs n ps.length with _ | _
      · rw [hp] at hc
        have HNO := Lib.hid (show T.pall ps n = false by
          rw [HP.out, List.all_eq_false]; exact ⟨x, by rw [hx]; exact List.getElem_mem _, by rw [hp]; simp⟩)
        have HC := Lib.hid (fun X : BW wr => hc X.1 X.2)
        generalize x.xs.length = xl at *
        clear hx hp hyes hxv hc hrow hpx hS
        go_wp2
        refine wp_region_calm (by kernel_rfl) (by kernel_rfl) ?_
        repeat ((fail_if_success (with_reducible refine wpQuiet_nil ?_)); (first | go_big_quiet_skip | go_big_quiet_step ((go_at_call 146; exact calm_of (HC.out _)))))
        refine wpQuiet_nil ?_
        rintro _ ⟨⟨X, hX⟩, rfl⟩
        go_wp2
        go_ret
        exact ⟨ret_bool HNO.out.symm, bthen hB1 (bthen hB hX)⟩
      · rw [hp] at hc
        have hyes2 := Lib.hid (show ((ps.take (k + 1)).all fun p => T.pright p.xs n ps.length) = true by rw [List.take_succ_eq_append_getElem hkl, List.all_append, hyes.out, ← hx]; simp [hp])
        have HC := Lib.hid (fun X : BW wr => hc X.1 X.2)
        generalize x.xs.length = xl at *
        clear hx hp hyes hxv hc hrow hpx hS
        go_wp2
        refine wp_region_calm (by kernel_rfl) (by kernel_rfl) ?_
        repeat ((fail_if_success (with_reducible refine wpQuiet_nil ?_)); (first | go_big_quiet_skip | go_big_quiet_step ((go_at_call 146; exact calm_of (HC.out _)))))
        refine wpQuiet_nil ?_
        rintro _ ⟨⟨X, hX⟩, rfl⟩
        go_wp2
        go_roundw
        case rel => exact ⟨k + 1, by omega, by go_num, hyes2, bthen hB hX⟩
        case measure => simp [intOf] <;> omega
    · have hkI : ¬ (k : Int) < (ps.length : Int) := by omega
      have hall := hyes.out
      rw [List.take_of_length_le (by omega)] at hall
      have HY := Lib.hid (HP.out.trans hall)
      clear hall hyes
      go_wp2
      go_ret
      exact ⟨ret_bool HY.out.symm, bthen hB1 hB⟩
end Go.Proofs.YtmpjjmilodjecaaGreatDoor
