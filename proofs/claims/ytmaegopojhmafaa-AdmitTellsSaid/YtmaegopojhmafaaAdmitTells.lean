/- admit and the document's: the same. -/
import Derived.Test.YtmaegopojhmafaaAdmitLaw
import Derived.Test.YtmaegopojhmafaaRefTime
import Derived.Test.YtmaegopojhmafaaRight
namespace Go.Proofs.Ytmaegopojhmafaa
open Go.RowKit
attribute [local go_sem] Packet.sz Packet.at8 Packet.at9 Packet.at7 Packet.at10 Packet.at11 Config.sz Config.at4 Config.at5 Config.at6 Config.at9 Room.sz Room.at0 Room.at1 Room.at2 Room.at3 Room.set_now

set_option maxHeartbeats 400000 in
theorem rpdeadline_c (p : Packet) (w : World) :
    Calls Try.prog 38 #[.agg (Packet.arr p)] w fun e w' => e = .returned (.int .i64 (T.pdeadline p)) ∧ Below w.heap.size w w' := by
  have hd : T.pdeadline p = (T.deadline p.stamp p.timeout.data.toList).1 := by
    unfold T.pdeadline T.deadline
    by_cases h : (T.decode p.timeout.data.toList).2 = 0
    · rw [if_pos h]; rfl
    · rw [if_neg h]; simp [h]
  have HD := Lib.hid hd
  clear hd
  go_enter Try.func38, Try.ntmps38
  go_wp2_with (go_at_call 56; (with_reducible refine (rdeadline_c _ _ _).mono ?_); rintro e w' ⟨rfl, rfl⟩)
  go_ret
  exact ⟨ret_int HD.out.symm, (Below.refl _ _).alloc (Nat.le_refl _) _⟩

set_option maxHeartbeats 1000000 in
set_option maxRecDepth 100000 in
theorem rcheck_c (c : Config) (p : Packet) (now running programs : Int) (seen : Bool) (w : World) :
    Calls Try.prog 35 #[.agg (Config.arr c), .agg (Packet.arr p), .int .i64 now, .int .i64 running, .int .i64 programs, .bool seen] w fun e w' => e = .returned (.tuple #[.int .i64 (T.check c p ⟨now, running, programs, seen⟩).1, .int .i64 (T.check c p ⟨now, running, programs, seen⟩).2]) ∧ Below w.heap.size w w' := by
  have hr : rowAt ((w.alloc (.cells (Config.arr c) 60)).alloc (.cells (Packet.arr p) 62)) (w.heap.size + 1) 0 23 = some (Packet.arr p) :=
    rowAt_new _ (Packet.arr p) _ _ _ (by simp)
  have hB : Below w.heap.size w ((w.alloc (.cells (Config.arr c) 60)).alloc (.cells (Packet.arr p) 62)) :=
    ((Below.refl _ _).alloc (Nat.le_refl _) _).alloc (by simp) _
  have hcell := fun (x : BW ((w.alloc (.cells (Config.arr c) 60)).alloc (.cells (Packet.arr p) 62))) (o : Nat) => bw_cell x w.heap.size o (by simp <;> omega)
  have HB := Lib.hid hB
  clear hB
  by_cases h0 : seen = true
  · have HC := Lib.hid (T.check0 c p ⟨now, running, programs, seen⟩ h0)
    subst h0
    go_enter Try.func35, Try.ntmps35
    go_wp2
    go_ret2
    exact ⟨ret_ii HC.out, HB.out⟩
  have h0 : seen = false := by simpa using h0
  subst h0
  by_cases h1 : c.hops < p.hop
  · have HC := Lib.hid (T.check1 c p ⟨now, running, programs, false⟩ rfl h1)
    go_enter Try.func35, Try.ntmps35
    go_wp2
    go_ret2
    exact ⟨ret_ii HC.out, HB.out⟩
  by_cases h2 : p.program < 0 ∨ programs ≤ p.program
  · have HC := Lib.hid (T.check2 c p ⟨now, running, programs, false⟩ rfl (by omega) h2)
    rcases h2 with h2 | h2
    all_goals
      go_enter Try.func35, Try.ntmps35
      go_wp2
      all_goals go_ret2
      all_goals exact ⟨ret_ii HC.out, HB.out⟩
  have h3 : 0 ≤ p.program ∧ p.program < programs := by omega
  obtain ⟨h3, h4⟩ := h3
  clear h2
  go_enter Try.func35, Try.ntmps35
  go_wp2
  refine wp_region_calm (by kernel_rfl) (by kernel_rfl) ?_
  repeat (first | (refine wpQuiet_load_at rfl 62 _ rfl _ 0 23 rfl _ _ hr rfl rfl rfl ?_; simp only [Act.put, List.setIfInBounds_toArray, List.set_cons_succ, List.set_cons_zero]) | go_big_quiet_step (first | (go_at_call 38; exact calm_of (rpdeadline_c p _)) | (go_at_call 54; exact calm_same (renough_c _ _ _ _))))
  refine wpQuiet_nil ?_
  rintro _ ⟨⟨w1, hb1⟩, rfl⟩
  obtain ⟨hc1, hf1⟩ := bcell hb1
  have hz := Nat.lt_of_lt_of_le (show w.heap.size < _ by simp <;> omega) hb1.size
  go_wp2_with (go_at_call 33; (with_reducible refine (rclamp_c _ _).mono ?_); rintro e w' ⟨rfl, rfl⟩)
  · go_ret2
    exact ⟨ret_ii (T.check3 c p ⟨now, running, programs, false⟩ rfl (by omega) h3 h4 (by assumption)), bthen HB.out hb1⟩
  · go_ret2
    exact ⟨ret_ii (T.check4 c p ⟨now, running, programs, false⟩ rfl (by omega) h3 h4 (by assumption) (by assumption)), bthen HB.out hb1⟩
  · go_quiet (fail)
    go_wp2
    go_ret2
    exact ⟨ret_ii (T.check5 c p ⟨now, running, programs, false⟩ rfl (by omega) h3 h4 (by assumption) (by assumption) (by assumption)), below_drewN (bthen HB.out hb1) _⟩
  · go_ret2
    exact ⟨ret_ii (T.check6 c p ⟨now, running, programs, false⟩ rfl (by omega) h3 h4 (by assumption) (by assumption) (by assumption)), bthen HB.out hb1⟩

set_option maxHeartbeats 2000000 in
set_option maxRecDepth 100000 in
theorem admitTells_c (c : Config) (A : Option Addr) (n cap : Nat) (hp : c.progs = .slice A n cap) (p : Packet) (r : Room) (w : World) :
    Calls Try.prog 10 #[.agg (Config.arr c), .agg (Packet.arr p), .agg (Room.arr r)] w fun e w' => e = .returned (.bool true) ∧ Below w.heap.size w w' := by
  have HP := Lib.hid hp
  clear hp
  have hr0 := T.boxes0 c p r w
  have hr1 := T.boxes1 c p r w
  have hr2 := T.boxes2 c p r w
  have HB := Lib.hid (T.boxesB c p r w)
  by_cases hs : 60 < p.timeout.size
  · go_enter Try.func10, Try.ntmps10
    go_wp2_with (go_at_call 31; (with_reducible refine (awake17_c _).mono ?_); rintro e w1 ⟨rfl, hb1⟩)
    go_ret
    exact ⟨rfl, bthen HB.out hb1⟩
  · go_enter Try.func10, Try.ntmps10
    go_wp2_with (first | (refine wpList_load_at rfl 60 _ rfl _ 0 14 rfl _ _ hr0 rfl rfl rfl ?_) | (refine wpList_load_at rfl 62 _ rfl _ 0 23 rfl _ _ hr1 rfl rfl rfl ?_) | (refine wpList_load_at rfl 64 _ rfl _ 0 4 rfl _ _ hr2 rfl rfl rfl ?_) | (go_at_call 32; (with_reducible refine (check_c c p r _).mono ?_); rintro e w1 ⟨rfl, hb⟩; obtain ⟨hc, hf⟩ := bcell hb; have hz2 : w.heap.size + 1 + 1 < w1.heap.size := (by have := hb.size; simp at this; omega); have hk0 := (rowAt_below hb w.heap.size 0 14 (by simp <;> omega)).trans hr0; have hk1 := (rowAt_below hb (w.heap.size + 1) 0 23 (by simp <;> omega)).trans hr1) | (refine wpList_load_at rfl 60 _ rfl _ 0 14 rfl _ _ hk0 rfl rfl rfl ?_) | (refine wpList_load_at rfl 62 _ rfl _ 0 23 rfl _ _ hk1 rfl rfl rfl ?_) | (go_at_call 35; (with_reducible refine (rcheck_c c p _ _ _ _ _).mono ?_); rintro e w2 ⟨rfl, hb2⟩))
    have hm0 := (rowAt_below hb2 w.heap.size 0 14 (by omega)).trans hk0
    have hm1 := (rowAt_below hb2 (w.heap.size + 1) 0 23 (by omega)).trans hk1
    refine wp_region_calm (by kernel_rfl) (by kernel_rfl) ?_
    repeat (first | (refine wpQuiet_load_at rfl 60 _ rfl _ 0 14 rfl _ _ hm0 rfl rfl rfl ?_; simp only [Act.put, List.setIfInBounds_toArray, List.set_cons_succ, List.set_cons_zero]) | (refine wpQuiet_load_at rfl 62 _ rfl _ 0 23 rfl _ _ hm1 rfl rfl rfl ?_; simp only [Act.put, List.setIfInBounds_toArray, List.set_cons_succ, List.set_cons_zero]) | go_big_quiet_step (first | (go_at_call 36; exact calm_of (right_c c A n cap HP.out _)) | (go_at_call 37; exact calm_of (rright_c c A n cap HP.out _)) | (go_at_call 34; exact calm_of (pdeadline_c p _)) | (go_at_call 38; exact calm_of (rpdeadline_c p _)) | (go_at_call 31; exact calm_of (awake17_c _))))
    refine wpQuiet_nil ?_
    rintro _ ⟨⟨w3, hb3⟩, rfl⟩
    go_wp2
    go_ret
    exact ⟨rfl, bthen (bthen (bthen HB.out hb) hb2) hb3⟩
theorem admitTells_w (c : Config) (p : Packet) (r : Room) (w : World) (hp : ∃ A n cap, c.progs = .slice A n cap) :
    Calls Try.prog 10 #[.agg (Config.arr c), .agg (Packet.arr p), .agg (Room.arr r)] w fun e w' => e = .returned (.bool true) ∧ Below w.heap.size w w' := by
  obtain ⟨A, n, cap, hp⟩ := hp
  exact admitTells_c c A n cap hp p r w
end Go.Proofs.Ytmaegopojhmafaa
