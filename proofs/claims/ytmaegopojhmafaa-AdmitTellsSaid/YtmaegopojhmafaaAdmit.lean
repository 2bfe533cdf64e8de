/- Contracts of admit: which calls a node begins. -/
import Derived.Test.YtmaegopojhmafaaBudget
namespace Go.Proofs.Ytmaegopojhmafaa
open Go.RowKit
attribute [local go_sem] Packet.sz Packet.at8 Packet.at9 Packet.at7 Packet.at10 Packet.at11 Config.sz Config.at4 Config.at5 Config.at6 Config.at9 Room.sz Room.at0 Room.at1 Room.at2 Room.at3

def T.pdeadline (p : Packet) : Int := if (T.deadline p.stamp p.timeout.data.toList).2 = 0 then (T.deadline p.stamp p.timeout.data.toList).1 else 0
set_option maxHeartbeats 400000 in
theorem pdeadline_c (p : Packet) (w : World) :
    Calls Try.prog 34 #[.agg (Packet.arr p)] w fun e w' => e = .returned (.int .i64 (T.pdeadline p)) ∧ Below w.heap.size w w' := by
  by_cases h : (T.deadline p.stamp p.timeout.data.toList).2 = 0
  · have hd : T.pdeadline p = (T.deadline p.stamp p.timeout.data.toList).1 := by unfold T.pdeadline; rw [if_pos h]
    have hb : ((T.deadline p.stamp p.timeout.data.toList).2 != 0) = false := by rw [h]; rfl
    have HD := Lib.hid hd
    clear hd h
    go_enter Try.func34, Try.ntmps34
    go_wp2_with (go_at_call 53; (with_reducible refine (deadline_c _ _ _).mono ?_); rintro e w' ⟨rfl, rfl⟩)
    go_ret
    exact ⟨ret_int HD.out.symm, (Below.refl _ _).alloc (Nat.le_refl _) _⟩
  · have hd : T.pdeadline p = 0 := by unfold T.pdeadline; rw [if_neg h]
    have hb : ((T.deadline p.stamp p.timeout.data.toList).2 != 0) = true := by rw [bne_iff_ne]; exact h
    have HD := Lib.hid hd
    clear hd h
    go_enter Try.func34, Try.ntmps34
    go_wp2_with (go_at_call 53; (with_reducible refine (deadline_c _ _ _).mono ?_); rintro e w' ⟨rfl, rfl⟩)
    go_ret
    exact ⟨ret_int HD.out.symm, (Below.refl _ _).alloc (Nat.le_refl _) _⟩

def T.check (c : Config) (p : Packet) (r : Room) : Int × Int :=
  if r.seen = true then (3, 0) else if c.hops < p.hop then (1, 8) else if p.program < 0 ∨ r.programs ≤ p.program then (1, 12)
  else if T.enough (T.pdeadline p) r.now c.least = false then (1, 4)
  else if T.clamp p.until_ ≤ T.clamp r.now then (1, 1) else if c.cap ≤ r.running then (2, c.base) else (0, 0)
theorem T.check0 (c : Config) (p : Packet) (r : Room) (h : r.seen = true) : T.check c p r = (3, 0) := by unfold T.check; rw [if_pos h]
theorem T.check1 (c : Config) (p : Packet) (r : Room) (h : r.seen = false) (h1 : c.hops < p.hop) : T.check c p r = (1, 8) := by unfold T.check; rw [if_neg (by simp [h]), if_pos h1]
theorem T.check2 (c : Config) (p : Packet) (r : Room) (h : r.seen = false) (h1 : p.hop ≤ c.hops) (h2 : p.program < 0 ∨ r.programs ≤ p.program) : T.check c p r = (1, 12) := by
  unfold T.check; rw [if_neg (by simp [h]), if_neg (by omega), if_pos h2]
theorem T.check3 (c : Config) (p : Packet) (r : Room) (h : r.seen = false) (h1 : p.hop ≤ c.hops) (h2 : 0 ≤ p.program) (h3 : p.program < r.programs) (h4 : (!T.enough (T.pdeadline p) r.now c.least) = true) : T.check c p r = (1, 4) := by
  unfold T.check; rw [if_neg (by simp [h]), if_neg (by omega), if_neg (by omega), if_pos (by simpa using h4)]
theorem T.check4 (c : Config) (p : Packet) (r : Room) (h : r.seen = false) (h1 : p.hop ≤ c.hops) (h2 : 0 ≤ p.program) (h3 : p.program < r.programs) (h4 : (!T.enough (T.pdeadline p) r.now c.least) = false) (h5 : T.clamp p.until_ ≤ T.clamp r.now) : T.check c p r = (1, 1) := by
  unfold T.check; rw [if_neg (by simp [h]), if_neg (by omega), if_neg (by omega), if_neg (by simpa using h4), if_pos h5]
theorem T.check5 (c : Config) (p : Packet) (r : Room) (h : r.seen = false) (h1 : p.hop ≤ c.hops) (h2 : 0 ≤ p.program) (h3 : p.program < r.programs) (h4 : (!T.enough (T.pdeadline p) r.now c.least) = false) (h5 : T.clamp r.now < T.clamp p.until_) (h6 : c.cap ≤ r.running) : T.check c p r = (2, c.base) := by
  unfold T.check; rw [if_neg (by simp [h]), if_neg (by omega), if_neg (by omega), if_neg (by simpa using h4), if_neg (by omega), if_pos h6]
theorem T.check6 (c : Config) (p : Packet) (r : Room) (h : r.seen = false) (h1 : p.hop ≤ c.hops) (h2 : 0 ≤ p.program) (h3 : p.program < r.programs) (h4 : (!T.enough (T.pdeadline p) r.now c.least) = false) (h5 : T.clamp r.now < T.clamp p.until_) (h6 : r.running < c.cap) : T.check c p r = (0, 0) := by
  unfold T.check; rw [if_neg (by simp [h]), if_neg (by omega), if_neg (by omega), if_neg (by simpa using h4), if_neg (by omega), if_neg (by omega)]
set_option maxHeartbeats 1000000 in
set_option maxRecDepth 100000 in
theorem check_c (c : Config) (p : Packet) (r : Room) (w : World) :
    Calls Try.prog 32 #[.agg (Config.arr c), .agg (Packet.arr p), .agg (Room.arr r)] w fun e w' => e = .returned (.tuple #[.int .i64 (T.check c p r).1, .int .i64 (T.check c p r).2]) ∧ Below w.heap.size w w' := by
  have hr : rowAt (((w.alloc (.cells (Config.arr c) 60)).alloc (.cells (Packet.arr p) 62)).alloc (.cells (Room.arr r) 64)) (w.heap.size + 1) 0 23 = some (Packet.arr p) := by
    rw [rowAt_alloc_old _ _ _ _ _ (by simp)]
    exact rowAt_new _ (Packet.arr p) _ _ _ (by simp)
  have hB : Below w.heap.size w (((w.alloc (.cells (Config.arr c) 60)).alloc (.cells (Packet.arr p) 62)).alloc (.cells (Room.arr r) 64)) :=
    (((Below.refl _ _).alloc (Nat.le_refl _) _).alloc (by simp) _).alloc (by simp; omega) _
  have HB := Lib.hid hB
  clear hB
  go_enter Try.func32, Try.ntmps32
  go_wp2_with (first | (refine wpList_load_at rfl 62 _ rfl _ 0 23 rfl _ _ hr rfl rfl rfl ?_) | (go_at_call 34; (with_reducible refine (pdeadline_c p _).mono ?_); rintro e w1 ⟨rfl, hb⟩; obtain ⟨hc, hf⟩ := bcell hb) | (go_at_call 51; (with_reducible refine (enough_c _ _ _ _).mono ?_); rintro e w' ⟨rfl, rfl⟩))
  · go_ret2
    exact ⟨ret_ii (T.check0 c p r (by assumption)), HB.out.trans (hb.mono (by simp; omega))⟩
  · go_ret2
    exact ⟨ret_ii (T.check1 c p r (by assumption) (by assumption)), HB.out.trans (hb.mono (by simp; omega))⟩
  · go_ret2
    exact ⟨ret_ii (T.check2 c p r (by assumption) (by assumption) (by assumption)), HB.out.trans (hb.mono (by simp; omega))⟩
  · go_ret2
    exact ⟨ret_ii (T.check3 c p r (by assumption) (by assumption) (by omega) (by omega) (by assumption)), HB.out.trans (hb.mono (by simp; omega))⟩
  · have hq := decide_eq_true (show 0 ≤ p.program ∧ p.program < r.programs by omega)
    clear hq
    go_quiet ((go_at_call 52; exact quiet_left (clamp_c _ _)))
    go_wp2
    · go_ret2
      exact ⟨ret_ii (T.check4 c p r (by assumption) (by assumption) (by omega) (by omega) (by assumption) (by assumption)), below_drewN (HB.out.trans (hb.mono (by simp; omega))) _⟩
    · go_quiet (fail)
      go_wp2
      go_ret2
      exact ⟨ret_ii (T.check5 c p r (by assumption) (by assumption) (by omega) (by omega) (by assumption) (by assumption) (by assumption)), below_drewN (below_drewN (HB.out.trans (hb.mono (by simp; omega))) _) _⟩
    · go_ret2
      exact ⟨ret_ii (T.check6 c p r (by assumption) (by assumption) (by omega) (by omega) (by assumption) (by assumption) (by assumption)), below_drewN (HB.out.trans (hb.mono (by simp; omega))) _⟩
  · go_ret2
    exact ⟨ret_ii (T.check2 c p r (by assumption) (by assumption) (by omega)), HB.out.trans (hb.mono (by simp; omega))⟩
end Go.Proofs.Ytmaegopojhmafaa
