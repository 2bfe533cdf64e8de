/- The statements of admit: what they come to. -/
import Derived.Test.YtmaegopojhmafaaAdmit
import Derived.Test.YtmaegopojhmafaaRefTime
namespace Go.Proofs.Ytmaegopojhmafaa
open Go.RowKit
attribute [local go_sem] Packet.sz Packet.at8 Packet.at9 Packet.at7 Packet.at10 Packet.at11 Config.sz Config.at4 Config.at5 Config.at6 Config.at9 Room.sz Room.at0 Room.at1 Room.at2 Room.at3 Room.set_now

def T.c0 : Config := ⟨0, 0, 0, 0, 0, 1, 1, 0, 0, 0, 0, 0, 0, .slice none 0 0⟩
def T.p0 (s : ByteArray) : Packet := ⟨0, 0, 0, ⟨⟨0, 0, 0⟩, 0⟩, 0, 5, s, 99, 0, ⟨0, 0, 0⟩, ⟨⟨0, 0, 0⟩, 0⟩, 0, 0, false, 0⟩
def T.r0 : Room := ⟨10, 0, 1, false⟩
set_option maxHeartbeats 1000000 in
set_option maxRecDepth 100000 in
theorem awake17_c (w : World) :
    Calls Try.prog 31 #[] w fun e w' => e = .returned (.bool true) ∧ Below w.heap.size w w' := by
  have e1 : T.check T.c0 (T.p0 ⟨#[52, 117]⟩) T.r0 = (1, 4) := by decide +kernel
  have e2 : T.check T.c0 (T.p0 ⟨#[54, 117]⟩) T.r0 = (0, 0) := by decide +kernel
  have h1 := fun w => check_c T.c0 (T.p0 ⟨#[52, 117]⟩) T.r0 w
  have h2 := fun w => check_c T.c0 (T.p0 ⟨#[54, 117]⟩) T.r0 w
  rw [e1] at h1
  rw [e2] at h2
  have H1 := Lib.hid h1
  have H2 := Lib.hid h2
  clear h1 h2 e1 e2
  go_enter Try.func31, Try.ntmps31
  go_wp2_with fail
  refine (H1.out _).mono ?_
  rintro e w1 ⟨rfl, hb1⟩
  go_wp2_with fail
  refine (H2.out _).mono ?_
  rintro e w2 ⟨rfl, hb2⟩
  go_wp2
  go_ret
  exact ⟨rfl, hb1.trans (hb2.mono hb1.size)⟩

theorem T.check_le (c : Config) (p : Packet) (r : Room) : (T.check c p r).1 = 0 ∨ (T.check c p r).1 = 1 ∨ (T.check c p r).1 = 2 ∨ (T.check c p r).1 = 3 := by
  unfold T.check
  repeat' split
  all_goals simp
theorem T.pdeadline_bd (p : Packet) : 0 ≤ T.pdeadline p ∧ T.pdeadline p ≤ 1125899906842624 := by
  unfold T.pdeadline T.deadline
  split
  · split
    · exact T.clamp_bd _
    · simp
  · simp
theorem T.clamp_id {n : Int} (h : 0 ≤ n) (h1 : n ≤ 1125899906842624) : T.clamp n = n := by unfold T.clamp; rw [if_neg (by omega), if_neg (by omega)]
theorem T.check_start (c : Config) (p : Packet) (r : Room) (h : (T.check c p r).1 = 0) : (T.check c p r).2 = 0 ∧ r.seen = false ∧ p.hop ≤ c.hops ∧ 0 ≤ p.program ∧ p.program < r.programs ∧ T.clamp r.now < T.pdeadline p ∧ T.clamp r.now < T.clamp p.until_ ∧ r.running < c.cap := by
  unfold T.check at h ⊢
  have hd := T.pdeadline_bd p
  have hc := T.clamp_id hd.1 hd.2
  by_cases h1 : r.seen = true
  · simp [h1] at h
  rw [if_neg h1] at h ⊢
  by_cases h2 : c.hops < p.hop
  · simp [h2] at h
  rw [if_neg h2] at h ⊢
  by_cases h3 : p.program < 0 ∨ r.programs ≤ p.program
  · simp [h3] at h
  rw [if_neg h3] at h ⊢
  by_cases h4 : T.enough (T.pdeadline p) r.now c.least = false
  · simp [h4] at h
  rw [if_neg h4] at h ⊢
  by_cases h5 : T.clamp p.until_ ≤ T.clamp r.now
  · simp [h5] at h
  rw [if_neg h5] at h ⊢
  by_cases h6 : c.cap ≤ r.running
  · simp [h6] at h
  rw [if_neg h6]
  refine ⟨rfl, by simpa using h1, by omega, by omega, by omega, ?_, by omega, by omega⟩
  have : 0 < T.sub (T.pdeadline p) r.now := by
    simp [T.enough] at h4
    omega
  unfold T.sub at this
  rw [hc] at this
  split at this <;> omega
theorem T.sub_mono {d a b : Int} (h : a ≤ b) : T.sub d b ≤ T.sub d a := by
  have : T.clamp a ≤ T.clamp b := by unfold T.clamp; repeat' split <;> omega
  unfold T.sub
  repeat' split <;> omega
theorem T.check_late (c : Config) (p : Packet) (r : Room) (later : Int) (hl : r.now ≤ later) (h : (T.check c p r).1 = 1) (_h2 : (T.check c p r).2 = 4 ∨ (T.check c p r).2 = 1) : (T.check c p { r with now := later }).1 = 1 := by
  unfold T.check at h ⊢
  simp only
  have hc : T.clamp r.now ≤ T.clamp later := by unfold T.clamp; repeat' split <;> omega
  by_cases h1 : r.seen = true
  · simp [h1] at h
  rw [if_neg h1] at h ⊢
  by_cases h3 : c.hops < p.hop
  · simp [h3]
  rw [if_neg h3] at h ⊢
  by_cases h4 : p.program < 0 ∨ r.programs ≤ p.program
  · simp [h4]
  rw [if_neg h4] at h ⊢
  by_cases h5 : T.enough (T.pdeadline p) later c.least = false
  · rw [if_pos h5]
  · have h6 : ¬ T.enough (T.pdeadline p) r.now c.least = false := by
      simp [T.enough] at h5 ⊢
      have := T.sub_mono (d := T.pdeadline p) hl
      exact ⟨by omega, by omega⟩
    rw [if_neg h5]
    rw [if_neg h6] at h
    by_cases h7 : T.clamp p.until_ ≤ T.clamp r.now
    · rw [if_pos (by omega)]
    · rw [if_neg h7] at h
      by_cases h8 : c.cap ≤ r.running
      · simp [h8] at h
      · simp [h8] at h

section
variable (c : Config) (p : Packet) (r : Room) (w : World)
def T.boxes : World := ((w.alloc (.cells (Config.arr c) 60)).alloc (.cells (Packet.arr p) 62)).alloc (.cells (Room.arr r) 64)
theorem T.boxes0 : rowAt (((w.alloc (.cells (Config.arr c) 60)).alloc (.cells (Packet.arr p) 62)).alloc (.cells (Room.arr r) 64)) w.heap.size 0 14 = some (Config.arr c) := by
  rw [rowAt_alloc_old _ _ _ _ _ (by simp <;> omega), rowAt_alloc_old _ _ _ _ _ (by simp)]
  exact rowAt_new _ (Config.arr c) _ _ _ (by simp)
theorem T.boxes1 : rowAt (((w.alloc (.cells (Config.arr c) 60)).alloc (.cells (Packet.arr p) 62)).alloc (.cells (Room.arr r) 64)) (w.heap.size + 1) 0 23 = some (Packet.arr p) := by
  rw [rowAt_alloc_old _ _ _ _ _ (by simp)]
  exact rowAt_new _ (Packet.arr p) _ _ _ (by simp)
theorem T.boxes2 : rowAt (((w.alloc (.cells (Config.arr c) 60)).alloc (.cells (Packet.arr p) 62)).alloc (.cells (Room.arr r) 64)) (w.heap.size + 2) 0 4 = some (Room.arr r) := by
  exact rowAt_new _ (Room.arr r) _ _ _ (by simp)
theorem T.later0 (later : Int) (w1 : World) (hb : Below (((w.alloc (.cells (Config.arr c) 60)).alloc (.cells (Packet.arr p) 62)).alloc (.cells (Room.arr r) 64)).heap.size (((w.alloc (.cells (Config.arr c) 60)).alloc (.cells (Packet.arr p) 62)).alloc (.cells (Room.arr r) 64)) w1)
    (h : rowAt (((w.alloc (.cells (Config.arr c) 60)).alloc (.cells (Packet.arr p) 62)).alloc (.cells (Room.arr r) 64)) w.heap.size 0 14 = some (Config.arr c)) :
    rowAt (w1.setCell ⟨w.heap.size + 1 + 1, 0, none⟩ (.int .i64 later)) w.heap.size 0 14 = some (Config.arr c) :=
  (rowAt_setCell_other _ _ _ _ _ _ (by simp only; omega)).trans ((rowAt_below hb _ _ _ (by simp <;> omega)).trans h)
theorem T.later1 (later : Int) (w1 : World) (hb : Below (((w.alloc (.cells (Config.arr c) 60)).alloc (.cells (Packet.arr p) 62)).alloc (.cells (Room.arr r) 64)).heap.size (((w.alloc (.cells (Config.arr c) 60)).alloc (.cells (Packet.arr p) 62)).alloc (.cells (Room.arr r) 64)) w1)
    (h : rowAt (((w.alloc (.cells (Config.arr c) 60)).alloc (.cells (Packet.arr p) 62)).alloc (.cells (Room.arr r) 64)) (w.heap.size + 1) 0 23 = some (Packet.arr p)) :
    rowAt (w1.setCell ⟨w.heap.size + 1 + 1, 0, none⟩ (.int .i64 later)) (w.heap.size + 1) 0 23 = some (Packet.arr p) :=
  (rowAt_setCell_other _ _ _ _ _ _ (by simp only; omega)).trans ((rowAt_below hb _ _ _ (by simp <;> omega)).trans h)
theorem T.later2 (later : Int) (w1 : World) (hb : Below (((w.alloc (.cells (Config.arr c) 60)).alloc (.cells (Packet.arr p) 62)).alloc (.cells (Room.arr r) 64)).heap.size (((w.alloc (.cells (Config.arr c) 60)).alloc (.cells (Packet.arr p) 62)).alloc (.cells (Room.arr r) 64)) w1)
    (h : rowAt (((w.alloc (.cells (Config.arr c) 60)).alloc (.cells (Packet.arr p) 62)).alloc (.cells (Room.arr r) 64)) (w.heap.size + 2) 0 4 = some (Room.arr r)) :
    rowAt (w1.setCell ⟨w.heap.size + 1 + 1, 0, none⟩ (.int .i64 later)) (w.heap.size + 1 + 1) 0 4 = some (Room.arr { r with now := later }) :=
  rowAt_setCell_same (o := 0) ((rowAt_below hb (w.heap.size + 1 + 1) 0 4 (by simp <;> omega)).trans h) 0 _ (by omega)
theorem T.boxesB : Below w.heap.size w (((w.alloc (.cells (Config.arr c) 60)).alloc (.cells (Packet.arr p) 62)).alloc (.cells (Room.arr r) 64)) :=
  (((Below.refl _ _).alloc (Nat.le_refl _) _).alloc (by simp) _).alloc (by simp; omega) _
end

set_option maxHeartbeats 2000000 in
set_option maxRecDepth 100000 in
theorem admitStarts_c (c : Config) (p : Packet) (r : Room) (w : World) :
    Calls Try.prog 8 #[.agg (Config.arr c), .agg (Packet.arr p), .agg (Room.arr r)] w fun e w' => e = .returned (.bool true) ∧ Below w.heap.size w w' := by
  have hr0 := T.boxes0 c p r w
  have hr1 := T.boxes1 c p r w
  have hr2 := T.boxes2 c p r w
  have HB := Lib.hid (T.boxesB c p r w)
  by_cases hs : 60 < p.timeout.size
  · go_enter Try.func8, Try.ntmps8
    go_wp2_with (go_at_call 31; (with_reducible refine (awake17_c _).mono ?_); rintro e w1 ⟨rfl, hb1⟩)
    go_ret
    exact ⟨rfl, HB.out.trans (hb1.mono (by simp; omega))⟩
  · by_cases h0 : (T.check c p r).1 = 0
    · have hst := T.check_start c p r h0
      obtain ⟨k2, k3, k4, k5, k6, k7, k8, k9⟩ := hst
      have b0 : ((T.check c p r).1 != 0) = false := by rw [h0]; rfl
      have b1 : ((T.check c p r).2 == 0) = true := by rw [k2]; rfl
      clear h0 k2
      go_enter Try.func8, Try.ntmps8
      go_wp2_with (first | (refine wpList_load_at rfl 60 _ rfl _ 0 14 rfl _ _ hr0 rfl rfl rfl ?_) | (refine wpList_load_at rfl 62 _ rfl _ 0 23 rfl _ _ hr1 rfl rfl rfl ?_) | (refine wpList_load_at rfl 64 _ rfl _ 0 4 rfl _ _ hr2 rfl rfl rfl ?_) | (go_at_call 32; (with_reducible refine (check_c c p r _).mono ?_); rintro e w1 ⟨rfl, hb⟩; obtain ⟨hc, hf⟩ := bcell hb; have hz0 := hb.size; have hz1 : w.heap.size + 1 < w1.heap.size := (by simp at hz0; omega); have hz2 : w.heap.size + 1 + 1 < w1.heap.size := (by simp at hz0; omega); have hz3 : w.heap.size < w1.heap.size := (by omega); clear hz0; have hr3 := (rowAt_below hb (w.heap.size + 1) 0 23 (by simp <;> omega)).trans hr1) | (refine wpList_load_at_w rfl 62 _ rfl _ 0 23 rfl _ _ hr3 rfl rfl rfl ?_) | (go_at_call 33; (with_reducible refine (rclamp_c _ _).mono ?_); rintro e w' ⟨rfl, rfl⟩) | (go_at_call 34; (with_reducible refine (pdeadline_c p _).mono ?_); rintro e w2 ⟨rfl, hb2⟩; obtain ⟨hc2, hf2⟩ := bcell hb2) | (go_at_call 31; (with_reducible refine (awake17_c _).mono ?_); rintro e w3 ⟨rfl, hb3⟩))
      go_ret
      exact ⟨rfl, bthen (bthen (bthen HB.out hb) hb2) hb3⟩
    · have hle := T.check_le c p r
      have b0 : ((T.check c p r).1 != 0) = true := by rw [bne_iff_ne]; exact h0
      rcases hle with h | h | h | h
      · exact absurd h h0
      · have b1 : ((T.check c p r).1 == 1) = true := by rw [h]; rfl
        have b2 : ((T.check c p r).1 == 2) = false := by rw [h]; rfl
        have b3 : ((T.check c p r).1 == 3) = false := by rw [h]; rfl
        clear h h0
        go_enter Try.func8, Try.ntmps8
        go_wp2_with (first | (refine wpList_load_at rfl 60 _ rfl _ 0 14 rfl _ _ hr0 rfl rfl rfl ?_) | (refine wpList_load_at rfl 62 _ rfl _ 0 23 rfl _ _ hr1 rfl rfl rfl ?_) | (refine wpList_load_at rfl 64 _ rfl _ 0 4 rfl _ _ hr2 rfl rfl rfl ?_) | (go_at_call 32; (with_reducible refine (check_c c p r _).mono ?_); rintro e w1 ⟨rfl, hb⟩) | (go_at_call 31; (with_reducible refine (awake17_c _).mono ?_); rintro e w3 ⟨rfl, hb3⟩))
        go_ret
        exact ⟨rfl, bthen (bthen HB.out hb) hb3⟩
      · have b1 : ((T.check c p r).1 == 1) = false := by rw [h]; rfl
        have b2 : ((T.check c p r).1 == 2) = true := by rw [h]; rfl
        have b3 : ((T.check c p r).1 == 3) = false := by rw [h]; rfl
        clear h h0
        go_enter Try.func8, Try.ntmps8
        go_wp2_with (first | (refine wpList_load_at rfl 60 _ rfl _ 0 14 rfl _ _ hr0 rfl rfl rfl ?_) | (refine wpList_load_at rfl 62 _ rfl _ 0 23 rfl _ _ hr1 rfl rfl rfl ?_) | (refine wpList_load_at rfl 64 _ rfl _ 0 4 rfl _ _ hr2 rfl rfl rfl ?_) | (go_at_call 32; (with_reducible refine (check_c c p r _).mono ?_); rintro e w1 ⟨rfl, hb⟩) | (go_at_call 31; (with_reducible refine (awake17_c _).mono ?_); rintro e w3 ⟨rfl, hb3⟩))
        go_ret
        exact ⟨rfl, bthen (bthen HB.out hb) hb3⟩
      · have b1 : ((T.check c p r).1 == 1) = false := by rw [h]; rfl
        have b2 : ((T.check c p r).1 == 2) = false := by rw [h]; rfl
        have b3 : ((T.check c p r).1 == 3) = true := by rw [h]; rfl
        clear h h0
        go_enter Try.func8, Try.ntmps8
        go_wp2_with (first | (refine wpList_load_at rfl 60 _ rfl _ 0 14 rfl _ _ hr0 rfl rfl rfl ?_) | (refine wpList_load_at rfl 62 _ rfl _ 0 23 rfl _ _ hr1 rfl rfl rfl ?_) | (refine wpList_load_at rfl 64 _ rfl _ 0 4 rfl _ _ hr2 rfl rfl rfl ?_) | (go_at_call 32; (with_reducible refine (check_c c p r _).mono ?_); rintro e w1 ⟨rfl, hb⟩) | (go_at_call 31; (with_reducible refine (awake17_c _).mono ?_); rintro e w3 ⟨rfl, hb3⟩))
        go_ret
        exact ⟨rfl, bthen (bthen HB.out hb) hb3⟩

set_option maxHeartbeats 2000000 in
set_option maxRecDepth 100000 in
theorem admitLate_c (c : Config) (p : Packet) (r : Room) (later : Int) (w : World) :
    Calls Try.prog 9 #[.agg (Config.arr c), .agg (Packet.arr p), .agg (Room.arr r), .int .i64 later] w fun e w' => e = .returned (.bool true) ∧ Below w.heap.size w w' := by
  have hr0 := T.boxes0 c p r w
  have hr1 := T.boxes1 c p r w
  have hr2 := T.boxes2 c p r w
  have HB := Lib.hid (T.boxesB c p r w)
  by_cases hs : 60 < p.timeout.size
  · go_enter Try.func9, Try.ntmps9
    go_wp2_with (go_at_call 31; (with_reducible refine (awake17_c _).mono ?_); rintro e w1 ⟨rfl, hb1⟩)
    go_ret
    exact ⟨rfl, bthen HB.out hb1⟩
  by_cases hl : later < r.now
  · go_enter Try.func9, Try.ntmps9
    go_wp2_with (go_at_call 31; (with_reducible refine (awake17_c _).mono ?_); rintro e w1 ⟨rfl, hb1⟩)
    go_ret
    exact ⟨rfl, bthen HB.out hb1⟩
  by_cases h1 : (T.check c p r).1 = 1
  · have b1 : ((T.check c p r).1 != 1) = false := by rw [h1]; rfl
    by_cases h2 : (T.check c p r).2 = 4 ∨ (T.check c p r).2 = 1
    · have hla := T.check_late c p r later (by omega) h1 h2
      have b5 : ((T.check c p { r with now := later }).1 != 0) = true := by rw [hla]; rfl
      have b6 : ((T.check c p { r with now := later }).1 != 2) = true := by rw [hla]; rfl
      obtain ⟨q4, q1, hq⟩ : ∃ q4 q1, ((T.check c p r).2 != 4) = q4 ∧ ((T.check c p r).2 != 1) = q1 ∧ (q4 && q1) = false := by
        refine ⟨_, _, rfl, rfl, ?_⟩
        rcases h2 with h | h <;> rw [h] <;> rfl
      obtain ⟨b4, b2, hq⟩ := hq
      clear h1 h2 hla
      cases q4 with
      | false =>
        go_enter Try.func9, Try.ntmps9
        go_wp2_with (first | (refine wpList_load_at rfl 60 _ rfl _ 0 14 rfl _ _ hr0 rfl rfl rfl ?_) | (refine wpList_load_at rfl 62 _ rfl _ 0 23 rfl _ _ hr1 rfl rfl rfl ?_) | (refine wpList_load_at rfl 64 _ rfl _ 0 4 rfl _ _ hr2 rfl rfl rfl ?_) | (go_at_call 32; (with_reducible refine (check_c c p r _).mono ?_); rintro e w1 ⟨rfl, hb⟩; obtain ⟨hc, hf⟩ := bcell hb; have hz0 := hb.size; have hz1 : w.heap.size + 1 < w1.heap.size := (by simp at hz0; omega); have hz2 : w.heap.size + 1 + 1 < w1.heap.size := (by simp at hz0; omega); have hz3 : w.heap.size < w1.heap.size := (by omega); clear hz0; have k0 := T.later0 c p r w later w1 hb hr0; have k1 := T.later1 c p r w later w1 hb hr1; have k2 := T.later2 c p r w later w1 hb hr2) | (refine wpList_load_at rfl 60 _ rfl _ 0 14 rfl _ _ k0 rfl rfl rfl ?_) | (refine wpList_load_at rfl 62 _ rfl _ 0 23 rfl _ _ k1 rfl rfl rfl ?_) | (refine wpList_load_at rfl 64 _ rfl _ 0 4 rfl _ _ k2 rfl rfl rfl ?_) | (go_at_call 32; (with_reducible refine (check_c c p { r with now := later } _).mono ?_); rintro e w2 ⟨rfl, hb2⟩) | (go_at_call 31; (with_reducible refine (awake17_c _).mono ?_); rintro e w3 ⟨rfl, hb3⟩))
        all_goals go_ret
        all_goals exact ⟨rfl, bthen (bthen ((bthen HB.out hb).setCell (p := ⟨w.heap.size + 1 + 1, 0, none⟩) (by simp only; omega) _) hb2) hb3⟩
      | true =>
        have hq1 : q1 = false := by simpa using hq
        subst hq1
        go_enter Try.func9, Try.ntmps9
        go_wp2_with (first | (refine wpList_load_at rfl 60 _ rfl _ 0 14 rfl _ _ hr0 rfl rfl rfl ?_) | (refine wpList_load_at rfl 62 _ rfl _ 0 23 rfl _ _ hr1 rfl rfl rfl ?_) | (refine wpList_load_at rfl 64 _ rfl _ 0 4 rfl _ _ hr2 rfl rfl rfl ?_) | (go_at_call 32; (with_reducible refine (check_c c p r _).mono ?_); rintro e w1 ⟨rfl, hb⟩; obtain ⟨hc, hf⟩ := bcell hb; have hz0 := hb.size; have hz1 : w.heap.size + 1 < w1.heap.size := (by simp at hz0; omega); have hz2 : w.heap.size + 1 + 1 < w1.heap.size := (by simp at hz0; omega); have hz3 : w.heap.size < w1.heap.size := (by omega); clear hz0; have k0 := T.later0 c p r w later w1 hb hr0; have k1 := T.later1 c p r w later w1 hb hr1; have k2 := T.later2 c p r w later w1 hb hr2) | (refine wpList_load_at rfl 60 _ rfl _ 0 14 rfl _ _ k0 rfl rfl rfl ?_) | (refine wpList_load_at rfl 62 _ rfl _ 0 23 rfl _ _ k1 rfl rfl rfl ?_) | (refine wpList_load_at rfl 64 _ rfl _ 0 4 rfl _ _ k2 rfl rfl rfl ?_) | (go_at_call 32; (with_reducible refine (check_c c p { r with now := later } _).mono ?_); rintro e w2 ⟨rfl, hb2⟩) | (go_at_call 31; (with_reducible refine (awake17_c _).mono ?_); rintro e w3 ⟨rfl, hb3⟩))
        all_goals go_ret
        all_goals exact ⟨rfl, bthen (bthen ((bthen HB.out hb).setCell (p := ⟨w.heap.size + 1 + 1, 0, none⟩) (by simp only; omega) _) hb2) hb3⟩
    · have b2 : ((T.check c p r).2 != 4) = true := by rw [bne_iff_ne]; omega
      have b3 : ((T.check c p r).2 != 1) = true := by rw [bne_iff_ne]; omega
      clear h1
      go_enter Try.func9, Try.ntmps9
      go_wp2_with (first | (refine wpList_load_at rfl 60 _ rfl _ 0 14 rfl _ _ hr0 rfl rfl rfl ?_) | (refine wpList_load_at rfl 62 _ rfl _ 0 23 rfl _ _ hr1 rfl rfl rfl ?_) | (refine wpList_load_at rfl 64 _ rfl _ 0 4 rfl _ _ hr2 rfl rfl rfl ?_) | (go_at_call 32; (with_reducible refine (check_c c p r _).mono ?_); rintro e w1 ⟨rfl, hb⟩) | (go_at_call 31; (with_reducible refine (awake17_c _).mono ?_); rintro e w3 ⟨rfl, hb3⟩))
      all_goals go_ret
      all_goals exact ⟨rfl, bthen (bthen HB.out hb) hb3⟩
  · have b1 : ((T.check c p r).1 != 1) = true := by rw [bne_iff_ne]; exact h1
    go_enter Try.func9, Try.ntmps9
    go_wp2_with (first | (refine wpList_load_at rfl 60 _ rfl _ 0 14 rfl _ _ hr0 rfl rfl rfl ?_) | (refine wpList_load_at rfl 62 _ rfl _ 0 23 rfl _ _ hr1 rfl rfl rfl ?_) | (refine wpList_load_at rfl 64 _ rfl _ 0 4 rfl _ _ hr2 rfl rfl rfl ?_) | (go_at_call 32; (with_reducible refine (check_c c p r _).mono ?_); rintro e w1 ⟨rfl, hb⟩) | (go_at_call 31; (with_reducible refine (awake17_c _).mono ?_); rintro e w3 ⟨rfl, hb3⟩))
    all_goals go_ret
    all_goals exact ⟨rfl, bthen (bthen HB.out hb) hb3⟩
end Go.Proofs.Ytmaegopojhmafaa
