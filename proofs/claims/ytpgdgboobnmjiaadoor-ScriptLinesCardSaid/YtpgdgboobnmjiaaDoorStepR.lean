/- Steps that may be: the program's, the document's. -/
import Derived.Test.YtpgdgboobnmjiaaDoorStep
import Derived.Test.YtpgdgboobnmjiaaDoorOpen
namespace Go.Proofs.YtpgdgboobnmjiaaDoor
open Go.RowKit Go.Shelf
set_option linter.unusedVariables false
set_option linter.unusedSimpArgs false
/-- May number i of a step with h numbers be n? -/
def T.numOk (h : Int) (i : Nat) (n : Int) : Bool := decide (-1125899906842624 ≤ n ∧ n ≤ 1125899906842624 ∧ ((i : Int) < h ∨ n = 0))
def T.numsOk (h : Int) : Nat → List Int → Bool
  | _, [] => true
  | i, n :: l => T.numOk h i n && T.numsOk h (i + 1) l
def T.stepRight (s : Step) : Bool := T.stepIs s.kind && T.numsOk (T.has s.kind) 0 s.nums
theorem T.num_cases (h : Int) (i : Nat) (n : Int) : (T.numOk h i n = false ∧ n < -1125899906842624) ∨ (T.numOk h i n = false ∧ -1125899906842624 ≤ n ∧ 1125899906842624 < n) ∨ (T.numOk h i n = false ∧ -1125899906842624 ≤ n ∧ n ≤ 1125899906842624 ∧ h ≤ i ∧ n ≠ 0)
    ∨ (T.numOk h i n = true ∧ -1125899906842624 ≤ n ∧ n ≤ 1125899906842624 ∧ (i : Int) < h) ∨ (T.numOk h i n = true ∧ -1125899906842624 ≤ n ∧ n ≤ 1125899906842624 ∧ h ≤ i ∧ n = 0) := by
  simp only [T.numOk, decide_eq_false_iff_not, decide_eq_true_eq]
  omega
theorem T.nums4 (h a b c d : Int) : T.numsOk h 0 [a, b, c, d] = (T.numOk h 0 a && (T.numOk h 1 b && (T.numOk h 2 c && T.numOk h 3 d))) := by simp [T.numsOk]
theorem idxA0 (a b c d : Int) (w : World) : (Instr.index 70 (.agg #[.int .i64 a, .int .i64 b, .int .i64 c, .int .i64 d]) (.int .i64 0)).run Tryd.prog w = .ok (.int .i64 a) w := by kernel_rfl
theorem idxA1 (a b c d : Int) (w : World) : (Instr.index 70 (.agg #[.int .i64 a, .int .i64 b, .int .i64 c, .int .i64 d]) (.int .i64 1)).run Tryd.prog w = .ok (.int .i64 b) w := by kernel_rfl
theorem idxA2 (a b c d : Int) (w : World) : (Instr.index 70 (.agg #[.int .i64 a, .int .i64 b, .int .i64 c, .int .i64 d]) (.int .i64 2)).run Tryd.prog w = .ok (.int .i64 c) w := by kernel_rfl
theorem idxA3 (a b c d : Int) (w : World) : (Instr.index 70 (.agg #[.int .i64 a, .int .i64 b, .int .i64 c, .int .i64 d]) (.int .i64 3)).run Tryd.prog w = .ok (.int .i64 d) w := by kernel_rfl
attribute [local go_sem] Step.sz
attribute [local go_sem high] idxA0 idxA1 idxA2 idxA3
set_option maxRecDepth 100000 in
set_option maxHeartbeats 4000000 in
theorem stepRight_c (s : Step) (w : World) : Calls Tryd.prog 16 #[.agg (Step.arr s)] w fun r w' => r = .returned (.bool (T.stepRight s)) ∧ Below w.heap.size w w' := by
  obtain ⟨W0, hW0⟩ : ∃ W0, W0 = w.alloc (Obj.cells (Step.arr s) 24) := ⟨_, rfl⟩
  have hB0 : Below w.heap.size w W0 := by rw [hW0]; exact (Below.refl _ w).alloc (Nat.le_refl _) _
  have rS : rowAt W0 w.heap.size 0 5 = some (Step.arr s) := by rw [hW0]; exact rowAt_new _ _ _ _ _ rfl
  obtain ⟨c0, c1, c2, c3, c4⟩ := stepCells rS
  have HW := Lib.hid hW0
  have HD := Lib.hid (show T.stepRight s = (T.stepIs s.kind && (T.numOk (T.has s.kind) 0 s.a && (T.numOk (T.has s.kind) 1 s.b && (T.numOk (T.has s.kind) 2 s.c && T.numOk (T.has s.kind) 3 s.d)))) by rw [T.stepRight, Step.nums, T.nums4])
  have hi := is_c s.kind W0
  clear hW0 rS
  rcases h0 : T.stepIs s.kind with _ | _
  · rw [h0] at hi HD
    clear h0
    go_enter Tryd.func16, Tryd.ntmps16
    go_upto_region 1 with (fail)
    rw [← HW.out]
    go_wp2_with (go_at_call 47; (with_reducible refine hi.mono ?_); rintro r w1 ⟨rfl, hw1⟩; rw [hw1]; clear hw1)
    go_ret
    exact ⟨ret_bool (by rw [HD.out]; rfl), hB0⟩
  · rw [h0] at hi HD
    clear h0
    obtain ⟨h, hh⟩ : ∃ h, h = T.has s.kind := ⟨_, rfl⟩
    have hhas := fun X : World => has_c s.kind X
    rw [← hh] at hhas HD
    have hb := T.has_bd s.kind
    rw [← hh] at hb
    clear hh
    go_enter Tryd.func16, Tryd.ntmps16
    go_upto_region 1 with (fail)
    rw [← HW.out]
    go_wp2_with (go_at_call 47; (with_reducible refine hi.mono ?_); rintro r w1 ⟨rfl, hw1⟩; rw [hw1]; clear hw1)
    go_loopw [18] (fun i wr => ∃ k : Nat, k ≤ 4 ∧ i = .int .i64 (k : Int) ∧ Hid (T.stepRight s = T.numsOk h k (s.nums.drop k)) ∧ wr = W0) (fun i _ => 4 - (intOf i).toNat)
    case atStart => exact ⟨0, by omega, rfl, Lib.hid (by rw [HD.out, List.drop_zero, Step.nums, T.nums4]; rfl), rfl⟩
    case round =>
      obtain ⟨k, hk, rfl, hacc, hwr⟩ := hrel
      rw [hwr]
      clear hwr
      clear HD hi
      have hk4 : k = 0 ∨ k = 1 ∨ k = 2 ∨ k = 3 ∨ k = 4 := by omega
      rcases hk4 with rfl | rfl | rfl | rfl | rfl
      · have hst := Lib.hid (show T.stepRight s = (T.numOk h 0 s.a && T.numsOk h 1 (s.nums.drop 1)) by rw [hacc.out]; rfl)
        clear hacc
        rcases T.num_cases h 0 s.a with ⟨hr, g1⟩ | ⟨hr, g1, g2⟩ | ⟨hr, g1, g2, g3, g4⟩ | ⟨hr, g1, g2, g3⟩ | ⟨hr, g1, g2, g3, g4⟩
        iterate 3
          · rw [hr] at hst
            have g5 : (s.a != 0) = true := by first | (rw [bne_iff_ne]; assumption) | (rw [bne_iff_ne]; omega)
            clear hr
            go_wp2_with (go_at_call 48; (with_reducible refine (hhas _).mono ?_); rintro r w2 ⟨rfl, hw2⟩; rw [hw2]; clear hw2)
            all_goals (go_ret; exact ⟨ret_bool (by rw [hst.out]; rfl), hB0⟩)
        · rw [hr, Bool.true_and] at hst
          clear hr
          go_wp2_with (go_at_call 48; (with_reducible refine (hhas _).mono ?_); rintro r w2 ⟨rfl, hw2⟩; rw [hw2]; clear hw2)
          all_goals (go_roundw; (case rel => exact ⟨1, by omega, by go_num, hst, by first | rfl | trivial⟩); (case measure => simp [intOf]))
        · rw [hr, Bool.true_and] at hst
          have g5 : (s.a != 0) = false := by rw [bne_eq_false_iff_eq]; exact g4
          clear hr g4
          go_wp2_with (go_at_call 48; (with_reducible refine (hhas _).mono ?_); rintro r w2 ⟨rfl, hw2⟩; rw [hw2]; clear hw2)
          all_goals (go_roundw; (case rel => exact ⟨1, by omega, by go_num, hst, by first | rfl | trivial⟩); (case measure => simp [intOf]))
      · have hst := Lib.hid (show T.stepRight s = (T.numOk h 1 s.b && T.numsOk h 2 (s.nums.drop 2)) by rw [hacc.out]; rfl)
        clear hacc
        rcases T.num_cases h 1 s.b with ⟨hr, g1⟩ | ⟨hr, g1, g2⟩ | ⟨hr, g1, g2, g3, g4⟩ | ⟨hr, g1, g2, g3⟩ | ⟨hr, g1, g2, g3, g4⟩
        iterate 3
          · rw [hr] at hst
            have g5 : (s.b != 0) = true := by first | (rw [bne_iff_ne]; assumption) | (rw [bne_iff_ne]; omega)
            clear hr
            go_wp2_with (go_at_call 48; (with_reducible refine (hhas _).mono ?_); rintro r w2 ⟨rfl, hw2⟩; rw [hw2]; clear hw2)
            all_goals (go_ret; exact ⟨ret_bool (by rw [hst.out]; rfl), hB0⟩)
        · rw [hr, Bool.true_and] at hst
          clear hr
          go_wp2_with (go_at_call 48; (with_reducible refine (hhas _).mono ?_); rintro r w2 ⟨rfl, hw2⟩; rw [hw2]; clear hw2)
          all_goals (go_roundw; (case rel => exact ⟨2, by omega, by go_num, hst, by first | rfl | trivial⟩); (case measure => simp [intOf]))
        · rw [hr, Bool.true_and] at hst
          have g5 : (s.b != 0) = false := by rw [bne_eq_false_iff_eq]; exact g4
          clear hr g4
          go_wp2_with (go_at_call 48; (with_reducible refine (hhas _).mono ?_); rintro r w2 ⟨rfl, hw2⟩; rw [hw2]; clear hw2)
          all_goals (go_roundw; (case rel => exact ⟨2, by omega, by go_num, hst, by first | rfl | trivial⟩); (case measure => simp [intOf]))
      · have hst := Lib.hid (show T.stepRight s = (T.numOk h 2 s.c && T.numsOk h 3 (s.nums.drop 3)) by rw [hacc.out]; rfl)
        clear hacc
        rcases T.num_cases h 2 s.c with ⟨hr, g1⟩ | ⟨hr, g1, g2⟩ | ⟨hr, g1, g2, g3, g4⟩ | ⟨hr, g1, g2, g3⟩ | ⟨hr, g1, g2, g3, g4⟩
        iterate 3
          · rw [hr] at hst
            have g5 : (s.c != 0) = true := by first | (rw [bne_iff_ne]; assumption) | (rw [bne_iff_ne]; omega)
            clear hr
            go_wp2_with (go_at_call 48; (with_reducible refine (hhas _).mono ?_); rintro r w2 ⟨rfl, hw2⟩; rw [hw2]; clear hw2)
            all_goals (go_ret; exact ⟨ret_bool (by rw [hst.out]; rfl), hB0⟩)
        · rw [hr, Bool.true_and] at hst
          clear hr
          go_wp2_with (go_at_call 48; (with_reducible refine (hhas _).mono ?_); rintro r w2 ⟨rfl, hw2⟩; rw [hw2]; clear hw2)
          all_goals (go_roundw; (case rel => exact ⟨3, by omega, by go_num, hst, by first | rfl | trivial⟩); (case measure => simp [intOf]))
        · rw [hr, Bool.true_and] at hst
          have g5 : (s.c != 0) = false := by rw [bne_eq_false_iff_eq]; exact g4
          clear hr g4
          go_wp2_with (go_at_call 48; (with_reducible refine (hhas _).mono ?_); rintro r w2 ⟨rfl, hw2⟩; rw [hw2]; clear hw2)
          all_goals (go_roundw; (case rel => exact ⟨3, by omega, by go_num, hst, by first | rfl | trivial⟩); (case measure => simp [intOf]))
      · have hst := Lib.hid (show T.stepRight s = (T.numOk h 3 s.d && T.numsOk h 4 (s.nums.drop 4)) by rw [hacc.out]; rfl)
        clear hacc
        rcases T.num_cases h 3 s.d with ⟨hr, g1⟩ | ⟨hr, g1, g2⟩ | ⟨hr, g1, g2, g3, g4⟩ | ⟨hr, g1, g2, g3⟩ | ⟨hr, g1, g2, g3, g4⟩
        iterate 3
          · rw [hr] at hst
            have g5 : (s.d != 0) = true := by first | (rw [bne_iff_ne]; assumption) | (rw [bne_iff_ne]; omega)
            clear hr
            go_wp2_with (go_at_call 48; (with_reducible refine (hhas _).mono ?_); rintro r w2 ⟨rfl, hw2⟩; rw [hw2]; clear hw2)
            all_goals (go_ret; exact ⟨ret_bool (by rw [hst.out]; rfl), hB0⟩)
        · rw [hr, Bool.true_and] at hst
          clear hr
          go_wp2_with (go_at_call 48; (with_reducible refine (hhas _).mono ?_); rintro r w2 ⟨rfl, hw2⟩; rw [hw2]; clear hw2)
          all_goals (go_roundw; (case rel => exact ⟨4, by omega, by go_num, hst, by first | rfl | trivial⟩); (case measure => simp [intOf]))
        · rw [hr, Bool.true_and] at hst
          have g5 : (s.d != 0) = false := by rw [bne_eq_false_iff_eq]; exact g4
          clear hr g4
          go_wp2_with (go_at_call 48; (with_reducible refine (hhas _).mono ?_); rintro r w2 ⟨rfl, hw2⟩; rw [hw2]; clear hw2)
          all_goals (go_roundw; (case rel => exact ⟨4, by omega, by go_num, hst, by first | rfl | trivial⟩); (case measure => simp [intOf]))
      · have HR := Lib.hid (show T.stepRight s = true by rw [hacc.out]; rfl)
        go_wp2
        go_ret
        exact ⟨ret_bool HR.out.symm, hB0⟩
set_option maxRecDepth 100000 in
set_option maxHeartbeats 4000000 in
theorem rstepRight_c (s : Step) (w : World) : Calls Tryd.prog 46 #[.agg (Step.arr s)] w fun r w' => r = .returned (.bool (T.stepRight s)) ∧ Below w.heap.size w w' := by
  obtain ⟨W0, hW0⟩ : ∃ W0, W0 = w.alloc (Obj.cells (Step.arr s) 28) := ⟨_, rfl⟩
  have hB0 : Below w.heap.size w W0 := by rw [hW0]; exact (Below.refl _ w).alloc (Nat.le_refl _) _
  have hz0 : w.heap.size < W0.heap.size := by rw [hW0]; simp
  have rS : rowAt W0 w.heap.size 0 5 = some (Step.arr s) := by rw [hW0]; exact rowAt_new _ _ _ _ _ rfl
  have c0 := (stepCells rS).1
  have HW := Lib.hid hW0
  have HD := Lib.hid (show T.stepRight s = (T.stepIs s.kind && (T.numOk (T.has s.kind) 0 s.a && (T.numOk (T.has s.kind) 1 s.b && (T.numOk (T.has s.kind) 2 s.c && T.numOk (T.has s.kind) 3 s.d)))) by rw [T.stepRight, Step.nums, T.nums4])
  have HI := Lib.hid (show T.stepIs s.kind = decide (1 ≤ s.kind ∧ s.kind ≤ 11) from rfl)
  have hc : s.kind < 1 ∨ (1 ≤ s.kind ∧ 11 < s.kind) ∨ (1 ≤ s.kind ∧ s.kind ≤ 11) := by omega
  clear hW0
  rcases hc with h0 | ⟨h0, h1⟩ | ⟨h0, h1⟩
  iterate 2
    · have hf : T.stepIs s.kind = false := by rw [HI.out]; simp <;> omega
      have HR := Lib.hid (show T.stepRight s = false by rw [HD.out, hf]; rfl)
      clear hf
      go_enter Tryd.func46, Tryd.ntmps46
      go_upto_region 1 with (fail)
      rw [← HW.out]
      go_wp2
      go_ret
      exact ⟨ret_bool HR.out.symm, hB0⟩
  · have hf : T.stepIs s.kind = true := by rw [HI.out]; simp <;> omega
    have hcnt := Lib.hid (fun X : World => count_c s.kind ⟨h0, h1⟩ X)
    obtain ⟨h, hh⟩ : ∃ h, h = T.has s.kind := ⟨_, rfl⟩
    rw [hf, ← hh] at HD
    rw [← hh] at hcnt
    have hb := T.has_bd s.kind
    rw [← hh] at hb
    have hnm := numbers_c s W0
    clear hh hf HI
    go_enter Tryd.func46, Tryd.ntmps46
    go_upto_region 1 with (fail)
    rw [← HW.out]
    go_wp2_with (first | (refine wpList_load_at_v 28 _ rfl rfl _ (0) 5 rfl _ _ rS rfl rfl rfl ?_) | (go_at_call 52; (with_reducible refine hnm.mono ?_); rintro r W1 ⟨g, rfl, hg, hgz, hb1⟩))
    have d0 := (hb1.cell (p := ⟨w.heap.size, 0, none⟩) hz0).trans c0
    have hg1 := (Array.getElem?_eq_some_iff.1 hg).1
    have hwz1 : w.heap.size < W1.heap.size := Nat.lt_of_lt_of_le hz0 hb1.size
    have HB1 := Lib.hid (bthen hB0 hb1)
    have HG := Lib.hid hg
    clear hg hnm hb1 c0 rS
    go_loopw [4] (fun i wr => ∃ k : Nat, k ≤ 4 ∧ i = .int .i64 (k : Int) ∧ Hid (T.stepRight s = T.numsOk h k (s.nums.drop k)) ∧ Below W1.heap.size W1 wr) (fun i _ => 4 - (intOf i).toNat)
    case atStart => exact ⟨0, by omega, rfl, Lib.hid (by rw [HD.out, List.drop_zero, Step.nums, T.nums4]; rfl), Below.refl _ _⟩
    case round =>
      obtain ⟨k, hk, rfl, hacc, hB⟩ := hrel
      clear HD
      have e0 := (hB.cell (p := ⟨w.heap.size, 0, none⟩) hwz1).trans d0
      have hgw := (hB.block g hg1).trans HG.out
      have hgz2 : g < wr.heap.size := Nat.lt_of_lt_of_le hg1 hB.size
      have hk4 : k = 0 ∨ k = 1 ∨ k = 2 ∨ k = 3 ∨ k = 4 := by omega
      rcases hk4 with rfl | rfl | rfl | rfl | rfl
      · have hst := Lib.hid (show T.stepRight s = (T.numOk h 0 s.a && T.numsOk h 1 (s.nums.drop 1)) by rw [hacc.out]; rfl)
        have lk : wr.cell? ⟨g, 0, none⟩ = some (.int .i64 s.a) := by simp [World.cell?, hgw]
        clear hacc hgw
        rcases T.num_cases h 0 s.a with ⟨hr, g1⟩ | ⟨hr, g1, g2⟩ | ⟨hr, g1, g2, g3, g4⟩ | ⟨hr, g1, g2, g3⟩ | ⟨hr, g1, g2, g3, g4⟩
        iterate 2
          · rw [hr] at hst
            clear hr
            go_wp2
            all_goals (go_ret; exact ⟨ret_bool (by rw [hst.out]; rfl), HB1.out.trans (hB.mono HB1.out.size)⟩)
        · rw [hr] at hst
          have g5 : (s.a != 0) = true := by first | (rw [bne_iff_ne]; assumption) | (rw [bne_iff_ne]; omega)
          clear hr
          go_wp2_with (go_at_call 44; (with_reducible refine (hcnt.out _).mono ?_); rintro r w2 ⟨rfl, hb2⟩; have l2 := (hb2.cell (p := ⟨g, 0, none⟩) hgz2).trans lk; have hB2 := bthen hB hb2)
          all_goals (go_ret; exact ⟨ret_bool (by rw [hst.out]; rfl), HB1.out.trans (hB2.mono HB1.out.size)⟩)
        · rw [hr, Bool.true_and] at hst
          clear hr
          go_wp2_with (go_at_call 44; (with_reducible refine (hcnt.out _).mono ?_); rintro r w2 ⟨rfl, hb2⟩; have l2 := (hb2.cell (p := ⟨g, 0, none⟩) hgz2).trans lk; have hB2 := bthen hB hb2)
          all_goals (go_roundw; (case rel => exact ⟨1, by omega, by go_num, hst, hB2⟩); (case measure => simp [intOf]))
        · rw [hr, Bool.true_and] at hst
          have g5 : (s.a != 0) = false := by rw [bne_eq_false_iff_eq]; exact g4
          clear hr g4
          go_wp2_with (go_at_call 44; (with_reducible refine (hcnt.out _).mono ?_); rintro r w2 ⟨rfl, hb2⟩; have l2 := (hb2.cell (p := ⟨g, 0, none⟩) hgz2).trans lk; have hB2 := bthen hB hb2)
          all_goals (go_roundw; (case rel => exact ⟨1, by omega, by go_num, hst, hB2⟩); (case measure => simp [intOf]))
      · have hst := Lib.hid (show T.stepRight s = (T.numOk h 1 s.b && T.numsOk h 2 (s.nums.drop 2)) by rw [hacc.out]; rfl)
        have lk : wr.cell? ⟨g, 1, none⟩ = some (.int .i64 s.b) := by simp [World.cell?, hgw]
        clear hacc hgw
        rcases T.num_cases h 1 s.b with ⟨hr, g1⟩ | ⟨hr, g1, g2⟩ | ⟨hr, g1, g2, g3, g4⟩ | ⟨hr, g1, g2, g3⟩ | ⟨hr, g1, g2, g3, g4⟩
        iterate 2
          · rw [hr] at hst
            clear hr
            go_wp2
            all_goals (go_ret; exact ⟨ret_bool (by rw [hst.out]; rfl), HB1.out.trans (hB.mono HB1.out.size)⟩)
        · rw [hr] at hst
          have g5 : (s.b != 0) = true := by first | (rw [bne_iff_ne]; assumption) | (rw [bne_iff_ne]; omega)
          clear hr
          go_wp2_with (go_at_call 44; (with_reducible refine (hcnt.out _).mono ?_); rintro r w2 ⟨rfl, hb2⟩; have l2 := (hb2.cell (p := ⟨g, 1, none⟩) hgz2).trans lk; have hB2 := bthen hB hb2)
          all_goals (go_ret; exact ⟨ret_bool (by rw [hst.out]; rfl), HB1.out.trans (hB2.mono HB1.out.size)⟩)
        · rw [hr, Bool.true_and] at hst
          clear hr
          go_wp2_with (go_at_call 44; (with_reducible refine (hcnt.out _).mono ?_); rintro r w2 ⟨rfl, hb2⟩; have l2 := (hb2.cell (p := ⟨g, 1, none⟩) hgz2).trans lk; have hB2 := bthen hB hb2)
          all_goals (go_roundw; (case rel => exact ⟨2, by omega, by go_num, hst, hB2⟩); (case measure => simp [intOf]))
        · rw [hr, Bool.true_and] at hst
          have g5 : (s.b != 0) = false := by rw [bne_eq_false_iff_eq]; exact g4
          clear hr g4
          go_wp2_with (go_at_call 44; (with_reducible refine (hcnt.out _).mono ?_); rintro r w2 ⟨rfl, hb2⟩; have l2 := (hb2.cell (p := ⟨g, 1, none⟩) hgz2).trans lk; have hB2 := bthen hB hb2)
          all_goals (go_roundw; (case rel => exact ⟨2, by omega, by go_num, hst, hB2⟩); (case measure => simp [intOf]))
      · have hst := Lib.hid (show T.stepRight s = (T.numOk h 2 s.c && T.numsOk h 3 (s.nums.drop 3)) by rw [hacc.out]; rfl)
        have lk : wr.cell? ⟨g, 2, none⟩ = some (.int .i64 s.c) := by simp [World.cell?, hgw]
        clear hacc hgw
        rcases T.num_cases h 2 s.c with ⟨hr, g1⟩ | ⟨hr, g1, g2⟩ | ⟨hr, g1, g2, g3, g4⟩ | ⟨hr, g1, g2, g3⟩ | ⟨hr, g1, g2, g3, g4⟩
        iterate 2
          · rw [hr] at hst
            clear hr
            go_wp2
            all_goals (go_ret; exact ⟨ret_bool (by rw [hst.out]; rfl), HB1.out.trans (hB.mono HB1.out.size)⟩)
        · rw [hr] at hst
          have g5 : (s.c != 0) = true := by first | (rw [bne_iff_ne]; assumption) | (rw [bne_iff_ne]; omega)
          clear hr
          go_wp2_with (go_at_call 44; (with_reducible refine (hcnt.out _).mono ?_); rintro r w2 ⟨rfl, hb2⟩; have l2 := (hb2.cell (p := ⟨g, 2, none⟩) hgz2).trans lk; have hB2 := bthen hB hb2)
          all_goals (go_ret; exact ⟨ret_bool (by rw [hst.out]; rfl), HB1.out.trans (hB2.mono HB1.out.size)⟩)
        · rw [hr, Bool.true_and] at hst
          clear hr
          go_wp2_with (go_at_call 44; (with_reducible refine (hcnt.out _).mono ?_); rintro r w2 ⟨rfl, hb2⟩; have l2 := (hb2.cell (p := ⟨g, 2, none⟩) hgz2).trans lk; have hB2 := bthen hB hb2)
          all_goals (go_roundw; (case rel => exact ⟨3, by omega, by go_num, hst, hB2⟩); (case measure => simp [intOf]))
        · rw [hr, Bool.true_and] at hst
          have g5 : (s.c != 0) = false := by rw [bne_eq_false_iff_eq]; exact g4
          clear hr g4
          go_wp2_with (go_at_call 44; (with_reducible refine (hcnt.out _).mono ?_); rintro r w2 ⟨rfl, hb2⟩; have l2 := (hb2.cell (p := ⟨g, 2, none⟩) hgz2).trans lk; have hB2 := bthen hB hb2)
          all_goals (go_roundw; (case rel => exact ⟨3, by omega, by go_num, hst, hB2⟩); (case measure => simp [intOf]))
      · have hst := Lib.hid (show T.stepRight s = (T.numOk h 3 s.d && T.numsOk h 4 (s.nums.drop 4)) by rw [hacc.out]; rfl)
        have lk : wr.cell? ⟨g, 3, none⟩ = some (.int .i64 s.d) := by simp [World.cell?, hgw]
        clear hacc hgw
        rcases T.num_cases h 3 s.d with ⟨hr, g1⟩ | ⟨hr, g1, g2⟩ | ⟨hr, g1, g2, g3, g4⟩ | ⟨hr, g1, g2, g3⟩ | ⟨hr, g1, g2, g3, g4⟩
        iterate 2
          · rw [hr] at hst
            clear hr
            go_wp2
            all_goals (go_ret; exact ⟨ret_bool (by rw [hst.out]; rfl), HB1.out.trans (hB.mono HB1.out.size)⟩)
        · rw [hr] at hst
          have g5 : (s.d != 0) = true := by first | (rw [bne_iff_ne]; assumption) | (rw [bne_iff_ne]; omega)
          clear hr
          go_wp2_with (go_at_call 44; (with_reducible refine (hcnt.out _).mono ?_); rintro r w2 ⟨rfl, hb2⟩; have l2 := (hb2.cell (p := ⟨g, 3, none⟩) hgz2).trans lk; have hB2 := bthen hB hb2)
          all_goals (go_ret; exact ⟨ret_bool (by rw [hst.out]; rfl), HB1.out.trans (hB2.mono HB1.out.size)⟩)
        · rw [hr, Bool.true_and] at hst
          clear hr
          go_wp2_with (go_at_call 44; (with_reducible refine (hcnt.out _).mono ?_); rintro r w2 ⟨rfl, hb2⟩; have l2 := (hb2.cell (p := ⟨g, 3, none⟩) hgz2).trans lk; have hB2 := bthen hB hb2)
          all_goals (go_roundw; (case rel => exact ⟨4, by omega, by go_num, hst, hB2⟩); (case measure => simp [intOf]))
        · rw [hr, Bool.true_and] at hst
          have g5 : (s.d != 0) = false := by rw [bne_eq_false_iff_eq]; exact g4
          clear hr g4
          go_wp2_with (go_at_call 44; (with_reducible refine (hcnt.out _).mono ?_); rintro r w2 ⟨rfl, hb2⟩; have l2 := (hb2.cell (p := ⟨g, 3, none⟩) hgz2).trans lk; have hB2 := bthen hB hb2)
          all_goals (go_roundw; (case rel => exact ⟨4, by omega, by go_num, hst, hB2⟩); (case measure => simp [intOf]))
      · have HR := Lib.hid (show T.stepRight s = true by rw [hacc.out]; rfl)
        go_wp2
        go_ret
        exact ⟨ret_bool HR.out.symm, HB1.out.trans (hB.mono HB1.out.size)⟩
end Go.Proofs.YtpgdgboobnmjiaaDoor
