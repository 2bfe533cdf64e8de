/- Forest: the line of an item. -/
import Derived.Test.YtcncmbcnekekdaaDoorEvN
namespace Go.Proofs.YtcncmbcnekekdaaDoor
open Go.RowKit Go.Shelf
set_option linter.unusedVariables false
set_option linter.unusedSimpArgs false
theorem repeat_c (deep : Nat) (h : deep ≤ 1000000) (w : World) : Calls Tryd.prog 93 #[.string ⟨#[32, 32]⟩, .int .i64 (deep : Int)] w fun r w' => r = .returned (strV (T.deep31 deep)) ∧ Below w.heap.size w w' :=
  Tryd.strings_Repeat ⟨#[32, 32]⟩ deep w (by omega) (by show 2 * deep ≤ _; omega)
attribute [local go_sem] Item.sz bw_cell
set_option maxRecDepth 100000 in
set_option maxHeartbeats 4000000 in
theorem line_c (x : Item) (deep : Nat) (hd : deep ≤ 100000) (hx : Item.ok x) (w : World) (ht : Tab w) :
    Calls Tryd.prog 64 #[.agg (Item.arr x), .int .i64 (deep : Int)] w fun r w' => r = .returned (strV (T.line31 deep x)) ∧ Below w.heap.size w w' := by
  have lk := T.keyText_len x.key hx.1
  have ln := T.itoa_i64 hx.2.2.2.2.1
  have lf := T.itoa_i64 hx.2.2.2.2.2.1
  have lt := T.itoa_i64 hx.2.2.2.2.2.2.1
  have lc := T.itoa_i64 hx.2.2.2.2.2.2.2.2
  have ld := T.deep31_len deep
  have le := T.evName_len x.how
  obtain ⟨W0, hW0⟩ : ∃ W0, W0 = w.alloc (Obj.cells (Item.arr x) 88) := ⟨_, rfl⟩
  have hB0 : Below w.heap.size w W0 := by rw [hW0]; exact (Below.refl _ w).alloc (Nat.le_refl _) _
  have hz0 : w.heap.size < W0.heap.size := by rw [hW0]; simp
  have rX : rowAt W0 w.heap.size 0 17 = some (Item.arr x) := by rw [hW0]; exact rowAt_new _ _ _ _ _ rfl
  have rK : rowAt W0 w.heap.size 0 4 = some (Key.arr x.key) := (rowAt_part rX 0 4 (by omega)).trans (congrArg some (Item.part_key x))
  have c12 : W0.cell? ⟨w.heap.size, 12, none⟩ = some (.int .i64 x.node) := rowAt_cell rX 12 (by omega)
  have c13 : W0.cell? ⟨w.heap.size, 13, none⟩ = some (.int .i64 x.from_) := rowAt_cell rX 13 (by omega)
  have c14 : W0.cell? ⟨w.heap.size, 14, none⟩ = some (.int .i64 x.to_) := rowAt_cell rX 14 (by omega)
  have c15 : W0.cell? ⟨w.heap.size, 15, none⟩ = some (.int .i64 x.how) := rowAt_cell rX 15 (by omega)
  have c16 : W0.cell? ⟨w.heap.size, 16, none⟩ = some (.int .i64 x.code) := rowAt_cell rX 16 (by omega)
  have ht0 := ht.below hB0
  have H0 := Lib.hid (fun y : BW W0 => repeat_c deep (by omega) y.1)
  have H1 := Lib.hid (fun y : BW W0 => keyText_c x.key hx.1 y.1 (ht0.below y.2))
  have H2 := Lib.hid (fun y : BW W0 => itoa_c x.node hx.2.2.2.2.1.1 hx.2.2.2.2.1.2 y.1 (ht0.below y.2))
  have H3 := Lib.hid (fun y : BW W0 => itoa_c x.from_ hx.2.2.2.2.2.1.1 hx.2.2.2.2.2.1.2 y.1 (ht0.below y.2))
  have H4 := Lib.hid (fun (Z : World) (hZ : Below W0.heap.size W0 Z) (y : BW Z) => itoa_c x.to_ hx.2.2.2.2.2.2.1.1 hx.2.2.2.2.2.2.1.2 y.1 ((ht0.below hZ).below y.2))
  have H5 := Lib.hid (fun (Z : World) (hZ : Below W0.heap.size W0 Z) => itoa_c x.code hx.2.2.2.2.2.2.2.2.1 hx.2.2.2.2.2.2.2.2.2 Z (ht0.below hZ))
  have HE := Lib.hid (show T.line31 deep x = T.deep31 deep ++ T.head31 x ++ T.tail31 x from rfl)
  have HH := Lib.hid (show T.head31 x = T.keyText x.key ++ [32, 97, 116, 32] ++ Lib.itoa x.node ++ [32, 102, 114, 111, 109, 32] ++ Lib.itoa x.from_ from rfl)
  have HT := Lib.hid (show T.tail31 x = if x.how = 0 then [] else [32, 116, 111, 32] ++ Lib.itoa x.to_ ++ [32] ++ T.evName x.how ++ (if x.how = 9 then [] else [32] ++ Lib.itoa x.code) from rfl)
  have HW := Lib.hid hW0
  clear hW0 rX ht0 ht hx
  go_enter Tryd.func64, Tryd.ntmps64
  go_wp2
  rw [← HW.out]
  refine wp_region_calm (by kernel_rfl) (by kernel_rfl) ?_
  repeat ((fail_if_success (with_reducible refine wpQuiet_nil ?_)); (first | go_big_quiet_skip | (refine wpQuiet_load_at (by rfl) 46 _ rfl _ 0 4 rfl _ _ rK rfl rfl rfl ?_; simp only [Act.put, List.setIfInBounds_toArray, List.set_cons_succ, List.set_cons_zero]) | go_big_quiet_step ((first | (go_at_call 93; exact calm_of (H0.out _)) | (go_at_call 34; exact calm_of (H1.out _)) | (go_at_call 72; first | with_reducible exact calm_of (H2.out _) | with_reducible exact calm_of (H3.out _))))))
  refine wpQuiet_nil ?_
  rintro _ ⟨⟨X, hX⟩, rfl⟩
  simp only [ByteArray.mk_append_mk]
  rw [show T.deep31 deep ++ T.keyText x.key ++ [32, 97, 116, 32] ++ Lib.itoa x.node ++ [32, 102, 114, 111, 109, 32] ++ Lib.itoa x.from_ = T.deep31 deep ++ T.head31 x from by rw [HH.out]; simp only [List.append_assoc]]
  have lh : (T.deep31 deep ++ T.head31 x).length ≤ 300000 := by rw [List.length_append, HH.out]; simp only [List.length_append, List.length_cons, List.length_nil]; omega
  obtain ⟨L, hL⟩ : ∃ L, L = T.deep31 deep ++ T.head31 x := ⟨_, rfl⟩
  rw [← hL] at lh ⊢
  have HL := Lib.hid hL
  clear hL H0 H1 H2 H3 rK c12 c13
  have x14 := (hX.cell (p := ⟨w.heap.size, 14, none⟩) hz0).trans c14
  have x15 := (hX.cell (p := ⟨w.heap.size, 15, none⟩) hz0).trans c15
  have x16 := (hX.cell (p := ⟨w.heap.size, 16, none⟩) hz0).trans c16
  have hzX := Nat.lt_of_lt_of_le hz0 hX.size
  clear c14 c15 c16
  by_cases h0 : x.how = 0
  · have HT0 : T.tail31 x = [] := by rw [HT.out, if_pos h0]
    go_wp2
    go_ret
    exact ⟨congrArg (fun l => Ending.returned (strV l)) (show L = T.line31 deep x by rw [HE.out, ← HL.out, HT0, List.append_nil]), hB0.trans (hX.mono hB0.size)⟩
  · go_wp2
    have H4X := Lib.hid (H4.out _ hX)
    refine wp_region_calm (by kernel_rfl) (by kernel_rfl) ?_
    repeat ((fail_if_success (with_reducible refine wpQuiet_nil ?_)); (first | go_big_quiet_skip | go_big_quiet_step ((first | (go_at_call 72; exact calm_of (H4X.out _)) | (go_at_call 94; exact calm_of (evName_c _ _))))))
    refine wpQuiet_nil ?_
    rintro _ ⟨⟨Y, hY⟩, rfl⟩
    simp only [ByteArray.mk_append_mk]
    have hY0 := bthen hX hY
    have lm : (L ++ ([32, 116, 111, 32] ++ Lib.itoa x.to_ ++ [32] ++ T.evName x.how)).length ≤ 300100 := by simp only [List.length_append, List.length_cons, List.length_nil]; omega
    obtain ⟨M, hM⟩ : ∃ M, M = L ++ ([32, 116, 111, 32] ++ Lib.itoa x.to_ ++ [32] ++ T.evName x.how) := ⟨_, rfl⟩
    rw [← hM] at lm ⊢
    have HM := Lib.hid hM
    have y15 := (hY.cell (p := ⟨w.heap.size, 15, none⟩) hzX).trans x15
    have y16 := (hY.cell (p := ⟨w.heap.size, 16, none⟩) hzX).trans x16
    have H5Y := H5.out _ hY0
    clear hM x14 x15 x16 H4 H5 H4X
    have HT1 := HT.out
    rw [if_neg h0] at HT1
    by_cases h9 : x.how = 9
    · rw [if_pos h9, List.append_nil] at HT1
      have HT2 := Lib.hid HT1
      clear HT1 HT
      go_wp2
      go_ret
      exact ⟨congrArg (fun l => Ending.returned (strV l)) (show M = T.line31 deep x by rw [HE.out, ← HL.out, HT2.out, HM.out]), hB0.trans (hY0.mono hB0.size)⟩
    · rw [if_neg h9] at HT1
      have HT2 := Lib.hid HT1
      clear HT1 HT
      go_wp2_with (go_at_call 72; (with_reducible refine H5Y.mono ?_); rintro r w5 ⟨rfl, hb5⟩)
      go_ret
      refine ⟨?_, hB0.trans ((bthen hY0 hb5).mono hB0.size)⟩
      simp only [ByteArray.mk_append_mk]
      exact congrArg (fun l => Ending.returned (strV l)) (show M ++ [32] ++ Lib.itoa x.code = T.line31 deep x by rw [HE.out, ← HL.out, HT2.out, HM.out]; simp only [List.append_assoc])
end Go.Proofs.YtcncmbcnekekdaaDoor
