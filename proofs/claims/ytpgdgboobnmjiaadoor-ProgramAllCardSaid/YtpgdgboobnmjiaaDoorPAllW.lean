/- ProgramAll: its walk. -/
import Derived.Test.YtpgdgboobnmjiaaDoorPAwake
import Derived.Test.YtpgdgboobnmjiaaDoorPAll
namespace Go.Proofs.YtpgdgboobnmjiaaDoor
open Go.RowKit Go.Shelf Go.ChangeShapes Go.WideShapes Go.ChangeAt Go.Deep
set_option linter.unusedVariables false
set_option linter.unusedSimpArgs false
attribute [local go_sem] Config.sz bw_cell
set_option maxRecDepth 100000 in
set_option maxHeartbeats 8000000 in
theorem programAll_g {H : Type} {enc : TypeId × Value → H} (c : Config) (w : World) (he : Env w) (_ : Config.ok c) (hg : ∃ fuel y, DataW.trod enc Tryd.prog w 0 (fun _ => true) true fuel 63 [c.progs] = some y) :
    Calls Tryd.prog 11 #[.agg (Config.arr c)] w fun e w' => e = .returned (.bool true) ∧ Below w.heap.size w w' := by
  obtain ⟨ps, h, hok⟩ := pvs_open hg
  obtain ⟨A, cap, hv, hcap, hl1, hl2⟩ := h.view
  obtain ⟨W1, hW1⟩ : ∃ W1, W1 = w.alloc (.cells (Config.arr c) 65) := ⟨_, rfl⟩
  have hB1 : Below w.heap.size w W1 := by rw [hW1]; exact (Below.refl _ w).alloc (Nat.le_refl _) _
  have hz1 : w.heap.size < W1.heap.size := by rw [hW1]; simp
  have hr : rowAt W1 w.heap.size 0 14 = some (Config.arr c) := by rw [hW1]; exact rowAt_new _ _ _ _ _ rfl
  have c13 : W1.cell? ⟨w.heap.size, 13, none⟩ = some c.progs := rowAt_cell hr 13 (by omega)
  have S (X : World) (hX : Below W1.heap.size W1 X) : Sl PV.arr 1 X.heap.size X c.progs ps ∧ ∀ p ∈ ps, PV.ok X p :=
    ⟨(h.below (bthen hB1 hX)).mono (bthen hB1 hX).size, fun p hp => PV.below (hok p hp) (bthen hB1 hX)⟩
  have HA := Lib.hid (fun (X : World) (hX : Below W1.heap.size W1 X) => pall_c c ps X (S X hX).1 (S X hX).2)
  have HR := Lib.hid (fun (X : World) (hX : Below W1.heap.size W1 X) => rall_c c ps X (S X hX).1 (S X hX).2)
  have HEV := Lib.hid (fun (X : World) (hX : Below W1.heap.size W1 X) => awake22_c X (he.below (bthen hB1 hX)))
  rw [hv] at c13 h
  generalize T.pall ps c.nodes = pa at HA HR
  have HW := Lib.hid hW1
  have HOK := Lib.hid hok
  clear hW1 hv hok S hg
  by_cases h20 : ps.length ≤ 20
  · have h1 : ¬ (20 : Int) < ps.length := by omega
    go_enter Tryd.func11, Tryd.ntmps11
    go_upto_region 1 with (fail)
    rw [← HW.out]
    go_wp2
    go_loopw [3] (fun i wr => ∃ k : Nat, k ≤ ps.length ∧ i = .int .i64 (k : Int) ∧ Below W1.heap.size W1 wr) (fun i _ => ps.length - (intOf i).toNat)
    case atStart => exact ⟨0, Nat.zero_le _, rfl, Below.refl _ _⟩
    case round =>
      obtain ⟨k, hk, rfl, hB⟩ := hrel
      have hBz := hB.size
      have d13 := (hB.cell (p := ⟨w.heap.size, 13, none⟩) hz1).trans c13
      have hzr : w.heap.size < wr.heap.size := by omega
      by_cases hkl : k < ps.length
      · have hkI : (k : Int) < (ps.length : Int) := by omega
        have hS := (h.below (bthen hB1 hB)).mono (bthen hB1 hB).size
        obtain ⟨bb, off, hA, hb, hrow, _⟩ := hS.at hkl
        subst hA
        obtain ⟨x, hx⟩ : ∃ x, x = ps[k] := ⟨_, rfl⟩
        rw [← hx] at hrow
        have hpx := PV.below (HOK.out x (by rw [hx]; exact List.getElem_mem _)) (bthen hB1 hB)
        obtain ⟨A2, cap2, hxv, _, hxl, _⟩ := hpx.1.view
        have e0 : wr.cell? ⟨bb, off + k * 1, none⟩ = some x.v := rowAt_cell hrow 0 (by omega)
        rw [Nat.mul_one, hxv] at e0
        have hwk : IntKind.i64.wrap ((k : Int) + 1) = (k : Int) + 1 := IntWalk.i64_in _ (by omega)
        generalize x.xs.length = xl at *
        clear hx hxv hrow hpx hS
        by_cases h30 : xl ≤ 30
        · have h30I : ¬ (30 : Int) < xl := by omega
          go_wp2
          go_roundw
          case rel => exact ⟨k + 1, by omega, by go_num, hB⟩
          case measure => simp [intOf] <;> omega
        · have h30I : (30 : Int) < xl := by omega
          have haw := HEV.out wr hB
          go_wp2_with (go_at_call 24; (with_reducible refine haw.mono ?_); rintro r w6 ⟨rfl, hb6⟩)
          go_ret
          exact ⟨rfl, bthen hB1 (bthen hB hb6)⟩
      · have hkI : ¬ (k : Int) < (ps.length : Int) := by omega
        have hrr := (rowAt_block (hB.block w.heap.size hz1)).trans hr
        have H1 := Lib.hid (fun X : BW wr => HA.out X.1 (bthen hB X.2))
        have H2 := Lib.hid (fun X : BW wr => HR.out X.1 (bthen hB X.2))
        have H3 := Lib.hid (fun X : BW wr => HEV.out X.1 (bthen hB X.2))
        go_wp2
        refine wp_region_calm (by kernel_rfl) (by kernel_rfl) ?_
        repeat ((fail_if_success (with_reducible refine wpQuiet_nil ?_)); (first | go_big_quiet_skip | (refine wpQuiet_load_at (by rfl) 65 _ rfl _ 0 14 rfl _ _ hrr rfl rfl rfl ?_; simp only [Act.put, List.setIfInBounds_toArray, List.set_cons_succ, List.set_cons_zero]) | (refine wpQuiet_load_at (by rfl) 65 _ rfl _ 0 14 rfl _ _ hrr rfl rfl rfl ?_; simp only [Act.put, List.setIfInBounds_toArray, List.set_cons_succ, List.set_cons_zero]) | go_big_quiet_step ((first | (go_at_call 37; exact calm_of (H1.out _)) | (go_at_call 38; exact calm_of (H2.out _)) | (go_at_call 24; exact calm_of (H3.out _))))))
        refine wpQuiet_nil ?_
        rintro _ ⟨⟨X, hX⟩, rfl⟩
        go_wp2
        go_ret
        exact ⟨rfl, bthen hB1 (bthen hB hX)⟩
  · have h1 : (20 : Int) < ps.length := by omega
    have haw := HEV.out W1 (Below.refl _ _)
    go_enter Tryd.func11, Tryd.ntmps11
    go_upto_region 1 with (fail)
    rw [← HW.out]
    go_wp2_with (go_at_call 24; (with_reducible refine haw.mono ?_); rintro r w6 ⟨rfl, hb6⟩)
    go_ret
    exact ⟨rfl, bthen hB1 hb6⟩
end Go.Proofs.YtpgdgboobnmjiaaDoor
