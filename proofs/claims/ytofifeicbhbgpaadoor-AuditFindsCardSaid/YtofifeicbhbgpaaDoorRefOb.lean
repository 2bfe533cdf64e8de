/- The reference's audit: all that is wrong of one event, by its kind. -/
import Derived.Test.YtofifeicbhbgpaaDoorRefO
namespace Go.Proofs.YtofifeicbhbgpaaDoor
open Go.RowKit Go.Shelf
set_option linter.unusedVariables false
set_option linter.unusedSimpArgs false
section
attribute [local go_sem] Event.sz Config.sz
set_option maxRecDepth 100000 in
set_option maxHeartbeats 8000000 in
theorem refOne_4 (v : Value) (l : List Event) (c : Config) (n : Nat) (e : Event) (hn : l[n]? = some e) (hk4 : e.kind = 4) (hh : e.hop ≤ 9223372036854775807) (hll : l.length ≤ 100000) (w : World) (h : Sl Event.arr 18 w.heap.size w v l) :
    Calls Tryd.prog 25 #[.agg (Config.arr c), v, .int .i64 (n : Int)] w fun r w' => ∃ g : Nat, r = .returned (.slice (some ⟨g, 0, none⟩) 13 13) ∧ w.heap.size ≤ g ∧ g < w'.heap.size ∧ (∀ j : Nat, 1 ≤ j → j ≤ 12 → w'.cell? ⟨g, j, none⟩ = some (.bool (T.wrong c (l.take n) (j : Int) e))) ∧ Below w.heap.size w w' := by
  have hST := Lib.hid (fun (X : World) (hX : Below w.heap.size w X) => refStarted_c v l c n e hn X ((h.below hX).mono hX.size))
  have hSE := Lib.hid (fun (X : World) (hX : Below w.heap.size w X) => refSent_c v l c n e hn hh hll X ((h.below hX).mono hX.size))
  have hEN := Lib.hid (fun (X : World) (hX : Below w.heap.size w X) => refEnded_c v l n e hn hll X ((h.below hX).mono hX.size))
  have hCL := Lib.hid (fun (X : World) (hX : Below w.heap.size w X) => refClock_c v l c n e hn X ((h.below hX).mono hX.size))
  obtain ⟨A, cap, rfl, hcap, hl1, hl2⟩ := h.view
  obtain ⟨hnl, hne⟩ := List.getElem?_eq_some_iff.1 hn
  obtain ⟨W, hW, hsz, hB, rC⟩ := boxesR c w
  have hS := (h.below hB).mono hB.size
  obtain ⟨b, off, rfl, hb, hrow, _⟩ := hS.at hnl
  rw [hne] at hrow
  have cs : W.cell? ⟨w.heap.size, 5, none⟩ = some (.int .i64 c.hops) := by have := rowAt_cell rC 5 (by omega); simpa [Config.at5] using this
  have HN := Lib.hid hn
  clear hn hne
  subst hW
  go_enter Tryd.func25, Tryd.ntmps25
  go_wp2_with (first | ((refine wpList_load_at rfl 55 _ rfl _ (off + n * 18) 18 rfl _ _ hrow rfl rfl rfl ?_); refine Hid.out ?_))
  refine Lib.hid ?_
  have HZ := Lib.hid hsz
  generalize w.alloc (Obj.cells (Config.arr c) 24) = W at HZ hB rC hS hb hrow cs ⊢
  clear hsz
  go_wp2_with (first | (refine wpList_store_new rfl _ _ _ rfl W.heap.size (Event.arr e) _ _ rfl rfl rfl rfl rfl (Event.one _) ?_; refine Hid.out ?_))
  refine Lib.hid ?_
  have hsz := HZ.out
  obtain ⟨W1, hW1⟩ : ∃ W1, W1 = W.alloc (Obj.cells (Event.arr e) 55) := ⟨_, rfl⟩
  have rE : rowAt W1 W.heap.size 0 18 = some (Event.arr e) := by rw [hW1]; exact rowAt_new _ _ _ _ _ rfl
  have hB1 : Below w.heap.size w W1 := by rw [hW1]; exact hB.alloc hB.size _
  have hs1 : W1.heap.size = w.heap.size + 2 := by rw [hW1]; simp; omega
  have rC1 : rowAt W1 w.heap.size 0 14 = some (Config.arr c) := by rw [hW1, rowAt_alloc_old _ _ _ _ _ (by omega)]; exact rC
  have cs1 : W1.cell? ⟨w.heap.size, 5, none⟩ = some (.int .i64 c.hops) := by rw [hW1, World.cell?_of_block (w := W) (Below.heap_alloc W _ _ (by simp; omega))]; exact cs
  have hS1 : Sl Event.arr 18 W1.heap.size W1 (.slice (some ⟨b, off, none⟩) l.length cap) l := (h.below hB1).mono hB1.size
  rw [← hW1]
  rw [hsz] at rE ⊢
  clear hW1 hS hrow hb rC cs hB HZ hsz
  obtain ⟨m0, _, _, _, m15, _⟩ := Event.cells rE
  simp only [Nat.zero_add] at m0 m15
  have HS1 := Lib.hid hs1
  clear hs1 hS1
  go_upto_region 3 with (fail)
  rw [HS1.out]
  obtain ⟨W2, hW2⟩ : ∃ W2, W2 = W1.alloc (Obj.cells #[.bool false, .bool false, .bool false, .bool false, .bool false, .bool false, .bool false, .bool false, .bool false, .bool false, .bool false, .bool false, .bool false] 4) := ⟨_, rfl⟩
  have hbl : BoolsAt W2 (w.heap.size + 2) (List.replicate 13 false) := by rw [hW2, ← HS1.out]; exact heap_alloc_new W1 _
  have hBX : Below (w.heap.size + 2) W1 W2 := by rw [hW2]; exact (Below.refl _ W1).alloc (by rw [HS1.out]; omega) _
  rw [← hW2]
  clear hW2
  have rC2 := (rowAt_block (hBX.block w.heap.size (by omega))).trans rC1
  have k0 := (hBX.cell (p := ⟨w.heap.size + 1, 0, none⟩) (show w.heap.size + 1 < w.heap.size + 2 by omega)).trans m0
  have k15 := (hBX.cell (p := ⟨w.heap.size + 1, 15, none⟩) (show w.heap.size + 1 < w.heap.size + 2 by omega)).trans m15
  have M15 := Lib.hid m15
  have M0 := Lib.hid m0
  have CS := Lib.hid cs1
  have RC := Lib.hid rC1
  have hBw : Below w.heap.size w W2 := hB1.trans (hBX.mono (by omega))
  have hz2 : w.heap.size + 2 < W2.heap.size := hbl.lt
  clear m0 m15 cs1 rE rC1
  rcases ga : T.lost e (l.take n) with _ | _
  all_goals
    rcases gb : T.twice e (l.take n) with _ | _
    all_goals
      have hcall := hST.out W2 hBw
      rw [ga, gb] at hcall
      go_wp2_with (first | (refine wpList_load_at_v 24 _ rfl rfl _ (0) 14 rfl _ _ rC2 rfl rfl rfl ?_) | (go_at_call 41; (with_reducible refine hcall.mono ?_); rintro r X4 ⟨rfl, hb4⟩; refine Hid.out ?_))
      refine Lib.hid ?_
      have hBX4 := hBX.trans (hb4.mono (Nat.le_of_lt hz2))
      have hbl4 := hbl.below hb4
      obtain ⟨c1, f1⟩ := hbl4.at 1 false rfl
      obtain ⟨c3, f3⟩ := hbl4.at 3 false rfl
      obtain ⟨c4, f4⟩ := hbl4.at 4 false rfl
      have y0 := (hBX4.cell (p := ⟨w.heap.size + 1, 0, none⟩) (show w.heap.size + 1 < w.heap.size + 2 by omega)).trans M0.out
      clear k0 k15 rC2 hcall hb4
      go_upto_region 8 with (fail)
      refine gen_wp (S := fun X => Below (w.heap.size + 2) W1 X ∧ BoolsAt X (w.heap.size + 2) ((((List.replicate 13 false).set 1 (T.lost e (l.take n) && (e.kind == 3))).set 3 (T.twice e (l.take n) && (e.kind == 3))).set 4 (T.lateE c e (l.take n)))) ⟨(Below.setCell (p := ⟨w.heap.size + 2, 4, none⟩) (Below.setCell (p := ⟨w.heap.size + 2, 3, none⟩) (Below.setCell (p := ⟨w.heap.size + 2, 1, none⟩) hBX4 (Nat.le_refl _) _) (Nat.le_refl _) _) (Nat.le_refl _) _), ?_⟩ ?_
      · rw [ga, gb, hk4]; exact (BoolsAt.set (BoolsAt.set (BoolsAt.set hbl4 1 _) 3 _) 4 _)
      clear c1 c3 c4 f1 f3 f4 y0 hBX4 hbl4 hbl hBX
      rintro Y ⟨hBX, hbl⟩
      have rC2 := (rowAt_block (hBX.block w.heap.size (by omega))).trans RC.out
      have k0 := (hBX.cell (p := ⟨w.heap.size + 1, 0, none⟩) (show w.heap.size + 1 < w.heap.size + 2 by omega)).trans M0.out
      have hBw := hB1.trans (hBX.mono (show w.heap.size ≤ w.heap.size + 2 by omega))
      obtain ⟨vs, hvs⟩ : ∃ vs, vs = (((List.replicate 13 false).set 1 (T.lost e (l.take n) && (e.kind == 3))).set 3 (T.twice e (l.take n) && (e.kind == 3))).set 4 (T.lateE c e (l.take n)) := ⟨_, rfl⟩
      rw [← hvs] at hbl
      have h10 : vs[10]? = some false := by rw [hvs]; rfl
      have h11 : vs[11]? = some false := by rw [hvs]; rfl
      have HV := Lib.hid hvs
      clear hvs
      have hcl := hCL.out Y hBw
      go_wp2_with (first | (refine wpList_load_at_v 24 _ rfl rfl _ (0) 14 rfl _ _ rC2 rfl rfl rfl ?_) | (go_at_call 44; (with_reducible refine hcl.mono ?_); rintro r X5 ⟨rfl, hb5⟩; refine Hid.out ?_))
      refine Lib.hid ?_
      have hBX5 := frame_then hBX (Nat.le_of_eq HS1.out.symm) hb5
      have hbl5 := BoolsAt.below hbl hb5
      obtain ⟨c10, f10⟩ := hbl5.at 10 false h10
      obtain ⟨c11, f11⟩ := hbl5.at 11 false h11
      have z15 := (hBX5.cell (p := ⟨w.heap.size + 1, 15, none⟩) (show w.heap.size + 1 < w.heap.size + 2 by omega)).trans M15.out
      have z5 := (hBX5.cell (p := ⟨w.heap.size, 5, none⟩) (show w.heap.size < w.heap.size + 2 by omega)).trans CS.out
      clear rC2 k0 hcl hb5 h10 h11
      rcases gd : decide (e.hop < 0) with _ | _
      all_goals
        go_wp2
        go_ret
        refine ⟨w.heap.size + 2, rfl, by omega, (BoolsAt.set (BoolsAt.set hbl5 10 _) 11 _).lt, fun j h1 h2 => ((BoolsAt.set (BoolsAt.set hbl5 10 _) 11 _).at j _ ((congrArg (fun vs : List Bool => vs[j]?) ?_).trans (T.wrongs_at c (l.take n) e j h1 h2))).1, hB1.trans (Below.mono (B' := w.heap.size) (Below.setCell (p := ⟨w.heap.size + 2, 11, none⟩) (Below.setCell (p := ⟨w.heap.size + 2, 10, none⟩) hBX5 (Nat.le_refl _) _) (Nat.le_refl _) _) (by omega))⟩
        rw [HV.out]
        simp [T.wrongs, T.wrong, List.replicate, gd, hk4, ga, gb]
end
end Go.Proofs.YtofifeicbhbgpaaDoor
