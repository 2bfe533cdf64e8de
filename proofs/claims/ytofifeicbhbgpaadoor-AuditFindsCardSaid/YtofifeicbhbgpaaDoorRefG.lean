/- The reference's audit: Check. -/
import Derived.Test.YtofifeicbhbgpaaDoorRefOa
import Derived.Test.YtofifeicbhbgpaaDoorRefOb
import Derived.Test.YtofifeicbhbgpaaDoorRefOc
import Derived.Test.YtofifeicbhbgpaaDoorCheck
namespace Go.Proofs.YtofifeicbhbgpaaDoor
open Go.RowKit Go.Shelf
set_option linter.unusedVariables false
set_option linter.unusedSimpArgs false
theorem refOne_c (v : Value) (l : List Event) (c : Config) (n : Nat) (e : Event) (hn : l[n]? = some e) (hh : e.hop ≤ 9223372036854775807) (hll : l.length ≤ 100000) (w : World) (h : Sl Event.arr 18 w.heap.size w v l) :
    Calls Tryd.prog 25 #[.agg (Config.arr c), v, .int .i64 (n : Int)] w fun r w' => ∃ g : Nat, r = .returned (.slice (some ⟨g, 0, none⟩) 13 13) ∧ w.heap.size ≤ g ∧ g < w'.heap.size ∧ (∀ j : Nat, 1 ≤ j → j ≤ 12 → w'.cell? ⟨g, j, none⟩ = some (.bool (T.wrong c (l.take n) (j : Int) e))) ∧ Below w.heap.size w w' := by
  by_cases hk3 : e.kind = 3
  · exact refOne_3 v l c n e hn hk3 hh hll w h
  · by_cases hk4 : e.kind = 4
    · exact refOne_4 v l c n e hn hk4 hh hll w h
    · exact refOne_o v l c n e hn hk3 hk4 hh hll w h
attribute [local go_sem] Event.sz Config.sz Find.sz
set_option maxRecDepth 100000 in
set_option maxHeartbeats 4000000 in
theorem refCheck_c (v : Value) (l : List Event) (c : Config) (w : World) (h : Sl Event.arr 18 w.heap.size w v l) (hn : l.length ≤ 1000) (hok : ∀ e ∈ l, e.hop ≤ 9223372036854775807) :
    Calls Tryd.prog 7 #[.agg (Config.arr c), v] w fun r w' => ∃ u, r = .returned u ∧ Own Find.arr 2 w.heap.size 62 w' u (T.chk c l l.length) ∧ Below w.heap.size w w' := by
  have hone := Lib.hid (fun (k : Nat) (e : Event) (he : l[k]? = some e) (hh : e.hop ≤ 9223372036854775807) (X : World) (hX : Below w.heap.size w X) => refOne_c v l c k e he hh (by omega) X ((h.below hX).mono hX.size))
  obtain ⟨A, cap, rfl, hcap, hl1, hl2⟩ := h.view
  obtain ⟨W0, hW0⟩ : ∃ W0, W0 = w.alloc (Obj.cells (Config.arr c) 24) := ⟨_, rfl⟩
  have hs0 : W0.heap.size = w.heap.size + 1 := by rw [hW0]; simp
  have hB0 : Below w.heap.size w W0 := by rw [hW0]; exact (Below.refl _ w).alloc (Nat.le_refl _) _
  have rC : rowAt W0 w.heap.size 0 14 = some (Config.arr c) := by rw [hW0]; exact rowAt_new _ _ _ _ _ rfl
  have HW := Lib.hid hW0
  have HOK := Lib.hid hok
  clear hW0 hok
  go_enter Tryd.func7, Tryd.ntmps7
  go_wp2
  rw [← HW.out]
  go_loopw [5, 6] (fun u i wr => ∃ k : Nat, k ≤ l.length ∧ i = .int .i64 (k : Int) ∧ Own Find.arr 2 (w.heap.size + 1) 62 wr u (T.chk c l k) ∧ Below (w.heap.size + 1) W0 wr) (fun _ i _ => l.length - (intOf i).toNat)
  case atStart => exact ⟨0, Nat.zero_le _, rfl, Own.nil, Below.refl _ _⟩
  case round =>
    obtain ⟨k, hk, rfl, hown, hB⟩ := hrel
    by_cases hkl : k < l.length
    · obtain ⟨e, he⟩ : ∃ e, e = l[k] := ⟨_, rfl⟩
      have heo : l[k]? = some e := by rw [he]; exact List.getElem?_eq_getElem hkl
      have hhop := HOK.out e (List.mem_of_getElem? heo)
      have hcs := Lib.hid (T.chk_succ c l k e heo)
      have hcl := T.chk_len c l k
      have hwz : w.heap.size + 1 ≤ wr.heap.size := by have := hB.size; omega
      have hcall := hone.out k e heo hhop wr (hB0.trans (hB.mono (by omega)))
      have rCr := (rowAt_block (hB.block w.heap.size (by omega))).trans rC
      clear he heo
      obtain ⟨L, hL⟩ : ∃ L, L = T.chk c l k := ⟨_, rfl⟩
      rw [← hL] at hown hcl hcs
      clear hL
      go_wp2_with (first | (refine wpList_load_at_v 24 _ rfl rfl _ (0) 14 rfl _ _ rCr rfl rfl rfl ?_) | (go_at_call 25; (with_reducible refine hcall.mono ?_); rintro r W1 ⟨g, rfl, hg0, hg1, hcells, hb1⟩; refine Hid.out ?_))
      refine Lib.hid ?_
      have hown1 := hown.below hb1
      have hB1 := hB.trans (hb1.mono hwz)
      have hne : u5.ownBlock ≠ some g := fun hh => by have := hown.lt _ hh; omega
      have HNE := Lib.hid hne
      have HC := Lib.hid hcells
      clear hne hcells hown hB hb1 rCr hcall
      go_wp2
      go_loopw [5, 8] (fun u q X => ∃ j : Nat, j ≤ 12 ∧ q = .int .i64 ((j : Int) + 1) ∧ Own Find.arr 2 (w.heap.size + 1) 62 X u (L ++ T.found c (l.take k) k e j) ∧ Below (w.heap.size + 1) W0 X ∧ Hid (∀ j : Nat, 1 ≤ j → j ≤ 12 → X.cell? ⟨g, j, none⟩ = some (.bool (T.wrong c (l.take k) (j : Int) e))) ∧ Hid (u.ownBlock ≠ some g) ∧ g < X.heap.size) (fun _ q _ => 13 - (intOf q).toNat)
      case atStart => exact ⟨0, by omega, rfl, by simpa [T.found] using hown1, hB1, HC, HNE, hg1⟩
      case round =>
        obtain ⟨j, hj, rfl, hownX, hBX, hcX, hneX, hgX⟩ := hrel
        by_cases hj12 : j < 12
        · have hfl := T.found_len c (l.take k) k e j
          have hlt : decide (((j : Int) + 1) ≤ 12) = true := by simp; omega
          have hlen : (L ++ T.found c (l.take k) k e j).length ≤ 13000 := by rw [List.length_append]; omega
          obtain ⟨M, hM⟩ : ∃ M, M = L ++ T.found c (l.take k) k e j := ⟨_, rfl⟩
          have hnx : T.found c (l.take k) k e (j + 1) = T.found c (l.take k) k e j ++ (if T.wrong c (l.take k) ((j : Int) + 1) e = true then [⟨(j : Int) + 1, k⟩] else []) := rfl
          have HNX := Lib.hid (show L ++ T.found c (l.take k) k e (j + 1) = M ++ (if T.wrong c (l.take k) ((j : Int) + 1) e = true then [⟨(j : Int) + 1, k⟩] else []) by rw [hnx, hM, List.append_assoc])
          rw [← hM] at hownX hlen
          obtain ⟨A5, n5, c5, rfl⟩ := hownX.shape
          have hc := hcX.out (j + 1) (by omega) (by omega)
          rw [show ((j + 1 : Nat) : Int) = (j : Int) + 1 by omega] at hc
          clear hM hnx hfl
          rcases hw : T.wrong c (l.take k) ((j : Int) + 1) e with _ | _
          · rw [hw] at HNX hc
            clear hw
            go_wp2
            go_roundw
            case rel => exact ⟨j + 1, by omega, by go_num, by rw [HNX.out]; simpa using hownX, hBX, hcX, hneX, hgX⟩
            case measure => simp [intOf]; omega
          · rw [hw] at HNX hc
            clear hw
            have hbs := hBX.size
            obtain ⟨y, hy⟩ : ∃ y : Find, y = ⟨(j : Int) + 1, (k : Int)⟩ := ⟨_, rfl⟩
            have py := fun X : World => rowAt_new X (Find.arr y) 62 (0, 0) X.heap.size rfl
            have hyb := builtFind' y
            rw [hy] at hyb
            simp only at hyb
            rw [← hy] at hyb HNX
            clear hy
            have hz1 : w.heap.size + 1 ≤ wr.heap.size := by have := hBX.size; omega
            go_wp2_with (first | (refine wpList_build_at rfl 62 _ rfl _ ?_ _ hyb ?_; rfl) | (refine wpList_slice1 rfl _ 62 _ rfl (Find.arr y) 2 16 Tryd.underlying29 (by kernel_rfl) (by decide) rfl rfl _ rfl ?_) | (at_builtin; refine wpList_append2 Find.arr 2 rfl _ _ _ rfl (w.heap.size + 1) 62 16 Tryd.underlying29 (by kernel_rfl) (by decide) _ M y rfl (hownX.alloc _) _ rfl (py _) (Find.one y) (by omega) (by omega) (by simp <;> omega) ?_; intro v3 w3 hown3 hgr3 hbel3 hloc3))
            have hne3 : v3.ownBlock ≠ some g := by
              rcases hloc3 with hh | hh
              · rw [hh]; exact hneX.out
              · rw [hh]; intro h4; injection h4 with h4; simp at h4; omega
            have hblk : w3.heap[g]? = wr.heap[g]? := (hgr3.block g (by simp; omega) (Ne.symm hneX.out)).trans (Below.heap_alloc wr _ g hgX)
            have hz3 := hbel3.size
            have HNE3 := Lib.hid hne3
            have HC3 := Lib.hid (fun (i : Nat) (h1 : 1 ≤ i) (h2 : i ≤ 12) => (World.cell?_of_block (w := wr) (w' := w3) (a := ⟨g, i, none⟩) hblk).trans (hcX.out i h1 h2))
            clear hne3 hgr3 hloc3 hblk
            go_roundw
            case rel => exact ⟨j + 1, by omega, by go_num, by rw [HNX.out]; exact hown3, (hBX.alloc (by omega) _).trans hbel3, HC3, HNE3, by simp at hz3; omega⟩
            case measure => simp [intOf]; omega
        · obtain rfl : j = 12 := by omega
          go_wp2
          go_roundw
          case rel => exact ⟨k + 1, by omega, by go_num, by rw [hcs.out]; exact hownX, hBX⟩
          case measure => simp [intOf]; omega
    · obtain rfl : k = l.length := by omega
      go_wp2
      go_ret
      exact ⟨_, rfl, hown.lower (by omega), hB0.trans (hB.mono (by omega))⟩
end Go.Proofs.YtofifeicbhbgpaaDoor
