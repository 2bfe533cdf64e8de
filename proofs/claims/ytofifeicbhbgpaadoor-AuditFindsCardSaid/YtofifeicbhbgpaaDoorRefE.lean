/- The reference's audit: clock. -/
import Derived.Test.YtofifeicbhbgpaaDoorRefC
namespace Go.Proofs.YtofifeicbhbgpaaDoor
open Go.RowKit Go.Shelf
set_option linter.unusedVariables false
set_option linter.unusedSimpArgs false
def T.lastB (e : Event) (xs : List Event) : Bool := match xs.getLast? with | some y => decide (T.clamp e.real < T.clamp y.real) | none => false
theorem T.skew_sub (s a b : Int) : decide (T.clamp s < max (T.clamp a - T.clamp b) (T.clamp b - T.clamp a)) = (decide (T.clamp s < T.sub a b) || decide (T.clamp s < T.sub b a)) := by
  have := T.clamp_bd s
  unfold T.sub
  rw [← Bool.decide_or, decide_eq_decide]
  split <;> split <;> omega
theorem T.clockE_eq (c : Config) (e : Event) (xs : List Event) : T.clockE c e xs = ((T.lastB e xs || (decide (T.clamp c.skew < T.sub e.real e.loc) || decide (T.clamp c.skew < T.sub e.loc e.real))) || xs.any (T.pClock e (T.clamp e.loc))) := by
  rw [← T.skew_sub]; rfl
theorem T.lastB_at (e x : Event) (l : List Event) (n : Nat) (h : l[n]? = some x) : T.lastB e (l.take (n + 1)) = decide (T.clamp e.real < T.clamp x.real) := by
  unfold T.lastB
  rw [List.take_add_one, h]
  simp
theorem Event.cellsT {w : World} {g o : Nat} {e : Event} (h : rowAt w g o 18 = some (Event.arr e)) :
    w.cell? ⟨g, o + 1, none⟩ = some (.int .i64 e.real) ∧ w.cell? ⟨g, o + 2, none⟩ = some (.int .i64 e.node) ∧ w.cell? ⟨g, o + 3, none⟩ = some (.int .i64 e.loc) :=
  ⟨rowAt_cell h 1 (by omega), rowAt_cell h 2 (by omega), rowAt_cell h 3 (by omega)⟩
section
attribute [local go_sem] Event.sz Config.sz bw_cell
set_option maxRecDepth 100000 in
set_option maxHeartbeats 8000000 in
theorem refClock_c (v : Value) (l : List Event) (c : Config) (n : Nat) (e : Event) (hn : l[n]? = some e) (w : World) (h : Sl Event.arr 18 w.heap.size w v l) :
    Calls Tryd.prog 44 #[.agg (Config.arr c), v, .int .i64 (n : Int)] w fun r w' => r = .returned (.bool (T.clockE c e (l.take n))) ∧ Below w.heap.size w w' := by
  obtain ⟨A, cap, rfl, hcap, hl1, hl2⟩ := h.view
  obtain ⟨hnl, hne⟩ := List.getElem?_eq_some_iff.1 hn
  obtain ⟨W, hW, hsz, hB, rC⟩ := boxesR c w
  have hS := (h.below hB).mono hB.size
  obtain ⟨b, off, rfl, hb, hrow, _⟩ := hS.at hnl
  rw [hne] at hrow
  have cs : W.cell? ⟨w.heap.size, 1, none⟩ = some (.int .i64 c.skew) := by have := rowAt_cell rC 1 (by omega); simpa [Config.at1] using this
  have HN := Lib.hid hn
  clear hn hne
  subst hW
  go_enter Tryd.func44, Tryd.ntmps44
  go_wp2_with (first | ((refine wpList_load_at rfl 55 _ rfl _ (off + n * 18) 18 rfl _ _ hrow rfl rfl rfl ?_); refine Hid.out ?_))
  refine Lib.hid ?_
  have HZ := Lib.hid hsz
  generalize w.alloc (Obj.cells (Config.arr c) 24) = W at HZ hB rC hS hb hrow cs ⊢
  clear hsz
  go_wp2_with (first | (refine wpList_store_new rfl _ _ _ rfl W.heap.size (Event.arr e) _ _ rfl rfl rfl rfl rfl (Event.one _) ?_; refine Hid.out ?_))
  refine Lib.hid ?_
  have hsz := HZ.out
  obtain ⟨W1, hW1⟩ : ∃ W1, W1 = W.alloc (Obj.cells (Event.arr e) 55) := ⟨_, rfl⟩
  have rE : rowAt W1 W.heap.size 0 18 = some (Event.arr e) := by rw [hW1]; exact rowAt_new _ _ _ _ _ rfl
  have hB1 : Below w.heap.size w W1 := by rw [hW1]; exact hB.alloc hB.size _
  have hs1 : W1.heap.size = w.heap.size + 2 := by rw [hW1]; simp; omega
  have cs1 : W1.cell? ⟨w.heap.size, 1, none⟩ = some (.int .i64 c.skew) := by rw [hW1, World.cell?_of_block (w := W) (Below.heap_alloc W _ _ (by simp; omega))]; exact cs
  have hS1 : Sl Event.arr 18 W1.heap.size W1 (.slice (some ⟨b, off, none⟩) l.length cap) l := (h.below hB1).mono hB1.size
  rw [← hW1]
  rw [hsz] at rE ⊢
  clear hW1 hS hrow hb rC cs hB HZ hsz
  obtain ⟨m1, m2, m3⟩ := Event.cellsT rE
  simp only [Nat.zero_add] at m1 m2 m3
  have lt0 : w.heap.size < W1.heap.size := by omega
  have lt1 : w.heap.size + 1 < W1.heap.size := by omega
  have HS1 := Lib.hid hs1
  clear hs1
  have b1 := T.clamp_bd c.skew
  have HT := Lib.hid (T.clockE_eq c e (l.take n))
  clear b1
  rcases s1 : decide (T.clamp c.skew < T.sub e.real e.loc) with _ | _
  · rcases s2 : decide (T.clamp c.skew < T.sub e.loc e.real) with _ | _
    · rw [s1, s2] at HT
      go_wp2
      refine wp_region_calm (by kernel_rfl) (by kernel_rfl) ?_
      repeat ((fail_if_success (with_reducible refine wpQuiet_nil ?_)); (first | go_big_quiet_skip | go_big_quiet_step ((first | (go_at_call 72; exact calm_of (refl_below (rsub_c _ _ _))) | (go_at_call 70; exact calm_of (refl_below (rclamp_c _ _)))))))
      refine wpQuiet_nil ?_
      rintro _ ⟨⟨X0, hb0⟩, rfl⟩
      have hB0 : Below (w.heap.size + 2) W1 _ := hb0.mono (by have := HS1.out; omega)
      clear m1 m2 m3 lt0 lt1 hb0 s1 s2
      go_wp2
      go_loopw [8] (fun i wr => ∃ k : Nat, k ≤ n ∧ i = .int .i64 (k : Int) ∧ Hid ((l.take k).any (T.pClock e (T.clamp e.loc)) = false) ∧ Hid (k = n → T.lastB e (l.take k) = false) ∧ Below (w.heap.size + 2) W1 wr) (fun i _ => n - (intOf i).toNat)
      case atStart => exact ⟨0, Nat.zero_le _, rfl, Lib.hid rfl, Lib.hid (fun _ => by simp [T.lastB]), hB0⟩
      case round =>
        obtain ⟨k, hk, rfl, hno, hla, hBr⟩ := hrel
        have hs1 := HS1.out
        by_cases hkl : k < n
        · obtain ⟨b2, off2, ho, hb2, hrow, _⟩ := ((hS1.below (hBr.mono (Nat.le_of_eq hs1))).mono hBr.size).at (show k < l.length by omega)
          cases ho
          obtain ⟨x, hx⟩ : ∃ x, x = l[k] := ⟨_, rfl⟩
          rw [← hx] at hrow
          have hxo : l[k]? = some x := by rw [hx]; exact List.getElem?_eq_getElem (by omega)
          have HN1 := Lib.hid (show (l.take (k + 1)).any (T.pClock e (T.clamp e.loc)) = ((l.take k).any (T.pClock e (T.clamp e.loc)) || T.pClock e (T.clamp e.loc) x) by rw [List.take_add_one, hxo]; simp [List.any_append])
          have HL := Lib.hid (T.lastB_at e x l k hxo)
          have HMx := Lib.hid (show x ∈ l.take n from List.mem_take_iff_getElem.2 ⟨k, by omega, hx.symm⟩)
          clear hx hxo
          have hzr := hBr.size
          have rEr := (rowAt_block (hBr.block (w.heap.size + 1) (by omega))).trans rE
          have ltE : w.heap.size + 1 < wr.heap.size := by omega
          obtain ⟨m1, m2, m3⟩ := Event.cellsT rEr
          simp only [Nat.zero_add] at m1 m2 m3
          obtain ⟨x1, x2, x3⟩ := Event.cellsT hrow
          have HZ := Lib.hid hzr
          have HS := Lib.hid hS1
          clear hrow rEr rE cs1 hS1 hs1 hzr
          by_cases hlast : k + 1 = n
          · have gk : ((k : Int) == (n : Int) - 1) = true := by simp; omega
            rcases gr : decide (T.clamp e.real < T.clamp x.real) with _ | _
            · rcases and2 (x.node == e.node) (decide (T.clamp e.loc < T.clamp x.loc)) with ⟨hc, g1⟩ | ⟨hc, g1, g2⟩ | ⟨hc, g1, g2⟩
              iterate 2
                · have HC := Lib.hid (show T.pClock e (T.clamp e.loc) x = false from hc)
                  have HG := Lib.hid gr
                  clear hc
                  go_wp2
                  refine wp_region_calm (by kernel_rfl) (by kernel_rfl) ?_
                  repeat ((fail_if_success (with_reducible refine wpQuiet_nil ?_)); (first | go_big_quiet_skip | go_big_quiet_step ((first | (go_at_call 72; exact calm_of (refl_below (rsub_c _ _ _))) | (go_at_call 70; exact calm_of (refl_below (rclamp_c _ _)))))))
                  refine wpQuiet_nil ?_
                  rintro _ ⟨⟨X6, hb6⟩, rfl⟩
                  go_wp2
                  go_roundw
                  case rel => exact ⟨k + 1, by omega, by go_num, Lib.hid (by rw [HN1.out, hno.out, HC.out]; rfl), Lib.hid (fun _ => by rw [HL.out]; exact HG.out), hBr.trans (hb6.mono (by have := HZ.out; have := HS1.out; omega))⟩
                  case measure => simp [intOf]; omega
              · have HR := Lib.hid (show T.clockE c e (l.take n) = true by rw [HT.out, List.any_eq_true.2 ⟨x, HMx.out, hc⟩, Bool.or_true])
                clear hc
                go_wp2
                refine wp_region_calm (by kernel_rfl) (by kernel_rfl) ?_
                repeat ((fail_if_success (with_reducible refine wpQuiet_nil ?_)); (first | go_big_quiet_skip | go_big_quiet_step ((first | (go_at_call 72; exact calm_of (refl_below (rsub_c _ _ _))) | (go_at_call 70; exact calm_of (refl_below (rclamp_c _ _)))))))
                refine wpQuiet_nil ?_
                rintro _ ⟨⟨X6, hb6⟩, rfl⟩
                go_wp2
                go_ret
                exact ⟨ret_bool HR.out.symm, hB1.trans ((hBr.mono (by omega)).trans (hb6.mono (by have := HZ.out; have := HS1.out; omega)))⟩
            · have HR := Lib.hid (show T.clockE c e (l.take n) = true by rw [HT.out, ← hlast, HL.out, gr]; rfl)
              go_wp2
              refine wp_region_calm (by kernel_rfl) (by kernel_rfl) ?_
              repeat ((fail_if_success (with_reducible refine wpQuiet_nil ?_)); (first | go_big_quiet_skip | go_big_quiet_step ((first | (go_at_call 72; exact calm_of (refl_below (rsub_c _ _ _))) | (go_at_call 70; exact calm_of (refl_below (rclamp_c _ _)))))))
              refine wpQuiet_nil ?_
              rintro _ ⟨⟨X6, hb6⟩, rfl⟩
              go_wp2
              go_ret
              exact ⟨ret_bool HR.out.symm, hB1.trans ((hBr.mono (by omega)).trans (hb6.mono (by have := HZ.out; have := HS1.out; omega)))⟩
          · have gk : ((k : Int) == (n : Int) - 1) = false := by simp; omega
            have HNL := Lib.hid hlast
            clear hlast
            rcases and2 (x.node == e.node) (decide (T.clamp e.loc < T.clamp x.loc)) with ⟨hc, g1⟩ | ⟨hc, g1, g2⟩ | ⟨hc, g1, g2⟩
            iterate 2
              · have HC := Lib.hid (show T.pClock e (T.clamp e.loc) x = false from hc)
                clear hc
                go_wp2
                refine wp_region_calm (by kernel_rfl) (by kernel_rfl) ?_
                repeat ((fail_if_success (with_reducible refine wpQuiet_nil ?_)); (first | go_big_quiet_skip | go_big_quiet_step ((first | (go_at_call 72; exact calm_of (refl_below (rsub_c _ _ _))) | (go_at_call 70; exact calm_of (refl_below (rclamp_c _ _)))))))
                refine wpQuiet_nil ?_
                rintro _ ⟨⟨X6, hb6⟩, rfl⟩
                go_wp2
                go_roundw
                case rel => exact ⟨k + 1, by omega, by go_num, Lib.hid (by rw [HN1.out, hno.out, HC.out]; rfl), Lib.hid (fun hh => absurd hh HNL.out), hBr.trans (hb6.mono (by have := HZ.out; have := HS1.out; omega))⟩
                case measure => simp [intOf]; omega
            · have HR := Lib.hid (show T.clockE c e (l.take n) = true by rw [HT.out, List.any_eq_true.2 ⟨x, HMx.out, hc⟩, Bool.or_true])
              clear hc
              go_wp2
              refine wp_region_calm (by kernel_rfl) (by kernel_rfl) ?_
              repeat ((fail_if_success (with_reducible refine wpQuiet_nil ?_)); (first | go_big_quiet_skip | go_big_quiet_step ((first | (go_at_call 72; exact calm_of (refl_below (rsub_c _ _ _))) | (go_at_call 70; exact calm_of (refl_below (rclamp_c _ _)))))))
              refine wpQuiet_nil ?_
              rintro _ ⟨⟨X6, hb6⟩, rfl⟩
              go_wp2
              go_ret
              exact ⟨ret_bool HR.out.symm, hB1.trans ((hBr.mono (by omega)).trans (hb6.mono (by have := HZ.out; have := HS1.out; omega)))⟩
        · obtain rfl : k = n := by omega
          have HR := Lib.hid (show T.clockE c e (l.take k) = false by rw [HT.out, hno.out, hla.out rfl]; rfl)
          go_wp2
          go_ret
          exact ⟨ret_bool HR.out.symm, hB1.trans (hBr.mono (by omega))⟩
    · have HR := Lib.hid (show T.clockE c e (l.take n) = true by rw [HT.out, s1, s2]; simp)
      go_wp2
      refine wp_region_calm (by kernel_rfl) (by kernel_rfl) ?_
      repeat ((fail_if_success (with_reducible refine wpQuiet_nil ?_)); (first | go_big_quiet_skip | go_big_quiet_step ((first | (go_at_call 72; exact calm_of (refl_below (rsub_c _ _ _))) | (go_at_call 70; exact calm_of (refl_below (rclamp_c _ _)))))))
      refine wpQuiet_nil ?_
      rintro _ ⟨⟨X0, hb0⟩, rfl⟩
      go_wp2
      go_ret
      exact ⟨ret_bool HR.out.symm, hB1.trans (hb0.mono hB1.size)⟩
  · have HR := Lib.hid (show T.clockE c e (l.take n) = true by rw [HT.out, s1]; simp)
    go_wp2
    refine wp_region_calm (by kernel_rfl) (by kernel_rfl) ?_
    repeat ((fail_if_success (with_reducible refine wpQuiet_nil ?_)); (first | go_big_quiet_skip | go_big_quiet_step ((first | (go_at_call 72; exact calm_of (refl_below (rsub_c _ _ _))) | (go_at_call 70; exact calm_of (refl_below (rclamp_c _ _)))))))
    refine wpQuiet_nil ?_
    rintro _ ⟨⟨X0, hb0⟩, rfl⟩
    go_wp2
    go_ret
    exact ⟨ret_bool HR.out.symm, hB1.trans (hb0.mono hB1.size)⟩
end
end Go.Proofs.YtofifeicbhbgpaaDoor
