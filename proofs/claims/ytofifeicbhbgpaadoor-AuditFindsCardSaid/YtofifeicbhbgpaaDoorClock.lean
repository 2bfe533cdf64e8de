/- audit: clock. -/
import Derived.Test.YtofifeicbhbgpaaDoorSent
import Derived.Deep.RegionHeld3
import Derived.Deep.DrawnRows
namespace Go.Proofs.YtofifeicbhbgpaaDoor
open Go.RowKit Go.Shelf
set_option linter.unusedVariables false
set_option linter.unusedSimpArgs false
attribute [local go_sem] Event.sz Config.sz bw_cell
attribute [local go_sem ↓] Go.wp_at_zero Go.wp_at_succ
def T.pClock (e : Event) (m : Int) (x : Event) : Bool := (x.node == e.node) && decide (m < T.clamp x.loc)
set_option maxRecDepth 100000 in
set_option maxHeartbeats 1000000 in
theorem clockF_c (e x : Event) (m : Int) (b bm : Nat) (w : World) (h : rowAt w b 0 18 = some (Event.arr e)) (hm : w.cell? ⟨bm, 0, none⟩ = some (.int .i64 m)) :
    Calls Tryd.prog 67 #[.agg (Event.arr x), .pointer (some ⟨b, 0, none⟩), .pointer (some ⟨bm, 0, none⟩)] w fun r w' => r = .returned (.bool (T.pClock e m x)) ∧ Below w.heap.size w w' := by
  obtain ⟨h1, h2, hB⟩ := Event.boxed (x := x) h 55
  have lm := World.block_lt_of_cell? w _ hm
  have lb := rowAt_lt h
  have c1 : (w.alloc (Obj.cells (Event.arr x) 55)).cell? ⟨bm, 0, none⟩ = some (.int .i64 m) := by rw [World.cell?_of_block (w := w) (Below.heap_alloc w _ _ lm)]; exact hm
  obtain ⟨_, _, e2, _⟩ := Event.cells h1
  obtain ⟨_, _, x2, x3, _⟩ := Event.cells h2
  simp only [Nat.zero_add] at e2 x2 x3
  have l1 : bm < w.heap.size + 1 := by simp only at lm; omega
  have l2 : b < w.heap.size + 1 := by omega
  have l3 : w.heap.size < w.heap.size + 1 := by omega
  have HB := Lib.hid hB
  clear hB hm h h1 h2
  rcases and2 (x.node == e.node) (decide (m < T.clamp x.loc)) with ⟨hr, g1⟩ | ⟨hr, g1, g2⟩ | ⟨hr, g1, g2⟩
  all_goals
    have HR := Lib.hid hr
    clear hr
    go_enter Tryd.func67, Tryd.ntmps67
    go_wp2
    refine wp_region_calm (by kernel_rfl) (by kernel_rfl) ?_
    repeat ((fail_if_success (with_reducible refine wpQuiet_nil ?_)); (first | go_big_quiet_skip | go_big_quiet_step ((go_at_call 58; exact calm_same (clamp_c _ _)))))
    refine wpQuiet_nil ?_
    rintro _ ⟨⟨w5, hb5⟩, rfl⟩
    go_wp2
    go_ret
    exact ⟨ret_bool HR.out.symm, bthen HB.out hb5⟩
def T.clockE (c : Config) (e : Event) (xs : List Event) : Bool :=
  ((match xs.getLast? with | some y => decide (T.clamp e.real < T.clamp y.real) | none => false) || decide (T.clamp c.skew < max (T.clamp e.real - T.clamp e.loc) (T.clamp e.loc - T.clamp e.real))) || xs.any (T.pClock e (T.clamp e.loc))
set_option maxRecDepth 100000 in
set_option maxHeartbeats 4000000 in
theorem clock_c (v : Value) (xs : List Event) (c : Config) (e : Event) (w : World) (h : Sl Event.arr 18 w.heap.size w v xs) :
    Calls Tryd.prog 40 #[v, .agg (Config.arr c), .agg (Event.arr e)] w fun r w' => r = .returned (.bool (T.clockE c e xs)) ∧ Below w.heap.size w w' := by
  obtain ⟨A, cap, rfl, hcap, hl1, hl2⟩ := h.view
  have h1 : rowAt ((w.alloc (Obj.cells (Config.arr c) 24)).alloc (Obj.cells (Event.arr e) 55)) (w.heap.size + 1) 0 18 = some (Event.arr e) := rowAt_new _ _ _ _ _ (by simp)
  have h0 : rowAt ((w.alloc (Obj.cells (Config.arr c) 24)).alloc (Obj.cells (Event.arr e) 55)) w.heap.size 0 14 = some (Config.arr c) := by rw [rowAt_alloc_old _ _ _ _ _ (by simp)]; exact rowAt_new _ _ _ _ _ rfl
  obtain ⟨W, hW⟩ : ∃ W, W = (w.alloc (Obj.cells (Config.arr c) 24)).alloc (Obj.cells (Event.arr e) 55) := ⟨_, rfl⟩
  have hsz : W.heap.size = w.heap.size + 1 + 1 := by rw [hW]; simp
  have hB : Below w.heap.size w W := by rw [hW]; exact ((Below.refl _ w).alloc (Nat.le_refl _) _).alloc (by simp) _
  rw [← hW] at h0 h1
  obtain ⟨_, e1, _, e3, _⟩ := Event.cells h1
  simp only [Nat.zero_add] at e1 e3
  have hA := (box_facts (heap_alloc_new W (Obj.cells #[Value.int .i64 (T.clamp e.loc)] 3))).1
  rw [hsz] at hA
  have HA := Lib.hid hA
  have HW := Lib.hid hW
  clear hW hA
  go_enter Tryd.func40, Tryd.ntmps40
  go_wp2
  rw [← HW.out]
  refine wp_mono (Q := fun x a' w' => x = .normal ∧ a' = ⟨#[Value.slice A xs.length cap, Value.agg (Config.arr c), Value.agg (Event.arr e), undef, Value.pointer (some ⟨w.heap.size, 0, none⟩), Value.pointer (some ⟨w.heap.size + 1, 0, none⟩), Value.bool false, Value.int IntKind.i64 (T.clamp e.real), Value.pointer (some ⟨w.heap.size + 1 + 1, 0, none⟩), Value.pointer (some ⟨w.heap.size + 1, 1, none⟩), Value.int IntKind.i64 e.real, Value.int IntKind.i64 (T.clamp e.real), Value.pointer (some ⟨w.heap.size + 1, 3, none⟩), Value.int IntKind.i64 e.loc, Value.int IntKind.i64 (T.clamp e.loc), undef, undef, undef, undef, undef, undef, undef, undef, undef, undef, undef, undef, undef, undef, undef, undef, undef, undef, undef, undef, undef, undef, undef, undef, undef, undef, undef, undef, undef, undef, undef], []⟩ ∧ Below W.heap.size W w' ∧ w'.cell? ⟨w.heap.size + 1 + 1, 0, none⟩ = some (.int .i64 (T.clamp e.loc)) ∧ w.heap.size + 1 + 1 < w'.heap.size) ?_ ?_
  · go_region_held3 (fun w' => w'.cell? ⟨w.heap.size + 1, 1, none⟩ = some (.int .i64 e.real) ∧ w'.cell? ⟨w.heap.size + 1, 3, none⟩ = some (.int .i64 e.loc)) (go_keep) ((go_at_call 58; (with_reducible refine (clamp_c _ _).mono ?_); rintro r w' ⟨rfl, rfl⟩))
    all_goals exact ⟨rfl, rfl, ((Below.refl _ W).alloc (Nat.le_refl _) _).drew, HA.out, by show _ < (W.alloc _).heap.size; rw [World.size_alloc]; omega⟩
  · rintro _ _ w2 ⟨rfl, rfl, hB2, c2, l2⟩
    have hBw := bthen hB hB2
    have f0 := (rowAt_block (hB2.block w.heap.size (by omega))).trans h0
    have f1 := (rowAt_block (hB2.block (w.heap.size + 1) (by omega))).trans h1
    have k1 : w2.cell? ⟨w.heap.size, 1, none⟩ = some (.int .i64 c.skew) := by have := rowAt_cell f0 1 (by omega); simpa [Config.at1] using this
    have hS2 := (h.below hBw).mono hBw.size
    have q0 : w.heap.size < w2.heap.size := by omega
    have q1 : w.heap.size + 1 < w2.heap.size := by omega
    have b1 := T.clamp_bd e.real
    have b2 := T.clamp_bd e.loc
    have s1 : IntKind.i64.wrap (T.clamp e.real - T.clamp e.loc) = T.clamp e.real - T.clamp e.loc := IntWalk.i64_in _ (by omega)
    have s2 : IntKind.i64.wrap (T.clamp e.loc - T.clamp e.real) = T.clamp e.loc - T.clamp e.real := IntWalk.i64_in _ (by omega)
    have HANY := fun W' (hb : Below w2.heap.size w2 W') => containsAhead_c W'.heap.size 67 (enters_of Tryd.func67 (by kernel_rfl) rfl) [.pointer (some ⟨w.heap.size + 1, 0, none⟩), .pointer (some ⟨w.heap.size + 1 + 1, 0, none⟩)] (T.pClock e (T.clamp e.loc)) (.slice A xs.length cap) xs W' (Nat.le_refl _) ((hS2.below hb).mono hb.size)
      (fun x _ W'' hW'' => clockF_c e x (T.clamp e.loc) _ _ W'' ((rowAt_block (hW''.block _ (by have := hb.size; omega))).trans ((rowAt_block (hb.block _ (by omega))).trans f1)) ((hW''.cell (p := ⟨w.heap.size + 1 + 1, 0, none⟩) (show w.heap.size + 1 + 1 < _ by have := hb.size; omega)).trans ((hb.cell (p := ⟨w.heap.size + 1 + 1, 0, none⟩) l2).trans c2)))
    by_cases hl0 : xs.length = 0
    · have hxs : xs = [] := List.eq_nil_of_length_eq_zero hl0
      have HR0 : T.clockE c e xs = (decide (T.clamp c.skew < max (T.clamp e.real - T.clamp e.loc) (T.clamp e.loc - T.clamp e.real)) || xs.any (T.pClock e (T.clamp e.loc))) := by rw [hxs]; rfl
      have hpos : decide ((0 : Int) < xs.length) = false := by simp; omega
      have hpos' : decide (0 < xs.length) = false := by simp; omega
      have HL := Lib.hid hl0
      clear hl0 hxs
      by_cases hm : T.clamp e.loc - T.clamp e.real ≤ T.clamp e.real - T.clamp e.loc
      · have hM : max (T.clamp e.real - T.clamp e.loc) (T.clamp e.loc - T.clamp e.real) = T.clamp e.real - T.clamp e.loc := by omega
        rw [hM] at HR0
        rcases g2 : decide (T.clamp c.skew < T.clamp e.real - T.clamp e.loc) with _ | _
        · have HR := Lib.hid (show T.clockE c e xs = xs.any (T.pClock e (T.clamp e.loc)) by rw [HR0, g2]; rfl)
          clear HR0 hM f0 f1 h0 h1
          go_wp2
          refine wp_region_calm (by kernel_rfl) (by kernel_rfl) ?_
          repeat ((fail_if_success (with_reducible refine wpQuiet_nil ?_)); (first | go_big_quiet_skip | go_big_quiet_step ((go_at_call 58; exact calm_same (clamp_c _ _)))))
          refine wpQuiet_nil ?_
          rintro _ ⟨⟨w5, hb5⟩, rfl⟩
          have ha := HANY _ hb5
          clear HANY
          go_wp2_with (go_at_call 66; (with_reducible refine ha.mono ?_); rintro r w6 ⟨rfl, hb6⟩)
          go_ret
          exact ⟨ret_bool HR.out.symm, bthen hBw (bthen hb5 hb6)⟩
        · have HR := Lib.hid (show T.clockE c e xs = true by rw [HR0, g2]; rfl)
          clear HR0 hM f0 f1 h0 h1
          go_wp2
          refine wp_region_calm (by kernel_rfl) (by kernel_rfl) ?_
          repeat ((fail_if_success (with_reducible refine wpQuiet_nil ?_)); (first | go_big_quiet_skip | go_big_quiet_step ((go_at_call 58; exact calm_same (clamp_c _ _)))))
          refine wpQuiet_nil ?_
          rintro _ ⟨⟨w5, hb5⟩, rfl⟩
          go_wp2
          go_ret
          exact ⟨ret_bool HR.out.symm, bthen hBw hb5⟩
      · have hM : max (T.clamp e.real - T.clamp e.loc) (T.clamp e.loc - T.clamp e.real) = T.clamp e.loc - T.clamp e.real := by omega
        rw [hM] at HR0
        rcases g2 : decide (T.clamp c.skew < T.clamp e.loc - T.clamp e.real) with _ | _
        · have HR := Lib.hid (show T.clockE c e xs = xs.any (T.pClock e (T.clamp e.loc)) by rw [HR0, g2]; rfl)
          clear HR0 hM f0 f1 h0 h1
          go_wp2
          refine wp_region_calm (by kernel_rfl) (by kernel_rfl) ?_
          repeat ((fail_if_success (with_reducible refine wpQuiet_nil ?_)); (first | go_big_quiet_skip | go_big_quiet_step ((go_at_call 58; exact calm_same (clamp_c _ _)))))
          refine wpQuiet_nil ?_
          rintro _ ⟨⟨w5, hb5⟩, rfl⟩
          have ha := HANY _ hb5
          clear HANY
          go_wp2_with (go_at_call 66; (with_reducible refine ha.mono ?_); rintro r w6 ⟨rfl, hb6⟩)
          go_ret
          exact ⟨ret_bool HR.out.symm, bthen hBw (bthen hb5 hb6)⟩
        · have HR := Lib.hid (show T.clockE c e xs = true by rw [HR0, g2]; rfl)
          clear HR0 hM f0 f1 h0 h1
          go_wp2
          refine wp_region_calm (by kernel_rfl) (by kernel_rfl) ?_
          repeat ((fail_if_success (with_reducible refine wpQuiet_nil ?_)); (first | go_big_quiet_skip | go_big_quiet_step ((go_at_call 58; exact calm_same (clamp_c _ _)))))
          refine wpQuiet_nil ?_
          rintro _ ⟨⟨w5, hb5⟩, rfl⟩
          go_wp2
          go_ret
          exact ⟨ret_bool HR.out.symm, bthen hBw hb5⟩
    · obtain ⟨j, hj⟩ : ∃ j, j = xs.length - 1 := ⟨_, rfl⟩
      have hjl : j < xs.length := by omega
      have hji : (j : Int) < xs.length := by omega
      have hpos : decide ((0 : Int) < xs.length) = true := by simp; omega
      have hpos' : decide (0 < xs.length) = true := by simp; omega
      have s3 : IntKind.i64.wrap ((xs.length : Int) - 1) = (j : Int) := by rw [IntWalk.i64_in _ (by omega)]; omega
      have s4 : (xs.length : Int) - 1 = (j : Int) := by omega
      obtain ⟨b, off, rfl, hb, hrow, _⟩ := hS2.at hjl
      obtain ⟨y, hy⟩ : ∃ y, y = xs[j] := ⟨_, rfl⟩
      rw [← hy] at hrow
      have hlast : xs.getLast? = some y := by rw [List.getLast?_eq_getElem?, hy, ← hj]; exact List.getElem?_eq_getElem hjl
      obtain ⟨_, y1, _⟩ := Event.cells hrow
      rcases g1 : decide (T.clamp e.real < T.clamp y.real) with _ | _
      · have HR0 : T.clockE c e xs = (decide (T.clamp c.skew < max (T.clamp e.real - T.clamp e.loc) (T.clamp e.loc - T.clamp e.real)) || xs.any (T.pClock e (T.clamp e.loc))) := by unfold T.clockE; rw [hlast]; simp only [g1, Bool.false_or]
        clear hj hl0 hlast hy hrow
        by_cases hm : T.clamp e.loc - T.clamp e.real ≤ T.clamp e.real - T.clamp e.loc
        · have hM : max (T.clamp e.real - T.clamp e.loc) (T.clamp e.loc - T.clamp e.real) = T.clamp e.real - T.clamp e.loc := by omega
          rw [hM] at HR0
          rcases g2 : decide (T.clamp c.skew < T.clamp e.real - T.clamp e.loc) with _ | _
          · have HR := Lib.hid (show T.clockE c e xs = xs.any (T.pClock e (T.clamp e.loc)) by rw [HR0, g2]; rfl)
            clear HR0 hM f0 f1 h0 h1
            go_wp2
            refine wp_region_calm (by kernel_rfl) (by kernel_rfl) ?_
            repeat ((fail_if_success (with_reducible refine wpQuiet_nil ?_)); (first | go_big_quiet_skip | go_big_quiet_step ((go_at_call 58; exact calm_same (clamp_c _ _)))))
            refine wpQuiet_nil ?_
            rintro _ ⟨⟨w5, hb5⟩, rfl⟩
            have ha := HANY _ hb5
            clear HANY
            go_wp2_with (go_at_call 66; (with_reducible refine ha.mono ?_); rintro r w6 ⟨rfl, hb6⟩)
            go_ret
            exact ⟨ret_bool HR.out.symm, bthen hBw (bthen hb5 hb6)⟩
          · have HR := Lib.hid (show T.clockE c e xs = true by rw [HR0, g2]; rfl)
            clear HR0 hM f0 f1 h0 h1
            go_wp2
            refine wp_region_calm (by kernel_rfl) (by kernel_rfl) ?_
            repeat ((fail_if_success (with_reducible refine wpQuiet_nil ?_)); (first | go_big_quiet_skip | go_big_quiet_step ((go_at_call 58; exact calm_same (clamp_c _ _)))))
            refine wpQuiet_nil ?_
            rintro _ ⟨⟨w5, hb5⟩, rfl⟩
            go_wp2
            go_ret
            exact ⟨ret_bool HR.out.symm, bthen hBw hb5⟩
        · have hM : max (T.clamp e.real - T.clamp e.loc) (T.clamp e.loc - T.clamp e.real) = T.clamp e.loc - T.clamp e.real := by omega
          rw [hM] at HR0
          rcases g2 : decide (T.clamp c.skew < T.clamp e.loc - T.clamp e.real) with _ | _
          · have HR := Lib.hid (show T.clockE c e xs = xs.any (T.pClock e (T.clamp e.loc)) by rw [HR0, g2]; rfl)
            clear HR0 hM f0 f1 h0 h1
            go_wp2
            refine wp_region_calm (by kernel_rfl) (by kernel_rfl) ?_
            repeat ((fail_if_success (with_reducible refine wpQuiet_nil ?_)); (first | go_big_quiet_skip | go_big_quiet_step ((go_at_call 58; exact calm_same (clamp_c _ _)))))
            refine wpQuiet_nil ?_
            rintro _ ⟨⟨w5, hb5⟩, rfl⟩
            have ha := HANY _ hb5
            clear HANY
            go_wp2_with (go_at_call 66; (with_reducible refine ha.mono ?_); rintro r w6 ⟨rfl, hb6⟩)
            go_ret
            exact ⟨ret_bool HR.out.symm, bthen hBw (bthen hb5 hb6)⟩
          · have HR := Lib.hid (show T.clockE c e xs = true by rw [HR0, g2]; rfl)
            clear HR0 hM f0 f1 h0 h1
            go_wp2
            refine wp_region_calm (by kernel_rfl) (by kernel_rfl) ?_
            repeat ((fail_if_success (with_reducible refine wpQuiet_nil ?_)); (first | go_big_quiet_skip | go_big_quiet_step ((go_at_call 58; exact calm_same (clamp_c _ _)))))
            refine wpQuiet_nil ?_
            rintro _ ⟨⟨w5, hb5⟩, rfl⟩
            go_wp2
            go_ret
            exact ⟨ret_bool HR.out.symm, bthen hBw hb5⟩
      · have HR := Lib.hid (show T.clockE c e xs = true by unfold T.clockE; rw [hlast]; simp only [g1, Bool.true_or])
        clear hj hl0 hlast hy hrow f0 f1 h0 h1
        go_wp2
        refine wp_region_calm (by kernel_rfl) (by kernel_rfl) ?_
        repeat ((fail_if_success (with_reducible refine wpQuiet_nil ?_)); (first | go_big_quiet_skip | go_big_quiet_step ((go_at_call 58; exact calm_same (clamp_c _ _)))))
        refine wpQuiet_nil ?_
        rintro _ ⟨⟨w5, hb5⟩, rfl⟩
        go_wp2
        go_ret
        exact ⟨ret_bool HR.out.symm, bthen hBw hb5⟩
end Go.Proofs.YtofifeicbhbgpaaDoor
