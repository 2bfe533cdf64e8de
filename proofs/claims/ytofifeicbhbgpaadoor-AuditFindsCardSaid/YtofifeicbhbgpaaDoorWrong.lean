/- audit: wrong. -/
import Derived.Test.YtofifeicbhbgpaaDoorSoon
import Derived.Test.YtofifeicbhbgpaaDoorEnded
import Derived.Test.YtofifeicbhbgpaaDoorClock
namespace Go.Proofs.YtofifeicbhbgpaaDoor
open Go.RowKit Go.Shelf
set_option linter.unusedVariables false
set_option linter.unusedSimpArgs false
attribute [local go_sem] Event.sz Config.sz
theorem soon_c (v : Value) (xs : List Event) (c : Config) (e : Event) (w : World) (h : Sl Event.arr 18 w.heap.size w v xs) :
    Calls Tryd.prog 38 #[v, .agg (Config.arr c), .int .i64 12, .agg (Event.arr e)] w fun r w' => r = .returned (.bool (T.soon e xs)) ∧ Below w.heap.size w w' :=
  (callsIn_wide (n := 3)).1 (soon_in 3 (by omega) v xs c e w h)
/-- What one event is found to be, of a kind, behind those ahead. -/
def T.wrong (c : Config) (xs : List Event) (k : Int) (e : Event) : Bool :=
  if k = 1 then (e.kind == 3) && T.lost e xs
  else if k = 2 then (e.kind == 2) && T.stray e xs
  else if k = 3 then (e.kind == 3) && T.twice e xs
  else if k = 4 then ((e.kind == 3) || (e.kind == 4)) && T.lateE c e xs
  else if k = 5 then (e.kind == 2) && T.many c e xs
  else if k = 6 then (e.kind == 7) && T.over e xs
  else if k = 7 then (e.kind == 7) && T.early e xs
  else if k = 8 then (e.kind == 7) && T.unasked e xs
  else if k = 9 then (e.kind == 7) && T.empty e xs
  else if k = 10 then T.clockE c e xs
  else if k = 11 then decide (e.hop < 0) || decide (c.hops < e.hop)
  else (e.kind == 2) && T.soon e xs
theorem boxes0 (c : Config) (e : Event) (w : World) : ∃ W, W = ((w.alloc (Obj.cells (Config.arr c) 24)).alloc (Obj.cells (Event.arr e) 55)) ∧ W.heap.size = w.heap.size + 1 + 1 ∧ Below w.heap.size w W ∧
    rowAt W w.heap.size 0 14 = some (Config.arr c) ∧ rowAt W (w.heap.size + 1) 0 18 = some (Event.arr e) := by
  have h1 : rowAt ((w.alloc (Obj.cells (Config.arr c) 24)).alloc (Obj.cells (Event.arr e) 55)) (w.heap.size + 1) 0 18 = some (Event.arr e) := rowAt_new _ _ _ _ _ (by simp)
  have h0 : rowAt ((w.alloc (Obj.cells (Config.arr c) 24)).alloc (Obj.cells (Event.arr e) 55)) w.heap.size 0 14 = some (Config.arr c) := by rw [rowAt_alloc_old _ _ _ _ _ (by simp)]; exact rowAt_new _ _ _ _ _ rfl
  exact ⟨_, rfl, by simp, ((Below.refl _ w).alloc (Nat.le_refl _) _).alloc (by simp) _, h0, h1⟩
abbrev WrongC (k : Int) : Prop := ∀ (v : Value) (xs : List Event) (c : Config) (e : Event) (_ : e.hop ≤ 9223372036854775807) (_ : xs.length ≤ 100000) (w : World) (_ : Sl Event.arr 18 w.heap.size w v xs),
    Calls Tryd.prog 24 #[v, .agg (Config.arr c), .int .i64 k, .agg (Event.arr e)] w fun r w' => r = .returned (.bool (T.wrong c xs k e)) ∧ Below w.heap.size w w'
set_option maxRecDepth 100000 in
set_option maxHeartbeats 2000000 in
theorem wrong_1 : WrongC 1 := by
  intro v xs c e hh hn w h
  obtain ⟨A, cap, rfl, hcap, hl1, hl2⟩ := h.view
  obtain ⟨W, hW, hsz, hB, rC, rE⟩ := boxes0 c e w
  have hcall := lost_c _ xs c e W ((h.below hB).mono hB.size)
  obtain ⟨e0, _⟩ := Event.cells rE
  subst hW
  rcases g : (e.kind == 3) with _ | _
  · have HR := Lib.hid (show T.wrong c xs 1 e = false by simp [T.wrong, g])
    go_enter Tryd.func24, Tryd.ntmps24
    go_wp2
    go_ret
    exact ⟨ret_bool HR.out.symm, hB⟩
  · have HR := Lib.hid (show T.wrong c xs 1 e = T.lost e xs by simp [T.wrong, g])
    go_enter Tryd.func24, Tryd.ntmps24
    go_wp2_with (first | (refine wpList_load_at_v 24 _ rfl rfl _ (0) 14 rfl _ _ rC rfl rfl rfl ?_) | (refine wpList_load_at_v 55 _ rfl rfl _ (0) 18 rfl _ _ rE rfl rfl rfl ?_) | (go_at_call 37; (with_reducible refine hcall.mono ?_); rintro r w4 ⟨rfl, hb4⟩))
    go_ret
    exact ⟨ret_bool HR.out.symm, bthen hB hb4⟩
set_option maxRecDepth 100000 in
set_option maxHeartbeats 2000000 in
theorem wrong_2 : WrongC 2 := by
  intro v xs c e hh hn w h
  obtain ⟨A, cap, rfl, hcap, hl1, hl2⟩ := h.view
  obtain ⟨W, hW, hsz, hB, rC, rE⟩ := boxes0 c e w
  have hcall := stray_c _ xs c e hh W ((h.below hB).mono hB.size)
  obtain ⟨e0, _⟩ := Event.cells rE
  subst hW
  rcases g : (e.kind == 2) with _ | _
  · have HR := Lib.hid (show T.wrong c xs 2 e = false by simp [T.wrong, g])
    go_enter Tryd.func24, Tryd.ntmps24
    go_wp2
    go_ret
    exact ⟨ret_bool HR.out.symm, hB⟩
  · have HR := Lib.hid (show T.wrong c xs 2 e = T.stray e xs by simp [T.wrong, g])
    go_enter Tryd.func24, Tryd.ntmps24
    go_wp2_with (first | (refine wpList_load_at_v 24 _ rfl rfl _ (0) 14 rfl _ _ rC rfl rfl rfl ?_) | (refine wpList_load_at_v 55 _ rfl rfl _ (0) 18 rfl _ _ rE rfl rfl rfl ?_) | (go_at_call 38; (with_reducible refine hcall.mono ?_); rintro r w4 ⟨rfl, hb4⟩))
    go_ret
    exact ⟨ret_bool HR.out.symm, bthen hB hb4⟩
set_option maxRecDepth 100000 in
set_option maxHeartbeats 2000000 in
theorem wrong_3 : WrongC 3 := by
  intro v xs c e hh hn w h
  obtain ⟨A, cap, rfl, hcap, hl1, hl2⟩ := h.view
  obtain ⟨W, hW, hsz, hB, rC, rE⟩ := boxes0 c e w
  have hcall := twice_c _ xs c e W ((h.below hB).mono hB.size)
  obtain ⟨e0, _⟩ := Event.cells rE
  subst hW
  rcases g : (e.kind == 3) with _ | _
  · have HR := Lib.hid (show T.wrong c xs 3 e = false by simp [T.wrong, g])
    go_enter Tryd.func24, Tryd.ntmps24
    go_wp2
    go_ret
    exact ⟨ret_bool HR.out.symm, hB⟩
  · have HR := Lib.hid (show T.wrong c xs 3 e = T.twice e xs by simp [T.wrong, g])
    go_enter Tryd.func24, Tryd.ntmps24
    go_wp2_with (first | (refine wpList_load_at_v 24 _ rfl rfl _ (0) 14 rfl _ _ rC rfl rfl rfl ?_) | (refine wpList_load_at_v 55 _ rfl rfl _ (0) 18 rfl _ _ rE rfl rfl rfl ?_) | (go_at_call 37; (with_reducible refine hcall.mono ?_); rintro r w4 ⟨rfl, hb4⟩))
    go_ret
    exact ⟨ret_bool HR.out.symm, bthen hB hb4⟩
set_option maxRecDepth 100000 in
set_option maxHeartbeats 2000000 in
theorem wrong_5 : WrongC 5 := by
  intro v xs c e hh hn w h
  obtain ⟨A, cap, rfl, hcap, hl1, hl2⟩ := h.view
  obtain ⟨W, hW, hsz, hB, rC, rE⟩ := boxes0 c e w
  have hcall := many_c _ xs c e hn W ((h.below hB).mono hB.size)
  obtain ⟨e0, _⟩ := Event.cells rE
  subst hW
  rcases g : (e.kind == 2) with _ | _
  · have HR := Lib.hid (show T.wrong c xs 5 e = false by simp [T.wrong, g])
    go_enter Tryd.func24, Tryd.ntmps24
    go_wp2
    go_ret
    exact ⟨ret_bool HR.out.symm, hB⟩
  · have HR := Lib.hid (show T.wrong c xs 5 e = T.many c e xs by simp [T.wrong, g])
    go_enter Tryd.func24, Tryd.ntmps24
    go_wp2_with (first | (refine wpList_load_at_v 24 _ rfl rfl _ (0) 14 rfl _ _ rC rfl rfl rfl ?_) | (refine wpList_load_at_v 55 _ rfl rfl _ (0) 18 rfl _ _ rE rfl rfl rfl ?_) | (go_at_call 38; (with_reducible refine hcall.mono ?_); rintro r w4 ⟨rfl, hb4⟩))
    go_ret
    exact ⟨ret_bool HR.out.symm, bthen hB hb4⟩
set_option maxRecDepth 100000 in
set_option maxHeartbeats 2000000 in
theorem wrong_6 : WrongC 6 := by
  intro v xs c e hh hn w h
  obtain ⟨A, cap, rfl, hcap, hl1, hl2⟩ := h.view
  obtain ⟨W, hW, hsz, hB, rC, rE⟩ := boxes0 c e w
  have hcall := over_c32 _ xs e W ((h.below hB).mono hB.size)
  obtain ⟨e0, _⟩ := Event.cells rE
  subst hW
  rcases g : (e.kind == 7) with _ | _
  · have HR := Lib.hid (show T.wrong c xs 6 e = false by simp [T.wrong, g])
    go_enter Tryd.func24, Tryd.ntmps24
    go_wp2
    go_ret
    exact ⟨ret_bool HR.out.symm, hB⟩
  · have HR := Lib.hid (show T.wrong c xs 6 e = T.over e xs by simp [T.wrong, g])
    go_enter Tryd.func24, Tryd.ntmps24
    go_wp2_with (first | (refine wpList_load_at_v 24 _ rfl rfl _ (0) 14 rfl _ _ rC rfl rfl rfl ?_) | (refine wpList_load_at_v 55 _ rfl rfl _ (0) 18 rfl _ _ rE rfl rfl rfl ?_) | (go_at_call 39; (with_reducible refine hcall.mono ?_); rintro r w4 ⟨rfl, hb4⟩))
    go_ret
    exact ⟨ret_bool HR.out.symm, bthen hB hb4⟩
set_option maxRecDepth 100000 in
set_option maxHeartbeats 2000000 in
theorem wrong_7 : WrongC 7 := by
  intro v xs c e hh hn w h
  obtain ⟨A, cap, rfl, hcap, hl1, hl2⟩ := h.view
  obtain ⟨W, hW, hsz, hB, rC, rE⟩ := boxes0 c e w
  have hcall := early_c _ xs e W ((h.below hB).mono hB.size)
  obtain ⟨e0, _⟩ := Event.cells rE
  subst hW
  rcases g : (e.kind == 7) with _ | _
  · have HR := Lib.hid (show T.wrong c xs 7 e = false by simp [T.wrong, g])
    go_enter Tryd.func24, Tryd.ntmps24
    go_wp2
    go_ret
    exact ⟨ret_bool HR.out.symm, hB⟩
  · have HR := Lib.hid (show T.wrong c xs 7 e = T.early e xs by simp [T.wrong, g])
    go_enter Tryd.func24, Tryd.ntmps24
    go_wp2_with (first | (refine wpList_load_at_v 24 _ rfl rfl _ (0) 14 rfl _ _ rC rfl rfl rfl ?_) | (refine wpList_load_at_v 55 _ rfl rfl _ (0) 18 rfl _ _ rE rfl rfl rfl ?_) | (go_at_call 39; (with_reducible refine hcall.mono ?_); rintro r w4 ⟨rfl, hb4⟩))
    go_ret
    exact ⟨ret_bool HR.out.symm, bthen hB hb4⟩
set_option maxRecDepth 100000 in
set_option maxHeartbeats 2000000 in
theorem wrong_8 : WrongC 8 := by
  intro v xs c e hh hn w h
  obtain ⟨A, cap, rfl, hcap, hl1, hl2⟩ := h.view
  obtain ⟨W, hW, hsz, hB, rC, rE⟩ := boxes0 c e w
  have hcall := unasked_c _ xs e W ((h.below hB).mono hB.size)
  obtain ⟨e0, _⟩ := Event.cells rE
  subst hW
  rcases g : (e.kind == 7) with _ | _
  · have HR := Lib.hid (show T.wrong c xs 8 e = false by simp [T.wrong, g])
    go_enter Tryd.func24, Tryd.ntmps24
    go_wp2
    go_ret
    exact ⟨ret_bool HR.out.symm, hB⟩
  · have HR := Lib.hid (show T.wrong c xs 8 e = T.unasked e xs by simp [T.wrong, g])
    go_enter Tryd.func24, Tryd.ntmps24
    go_wp2_with (first | (refine wpList_load_at_v 24 _ rfl rfl _ (0) 14 rfl _ _ rC rfl rfl rfl ?_) | (refine wpList_load_at_v 55 _ rfl rfl _ (0) 18 rfl _ _ rE rfl rfl rfl ?_) | (go_at_call 39; (with_reducible refine hcall.mono ?_); rintro r w4 ⟨rfl, hb4⟩))
    go_ret
    exact ⟨ret_bool HR.out.symm, bthen hB hb4⟩
set_option maxRecDepth 100000 in
set_option maxHeartbeats 2000000 in
theorem wrong_9 : WrongC 9 := by
  intro v xs c e hh hn w h
  obtain ⟨A, cap, rfl, hcap, hl1, hl2⟩ := h.view
  obtain ⟨W, hW, hsz, hB, rC, rE⟩ := boxes0 c e w
  have hcall := empty_c _ xs e W ((h.below hB).mono hB.size)
  obtain ⟨e0, _⟩ := Event.cells rE
  subst hW
  rcases g : (e.kind == 7) with _ | _
  · have HR := Lib.hid (show T.wrong c xs 9 e = false by simp [T.wrong, g])
    go_enter Tryd.func24, Tryd.ntmps24
    go_wp2
    go_ret
    exact ⟨ret_bool HR.out.symm, hB⟩
  · have HR := Lib.hid (show T.wrong c xs 9 e = T.empty e xs by simp [T.wrong, g])
    go_enter Tryd.func24, Tryd.ntmps24
    go_wp2_with (first | (refine wpList_load_at_v 24 _ rfl rfl _ (0) 14 rfl _ _ rC rfl rfl rfl ?_) | (refine wpList_load_at_v 55 _ rfl rfl _ (0) 18 rfl _ _ rE rfl rfl rfl ?_) | (go_at_call 39; (with_reducible refine hcall.mono ?_); rintro r w4 ⟨rfl, hb4⟩))
    go_ret
    exact ⟨ret_bool HR.out.symm, bthen hB hb4⟩
set_option maxRecDepth 100000 in
set_option maxHeartbeats 2000000 in
theorem wrong_12 : WrongC 12 := by
  intro v xs c e hh hn w h
  obtain ⟨A, cap, rfl, hcap, hl1, hl2⟩ := h.view
  obtain ⟨W, hW, hsz, hB, rC, rE⟩ := boxes0 c e w
  have hcall := soon_c _ xs c e W ((h.below hB).mono hB.size)
  obtain ⟨e0, _⟩ := Event.cells rE
  subst hW
  rcases g : (e.kind == 2) with _ | _
  · have HR := Lib.hid (show T.wrong c xs 12 e = false by simp [T.wrong, g])
    go_enter Tryd.func24, Tryd.ntmps24
    go_wp2
    go_ret
    exact ⟨ret_bool HR.out.symm, hB⟩
  · have HR := Lib.hid (show T.wrong c xs 12 e = T.soon e xs by simp [T.wrong, g])
    go_enter Tryd.func24, Tryd.ntmps24
    go_wp2_with (first | (refine wpList_load_at_v 24 _ rfl rfl _ (0) 14 rfl _ _ rC rfl rfl rfl ?_) | (refine wpList_load_at_v 55 _ rfl rfl _ (0) 18 rfl _ _ rE rfl rfl rfl ?_) | (go_at_call 38; (with_reducible refine hcall.mono ?_); rintro r w4 ⟨rfl, hb4⟩))
    go_ret
    exact ⟨ret_bool HR.out.symm, bthen hB hb4⟩
set_option maxRecDepth 100000 in
set_option maxHeartbeats 2000000 in
theorem wrong_4 : WrongC 4 := by
  intro v xs c e hh hn w h
  obtain ⟨A, cap, rfl, hcap, hl1, hl2⟩ := h.view
  obtain ⟨W, hW, hsz, hB, rC, rE⟩ := boxes0 c e w
  have hcall := late_c _ xs c e W ((h.below hB).mono hB.size)
  obtain ⟨e0, _⟩ := Event.cells rE
  subst hW
  rcases g : (e.kind == 3) with _ | _
  · rcases g4 : (e.kind == 4) with _ | _
    · have HR := Lib.hid (show T.wrong c xs 4 e = false by simp [T.wrong, g, g4])
      go_enter Tryd.func24, Tryd.ntmps24
      go_wp2
      go_ret
      exact ⟨ret_bool HR.out.symm, hB⟩
    · have HR := Lib.hid (show T.wrong c xs 4 e = T.lateE c e xs by simp [T.wrong, g, g4])
      go_enter Tryd.func24, Tryd.ntmps24
      go_wp2_with (first | (refine wpList_load_at_v 24 _ rfl rfl _ (0) 14 rfl _ _ rC rfl rfl rfl ?_) | (refine wpList_load_at_v 55 _ rfl rfl _ (0) 18 rfl _ _ rE rfl rfl rfl ?_) | (go_at_call 37; (with_reducible refine hcall.mono ?_); rintro r w4 ⟨rfl, hb4⟩))
      go_ret
      exact ⟨ret_bool HR.out.symm, bthen hB hb4⟩
  · have HR := Lib.hid (show T.wrong c xs 4 e = T.lateE c e xs by simp [T.wrong, g])
    go_enter Tryd.func24, Tryd.ntmps24
    go_wp2_with (first | (refine wpList_load_at_v 24 _ rfl rfl _ (0) 14 rfl _ _ rC rfl rfl rfl ?_) | (refine wpList_load_at_v 55 _ rfl rfl _ (0) 18 rfl _ _ rE rfl rfl rfl ?_) | (go_at_call 37; (with_reducible refine hcall.mono ?_); rintro r w4 ⟨rfl, hb4⟩))
    go_ret
    exact ⟨ret_bool HR.out.symm, bthen hB hb4⟩
set_option maxRecDepth 100000 in
set_option maxHeartbeats 2000000 in
theorem wrong_10 : WrongC 10 := by
  intro v xs c e hh hn w h
  obtain ⟨A, cap, rfl, hcap, hl1, hl2⟩ := h.view
  obtain ⟨W, hW, hsz, hB, rC, rE⟩ := boxes0 c e w
  have hcall := clock_c _ xs c e W ((h.below hB).mono hB.size)
  subst hW
  have HR := Lib.hid (show T.wrong c xs 10 e = T.clockE c e xs by simp [T.wrong])
  go_enter Tryd.func24, Tryd.ntmps24
  go_wp2_with (first | (refine wpList_load_at_v 24 _ rfl rfl _ (0) 14 rfl _ _ rC rfl rfl rfl ?_) | (refine wpList_load_at_v 55 _ rfl rfl _ (0) 18 rfl _ _ rE rfl rfl rfl ?_) | (go_at_call 40; (with_reducible refine hcall.mono ?_); rintro r w4 ⟨rfl, hb4⟩))
  go_ret
  exact ⟨ret_bool HR.out.symm, bthen hB hb4⟩
set_option maxRecDepth 100000 in
set_option maxHeartbeats 2000000 in
theorem wrong_11 : WrongC 11 := by
  intro v xs c e hh hn w h
  obtain ⟨A, cap, rfl, hcap, hl1, hl2⟩ := h.view
  obtain ⟨W, hW, hsz, hB, rC, rE⟩ := boxes0 c e w
  obtain ⟨_, _, _, _, e15, _⟩ := Event.cells rE
  have c5 : W.cell? ⟨w.heap.size, 5, none⟩ = some (.int .i64 c.hops) := by have := rowAt_cell rC 5 (by omega); simpa [Config.at5] using this
  simp only [Nat.zero_add] at e15
  subst hW
  rcases g : decide (e.hop < 0) with _ | _
  · have HR := Lib.hid (show T.wrong c xs 11 e = decide (c.hops < e.hop) by simp only [T.wrong, g]; simp)
    go_enter Tryd.func24, Tryd.ntmps24
    go_wp2
    go_ret
    exact ⟨ret_bool HR.out.symm, hB⟩
  · have HR := Lib.hid (show T.wrong c xs 11 e = true by simp only [T.wrong, g]; simp)
    go_enter Tryd.func24, Tryd.ntmps24
    go_wp2
    go_ret
    exact ⟨ret_bool HR.out.symm, hB⟩
theorem wrong_c (k : Int) (h1 : 1 ≤ k) (h2 : k ≤ 12) : WrongC k := by
  have h : k = 1 ∨ k = 2 ∨ k = 3 ∨ k = 4 ∨ k = 5 ∨ k = 6 ∨ k = 7 ∨ k = 8 ∨ k = 9 ∨ k = 10 ∨ k = 11 ∨ k = 12 := by omega
  rcases h with rfl | rfl | rfl | rfl | rfl | rfl | rfl | rfl | rfl | rfl | rfl | rfl
  · exact wrong_1
  · exact wrong_2
  · exact wrong_3
  · exact wrong_4
  · exact wrong_5
  · exact wrong_6
  · exact wrong_7
  · exact wrong_8
  · exact wrong_9
  · exact wrong_10
  · exact wrong_11
  · exact wrong_12
end Go.Proofs.YtofifeicbhbgpaaDoor
