/- AuditFinds: its walk. -/
import Derived.Test.YtofifeicbhbgpaaDoorAwake32
import Derived.Test.YtofifeicbhbgpaaDoorHeadP
import Derived.Test.YtofifeicbhbgpaaDoorChkP
import Derived.Test.YtofifeicbhbgpaaDoorText32R
import Derived.Test.YtofifeicbhbgpaaDoorRefG
import Derived.Test.YtofifeicbhbgpaaDoorRow
namespace Go.Proofs.YtofifeicbhbgpaaDoor
open Go.RowKit Go.Shelf
set_option linter.unusedVariables false
set_option linter.unusedSimpArgs false
attribute [local go_sem] Config.sz
set_option maxRecDepth 100000 in
set_option maxHeartbeats 4000000 in
theorem finds_w (c : Config) (v : Value) (l : List Event) (kd : Int) (w : World) (h : Sl Event.arr 18 w.heap.size w v l) (hok : ∀ e ∈ l, e.hop ≤ 9223372036854775807) :
    Calls Tryd.prog 3 #[.agg (Config.arr c), v, .int .i64 kd] w fun e w' => e = .returned (.bool true) ∧ Below w.heap.size w w' := by
  obtain ⟨A, cap, rfl, hcap, hl1, hl2⟩ := h.view
  obtain ⟨W0, hW0⟩ : ∃ W0, W0 = w.alloc (Obj.cells (Config.arr c) 24) := ⟨_, rfl⟩
  have hB0 : Below w.heap.size w W0 := by rw [hW0]; exact (Below.refl _ w).alloc (Nat.le_refl _) _
  have hs0 : W0.heap.size = w.heap.size + 1 := by rw [hW0]; simp
  have rC : rowAt W0 w.heap.size 0 14 = some (Config.arr c) := by rw [hW0]; exact rowAt_new _ _ _ _ _ rfl
  have HW := Lib.hid hW0
  clear hW0
  by_cases h40 : l.length ≤ 40
  · have hS0 := (h.below hB0).mono hB0.size
    have h1' : decide (40 < (l.length : Int)) = false := by simp; omega
    have HX := fun X (hX : Below W0.heap.size W0 X) => check_c (.slice A l.length cap) l c X ((hS0.below hX).mono hX.size) (by omega) hok
    have HY := fun X (hX : Below W0.heap.size W0 X) => refCheck_c (.slice A l.length cap) l c X ((hS0.below hX).mono hX.size) (by omega) hok
    have hlow := T.chk_low c l l.length
    have hcl := T.chk_len c l l.length
    obtain ⟨xs, hxs⟩ : ∃ xs, xs = T.chk c l l.length := ⟨_, rfl⟩
    rw [← hxs] at HX HY hlow hcl
    have hat : ∀ f ∈ xs, 0 ≤ f.at_ ∧ f.at_ < 100 := fun f hf => ⟨(hlow f hf).1, by have := (hlow f hf).2; omega⟩
    have HAT := Lib.hid hat
    have hxl : xs.length ≤ 480 := by omega
    clear hxs hlow hcl hat hok
    go_enter Tryd.func3, Tryd.ntmps3
    go_wp2
    rw [← HW.out]
    refine wp_region_P 7 [2, 5, 6, 7] [0, 3, 1, 4, 2, 5, 6, 7] (fun X => Below W0.heap.size W0 X) (by kernel_rfl) (by kernel_rfl) (by kernel_rfl) (by decide) (by simp only [ordOps, List.map_cons, List.map_nil, List.getElem?_cons_succ, List.getElem?_cons_zero, Option.getD_some]; repeat (first | exact trivial | refine ⟨.inl rfl, ?_⟩ | refine ⟨.inr fun _ _ _ _ h => h, ?_⟩)) ?_ ?_
    rotate_left; simp only [ordOps, List.map_cons, List.map_nil, List.getElem?_cons_succ, List.getElem?_cons_zero, Option.getD_some]; rotate_left
    · exact (Below.refl _ W0).drew
    refine wpP_q (by rfl) (by rfl) (.agg (Config.arr c)) ?_ ?_
    · intro X hX
      exact yields_load_at 24 _ rfl w.heap.size 0 14 rfl (Config.arr c) _ Tryd.underlying24 rfl (by kernel_rfl) ((rowAt_block (hX.block w.heap.size (by omega))).trans rC)
    simp only [Act.put, List.setIfInBounds_toArray, List.set_cons_succ, List.set_cons_zero]
    refine wpP_q (by rfl) (by rfl) (.agg (Config.arr c)) ?_ ?_
    · intro X hX
      exact yields_load_at 24 _ rfl w.heap.size 0 14 rfl (Config.arr c) _ Tryd.underlying24 rfl (by kernel_rfl) ((rowAt_block (hX.block w.heap.size (by omega))).trans rC)
    simp only [Act.put, List.setIfInBounds_toArray, List.set_cons_succ, List.set_cons_zero]
    repeat ((first | (refine wpP_q (by rfl) (by rfl) ?_ ?_ ?_; rotate_left; focus (rintro W hX; go_simp; try (with_reducible rfl); done)) | refine wpP_skip (by rfl) (by rfl) ?_); try simp only [Act.put, List.setIfInBounds_toArray, List.set_cons_succ, List.set_cons_zero])
    refine wpP_a (by rfl) (by rfl) fun K hK => ?_
    go_simp
    refine (HX _ (Below.refl _ W0).drew).mono ?_
    rintro r w3 ⟨ux, rfl, hox, hb3⟩
    have hB3 : Below W0.heap.size W0 w3 := (Below.refl _ W0).drew.trans hb3
    refine hK _ _ (fun _ => hB3) ?_; clear hK K; try simp only [Act.put, List.setIfInBounds_toArray, List.set_cons_succ, List.set_cons_zero]
    refine wpP_a (by rfl) (by rfl) fun K hK => ?_
    go_simp
    refine (HY _ hB3).mono ?_
    rintro r w4 ⟨uy, rfl, hoy, hb4⟩
    have hB4 : Below W0.heap.size W0 w4 := bthen hB3 hb4
    have hSx := (hox.below hb4).sl Find.sz
    have hSy := hoy.sl Find.sz
    refine hK _ _ (fun _ => hB4) ?_; clear hK K; try simp only [Act.put, List.setIfInBounds_toArray, List.set_cons_succ, List.set_cons_zero]
    refine wpP_a (by rfl) (by rfl) fun K hK => ?_
    go_simp
    refine hK _ _ (fun _ => hB4) ?_; clear hK K; try simp only [Act.put, List.setIfInBounds_toArray, List.set_cons_succ, List.set_cons_zero]
    refine wpP_a (by rfl) (by rfl) fun K hK => ?_
    go_simp
    refine hK _ _ (fun h => absurd h (by omega)) ?_; clear hK K; try simp only [Act.put, List.setIfInBounds_toArray, List.set_cons_succ, List.set_cons_zero]
    refine wpP_nil ?_
    clear HX HY hox hoy rC hS0 h hb3 hb4 hB3
    have hBw := bthen hB0 hB4
    have K1 := same_c ux uy xs w4 hSx hSy
    have K2 := Lib.hid (fun X (hX : Below w4.heap.size w4 X) => text_c ux xs X ((hSx.below hX).mono hX.size) HAT.out (by omega))
    have K3 := Lib.hid (fun X (hX : Below w4.heap.size w4 X) => refText_c uy xs X ((hSy.below hX).mono hX.size) HAT.out (by omega))
    clear hSx hSy
    go_wp2_with (first | (go_at_call 8; (with_reducible refine K1.mono ?_); rintro r w5 ⟨rfl, hb5⟩) | (go_at_call 9; (with_reducible refine (K2.out _ hb5).mono ?_); rintro r w6 ⟨rfl, hb6⟩) | (go_at_call 10; (with_reducible refine (K3.out _ (bthen hb5 hb6)).mono ?_); rintro r w7 ⟨rfl, hb7⟩) | (go_at_call 11; (with_reducible refine (name_c kd _).mono ?_); rintro r w8 ⟨rfl, hb8⟩) | (go_at_call 12; (with_reducible refine (refName_c kd _).mono ?_); rintro r w9 ⟨rfl, hb9⟩) | (go_at_call 5; (with_reducible refine (awake32_c _).mono ?_); rintro r w10 ⟨rfl, hb10⟩))
    go_ret
    exact ⟨rfl, bthen hBw (bthen (bthen (bthen (bthen (bthen hb5 hb6) hb7) hb8) hb9) hb10)⟩
  · have h1' : decide (40 < (l.length : Int)) = true := by simp; omega
    have HB := Lib.hid hB0
    clear hB0 rC hs0
    go_enter Tryd.func3, Tryd.ntmps3
    go_wp2_with (go_at_call 5; (with_reducible refine (awake32_c _).mono ?_); rintro e w1 ⟨rfl, hb1⟩)
    go_ret
    rw [← HW.out] at hb1
    exact ⟨rfl, bthen HB.out hb1⟩
theorem Event.ok_hopF {e : Event} (h : Event.ok e) : e.hop ≤ 9223372036854775807 := by
  unfold Event.ok i64 at h
  omega
theorem auditFinds_g {H : Type} {enc : TypeId × Value → H} (c : Config) (v : Value) (l : List Event) (n : Int) (W : World) (_ : Config.ok c) (_ : ∃ fuel y, DataW.trod enc Tryd.prog W 0 (fun _ => true) true fuel 22 [c.progs] = some y)
    (s : Sl Event.arr 18 W.heap.size W v l) (h : ∀ e ∈ l, Event.ok e) (_ : l.length * 144 ≤ 140737488351232) (_ : i64 n) :
    Calls Tryd.prog 3 #[.agg (Config.arr c), v, .int .i64 n] W fun e w' => e = .returned (.bool true) ∧ Below W.heap.size W w' :=
  finds_w c v l n W s fun e he => Event.ok_hopF (h e he)
end Go.Proofs.YtofifeicbhbgpaaDoor
