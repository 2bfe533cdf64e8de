/- AuditPlants: its walk. -/
import Derived.Test.YtofifeicbhbgpaaPlants
namespace Go.Proofs.Ytofifeicbhbgpaa
open Go.RowKit Go.Shelf
set_option linter.unusedVariables false
set_option linter.unusedSimpArgs false
attribute [local go_sem] Config.sz Find.sz Event.sz
set_option maxRecDepth 100000 in
set_option maxHeartbeats 1000000 in
theorem plants_out (c : Config) (v : Value) (l : List Event) (n : Int) (w : World) (h : Sl Event.arr 18 w.heap.size w v l) (hno : 40 < l.length ∨ n < 0 ∨ (l.length : Int) ≤ n) :
    Calls Try.prog 5 #[.agg (Config.arr c), v, .int .i64 n] w fun e w' => e = .returned (.bool true) ∧ Below w.heap.size w w' := by
  obtain ⟨A, cap, rfl, hcap, hl1, hl2⟩ := h.view
  have hB : Below w.heap.size w (w.alloc (Obj.cells (Config.arr c) 40)) := (Below.refl _ w).alloc (Nat.le_refl _) _
  have HB := Lib.hid hB
  clear hB
  by_cases h1 : 40 < l.length
  · clear hno
    go_enter Try.func5, Try.ntmps5
    go_wp2_with (go_at_call 12; (with_reducible refine (awake32_c _).mono ?_); rintro e w1 ⟨rfl, hb1⟩)
    go_ret
    exact ⟨rfl, bthen HB.out hb1⟩
  by_cases h2 : n < 0
  · have h1' : decide (40 < (l.length : Int)) = false := by simp; omega
    have h2' : decide (n < 0) = true := by simpa using h2
    clear hno
    go_enter Try.func5, Try.ntmps5
    go_wp2_with (go_at_call 12; (with_reducible refine (awake32_c _).mono ?_); rintro e w1 ⟨rfl, hb1⟩)
    go_ret
    exact ⟨rfl, bthen HB.out hb1⟩
  · have h1' : decide (40 < (l.length : Int)) = false := by simp; omega
    have h2' : decide (n < 0) = false := by simpa using h2
    have h3' : decide ((l.length : Int) ≤ n) = true := by simp; omega
    clear hno
    go_enter Try.func5, Try.ntmps5
    go_wp2_with (go_at_call 12; (with_reducible refine (awake32_c _).mono ?_); rintro e w1 ⟨rfl, hb1⟩)
    go_ret
    exact ⟨rfl, bthen HB.out hb1⟩
set_option maxRecDepth 100000 in
set_option maxHeartbeats 4000000 in
theorem plants_in (c : Config) (v : Value) (l : List Event) (a : Nat) (w : World) (h : Sl Event.arr 18 w.heap.size w v l) (h40 : l.length ≤ 40) (hal : a < l.length) (hok : ∀ e ∈ l, e.hop ≤ 9223372036854775807) :
    Calls Try.prog 5 #[.agg (Config.arr c), v, .int .i64 (a : Int)] w fun e w' => e = .returned (.bool true) ∧ Below w.heap.size w w' := by
  obtain ⟨A, cap, rfl, hcap, hl1, hl2⟩ := h.view
  obtain ⟨W0, hW0⟩ : ∃ W0, W0 = w.alloc (Obj.cells (Config.arr c) 40) := ⟨_, rfl⟩
  have hs0 : W0.heap.size = w.heap.size + 1 := by rw [hW0]; simp
  have hB0 : Below w.heap.size w W0 := by rw [hW0]; exact (Below.refl _ w).alloc (Nat.le_refl _) _
  have rC : rowAt W0 w.heap.size 0 14 = some (Config.arr c) := by rw [hW0]; exact rowAt_new _ _ _ _ _ rfl
  obtain ⟨b, off, rfl, hb, _, hall⟩ := h.at hal
  have hS0 := (h.below hB0).mono hB0.size
  obtain ⟨e, he⟩ : ∃ e, e = l[a] := ⟨_, rfl⟩
  have heo : l[a]? = some e := by rw [he]; exact List.getElem?_eq_getElem hal
  have src1 : ∀ X, Below W0.heap.size W0 X → Src Event.arr 18 X (.slice (some ⟨b, off, none⟩) (a + 1) cap) (l.take (a + 1)) := fun X hX => by
    have hlen : (l.take (a + 1)).length = a + 1 := by rw [List.length_take]; omega
    refine .inr ⟨b, off, cap, by rw [hlen], fun i y hy => ?_⟩
    have hi := (List.getElem?_eq_some_iff.1 hy).1
    rw [hlen] at hi
    rw [List.getElem?_take, if_pos hi] at hy
    exact (rowAt_block ((bthen hB0 hX).block b hb)).trans (hall i y hy)
  have src2 : ∀ X, Below W0.heap.size W0 X → Src Event.arr 18 X (.slice (some ⟨b, off + a * 18, none⟩) (l.length - a) (cap - a)) (l.drop a) := fun X hX => by
    refine .inr ⟨b, off + a * 18, cap - a, by rw [List.length_drop], fun i y hy => ?_⟩
    rw [List.getElem?_drop] at hy
    have := (rowAt_block ((bthen hB0 hX).block b hb)).trans (hall (a + i) y hy)
    rw [show off + a * 18 + i * 18 = off + (a + i) * 18 by rw [Nat.add_mul]; omega]
    exact this
  have hdl : (T.dbl l a).length = l.length + 1 := by unfold T.dbl; rw [List.length_append, List.length_take, List.length_drop]; omega
  have hdok : ∀ x ∈ T.dbl l a, x.hop ≤ 9223372036854775807 := fun x hx => by
    unfold T.dbl at hx
    rcases List.mem_append.1 hx with hx | hx
    · exact hok x (List.mem_of_mem_take hx)
    · exact hok x (List.mem_of_mem_drop hx)
  have HCK := fun v' X (hX : Sl Event.arr 18 X.heap.size X v' (T.dbl l a)) => check_c v' (T.dbl l a) c X hX (by omega) hdok
  have ck : ∀ X, Below W0.heap.size W0 X → X.cell? ⟨b, off + a * 18, none⟩ = some (.int .i64 e.kind) := fun X hX => rowAt_cell ((rowAt_block ((bthen hB0 hX).block b hb)).trans (hall a e heo)) 0 (by omega)
  have hlt1 : (l.take (a + 1)).length = a + 1 := by rw [List.length_take]; omega
  have hlt2 : (l.drop a).length = l.length - a := List.length_drop
  have P3 := T.plant3 c l a e heo
  have P7 := T.plant7 c l a e heo
  have P2 := T.plant2 c l a e heo
  obtain ⟨zs, hzs⟩ : ∃ zs, zs = T.chk c (T.dbl l a) (T.dbl l a).length := ⟨_, rfl⟩
  rw [← hzs] at HCK P3 P7 P2
  have h1' : decide (40 < (l.length : Int)) = false := by simp; omega
  have h2' : decide ((a : Int) < 0) = false := by simp
  have h3' : decide ((l.length : Int) ≤ (a : Int)) = false := by simp; omega
  have h3'' : decide (l.length ≤ a) = false := by simp; omega
  have a0 : (0 : Int) ≤ (a : Int) := by omega
  have a1 : (a : Int) ≤ (l.length : Int) := by omega
  have a2 : (a : Int) + 1 ≤ (cap : Int) := by omega
  have a3 : (a : Int) < (l.length : Int) := by omega
  have a4 : ¬ cap = a := by omega
  have HP3 := Lib.hid P3
  have HP7 := Lib.hid P7
  have HP2 := Lib.hid P2
  have HHCK := Lib.hid HCK
  have HL1 := Lib.hid hlt1
  have HL2 := Lib.hid hlt2
  have HCKK := Lib.hid ck
  have tok1 : True := trivial
  clear P3 P7 P2 HCK hzs he heo hdok hok hall hlt1 hlt2 ck
  subst hW0
  rcases g3 : (e.kind == 3) with _ | _
  · rcases g2 : (e.kind == 2) with _ | _
    · rcases g7 : (e.kind == 7) with _ | _
      · clear HP3 HP7 HP2
        go_enter Try.func5, Try.ntmps5
        go_wp2_with (first | (at_builtin; have _t := tok1; refine wpList_appendN Event.arr 18 rfl _ _ _ rfl (w.heap.size + 1) 48 144 Try.underlying41 (by kernel_rfl) (by decide) Event.sz Event.one _ _ [] (l.take (a + 1)) rfl Own.nil rfl (src1 _ (Below.refl _ _)) (by rw [HL1.out]; simp; omega) (by rw [HL1.out]; simp; omega) (by simp) ?_; clear tok1 _t; intro v1 w1 hown1 hgr1 hbel1; clear hgr1; rw [List.nil_append] at hown1; obtain ⟨A1, n1, c1, rfl⟩ := hown1.shape; have hB1 := hbel1; rw [← hs0] at hB1; have hz1 := hB1.size) | (at_builtin; refine wpList_appendN Event.arr 18 rfl _ _ _ rfl (w.heap.size + 1) 48 144 Try.underlying41 (by kernel_rfl) (by decide) Event.sz Event.one _ _ (l.take (a + 1)) (l.drop a) rfl hown1 rfl (src2 _ hB1) (by rw [HL1.out, HL2.out]; omega) (by rw [HL1.out, HL2.out]; omega) (by omega) ?_; intro v2 w2 hown2 hgr2 hbel2; clear hgr2; obtain ⟨A2, n2, c2, rfl⟩ := hown2.shape; have hB2 := hbel1.trans hbel2; rw [← hs0] at hB2; have hz2 := hB2.size; have hS2 := hown2.sl Event.sz; have hck := HHCK.out _ w2 hS2; have rC2 := (rowAt_block (hB2.block w.heap.size (by omega))).trans rC) | (refine wpList_load_at rfl 40 _ rfl _ (0) 14 rfl _ _ rC2 rfl rfl rfl ?_) | (go_at_call 13; (with_reducible refine hck.mono ?_); rintro r w3 ⟨u, rfl, hown3, hb3⟩; have hB3 := bthen hB2 hb3; have hSz := hown3.sl Find.sz; obtain ⟨A3, n3, c3, rfl⟩ := hown3.shape; have ck3 := HCKK.out w3 hB3) | (go_at_call 12; (with_reducible refine (awake32_c _).mono ?_); rintro r w5 ⟨rfl, hb5⟩))
        go_ret
        exact ⟨rfl, bthen hB0 (bthen hB3 hb5)⟩
      · have HH := Lib.hid (HP7.out (by simpa using g7))
        clear HP3 HP7 HP2
        go_enter Try.func5, Try.ntmps5
        go_wp2_with (first | (at_builtin; have _t := tok1; refine wpList_appendN Event.arr 18 rfl _ _ _ rfl (w.heap.size + 1) 48 144 Try.underlying41 (by kernel_rfl) (by decide) Event.sz Event.one _ _ [] (l.take (a + 1)) rfl Own.nil rfl (src1 _ (Below.refl _ _)) (by rw [HL1.out]; simp; omega) (by rw [HL1.out]; simp; omega) (by simp) ?_; clear tok1 _t; intro v1 w1 hown1 hgr1 hbel1; clear hgr1; rw [List.nil_append] at hown1; obtain ⟨A1, n1, c1, rfl⟩ := hown1.shape; have hB1 := hbel1; rw [← hs0] at hB1; have hz1 := hB1.size) | (at_builtin; refine wpList_appendN Event.arr 18 rfl _ _ _ rfl (w.heap.size + 1) 48 144 Try.underlying41 (by kernel_rfl) (by decide) Event.sz Event.one _ _ (l.take (a + 1)) (l.drop a) rfl hown1 rfl (src2 _ hB1) (by rw [HL1.out, HL2.out]; omega) (by rw [HL1.out, HL2.out]; omega) (by omega) ?_; intro v2 w2 hown2 hgr2 hbel2; clear hgr2; obtain ⟨A2, n2, c2, rfl⟩ := hown2.shape; have hB2 := hbel1.trans hbel2; rw [← hs0] at hB2; have hz2 := hB2.size; have hS2 := hown2.sl Event.sz; have hck := HHCK.out _ w2 hS2; have rC2 := (rowAt_block (hB2.block w.heap.size (by omega))).trans rC) | (refine wpList_load_at rfl 40 _ rfl _ (0) 14 rfl _ _ rC2 rfl rfl rfl ?_) | (go_at_call 13; (with_reducible refine hck.mono ?_); rintro r w3 ⟨u, rfl, hown3, hb3⟩; have hB3 := bthen hB2 hb3; have hSz := hown3.sl Find.sz; obtain ⟨A3, n3, c3, rfl⟩ := hown3.shape; have ck3 := HCKK.out w3 hB3) | (go_at_call 14; (with_reducible refine (has_c _ zs 6 ((a : Int) + 1) w3 hSz).mono ?_); rintro r w4 ⟨rfl, rfl⟩; rw [HH.out]) | (go_at_call 12; (with_reducible refine (awake32_c _).mono ?_); rintro r w5 ⟨rfl, hb5⟩))
        go_ret
        exact ⟨rfl, bthen hB0 (bthen hB3 hb5)⟩
    · have hh := HP2.out (by simpa using g2)
      rcases g5 : T.has zs 5 (a : Int) with _ | _
      · rw [g5] at hh
        have HG := Lib.hid g5
        have HH := Lib.hid (show T.has zs 5 ((a : Int) + 1) = true by simpa using hh)
        clear hh g5 HP3 HP7 HP2
        go_enter Try.func5, Try.ntmps5
        go_wp2_with (first | (at_builtin; have _t := tok1; refine wpList_appendN Event.arr 18 rfl _ _ _ rfl (w.heap.size + 1) 48 144 Try.underlying41 (by kernel_rfl) (by decide) Event.sz Event.one _ _ [] (l.take (a + 1)) rfl Own.nil rfl (src1 _ (Below.refl _ _)) (by rw [HL1.out]; simp; omega) (by rw [HL1.out]; simp; omega) (by simp) ?_; clear tok1 _t; intro v1 w1 hown1 hgr1 hbel1; clear hgr1; rw [List.nil_append] at hown1; obtain ⟨A1, n1, c1, rfl⟩ := hown1.shape; have hB1 := hbel1; rw [← hs0] at hB1; have hz1 := hB1.size) | (at_builtin; refine wpList_appendN Event.arr 18 rfl _ _ _ rfl (w.heap.size + 1) 48 144 Try.underlying41 (by kernel_rfl) (by decide) Event.sz Event.one _ _ (l.take (a + 1)) (l.drop a) rfl hown1 rfl (src2 _ hB1) (by rw [HL1.out, HL2.out]; omega) (by rw [HL1.out, HL2.out]; omega) (by omega) ?_; intro v2 w2 hown2 hgr2 hbel2; clear hgr2; obtain ⟨A2, n2, c2, rfl⟩ := hown2.shape; have hB2 := hbel1.trans hbel2; rw [← hs0] at hB2; have hz2 := hB2.size; have hS2 := hown2.sl Event.sz; have hck := HHCK.out _ w2 hS2; have rC2 := (rowAt_block (hB2.block w.heap.size (by omega))).trans rC) | (refine wpList_load_at rfl 40 _ rfl _ (0) 14 rfl _ _ rC2 rfl rfl rfl ?_) | (go_at_call 13; (with_reducible refine hck.mono ?_); rintro r w3 ⟨u, rfl, hown3, hb3⟩; have hB3 := bthen hB2 hb3; have hSz := hown3.sl Find.sz; obtain ⟨A3, n3, c3, rfl⟩ := hown3.shape; have ck3 := HCKK.out w3 hB3) | (go_at_call 14; (with_reducible refine (has_c _ zs 5 (a : Int) w3 hSz).mono ?_); rintro r w4 ⟨rfl, rfl⟩; rw [HG.out]) | (go_at_call 14; (with_reducible refine (has_c _ zs 5 ((a : Int) + 1) w3 hSz).mono ?_); rintro r w4 ⟨rfl, rfl⟩; rw [HH.out]) | (go_at_call 12; (with_reducible refine (awake32_c _).mono ?_); rintro r w5 ⟨rfl, hb5⟩))
        go_ret
        exact ⟨rfl, bthen hB0 (bthen hB3 hb5)⟩
      · have HG := Lib.hid g5
        clear hh g5 HP3 HP7 HP2
        go_enter Try.func5, Try.ntmps5
        go_wp2_with (first | (at_builtin; have _t := tok1; refine wpList_appendN Event.arr 18 rfl _ _ _ rfl (w.heap.size + 1) 48 144 Try.underlying41 (by kernel_rfl) (by decide) Event.sz Event.one _ _ [] (l.take (a + 1)) rfl Own.nil rfl (src1 _ (Below.refl _ _)) (by rw [HL1.out]; simp; omega) (by rw [HL1.out]; simp; omega) (by simp) ?_; clear tok1 _t; intro v1 w1 hown1 hgr1 hbel1; clear hgr1; rw [List.nil_append] at hown1; obtain ⟨A1, n1, c1, rfl⟩ := hown1.shape; have hB1 := hbel1; rw [← hs0] at hB1; have hz1 := hB1.size) | (at_builtin; refine wpList_appendN Event.arr 18 rfl _ _ _ rfl (w.heap.size + 1) 48 144 Try.underlying41 (by kernel_rfl) (by decide) Event.sz Event.one _ _ (l.take (a + 1)) (l.drop a) rfl hown1 rfl (src2 _ hB1) (by rw [HL1.out, HL2.out]; omega) (by rw [HL1.out, HL2.out]; omega) (by omega) ?_; intro v2 w2 hown2 hgr2 hbel2; clear hgr2; obtain ⟨A2, n2, c2, rfl⟩ := hown2.shape; have hB2 := hbel1.trans hbel2; rw [← hs0] at hB2; have hz2 := hB2.size; have hS2 := hown2.sl Event.sz; have hck := HHCK.out _ w2 hS2; have rC2 := (rowAt_block (hB2.block w.heap.size (by omega))).trans rC) | (refine wpList_load_at rfl 40 _ rfl _ (0) 14 rfl _ _ rC2 rfl rfl rfl ?_) | (go_at_call 13; (with_reducible refine hck.mono ?_); rintro r w3 ⟨u, rfl, hown3, hb3⟩; have hB3 := bthen hB2 hb3; have hSz := hown3.sl Find.sz; obtain ⟨A3, n3, c3, rfl⟩ := hown3.shape; have ck3 := HCKK.out w3 hB3) | (go_at_call 14; (with_reducible refine (has_c _ zs 5 (a : Int) w3 hSz).mono ?_); rintro r w4 ⟨rfl, rfl⟩; rw [HG.out]) | (go_at_call 12; (with_reducible refine (awake32_c _).mono ?_); rintro r w5 ⟨rfl, hb5⟩))
        go_ret
        exact ⟨rfl, bthen hB0 (bthen hB3 hb5)⟩
  · have HH := Lib.hid (HP3.out (by simpa using g3))
    clear HP3 HP7 HP2
    go_enter Try.func5, Try.ntmps5
    go_wp2_with (first | (at_builtin; have _t := tok1; refine wpList_appendN Event.arr 18 rfl _ _ _ rfl (w.heap.size + 1) 48 144 Try.underlying41 (by kernel_rfl) (by decide) Event.sz Event.one _ _ [] (l.take (a + 1)) rfl Own.nil rfl (src1 _ (Below.refl _ _)) (by rw [HL1.out]; simp; omega) (by rw [HL1.out]; simp; omega) (by simp) ?_; clear tok1 _t; intro v1 w1 hown1 hgr1 hbel1; clear hgr1; rw [List.nil_append] at hown1; obtain ⟨A1, n1, c1, rfl⟩ := hown1.shape; have hB1 := hbel1; rw [← hs0] at hB1; have hz1 := hB1.size) | (at_builtin; refine wpList_appendN Event.arr 18 rfl _ _ _ rfl (w.heap.size + 1) 48 144 Try.underlying41 (by kernel_rfl) (by decide) Event.sz Event.one _ _ (l.take (a + 1)) (l.drop a) rfl hown1 rfl (src2 _ hB1) (by rw [HL1.out, HL2.out]; omega) (by rw [HL1.out, HL2.out]; omega) (by omega) ?_; intro v2 w2 hown2 hgr2 hbel2; clear hgr2; obtain ⟨A2, n2, c2, rfl⟩ := hown2.shape; have hB2 := hbel1.trans hbel2; rw [← hs0] at hB2; have hz2 := hB2.size; have hS2 := hown2.sl Event.sz; have hck := HHCK.out _ w2 hS2; have rC2 := (rowAt_block (hB2.block w.heap.size (by omega))).trans rC) | (refine wpList_load_at rfl 40 _ rfl _ (0) 14 rfl _ _ rC2 rfl rfl rfl ?_) | (go_at_call 13; (with_reducible refine hck.mono ?_); rintro r w3 ⟨u, rfl, hown3, hb3⟩; have hB3 := bthen hB2 hb3; have hSz := hown3.sl Find.sz; obtain ⟨A3, n3, c3, rfl⟩ := hown3.shape; have ck3 := HCKK.out w3 hB3) | (go_at_call 14; (with_reducible refine (has_c _ zs 3 ((a : Int) + 1) w3 hSz).mono ?_); rintro r w4 ⟨rfl, rfl⟩; rw [HH.out]) | (go_at_call 12; (with_reducible refine (awake32_c _).mono ?_); rintro r w5 ⟨rfl, hb5⟩))
    go_ret
    exact ⟨rfl, bthen hB0 (bthen hB3 hb5)⟩
theorem plants_w (c : Config) (v : Value) (l : List Event) (n : Int) (w : World) (h : Sl Event.arr 18 w.heap.size w v l) (hok : ∀ e ∈ l, e.hop ≤ 9223372036854775807) :
    Calls Try.prog 5 #[.agg (Config.arr c), v, .int .i64 n] w fun e w' => e = .returned (.bool true) ∧ Below w.heap.size w w' := by
  by_cases hno : 40 < l.length ∨ n < 0 ∨ (l.length : Int) ≤ n
  · exact plants_out c v l n w h hno
  · obtain ⟨k, rfl⟩ : ∃ k : Nat, n = k := ⟨n.toNat, by omega⟩
    exact plants_in c v l k w h (by omega) (by omega) hok
end Go.Proofs.Ytofifeicbhbgpaa
