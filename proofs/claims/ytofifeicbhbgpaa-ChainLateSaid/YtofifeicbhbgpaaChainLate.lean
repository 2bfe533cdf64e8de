/- ChainLate: the plain law; its walk. -/
import Derived.Test.YtofifeicbhbgpaaAwake33
namespace Go.Proofs.Ytofifeicbhbgpaa
open Go.RowKit
set_option linter.unusedVariables false
set_option linter.unusedSimpArgs false
attribute [local go_sem] Config.sz Plan.sz Plan.at0 Plan.at1 Plan.at2
attribute [local go_sem high] eqTPlan

structure T.Late (late : Int) (x y : Plan) : Prop where
  calls : x.calls = y.calls
  value : x.value = y.value
  more : y.rounds + 2 * late ≤ x.rounds
  least : 2 + 2 * late ≤ x.rounds
  c1 : 1 ≤ x.calls
  c2 : x.calls ≤ 25
  v0 : 0 ≤ x.value
  v1 : x.value < 2147483648
  l0 : 0 ≤ late
  l3 : late ≤ 3
  r0 : 0 ≤ y.rounds
  r1 : x.rounds ≤ 1000000
theorem T.chain_late (c : Config) (zs : List (Value × List GoOp)) (p late : Int) (x : Plan) (h : T.of c zs p late = some x) : ∃ y, T.of c zs p 0 = some y ∧ T.Late late x y := by
  unfold T.of at h
  split at h
  case isFalse => cases h
  case isTrue hok =>
    have h' := hok
    simp only [T.ofOk, Bool.and_eq_true, decide_eq_true_eq] at h'
    obtain ⟨⟨h1, h2⟩, ⟨p0, p1⟩, l0, l3⟩ := h'
    have hok0 : T.ofOk c zs p 0 = true := by simp [T.ofOk, h1, h2, p0, p1]
    have hl := T.plan_late (T.progs zs) c.hops c.fan late l0 17 p.toNat 1 0
    have hb := T.plan_b (T.progs zs) c.hops c.fan late c.nodes zs.length l0 l3 (T.all_ops c zs h2) 17 p.toNat 1 0 (by omega)
    have hb0 := T.plan_b (T.progs zs) c.hops c.fan 0 c.nodes zs.length (by omega) (by omega) (T.all_ops c zs h2) 17 p.toNat 1 0 (by omega)
    unfold T.of
    rw [if_pos hok0]
    generalize T.plan (T.progs zs) c.hops c.fan late 17 p.toNat 1 0 = X at *
    generalize T.plan (T.progs zs) c.hops c.fan 0 17 p.toNat 1 0 = Y at *
    obtain ⟨k, xo⟩ := X
    obtain ⟨k', yo⟩ := Y
    unfold T.lateR at hl
    unfold T.planB at hb hb0
    simp only at hl hb hb0
    obtain ⟨rfl, hl⟩ := hl
    cases xo with
    | none => cases h
    | some q =>
      obtain ⟨r, v⟩ := q
      cases yo with
      | none => exact absurd hl (by simp)
      | some q' =>
        obtain ⟨r', v'⟩ := q'
        simp only [T.planOf, Option.some.injEq] at h hl hb hb0 ⊢
        subst h
        obtain ⟨rfl, hl⟩ := hl
        refine ⟨_, rfl, rfl, rfl, by show r' + 2 * late ≤ r; omega, by show 2 + 2 * late ≤ r; omega, by show 1 ≤ k; omega, by show k ≤ 25; omega, by show 0 ≤ v; omega, by show v < 2147483648; omega, l0, l3, by show 0 ≤ r'; omega, by show r ≤ 1000000; omega⟩
theorem builtPlan0 : Try.prog.built 51 [] = some (Plan.arr ⟨0, 0, 0⟩) := by kernel_rfl
set_option maxRecDepth 100000 in
set_option maxHeartbeats 2000000 in
theorem chainLate_c (c : Config) (zs : List (Value × List GoOp)) (p late : Int) (w : World) (hz : Progs w.heap.size w c.progs zs) :
    Calls Try.prog 6 #[.agg (Config.arr c), .int .i64 p, .int .i64 late] w fun e w' => e = .returned (.bool true) ∧ Below w.heap.size w w' := by
  obtain ⟨w1, hw1⟩ : ∃ w1, w1 = w.alloc (Obj.cells (Config.arr c) 40) := ⟨_, rfl⟩
  have hs1 : w1.heap.size = w.heap.size + 1 := by rw [hw1]; simp
  have hB1 : Below w.heap.size w w1 := by rw [hw1]; exact (Below.refl _ w).alloc (Nat.le_refl _) _
  have rc : rowAt w1 w.heap.size 0 14 = some (Config.arr c) := by rw [hw1]; exact rowAt_new _ _ _ _ _ rfl
  have hz1 := (hz.below hB1).mono hB1.size
  have hof := of_c c zs p late w1 hz1
  rcases hx : T.of c zs p late with _ | x
  · rw [hx] at hof
    clear hx
    subst hw1
    go_enter Try.func6, Try.ntmps6
    go_wp2_with (first | (refine wpList_load_at rfl 40 _ rfl _ (0) 14 rfl _ _ rc rfl rfl rfl ?_) | (go_at_call 15; (with_reducible refine hof.mono ?_); rintro e w3 ⟨rfl, hb3⟩; have hB3 := bthen hB1 hb3; have hN := rowAt_row (heap_alloc_new w3 (Obj.cells (Plan.arr ⟨0, 0, 0⟩) 51))) | (refine wpList_store_new rfl _ _ _ rfl w3.heap.size (Plan.arr ⟨0, 0, 0⟩) _ _ rfl rfl rfl rfl rfl (Plan.one _) ?_) | (refine wpList_load_at rfl 51 _ rfl _ (0) 3 rfl _ _ hN rfl rfl rfl ?_) | (refine wpList_build_at rfl 51 _ rfl _ ?_ _ builtPlan0 ?_; rfl) | (go_at_call 16; (with_reducible refine (awake33_c _).mono ?_); rintro e w4 ⟨rfl, hb4⟩))
    go_ret
    exact ⟨rfl, bthen (hB3.alloc hB3.size _) hb4⟩
  · rw [hx] at hof
    obtain ⟨y, hy, HL⟩ := T.chain_late c zs p late x hx
    have hof0 := fun W hz => of_c c zs p 0 W hz
    rw [hy] at hof0
    obtain ⟨g1, g2, g3, g4, g5, g6, g7, g8, g9, g10, g11, g12⟩ := HL
    obtain ⟨xc, xr, xv⟩ := x
    obtain ⟨yc, yr, yv⟩ := y
    simp only at g1 g2 g3 g4 g5 g6 g7 g8 g9 g10 g11 g12
    subst g1 g2
    have HZ := fun W (h : Below w.heap.size w W) => (hz.below h).mono h.size
    have HOF := fun W h => hof0 W (HZ W h)
    clear hof0 hx hy
    subst hw1
    go_enter Try.func6, Try.ntmps6
    go_wp2_with (first | (refine wpList_load_at rfl 40 _ rfl _ (0) 14 rfl _ _ rc rfl rfl rfl ?_) | (go_at_call 15; (with_reducible refine hof.mono ?_); clear hof; rintro e w3 ⟨rfl, hb3⟩; have hB3 := bthen hB1 hb3; have hR3 := heap_alloc_new w3 (Obj.cells (Plan.arr ⟨xc, xr, xv⟩) 51); have hB4 := hB3.alloc hB3.size (Obj.cells (Plan.arr ⟨xc, xr, xv⟩) 51); have rc4 := (rowAt_alloc_old w3 (Obj.cells (Plan.arr ⟨xc, xr, xv⟩) 51) w.heap.size 0 14 (by have := hb3.size; omega)).trans ((rowAt_block (hb3.block w.heap.size (by omega))).trans rc); have hof2 := HOF _ hB4) | (refine wpList_store_new rfl _ _ _ rfl w3.heap.size (Plan.arr ⟨xc, xr, xv⟩) _ _ rfl rfl rfl rfl rfl (Plan.one _) ?_) | (refine wpList_load_at rfl 40 _ rfl _ (0) 14 rfl _ _ rc4 rfl rfl rfl ?_) | (go_at_call 15; (with_reducible refine hof2.mono ?_); rintro e w5 ⟨rfl, hb5⟩; have hB5 := bthen hB4 hb5; have hr5 : rowAt w5 w3.heap.size 0 3 = some (Plan.arr ⟨xc, xr, xv⟩) := rowAt_row ((hb5.block w3.heap.size (by simp)).trans hR3); have hr6 := (rowAt_alloc_old w5 (Obj.cells (Plan.arr ⟨xc, yr, xv⟩) 51) w3.heap.size 0 3 (rowAt_lt hr5)).trans hr5; have hr7 : rowAt (w5.alloc (Obj.cells (Plan.arr ⟨xc, yr, xv⟩) 51)) w5.heap.size 0 3 = some (Plan.arr ⟨xc, yr, xv⟩) := rowAt_row (heap_alloc_new w5 (Obj.cells (Plan.arr ⟨xc, yr, xv⟩) 51)); have q0 := rowAt_cell hr6 0 (by omega); have q1 := rowAt_cell hr6 1 (by omega); have q2 := rowAt_cell hr6 2 (by omega); have s0 := rowAt_cell hr7 0 (by omega); have s1 := rowAt_cell hr7 1 (by omega); have s2 := rowAt_cell hr7 2 (by omega); simp only [Plan.at0, Plan.at1, Plan.at2, Nat.zero_add] at q0 q1 q2 s0 s1 s2) | (refine wpList_store_new rfl _ _ _ rfl w5.heap.size (Plan.arr ⟨xc, yr, xv⟩) _ _ rfl rfl rfl rfl rfl (Plan.one _) ?_) | (go_at_call 16; (with_reducible refine (awake33_c _).mono ?_); rintro e w6 ⟨rfl, hb6⟩))
    go_ret
    exact ⟨rfl, bthen (hB5.alloc hB5.size _) hb6⟩
theorem chainLate_w (c : Config) (p late : Int) (W : World) (zs : List (Value × List GoOp)) (hz : Progs W.heap.size W c.progs zs) :
    Calls Try.prog 6 #[.agg (Config.arr c), .int .i64 p, .int .i64 late] W fun e w' => e = .returned (.bool true) ∧ Below W.heap.size W w' := chainLate_c c zs p late W hz
end Go.Proofs.Ytofifeicbhbgpaa
