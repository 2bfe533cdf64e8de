/- chain.Of: the plan of a program, if all is calm. -/
import Derived.Test.YtofifeicbhbgpaaPlanW
import Derived.Test.YtofifeicbhbgpaaRight
namespace Go.Proofs.Ytofifeicbhbgpaa
open Go.RowKit
set_option linter.unusedVariables false
set_option linter.unusedSimpArgs false
attribute [local go_sem] Config.sz Config.at13

theorem builtPl (c : Config) (late : Int) : Try.prog.built 68 [(0, .agg (Config.arr c)), (1, .int .i64 late)] = some (plArr c late 0) := by kernel_rfl
theorem plArr_one (c : Config) (late calls : Int) (A : Option Addr) (n cap : Nat) (h : c.progs = .slice A n cap) : (plArr c late calls).all (·.oneCell') = true := by simp [plArr, Value.oneCell', h]
def T.ofOk (c : Config) (zs : List (Value × List GoOp)) (p late : Int) : Bool := T.right c zs.length && T.allOk c zs && (decide (0 ≤ p) && decide (p < zs.length) && (decide (0 ≤ late) && decide (late ≤ 3)))
def T.planOf (y : Int × Option (Int × Int)) : Option Plan := match y with | (k, some (r, v)) => some ⟨k, r, v⟩ | (_, none) => none
def T.of (c : Config) (zs : List (Value × List GoOp)) (p late : Int) : Option Plan :=
  if T.ofOk c zs p late = true then T.planOf (T.plan (T.progs zs) c.hops c.fan late 17 p.toNat 1 0) else none
def OfPost (y : Option Plan) (w : World) (e : Ending) (w' : World) : Prop := (match y with | some x => e = .returned (.tuple #[.agg (Plan.arr x), .bool true]) | none => e = .returned (.tuple #[.agg (Plan.arr ⟨0, 0, 0⟩), .bool false])) ∧ Below w.heap.size w w'
theorem of_results (tmps : Array Value) (w : World) (bR : Nat) (cs : Array Value) (b : Value) (h6 : tmps.getD 6 undef = .pointer (some ⟨bR, 0, none⟩)) (h7 : tmps.getD 7 undef = b) (hr : rowAt w bR 0 3 = some cs) :
    (results Try.f15 tmps).run Try.prog w = .ok (.tuple #[.agg cs, b]) w := by
  have hl := run_loadVar_at (P := Try.prog) w 51 bR 0 3 cs _ hr Try.underlying51 rfl (by kernel_rfl)
  have h6' : tmps[6]?.getD undef = .pointer (some ⟨bR, 0, none⟩) := by simpa using h6
  have h7' : tmps[7]?.getD undef = b := by simpa using h7
  simp [results, Try.results15, asAddr, h6', h7', hl]
theorem below_setRow {B b : Nat} {a w : World} (h : Below B a w) (hb : B ≤ b) (cs : Array Value) : Below B a (w.setRow b cs) :=
  ⟨h.os, h.tape, h.output, by simpa using h.size, fun k hk => (setRow_other w b k cs (by omega)).trans (h.block k hk)⟩
set_option maxRecDepth 100000 in
set_option maxHeartbeats 1000000 in
theorem of_no (c : Config) (zs : List (Value × List GoOp)) (p late : Int) (w : World) (hz : Progs w.heap.size w c.progs zs) (hno : T.ofOk c zs p late = false) :
    Calls Try.prog 15 #[.agg (Config.arr c), .int .i64 p, .int .i64 late] w (OfPost none w) := by
  obtain ⟨A, cap, hv, hcap, hl1, hl2⟩ := hz.1.view
  rw [List.length_map] at hv hcap hl1
  have hr := fun W => right_c c A zs.length cap hv W
  obtain ⟨w2, hw2⟩ : ∃ w2, w2 = (w.alloc (Obj.cells (Config.arr c) 40)).alloc (Obj.cells #[Value.int IntKind.i64 0, Value.int IntKind.i64 0, Value.int IntKind.i64 0] 51) := ⟨_, rfl⟩
  have hs2 : w2.heap.size = w.heap.size + 2 := by rw [hw2]; simp
  have hB2 : Below w.heap.size w w2 := by rw [hw2]; exact ((Below.refl _ w).alloc (Nat.le_refl _) _).alloc (by simp) _
  have rc : rowAt w2 w.heap.size 0 14 = some (Config.arr c) := by rw [hw2, rowAt_alloc_old _ _ _ _ _ (by simp)]; exact rowAt_new _ _ _ _ _ rfl
  have hR : w2.heap[w.heap.size + 1]? = some (.cells #[Value.int IntKind.i64 0, Value.int IntKind.i64 0, Value.int IntKind.i64 0] 51 (0, 0)) := by
    have := heap_alloc_new (w.alloc (Obj.cells (Config.arr c) 40)) (Obj.cells #[Value.int IntKind.i64 0, Value.int IntKind.i64 0, Value.int IntKind.i64 0] 51)
    rw [hw2]; simpa using this
  rcases h1 : T.right c zs.length with _ | _
  · rw [h1] at hr
    have hR3' : ∀ W, Below w2.heap.size w2 W → W.heap[w.heap.size + 1]? = some (.cells #[Value.int IntKind.i64 0, Value.int IntKind.i64 0, Value.int IntKind.i64 0] 51 (0, 0)) := fun W hb => (hb.block _ (by omega)).trans hR
    subst hw2
    go_enter Try.func15, Try.ntmps15
    go_wp2_with (first | (refine wpList_load_at rfl 40 _ rfl _ (0) 14 rfl _ _ rc rfl rfl rfl ?_) | (go_at_call 22; (with_reducible refine (hr _).mono ?_); rintro e w3 ⟨rfl, hb3⟩; have hR3 := hR3' _ hb3; have hB3 := hB2.trans (hb3.mono (by simp <;> omega))) | (refine wpList_store_row rfl _ _ _ rfl (w.heap.size + 1) (Plan.arr ⟨0, 0, 0⟩) rfl rfl _ _ hR3 rfl rfl (Plan.one _) ?_))
    have hR4 := setRow_heap w3 (w.heap.size + 1) _ (Plan.arr ⟨0, 0, 0⟩) _ _ hR3
    exact bodyPost_ret (of_results _ _ (w.heap.size + 1) _ _ rfl rfl (rowAt_row hR4)) rfl ⟨rfl, below_setRow hB3 (by omega) _⟩
  · rw [h1] at hr
    have hR3' : ∀ W, Below w2.heap.size w2 W → W.heap[w.heap.size + 1]? = some (.cells #[Value.int IntKind.i64 0, Value.int IntKind.i64 0, Value.int IntKind.i64 0] 51 (0, 0)) := fun W hb => (hb.block _ (by omega)).trans hR
    have hC3' : ∀ W, Below w2.heap.size w2 W → rowAt W w.heap.size 0 14 = some (Config.arr c) := fun W hb => (rowAt_block (hb.block _ (by omega))).trans rc
    rcases h2 : T.allOk c zs with _ | _
    · have HA2 := Lib.hid h2
      clear h2 hno
      subst hw2
      go_enter Try.func15, Try.ntmps15
      go_wp2_with (first | (refine wpList_load_at rfl 40 _ rfl _ (0) 14 rfl _ _ rc rfl rfl rfl ?_) | (go_at_call 22; (with_reducible refine (hr _).mono ?_); rintro e w3 ⟨rfl, hb3⟩; have rc3 := hC3' _ hb3; have hB3 := hB2.trans (hb3.mono (by simp <;> omega)); have hz3 := (hz.below hB3).mono hB3.size; have ha := all_c c zs w3 hz3; rw [HA2.out] at ha) | (refine wpList_load_at_w rfl 40 _ rfl _ (0) 14 rfl _ _ rc3 rfl rfl rfl ?_) | (go_at_call 23; (with_reducible refine ha.mono ?_); rintro e w4 ⟨rfl, hb4⟩; have hbb := bthen hb3 hb4; have hR4 := hR3' _ hbb; have hB4 := bthen hB3 hb4; have c4 := rowAt_cell (hC3' _ hbb) 13 (by omega); rw [Config.at13, hv, Nat.zero_add] at c4) | (refine wpList_store_row rfl _ _ _ rfl (w.heap.size + 1) (Plan.arr ⟨0, 0, 0⟩) rfl rfl _ _ hR4 rfl rfl (Plan.one _) ?_))
      have hR5 := setRow_heap w4 (w.heap.size + 1) _ (Plan.arr ⟨0, 0, 0⟩) _ _ hR4
      exact bodyPost_ret (of_results _ _ (w.heap.size + 1) _ _ rfl rfl (rowAt_row hR5)) rfl ⟨rfl, below_setRow hB4 (by omega) _⟩
    · have HA2 := Lib.hid h2
      have hq : p < 0 ∨ (0 ≤ p ∧ (zs.length : Int) ≤ p) ∨ (0 ≤ p ∧ p < zs.length ∧ late < 0) ∨ (0 ≤ p ∧ p < zs.length ∧ 0 ≤ late ∧ 3 < late) := by
        simp [T.ofOk, h1, h2] at hno
        by_cases a : p < 0
        · exact .inl a
        by_cases b : (zs.length : Int) ≤ p
        · exact .inr (.inl ⟨by omega, b⟩)
        by_cases d : late < 0
        · exact .inr (.inr (.inl ⟨by omega, by omega, d⟩))
        · exact .inr (.inr (.inr ⟨by omega, by omega, by omega, hno (by omega) (by omega) (by omega)⟩))
      clear h2 hno
      subst hw2
      rcases hq with q1 | ⟨q1, q2⟩ | ⟨q1, q2, q3⟩ | ⟨q1, q2, q3, q4⟩
      · have g1 : decide (p < 0) = true := by simpa using q1
        go_enter Try.func15, Try.ntmps15
        go_wp2_with (first | (refine wpList_load_at rfl 40 _ rfl _ (0) 14 rfl _ _ rc rfl rfl rfl ?_) | (go_at_call 22; (with_reducible refine (hr _).mono ?_); rintro e w3 ⟨rfl, hb3⟩; have rc3 := hC3' _ hb3; have hB3 := hB2.trans (hb3.mono (by simp <;> omega)); have hz3 := (hz.below hB3).mono hB3.size; have ha := all_c c zs w3 hz3; rw [HA2.out] at ha) | (refine wpList_load_at_w rfl 40 _ rfl _ (0) 14 rfl _ _ rc3 rfl rfl rfl ?_) | (go_at_call 23; (with_reducible refine ha.mono ?_); rintro e w4 ⟨rfl, hb4⟩; have hbb := bthen hb3 hb4; have hR4 := hR3' _ hbb; have hB4 := bthen hB3 hb4; have c4 := rowAt_cell (hC3' _ hbb) 13 (by omega); rw [Config.at13, hv, Nat.zero_add] at c4) | (refine wpList_store_row rfl _ _ _ rfl (w.heap.size + 1) (Plan.arr ⟨0, 0, 0⟩) rfl rfl _ _ hR4 rfl rfl (Plan.one _) ?_))
        have hR5 := setRow_heap w4 (w.heap.size + 1) _ (Plan.arr ⟨0, 0, 0⟩) _ _ hR4
        exact bodyPost_ret (of_results _ _ (w.heap.size + 1) _ _ rfl rfl (rowAt_row hR5)) rfl ⟨rfl, below_setRow hB4 (by omega) _⟩
      · have g1 : decide (p < 0) = false := by simp; omega
        have g2 : decide ((zs.length : Int) ≤ p) = true := by simpa using q2
        go_enter Try.func15, Try.ntmps15
        go_wp2_with (first | (refine wpList_load_at rfl 40 _ rfl _ (0) 14 rfl _ _ rc rfl rfl rfl ?_) | (go_at_call 22; (with_reducible refine (hr _).mono ?_); rintro e w3 ⟨rfl, hb3⟩; have rc3 := hC3' _ hb3; have hB3 := hB2.trans (hb3.mono (by simp <;> omega)); have hz3 := (hz.below hB3).mono hB3.size; have ha := all_c c zs w3 hz3; rw [HA2.out] at ha) | (refine wpList_load_at_w rfl 40 _ rfl _ (0) 14 rfl _ _ rc3 rfl rfl rfl ?_) | (go_at_call 23; (with_reducible refine ha.mono ?_); rintro e w4 ⟨rfl, hb4⟩; have hbb := bthen hb3 hb4; have hR4 := hR3' _ hbb; have hB4 := bthen hB3 hb4; have c4 := rowAt_cell (hC3' _ hbb) 13 (by omega); rw [Config.at13, hv, Nat.zero_add] at c4) | (refine wpList_store_row rfl _ _ _ rfl (w.heap.size + 1) (Plan.arr ⟨0, 0, 0⟩) rfl rfl _ _ hR4 rfl rfl (Plan.one _) ?_))
        have hR5 := setRow_heap w4 (w.heap.size + 1) _ (Plan.arr ⟨0, 0, 0⟩) _ _ hR4
        exact bodyPost_ret (of_results _ _ (w.heap.size + 1) _ _ rfl rfl (rowAt_row hR5)) rfl ⟨rfl, below_setRow hB4 (by omega) _⟩
      · have g1 : decide (p < 0) = false := by simp; omega
        have g2 : decide ((zs.length : Int) ≤ p) = false := by simp; omega
        have g3 : decide (late < 0) = true := by simpa using q3
        go_enter Try.func15, Try.ntmps15
        go_wp2_with (first | (refine wpList_load_at rfl 40 _ rfl _ (0) 14 rfl _ _ rc rfl rfl rfl ?_) | (go_at_call 22; (with_reducible refine (hr _).mono ?_); rintro e w3 ⟨rfl, hb3⟩; have rc3 := hC3' _ hb3; have hB3 := hB2.trans (hb3.mono (by simp <;> omega)); have hz3 := (hz.below hB3).mono hB3.size; have ha := all_c c zs w3 hz3; rw [HA2.out] at ha) | (refine wpList_load_at_w rfl 40 _ rfl _ (0) 14 rfl _ _ rc3 rfl rfl rfl ?_) | (go_at_call 23; (with_reducible refine ha.mono ?_); rintro e w4 ⟨rfl, hb4⟩; have hbb := bthen hb3 hb4; have hR4 := hR3' _ hbb; have hB4 := bthen hB3 hb4; have c4 := rowAt_cell (hC3' _ hbb) 13 (by omega); rw [Config.at13, hv, Nat.zero_add] at c4) | (refine wpList_store_row rfl _ _ _ rfl (w.heap.size + 1) (Plan.arr ⟨0, 0, 0⟩) rfl rfl _ _ hR4 rfl rfl (Plan.one _) ?_))
        have hR5 := setRow_heap w4 (w.heap.size + 1) _ (Plan.arr ⟨0, 0, 0⟩) _ _ hR4
        exact bodyPost_ret (of_results _ _ (w.heap.size + 1) _ _ rfl rfl (rowAt_row hR5)) rfl ⟨rfl, below_setRow hB4 (by omega) _⟩
      · have g1 : decide (p < 0) = false := by simp; omega
        have g2 : decide ((zs.length : Int) ≤ p) = false := by simp; omega
        have g3 : decide (late < 0) = false := by simp; omega
        have g4 : decide (3 < late) = true := by simpa using q4
        go_enter Try.func15, Try.ntmps15
        go_wp2_with (first | (refine wpList_load_at rfl 40 _ rfl _ (0) 14 rfl _ _ rc rfl rfl rfl ?_) | (go_at_call 22; (with_reducible refine (hr _).mono ?_); rintro e w3 ⟨rfl, hb3⟩; have rc3 := hC3' _ hb3; have hB3 := hB2.trans (hb3.mono (by simp <;> omega)); have hz3 := (hz.below hB3).mono hB3.size; have ha := all_c c zs w3 hz3; rw [HA2.out] at ha) | (refine wpList_load_at_w rfl 40 _ rfl _ (0) 14 rfl _ _ rc3 rfl rfl rfl ?_) | (go_at_call 23; (with_reducible refine ha.mono ?_); rintro e w4 ⟨rfl, hb4⟩; have hbb := bthen hb3 hb4; have hR4 := hR3' _ hbb; have hB4 := bthen hB3 hb4; have c4 := rowAt_cell (hC3' _ hbb) 13 (by omega); rw [Config.at13, hv, Nat.zero_add] at c4) | (refine wpList_store_row rfl _ _ _ rfl (w.heap.size + 1) (Plan.arr ⟨0, 0, 0⟩) rfl rfl _ _ hR4 rfl rfl (Plan.one _) ?_))
        have hR5 := setRow_heap w4 (w.heap.size + 1) _ (Plan.arr ⟨0, 0, 0⟩) _ _ hR4
        exact bodyPost_ret (of_results _ _ (w.heap.size + 1) _ _ rfl rfl (rowAt_row hR5)) rfl ⟨rfl, below_setRow hB4 (by omega) _⟩
end Go.Proofs.Ytofifeicbhbgpaa
