/- chain: plan's walk. -/
import Derived.Test.YtofifeicbhbgpaaPlan
namespace Go.Proofs.Ytofifeicbhbgpaa
open Go.RowKit
set_option linter.unusedVariables false
set_option linter.unusedSimpArgs false
attribute [local go_sem] GoOp.sz GoOp.at0 GoOp.at1 GoOp.at2

def T.planR (y : Int × Option (Int × Int)) (x : Plan) (ok : Bool) : Prop :=
  match y.2 with
  | some (r, v) => ok = true ∧ x = ⟨y.1, r, v⟩
  | none => ok = false
theorem T.planR_none (k : Int) (x : Plan) : T.planR (k, none) x false := rfl
def T.progs (zs : List (Value × List GoOp)) : List (List GoOp) := zs.map (·.2)
def PlanPost (g : Nat) (c : Config) (late : Int) (y : Int × Option (Int × Int)) (w : World) (e : Ending) (w' : World) : Prop :=
  ∃ (x : Plan) (ok : Bool), e = .returned (.tuple #[.agg (Plan.arr x), .bool ok]) ∧ T.planR y x ok ∧ PlAt g c late y.1 w' ∧ Kept w.heap.size g w w'
/-- What a call of plan does. -/
def PlanC (g : Nat) (c : Config) (late : Int) (zs : List (Value × List GoOp)) (f at_ : Nat) (hop calls : Int) : Prop :=
  ∀ (w : World), PlAt g c late calls w → Progs g w c.progs zs →
    Calls Try.prog 24 #[.pointer (some ⟨g, 0, none⟩), .int .i64 (at_ : Int), .int .i64 hop] w (PlanPost g c late (T.plan (T.progs zs) c.hops c.fan late f at_ hop calls) w)
set_option maxRecDepth 100000 in
set_option maxHeartbeats 1000000 in
theorem plan_stop (g : Nat) (c : Config) (late : Int) (zs : List (Value × List GoOp)) (f at_ : Nat) (hop calls : Int) (hc0 : 0 ≤ calls) (hc1 : calls ≤ 25) (hs : c.hops < hop ∨ 25 < calls + 1) : PlanC g c late zs f at_ hop calls := by
  intro w hP hZ
  have hpl : T.plan (T.progs zs) c.hops c.fan late f at_ hop calls = (calls + 1, none) := by cases f with | zero => rfl | succ f => rw [T.plan, if_pos hs]
  rw [hpl]
  obtain ⟨c5, c7, c13, c14, c15, f15⟩ := hP.cells
  have hg := (Array.getElem?_eq_some_iff.1 hP).1
  have hk1 := (Kept.refl w.heap.size g w).setCell 15 (.int .i64 (calls + 1))
  have hP1 := (hP.set (calls + 1)).below ((Below.refl _ (w.setCell ⟨g, 15, none⟩ (.int .i64 (calls + 1)))).alloc (Nat.le_refl _) (Obj.cells #[Value.int IntKind.i64 0, Value.int IntKind.i64 0, Value.int IntKind.i64 0] 51))
  have hK1 := hk1.trans (Kept.of_below (g := g) ((Below.refl _ (w.setCell ⟨g, 15, none⟩ (.int .i64 (calls + 1)))).alloc (Nat.le_refl _) (Obj.cells #[Value.int IntKind.i64 0, Value.int IntKind.i64 0, Value.int IntKind.i64 0] 51)) hk1.size)
  have HP1 := Lib.hid hP1
  have HK1 := Lib.hid hK1
  have hgne : g ≠ w.heap.size := by omega
  clear hP1 hK1 hP hZ hk1 hpl
  by_cases h1 : c.hops < hop
  · have h1' : decide (c.hops < hop) = true := by simpa using h1
    clear hs
    go_enter Try.func24, Try.ntmps24
    go_wp2
    exact bodyPost_ret (v := .tuple #[.agg #[.int .i64 0, .int .i64 0, .int .i64 0], .bool false]) (by simp [results, Try.results24, go_sem]) rfl ⟨⟨0, 0, 0⟩, false, rfl, rfl, HP1.out, HK1.out⟩
  · have h1' : decide (c.hops < hop) = false := by simpa using h1
    have h2' : decide (25 < calls + 1) = true := by simp; omega
    clear hs
    go_enter Try.func24, Try.ntmps24
    go_wp2
    exact bodyPost_ret (v := .tuple #[.agg #[.int .i64 0, .int .i64 0, .int .i64 0], .bool false]) (by simp [results, Try.results24, go_sem]) rfl ⟨⟨0, 0, 0⟩, false, rfl, rfl, HP1.out, HK1.out⟩

section
variable (late fan : Int) (rec : Nat → Int → Int × Option (Int × Int)) (o : GoOp) (l : List GoOp) (s : Pst)
theorem T.ops_1 (h : o.kind = 1) : T.ops late fan rec (o :: l) s = T.ops late fan rec l { s with t := s.t + o.a } := by rw [T.ops, if_pos h]
theorem T.ops_2n (h : o.kind = 2) (k : Int) (hr : rec o.b.toNat s.calls = (k, none)) : T.ops late fan rec (o :: l) s = (k, none) := by rw [T.ops, if_neg (by omega), if_pos h, hr]
theorem T.ops_2f (h : o.kind = 2) (k r v : Int) (hr : rec o.b.toNat s.calls = (k, some (r, v))) (hf : fan < s.spawns + 1) : T.ops late fan rec (o :: l) s = (k, none) := by rw [T.ops, if_neg (by omega), if_pos h, hr]; simp only; rw [if_pos hf]
theorem T.ops_2s (h : o.kind = 2) (k r v : Int) (hr : rec o.b.toNat s.calls = (k, some (r, v))) (hf : ¬ fan < s.spawns + 1) : T.ops late fan rec (o :: l) s = T.ops late fan rec l ⟨s.t + 1, max s.ready (s.t + r), (s.value + v) % 2147483648, s.spawns + 1, k, true⟩ := by rw [T.ops, if_neg (by omega), if_pos h, hr]; simp only; rw [if_neg hf]
theorem T.ops_3 (h : o.kind = 3) : T.ops late fan rec (o :: l) s = T.ops late fan rec l { s with t := max s.t s.ready + 1, open_ := false } := by rw [T.ops, if_neg (by omega), if_neg (by omega), if_pos h]
theorem T.ops_4 (h : o.kind = 4) : T.ops late fan rec (o :: l) s = T.ops late fan rec l { s with t := s.t + 1 } := by rw [T.ops, if_neg (by omega), if_neg (by omega), if_neg (by omega), if_pos h]
theorem T.ops_5 (h : o.kind = 5) : T.ops late fan rec (o :: l) s = T.ans late s (s.value + o.a) := by rw [T.ops, if_neg (by omega), if_neg (by omega), if_neg (by omega), if_neg (by omega), if_pos h]
theorem T.ops_6 (h1 : o.kind ≠ 1) (h2 : o.kind ≠ 2) (h3 : o.kind ≠ 3) (h4 : o.kind ≠ 4) (h5 : o.kind ≠ 5) : T.ops late fan rec (o :: l) s = (s.calls, none) := by rw [T.ops, if_neg h1, if_neg h2, if_neg h3, if_neg h4, if_neg h5]
end
theorem bw_then' {w : World} {b o : Nat} {v : Value} (h : w.cell? ⟨b, o, none⟩ = some v) : ∀ y : BW w, y.1.cell? ⟨b, o, none⟩ = some v := fun y => (y.2.cell (p := ⟨b, o, none⟩) (World.block_lt_of_cell? w _ h)).trans h
theorem Kept.mono {F F' g : Nat} {a w : World} (h : Kept F g a w) (hF : F' ≤ F) : Kept F' g a w := ⟨h.os, h.tape, h.output, h.size, fun k hk hg => h.block k (by omega) hg⟩
theorem T.ans_R (late : Int) (s : Pst) (v : Int) : T.planR (T.ans late s v) ⟨s.calls, s.t + 2 + 2 * late, v % 2147483648⟩ (!s.open_) := by
  unfold T.ans T.planR
  cases s.open_ <;> simp
theorem T.ans_calls (late : Int) (s : Pst) (v : Int) : (T.ans late s v).1 = s.calls := by unfold T.ans; split <;> rfl
theorem Kept.setRow {F g b : Nat} {a w : World} (h : Kept F g a w) (hb : F ≤ b) (cs : Array Value) : Kept F g a (w.setRow b cs) :=
  ⟨h.os, h.tape, h.output, by simpa using h.size, fun k hk hg => (setRow_other w b k cs (by omega)).trans (h.block k hk hg)⟩
/-- One program, its steps in a place of their own. -/
theorem Progs.at {g : Nat} {w : World} {v : Value} {zs : List (Value × List GoOp)} (h : Progs g w v zs) {k : Nat} (hk : k < zs.length) : ∃ A cap b off z, v = .slice A zs.length cap ∧ A = some ⟨b, off, none⟩ ∧ zs.length ≤ cap ∧ cap ≤ 9223372036854775807 ∧ b < g ∧ zs[k]? = some z ∧ w.cell? ⟨b, off + k, none⟩ = some z.1 ∧ Sl GoOp.arr 3 g w z.1 z.2 := by
  obtain ⟨h1, h2⟩ := h
  obtain ⟨A, cap, rfl, hc, _, hc2⟩ := h1.view
  have hlen : (zs.map (·.1)).length = zs.length := by simp
  rw [hlen] at h1 hc
  obtain ⟨b, off, hA, hb, hrow, _⟩ := h1.at (k := k) (by rw [hlen]; exact hk)
  have hz : zs[k]? = some zs[k] := List.getElem?_eq_getElem hk
  have c0 := rowAt_cell hrow 0 (by omega)
  refine ⟨A, cap, b, off, zs[k], by rw [hlen], hA, hc, hc2, hb, hz, ?_, h2 _ (List.getElem_mem _)⟩
  simpa [valArr] using c0
set_option maxRecDepth 100000 in
set_option maxHeartbeats 4000000 in
theorem plan_step (g : Nat) (c : Config) (late : Int) (l0 : 0 ≤ late) (l3 : late ≤ 3) (zs : List (Value × List GoOp)) (hok : ∀ l ∈ T.progs zs, l.length ≤ 16 ∧ ∀ o ∈ l, T.opOk o c.nodes zs.length = true) (f at_ : Nat) (hat : at_ < zs.length) (hop calls : Int) (hh0 : 0 ≤ hop) (hh1 : hop ≤ 1000) (hc0 : 0 ≤ calls) (hs : ¬ (c.hops < hop ∨ 25 < calls + 1))
    (IH : ∀ (b : Nat) (k : Int), b < zs.length → 0 ≤ k → k ≤ 25 → PlanC g c late zs f b (hop + 1) k) : PlanC g c late zs (f + 1) at_ hop calls := by
  intro w hP hZ
  obtain ⟨c5, c7, c13, c14, c15, f15⟩ := hP.cells
  have hg := (Array.getElem?_eq_some_iff.1 hP).1
  obtain ⟨A, cap, b, off, ⟨zv, l⟩, hv, rfl, hcap1, hcap2, hbg, hz, cz, hSl⟩ := hZ.at hat
  simp only at hSl cz
  obtain ⟨lA, lcap, rfl, hl1, hl2, hl3⟩ := hSl.view
  rw [hv] at c13
  have hlp : (T.progs zs)[at_]? = some l := by simp [T.progs, hz]
  have hlm := hok l (List.mem_of_getElem? hlp)
  obtain ⟨hl16, hlo⟩ := hlm
  have hpl : T.plan (T.progs zs) c.hops c.fan late (f + 1) at_ hop calls = T.ops late c.fan (fun b k => T.plan (T.progs zs) c.hops c.fan late f b (hop + 1) k) l ⟨0, 0, 0, 0, calls + 1, false⟩ := by rw [T.plan, if_neg hs, hlp]; rfl
  rw [hpl]
  have HPL := Lib.hid hpl
  have HOK := Lib.hid hok
  have HLO := Lib.hid hlo
  have HIH := Lib.hid IH
  have h1' : decide (c.hops < hop) = false := by simp; omega
  have h2' : decide (25 < calls + 1) = false := by simp; omega
  have hc24 : calls ≤ 24 := by omega
  have hk1 := (Kept.refl w.heap.size g w).setCell 15 (.int .i64 (calls + 1))
  have hP1 := (hP.set (calls + 1)).below ((Below.refl _ (w.setCell ⟨g, 15, none⟩ (.int .i64 (calls + 1)))).alloc (Nat.le_refl _) (Obj.cells #[Value.int IntKind.i64 0, Value.int IntKind.i64 0, Value.int IntKind.i64 0] 51))
  have hK1 := hk1.trans (Kept.of_below (g := g) ((Below.refl _ (w.setCell ⟨g, 15, none⟩ (.int .i64 (calls + 1)))).alloc (Nat.le_refl _) (Obj.cells #[Value.int IntKind.i64 0, Value.int IntKind.i64 0, Value.int IntKind.i64 0] 51)) hk1.size)
  have hR1 : ((w.setCell ⟨g, 15, none⟩ (.int .i64 (calls + 1))).alloc (Obj.cells #[Value.int IntKind.i64 0, Value.int IntKind.i64 0, Value.int IntKind.i64 0] 51)).heap[w.heap.size]? = some (.cells #[Value.int IntKind.i64 0, Value.int IntKind.i64 0, Value.int IntKind.i64 0] 51 (0, 0)) := by
    have := heap_alloc_new (w.setCell ⟨g, 15, none⟩ (.int .i64 (calls + 1))) (Obj.cells #[Value.int IntKind.i64 0, Value.int IntKind.i64 0, Value.int IntKind.i64 0] 51)
    simpa using this
  have hbc : b ≠ g := by omega
  have cz2 := (World.cell?_of_block (hK1.block b (by omega) hbc)).trans cz
  have hS2 := hSl.below (hK1.below (Nat.le_refl g) (by omega))
  obtain ⟨bR, hbR⟩ : ∃ bR, bR = w.heap.size := ⟨_, rfl⟩
  obtain ⟨w2, hw2⟩ : ∃ w2, w2 = (w.setCell ⟨g, 15, none⟩ (.int .i64 (calls + 1))).alloc (Obj.cells #[Value.int IntKind.i64 0, Value.int IntKind.i64 0, Value.int IntKind.i64 0] 51) := ⟨_, rfl⟩
  have hwz : w2.heap.size = w.heap.size + 1 := by rw [hw2]; simp
  clear hs hlp hok IH hlo hpl hk1
  go_enter Try.func24, Try.ntmps24
  go_wp2
  rw [← hw2] at hP1 hK1 hR1 hS2 ⊢
  rw [← hbR] at hR1 ⊢
  have hZ2 := hZ.below (hK1.below (Nat.le_refl g) (by omega))
  have HRB := Lib.hid hbR
  have hgR : g < bR := by omega
  have hRs : bR < w2.heap.size := by omega
  clear hw2 hbR cz2 c5 c7 c13 c14 c15 f15 h1' h2' hP cz
  go_loopw [8, 9, 10, 11, 12, 48] (fun tv rv vv sv ov iv wr => ∃ (j : Nat) (s : Pst), j ≤ l.length ∧ iv = .int .i64 (j : Int) ∧ tv = .int .i64 s.t ∧ rv = .int .i64 s.ready ∧ vv = .int .i64 s.value ∧ sv = .int .i64 s.spawns ∧ ov = .bool s.open_ ∧
    Hid (T.ops late c.fan (fun b k => T.plan (T.progs zs) c.hops c.fan late f b (hop + 1) k) l ⟨0, 0, 0, 0, calls + 1, false⟩ = T.ops late c.fan (fun b k => T.plan (T.progs zs) c.hops c.fan late f b (hop + 1) k) (l.drop j) s) ∧ T.stB calls j s ∧ PlAt g c late s.calls wr ∧
    wr.heap[bR]? = some (.cells #[Value.int IntKind.i64 0, Value.int IntKind.i64 0, Value.int IntKind.i64 0] 51 (0, 0)) ∧ Kept w.heap.size g w wr) (fun _ _ _ _ _ iv _ => l.length - (intOf iv).toNat)
  case atStart => exact ⟨0, ⟨0, 0, 0, 0, calls + 1, false⟩, Nat.zero_le _, rfl, rfl, rfl, rfl, rfl, rfl, Lib.hid rfl, ⟨by show calls + 1 ≤ calls + 1; omega, by show calls + 1 ≤ 25; omega, by show (0 : Int) ≤ 0; omega, by show (0 : Int) ≤ 1001 * ((0 : Nat) : Int) + 16024 * (calls + 1 - (calls + 1)); omega, by show (0 : Int) ≤ 0; omega, by show (0 : Int) ≤ 1001 * ((0 : Nat) : Int) + 16024 * (calls + 1 - (calls + 1)); omega, by show (0 : Int) ≤ 0; omega, by show (0 : Int) < 2147483648; omega, by show (0 : Int) ≤ 0; omega, by show (0 : Int) ≤ ((0 : Nat) : Int); omega⟩, hP1, hR1, hK1⟩
  case round =>
    obtain ⟨j, ⟨t, rd, va, sp, cl, op⟩, hj, rfl, rfl, rfl, rfl, rfl, rfl, heq, hst, hPr, hRr, hKr⟩ := hrel
    obtain ⟨b1, b2, b3, b4, b5, b6, b7, b8, b9, b10⟩ := hst
    simp only at b1 b2 b3 b4 b5 b6 b7 b8 b9 b10 hPr heq
    have hgF : g ≤ w.heap.size := by omega
    have hSr := hSl.below (hKr.below (Nat.le_refl g) hgF)
    have hZr := hZ.below (hKr.below (Nat.le_refl g) hgF)
    have hRs2 := (Array.getElem?_eq_some_iff.1 hRr).1
    have hFR : w.heap.size ≤ bR := by have := HRB.out; omega
    by_cases hjl : j < l.length
    · obtain ⟨bo, oo, rfl, hbo, hrow, _⟩ := hSr.at hjl
      obtain ⟨o, ho⟩ : ∃ o, o = l[j] := ⟨_, rfl⟩
      rw [← ho] at hrow
      have hdrop : l.drop j = o :: l.drop (j + 1) := by rw [List.drop_eq_getElem_cons hjl, ho]
      have hoo := HLO.out o (by rw [ho]; exact List.getElem_mem _)
      rw [hdrop] at heq
      have hgs : g < wr.heap.size := by have := hKr.size; omega
      have hPa := hPr.below ((Below.refl _ wr).alloc (Nat.le_refl _) (Obj.cells (GoOp.arr o) 71))
      have hRa := (Below.heap_alloc wr (Obj.cells (GoOp.arr o) 71) bR hRs2).trans hRr
      have hKa := hKr.trans (Kept.of_below (g := g) ((Below.refl _ wr).alloc (Nat.le_refl _) (Obj.cells (GoOp.arr o) 71)) hKr.size)
      clear ho hdrop hSr
      by_cases k1 : o.kind = 1
      case pos =>
        have hw : 1 ≤ o.a ∧ o.a ≤ 1000 := by unfold T.opOk at hoo; rw [if_pos k1] at hoo; simp at hoo; exact hoo.2
        obtain ⟨hw1, hw2⟩ := hw
        rw [T.ops_1 _ _ _ _ _ _ k1] at heq
        have e1 : (o.kind == 1) = true := by simpa using k1
        have hst : T.stB calls (j + 1) ⟨t + o.a, rd, va, sp, cl, op⟩ := ⟨b1, b2, by show 0 ≤ t + o.a; omega, by show t + o.a ≤ 1001 * ((j + 1 : Nat) : Int) + 16024 * (cl - (calls + 1)); omega, b5, by show rd ≤ 1001 * ((j + 1 : Nat) : Int) + 16024 * (cl - (calls + 1)); omega, b7, b8, b9, by show sp ≤ ((j + 1 : Nat) : Int); omega⟩
        have HST := Lib.hid hst
        have HPA := Lib.hid hPa
        have HRA := Lib.hid hRa
        clear k1 hoo hst hPa hRa
        go_wp2_with (first | (refine wpList_load_at rfl 71 _ rfl _ (oo + j * 3) 3 rfl _ _ hrow rfl rfl rfl ?_) | (refine wpList_store_new rfl _ _ _ rfl wr.heap.size (GoOp.arr o) _ _ rfl rfl rfl rfl rfl (GoOp.one o) ?_))
        go_roundw
        case rel => exact ⟨j + 1, ⟨t + o.a, rd, va, sp, cl, op⟩, by omega, by go_num, rfl, rfl, rfl, rfl, rfl, heq, HST.out, HPA.out, HRA.out, hKa⟩
        case measure => simp [intOf]; omega
      have e1 : (o.kind == 1) = false := by simpa using k1
      by_cases k2 : o.kind = 2
      case pos =>
        have e2 : (o.kind == 2) = true := by simpa using k2
        have hw : 0 ≤ o.b ∧ o.b < (zs.length : Int) := by unfold T.opOk at hoo; rw [if_neg k1, if_pos k2] at hoo; simp at hoo; exact hoo.2.2
        obtain ⟨hw1, hw2⟩ := hw
        have hZa := hZr.below ((Below.refl _ wr).alloc (show g ≤ wr.heap.size by omega) (Obj.cells (GoOp.arr o) 71))
        have hcall := HIH.out o.b.toNat cl (by omega) (by omega) b2 _ hPa hZa
        rw [Int.toNat_of_nonneg hw1] at hcall
        have hY := T.plan_b (T.progs zs) c.hops c.fan late c.nodes zs.length l0 l3 HOK.out f o.b.toNat (hop + 1) cl b2
        obtain ⟨y, hy⟩ : ∃ y, y = T.plan (T.progs zs) c.hops c.fan late f o.b.toNat (hop + 1) cl := ⟨_, rfl⟩
        rw [← hy] at hcall hY
        have HYY := Lib.hid hy
        have K1 := Lib.hid k1
        have K2 := Lib.hid k2
        clear k1 k2 hy hoo hZa
        obtain ⟨yk, yo⟩ := y
        obtain ⟨y1, y2, y3⟩ := hY
        simp only at y1 y2 y3
        cases yo with
        | none =>
          have heq2 := heq.out.trans (T.ops_2n _ _ (fun b k => T.plan (T.progs zs) c.hops c.fan late f b (hop + 1) k) o _ _ K2.out yk HYY.out.symm)
          have HEQ := Lib.hid heq2
          clear heq2
          go_wp2_with (first | (refine wpList_load_at rfl 71 _ rfl _ (oo + j * 3) 3 rfl _ _ hrow rfl rfl rfl ?_) | (refine wpList_store_new rfl _ _ _ rfl wr.heap.size (GoOp.arr o) _ _ rfl rfl rfl rfl rfl (GoOp.one o) ?_) | (go_at_call 24; (with_reducible refine hcall.mono ?_); rintro e w3 ⟨x, ok, rfl, hR, hP3, hK3⟩; obtain rfl : ok = false := hR; have hRx := (Below.heap_alloc w3 (Obj.cells (Plan.arr x) 51) bR (Nat.lt_of_lt_of_le (show bR < _ by simp; omega) hK3.size)).trans ((hK3.block bR (by simp; omega) (by omega)).trans hRa)) | (refine wpList_store_new rfl _ _ _ rfl w3.heap.size (Plan.arr x) _ _ rfl rfl rfl rfl rfl (Plan.one x) ?_) | (refine wpList_store_row rfl _ _ _ rfl bR (Plan.arr ⟨0, 0, 0⟩) rfl rfl _ _ hRx rfl rfl (Plan.one _) ?_))
          have hR4 := setRow_heap (w3.alloc (Obj.cells (Plan.arr x) 51)) bR _ (Plan.arr ⟨0, 0, 0⟩) _ _ hRx
          have hKx := hKa.trans ((Kept.mono hK3 hKa.size).trans (Kept.of_below (g := g) ((Below.refl _ w3).alloc (Nat.le_refl _) (Obj.cells (Plan.arr x) 51)) (Nat.le_trans hKa.size hK3.size)))
          refine bodyPost_ret (plan_results _ _ bR _ _ rfl rfl (rowAt_row hR4)) rfl ⟨⟨0, 0, 0⟩, false, rfl, ?_, ?_, ?_⟩
          · rw [HEQ.out]; rfl
          · rw [HEQ.out]; exact (setRow_other _ _ _ _ (by omega)).trans (hP3.below ((Below.refl _ w3).alloc (Nat.le_refl _) _))
          · exact hKx.setRow hFR _
        | some p =>
          obtain ⟨r, v⟩ := p
          simp only at y3
          obtain ⟨y4, y5, y6, y7, y8⟩ := y3
          by_cases hf : c.fan < sp + 1
          case pos =>
            have heq2 := heq.out.trans (T.ops_2f _ _ (fun b k => T.plan (T.progs zs) c.hops c.fan late f b (hop + 1) k) o _ _ K2.out yk r v HYY.out.symm hf)
            have HEQ := Lib.hid heq2
            have hf' : decide (c.fan < sp + 1) = true := by simpa using hf
            clear heq2
            go_wp2_with (first | (refine wpList_load_at rfl 71 _ rfl _ (oo + j * 3) 3 rfl _ _ hrow rfl rfl rfl ?_) | (refine wpList_store_new rfl _ _ _ rfl wr.heap.size (GoOp.arr o) _ _ rfl rfl rfl rfl rfl (GoOp.one o) ?_) | (go_at_call 24; (with_reducible refine hcall.mono ?_); rintro e w3 ⟨x, ok, rfl, hR, hP3, hK3⟩; obtain ⟨rfl, rfl⟩ : ok = true ∧ x = ⟨yk, r, v⟩ := hR; have hRx := (Below.heap_alloc w3 (Obj.cells (Plan.arr ⟨yk, r, v⟩) 51) bR (Nat.lt_of_lt_of_le (show bR < _ by simp; omega) hK3.size)).trans ((hK3.block bR (by simp; omega) (by omega)).trans hRa); have c73 := (World.cell?_of_block (Below.heap_alloc w3 (Obj.cells (Plan.arr ⟨yk, r, v⟩) 51) g (Array.getElem?_eq_some_iff.1 hP3).1)).trans hP3.cells.2.1) | (refine wpList_store_new rfl _ _ _ rfl w3.heap.size (Plan.arr ⟨yk, r, v⟩) _ _ rfl rfl rfl rfl rfl (Plan.one ⟨yk, r, v⟩) ?_) | (refine wpList_store_row rfl _ _ _ rfl bR (Plan.arr ⟨0, 0, 0⟩) rfl rfl _ _ hRx rfl rfl (Plan.one _) ?_))
            have hR4 := setRow_heap (w3.alloc (Obj.cells (Plan.arr ⟨yk, r, v⟩) 51)) bR _ (Plan.arr ⟨0, 0, 0⟩) _ _ hRx
            have hKx := hKa.trans ((Kept.mono hK3 hKa.size).trans (Kept.of_below (g := g) ((Below.refl _ w3).alloc (Nat.le_refl _) (Obj.cells (Plan.arr ⟨yk, r, v⟩) 51)) (Nat.le_trans hKa.size hK3.size)))
            refine bodyPost_ret (plan_results _ _ bR _ _ rfl rfl (rowAt_row hR4)) rfl ⟨⟨0, 0, 0⟩, false, rfl, ?_, ?_, ?_⟩
            · rw [HEQ.out]; rfl
            · rw [HEQ.out]; exact (setRow_other _ _ _ _ (by omega)).trans (hP3.below ((Below.refl _ w3).alloc (Nat.le_refl _) _))
            · exact hKx.setRow hFR _
          case neg =>
            have heq2 := heq.out.trans (T.ops_2s _ _ (fun b k => T.plan (T.progs zs) c.hops c.fan late f b (hop + 1) k) o _ _ K2.out yk r v HYY.out.symm hf)
            have HEQ := Lib.hid heq2
            have hf' : decide (c.fan < sp + 1) = false := by simpa using hf
            have hst : T.stB calls (j + 1) ⟨t + 1, max rd (t + r), (va + v) % 2147483648, sp + 1, yk, true⟩ := by
              refine ⟨?_, y4, ?_, ?_, ?_, ?_, ?_, ?_, ?_, ?_⟩
              · show calls + 1 ≤ yk; omega
              · show 0 ≤ t + 1; omega
              · show t + 1 ≤ 1001 * ((j + 1 : Nat) : Int) + 16024 * (yk - (calls + 1)); omega
              · show 0 ≤ max rd (t + r); omega
              · show max rd (t + r) ≤ 1001 * ((j + 1 : Nat) : Int) + 16024 * (yk - (calls + 1)); omega
              · show 0 ≤ (va + v) % 2147483648; omega
              · show (va + v) % 2147483648 < 2147483648; omega
              · show 0 ≤ sp + 1; omega
              · show sp + 1 ≤ ((j + 1 : Nat) : Int); omega
            have HST := Lib.hid hst
            have u1 : IntKind.i64.wrap (t + r) = t + r := IntWalk.i64_in _ (by omega)
            have u2 : IntKind.i64.wrap (va + v) = va + v := IntWalk.i64_in _ (by omega)
            have u3 : (va + v).tmod 2147483648 = (va + v) % 2147483648 := Int.tmod_eq_emod_of_nonneg (by omega)
            have u4 : IntKind.i64.wrap ((va + v) % 2147483648) = (va + v) % 2147483648 := IntWalk.i64_in _ (by omega)
            clear heq2 hst
            have U1 := Lib.hid u1
            have U2 := Lib.hid u2
            have U3 := Lib.hid u3
            have U4 := Lib.hid u4
            clear u1 u2 u3 u4
            go_wp2_with (first | (refine wpList_load_at rfl 71 _ rfl _ (oo + j * 3) 3 rfl _ _ hrow rfl rfl rfl ?_) | (refine wpList_store_new rfl _ _ _ rfl wr.heap.size (GoOp.arr o) _ _ rfl rfl rfl rfl rfl (GoOp.one o) ?_) | (go_at_call 24; (with_reducible refine hcall.mono ?_); rintro e w3 ⟨x, ok, rfl, hR, hP3, hK3⟩; obtain ⟨rfl, rfl⟩ : ok = true ∧ x = ⟨yk, r, v⟩ := hR; have hRx := (Below.heap_alloc w3 (Obj.cells (Plan.arr ⟨yk, r, v⟩) 51) bR (Nat.lt_of_lt_of_le (show bR < _ by simp; omega) hK3.size)).trans ((hK3.block bR (by simp; omega) (by omega)).trans hRa); have c73 := (World.cell?_of_block (Below.heap_alloc w3 (Obj.cells (Plan.arr ⟨yk, r, v⟩) 51) g (Array.getElem?_eq_some_iff.1 hP3).1)).trans hP3.cells.2.1) | (refine wpList_store_new rfl _ _ _ rfl w3.heap.size (Plan.arr ⟨yk, r, v⟩) _ _ rfl rfl rfl rfl rfl (Plan.one ⟨yk, r, v⟩) ?_))
            obtain ⟨w4, hw4⟩ : ∃ w4, w4 = w3.alloc (Obj.cells (Plan.arr ⟨yk, r, v⟩) 51) := ⟨_, rfl⟩
            obtain ⟨b4, hb4⟩ : ∃ b4, b4 = w3.heap.size := ⟨_, rfl⟩
            have hB4 : Below w3.heap.size w3 w4 := by rw [hw4]; exact (Below.refl _ w3).alloc (Nat.le_refl _) _
            have r4 : rowAt w4 b4 0 3 = some (Plan.arr ⟨yk, r, v⟩) := by rw [hw4, hb4]; exact rowAt_new _ _ _ _ _ rfl
            have x1 : w4.cell? ⟨b4, 1, none⟩ = some (.int .i64 r) := rowAt_cell r4 1 (by omega)
            have x2 : w4.cell? ⟨b4, 2, none⟩ = some (.int .i64 v) := rowAt_cell r4 2 (by omega)
            rw [← hw4] at hRx c73 ⊢
            rw [← hb4]
            have z1 := bw_then' x1
            have z2 := bw_then' x2
            have hKx := hKa.trans ((Kept.mono hK3 hKa.size).trans (Kept.of_below (g := g) hB4 (Nat.le_trans hKa.size hK3.size)))
            have hP4 := hP3.below hB4
            have u1 := U1.out
            have u2 := U2.out
            have u3 := U3.out
            have u4 := U4.out
            clear r4 x1 x2 hw4 hb4 hP3 hR1 hRa
            by_cases hm : rd < t + r
            all_goals
              refine wp_region_calm (by kernel_rfl) (by kernel_rfl) ?_
              repeat ((fail_if_success (with_reducible refine wpQuiet_nil ?_)); (first | go_big_quiet_skip | go_big_quiet_step (fail)))
              refine wpQuiet_nil ?_
              rintro _ ⟨⟨w5, hb5⟩, rfl⟩
              clear u1 u2 u3 u4 z1 z2
              have hR5 := (hb5.block bR (Array.getElem?_eq_some_iff.1 hRx).1).trans hRx
              have hP5 := hP4.below hb5
              have hK5 := hKx.trans (Kept.of_below (g := g) hb5 hKx.size)
              have HP5 := Lib.hid hP5
              have HR5 := Lib.hid hR5
              first
                | have HM := Lib.hid (show max rd (t + r) = t + r by omega)
                | have HM := Lib.hid (show max rd (t + r) = rd by omega)
              clear hm hP5 hR5 hP4 hRx
              go_wp2
              go_roundw
              case rel => exact ⟨j + 1, ⟨t + 1, max rd (t + r), (va + v) % 2147483648, sp + 1, yk, true⟩, by omega, by go_num, rfl, by rw [HM.out], rfl, rfl, rfl, HEQ, HST.out, HP5.out, HR5.out, hK5⟩
              case measure => simp [intOf]; omega
      have e2 : (o.kind == 2) = false := by simpa using k2
      by_cases k3 : o.kind = 3
      case pos =>
        rw [T.ops_3 _ _ _ _ _ _ k3] at heq
        have e3 : (o.kind == 3) = true := by simpa using k3
        obtain ⟨mx, hmx⟩ : ∃ mx, mx = max t rd := ⟨_, rfl⟩
        have hst : T.stB calls (j + 1) ⟨mx + 1, rd, va, sp, cl, false⟩ := ⟨b1, b2, by show 0 ≤ mx + 1; omega, by show mx + 1 ≤ 1001 * ((j + 1 : Nat) : Int) + 16024 * (cl - (calls + 1)); omega, b5, by show rd ≤ 1001 * ((j + 1 : Nat) : Int) + 16024 * (cl - (calls + 1)); omega, b7, b8, b9, by show sp ≤ ((j + 1 : Nat) : Int); omega⟩
        simp only [← hmx] at heq
        have HST := Lib.hid hst
        have HPA := Lib.hid hPa
        have HRA := Lib.hid hRa
        clear k1 k2 k3 hoo hst hPa hRa
        by_cases hlt : t < rd
        · have HM := Lib.hid (show mx = rd by omega)
          clear hmx
          go_wp2_with (first | (refine wpList_load_at rfl 71 _ rfl _ (oo + j * 3) 3 rfl _ _ hrow rfl rfl rfl ?_) | (refine wpList_store_new rfl _ _ _ rfl wr.heap.size (GoOp.arr o) _ _ rfl rfl rfl rfl rfl (GoOp.one o) ?_))
          go_roundw
          case rel => exact ⟨j + 1, ⟨mx + 1, rd, va, sp, cl, false⟩, by omega, by go_num, by rw [HM.out], rfl, rfl, rfl, rfl, heq, HST.out, HPA.out, HRA.out, hKa⟩
          case measure => simp [intOf]; omega
        · have HM := Lib.hid (show mx = t by omega)
          clear hmx
          go_wp2_with (first | (refine wpList_load_at rfl 71 _ rfl _ (oo + j * 3) 3 rfl _ _ hrow rfl rfl rfl ?_) | (refine wpList_store_new rfl _ _ _ rfl wr.heap.size (GoOp.arr o) _ _ rfl rfl rfl rfl rfl (GoOp.one o) ?_))
          go_roundw
          case rel => exact ⟨j + 1, ⟨mx + 1, rd, va, sp, cl, false⟩, by omega, by go_num, by rw [HM.out], rfl, rfl, rfl, rfl, heq, HST.out, HPA.out, HRA.out, hKa⟩
          case measure => simp [intOf]; omega
      have e3 : (o.kind == 3) = false := by simpa using k3
      by_cases k4 : o.kind = 4
      case pos =>
        rw [T.ops_4 _ _ _ _ _ _ k4] at heq
        have e4 : (o.kind == 4) = true := by simpa using k4
        have hst : T.stB calls (j + 1) ⟨t + 1, rd, va, sp, cl, op⟩ := ⟨b1, b2, by show 0 ≤ t + 1; omega, by show t + 1 ≤ 1001 * ((j + 1 : Nat) : Int) + 16024 * (cl - (calls + 1)); omega, b5, by show rd ≤ 1001 * ((j + 1 : Nat) : Int) + 16024 * (cl - (calls + 1)); omega, b7, b8, b9, by show sp ≤ ((j + 1 : Nat) : Int); omega⟩
        have HST := Lib.hid hst
        have HPA := Lib.hid hPa
        have HRA := Lib.hid hRa
        clear k1 k2 k3 k4 hoo hst hPa hRa
        go_wp2_with (first | (refine wpList_load_at rfl 71 _ rfl _ (oo + j * 3) 3 rfl _ _ hrow rfl rfl rfl ?_) | (refine wpList_store_new rfl _ _ _ rfl wr.heap.size (GoOp.arr o) _ _ rfl rfl rfl rfl rfl (GoOp.one o) ?_))
        go_roundw
        case rel => exact ⟨j + 1, ⟨t + 1, rd, va, sp, cl, op⟩, by omega, by go_num, rfl, rfl, rfl, rfl, rfl, heq, HST.out, HPA.out, HRA.out, hKa⟩
        case measure => simp [intOf]; omega
      have e4 : (o.kind == 4) = false := by simpa using k4
      by_cases k5 : o.kind = 5
      case pos =>
        have hw : 0 ≤ o.a ∧ o.a < 2147483648 := by unfold T.opOk at hoo; rw [if_neg k1, if_neg k2, if_pos k5] at hoo; simp at hoo; exact hoo.2
        obtain ⟨hw1, hw2⟩ := hw
        rw [T.ops_5 _ _ _ _ _ _ k5] at heq
        have e5 : (o.kind == 5) = true := by simpa using k5
        have han := answer_c g c late cl t (va + o.a) op _ hPa l0 l3 b3 (by omega) (by omega) (by omega)
        have HPA := Lib.hid hPa
        clear k1 k2 k3 k4 k5 hoo
        go_wp2_with (first | (refine wpList_load_at rfl 71 _ rfl _ (oo + j * 3) 3 rfl _ _ hrow rfl rfl rfl ?_) | (refine wpList_store_new rfl _ _ _ rfl wr.heap.size (GoOp.arr o) _ _ rfl rfl rfl rfl rfl (GoOp.one o) ?_) | (go_at_call 34; (with_reducible refine han.mono ?_); rintro e w3 ⟨rfl, hb3⟩; have hR3 := (hb3.block bR (by simp; omega)).trans hRa) | (refine wpList_store_row rfl _ _ _ rfl bR (Plan.arr ⟨cl, t + 2 + 2 * late, (va + o.a) % 2147483648⟩) rfl rfl _ _ hR3 rfl rfl (Plan.one _) ?_))
        have hR4 := setRow_heap w3 bR _ (Plan.arr ⟨cl, t + 2 + 2 * late, (va + o.a) % 2147483648⟩) _ _ hR3
        refine bodyPost_ret (plan_results _ _ bR _ _ rfl rfl (rowAt_row hR4)) rfl ⟨_, _, rfl, ?_, ?_, ?_⟩
        · rw [heq.out]; exact T.ans_R late _ _
        · rw [heq.out, T.ans_calls]; exact (setRow_other _ _ _ _ (by omega)).trans (HPA.out.below hb3)
        · exact (hKa.trans (Kept.of_below hb3 hKa.size)).setRow hFR _
      have e5 : (o.kind == 5) = false := by simpa using k5
      rw [T.ops_6 _ _ _ _ _ _ k1 k2 k3 k4 k5] at heq
      have HPA := Lib.hid hPa
      clear k1 k2 k3 k4 k5 hoo hPa
      go_wp2_with (first | (refine wpList_load_at rfl 71 _ rfl _ (oo + j * 3) 3 rfl _ _ hrow rfl rfl rfl ?_) | (refine wpList_store_new rfl _ _ _ rfl wr.heap.size (GoOp.arr o) _ _ rfl rfl rfl rfl rfl (GoOp.one o) ?_) | (refine wpList_store_row rfl _ _ _ rfl bR (Plan.arr ⟨0, 0, 0⟩) rfl rfl _ _ hRa rfl rfl (Plan.one _) ?_))
      have hR4 := setRow_heap (wr.alloc (Obj.cells (GoOp.arr o) 71)) bR _ (Plan.arr ⟨0, 0, 0⟩) _ _ hRa
      refine bodyPost_ret (plan_results _ _ bR _ _ rfl rfl (rowAt_row hR4)) rfl ⟨⟨0, 0, 0⟩, false, rfl, ?_, ?_, ?_⟩
      · rw [heq.out]; rfl
      · rw [heq.out]; exact (setRow_other _ _ _ _ (by omega)).trans HPA.out
      · exact hKa.setRow hFR _
    · obtain rfl : j = l.length := by omega
      rw [List.drop_of_length_le (Nat.le_refl _), T.ops] at heq
      have han := answer_c g c late cl t va op _ hPr l0 l3 b3 (by omega) (by omega) (by omega)
      have HPA := Lib.hid hPr
      clear hPr
      go_wp2_with (first | (go_at_call 34; (with_reducible refine han.mono ?_); rintro e w3 ⟨rfl, hb3⟩; have hR3 := (hb3.block bR hRs2).trans hRr) | (refine wpList_store_row rfl _ _ _ rfl bR (Plan.arr ⟨cl, t + 2 + 2 * late, va % 2147483648⟩) rfl rfl _ _ hR3 rfl rfl (Plan.one _) ?_))
      have hR4 := setRow_heap w3 bR _ (Plan.arr ⟨cl, t + 2 + 2 * late, va % 2147483648⟩) _ _ hR3
      refine bodyPost_ret (plan_results _ _ bR _ _ rfl rfl (rowAt_row hR4)) rfl ⟨_, _, rfl, ?_, ?_, ?_⟩
      · rw [heq.out]; exact T.ans_R late _ _
      · rw [heq.out, T.ans_calls]; exact (setRow_other _ _ _ _ (by omega)).trans (HPA.out.below hb3)
      · exact (hKr.trans (Kept.of_below hb3 hKr.size)).setRow hFR _
theorem plan_c (g : Nat) (c : Config) (late : Int) (l0 : 0 ≤ late) (l3 : late ≤ 3) (zs : List (Value × List GoOp)) (hok : ∀ l ∈ T.progs zs, l.length ≤ 16 ∧ ∀ o ∈ l, T.opOk o c.nodes zs.length = true) (hh : c.hops ≤ 16) :
    ∀ (f at_ : Nat) (hop calls : Int), at_ < zs.length → 0 ≤ hop → hop ≤ 17 → 0 ≤ calls → calls ≤ 25 → c.hops < hop + f → PlanC g c late zs f at_ hop calls
  | 0, at_, hop, calls, h1, h2, h3, h4, h5, h6 => plan_stop g c late zs 0 at_ hop calls h4 h5 (.inl (by omega))
  | f + 1, at_, hop, calls, h1, h2, h3, h4, h5, h6 => by
    by_cases hs : c.hops < hop ∨ 25 < calls + 1
    · exact plan_stop g c late zs (f + 1) at_ hop calls h4 h5 hs
    · exact plan_step g c late l0 l3 zs hok f at_ h1 hop calls h2 (by omega) h4 hs fun b k hb hk0 hk1 => plan_c g c late l0 l3 zs hok hh f b (hop + 1) k hb (by omega) (by omega) hk0 hk1 (by omega)
end Go.Proofs.Ytofifeicbhbgpaa
