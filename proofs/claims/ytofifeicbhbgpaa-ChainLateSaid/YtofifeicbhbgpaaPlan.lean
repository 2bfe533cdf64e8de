/- chain: answer, plan. -/
import Derived.Test.YtofifeicbhbgpaaChain
import Derived.Test.YtofifeicbhbgpaaKept
import Derived.Test.YtofifeicbhbgpaaTail
import Derived.Test.YtofifeicbhbgpaaHead
namespace Go.Proofs.Ytofifeicbhbgpaa
open Go.RowKit
set_option linter.unusedVariables false
set_option linter.unusedSimpArgs false
attribute [local go_sem] GoOp.sz GoOp.at0 GoOp.at1 GoOp.at2

/-- The planner's cells. -/
def plArr (c : Config) (late calls : Int) : Array Value := #[.int .i64 c.nodes, .int .i64 c.skew, .int .i64 c.lease, .int .i64 c.grain, .int .i64 c.least, .int .i64 c.hops, .int .i64 c.cap, .int .i64 c.fan, .int .i64 c.attempts, .int .i64 c.base, .int .i64 c.most, .int .i64 c.wait, .int .i64 c.tokens, c.progs, .int .i64 late, .int .i64 calls]
def PlAt (g : Nat) (c : Config) (late calls : Int) (w : World) : Prop := w.heap[g]? = some (.cells (plArr c late calls) 68 (0, 0))
theorem PlAt.cells {g : Nat} {c : Config} {late calls : Int} {w : World} (h : PlAt g c late calls w) :
    w.cell? ⟨g, 5, none⟩ = some (.int .i64 c.hops) ∧ w.cell? ⟨g, 7, none⟩ = some (.int .i64 c.fan) ∧ w.cell? ⟨g, 13, none⟩ = some c.progs ∧ w.cell? ⟨g, 14, none⟩ = some (.int .i64 late) ∧ w.cell? ⟨g, 15, none⟩ = some (.int .i64 calls) ∧ w.frozen? ⟨g, 15, none⟩ = false := by
  unfold PlAt at h
  refine ⟨?_, ?_, ?_, ?_, ?_, ?_⟩ <;> simp [World.cell?, World.frozen?, h, plArr]
theorem PlAt.set {g : Nat} {c : Config} {late calls : Int} {w : World} (h : PlAt g c late calls w) (k : Int) : PlAt g c late k (w.setCell ⟨g, 15, none⟩ (.int .i64 k)) := by
  have := heap_setCell_same w g 15 _ _ (.int .i64 k) h
  unfold PlAt
  rw [this]
  rfl
theorem PlAt.below {g : Nat} {c : Config} {late calls : Int} {w w1 : World} (h : PlAt g c late calls w) (hb : Below w.heap.size w w1) : PlAt g c late calls w1 :=
  (hb.block g (Array.getElem?_eq_some_iff.1 h).1).trans h
theorem plan_results (tmps : Array Value) (w : World) (bR : Nat) (cs : Array Value) (b : Value) (h6 : tmps.getD 6 undef = .pointer (some ⟨bR, 0, none⟩)) (h7 : tmps.getD 7 undef = b) (hr : rowAt w bR 0 3 = some cs) :
    (results Try.f24 tmps).run Try.prog w = .ok (.tuple #[.agg cs, b]) w := by
  have hl := run_loadVar_at (P := Try.prog) w 51 bR 0 3 cs _ hr Try.underlying51 rfl (by kernel_rfl)
  have h6' : tmps[6]?.getD undef = .pointer (some ⟨bR, 0, none⟩) := by simpa using h6
  have h7' : tmps[7]?.getD undef = b := by simpa using h7
  simp [results, Try.results24, asAddr, h6', h7', hl]
theorem rowAt_row {w : World} {b : Nat} {cs : Array Value} {t : TypeId} {fr : Nat × Nat} (h : w.heap[b]? = some (.cells cs t fr)) : rowAt w b 0 cs.size = some cs := by
  unfold rowAt
  rw [h]
  simp
set_option maxRecDepth 100000 in
set_option maxHeartbeats 1000000 in
theorem answer_c (g : Nat) (c : Config) (late calls t v : Int) (op : Bool) (w : World) (h : PlAt g c late calls w) (l0 : 0 ≤ late) (l3 : late ≤ 3) (t0 : 0 ≤ t) (t1 : t ≤ 10000000) (v0 : 0 ≤ v) (v1 : v < 8589934592) :
    Calls Try.prog 34 #[.pointer (some ⟨g, 0, none⟩), .int .i64 t, .int .i64 v, .bool op] w fun e w' => e = .returned (.tuple #[.agg (Plan.arr ⟨calls, t + 2 + 2 * late, v % 2147483648⟩), .bool (!op)]) ∧ Below w.heap.size w w' := by
  obtain ⟨c5, c7, c13, c14, c15, _⟩ := h.cells
  have hg := (Array.getElem?_eq_some_iff.1 h).1
  have HB := Lib.hid h
  go_enter Try.func34, Try.ntmps34
  go_wp2
  obtain ⟨w0, hw0⟩ : ∃ w0, w0 = w.alloc (Obj.cells #[Value.int IntKind.i64 0, Value.int IntKind.i64 0, Value.int IntKind.i64 0] 51) := ⟨_, rfl⟩
  have d14 : w0.cell? ⟨g, 14, none⟩ = some (.int .i64 late) := by rw [hw0, World.cell?_of_block (w := w) (Below.heap_alloc w _ _ hg)]; exact c14
  have d15 : w0.cell? ⟨g, 15, none⟩ = some (.int .i64 calls) := by rw [hw0, World.cell?_of_block (w := w) (Below.heap_alloc w _ _ hg)]; exact c15
  rw [← hw0]
  have e1 : IntKind.i64.wrap (t + 2) = t + 2 := IntWalk.i64_in _ (by omega)
  have e2 : IntKind.i64.wrap (2 * late) = 2 * late := IntWalk.i64_in _ (by omega)
  have e3 : IntKind.i64.wrap (t + 2 + 2 * late) = t + 2 + 2 * late := IntWalk.i64_in _ (by omega)
  have e4 : v.tmod 2147483648 = v % 2147483648 := Int.tmod_eq_emod_of_nonneg v0
  have e5 : IntKind.i64.wrap (v % 2147483648) = v % 2147483648 := IntWalk.i64_in _ (by omega)
  clear c5 c7 c13 c14 c15 h
  refine wp_region_T 18 [17, 18] (fun W => W.heap[g]? = w0.heap[g]?) (by kernel_rfl) (by kernel_rfl) (by repeat (first | exact trivial | refine ⟨.inl rfl, ?_⟩ | refine ⟨.inr fun _ _ _ _ h => h, ?_⟩)) ?_ ?_
  · rfl
  repeat ((first | (refine wpT_q (by rfl) (by rfl) ?_ ?_ ?_; rotate_left; focus (rintro W hS; have s0 := (World.cell?_of_block hS).trans d14; have s1 := (World.cell?_of_block hS).trans d15; go_simp; try (with_reducible rfl); done)) | refine wpT_skip (by rfl) (by rfl) ?_); try simp only [Act.put, List.setIfInBounds_toArray, List.set_cons_succ, List.set_cons_zero])
  refine wpT_a (by rfl) (by rfl) fun K hK => ?_
  have hS0 : ∀ X : Array Value, (w.alloc (Obj.cells X 51)).heap[g]? = w0.heap[g]? := fun X => (Below.heap_alloc w _ g hg).trans (by rw [hw0]; exact (Below.heap_alloc w _ g hg).symm)
  rw [hw0]
  go_simp
  refine hK _ _ (fun _ => hS0 _) ?_; clear hK K; try simp only [Act.put, List.setIfInBounds_toArray, List.set_cons_succ, List.set_cons_zero]
  refine wpT_a (by rfl) (by rfl) fun K hK => ?_
  go_simp
  refine hK _ _ (fun h => absurd h (by omega)) ?_; clear hK K; try simp only [Act.put, List.setIfInBounds_toArray, List.set_cons_succ, List.set_cons_zero]
  refine wpT_nil ?_
  clear hS0 d14 d15
  go_wp2
  exact bodyPost_ret (v := .tuple #[.agg #[.int .i64 calls, .int .i64 (t + 2 + 2 * late), .int .i64 (v % 2147483648)], .bool (!op)]) (by simp [results, Try.results34, go_sem]) rfl ⟨rfl, ((Below.refl _ w).alloc (Nat.le_refl _) _).drew⟩
end Go.Proofs.Ytofifeicbhbgpaa
