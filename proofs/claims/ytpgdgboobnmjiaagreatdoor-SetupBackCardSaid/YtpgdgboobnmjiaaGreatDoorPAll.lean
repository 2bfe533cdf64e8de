/- All programs of a configuration: the program's All, the document's. -/
import Derived.Test.YtpgdgboobnmjiaaGreatDoorPV
namespace Go.Proofs.YtpgdgboobnmjiaaGreatDoor
open Go.RowKit Go.Shelf
set_option linter.unusedVariables false
set_option linter.unusedSimpArgs false
def T.pall (ps : List PV) (n : Int) : Bool := ps.all fun p => T.pright p.xs n ps.length
attribute [local go_sem] Config.sz bw_cell
set_option maxRecDepth 100000 in
set_option maxHeartbeats 4000000 in
theorem allClosure_c (p : PV) (n : Int) (A : Option Addr) (m cap : Nat) (b : Nat) (w : World) (hp : PV.ok w p) (hb : b < w.heap.size) (c0 : w.cell? ⟨b, 0, none⟩ = some (.int .i64 n)) (c13 : w.cell? ⟨b, 13, none⟩ = some (.slice A m cap)) :
    Calls Tryz.prog 33 #[p.v, .pointer (some ⟨b, 0, none⟩)] w fun r w' => r = .returned (.bool (!T.pright p.xs n m)) ∧ Below w.heap.size w w' := by
  obtain ⟨A2, cap2, hv, _, hl, _⟩ := hp.1.view
  have hr := pright_c p.v p.xs n m w hp.1 hl
  rw [hv] at hr ⊢
  generalize p.xs.length = pl at *
  rcases ho : T.pright p.xs n m with _ | _
  all_goals
    rw [ho] at hr
    clear ho hv hp
    go_enter Tryz.func33, Tryz.ntmps33
    go_wp2_with (go_at_call 21; (with_reducible refine hr.mono ?_); rintro r w2 ⟨rfl, hb2⟩)
    go_ret
    exact ⟨rfl, hb2⟩
set_option maxRecDepth 100000 in
set_option maxHeartbeats 4000000 in
theorem pall_c (c : Config) (ps : List PV) (w : World) (h : Sl PV.arr 1 w.heap.size w c.progs ps) (hok : ∀ p ∈ ps, PV.ok w p) :
    Calls Tryz.prog 19 #[.agg (Config.arr c)] w fun r w' => r = .returned (.bool (T.pall ps c.nodes)) ∧ Below w.heap.size w w' := by
  obtain ⟨A, cap, hv, hcap, hl1, hl2⟩ := h.view
  obtain ⟨W1, hW1⟩ : ∃ W1, W1 = w.alloc (.cells (Config.arr c) 24) := ⟨_, rfl⟩
  have hB1 : Below w.heap.size w W1 := by rw [hW1]; exact (Below.refl _ w).alloc (Nat.le_refl _) _
  have hz1 : w.heap.size < W1.heap.size := by rw [hW1]; simp
  have hr : rowAt W1 w.heap.size 0 14 = some (Config.arr c) := by rw [hW1]; exact rowAt_new _ _ _ _ _ rfl
  have c0 : W1.cell? ⟨w.heap.size, 0, none⟩ = some (.int .i64 c.nodes) := rowAt_cell hr 0 (by omega)
  have c13 : W1.cell? ⟨w.heap.size, 13, none⟩ = some c.progs := rowAt_cell hr 13 (by omega)
  rw [hv] at c13
  have hcf := containsPV_c W1.heap.size 33 (enters_of Tryz.func33 (by kernel_rfl) rfl) [.pointer (some ⟨w.heap.size, 0, none⟩)] (fun p => !T.pright p.xs c.nodes ps.length) _ ps W1 (Nat.le_refl _) ((h.below hB1).mono hB1.size) (fun x hx => PV.shape (hok x hx)) (fun x hx X hX =>
    allClosure_c x c.nodes A ps.length cap _ X (PV.below (PV.below (hok x hx) hB1) hX) (by have := hX.size; omega) ((hX.cell (p := ⟨w.heap.size, 0, none⟩) hz1).trans c0) ((hX.cell (p := ⟨w.heap.size, 13, none⟩) hz1).trans c13))
  have hany : ps.any (fun p => !T.pright p.xs c.nodes ps.length) = !(T.pall ps c.nodes) := by unfold T.pall; rw [List.all_eq_not_any_not, Bool.not_not]
  rw [hany, hv] at hcf
  generalize T.pall ps c.nodes = b at *
  have HW := Lib.hid hW1
  clear hW1 hany h hok hv c0 hr
  rcases b with _ | _
  all_goals
    go_enter Tryz.func19, Tryz.ntmps19
    go_upto_region 1 with (fail)
    rw [← HW.out]
    go_wp2_with (go_at_call 32; (with_reducible refine hcf.mono ?_); rintro r w2 ⟨rfl, hb2⟩)
    go_ret
    exact ⟨rfl, bthen hB1 hb2⟩
end Go.Proofs.YtpgdgboobnmjiaaGreatDoor
