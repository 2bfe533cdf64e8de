/- audit: its closures. -/
import Derived.Test.YtofifeicbhbgpaaDoorAuditE
namespace Go.Proofs.YtofifeicbhbgpaaDoor
open Go.RowKit
set_option linter.unusedVariables false
set_option linter.unusedSimpArgs false
section
attribute [local go_sem] Event.sz Key.sz Id.sz
attribute [local go_sem high] eqTKey eqTId
def T.pLost (e x : Event) : Bool := decide (x.key = e.key) && (decide (x.parent = e.parent) && (decide (x.root = e.root) && (x.hop == e.hop)))
set_option maxRecDepth 100000 in
set_option maxHeartbeats 1000000 in
theorem lostF_c (e x : Event) (b : Nat) (w : World) (h : rowAt w b 0 18 = some (Event.arr e)) :
    Calls Tryd.prog 54 #[.agg (Event.arr x), .pointer (some ⟨b, 0, none⟩)] w fun r w' => r = .returned (.bool (T.pLost e x)) ∧ Below w.heap.size w w' := by
  obtain ⟨h1, h2, hB⟩ := Event.boxed (x := x) h 55
  obtain ⟨k1, k2, k3, _⟩ := Event.parts h1
  obtain ⟨_, _, _, _, k4, _⟩ := Event.cells h1
  obtain ⟨x1, x2, x3, _⟩ := Event.parts h2
  obtain ⟨_, _, _, _, x4, _⟩ := Event.cells h2
  simp only [Nat.zero_add] at k1 k2 k3 k4 x1 x2 x3 x4
  have HB := Lib.hid hB
  clear hB h1 h2
  rcases and4 (decide (x.key = e.key)) (decide (x.parent = e.parent)) (decide (x.root = e.root)) (x.hop == e.hop) with ⟨hr, g1⟩ | ⟨hr, g1, g2⟩ | ⟨hr, g1, g2, g3⟩ | ⟨hr, g1, g2, g3, g4⟩ | ⟨hr, g1, g2, g3, g4⟩
  all_goals
    have HR := Lib.hid hr
    clear hr
    go_enter Tryd.func54, Tryd.ntmps54
    go_wp2_with (first | (refine wpList_load_at_v 53 _ rfl rfl _ (4) 4 rfl _ _ x1 rfl rfl rfl ?_) | (refine wpList_load_at_v 53 _ rfl rfl _ (4) 4 rfl _ _ k1 rfl rfl rfl ?_) | (refine wpList_load_at_v 53 _ rfl rfl _ (8) 4 rfl _ _ x2 rfl rfl rfl ?_) | (refine wpList_load_at_v 53 _ rfl rfl _ (8) 4 rfl _ _ k2 rfl rfl rfl ?_) | (refine wpList_load_at_v 51 _ rfl rfl _ (12) 3 rfl _ _ x3 rfl rfl rfl ?_) | (refine wpList_load_at_v 51 _ rfl rfl _ (12) 3 rfl _ _ k3 rfl rfl rfl ?_))
    go_ret
    exact ⟨ret_bool HR.out.symm, HB.out⟩
def T.p_root (e x : Event) : Bool := decide (x.root = e.root)
set_option maxRecDepth 100000 in
set_option maxHeartbeats 1000000 in
theorem rootF_c (e x : Event) (b : Nat) (w : World) (h : rowAt w b 0 18 = some (Event.arr e)) :
    Calls Tryd.prog 57 #[.agg (Event.arr x), .pointer (some ⟨b, 0, none⟩)] w fun r w' => r = .returned (.bool (T.p_root e x)) ∧ Below w.heap.size w w' := by
  obtain ⟨h1, h2, hB⟩ := Event.boxed (x := x) h 55
  obtain ⟨k1, k2, k3, _⟩ := Event.parts h1
  obtain ⟨x1, x2, x3, _⟩ := Event.parts h2
  simp only [Nat.zero_add] at k1 k2 k3 x1 x2 x3
  have HB := Lib.hid hB
  clear hB h1 h2
  go_enter Tryd.func57, Tryd.ntmps57
  go_wp2_with (first | (refine wpList_load_at rfl 53 _ rfl _ (4) 4 rfl _ _ x1 rfl rfl rfl ?_) | (refine wpList_load_at rfl 53 _ rfl _ (4) 4 rfl _ _ k1 rfl rfl rfl ?_) | (refine wpList_load_at rfl 51 _ rfl _ (12) 3 rfl _ _ x3 rfl rfl rfl ?_) | (refine wpList_load_at rfl 51 _ rfl _ (12) 3 rfl _ _ k3 rfl rfl rfl ?_))
  go_ret
  exact ⟨rfl, HB.out⟩
def T.p_key (e x : Event) : Bool := decide (x.key = e.key)
set_option maxRecDepth 100000 in
set_option maxHeartbeats 1000000 in
theorem keyF_c (e x : Event) (b : Nat) (w : World) (h : rowAt w b 0 18 = some (Event.arr e)) :
    Calls Tryd.prog 63 #[.agg (Event.arr x), .pointer (some ⟨b, 0, none⟩)] w fun r w' => r = .returned (.bool (T.p_key e x)) ∧ Below w.heap.size w w' := by
  obtain ⟨h1, h2, hB⟩ := Event.boxed (x := x) h 55
  obtain ⟨k1, k2, k3, _⟩ := Event.parts h1
  obtain ⟨x1, x2, x3, _⟩ := Event.parts h2
  simp only [Nat.zero_add] at k1 k2 k3 x1 x2 x3
  have HB := Lib.hid hB
  clear hB h1 h2
  go_enter Tryd.func63, Tryd.ntmps63
  go_wp2_with (first | (refine wpList_load_at rfl 53 _ rfl _ (4) 4 rfl _ _ x1 rfl rfl rfl ?_) | (refine wpList_load_at rfl 53 _ rfl _ (4) 4 rfl _ _ k1 rfl rfl rfl ?_) | (refine wpList_load_at rfl 51 _ rfl _ (12) 3 rfl _ _ x3 rfl rfl rfl ?_) | (refine wpList_load_at rfl 51 _ rfl _ (12) 3 rfl _ _ k3 rfl rfl rfl ?_))
  go_ret
  exact ⟨rfl, HB.out⟩
def T.pMine (e x : Event) : Bool := decide (x.key.id = e.key.id)
set_option maxRecDepth 100000 in
set_option maxHeartbeats 1000000 in
theorem mineF_c (e x : Event) (b : Nat) (w : World) (h : rowAt w b 0 18 = some (Event.arr e)) :
    Calls Tryd.prog 59 #[.agg (Event.arr x), .pointer (some ⟨b, 0, none⟩)] w fun r w' => r = .returned (.bool (T.pMine e x)) ∧ Below w.heap.size w w' := by
  obtain ⟨h1, h2, hB⟩ := Event.boxed (x := x) h 55
  obtain ⟨_, _, _, k1⟩ := Event.parts h1
  obtain ⟨_, _, _, x1⟩ := Event.parts h2
  simp only [Nat.zero_add] at k1 x1
  have HB := Lib.hid hB
  clear hB h1 h2
  go_enter Tryd.func59, Tryd.ntmps59
  go_wp2_with (first | (refine wpList_load_at rfl 51 _ rfl _ (4) 3 rfl _ _ x1 rfl rfl rfl ?_) | (refine wpList_load_at rfl 51 _ rfl _ (4) 3 rfl _ _ k1 rfl rfl rfl ?_))
  go_ret
  exact ⟨rfl, HB.out⟩
theorem and5 (a b c d f : Bool) : ((a && (b && (c && (d && f)))) = false ∧ a = false) ∨ ((a && (b && (c && (d && f)))) = false ∧ a = true ∧ b = false) ∨ ((a && (b && (c && (d && f)))) = false ∧ a = true ∧ b = true ∧ c = false) ∨ ((a && (b && (c && (d && f)))) = false ∧ a = true ∧ b = true ∧ c = true ∧ d = false) ∨ ((a && (b && (c && (d && f)))) = f ∧ a = true ∧ b = true ∧ c = true ∧ d = true) := by cases a <;> cases b <;> cases c <;> cases d <;> cases f <;> simp
def T.pBy (e x : Event) : Bool := (x.node == e.node) && (decide (x.root = e.root) && (decide (x.key = e.parent) && (decide (1 ≤ e.hop) && (x.hop == e.hop - 1))))
set_option maxRecDepth 100000 in
set_option maxHeartbeats 4000000 in
theorem byF_c (e x : Event) (hh : e.hop ≤ 9223372036854775807) (b : Nat) (w : World) (h : rowAt w b 0 18 = some (Event.arr e)) :
    Calls Tryd.prog 60 #[.agg (Event.arr x), .pointer (some ⟨b, 0, none⟩)] w fun r w' => r = .returned (.bool (T.pBy e x)) ∧ Below w.heap.size w w' := by
  obtain ⟨h1, h2, hB⟩ := Event.boxed (x := x) h 55
  obtain ⟨_, k2, k3, _⟩ := Event.parts h1
  obtain ⟨_, _, kn, _, k4, _⟩ := Event.cells h1
  obtain ⟨x1, _, x3, _⟩ := Event.parts h2
  obtain ⟨_, _, xn, _, x4, _⟩ := Event.cells h2
  simp only [Nat.zero_add] at k2 k3 k4 kn x1 x3 x4 xn
  have HB := Lib.hid hB
  clear hB h1 h2
  rcases and5 (x.node == e.node) (decide (x.root = e.root)) (decide (x.key = e.parent)) (decide (1 ≤ e.hop)) (x.hop == e.hop - 1) with ⟨hr, g1⟩ | ⟨hr, g1, g2⟩ | ⟨hr, g1, g2, g3⟩ | ⟨hr, g1, g2, g3, g4⟩ | ⟨hr, g1, g2, g3, g4⟩
  all_goals
    have HR := Lib.hid hr
    clear hr
    try have hq : 1 ≤ e.hop := of_decide_eq_true g4
    go_enter Tryd.func60, Tryd.ntmps60
    go_wp2_with (first | (refine wpList_load_at_v 51 _ rfl rfl _ (12) 3 rfl _ _ x3 rfl rfl rfl ?_) | (refine wpList_load_at_v 51 _ rfl rfl _ (12) 3 rfl _ _ k3 rfl rfl rfl ?_) | (refine wpList_load_at_v 53 _ rfl rfl _ (4) 4 rfl _ _ x1 rfl rfl rfl ?_) | (refine wpList_load_at_v 53 _ rfl rfl _ (8) 4 rfl _ _ k2 rfl rfl rfl ?_))
    go_ret
    exact ⟨ret_bool HR.out.symm, HB.out⟩
def T.pStart (e x y : Event) : Bool := decide (y.key = x.key) && decide (y.parent = e.key)
set_option maxRecDepth 100000 in
set_option maxHeartbeats 1000000 in
theorem startF_c (e x y : Event) (bx b : Nat) (w : World) (hx : rowAt w bx 0 18 = some (Event.arr x)) (h : rowAt w b 0 18 = some (Event.arr e)) :
    Calls Tryd.prog 65 #[.agg (Event.arr y), .pointer (some ⟨bx, 0, none⟩), .pointer (some ⟨b, 0, none⟩)] w fun r w' => r = .returned (.bool (T.pStart e x y)) ∧ Below w.heap.size w w' := by
  obtain ⟨h1, h2, hB⟩ := Event.boxed (x := y) h 55
  obtain ⟨hx1, _, _⟩ := Event.boxed (x := y) hx 55
  obtain ⟨k1, _⟩ := Event.parts h1
  obtain ⟨x1, _⟩ := Event.parts hx1
  obtain ⟨y1, y2, _⟩ := Event.parts h2
  simp only [Nat.zero_add] at k1 x1 y1 y2
  have HB := Lib.hid hB
  clear hB h1 h2 hx1
  rcases and2 (decide (y.key = x.key)) (decide (y.parent = e.key)) with ⟨hr, g1⟩ | ⟨hr, g1, g2⟩ | ⟨hr, g1, g2⟩
  all_goals
    have HR := Lib.hid hr
    clear hr
    go_enter Tryd.func65, Tryd.ntmps65
    go_wp2_with (first | (refine wpList_load_at_v 53 _ rfl rfl _ (4) 4 rfl _ _ y1 rfl rfl rfl ?_) | (refine wpList_load_at_v 53 _ rfl rfl _ (4) 4 rfl _ _ x1 rfl rfl rfl ?_) | (refine wpList_load_at_v 53 _ rfl rfl _ (8) 4 rfl _ _ y2 rfl rfl rfl ?_) | (refine wpList_load_at_v 53 _ rfl rfl _ (4) 4 rfl _ _ k1 rfl rfl rfl ?_))
    go_ret
    exact ⟨ret_bool HR.out.symm, HB.out⟩
end

end Go.Proofs.YtofifeicbhbgpaaDoor
