/- program.Right, program.All. -/
import Derived.Test.YtofifeicbhbgpaaStepsB
import Derived.Shelf.Abstract
namespace Go.Proofs.Ytofifeicbhbgpaa
open Go.RowKit Go.Shelf
def valArr (v : Value) : Array Value := #[v]
set_option linter.unusedVariables false
set_option linter.unusedSimpArgs false
attribute [local go_sem] GoOp.sz GoOp.at0 GoOp.at1 GoOp.at2 Config.sz Config.at0 Config.at13

set_option maxRecDepth 100000 in
set_option maxHeartbeats 1000000 in
theorem rightF_c (o : GoOp) (n m : Int) (b1 b2 : Nat) (w : World) (h1 : w.cell? ⟨b1, 0, none⟩ = some (.int .i64 n)) (h2 : w.cell? ⟨b2, 0, none⟩ = some (.int .i64 m)) :
    Calls Try.prog 52 #[.agg (GoOp.arr o), .pointer (some ⟨b1, 0, none⟩), .pointer (some ⟨b2, 0, none⟩)] w fun e w' => e = .returned (.bool (!T.opOk o n m)) ∧ Below w.heap.size w w' := by
  have l1 := World.block_lt_of_cell? w _ h1
  have l2 := World.block_lt_of_cell? w _ h2
  have p1 : rowAt (w.alloc (Obj.cells (GoOp.arr o) 71)) w.heap.size 0 3 = some (GoOp.arr o) := rowAt_new _ _ _ _ _ rfl
  have c1 : (w.alloc (Obj.cells (GoOp.arr o) 71)).cell? ⟨b1, 0, none⟩ = some (.int .i64 n) := by rw [World.cell?_of_block (w := w) (Below.heap_alloc w _ _ l1)]; exact h1
  have c2 : (w.alloc (Obj.cells (GoOp.arr o) 71)).cell? ⟨b2, 0, none⟩ = some (.int .i64 m) := by rw [World.cell?_of_block (w := w) (Below.heap_alloc w _ _ l2)]; exact h2
  go_enter Try.func52, Try.ntmps52
  go_wp2_with (first | (refine wpList_load_at rfl 71 _ rfl _ (0) 3 rfl _ _ p1 rfl rfl rfl ?_) | (go_at_call 53; (with_reducible refine (op_c _ _ _ _).mono ?_); rintro e w1 ⟨rfl, hb1⟩))
  go_ret
  exact ⟨rfl, ((Below.refl _ _).alloc (Nat.le_refl _) _).trans (hb1.mono (by simp))⟩
def T.rightOk (l : List GoOp) (n m : Int) : Bool := decide (l.length ≤ 16) && l.all fun o => T.opOk o n m
theorem T.any_not {α : Type} (p : α → Bool) (l : List α) : (!l.any fun x => !p x) = l.all p := by
  induction l with
  | nil => rfl
  | cons a l ih => simp only [List.any_cons, List.all_cons, Bool.not_or, Bool.not_not, ih]
set_option maxRecDepth 100000 in
set_option maxHeartbeats 1000000 in
theorem right_ops (v : Value) (l : List GoOp) (n m : Int) (w : World) (h : Sl GoOp.arr 3 w.heap.size w v l) :
    Calls Try.prog 33 #[v, .int .i64 n, .int .i64 m] w fun e w' => e = .returned (.bool (T.rightOk l n m)) ∧ Below w.heap.size w w' := by
  obtain ⟨A, cap, rfl, hcap, hl1, hl2⟩ := h.view
  have hB : Below w.heap.size w ((w.alloc (Obj.cells #[.int .i64 n] 3)).alloc (Obj.cells #[.int .i64 m] 3)) := ((Below.refl _ w).alloc (Nat.le_refl _) _).alloc (by simp) _
  by_cases h16 : l.length ≤ 16
  case neg =>
    have hr := Lib.hid (show T.rightOk l n m = false by simp [T.rightOk, h16])
    have HB := Lib.hid hB
    have h' : decide ((l.length : Int) ≤ 16) = false := by simp; omega
    clear hB
    go_enter Try.func33, Try.ntmps33
    go_wp2
    go_ret
    exact ⟨ret_bool hr.out.symm, HB.out⟩
  have hr := Lib.hid (show T.rightOk l n m = !(l.any fun o => !T.opOk o n m) by rw [T.any_not]; simp [T.rightOk, h16])
  have h' : decide ((l.length : Int) ≤ 16) = true := by simp; omega
  obtain ⟨w1, hw1⟩ : ∃ w1, w1 = (w.alloc (Obj.cells #[.int .i64 n] 3)).alloc (Obj.cells #[.int .i64 m] 3) := ⟨_, rfl⟩
  rw [← hw1] at hB
  have c1 : w1.cell? ⟨w.heap.size, 0, none⟩ = some (.int .i64 n) := by rw [hw1]; go_simp
  have c2 : w1.cell? ⟨w.heap.size + 1, 0, none⟩ = some (.int .i64 m) := by rw [hw1]; go_simp
  have hlt : w.heap.size + 1 < w1.heap.size := by rw [hw1]; simp
  have hc := containsOp_c w1.heap.size 52 (enters_of Try.func52 (by kernel_rfl) rfl) [.pointer (some ⟨w.heap.size, 0, none⟩), .pointer (some ⟨w.heap.size + 1, 0, none⟩)] (fun o => !T.opOk o n m) _ l w1 (Nat.le_refl _) ((h.below hB).mono hB.size)
    (fun x _ W hW => rightF_c x n m _ _ W ((hW.cell (p := ⟨w.heap.size, 0, none⟩) (show w.heap.size < _ by omega)).trans c1) ((hW.cell (p := ⟨w.heap.size + 1, 0, none⟩) hlt).trans c2))
  clear c1 c2 h16
  go_enter Try.func33, Try.ntmps33
  go_wp2_with fail
  rw [← hw1]
  refine hc.mono ?_
  rintro e w2 ⟨rfl, hb2⟩
  go_wp2
  go_ret
  exact ⟨ret_bool hr.out.symm, bthen hB hb2⟩

/-- Programs as they came in: a slice of slices. -/
def Progs (B : Nat) (w : World) (v : Value) (zs : List (Value × List GoOp)) : Prop :=
  Sl valArr 1 B w v (zs.map (·.1)) ∧ ∀ z ∈ zs, Sl GoOp.arr 3 B w z.1 z.2
theorem Progs.below {B : Nat} {w w1 : World} {v : Value} {zs : List (Value × List GoOp)} (h : Progs B w v zs) (hb : Below B w w1) : Progs B w1 v zs := ⟨h.1.below hb, fun z hz => (h.2 z hz).below hb⟩
theorem Progs.mono {B B' : Nat} {w : World} {v : Value} {zs : List (Value × List GoOp)} (h : Progs B w v zs) (hb : B ≤ B') : Progs B' w v zs := ⟨h.1.mono hb, fun z hz => (h.2 z hz).mono hb⟩
set_option maxRecDepth 100000 in
set_option maxHeartbeats 1000000 in
theorem indexOps_c (B : Nat) (f : FuncId) (eg : ∀ args w, (callFunc f args).run Try.prog w = .ok (.enter f args) w) (lb : List Value) (p : (Value × List GoOp) → Bool) (v : Value) (zs : List (Value × List GoOp)) (w : World) (hBw : B ≤ w.heap.size) (h : Progs w.heap.size w v zs) (hp : Answers (fun z => z.1) f lb p B w zs) :
    Calls Try.prog 50 #[v, .func (.func f) #[] lb.toArray] w fun e w' => e = .returned (.int .i64 (T.idx p zs)) ∧ Below w.heap.size w w' := by
  obtain ⟨h, hin⟩ := h
  obtain ⟨A, cap, rfl, hcap, hl1, hl2⟩ := h.view
  have HP := Lib.hid hp
  have HIN := Lib.hid hin
  have hlen : (zs.map (·.1)).length = zs.length := by simp
  clear hp hin
  rw [hlen] at h hcap hl1 ⊢
  go_enter Try.func50, Try.ntmps50
  go_wp2
  go_loopw [8] (fun iv wr => ∃ k : Nat, k ≤ zs.length ∧ iv = .int .i64 (k : Int) ∧ Hid (∀ y ∈ zs.take k, p y = false) ∧ Below w.heap.size w wr) (fun iv _ => zs.length - (intOf iv).toNat)
  case atStart => exact ⟨0, Nat.zero_le _, rfl, Lib.hid (by simp), Below.refl _ _⟩
  case round =>
    obtain ⟨k, hk, rfl, hall, hB⟩ := hrel
    by_cases hkl : k < zs.length
    · obtain ⟨b, off, rfl, hb, hrow, _⟩ := (h.below hB).at (k := k) (by rw [hlen]; exact hkl)
      obtain ⟨x, hx⟩ : ∃ x, x = zs[k] := ⟨_, rfl⟩
      have hxm : (zs.map (·.1))[k]'(by rw [hlen]; exact hkl) = x.1 := by rw [hx]; simp
      rw [hxm] at hrow
      have c0 := rowAt_cell hrow 0 (by omega)
      have c0 : wr.cell? ⟨b, off + k, none⟩ = some x.1 := by simpa [valArr] using c0
      have hxo : zs[k]? = some x := by rw [hx]; exact List.getElem?_eq_getElem hkl
      obtain ⟨xA, xcap, hxv, _⟩ := (HIN.out x (List.mem_of_getElem? hxo)).view
      have hc := HP.out x (List.mem_of_getElem? hxo) wr (hB.mono hBw)
      have hnext : zs.take (k + 1) = zs.take k ++ [x] := by rw [hx]; simp
      obtain ⟨xv, xl⟩ := x
      simp only at hxv
      subst hxv
      have HN := Lib.hid hnext
      have HX := Lib.hid hxo
      have HC := Lib.hid hc
      clear hx hxo hnext hc hxm hrow
      rcases hpx : p (.slice xA xl.length xcap, xl) with _ | _
      · rw [hpx] at HC
        have hz := Lib.hid (show ∀ y ∈ zs.take (k + 1), p y = false by
          rw [HN.out]; intro y hy; rcases List.mem_append.1 hy with hy | hy
          · exact hall.out y hy
          · simp at hy; rw [hy]; exact hpx)
        clear hpx
        go_wp2_with ((with_reducible refine HC.out.mono ?_); rintro e w1 ⟨rfl, hb1⟩)
        go_roundw
        case rel => exact ⟨k + 1, by omega, by go_num, hz, bthen hB hb1⟩
        case measure => simp [intOf]; omega
      · rw [hpx] at HC
        have HI := Lib.hid (T.idx_hit p zs k _ HX.out hpx hall.out)
        clear hpx
        go_wp2_with ((with_reducible refine HC.out.mono ?_); rintro e w1 ⟨rfl, hb1⟩)
        go_ret
        exact ⟨ret_int HI.out.symm, bthen hB hb1⟩
    · rw [List.take_of_length_le (by omega)] at hall
      have HI := Lib.hid (T.idx_none p zs hall.out)
      go_wp2
      go_ret
      exact ⟨ret_int HI.out.symm, hB⟩
theorem containsOps_c (B : Nat) (f : FuncId) (eg : ∀ args w, (callFunc f args).run Try.prog w = .ok (.enter f args) w) (lb : List Value) (p : (Value × List GoOp) → Bool) (v : Value) (zs : List (Value × List GoOp)) (w : World) (hBw : B ≤ w.heap.size) (h : Progs w.heap.size w v zs) (hp : Answers (fun z => z.1) f lb p B w zs) :
    Calls Try.prog 31 #[v, .func (.func f) #[] lb.toArray] w fun e w' => e = .returned (.bool (zs.any p)) ∧ Below w.heap.size w w' := by
  have hi := indexOps_c B f eg lb p _ zs w hBw h hp
  obtain ⟨A, cap, rfl, hcap, hl1, hl2⟩ := h.1.view
  rw [List.length_map] at hi hcap hl1 ⊢
  have HA := Lib.hid (T.idx_any p zs)
  obtain ⟨i, hii⟩ : ∃ i, i = T.idx p zs := ⟨_, rfl⟩
  rw [← hii] at hi
  have HI := Lib.hid hii
  clear hii hp
  go_enter Try.func31, Try.ntmps31
  go_wp2_with (go_at_call 50; (with_reducible refine hi.mono ?_); rintro e w1 ⟨rfl, hb1⟩)
  go_ret
  exact ⟨ret_bool (by have := HA.out; rw [← HI.out] at this; simpa using this), hb1⟩

set_option maxRecDepth 100000 in
set_option maxHeartbeats 1000000 in
theorem allF_c (c : Config) (l : List GoOp) (v : Value) (zs : List (Value × List GoOp)) (b1 : Nat) (w : World) (hz : Progs w.heap.size w c.progs zs) (h : Sl GoOp.arr 3 w.heap.size w v l) (h1 : w.cell? ⟨b1, 0, none⟩ = some (.int .i64 c.nodes)) (h2 : w.cell? ⟨b1, 13, none⟩ = some c.progs) :
    Calls Try.prog 32 #[v, .pointer (some ⟨b1, 0, none⟩)] w fun e w' => e = .returned (.bool (!T.rightOk l c.nodes zs.length)) ∧ Below w.heap.size w w' := by
  obtain ⟨A, cap, rfl, hcap, hl1, hl2⟩ := h.view
  obtain ⟨A', cap', hv, hcap', hl1', hl2'⟩ := hz.1.view
  rw [List.length_map] at hv hcap' hl1'
  rw [hv] at h2
  have hr := right_ops _ l c.nodes zs.length w h
  clear hv hz h
  go_enter Try.func32, Try.ntmps32
  go_wp2_with (go_at_call 33; (with_reducible refine hr.mono ?_); rintro e w1 ⟨rfl, hb1⟩)
  go_ret
  exact ⟨rfl, hb1⟩
def T.allOk (c : Config) (zs : List (Value × List GoOp)) : Bool := zs.all fun z => T.rightOk z.2 c.nodes zs.length
set_option maxRecDepth 100000 in
set_option maxHeartbeats 1000000 in
theorem all_c (c : Config) (zs : List (Value × List GoOp)) (w : World) (hz : Progs w.heap.size w c.progs zs) :
    Calls Try.prog 23 #[.agg (Config.arr c)] w fun e w' => e = .returned (.bool (T.allOk c zs)) ∧ Below w.heap.size w w' := by
  have hr := Lib.hid (show T.allOk c zs = !(zs.any fun z => !T.rightOk z.2 c.nodes zs.length) by rw [T.any_not]; rfl)
  obtain ⟨w1, hw1⟩ : ∃ w1, w1 = w.alloc (Obj.cells (Config.arr c) 40) := ⟨_, rfl⟩
  have hB : Below w.heap.size w w1 := by rw [hw1]; exact (Below.refl _ w).alloc (Nat.le_refl _) _
  have hblk : w1.heap[w.heap.size]? = some (.cells (Config.arr c) 40 (0, 0)) := by rw [hw1]; exact heap_alloc_new _ _
  have c1 : w1.cell? ⟨w.heap.size, 0, none⟩ = some (.int .i64 c.nodes) := by simp [World.cell?, hblk, Config.at0]
  have c2 : w1.cell? ⟨w.heap.size, 13, none⟩ = some c.progs := by simp [World.cell?, hblk, Config.at13]
  have hlt : w.heap.size < w1.heap.size := by rw [hw1]; simp
  have hz1 := (hz.below hB).mono hB.size
  obtain ⟨A', cap', hv, _⟩ := hz.1.view
  have hc := containsOps_c w1.heap.size 32 (enters_of Try.func32 (by kernel_rfl) rfl) [.pointer (some ⟨w.heap.size, 0, none⟩)] (fun z => !T.rightOk z.2 c.nodes zs.length) _ zs w1 (Nat.le_refl _) hz1
    (fun x hx W hW => allF_c c x.2 x.1 zs _ W ((hz1.below hW).mono hW.size) (((hz1.2 x hx).below hW).mono hW.size) ((hW.cell (p := ⟨w.heap.size, 0, none⟩) hlt).trans c1) ((hW.cell (p := ⟨w.heap.size, 13, none⟩) hlt).trans c2))
  clear hz hz1 c1 c2 hv hblk
  go_enter Try.func23, Try.ntmps23
  go_wp2_with fail
  rw [← hw1]
  refine hc.mono ?_
  rintro e w2 ⟨rfl, hb2⟩
  go_wp2
  go_ret
  exact ⟨ret_bool hr.out.symm, bthen hB hb2⟩
end Go.Proofs.Ytofifeicbhbgpaa
