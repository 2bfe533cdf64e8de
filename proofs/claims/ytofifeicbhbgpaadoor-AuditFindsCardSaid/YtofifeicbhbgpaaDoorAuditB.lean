/- audit: any, count, first. -/
import Derived.Test.YtofifeicbhbgpaaDoorAuditA
import Derived.Shelf.Abstract
namespace Go.Proofs.YtofifeicbhbgpaaDoor
open Go.RowKit Go.Shelf
set_option linter.unusedVariables false
set_option linter.unusedSimpArgs false
attribute [local go_sem] Event.sz

/-- A function value that answers on events. -/
abbrev AnswersE (f : FuncId) (lb : List Value) (p : Event → Bool) (B : Nat) (w : World) (xs : List Event) : Prop := Answers (fun x : Event => .agg (Event.arr x)) f lb p B w xs
theorem Answers.on {α : Type} {arg : α → Value} {f : FuncId} {lb : List Value} {p : α → Bool} {B : Nat} {w w1 : World} {xs : List α} (h : Answers arg f lb p B w xs) (hb : Below B w w1) : Answers arg f lb p B w1 xs :=
  fun x hx W hW => h x hx W (hb.trans hW)
theorem Answers.up {α : Type} {arg : α → Value} {f : FuncId} {lb : List Value} {p : α → Bool} {B B' : Nat} {w : World} {xs : List α} (h : Answers arg f lb p B w xs) (hb : B ≤ B') : Answers arg f lb p B' w xs :=
  fun x hx W hW => h x hx W (hW.mono hb)
theorem anyA (f : FuncId) (eg : ∀ args w, (callFunc f args).run Tryd.prog w = .ok (.enter f args) w) (lb : List Value) (p : Event → Bool) (xs : List Event) (kind : Int) (bk bf B : Nat) (w w1 : World) (hb : Below B w w1) (hB1 : B ≤ w1.heap.size)
    (c1 : w1.cell? ⟨bk, 0, none⟩ = some (.int .i64 kind)) (c2 : w1.cell? ⟨bf, 0, none⟩ = some (.func (.func f) #[] lb.toArray)) (hp : AnswersE f lb p B w xs) :
    AnswersE 81 [.pointer (some ⟨bk, 0, none⟩), .pointer (some ⟨bf, 0, none⟩)] (T.kd kind p) w1.heap.size w1 xs :=
  fun x hx W hW => anyF_c x kind f eg lb p bk bf W ((hW.cell (p := ⟨bk, 0, none⟩) (World.block_lt_of_cell? w1 _ c1)).trans c1) ((hW.cell (p := ⟨bf, 0, none⟩) (World.block_lt_of_cell? w1 _ c2)).trans c2)
    (fun W' hW' => hp x hx W' (hb.trans ((hW.mono hB1).trans (hW'.mono (Nat.le_trans hB1 hW.size)))))
theorem firstA (f : FuncId) (eg : ∀ args w, (callFunc f args).run Tryd.prog w = .ok (.enter f args) w) (lb : List Value) (p : Event → Bool) (xs : List Event) (kind : Int) (bk bf B : Nat) (w w1 : World) (hb : Below B w w1) (hB1 : B ≤ w1.heap.size)
    (c1 : w1.cell? ⟨bk, 0, none⟩ = some (.int .i64 kind)) (c2 : w1.cell? ⟨bf, 0, none⟩ = some (.func (.func f) #[] lb.toArray)) (hp : AnswersE f lb p B w xs) :
    AnswersE 84 [.pointer (some ⟨bk, 0, none⟩), .pointer (some ⟨bf, 0, none⟩)] (T.kd kind p) w1.heap.size w1 xs :=
  fun x hx W hW => firstF_c x kind f eg lb p bk bf W ((hW.cell (p := ⟨bk, 0, none⟩) (World.block_lt_of_cell? w1 _ c1)).trans c1) ((hW.cell (p := ⟨bf, 0, none⟩) (World.block_lt_of_cell? w1 _ c2)).trans c2)
    (fun W' hW' => hp x hx W' (hb.trans ((hW.mono hB1).trans (hW'.mono (Nat.le_trans hB1 hW.size)))))
set_option maxRecDepth 100000 in
set_option maxHeartbeats 1000000 in
theorem any_c (B : Nat) (f : FuncId) (eg : ∀ args w, (callFunc f args).run Tryd.prog w = .ok (.enter f args) w) (lb : List Value) (p : Event → Bool) (v : Value) (xs : List Event) (kind : Int) (w : World) (hBw : B ≤ w.heap.size) (h : Sl Event.arr 18 w.heap.size w v xs) (hp : AnswersE f lb p B w xs) :
    Calls Tryd.prog 53 #[v, .int .i64 kind, .func (.func f) #[] lb.toArray] w fun e w' => e = .returned (.bool (xs.any (T.kd kind p))) ∧ Below w.heap.size w w' := by
  obtain ⟨A, cap, rfl, hcap, hl1, hl2⟩ := h.view
  have hB : Below w.heap.size w ((w.alloc (Obj.cells #[.int .i64 kind] 3)).alloc (Obj.cells #[.func (.func f) #[] lb.toArray] 96)) := ((Below.refl _ w).alloc (Nat.le_refl _) _).alloc (by simp) _
  obtain ⟨w1, hw1⟩ : ∃ w1, w1 = (w.alloc (Obj.cells #[.int .i64 kind] 3)).alloc (Obj.cells #[.func (.func f) #[] lb.toArray] 96) := ⟨_, rfl⟩
  rw [← hw1] at hB
  have c1 : w1.cell? ⟨w.heap.size, 0, none⟩ = some (.int .i64 kind) := by rw [hw1]; go_simp
  have c2 : w1.cell? ⟨w.heap.size + 1, 0, none⟩ = some (.func (.func f) #[] lb.toArray) := by rw [hw1]; go_simp
  have hc := containsAhead_c w1.heap.size 81 (enters_of Tryd.func81 (by kernel_rfl) rfl) _ _ _ xs w1 (Nat.le_refl _) ((h.below hB).mono hB.size) (anyA f eg lb p xs kind _ _ B w w1 (hB.mono hBw) (Nat.le_trans hBw hB.size) c1 c2 hp)
  clear c1 c2 hp
  go_enter Tryd.func53, Tryd.ntmps53
  go_wp2_with fail
  rw [← hw1]
  refine hc.mono ?_
  rintro e w2 ⟨rfl, hb2⟩
  go_wp2
  go_ret
  exact ⟨rfl, bthen hB hb2⟩

def T.zeroE : Event := ⟨0, 0, 0, 0, ⟨⟨0, 0, 0⟩, 0⟩, ⟨⟨0, 0, 0⟩, 0⟩, ⟨0, 0, 0⟩, 0, 0, 0⟩
theorem builtE0 : Tryd.prog.built 55 [] = some (Event.arr T.zeroE) := by kernel_rfl
def FirstPost (y : Option Event) (w : World) (e : Ending) (w' : World) : Prop := e = .returned (.tuple #[.agg (Event.arr (y.getD T.zeroE)), .bool y.isSome]) ∧ Below w.heap.size w w'
theorem first_results (tmps : Array Value) (w : World) (bR : Nat) (cs : Array Value) (b : Value) (h6 : tmps.getD 6 undef = .pointer (some ⟨bR, 0, none⟩)) (h7 : tmps.getD 7 undef = b) (hr : rowAt w bR 0 18 = some cs) :
    (results Tryd.f56 tmps).run Tryd.prog w = .ok (.tuple #[.agg cs, b]) w := by
  have hl := run_loadVar_at (P := Tryd.prog) w 55 bR 0 18 cs _ hr Tryd.underlying55 rfl (by kernel_rfl)
  have h6' : tmps[6]?.getD undef = .pointer (some ⟨bR, 0, none⟩) := by simpa using h6
  have h7' : tmps[7]?.getD undef = b := by simpa using h7
  simp [results, Tryd.results56, asAddr, h6', h7', hl]
theorem rowAt_row' {w : World} {b : Nat} {cs : Array Value} {t : TypeId} {fr : Nat × Nat} (h : w.heap[b]? = some (.cells cs t fr)) : rowAt w b 0 cs.size = some cs := by
  unfold rowAt
  rw [h]
  simp
theorem below_setRow' {B b : Nat} {a w : World} (h : Below B a w) (hb : B ≤ b) (cs : Array Value) : Below B a (w.setRow b cs) :=
  ⟨h.os, h.tape, h.output, by simpa using h.size, fun k hk => (setRow_other w b k cs (by omega)).trans (h.block k hk)⟩
theorem T.find_idx {α : Type} (q : α → Bool) : ∀ (xs : List α), (xs.any q = false ∧ xs.find? q = none) ∨ (∃ (k : Nat) (x : α), T.idx q xs = (k : Int) ∧ xs[k]? = some x ∧ xs.find? q = some x)
  | [] => .inl ⟨rfl, rfl⟩
  | y :: ys => by
    rcases hy : q y with _ | _
    · rcases T.find_idx q ys with ⟨h1, h2⟩ | ⟨k, x, h1, h2, h3⟩
      · exact .inl ⟨by simp [hy, h1], by simp [hy, h2]⟩
      · refine .inr ⟨k + 1, x, ?_, by simpa using h2, by simp [hy, h3]⟩
        unfold T.idx at h1 ⊢
        split at h1
        · rename_i ha
          rw [if_pos (by simp [hy, ha]), List.findIdx_cons, hy]
          simp only [cond_false]
          rw [Int.ofNat_inj.1 h1]
        · omega
    · refine .inr ⟨0, y, ?_, rfl, by simp [hy]⟩
      unfold T.idx
      rw [if_pos (by simp [hy]), List.findIdx_cons, hy]
      rfl
set_option maxRecDepth 100000 in
set_option maxHeartbeats 1000000 in
theorem first_c (B : Nat) (f : FuncId) (eg : ∀ args w, (callFunc f args).run Tryd.prog w = .ok (.enter f args) w) (lb : List Value) (p : Event → Bool) (v : Value) (xs : List Event) (kind : Int) (w : World) (hBw : B ≤ w.heap.size) (h : Sl Event.arr 18 w.heap.size w v xs) (hp : AnswersE f lb p B w xs) :
    Calls Tryd.prog 56 #[v, .int .i64 kind, .func (.func f) #[] lb.toArray] w (FirstPost (xs.find? (T.kd kind p)) w) := by
  obtain ⟨A, cap, rfl, hcap, hl1, hl2⟩ := h.view
  obtain ⟨w1, hw1⟩ : ∃ w1, w1 = ((w.alloc (Obj.cells #[.int .i64 kind] 3)).alloc (Obj.cells #[.func (.func f) #[] lb.toArray] 96)).alloc (Obj.cells (Event.arr T.zeroE) 55) := ⟨_, rfl⟩
  have hB : Below w.heap.size w w1 := by rw [hw1]; exact (((Below.refl _ w).alloc (Nat.le_refl _) _).alloc (by simp) _).alloc (by simp <;> omega) _
  have hs1 : w1.heap.size = w.heap.size + 3 := by rw [hw1]; simp
  have c1 : w1.cell? ⟨w.heap.size, 0, none⟩ = some (.int .i64 kind) := by rw [hw1]; go_simp
  have c2 : w1.cell? ⟨w.heap.size + 1, 0, none⟩ = some (.func (.func f) #[] lb.toArray) := by rw [hw1]; go_simp
  have hR : w1.heap[w.heap.size + 2]? = some (.cells (Event.arr T.zeroE) 55 (0, 0)) := by
    have := heap_alloc_new ((w.alloc (Obj.cells #[.int .i64 kind] 3)).alloc (Obj.cells #[.func (.func f) #[] lb.toArray] 96)) (Obj.cells (Event.arr T.zeroE) 55)
    rw [hw1]; simpa using this
  have hc := indexAhead_c w1.heap.size 84 (enters_of Tryd.func84 (by kernel_rfl) rfl) _ _ _ xs w1 (Nat.le_refl _) ((h.below hB).mono hB.size) (firstA f eg lb p xs kind _ _ B w w1 (hB.mono hBw) (Nat.le_trans hBw hB.size) c1 c2 hp)
  have hR2 : ∀ W, Below w1.heap.size w1 W → W.heap[w.heap.size + 2]? = some (.cells (Event.arr T.zeroE) 55 (0, 0)) := fun W hb => (hb.block _ (by omega)).trans hR
  have hS2 : ∀ W, Below w1.heap.size w1 W → Sl Event.arr 18 W.heap.size W (.slice A xs.length cap) xs := fun W hb => (h.below (bthen hB hb)).mono (Nat.le_trans hB.size hb.size)
  clear c1 c2 hp
  rcases T.find_idx (T.kd kind p) xs with ⟨ha, hf⟩ | ⟨k, x, hi, hx, hf⟩
  · have hi : T.idx (T.kd kind p) xs = -1 := by unfold T.idx; rw [ha]; rfl
    rw [hi] at hc
    have HF := Lib.hid hf
    clear ha hi hf
    go_enter Tryd.func56, Tryd.ntmps56
    go_wp2_with fail
    have HW := Lib.hid hw1
    change Calls _ _ _ (World.alloc (World.alloc (World.alloc w _) _) (Obj.cells (Event.arr T.zeroE) _)) _
    rw [← HW.out]
    clear hw1
    refine hc.mono ?_
    rintro e w2 ⟨rfl, hb2⟩
    have hR3 := hR2 _ hb2
    go_wp2_with (first | (refine wpList_build_at rfl 55 _ rfl _ ?_ _ builtE0 ?_; rfl) | (refine wpList_store_row rfl _ _ _ rfl (w.heap.size + 2) (Event.arr T.zeroE) rfl rfl _ _ hR3 rfl rfl (Event.one _) ?_))
    have hR4 := setRow_heap w2 (w.heap.size + 2) _ (Event.arr T.zeroE) _ _ hR3
    exact bodyPost_ret (first_results _ _ (w.heap.size + 2) _ _ rfl rfl (rowAt_row' hR4)) rfl ⟨by rw [HF.out]; rfl, below_setRow' (bthen hB hb2) (by omega) _⟩
  · rw [hi] at hc
    have hk := (List.getElem?_eq_some_iff.1 hx).1
    obtain ⟨b, off, rfl, _, _⟩ := h.at hk
    have hat : ∀ W, Below w1.heap.size w1 W → rowAt W b (off + k * 18) 18 = some (Event.arr x) := fun W hb => by
      obtain ⟨b', off', he, _, hr, _⟩ := (hS2 W hb).at hk
      injection he with he; injection he with h1 h2 h3; subst h1; subst h2
      rw [(List.getElem?_eq_some_iff.1 hx).2] at hr
      exact hr
    have HF := Lib.hid hf
    have HX := Lib.hid hx
    clear hi hf hx
    go_enter Tryd.func56, Tryd.ntmps56
    go_wp2_with fail
    have HW := Lib.hid hw1
    change Calls _ _ _ (World.alloc (World.alloc (World.alloc w _) _) (Obj.cells (Event.arr T.zeroE) _)) _
    rw [← HW.out]
    clear hw1
    refine hc.mono ?_
    rintro e w2 ⟨rfl, hb2⟩
    have hR3 := hR2 _ hb2
    have hrow := hat _ hb2
    clear hat
    go_wp2_with (first | (refine wpList_load_at rfl 55 _ rfl _ (off + k * 18) 18 rfl _ _ hrow rfl rfl rfl ?_) | (refine wpList_store_row rfl _ _ _ rfl (w.heap.size + 2) (Event.arr x) rfl rfl _ _ hR3 rfl rfl (Event.one _) ?_))
    have hR4 := setRow_heap w2 (w.heap.size + 2) _ (Event.arr x) _ _ hR3
    exact bodyPost_ret (first_results _ _ (w.heap.size + 2) _ _ rfl rfl (rowAt_row' hR4)) rfl ⟨by rw [HF.out]; rfl, below_setRow' (bthen hB hb2) (by omega) _⟩

def T.cntE (q : Event → Bool) (xs : List Event) : Int := ((xs.filter q).length : Int)
theorem T.cnt_bd (q : Event → Bool) (xs : List Event) : 0 ≤ T.cntE q xs ∧ T.cntE q xs ≤ xs.length := by
  have := List.length_filter_le q xs
  unfold T.cntE; omega
theorem T.cnt_snoc (q : Event → Bool) (xs : List Event) (x : Event) : T.cntE q (xs ++ [x]) = T.cntE q xs + if q x = true then 1 else 0 := by
  unfold T.cntE
  rw [List.filter_append, List.length_append]
  rcases h : q x with _ | _ <;> simp [List.filter_cons, h]
set_option maxRecDepth 100000 in
set_option maxHeartbeats 1000000 in
theorem count_c (B : Nat) (f : FuncId) (eg : ∀ args w, (callFunc f args).run Tryd.prog w = .ok (.enter f args) w) (lb : List Value) (p : Event → Bool) (v : Value) (xs : List Event) (kind : Int) (w : World) (hBw : B ≤ w.heap.size) (h : Sl Event.arr 18 w.heap.size w v xs) (hp : AnswersE f lb p B w xs) :
    Calls Tryd.prog 61 #[v, .int .i64 kind, .func (.func f) #[] lb.toArray] w fun e w' => e = .returned (.int .i64 (T.cntE (T.kd kind p) xs)) ∧ Below w.heap.size w w' := by
  obtain ⟨A, cap, rfl, hcap, hl1, hl2⟩ := h.view
  have HP := Lib.hid hp
  clear hp
  go_enter Tryd.func61, Tryd.ntmps61
  go_wp2
  go_loopw [7, 12] (fun nv iv wr => ∃ k : Nat, k ≤ xs.length ∧ iv = .int .i64 (k : Int) ∧ nv = .int .i64 (T.cntE (T.kd kind p) (xs.take k)) ∧ Below w.heap.size w wr) (fun _ iv _ => xs.length - (intOf iv).toNat)
  case atStart => exact ⟨0, Nat.zero_le _, rfl, rfl, Below.refl _ _⟩
  case round =>
    obtain ⟨k, hk, rfl, rfl, hB⟩ := hrel
    have hcb := T.cnt_bd (T.kd kind p) (xs.take k)
    have htl : (xs.take k).length ≤ k := List.length_take_le _ _
    by_cases hkl : k < xs.length
    · obtain ⟨b, off, rfl, hb, hrow, _⟩ := (h.below hB).at hkl
      obtain ⟨x, hx⟩ : ∃ x, x = xs[k] := ⟨_, rfl⟩
      rw [← hx] at hrow
      have hxm : x ∈ xs := by rw [hx]; exact List.getElem_mem _
      have hnext : xs.take (k + 1) = xs.take k ++ [x] := by rw [hx]; simp
      have hsn := T.cnt_snoc (T.kd kind p) (xs.take k) x
      rw [← hnext] at hsn
      obtain ⟨W1, hW1⟩ : ∃ W1, W1 = wr.alloc (Obj.cells (Event.arr x) 55) := ⟨_, rfl⟩
      have hB1 : Below wr.heap.size wr W1 := by rw [hW1]; exact (Below.refl _ wr).alloc (Nat.le_refl _) _
      have hr1 : rowAt W1 wr.heap.size 0 18 = some (Event.arr x) := by rw [hW1]; exact rowAt_new _ _ _ _ _ rfl
      have c0 : W1.cell? ⟨wr.heap.size, 0, none⟩ = some (.int .i64 x.kind) := rowAt_cell hr1 0 (by omega)
      have hc := HP.out x hxm W1 ((hB.mono hBw).trans (hB1.mono (Nat.le_trans hBw hB.size)))
      have HN := Lib.hid hsn
      have HC := Lib.hid hc
      subst hW1
      clear hx hnext hsn hc hxm
      obtain ⟨n, hn⟩ : ∃ n, n = T.cntE (T.kd kind p) (xs.take k) := ⟨_, rfl⟩
      rw [← hn] at HN hcb
      rw [← hn]
      clear hn
      rcases hkd : (x.kind == kind) with _ | _
      · have HR := Lib.hid (show T.kd kind p x = false by rw [T.kd, hkd]; rfl)
        go_wp2_with (first | (refine wpList_load_at rfl 55 _ rfl _ (off + k * 18) 18 rfl _ _ hrow rfl rfl rfl ?_) | (refine wpList_store_new rfl _ _ _ rfl wr.heap.size (Event.arr x) _ _ rfl rfl rfl rfl rfl (Event.one _) ?_))
        go_roundw
        case rel => exact ⟨k + 1, by omega, by go_num, by rw [HN.out, HR.out]; simp, hB.trans (hB1.mono hB.size)⟩
        case measure => simp [intOf]; omega
      · rcases hpx : p x with _ | _
        · have HR := Lib.hid (show T.kd kind p x = false by rw [T.kd, hkd, hpx]; rfl)
          rw [hpx] at HC
          clear hpx
          go_wp2_with (first | (refine wpList_load_at rfl 55 _ rfl _ (off + k * 18) 18 rfl _ _ hrow rfl rfl rfl ?_) | (refine wpList_store_new rfl _ _ _ rfl wr.heap.size (Event.arr x) _ _ rfl rfl rfl rfl rfl (Event.one _) ?_) | (refine wpList_load_at_w rfl 55 _ rfl _ (0) 18 rfl _ _ hr1 rfl rfl rfl ?_) | ((with_reducible refine HC.out.mono ?_); rintro e w1 ⟨rfl, hb1⟩))
          go_roundw
          case rel => exact ⟨k + 1, by omega, by go_num, by rw [HN.out, HR.out]; simp, hB.trans ((bthen hB1 hb1).mono hB.size)⟩
          case measure => simp [intOf]; omega
        · have HR := Lib.hid (show T.kd kind p x = true by rw [T.kd, hkd, hpx]; rfl)
          rw [hpx] at HC
          clear hpx
          go_wp2_with (first | (refine wpList_load_at rfl 55 _ rfl _ (off + k * 18) 18 rfl _ _ hrow rfl rfl rfl ?_) | (refine wpList_store_new rfl _ _ _ rfl wr.heap.size (Event.arr x) _ _ rfl rfl rfl rfl rfl (Event.one _) ?_) | (refine wpList_load_at_w rfl 55 _ rfl _ (0) 18 rfl _ _ hr1 rfl rfl rfl ?_) | ((with_reducible refine HC.out.mono ?_); rintro e w1 ⟨rfl, hb1⟩))
          go_roundw
          case rel => exact ⟨k + 1, by omega, by go_num, by rw [HN.out, HR.out]; simp, hB.trans ((bthen hB1 hb1).mono hB.size)⟩
          case measure => simp [intOf]; omega
    · have hk' : k = xs.length := by omega
      have htk : xs.take k = xs := List.take_of_length_le (by omega)
      rw [htk] at hcb
      rw [htk]
      go_wp2
      go_ret
      exact ⟨rfl, hB⟩
end Go.Proofs.YtofifeicbhbgpaaDoor
