/- Reading an id and a key; the end. -/
import Derived.Test.YtcncmbcnekekdaaDoorReader
namespace Go.Proofs.YtcncmbcnekekdaaDoor
open Go.RowKit Go.Shelf
set_option linter.unusedVariables false
set_option linter.unusedSimpArgs false
/-- All that lay lies, but for block g. -/
structure Bsd (g : Nat) (a w : World) : Prop where
  os : w.os = a.os
  tape : w.tape = a.tape
  output : w.output = a.output
  size : a.heap.size ≤ w.heap.size
  block : ∀ k, k < a.heap.size → k ≠ g → w.heap[k]? = a.heap[k]?
theorem Bsd.refl (g : Nat) (a : World) : Bsd g a a := ⟨rfl, rfl, rfl, Nat.le_refl _, fun _ _ _ => rfl⟩
theorem Bsd.below {g : Nat} {a b c : World} (h : Bsd g a b) (k : Below b.heap.size b c) : Bsd g a c :=
  ⟨k.os.trans h.os, k.tape.trans h.tape, k.output.trans h.output, Nat.le_trans h.size k.size, fun j hj hg => (k.block j (Nat.lt_of_lt_of_le hj h.size)).trans (h.block j hj hg)⟩
theorem Bsd.trans {g : Nat} {a b c : World} (h : Bsd g a b) (k : Bsd g b c) : Bsd g a c :=
  ⟨k.os.trans h.os, k.tape.trans h.tape, k.output.trans h.output, Nat.le_trans h.size k.size, fun j hj hg => (k.block j (Nat.lt_of_lt_of_le hj h.size) hg).trans (h.block j hj hg)⟩
theorem Bsd.set {g : Nat} {a b : World} (h : Bsd g a b) (o : Nat) (v : Value) : Bsd g a (b.setCell ⟨g, o, none⟩ v) :=
  ⟨h.os, h.tape, h.output, by simpa using h.size, fun j hj hg => (heap_setCell_other b ⟨g, o, none⟩ j v (by show j ≠ g; exact hg)).trans (h.block j hj hg)⟩
theorem Bsd.setRow {g n : Nat} {a b : World} (h : Bsd g a b) (hn : a.heap.size ≤ n) (cs : Array Value) : Bsd g a (b.setRow n cs) :=
  ⟨h.os, h.tape, h.output, by simpa using h.size, fun j hj hg => (setRow_other b n j cs (by omega)).trans (h.block j hj hg)⟩
theorem Bsd.alloc {g : Nat} {a b : World} (h : Bsd g a b) (o : Obj) : Bsd g a (b.alloc o) := h.below ((Below.refl _ _).alloc (Nat.le_refl _) o)
/-- What lies above a bound may be anything: the block is of the call's own. -/
theorem Bsd.toBelow {g B : Nat} {a w : World} (h : Bsd g a w) (hB : B ≤ g) (hs : B ≤ a.heap.size) : Below B a w := ⟨h.os, h.tape, h.output, h.size, fun j hj => h.block j (by omega) (by omega)⟩
theorem read_results (tmps : Array Value) (w : World) (bR : Nat) (cs : Array Value) (h2 : tmps.getD 2 undef = .pointer (some ⟨bR, 0, none⟩)) (hr : rowAt w bR 0 3 = some cs) :
    (results Tryd.f76 tmps).run Tryd.prog w = .ok (.agg cs) w := by
  have hl := run_loadVar_at (P := Tryd.prog) w 38 bR 0 3 cs _ hr Tryd.underlying38 rfl (by kernel_rfl)
  have h2' : tmps[2]?.getD undef = .pointer (some ⟨bR, 0, none⟩) := by simpa using h2
  simp [results, Tryd.results76, asAddr, h2', hl]
theorem readKey_results (tmps : Array Value) (w : World) (bR : Nat) (cs : Array Value) (h2 : tmps.getD 2 undef = .pointer (some ⟨bR, 0, none⟩)) (hr : rowAt w bR 0 4 = some cs) :
    (results Tryd.f44 tmps).run Tryd.prog w = .ok (.agg cs) w := by
  have hl := run_loadVar_at (P := Tryd.prog) w 46 bR 0 4 cs _ hr Tryd.underlying46 rfl (by kernel_rfl)
  have h2' : tmps[2]?.getD undef = .pointer (some ⟨bR, 0, none⟩) := by simpa using h2
  simp [results, Tryd.results44, asAddr, h2', hl]
set_option maxRecDepth 100000 in
set_option maxHeartbeats 4000000 in
theorem readId_c (g : Nat) (d : Id) (rest : List UInt8) (w : World) (h : Rd g (T.idCode d ++ rest) w) (hd : T.idRight d = true) (hl : rest.length ≤ 100) :
    Calls Tryd.prog 76 #[.pointer (some ⟨g, 0, none⟩)] w fun r w' => r = .returned (.agg (Id.arr d)) ∧ Rd g rest w' ∧ Bsd g w w' := by
  obtain ⟨a, b, c, rfl, ha, hb, hc⟩ := T.right_nat hd
  obtain ⟨n, hn⟩ : ∃ n, n = w.heap.size := ⟨_, rfl⟩
  obtain ⟨W0, hW0⟩ : ∃ W0, W0 = w.alloc (Obj.cells #[.int .i64 0, .int .i64 0, .int .i64 0] 38) := ⟨_, rfl⟩
  have hgz := h.cells.2.2.2
  have hR0 : W0.heap[n]? = some (.cells #[.int .i64 0, .int .i64 0, .int .i64 0] 38 (0, 0)) := by rw [hW0, hn]; exact heap_alloc_new _ _
  have hB0 : Bsd g w W0 := by rw [hW0]; exact (Bsd.refl g w).alloc _
  have hd0 : Rd g (T.be a 1 ++ (T.be b 2 ++ (T.be c 3 ++ rest))) W0 := by
    have h1 : Rd g (T.be a 1 ++ (T.be b 2 ++ (T.be c 3 ++ rest))) w := by
      have : T.idCode ⟨a, b, c⟩ ++ rest = T.be a 1 ++ (T.be b 2 ++ (T.be c 3 ++ rest)) := by simp [T.idCode]
      rw [← this]; exact h
    rw [hW0]; exact h1.below ((Below.refl _ w).alloc (Nat.le_refl _) _)
  have hn1 := rdNum1_c g (T.be a 1) _ W0 hd0 (T.be_len a 1) (by simp only [List.length_append, T.be_len]; omega)
  have hd1 := hd0.set (m := T.be b 2 ++ (T.be c 3 ++ rest))
  have hn2 := rdNum2_c g (T.be b 2) _ _ hd1 (T.be_len b 2) (by simp only [List.length_append, T.be_len]; omega)
  have hd2 := hd1.set (m := T.be c 3 ++ rest)
  have hn3 := rdNum3_c g (T.be c 3) _ _ hd2 (T.be_len c 3) (by simp only [List.length_append, T.be_len]; omega)
  have hd3 := hd2.set (m := rest)
  rw [T.val_be a 1 (by omega)] at hn1
  rw [T.val_be b 2 (by omega)] at hn2
  rw [T.val_be c 3 (by omega)] at hn3
  obtain ⟨W3, hW3⟩ : ∃ W3, W3 = ((W0.setCell ⟨g, 0, none⟩ (strV (T.be b 2 ++ (T.be c 3 ++ rest)))).setCell ⟨g, 0, none⟩ (strV (T.be c 3 ++ rest))).setCell ⟨g, 0, none⟩ (strV rest) := ⟨_, rfl⟩
  have hB3 : Bsd g w W3 := by rw [hW3]; exact ((hB0.set 0 _).set 0 _).set 0 _
  have hR3 : W3.heap[n]? = some (.cells #[.int .i64 0, .int .i64 0, .int .i64 0] 38 (0, 0)) := by
    rw [hW3, heap_setCell_other _ _ _ _ (by show n ≠ g; omega), heap_setCell_other _ _ _ _ (by show n ≠ g; omega), heap_setCell_other _ _ _ _ (by show n ≠ g; omega)]; exact hR0
  rw [← hW3] at hn3 hd3
  have HW0 := Lib.hid hW0
  have HW3 := Lib.hid hW3
  have HN := Lib.hid hn
  have N1 := Lib.hid hn1
  have N2 := Lib.hid hn2
  have N3 := Lib.hid hn3
  have HB3 := Lib.hid hB3
  have HR3 := Lib.hid hR3
  have HD3 := Lib.hid hd3
  clear hW0 hW3 hn hn1 hn2 hn3 hB3 hR3 hd0 hd1 hd2 hd3 h hR0 hB0
  obtain ⟨d, hdd⟩ : ∃ d : Id, d = ⟨a, b, c⟩ := ⟨_, rfl⟩
  have HDD := Lib.hid hdd
  rw [← hdd] at hd ⊢
  clear hdd
  go_enter Tryd.func76, Tryd.ntmps76
  go_upto_region 1 with (fail)
  rw [← HW0.out, ← HN.out]
  go_upto_region 2 with (first | (go_at_call 77; first | ((with_reducible refine N1.out.mono ?_); rintro r w1 ⟨rfl, rfl⟩) | ((with_reducible refine N2.out.mono ?_); rintro r w2 ⟨rfl, rfl⟩) | ((with_reducible refine N3.out.mono ?_); rintro r w3 ⟨rfl, rfl⟩)) | (refine wpList_store_new rfl _ _ _ rfl W3.heap.size (Id.arr d) _ _ rfl rfl (by rw [HDD.out]; rfl) rfl rfl (Id.one _) ?_))
  have hcs : (#[.int .i64 a, .int .i64 b, .int .i64 c] : Array Value) = Id.arr d := by rw [HDD.out]; rfl
  rw [hcs]
  obtain ⟨W4, hW4⟩ : ∃ W4, W4 = w3.alloc (Obj.cells (Id.arr d) 38) := ⟨_, rfl⟩
  have hb4 : Below w3.heap.size w3 W4 := by rw [hW4]; exact (Below.refl _ _).alloc (Nat.le_refl _) _
  have hz4 : w3.heap.size < W4.heap.size := by rw [hW4]; simp
  have r4 : rowAt W4 w3.heap.size 0 3 = some (Id.arr d) := by rw [hW4]; exact rowAt_new _ _ _ _ _ rfl
  have hri := idRight_c d W4
  rw [hd] at hri
  rw [← hW4]
  clear hcs hW4
  go_wp2_with (first | (refine wpList_load_at_v 38 _ rfl rfl _ (0) 3 rfl _ _ r4 rfl rfl rfl ?_) | (go_at_call 28; (with_reducible refine hri.mono ?_); rintro r w5 ⟨rfl, hb5⟩; have hb35 := bthen hb4 hb5; have r5 := (rowAt_block (hb5.block w3.heap.size hz4)).trans r4; have hR5 := (hb35.block n (Array.getElem?_eq_some_iff.1 HR3.out).1).trans HR3.out) | (refine wpList_load_at_v 38 _ rfl rfl _ (0) 3 rfl _ _ r5 rfl rfl rfl ?_) | (refine wpList_store_row rfl _ _ _ rfl n (Id.arr d) rfl rfl _ _ hR5 rfl rfl (Id.one _) ?_))
  have hR6 := setRow_heap _ n _ (Id.arr d) _ _ hR5
  have hgn : g ≠ n := by have := HN.out; omega
  refine bodyPost_ret (read_results _ _ n _ rfl (rowAt_rowI hR6)) rfl ⟨by rw [HDD.out], ?_, (HB3.out.below hb35).setRow (by have := HN.out; omega) _⟩
  exact (setRow_other _ n g _ hgn).trans (HD3.out.below hb35)
def T.kcode (d : Id) (t : Nat) : List UInt8 := T.idCode d ++ T.be t 1
set_option maxRecDepth 100000 in
set_option maxHeartbeats 4000000 in
theorem readKey_c (g : Nat) (k : Key) (w : World) (h : Rd g (T.keyCode k) w) (hk : T.keyRight k = true) :
    Calls Tryd.prog 44 #[.pointer (some ⟨g, 0, none⟩)] w fun r w' => r = .returned (.agg (Key.arr k)) ∧ Rd g [] w' ∧ Bsd g w w' := by
  have hk0 := hk
  simp only [T.keyRight, Bool.and_eq_true, decide_eq_true_eq] at hk
  obtain ⟨hk1, hk2, hk3⟩ := hk
  obtain ⟨t, ht⟩ : ∃ t : Nat, k.att = (t : Int) := ⟨k.att.toNat, by omega⟩
  obtain ⟨n, hn⟩ : ∃ n, n = w.heap.size := ⟨_, rfl⟩
  obtain ⟨W0, hW0⟩ : ∃ W0, W0 = w.alloc (Obj.cells #[.int .i64 0, .int .i64 0, .int .i64 0, .int .i64 0] 46) := ⟨_, rfl⟩
  have hgz := h.cells.2.2.2
  have hR0 : W0.heap[n]? = some (.cells #[.int .i64 0, .int .i64 0, .int .i64 0, .int .i64 0] 46 (0, 0)) := by rw [hW0, hn]; exact heap_alloc_new _ _
  have hnz : n < W0.heap.size := (Array.getElem?_eq_some_iff.1 hR0).1
  have hB0 : Bsd g w W0 := by rw [hW0]; exact (Bsd.refl g w).alloc _
  have hd0 : Rd g (T.idCode k.id ++ T.be t 1) W0 := by
    have h1 : Rd g (T.idCode k.id ++ T.be t 1) w := by
      have : T.keyCode k = T.idCode k.id ++ T.be t 1 := by rw [T.keyCode, ht]; rfl
      rw [← this]; exact h
    rw [hW0]; exact h1.below ((Below.refl _ w).alloc (Nat.le_refl _) _)
  have hrd := readId_c g k.id (T.be t 1) W0 hd0 hk1 (by rw [T.be_len]; omega)
  have hnum := fun (X : World) (hX : Rd g (T.be t 1) X) => rdNum1_c g (T.be t 1) [] X (by rw [List.append_nil]; exact hX) (T.be_len t 1) (by simp [T.be_len])
  rw [T.val_be t 1 (by omega)] at hnum
  have HW0 := Lib.hid hW0
  have HN := Lib.hid hn
  have HB0 := Lib.hid hB0
  have HR0 := Lib.hid hR0
  have HT := Lib.hid ht
  have HNUM := Lib.hid hnum
  have HBK := Lib.hid (show Tryd.prog.built 46 [(0, .agg (Id.arr k.id)), (1, .int .i64 (t : Int))] = some (Key.arr k) by rw [← ht]; exact builtKey k)
  have hri := fun X : World => keyRight_c k X
  rw [hk0] at hri
  clear hW0 hn hd0 h hR0 hB0 hk0 ht hnum
  go_enter Tryd.func44, Tryd.ntmps44
  go_upto_region 1 with (fail)
  rw [← HW0.out, ← HN.out]
  go_upto_region 2 with (first | (go_at_call 76; (with_reducible refine hrd.mono ?_); rintro r w1 ⟨rfl, hd1, hb1⟩; have hnum1 := HNUM.out _ hd1; have hd2 := hd1.set (m := []); have hb2 := hb1.set 0 (strV [])) | (go_at_call 77; (with_reducible refine hnum1.mono ?_); rintro r w2 ⟨rfl, hw2⟩; rw [← hw2] at hd2 hb2; clear hw2) | (refine wpList_build_at rfl 46 _ rfl _ ?_ (Key.arr k) HBK.out ?_; rfl) | (refine wpList_store_new rfl _ _ _ rfl w2.heap.size (Key.arr k) _ _ rfl rfl rfl rfl rfl (Key.one _) ?_))
  obtain ⟨W4, hW4⟩ : ∃ W4, W4 = w2.alloc (Obj.cells (Key.arr k) 46) := ⟨_, rfl⟩
  have hb4 : Below w2.heap.size w2 W4 := by rw [hW4]; exact (Below.refl _ _).alloc (Nat.le_refl _) _
  have hz4 : w2.heap.size < W4.heap.size := by rw [hW4]; simp
  have r4 : rowAt W4 w2.heap.size 0 4 = some (Key.arr k) := by rw [hW4]; exact rowAt_new _ _ _ _ _ rfl
  have hgn : g ≠ n := by have := HN.out; omega
  have hRn : w2.heap[n]? = some (.cells #[.int .i64 0, .int .i64 0, .int .i64 0, .int .i64 0] 46 (0, 0)) := (hb2.block n hnz (Ne.symm hgn)).trans HR0.out
  have hB2 := HB0.out.trans hb2
  have hri4 := hri W4
  rw [← hW4]
  have HRN := Lib.hid hRn
  have HD2 := Lib.hid hd2
  clear hW4 hb1 hd1 hb2 hrd hnum1 hri hRn hd2
  go_wp2_with (first | (refine wpList_load_at_v 46 _ rfl rfl _ (0) 4 rfl _ _ r4 rfl rfl rfl ?_) | (go_at_call 30; (with_reducible refine hri4.mono ?_); rintro r w5 ⟨rfl, hb5⟩; have hb35 := bthen hb4 hb5; have r5 := (rowAt_block (hb5.block w2.heap.size hz4)).trans r4; have hR5 := (hb35.block n (Array.getElem?_eq_some_iff.1 HRN.out).1).trans HRN.out) | (refine wpList_load_at_v 46 _ rfl rfl _ (0) 4 rfl _ _ r5 rfl rfl rfl ?_) | (refine wpList_store_row rfl _ _ _ rfl n (Key.arr k) rfl rfl _ _ hR5 rfl rfl (Key.one _) ?_))
  have hR6 := setRow_heap _ n _ (Key.arr k) _ _ hR5
  refine bodyPost_ret (readKey_results _ _ n _ rfl (rowAt_rowI hR6)) rfl ⟨rfl, ?_, (hB2.below hb35).setRow (by have := HN.out; omega) _⟩
  exact (setRow_other _ n g _ hgn).trans (HD2.out.below hb35)
set_option maxRecDepth 100000 in
set_option maxHeartbeats 1000000 in
theorem end_c (g : Nat) (w : World) (h : Rd g [] w) : Calls Tryd.prog 45 #[.pointer (some ⟨g, 0, none⟩)] w fun r w' => r = .returned (.int .i64 0) ∧ w' = w := by
  obtain ⟨c0, c1, _, _⟩ := h.cells
  have hl : Calls Tryd.prog 79 #[.pointer (some ⟨g, 0, none⟩)] w fun r w' => r = .returned (.int .i64 0) ∧ w' = w := by
    go_enter Tryd.func79, Tryd.ntmps79
    go_wp2
    go_ret
    exact ⟨rfl, rfl⟩
  go_enter Tryd.func45, Tryd.ntmps45
  go_wp2_with (go_at_call 79; (with_reducible refine hl.mono ?_); rintro r w1 ⟨rfl, rfl⟩)
  go_ret
  exact ⟨rfl, rfl⟩
theorem open_c (l : List UInt8) (w : World) : Calls Tryd.prog 43 #[strV l] w fun r w' => r = .returned (.pointer (some ⟨w.heap.size, 0, none⟩)) ∧ w' = w.alloc (Obj.cells #[strV l, .int .i64 0] 113) := by
  go_enter Tryd.func43, Tryd.ntmps43
  go_wp2
  go_ret
  exact ⟨rfl, rfl⟩
end Go.Proofs.YtcncmbcnekekdaaDoor
