/- Numbers as bytes: the program's, the document's. -/
import Derived.Test.YtcncmbcnekekdaaDoorText
import Derived.Test.YtcncmbcnekekdaaDoorOpen
import Derived.Laws.IdiomStrings
import Derived.Deep.DeepCutAuto
namespace Go.Proofs.YtcncmbcnekekdaaDoor
open Go.RowKit Go.Shelf
set_option linter.unusedVariables false
set_option linter.unusedSimpArgs false
/-- The k lowest bytes, the highest one first. -/
def T.be (n : Nat) : Nat → List UInt8
  | 0 => []
  | k + 1 => T.be (n / 256) k ++ [UInt8.ofNat n]
theorem T.be_len (n k : Nat) : (T.be n k).length = k := by
  induction k generalizing n with
  | zero => rfl
  | succ k ih => rw [T.be, List.length_append, ih]; rfl
abbrev byteV (b : UInt8) : Value := .int .u8 (b.toNat : Int)
/-- A row of bytes, made a string. -/
theorem wpList_back {P : Program} {ops : Array Oper} {rest : List Oper} {o : Oper} {a : Act} {w : World} {Q : Exit → Act → World → Prop} (hgd : o.guard = none) (src dst e : TypeId) (x : Operand) (ho : o.op = .convert src dst x)
    (g cap : Nat) (l : List UInt8) (hx : a.eval x = .slice (some ⟨g, 0, none⟩) l.length cap) (hs : P.underlying src = some (.slice e)) (he : P.underlying e = some (.int .u8)) (hd : P.underlying dst = some .string)
    (cs : Array Value) (t : TypeId) (fr : Nat × Nat) (hg : w.heap[g]? = some (.cells cs t fr)) (hc : cs = (l.map byteV).toArray)
    (h : wpList P ops Q rest (a.put o.dst (strV l)) w) : wpList P ops Q (o :: rest) a w :=
  wpList_plain hgd fun K hK => by
    have hcell : ∀ j (hj : j < l.length), w.cell? ((⟨g, 0, none⟩ : Addr).add j) = some (.int .u8 (l[j].toNat : Int)) := by
      intro j hj
      have hadd : (⟨g, 0, none⟩ : Addr).add j = ⟨g, j, none⟩ := by
        unfold Addr.add
        simp only [Nat.zero_add, Addr.mk.injEq, and_true, true_and]
        split <;> simp_all
      rw [hadd]
      simp only [World.cell?, hg, hc]
      simp [hj]
    have := run_convert_bytes_back (P := P) w src dst e ⟨g, 0, none⟩ cap l hs he hd hcell
    unfold Oper.wp execOp
    simp only [ho, hx, Sem.run_bind, this, Result.andThen_ok, Sem.run_pure]
    exact hK _ _ h
theorem set_row (k : Nat) (v z : Value) (l : List Value) : ((List.replicate (k + 1) z ++ l).toArray).setIfInBounds k v = (List.replicate k z ++ v :: l).toArray := by
  rw [List.setIfInBounds_toArray]
  congr 1
  induction k with
  | zero => rfl
  | succ k ih => rw [List.replicate_succ, List.cons_append, List.set_cons_succ, ih, List.replicate_succ, List.cons_append]
theorem u8_mod (m : Nat) : ((m : Int) % 256) = ((UInt8.ofNat m).toNat : Int) := by
  rw [UInt8.toNat_ofNat']
  omega
theorem u8_wrap (m : Nat) : IntKind.u8.wrap (m : Int) = ((UInt8.ofNat m).toNat : Int) := by
  rw [UInt8.toNat_ofNat']
  simp [IntKind.wrap, IntKind.bits, IntKind.signed]
set_option maxRecDepth 100000 in
set_option maxHeartbeats 2000000 in
theorem num_c (n wd : Nat) (h1 : wd = 1 ∨ wd = 2 ∨ wd = 3) (hn : n < 256 ^ wd) (w : World) :
    Calls Tryd.prog 74 #[.int .i64 (n : Int), .int .i64 (wd : Int)] w fun r w' => r = .returned (strV (T.be n wd)) ∧ Below w.heap.size w w' := by
  have hcap : n < 16777216 := by rcases h1 with rfl | rfl | rfl <;> omega
  obtain ⟨W0, hW0⟩ : ∃ W0, W0 = w.alloc (Obj.cells ((List.replicate wd (Value.int .u8 0)).toArray) 5) := ⟨_, rfl⟩
  have hB0 : Below w.heap.size w W0 := by rw [hW0]; exact (Below.refl _ w).alloc (Nat.le_refl _) _
  have hg0 : W0.heap[w.heap.size]? = some (.cells ((List.replicate wd (Value.int .u8 0) ++ []).toArray) 5 (0, 0)) := by rw [hW0, List.append_nil]; exact heap_alloc_new _ _
  have HW := Lib.hid hW0
  have HG0 := Lib.hid hg0
  clear hW0 hg0
  have hmk : ∀ wd : Nat, wd = 1 ∨ wd = 2 ∨ wd = 3 → (Instr.makeSlice 96 (.int .i64 (wd : Int)) (.int .i64 (wd : Int))).run Tryd.prog w = .ok (.slice (some ⟨w.heap.size, 0, none⟩) wd wd) (w.alloc (Obj.cells ((List.replicate wd (Value.int .u8 0)).toArray) 5)) := by
    intro wd hwd
    obtain ⟨i0, hi, hz0, hz1, hz2⟩ := info_parts (show (Tryd.prog.info? 5).map (fun i => (i.zero, i.size, i.bytes)) = some (some (.int .u8 0), 1, 1) by kernel_rfl)
    have h := run_make (P := Tryd.prog) w 96 5 i0 (.int .u8 0) Tryd.underlying96 hi hz0 .i64 .i64 (wd : Int) (wd : Int) (by omega) (Int.le_refl _) (by rw [hz2]; omega) (by omega)
    rw [h, hz1]
    have e1 : madeCells (Value.int .u8 0).cells 1 = (List.replicate 1 (Value.int .u8 0)).toArray := by kernel_rfl
    have e2 : madeCells (Value.int .u8 0).cells 2 = (List.replicate 2 (Value.int .u8 0)).toArray := by kernel_rfl
    have e3 : madeCells (Value.int .u8 0).cells 3 = (List.replicate 3 (Value.int .u8 0)).toArray := by kernel_rfl
    rcases hwd with rfl | rfl | rfl
    · exact congrArg (fun c => Result.ok (Value.slice (some ⟨w.heap.size, 0, none⟩) 1 1) (w.alloc (Obj.cells c 5))) e1
    · exact congrArg (fun c => Result.ok (Value.slice (some ⟨w.heap.size, 0, none⟩) 2 2) (w.alloc (Obj.cells c 5))) e2
    · exact congrArg (fun c => Result.ok (Value.slice (some ⟨w.heap.size, 0, none⟩) 3 3) (w.alloc (Obj.cells c 5))) e3
  rcases h1 with rfl | rfl | rfl
  · have hm : (Instr.makeSlice 96 (.int .i64 1) (.int .i64 1)).run Tryd.prog w = .ok (.slice (some ⟨w.heap.size, 0, none⟩) 1 1) W0 := by have := hmk 1 (by omega); rw [← HW.out] at this; exact this
    clear hmk
    go_enter Tryd.func74, Tryd.ntmps74
    go_wp2
    clear hm
    go_loopw [0, 6] (fun m i wr => ∃ (k : Nat) (q : Nat) (sfx : List UInt8), k ≤ 1 ∧ m = .int .i64 (q : Int) ∧ i = .int .i64 ((k : Int) - 1) ∧ q < 16777216 ∧ Hid (T.be n 1 = T.be q k ++ sfx) ∧ wr.heap[w.heap.size]? = some (.cells ((List.replicate k (Value.int .u8 0) ++ sfx.map byteV).toArray) 5 (0, 0)) ∧ Below w.heap.size w wr) (fun _ i _ => (intOf i + 1).toNat)
    case atStart => exact ⟨1, n, [], Nat.le_refl _, rfl, by go_num, by omega, Lib.hid (by simp), HG0.out, hB0⟩
    case round =>
      obtain ⟨k, q, sfx, hk, rfl, rfl, hq, hbe, hg, hB⟩ := hrel
      have hgz := (Array.getElem?_eq_some_iff.1 hg).1
      have HG := Lib.hid hg
      cases k with
      | succ k =>
        have hu := Lib.hid (u8_mod q)
        have hc : wr.cell? ⟨w.heap.size, k, none⟩ = some (.int .u8 0) := by
          simp only [World.cell?, hg, List.getElem?_toArray]
          rw [List.getElem?_append_left (by simp)]
          simp
        have hf : wr.frozen? ⟨w.heap.size, k, none⟩ = false := by simp [World.frozen?, hg]
        have hk1 : ((k + 1 : Nat) : Int) - 1 = (k : Int) := by omega
        rw [hk1]
        clear hg hk1
        go_wp2
        go_roundw
        case rel => exact ⟨k, q / 256, UInt8.ofNat q :: sfx, by omega, by go_num, rfl, by omega, Lib.hid (by rw [hbe.out, T.be]; simp), by rw [heap_setCell_same _ _ _ _ _ _ HG.out, set_row, hu.out]; rfl, hB.setCell (p := ⟨w.heap.size, k, none⟩) (Nat.le_refl _) _⟩
        case measure => simp [intOf] <;> omega
      | zero =>
        have hres := hbe.out
        have hlen : sfx.length = 1 := by have h1 := congrArg List.length hres; rw [T.be_len, List.length_append] at h1; simp [T.be] at h1; omega
        have hR := Lib.hid (show T.be n 1 = sfx by rw [hres]; rfl)
        have HL := Lib.hid hlen
        have hk0 : ((0 : Nat) : Int) - 1 = -1 := rfl
        rw [hk0]
        clear hg hres hlen hbe hk0
        go_wp2_with (refine wpList_back rfl 96 9 5 _ rfl w.heap.size 1 sfx (by rw [HL.out]; rfl) Tryd.underlying96 Tryd.underlying5 Tryd.underlying9 _ _ _ HG.out (by simp) ?_)
        go_ret
        exact ⟨by rw [hR.out]; rfl, hB⟩
  · have hm : (Instr.makeSlice 96 (.int .i64 2) (.int .i64 2)).run Tryd.prog w = .ok (.slice (some ⟨w.heap.size, 0, none⟩) 2 2) W0 := by have := hmk 2 (by omega); rw [← HW.out] at this; exact this
    clear hmk
    go_enter Tryd.func74, Tryd.ntmps74
    go_wp2
    clear hm
    go_loopw [0, 6] (fun m i wr => ∃ (k : Nat) (q : Nat) (sfx : List UInt8), k ≤ 2 ∧ m = .int .i64 (q : Int) ∧ i = .int .i64 ((k : Int) - 1) ∧ q < 16777216 ∧ Hid (T.be n 2 = T.be q k ++ sfx) ∧ wr.heap[w.heap.size]? = some (.cells ((List.replicate k (Value.int .u8 0) ++ sfx.map byteV).toArray) 5 (0, 0)) ∧ Below w.heap.size w wr) (fun _ i _ => (intOf i + 1).toNat)
    case atStart => exact ⟨2, n, [], Nat.le_refl _, rfl, by go_num, by omega, Lib.hid (by simp), HG0.out, hB0⟩
    case round =>
      obtain ⟨k, q, sfx, hk, rfl, rfl, hq, hbe, hg, hB⟩ := hrel
      have hgz := (Array.getElem?_eq_some_iff.1 hg).1
      have HG := Lib.hid hg
      cases k with
      | succ k =>
        have hu := Lib.hid (u8_mod q)
        have hc : wr.cell? ⟨w.heap.size, k, none⟩ = some (.int .u8 0) := by
          simp only [World.cell?, hg, List.getElem?_toArray]
          rw [List.getElem?_append_left (by simp)]
          simp
        have hf : wr.frozen? ⟨w.heap.size, k, none⟩ = false := by simp [World.frozen?, hg]
        have hk1 : ((k + 1 : Nat) : Int) - 1 = (k : Int) := by omega
        rw [hk1]
        clear hg hk1
        go_wp2
        go_roundw
        case rel => exact ⟨k, q / 256, UInt8.ofNat q :: sfx, by omega, by go_num, rfl, by omega, Lib.hid (by rw [hbe.out, T.be]; simp), by rw [heap_setCell_same _ _ _ _ _ _ HG.out, set_row, hu.out]; rfl, hB.setCell (p := ⟨w.heap.size, k, none⟩) (Nat.le_refl _) _⟩
        case measure => simp [intOf] <;> omega
      | zero =>
        have hres := hbe.out
        have hlen : sfx.length = 2 := by have h1 := congrArg List.length hres; rw [T.be_len, List.length_append] at h1; simp [T.be] at h1; omega
        have hR := Lib.hid (show T.be n 2 = sfx by rw [hres]; rfl)
        have HL := Lib.hid hlen
        have hk0 : ((0 : Nat) : Int) - 1 = -1 := rfl
        rw [hk0]
        clear hg hres hlen hbe hk0
        go_wp2_with (refine wpList_back rfl 96 9 5 _ rfl w.heap.size 2 sfx (by rw [HL.out]; rfl) Tryd.underlying96 Tryd.underlying5 Tryd.underlying9 _ _ _ HG.out (by simp) ?_)
        go_ret
        exact ⟨by rw [hR.out]; rfl, hB⟩
  · have hm : (Instr.makeSlice 96 (.int .i64 3) (.int .i64 3)).run Tryd.prog w = .ok (.slice (some ⟨w.heap.size, 0, none⟩) 3 3) W0 := by have := hmk 3 (by omega); rw [← HW.out] at this; exact this
    clear hmk
    go_enter Tryd.func74, Tryd.ntmps74
    go_wp2
    clear hm
    go_loopw [0, 6] (fun m i wr => ∃ (k : Nat) (q : Nat) (sfx : List UInt8), k ≤ 3 ∧ m = .int .i64 (q : Int) ∧ i = .int .i64 ((k : Int) - 1) ∧ q < 16777216 ∧ Hid (T.be n 3 = T.be q k ++ sfx) ∧ wr.heap[w.heap.size]? = some (.cells ((List.replicate k (Value.int .u8 0) ++ sfx.map byteV).toArray) 5 (0, 0)) ∧ Below w.heap.size w wr) (fun _ i _ => (intOf i + 1).toNat)
    case atStart => exact ⟨3, n, [], Nat.le_refl _, rfl, by go_num, by omega, Lib.hid (by simp), HG0.out, hB0⟩
    case round =>
      obtain ⟨k, q, sfx, hk, rfl, rfl, hq, hbe, hg, hB⟩ := hrel
      have hgz := (Array.getElem?_eq_some_iff.1 hg).1
      have HG := Lib.hid hg
      cases k with
      | succ k =>
        have hu := Lib.hid (u8_mod q)
        have hc : wr.cell? ⟨w.heap.size, k, none⟩ = some (.int .u8 0) := by
          simp only [World.cell?, hg, List.getElem?_toArray]
          rw [List.getElem?_append_left (by simp)]
          simp
        have hf : wr.frozen? ⟨w.heap.size, k, none⟩ = false := by simp [World.frozen?, hg]
        have hk1 : ((k + 1 : Nat) : Int) - 1 = (k : Int) := by omega
        rw [hk1]
        clear hg hk1
        go_wp2
        go_roundw
        case rel => exact ⟨k, q / 256, UInt8.ofNat q :: sfx, by omega, by go_num, rfl, by omega, Lib.hid (by rw [hbe.out, T.be]; simp), by rw [heap_setCell_same _ _ _ _ _ _ HG.out, set_row, hu.out]; rfl, hB.setCell (p := ⟨w.heap.size, k, none⟩) (Nat.le_refl _) _⟩
        case measure => simp [intOf] <;> omega
      | zero =>
        have hres := hbe.out
        have hlen : sfx.length = 3 := by have h1 := congrArg List.length hres; rw [T.be_len, List.length_append] at h1; simp [T.be] at h1; omega
        have hR := Lib.hid (show T.be n 3 = sfx by rw [hres]; rfl)
        have HL := Lib.hid hlen
        have hk0 : ((0 : Nat) : Int) - 1 = -1 := rfl
        rw [hk0]
        clear hg hres hlen hbe hk0
        go_wp2_with (refine wpList_back rfl 96 9 5 _ rfl w.heap.size 3 sfx (by rw [HL.out]; rfl) Tryd.underlying96 Tryd.underlying5 Tryd.underlying9 _ _ _ HG.out (by simp) ?_)
        go_ret
        exact ⟨by rw [hR.out]; rfl, hB⟩
theorem be_zero (k : Nat) (n : Nat) (hn : n < 256 ^ k) (j : Nat) (h : k ≤ j) : n / 256 ^ j = 0 := by
  have := Nat.pow_le_pow_right (show 0 < 256 by omega) h
  exact Nat.div_eq_of_lt (by omega)
set_option maxRecDepth 100000 in
set_option maxHeartbeats 2000000 in
theorem rnum_c (n wd : Nat) (h1 : wd = 1 ∨ wd = 2 ∨ wd = 3) (hn : n < 256 ^ wd) (w : World) :
    Calls Tryd.prog 75 #[.int .i64 (n : Int), .int .i64 (wd : Int)] w fun r w' => r = .returned (strV (T.be n wd)) ∧ Below w.heap.size w w' := by
  have hcap : n < 16777216 := by rcases h1 with rfl | rfl | rfl <;> omega
  have hwd : 1 ≤ wd ∧ wd ≤ 3 := by omega
  obtain ⟨hw1, hw3⟩ := hwd
  have HN := Lib.hid hn
  clear h1 hn
  go_enter Tryd.func75, Tryd.ntmps75
  go_wp2
  go_loopw [0, 5, 6] (fun m s i wr => ∃ (j : Nat) (q : Nat) (sfx : List UInt8), j ≤ wd ∧ m = .int .i64 (q : Int) ∧ s = strV sfx ∧ i = .int .i64 (j : Int) ∧ sfx.length = j ∧ q < 16777216 ∧ Hid (q < 256 ^ (wd - j)) ∧ Hid (T.be n wd = T.be q (wd - j) ++ sfx) ∧ Below w.heap.size w wr) (fun _ _ i _ => wd - (intOf i).toNat)
  case atStart => exact ⟨0, n, [], Nat.zero_le _, rfl, rfl, rfl, rfl, by omega, Lib.hid (by simpa using HN.out), Lib.hid (by simp), Below.refl _ _⟩
  case round =>
    obtain ⟨j, q, sfx, hj, rfl, rfl, rfl, hsl, hq, hqp, hbe, hB⟩ := hrel
    by_cases hjw : j < wd
    · have hu := Lib.hid (u8_mod q)
      have hqe : Int.tmod (q : Int) 256 = (q : Int) % 256 := Int.tmod_eq_emod_of_nonneg (by omega)
      have hdv : Int.tdiv (q : Int) 256 = ((q / 256 : Nat) : Int) := by rw [Int.tdiv_eq_ediv_of_nonneg (by omega)]; omega
      have hstep := Lib.hid (show T.be n wd = T.be (q / 256) (wd - (j + 1)) ++ (UInt8.ofNat q :: sfx) by rw [hbe.out, show wd - j = (wd - (j + 1)) + 1 by omega, T.be]; simp)
      have hqn := Lib.hid (show q / 256 < 256 ^ (wd - (j + 1)) by
        have := hqp.out
        rw [show wd - j = (wd - (j + 1)) + 1 by omega, Nat.pow_succ] at this
        omega)
      have hg := fun (t : TypeId) => heap_alloc_new wr (Obj.cells #[.int .u8 ((q : Int) % 256)] t)
      clear hbe hqp
      go_wp2_with (refine wpList_back rfl 96 9 5 _ rfl wr.heap.size 1 [UInt8.ofNat q] rfl Tryd.underlying96 Tryd.underlying5 Tryd.underlying9 _ _ _ (hg _) (by rw [hu.out]; rfl) ?_)
      go_roundw
      case rel => exact ⟨j + 1, q / 256, UInt8.ofNat q :: sfx, by omega, by go_num, by first | exact congrArg Value.string (ByteArray.mk_append_mk (a := #[UInt8.ofNat q]) (b := sfx.toArray)) | (rw [show (#[UInt8.ofNat q] : Array UInt8) = [UInt8.ofNat q].toArray from rfl, ByteArray.mk_append_mk]; rfl) | simp [ByteArray.mk_append_mk], by go_num, by simp; omega, by omega, hqn, hstep, hB.alloc hB.size _⟩
      case measure => simp [intOf]; omega
    · obtain rfl : j = wd := by omega
      have hq0 := hqp.out
      rw [Nat.sub_self, Nat.pow_zero] at hq0
      obtain rfl : q = 0 := by omega
      have hR := Lib.hid (show T.be n j = sfx by rw [hbe.out, Nat.sub_self]; rfl)
      clear hq0 hqp hbe
      go_wp2
      go_ret
      exact ⟨by rw [hR.out]; rfl, hB⟩
end Go.Proofs.YtcncmbcnekekdaaDoor
