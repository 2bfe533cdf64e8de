/- Parsing an id: the program's walk. -/
import Derived.Test.YtcncmbcnekekdaaDoorParseP
import Derived.Test.YtcncmbcnekekdaaDoorLoadV
import Derived.Deep.DeepCutAuto
namespace Go.Proofs.YtcncmbcnekekdaaDoor
open Go.RowKit Go.Shelf
set_option linter.unusedVariables false
set_option linter.unusedSimpArgs false
theorem rowAt_rowI {w : World} {b : Nat} {cs : Array Value} {t : TypeId} {fr : Nat × Nat} (h : w.heap[b]? = some (.cells cs t fr)) : rowAt w b 0 cs.size = some cs := by
  unfold rowAt
  rw [h]
  simp
theorem below_setRowI {B b : Nat} {a w : World} (h : Below B a w) (hb : B ≤ b) (cs : Array Value) : Below B a (w.setRow b cs) :=
  ⟨h.os, h.tape, h.output, by simpa using h.size, fun k hk => (setRow_other w b k cs (by omega)).trans (h.block k hk)⟩
theorem parse_results (tmps : Array Value) (w : World) (bR : Nat) (cs : Array Value) (b : Value) (h2 : tmps.getD 2 undef = .pointer (some ⟨bR, 0, none⟩)) (h3 : tmps.getD 3 undef = b) (hr : rowAt w bR 0 3 = some cs) :
    (results Tryd.f24 tmps).run Tryd.prog w = .ok (.tuple #[.agg cs, b]) w := by
  have hl := run_loadVar_at (P := Tryd.prog) w 38 bR 0 3 cs _ hr Tryd.underlying38 rfl (by kernel_rfl)
  have h2' : tmps[2]?.getD undef = .pointer (some ⟨bR, 0, none⟩) := by simpa using h2
  have h3' : tmps[3]?.getD undef = b := by simpa using h3
  simp [results, Tryd.results24, asAddr, h2', h3', hl]
theorem rparse_results (tmps : Array Value) (w : World) (bR : Nat) (cs : Array Value) (b : Value) (h2 : tmps.getD 2 undef = .pointer (some ⟨bR, 0, none⟩)) (h3 : tmps.getD 3 undef = b) (hr : rowAt w bR 0 3 = some cs) :
    (results Tryd.f25 tmps).run Tryd.prog w = .ok (.tuple #[.agg cs, b]) w := by
  have hl := run_loadVar_at (P := Tryd.prog) w 38 bR 0 3 cs _ hr Tryd.underlying38 rfl (by kernel_rfl)
  have h2' : tmps[2]?.getD undef = .pointer (some ⟨bR, 0, none⟩) := by simpa using h2
  have h3' : tmps[3]?.getD undef = b := by simpa using h3
  simp [results, Tryd.results25, asAddr, h2', h3', hl]
/-- The world of a parse: what lies where. -/
structure PW (n : Nat) (ps : List (List UInt8)) (a b c : Int) (w : World) : Prop where
  res : w.heap[n]? = some (.cells #[.int .i64 0, .int .i64 0, .int .i64 0] 38 (0, 0))
  out : w.heap[n + 1]? = some (.cells #[.int .i64 a, .int .i64 b, .int .i64 c] 38 (0, 0))
  par : w.heap[n + 2]? = some (.cells (ps.map strV).toArray 9 (0, 0))
  ptr : w.heap[n + 3]? = some (.cells #[.pointer (some ⟨n + 1, 0, none⟩), .pointer (some ⟨n + 1, 1, none⟩), .pointer (some ⟨n + 1, 2, none⟩)] 107 (0, 0))
theorem PW.lt {n : Nat} {ps : List (List UInt8)} {a b c : Int} {w : World} (h : PW n ps a b c w) : n + 3 < w.heap.size := (Array.getElem?_eq_some_iff.1 h.ptr).1
theorem PW.below {n : Nat} {ps : List (List UInt8)} {a b c : Int} {w w' : World} (h : PW n ps a b c w) (hb : Below w.heap.size w w') : PW n ps a b c w' where
  res := (hb.block _ (by have := h.lt; omega)).trans h.res
  out := (hb.block _ (by have := h.lt; omega)).trans h.out
  par := (hb.block _ (by have := h.lt; omega)).trans h.par
  ptr := (hb.block _ (by have := h.lt; omega)).trans h.ptr
theorem PW.set {n : Nat} {ps : List (List UInt8)} {a b c : Int} {w : World} (h : PW n ps a b c w) (k : Nat) (v a' b' c' : Int) (hk : (k = 0 ∧ a' = v ∧ b' = b ∧ c' = c) ∨ (k = 1 ∧ a' = a ∧ b' = v ∧ c' = c) ∨ (k = 2 ∧ a' = a ∧ b' = b ∧ c' = v)) :
    PW n ps a' b' c' (w.setCell ⟨n + 1, k, none⟩ (.int .i64 v)) where
  res := (heap_setCell_other w ⟨n + 1, k, none⟩ n _ (by show n ≠ n + 1; omega)).trans h.res
  out := by
    have := heap_setCell_same w (n + 1) k _ _ (.int .i64 v) h.out
    rw [this]
    rcases hk with ⟨rfl, rfl, rfl, rfl⟩ | ⟨rfl, rfl, rfl, rfl⟩ | ⟨rfl, rfl, rfl, rfl⟩ <;> rfl
  par := (heap_setCell_other w ⟨n + 1, k, none⟩ (n + 2) _ (by show n + 2 ≠ n + 1; omega)).trans h.par
  ptr := (heap_setCell_other w ⟨n + 1, k, none⟩ (n + 3) _ (by show n + 3 ≠ n + 1; omega)).trans h.ptr
theorem cell_of {w : World} {b : Nat} {cs : Array Value} {t : TypeId} (h : w.heap[b]? = some (.cells cs t (0, 0))) (j : Nat) : w.cell? ⟨b, j, none⟩ = cs[j]? ∧ w.frozen? ⟨b, j, none⟩ = false := by
  constructor <;> simp [World.cell?, World.frozen?, h]
/-- The error told. -/
def T.perr (ok : Bool) : Int := if ok = true then 0 else 10
/-- What a round does: the number of part k, if there is one. -/
theorem T.partN_at (l : List UInt8) (ps : List (List UInt8)) (h : ps = T.parts 46 l) (k : Nat) (hk : k < ps.length) : T.partN l k = T.atoi ps[k] := by
  subst h
  unfold T.partN
  rw [List.getElem?_eq_getElem hk]
theorem T.partN_out (l : List UInt8) (ps : List (List UInt8)) (h : ps = T.parts 46 l) (k : Nat) (hk : ¬ k < ps.length) : T.partN l k = 0 := by
  subst h
  unfold T.partN
  rw [List.getElem?_eq_none (by omega)]
set_option maxRecDepth 100000 in
set_option maxHeartbeats 4000000 in
theorem parse_c (l : List UInt8) (hl : l.length ≤ 1000000) (w : World) (he : Env w) :
    Calls Tryd.prog 24 #[strV l] w fun r w' => r = .returned (.tuple #[.agg (Id.arr (T.parse l).1), .int .i64 (T.perr (T.parse l).2)]) ∧ Below w.heap.size w w' := by
  obtain ⟨n, hn⟩ : ∃ n, n = w.heap.size := ⟨_, rfl⟩
  obtain ⟨ps, hps⟩ : ∃ ps, ps = T.parts 46 l := ⟨_, rfl⟩
  obtain ⟨W0, hW0⟩ : ∃ W0, W0 = (w.alloc (Obj.cells #[.int .i64 0, .int .i64 0, .int .i64 0] 38)).alloc (Obj.cells #[.int .i64 0, .int .i64 0, .int .i64 0] 38) := ⟨_, rfl⟩
  have hB0 : Below w.heap.size w W0 := by rw [hW0]; exact ((Below.refl _ w).alloc (Nat.le_refl _) _).alloc (by simp) _
  have hz0 : W0.heap.size = n + 2 := by rw [hW0, hn]; simp
  obtain ⟨W3, hW3⟩ : ∃ W3, W3 = (W0.alloc (Obj.cells (ps.map strV).toArray 9)).alloc (Obj.cells #[.pointer (some ⟨n + 1, 0, none⟩), .pointer (some ⟨n + 1, 1, none⟩), .pointer (some ⟨n + 1, 2, none⟩)] 107) := ⟨_, rfl⟩
  have hB3 : Below w.heap.size w W3 := by rw [hW3]; exact (hB0.alloc hB0.size _).alloc (by simp; omega) _
  have hP3 : PW n ps 0 0 0 W3 := by
    refine ⟨?_, ?_, ?_, ?_⟩
    · rw [hW3, Below.heap_alloc _ _ _ (by simp; omega), Below.heap_alloc _ _ _ (by omega), hW0, Below.heap_alloc _ _ _ (by simp; omega), hn]; exact heap_alloc_new _ _
    · rw [hW3, Below.heap_alloc _ _ _ (by simp; omega), Below.heap_alloc _ _ _ (by omega), hW0, show n + 1 = (w.alloc (Obj.cells #[.int .i64 0, .int .i64 0, .int .i64 0] 38)).heap.size by simp; omega]; exact heap_alloc_new _ _
    · rw [hW3, Below.heap_alloc _ _ _ (by simp; omega), ← hz0]; exact heap_alloc_new _ _
    · rw [hW3, show n + 3 = (W0.alloc (Obj.cells (ps.map strV).toArray 9)).heap.size by simp; omega]; exact heap_alloc_new _ _
  have hsp := split_c 46 l (by omega) W0 (he.below hB0)
  rw [← hps, hz0] at hsp
  have hpl : ps.length ≤ 1000001 := by rw [hps, T.parts_len]; have := List.count_le_length (a := (46 : UInt8)) (l := l); omega
  have HN := Lib.hid hn
  have HS := Lib.hid hps
  have HW0 := Lib.hid hW0
  have HW3 := Lib.hid hW3
  have HZ := Lib.hid hz0
  clear hn hps hW0 hW3 hz0
  go_enter Tryd.func24, Tryd.ntmps24
  go_upto_region 2 with (fail)
  rw [← HW0.out, ← HN.out]
  go_upto_region 3 with (go_at_call 68; (with_reducible refine hsp.mono ?_); rintro r w3 ⟨rfl, rfl⟩)
  have hz0 := HZ.out
  go_wp2
  rw [← HW3.out]
  clear hz0
  go_loopw [15] (fun i wr => ∃ k : Nat, k ≤ 3 ∧ i = .int .i64 (k : Int) ∧ PW n ps (if 0 < k then T.partN l 0 else 0) (if 1 < k then T.partN l 1 else 0) (if 2 < k then T.partN l 2 else 0) wr ∧ Below w.heap.size w wr) (fun i _ => 3 - (intOf i).toNat)
  case atStart => exact ⟨0, by omega, rfl, hP3, hB3⟩
  case round =>
    obtain ⟨k, hk, rfl, hP, hB⟩ := hrel
    clear hP3 hB3 hsp
    have henv := he.below hB
    have hwz := hP.lt
    have hnw : n = w.heap.size := HN.out
    have hk4 : k = 0 ∨ k = 1 ∨ k = 2 ∨ k = 3 := by omega
    rcases hk4 with rfl | rfl | rfl | rfl
    · have HP := Lib.hid hP
      have hptr := (cell_of hP.ptr 0).1
      by_cases hlt : 0 < ps.length
      · obtain ⟨p, hp⟩ : ∃ p, p = ps[0] := ⟨_, rfl⟩
        have hpar : wr.cell? ⟨n + 2, 0, none⟩ = some (strV p) := by rw [(cell_of hP.par 0).1, hp]; simp [hlt]
        have hpn := T.partN_at l ps HS.out 0 hlt
        rw [← hp] at hpn
        have hpl2 : p.length ≤ 100000000 := by
          have hm : p ∈ T.parts 46 l := by rw [← HS.out, hp]; exact List.getElem_mem _
          have := T.parts_sub 46 l p hm
          omega
        have hat := atoi_c p hpl2 wr henv
        have HPN := Lib.hid hpn
        have hnwz : n + 1 < wr.heap.size := by omega
        clear hp hpn hpl2 henv hP hnw
        go_wp2_with (go_at_call 69; (with_reducible refine hat.mono ?_); rintro r w5 ⟨ev, rfl, hb5⟩; have hP5 := HP.out.below hb5; have hz5 := hP5.lt; have hout := (cell_of hP5.out 0).1; have hfr := (cell_of hP5.out 0).2; have HB5 := Lib.hid hb5; have HP5 := Lib.hid hP5; clear hb5 hP5)
        go_roundw
        case rel => exact ⟨0 + 1, by omega, by go_num, HP5.out.set 0 (T.atoi p) _ _ _ (by simp [HPN.out]), (bthen hB HB5.out).setCell (p := ⟨n + 1, 0, none⟩) (by show w.heap.size ≤ n + 1; have := HN.out; omega) _⟩
        case measure => simp [intOf]
      · have hpn := Lib.hid (T.partN_out l ps HS.out 0 hlt)
        clear hP hnw
        go_wp2
        go_roundw
        case rel => exact ⟨0 + 1, by omega, by go_num, by have := HP.out; simp at this ⊢; rw [hpn.out]; exact this, hB⟩
        case measure => simp [intOf]
    · have HP := Lib.hid hP
      have hptr := (cell_of hP.ptr 1).1
      by_cases hlt : 1 < ps.length
      · obtain ⟨p, hp⟩ : ∃ p, p = ps[1] := ⟨_, rfl⟩
        have hpar : wr.cell? ⟨n + 2, 1, none⟩ = some (strV p) := by rw [(cell_of hP.par 1).1, hp]; simp [hlt]
        have hpn := T.partN_at l ps HS.out 1 hlt
        rw [← hp] at hpn
        have hpl2 : p.length ≤ 100000000 := by
          have hm : p ∈ T.parts 46 l := by rw [← HS.out, hp]; exact List.getElem_mem _
          have := T.parts_sub 46 l p hm
          omega
        have hat := atoi_c p hpl2 wr henv
        have HPN := Lib.hid hpn
        have hnwz : n + 1 < wr.heap.size := by omega
        clear hp hpn hpl2 henv hP hnw
        go_wp2_with (go_at_call 69; (with_reducible refine hat.mono ?_); rintro r w5 ⟨ev, rfl, hb5⟩; have hP5 := HP.out.below hb5; have hz5 := hP5.lt; have hout := (cell_of hP5.out 1).1; have hfr := (cell_of hP5.out 1).2; have HB5 := Lib.hid hb5; have HP5 := Lib.hid hP5; clear hb5 hP5)
        go_roundw
        case rel => exact ⟨1 + 1, by omega, by go_num, HP5.out.set 1 (T.atoi p) _ _ _ (by simp [HPN.out]), (bthen hB HB5.out).setCell (p := ⟨n + 1, 1, none⟩) (by show w.heap.size ≤ n + 1; have := HN.out; omega) _⟩
        case measure => simp [intOf]
      · have hpn := Lib.hid (T.partN_out l ps HS.out 1 hlt)
        clear hP hnw
        go_wp2
        go_roundw
        case rel => exact ⟨1 + 1, by omega, by go_num, by have := HP.out; simp at this ⊢; rw [hpn.out]; exact this, hB⟩
        case measure => simp [intOf]
    · have HP := Lib.hid hP
      have hptr := (cell_of hP.ptr 2).1
      by_cases hlt : 2 < ps.length
      · obtain ⟨p, hp⟩ : ∃ p, p = ps[2] := ⟨_, rfl⟩
        have hpar : wr.cell? ⟨n + 2, 2, none⟩ = some (strV p) := by rw [(cell_of hP.par 2).1, hp]; simp [hlt]
        have hpn := T.partN_at l ps HS.out 2 hlt
        rw [← hp] at hpn
        have hpl2 : p.length ≤ 100000000 := by
          have hm : p ∈ T.parts 46 l := by rw [← HS.out, hp]; exact List.getElem_mem _
          have := T.parts_sub 46 l p hm
          omega
        have hat := atoi_c p hpl2 wr henv
        have HPN := Lib.hid hpn
        have hnwz : n + 1 < wr.heap.size := by omega
        clear hp hpn hpl2 henv hP hnw
        go_wp2_with (go_at_call 69; (with_reducible refine hat.mono ?_); rintro r w5 ⟨ev, rfl, hb5⟩; have hP5 := HP.out.below hb5; have hz5 := hP5.lt; have hout := (cell_of hP5.out 2).1; have hfr := (cell_of hP5.out 2).2; have HB5 := Lib.hid hb5; have HP5 := Lib.hid hP5; clear hb5 hP5)
        go_roundw
        case rel => exact ⟨2 + 1, by omega, by go_num, HP5.out.set 2 (T.atoi p) _ _ _ (by simp [HPN.out]), (bthen hB HB5.out).setCell (p := ⟨n + 1, 2, none⟩) (by show w.heap.size ≤ n + 1; have := HN.out; omega) _⟩
        case measure => simp [intOf]
      · have hpn := Lib.hid (T.partN_out l ps HS.out 2 hlt)
        clear hP hnw
        go_wp2
        go_roundw
        case rel => exact ⟨2 + 1, by omega, by go_num, by have := HP.out; simp at this ⊢; rw [hpn.out]; exact this, hB⟩
        case measure => simp [intOf]
    · have hP' : PW n ps (T.parseId l).node (T.parseId l).inc (T.parseId l).seq wr := by simpa [T.parseId] using hP
      obtain ⟨d, hd⟩ : ∃ d, d = T.parseId l := ⟨_, rfl⟩
      have hdo : Id.ok d := by rw [hd]; exact T.parseId_ok l
      have hpar : T.parse l = if T.idRight d = true ∧ T.idText d = l then (d, true) else (T.zeroId, false) := by rw [hd]; rfl
      rw [← hd] at hP'
      have r4 : rowAt wr (n + 1) 0 3 = some (Id.arr d) := rowAt_rowI hP'.out
      have HD := Lib.hid hd
      have HPR := Lib.hid hpar
      have HP := Lib.hid hP'
      have hri := idRight_c d wr
      clear hd hpar hP hP' hnw
      rcases h0 : T.idRight d with _ | _
      · have HR := Lib.hid (show T.parse l = (T.zeroId, false) by rw [HPR.out, if_neg (by rw [h0]; simp)])
        rw [h0] at hri
        clear h0 HPR
        go_wp2_with (first | (refine wpList_load_at_v 38 _ rfl rfl _ (0) 3 rfl _ _ r4 rfl rfl rfl ?_) | (go_at_call 28; (with_reducible refine hri.mono ?_); rintro r w5 ⟨rfl, hb5⟩; have hR5 := (HP.out.below hb5).res) | (refine wpList_store_row rfl _ _ _ rfl n (Id.arr T.zeroId) rfl rfl _ _ hR5 rfl rfl (Id.one _) ?_))
        have hR6 := setRow_heap _ n _ (Id.arr T.zeroId) _ _ hR5
        refine bodyPost_ret (parse_results _ _ n _ _ rfl rfl (rowAt_rowI hR6)) rfl ⟨by rw [HR.out]; rfl, below_setRowI (bthen hB hb5) (by have := HN.out; omega) _⟩
      · have htx := fun (X : World) (hX : Below wr.heap.size wr X) => idText_c d hdo X (henv.tab.below hX)
        rw [h0] at hri
        by_cases ht : T.idText d = l
        · have HR := Lib.hid (show T.parse l = (d, true) by rw [HPR.out, if_pos ⟨h0, ht⟩])
          rw [ht] at htx
          clear h0 HPR ht
          go_wp2_with (first | (refine wpList_load_at_v 38 _ rfl rfl _ (0) 3 rfl _ _ r4 rfl rfl rfl ?_) | (go_at_call 28; (with_reducible refine hri.mono ?_); rintro r w5 ⟨rfl, hb5⟩; have r5 := (rowAt_block (hb5.block (n + 1) (by omega))).trans r4; have htx5 := htx _ hb5) | (refine wpList_load_at_v 38 _ rfl rfl _ (0) 3 rfl _ _ r5 rfl rfl rfl ?_) | (go_at_call 32; (with_reducible refine htx5.mono ?_); rintro r w6 ⟨rfl, hb6⟩; have hb56 := bthen hb5 hb6; have hP6 := HP.out.below hb56; have r6 : rowAt w6 (n + 1) 0 3 = some (Id.arr d) := rowAt_rowI hP6.out; have hR6 := hP6.res) | (refine wpList_load_at_v 38 _ rfl rfl _ (0) 3 rfl _ _ r6 rfl rfl rfl ?_) | (refine wpList_store_row rfl _ _ _ rfl n (Id.arr d) rfl rfl _ _ hR6 rfl rfl (Id.one _) ?_))
          have hR7 := setRow_heap _ n _ (Id.arr d) _ _ hR6
          refine bodyPost_ret (parse_results _ _ n _ _ rfl rfl (rowAt_rowI hR7)) rfl ⟨by rw [HR.out]; rfl, below_setRowI (bthen hB hb56) (by have := HN.out; omega) _⟩
        · have HR := Lib.hid (show T.parse l = (T.zeroId, false) by rw [HPR.out, if_neg fun hh => ht hh.2])
          have hne : (T.idText d == l) = false := beq_eq_false_iff_ne.2 ht
          clear h0 HPR ht
          go_wp2_with (first | (refine wpList_load_at_v 38 _ rfl rfl _ (0) 3 rfl _ _ r4 rfl rfl rfl ?_) | (go_at_call 28; (with_reducible refine hri.mono ?_); rintro r w5 ⟨rfl, hb5⟩; have r5 := (rowAt_block (hb5.block (n + 1) (by omega))).trans r4; have htx5 := htx _ hb5) | (refine wpList_load_at_v 38 _ rfl rfl _ (0) 3 rfl _ _ r5 rfl rfl rfl ?_) | (go_at_call 32; (with_reducible refine htx5.mono ?_); rintro r w6 ⟨rfl, hb6⟩; have hb56 := bthen hb5 hb6; have hP6 := HP.out.below hb56; have hR6 := hP6.res) | (refine wpList_store_row rfl _ _ _ rfl n (Id.arr T.zeroId) rfl rfl _ _ hR6 rfl rfl (Id.one _) ?_))
          have hR7 := setRow_heap _ n _ (Id.arr T.zeroId) _ _ hR6
          refine bodyPost_ret (parse_results _ _ n _ _ rfl rfl (rowAt_rowI hR7)) rfl ⟨by rw [HR.out]; rfl, below_setRowI (bthen hB hb56) (by have := HN.out; omega) _⟩
end Go.Proofs.YtcncmbcnekekdaaDoor
