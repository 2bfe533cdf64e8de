/- Parsing a step as the document does: its walk. -/
import Derived.Test.YtpgdgboobnmjiaaDoorRNumW
namespace Go.Proofs.YtpgdgboobnmjiaaDoor
open Go.RowKit Go.Shelf
set_option linter.unusedVariables false
set_option linter.unusedSimpArgs false
theorem rsparse_results (tmps : Array Value) (w : World) (bR : Nat) (cs : Array Value) (b : Value) (h2 : tmps.getD 2 undef = .pointer (some ⟨bR, 0, none⟩)) (h3 : tmps.getD 3 undef = b) (hr : rowAt w bR 0 5 = some cs) :
    (results Tryd.f14 tmps).run Tryd.prog w = .ok (.tuple #[.agg cs, b]) w := by
  have hl := run_loadVar_at (P := Tryd.prog) w 28 bR 0 5 cs _ hr Tryd.underlying28 rfl (by kernel_rfl)
  have h2' : tmps[2]?.getD undef = .pointer (some ⟨bR, 0, none⟩) := by simpa using h2
  have h3' : tmps[3]?.getD undef = b := by simpa using h3
  simp [results, Tryd.results14, asAddr, h2', h3', hl]
/-- The numbers so far, as they lie. -/
def L4 (g : Nat) (vs : List Int) (w : World) : Prop := w.heap[g]? = some (.cells #[.int .i64 (vs.getD 0 0), .int .i64 (vs.getD 1 0), .int .i64 (vs.getD 2 0), .int .i64 (vs.getD 3 0)] 3 (0, 0))
theorem L4.lt {g : Nat} {vs : List Int} {w : World} (h : L4 g vs w) : g < w.heap.size := (Array.getElem?_eq_some_iff.1 h).1
theorem L4.below {g : Nat} {vs : List Int} {w w' : World} (h : L4 g vs w) (hb : Below w.heap.size w w') : L4 g vs w' := (hb.block g h.lt).trans h
theorem L4.snoc {g : Nat} {vs : List Int} {w : World} (h : L4 g vs w) (hv : vs.length < 4) (v : Int) : L4 g (vs ++ [v]) (w.setCell ⟨g, vs.length, none⟩ (.int .i64 v)) := by
  have := heap_setCell_same w g vs.length _ _ (.int .i64 v) h
  unfold L4
  rw [this]
  match vs, hv with
  | [], _ => rfl
  | [_], _ => rfl
  | [_, _], _ => rfl
  | [_, _, _], _ => rfl
/-- The result's cells as they were made. -/
def R5 (n : Nat) (w : World) : Prop := w.heap[n]? = some (.cells #[.int .i64 0, .int .i64 0, .int .i64 0, .int .i64 0, .int .i64 0] 28 (0, 0))
theorem R5.lt {n : Nat} {w : World} (h : R5 n w) : n < w.heap.size := (Array.getElem?_eq_some_iff.1 h).1
theorem R5.below {n : Nat} {w w' : World} (h : R5 n w) (hb : Below w.heap.size w w') : R5 n w' := (hb.block n h.lt).trans h
theorem R5.set {n g k : Nat} {v : Value} {w : World} (h : R5 n w) (hg : n ≠ g) : R5 n (w.setCell ⟨g, k, none⟩ v) := (heap_setCell_other w ⟨g, k, none⟩ n _ hg).trans h
theorem T.rtail_more (k : Nat) (l : List UInt8) (vs : List Int) (R : Option (List Int)) (h : R = (T.rtail (k + 1) (32 :: l)).map (vs ++ ·)) (hn : (T.rnum l).2.2 = true) : R = (T.rtail k (T.rnum l).2.1).map ((vs ++ [(T.rnum l).1]) ++ ·) := by
  rw [h, T.rtail, if_pos rfl, if_pos hn]
  cases T.rtail k (T.rnum l).2.1 <;> simp
theorem T.rtail_wrong (k : Nat) (l : List UInt8) (vs : List Int) (R : Option (List Int)) (h : R = (T.rtail (k + 1) (32 :: l)).map (vs ++ ·)) (hn : (T.rnum l).2.2 = false) : R = none := by
  rw [h, T.rtail, if_pos rfl, if_neg (by rw [hn]; exact Bool.false_ne_true)]
  rfl
theorem T.rtail_empty (k : Nat) (vs : List Int) (R : Option (List Int)) (h : R = (T.rtail (k + 1) []).map (vs ++ ·)) : R = none := by
  rw [h, T.rtail]
  rfl
theorem T.rtail_other (k : Nat) (c : UInt8) (l : List UInt8) (vs : List Int) (R : Option (List Int)) (h : R = (T.rtail (k + 1) (c :: l)).map (vs ++ ·)) (hc : c ≠ 32) : R = none := by
  rw [h, T.rtail, if_neg hc]
  rfl
theorem T.rnum_left (l : List UInt8) : (T.rnum l).2.1.length ≤ l.length ∧ ∃ p, l = p ++ (T.rnum l).2.1 := by
  have key : ∃ p, l = p ++ (T.rnum l).2.1 := by
    unfold T.rnum
    split
    · rename_i hc
      obtain ⟨p, hp⟩ := T.digs_suffix l.tail 0
      cases l with
      | nil => cases hc
      | cons c cs => exact ⟨c :: p, by rw [List.cons_append]; simp only [List.tail_cons] at hp ⊢; rw [← hp]⟩
    · exact T.digs_suffix l 0
  refine ⟨?_, key⟩
  obtain ⟨p, hp⟩ := key
  have := congrArg List.length hp
  simp at this
  omega
theorem T.drop_left (l r p : List UInt8) (k : Nat) (hk : k ≤ l.length) (h : l.drop k = p ++ r) : l.drop (l.length - r.length) = r := by
  have e : l = (l.take k ++ p) ++ r := by rw [List.append_assoc, ← h, List.take_append_drop]
  have hlen := congrArg List.length e
  simp at hlen
  rw [show l.length - r.length = (l.take k ++ p).length by simp; omega]
  have := List.drop_left (l₁ := l.take k ++ p) (l₂ := r)
  rw [← e] at this
  exact this
theorem T.rkind_none (k : Nat) (l : List UInt8) (h : T.rtail (T.has k).toNat (l.drop (T.word k).length) = none) : T.rkind k l = (T.zeroS, false) := by
  unfold T.rkind; rw [h]
theorem T.rkind_vs (k : Nat) (l : List UInt8) (vs : List Int) (h : T.rtail (T.has k).toNat (l.drop (T.word k).length) = some vs) : T.rkind k l = if T.stepRight (T.stepOf k vs) = true then (T.stepOf k vs, true) else (T.zeroS, false) := by
  unfold T.rkind; rw [h]
theorem Step.zero_arr : Step.arr T.zeroS = #[.int .i64 0, .int .i64 0, .int .i64 0, .int .i64 0, .int .i64 0] := rfl
attribute [local go_sem] Step.sz
set_option maxRecDepth 100000 in
set_option maxHeartbeats 8000000 in
theorem rsparse_c (l : List UInt8) (hl : l.length ≤ 1000000) (w : World) :
    Calls Tryd.prog 14 #[strV l] w fun r w' => r = .returned (.tuple #[.agg (Step.arr (T.sparse l).1), .bool (T.sparse l).2]) ∧ Below w.heap.size w w' := by
  obtain ⟨n, hn⟩ : ∃ n, n = w.heap.size := ⟨_, rfl⟩
  obtain ⟨W0, hW0⟩ : ∃ W0, W0 = w.alloc (Obj.cells #[.int .i64 0, .int .i64 0, .int .i64 0, .int .i64 0, .int .i64 0] 28) := ⟨_, rfl⟩
  have hB0 : Below w.heap.size w W0 := by rw [hW0]; exact (Below.refl _ w).alloc (Nat.le_refl _) _
  have hP0 : R5 n W0 := by rw [hW0, hn]; exact heap_alloc_new _ _
  have HN := Lib.hid hn
  have HW0 := Lib.hid hW0
  have HS := Lib.hid (T.rfrom_sparse l)
  clear hn hW0
  go_enter Tryd.func14, Tryd.ntmps14
  go_wp2
  rw [← HW0.out, ← HN.out]
  go_loopw [4] (fun q wr => ∃ k : Nat, 1 ≤ k ∧ k ≤ 12 ∧ q = .int .i64 (k : Int) ∧ Hid (T.sparse l = T.rfrom l (12 - k) k) ∧ R5 n wr ∧ Below w.heap.size w wr) (fun q _ => 12 - (intOf q).toNat)
  case atStart => exact ⟨1, by omega, by omega, rfl, Lib.hid HS.out.symm, hP0, hB0⟩
  case round =>
    obtain ⟨k, hk1, hk2, rfl, hsp, hP, hB⟩ := hrel
    clear hP0 hB0
    have hnn : w.heap.size ≤ n := by have := HN.out; omega
    by_cases hk : k ≤ 11
    · have hI : (k : Int) ≤ 11 := by omega
      have hwc := fun X : World => word_c k (by omega) X
      obtain ⟨wd, hwd⟩ : ∃ wd, wd = T.word (k : Int) := ⟨_, rfl⟩
      rw [← hwd] at hwc
      have hstep : T.rfrom l (12 - k) k = if wd.isPrefixOf l then T.rkind k l else T.rfrom l (11 - k) (k + 1) := by
        rw [show 12 - k = (11 - k) + 1 by omega, T.rfrom, ← hwd]
      have HST := Lib.hid (hsp.out.trans hstep)
      have hwl : wd.length ≤ 7 := by rw [hwd]; exact T.word_len k
      have HWD := Lib.hid hwd
      clear hsp hstep hwd
      have w4 : IntKind.i64.wrap ((k : Int) + 1) = (k : Int) + 1 := IntWalk.i64_in _ (by omega)
      by_cases hlt : l.length < wd.length
      · have hlI : (l.length : Int) < (wd.length : Int) := by omega
        have hnx : T.sparse l = T.rfrom l (12 - (k + 1)) (k + 1) := by
          rw [HST.out, if_neg (fun h => ?_), show 12 - (k + 1) = 11 - k by omega]
          have := (List.isPrefixOf_iff_prefix.1 h).length_le
          omega
        have HX := Lib.hid hnx
        clear HST hnx hlt
        go_wp2_with (go_at_call 43; (with_reducible refine (hwc _).mono ?_); rintro r w2 ⟨rfl, hb2⟩)
        go_roundw
        case rel => exact ⟨k + 1, by omega, by omega, by go_num, HX, hP.below hb2, bthen hB hb2⟩
        case measure => simp [intOf] <;> omega
      · have hlI : ¬ (l.length : Int) < (wd.length : Int) := by omega
        have hlN : decide (l.length < wd.length) = false := decide_eq_false hlt
        have hcut := bytes_take l wd.length
        by_cases hpr : l.take wd.length = wd
        · rw [hpr] at hcut
          have HK := Lib.hid (show T.sparse l = T.rkind k l by rw [HST.out, if_pos (List.isPrefixOf_iff_prefix.2 (List.prefix_iff_eq_take.2 hpr.symm))])
          have hcb := T.has_bd (k : Int)
          obtain ⟨cnt, hcnt⟩ : ∃ cnt : Nat, T.has (k : Int) = (cnt : Int) := ⟨(T.has (k : Int)).toNat, by omega⟩
          rw [hcnt] at hcb
          have hcc := fun X : World => count_c (k : Int) (by omega) X
          rw [hcnt] at hcc
          obtain ⟨RT, hRT⟩ : ∃ RT, RT = T.rtail cnt (l.drop wd.length) := ⟨_, rfl⟩
          have HRN := Lib.hid (show RT = none → T.sparse l = (T.zeroS, false) from fun h => by
            rw [HK.out]; refine T.rkind_none k l ?_; rw [hcnt, ← HWD.out, Int.toNat_natCast, ← hRT, h])
          have HRV := Lib.hid (show ∀ vs, RT = some vs → T.sparse l = if T.stepRight (T.stepOf (k : Int) vs) = true then (T.stepOf (k : Int) vs, true) else (T.zeroS, false) from fun vs h => by
            rw [HK.out]; refine T.rkind_vs k l vs ?_; rw [hcnt, ← HWD.out, Int.toNat_natCast, ← hRT, h])
          have HRT := Lib.hid hRT
          have hs1 : (0 : Int) ≤ (wd.length : Int) := by omega
          have hs2 : (wd.length : Int) ≤ (l.length : Int) := by omega
          have HCN := Lib.hid hcnt
          have hc1 : 1 ≤ cnt := by omega
          have hc4 : cnt ≤ 4 := by omega
          clear HST hpr hcnt hRT HK hcb w4 hlt
          go_wp2_with (go_at_call 43; (with_reducible refine (hwc _).mono ?_); rintro r w2 ⟨rfl, hb2⟩)
          have hP1 := hP.below hb2
          have hB1 := bthen hB hb2
          obtain ⟨g, hg⟩ : ∃ g, g = w2.heap.size := ⟨_, rfl⟩
          obtain ⟨W3, hW3⟩ : ∃ W3, W3 = w2.alloc (Obj.cells #[.int .i64 0, .int .i64 0, .int .i64 0, .int .i64 0] 3) := ⟨_, rfl⟩
          have hL3 : L4 g [] W3 := by rw [hW3, hg]; exact heap_alloc_new _ _
          have hP3 : R5 n W3 := by rw [hW3]; exact hP1.below ((Below.refl _ w2).alloc (Nat.le_refl _) _)
          have hB3 : Below w.heap.size w W3 := by rw [hW3]; exact hB1.alloc hB1.size _
          have hng : n ≠ g := by have := hP1.lt; omega
          have hwg : w.heap.size ≤ g := by have := hB1.size; omega
          rw [← hW3, ← hg]
          clear hW3 hg hP1 hB1 hP hB hb2 hcut hlI hs1 hwc
          go_loopw [7, 8, 9] (fun a gd i wr => ∃ (q : Nat) (ok : Bool) (vs : List Int), a = .int .i64 (q : Int) ∧ gd = .bool ok ∧ i = .int .i64 (vs.length : Int) ∧ vs.length ≤ cnt ∧ q ≤ l.length ∧ L4 g vs wr ∧ R5 n wr ∧ Below w.heap.size w wr ∧ Hid (ok = true → RT = (T.rtail (cnt - vs.length) (l.drop q)).map (vs ++ ·)) ∧ Hid (ok = false → RT = none)) (fun _ _ i _ => cnt - (intOf i).toNat)
          case atStart =>
            refine ⟨wd.length, true, [], rfl, rfl, rfl, by simp, by omega, hL3, hP3, hB3, Lib.hid fun _ => ?_, Lib.hid fun h => by cases h⟩
            rw [HRT.out]
            cases T.rtail cnt (l.drop wd.length) <;> simp
          case round =>
            obtain ⟨q, ok, vs, rfl, rfl, rfl, hvc, hql, hL, hP2, hB2, h1, h2⟩ := hrel
            clear hL3 hP3 hB3
            rcases ok with _ | _
            · have HV := Lib.hid (HRN.out (h2.out rfl))
              clear h1 h2
              by_cases hc : vs.length < cnt
              · have hcI : (vs.length : Int) < (cnt : Int) := by omega
                clear hc
                go_wp2_with (go_at_call 44; (with_reducible refine (hcc _).mono ?_); rintro r w5 ⟨rfl, hb5⟩)
                have hL5 := hL.below hb5
                have hP5 := hP2.below hb5
                have hB5 := bthen hB2 hb5
                obtain ⟨d, hd⟩ : ∃ d, d = T.stepOf (k : Int) vs := ⟨_, rfl⟩
                have k0 : w5.cell? ⟨g, 0, none⟩ = some (.int .i64 d.a) := by rw [hd]; exact (cell_of hL5 0).1
                have k1 : w5.cell? ⟨g, 1, none⟩ = some (.int .i64 d.b) := by rw [hd]; exact (cell_of hL5 1).1
                have k2 : w5.cell? ⟨g, 2, none⟩ = some (.int .i64 d.c) := by rw [hd]; exact (cell_of hL5 2).1
                have k3 : w5.cell? ⟨g, 3, none⟩ = some (.int .i64 d.d) := by rw [hd]; exact (cell_of hL5 3).1
                have hdk : (k : Int) = d.kind := by rw [hd]; rfl
                have hg5 := hL5.lt
                have HD := Lib.hid hd
                rw [hdk]
                clear hdk hL hP2 hB2 hd hL5 hb5
                refine wp_region_P 15 [14, 15] [0, 1, 2, 3, 4, 5, 6, 7, 8, 9, 10, 11, 12, 13, 14, 15] (fun X => Below w5.heap.size w5 X) (by kernel_rfl) (by kernel_rfl) (by kernel_rfl) (by decide) (by simp only [ordOps, List.map_cons, List.map_nil, List.getElem?_cons_succ, List.getElem?_cons_zero, Option.getD_some]; repeat (first | exact trivial | refine ⟨.inl rfl, ?_⟩ | refine ⟨.inr fun _ _ _ _ h => h, ?_⟩)) ?_ ?_
                rotate_left; simp only [ordOps, List.map_cons, List.map_nil, List.getElem?_cons_succ, List.getElem?_cons_zero, Option.getD_some]; rotate_left
                · exact (Below.refl _ w5).drew
                iterate 14 ((first | (refine wpP_q (by rfl) (by rfl) ?_ ?_ ?_; rotate_left; focus (rintro W hX; have s0 := (hX.cell (p := ⟨g, 0, none⟩) hg5).trans k0; have s1 := (hX.cell (p := ⟨g, 1, none⟩) hg5).trans k1; have s2 := (hX.cell (p := ⟨g, 2, none⟩) hg5).trans k2; have s3 := (hX.cell (p := ⟨g, 3, none⟩) hg5).trans k3; go_simp; try (with_reducible rfl); done)) | refine wpP_skip (by rfl) (by rfl) ?_); try simp only [Act.put, List.setIfInBounds_toArray, List.set_cons_succ, List.set_cons_zero])
                refine wpP_a (by rfl) (by rfl) fun K hK => ?_
                go_simp
                refine hK _ _ (fun _ => ((Below.refl _ w5).drew.alloc (Nat.le_refl _) _)) ?_; clear hK K; try simp only [Act.put, List.setIfInBounds_toArray, List.set_cons_succ, List.set_cons_zero]
                refine wpP_a (by rfl) (by rfl) fun K hK => ?_
                refine wp_store_row 28 _ _ rfl w5.heap.size (Step.arr d) rfl rfl _ _ (heap_alloc_new _ _) rfl rfl (Step.one _) ?_
                generalize hW6 : World.setRow _ w5.heap.size (Step.arr d) = W6
                refine hK _ _ (fun h => absurd h (by omega)) ?_; clear hK K; try simp only [Act.put, List.setIfInBounds_toArray, List.set_cons_succ, List.set_cons_zero]
                refine wpP_nil ?_
                have hz6 : W6.heap[w5.heap.size]? = some (.cells (Step.arr d) 28 (0, 0)) := by rw [← hW6]; exact setRow_heap _ _ _ _ _ _ (heap_alloc_new _ _)
                have hb6 : Below w5.heap.size w5 W6 := by rw [← hW6]; exact below_setRowI ((Below.refl _ w5).drew.alloc (Nat.le_refl _) _) (Nat.le_refl _) _
                have x6 := rowAt_rowI hz6
                rw [Step.sz] at x6
                have hP6 := hP5.below hb6
                have hB6 := bthen hB5 hb6
                have hz6' : w5.heap.size < W6.heap.size := (Array.getElem?_eq_some_iff.1 hz6).1
                clear hW6 hz6 hb6 hP5 hB5 k0 k1 k2 k3
                have HZ := HV
                have hP7 := hP6
                have hB7 := hB6
                have hres := hP7
                unfold R5 at hres
                go_wp2_with (refine wpList_store_row rfl _ _ _ rfl n (Step.arr T.zeroS) rfl rfl _ _ hres rfl rfl (Step.one _) ?_)
                have hR8 := setRow_heap _ n _ (Step.arr T.zeroS) _ _ hres
                exact bodyPost_ret (rsparse_results _ _ n _ _ rfl rfl (rowAt_rowI hR8)) rfl ⟨by rw [HZ.out]; rfl, below_setRowI hB7 hnn _⟩
              · have hcI : ¬ (vs.length : Int) < (cnt : Int) := by omega
                clear hc
                go_wp2_with (go_at_call 44; (with_reducible refine (hcc _).mono ?_); rintro r w5 ⟨rfl, hb5⟩)
                have hL5 := hL.below hb5
                have hP5 := hP2.below hb5
                have hB5 := bthen hB2 hb5
                obtain ⟨d, hd⟩ : ∃ d, d = T.stepOf (k : Int) vs := ⟨_, rfl⟩
                have k0 : w5.cell? ⟨g, 0, none⟩ = some (.int .i64 d.a) := by rw [hd]; exact (cell_of hL5 0).1
                have k1 : w5.cell? ⟨g, 1, none⟩ = some (.int .i64 d.b) := by rw [hd]; exact (cell_of hL5 1).1
                have k2 : w5.cell? ⟨g, 2, none⟩ = some (.int .i64 d.c) := by rw [hd]; exact (cell_of hL5 2).1
                have k3 : w5.cell? ⟨g, 3, none⟩ = some (.int .i64 d.d) := by rw [hd]; exact (cell_of hL5 3).1
                have hdk : (k : Int) = d.kind := by rw [hd]; rfl
                have hg5 := hL5.lt
                have HD := Lib.hid hd
                rw [hdk]
                clear hdk hL hP2 hB2 hd hL5 hb5
                refine wp_region_P 15 [14, 15] [0, 1, 2, 3, 4, 5, 6, 7, 8, 9, 10, 11, 12, 13, 14, 15] (fun X => Below w5.heap.size w5 X) (by kernel_rfl) (by kernel_rfl) (by kernel_rfl) (by decide) (by simp only [ordOps, List.map_cons, List.map_nil, List.getElem?_cons_succ, List.getElem?_cons_zero, Option.getD_some]; repeat (first | exact trivial | refine ⟨.inl rfl, ?_⟩ | refine ⟨.inr fun _ _ _ _ h => h, ?_⟩)) ?_ ?_
                rotate_left; simp only [ordOps, List.map_cons, List.map_nil, List.getElem?_cons_succ, List.getElem?_cons_zero, Option.getD_some]; rotate_left
                · exact (Below.refl _ w5).drew
                iterate 14 ((first | (refine wpP_q (by rfl) (by rfl) ?_ ?_ ?_; rotate_left; focus (rintro W hX; have s0 := (hX.cell (p := ⟨g, 0, none⟩) hg5).trans k0; have s1 := (hX.cell (p := ⟨g, 1, none⟩) hg5).trans k1; have s2 := (hX.cell (p := ⟨g, 2, none⟩) hg5).trans k2; have s3 := (hX.cell (p := ⟨g, 3, none⟩) hg5).trans k3; go_simp; try (with_reducible rfl); done)) | refine wpP_skip (by rfl) (by rfl) ?_); try simp only [Act.put, List.setIfInBounds_toArray, List.set_cons_succ, List.set_cons_zero])
                refine wpP_a (by rfl) (by rfl) fun K hK => ?_
                go_simp
                refine hK _ _ (fun _ => ((Below.refl _ w5).drew.alloc (Nat.le_refl _) _)) ?_; clear hK K; try simp only [Act.put, List.setIfInBounds_toArray, List.set_cons_succ, List.set_cons_zero]
                refine wpP_a (by rfl) (by rfl) fun K hK => ?_
                refine wp_store_row 28 _ _ rfl w5.heap.size (Step.arr d) rfl rfl _ _ (heap_alloc_new _ _) rfl rfl (Step.one _) ?_
                generalize hW6 : World.setRow _ w5.heap.size (Step.arr d) = W6
                refine hK _ _ (fun h => absurd h (by omega)) ?_; clear hK K; try simp only [Act.put, List.setIfInBounds_toArray, List.set_cons_succ, List.set_cons_zero]
                refine wpP_nil ?_
                have hz6 : W6.heap[w5.heap.size]? = some (.cells (Step.arr d) 28 (0, 0)) := by rw [← hW6]; exact setRow_heap _ _ _ _ _ _ (heap_alloc_new _ _)
                have hb6 : Below w5.heap.size w5 W6 := by rw [← hW6]; exact below_setRowI ((Below.refl _ w5).drew.alloc (Nat.le_refl _) _) (Nat.le_refl _) _
                have x6 := rowAt_rowI hz6
                rw [Step.sz] at x6
                have hP6 := hP5.below hb6
                have hB6 := bthen hB5 hb6
                have hz6' : w5.heap.size < W6.heap.size := (Array.getElem?_eq_some_iff.1 hz6).1
                clear hW6 hz6 hb6 hP5 hB5 k0 k1 k2 k3
                have HZ := HV
                have hP7 := hP6
                have hB7 := hB6
                have hres := hP7
                unfold R5 at hres
                go_wp2_with (refine wpList_store_row rfl _ _ _ rfl n (Step.arr T.zeroS) rfl rfl _ _ hres rfl rfl (Step.one _) ?_)
                have hR8 := setRow_heap _ n _ (Step.arr T.zeroS) _ _ hres
                exact bodyPost_ret (rsparse_results _ _ n _ _ rfl rfl (rowAt_rowI hR8)) rfl ⟨by rw [HZ.out]; rfl, below_setRowI hB7 hnn _⟩
            · have HQ := Lib.hid (h1.out rfl)
              clear h1 h2
              by_cases hc : vs.length < cnt
              · have hcI : (vs.length : Int) < (cnt : Int) := by omega
                have hc4I : (vs.length : Int) < 4 := by omega
                have hv4 : vs.length < 4 := by omega
                have HQ1 := Lib.hid (show RT = (T.rtail ((cnt - (vs.length + 1)) + 1) (l.drop q)).map (vs ++ ·) by rw [HQ.out, show cnt - vs.length = (cnt - (vs.length + 1)) + 1 by omega])
                clear HQ hc
                by_cases hq : q < l.length
                · have hqI : (q : Int) < (l.length : Int) := by omega
                  have hqN : (l.length ≤ q) = False := eq_false (by omega)
                  have hqJ : ((l.length : Int) ≤ (q : Int)) = False := eq_false (by omega)
                  obtain ⟨b, hb8, hbb, hb1⟩ : ∃ b : Nat, b < 256 ∧ ((ByteArray.mk l.toArray)[q]'(by simpa [ByteArray.size] using hq)).toNat = b ∧ b = l[q].toNat := ⟨l[q].toNat, UInt8.toNat_lt _, rfl, rfl⟩
                  by_cases hb32 : b = 32
                  · have hbb' : ((((ByteArray.mk l.toArray)[q]'(by simpa [ByteArray.size] using hq)).toNat : Int) == 32) = true := by rw [hbb, hb32]; rfl
                    have hl32 : l[q] = 32 := UInt8.toNat_inj.1 (by rw [← hb1, hb32]; rfl)
                    have HQ2 := Lib.hid (show RT = (T.rtail ((cnt - (vs.length + 1)) + 1) (32 :: l.drop (q + 1))).map (vs ++ ·) by rw [HQ1.out, List.drop_eq_getElem_cons hq, hl32])
                    have hnum := fun X : World => rnumber_c l hl (q + 1) (by omega) X
                    obtain ⟨⟨v, r, o⟩, hvro⟩ : ∃ t : Int × List UInt8 × Bool, t = T.rnum (l.drop (q + 1)) := ⟨_, rfl⟩
                    have hleft := T.rnum_left (l.drop (q + 1))
                    rw [← hvro] at hnum hleft
                    simp only at hnum hleft
                    obtain ⟨hle, pp, hpp⟩ := hleft
                    have hdl := T.drop_left l r pp (q + 1) (by omega) hpp
                    have hrl : r.length ≤ l.length := by rw [List.length_drop] at hle; omega
                    have hri : (l.length : Int) - (r.length : Int) = ((l.length - r.length : Nat) : Int) := by omega
                    rw [hri] at hnum
                    obtain ⟨q2, hq2⟩ : ∃ q2, q2 = l.length - r.length := ⟨_, rfl⟩
                    rw [← hq2] at hnum hdl
                    have hq2l : q2 ≤ l.length := by omega
                    have hwq : IntKind.i64.wrap ((q : Int) + 1) = (q : Int) + 1 := IntWalk.i64_in _ (by omega)
                    have hwv : IntKind.i64.wrap ((vs.length : Int) + 1) = (vs.length : Int) + 1 := IntWalk.i64_in _ (by omega)
                    have HVR := Lib.hid hvro
                    clear HQ1 hq2 hri hrl hle hpp hvro hl32 hb1 hb32 hbb hb8
                    rw [show (((q + 1 : Nat)) : Int) = (q : Int) + 1 by omega] at hnum
                    go_upto_region 14 with (go_at_call 44; (with_reducible refine (hcc _).mono ?_); rintro r5 w5 ⟨rfl, hb5⟩)
                    have hL5 := hL.below hb5
                    have hP5 := hP2.below hb5
                    have hB5 := bthen hB2 hb5
                    clear hL hP2 hB2
                    go_wp2_with (go_at_call 45; (with_reducible refine (hnum _).mono ?_); rintro r6 w6 ⟨rfl, hb6⟩; have hL6 := hL5.below hb6; have cL := (cell_of hL6 vs.length).1; have fL := (cell_of hL6 vs.length).2)
                    rcases ho : o with _ | _
                    · have hnone := T.rtail_wrong _ _ vs RT HQ2.out (by rw [← HVR.out]; exact ho)
                      go_roundw
                      case rel => exact ⟨q2, false, vs ++ [v], by go_num, by first | rfl | rw [ho], by rw [List.length_append]; go_num, by simp; omega, hq2l, hL6.snoc hv4 v, (hP5.below hb6).set hng, (bthen hB5 hb6).setCell (p := ⟨g, vs.length, none⟩) hwg _, Lib.hid fun h => (by cases h), Lib.hid fun _ => hnone⟩
                      case measure => simp [intOf] <;> omega
                    · have hmore := T.rtail_more _ _ vs RT HQ2.out (by rw [← HVR.out]; exact ho)
                      rw [← HVR.out] at hmore
                      go_roundw
                      case rel => exact ⟨q2, true, vs ++ [v], by go_num, by first | rfl | rw [ho], by rw [List.length_append]; go_num, by simp; omega, hq2l, hL6.snoc hv4 v, (hP5.below hb6).set hng, (bthen hB5 hb6).setCell (p := ⟨g, vs.length, none⟩) hwg _, Lib.hid fun _ => (by rw [hdl, List.length_append]; exact hmore), Lib.hid fun h => (by cases h)⟩
                      case measure => simp [intOf] <;> omega
                  · have hbb' : ((((ByteArray.mk l.toArray)[q]'(by simpa [ByteArray.size] using hq)).toNat : Int) == 32) = false := by rw [hbb, beq_eq_false_iff_ne]; omega
                    have hl32 : l[q] ≠ 32 := fun e => hb32 (by rw [hb1, e]; rfl)
                    have HZ := Lib.hid (HRN.out (T.rtail_other _ _ _ vs RT (by have h := HQ1.out; rw [List.drop_eq_getElem_cons hq] at h; exact h) hl32))
                    clear HQ1 hl32 hb1 hb32 hbb hb8
                    go_upto_region 13 with (go_at_call 44; (with_reducible refine (hcc _).mono ?_); rintro r5 w5 ⟨rfl, hb5⟩)
                    have hP7 := hP2.below hb5
                    have hB7 := bthen hB2 hb5
                    have hres := hP7
                    unfold R5 at hres
                    go_wp2_with (refine wpList_store_row rfl _ _ _ rfl n (Step.arr T.zeroS) rfl rfl _ _ hres rfl rfl (Step.one _) ?_)
                    have hR8 := setRow_heap _ n _ (Step.arr T.zeroS) _ _ hres
                    exact bodyPost_ret (rsparse_results _ _ n _ _ rfl rfl (rowAt_rowI hR8)) rfl ⟨by rw [HZ.out]; rfl, below_setRowI hB7 hnn _⟩
                · have hqI : ((l.length : Int) ≤ (q : Int)) = True := eq_true (by omega)
                  have hqN : (l.length ≤ q) = True := eq_true (by omega)
                  have HZ := Lib.hid (HRN.out (T.rtail_empty _ vs RT (by have h := HQ1.out; rw [List.drop_eq_nil_of_le (by omega)] at h; exact h)))
                  clear HQ1
                  go_upto_region 13 with (go_at_call 44; (with_reducible refine (hcc _).mono ?_); rintro r5 w5 ⟨rfl, hb5⟩)
                  have hP7 := hP2.below hb5
                  have hB7 := bthen hB2 hb5
                  have hres := hP7
                  unfold R5 at hres
                  go_wp2_with (refine wpList_store_row rfl _ _ _ rfl n (Step.arr T.zeroS) rfl rfl _ _ hres rfl rfl (Step.one _) ?_)
                  have hR8 := setRow_heap _ n _ (Step.arr T.zeroS) _ _ hres
                  exact bodyPost_ret (rsparse_results _ _ n _ _ rfl rfl (rowAt_rowI hR8)) rfl ⟨by rw [HZ.out]; rfl, below_setRowI hB7 hnn _⟩
              · have hcI : ¬ (vs.length : Int) < (cnt : Int) := by omega
                by_cases hq : q = l.length
                · have hqI : (q : Int) = (l.length : Int) := by omega
                  have HV := Lib.hid (HRV.out vs (by rw [HQ.out, show cnt - vs.length = 0 by omega, List.drop_eq_nil_of_le (by omega)]; simp [T.rtail]))
                  go_wp2_with (go_at_call 44; (with_reducible refine (hcc _).mono ?_); rintro r w5 ⟨rfl, hb5⟩)
                  have hL5 := hL.below hb5
                  have hP5 := hP2.below hb5
                  have hB5 := bthen hB2 hb5
                  obtain ⟨d, hd⟩ : ∃ d, d = T.stepOf (k : Int) vs := ⟨_, rfl⟩
                  have k0 : w5.cell? ⟨g, 0, none⟩ = some (.int .i64 d.a) := by rw [hd]; exact (cell_of hL5 0).1
                  have k1 : w5.cell? ⟨g, 1, none⟩ = some (.int .i64 d.b) := by rw [hd]; exact (cell_of hL5 1).1
                  have k2 : w5.cell? ⟨g, 2, none⟩ = some (.int .i64 d.c) := by rw [hd]; exact (cell_of hL5 2).1
                  have k3 : w5.cell? ⟨g, 3, none⟩ = some (.int .i64 d.d) := by rw [hd]; exact (cell_of hL5 3).1
                  have hdk : (k : Int) = d.kind := by rw [hd]; rfl
                  have hg5 := hL5.lt
                  have HD := Lib.hid hd
                  rw [hdk]
                  clear hdk hL hP2 hB2 hd hL5 hb5
                  refine wp_region_P 15 [14, 15] [0, 1, 2, 3, 4, 5, 6, 7, 8, 9, 10, 11, 12, 13, 14, 15] (fun X => Below w5.heap.size w5 X) (by kernel_rfl) (by kernel_rfl) (by kernel_rfl) (by decide) (by simp only [ordOps, List.map_cons, List.map_nil, List.getElem?_cons_succ, List.getElem?_cons_zero, Option.getD_some]; repeat (first | exact trivial | refine ⟨.inl rfl, ?_⟩ | refine ⟨.inr fun _ _ _ _ h => h, ?_⟩)) ?_ ?_
                  rotate_left; simp only [ordOps, List.map_cons, List.map_nil, List.getElem?_cons_succ, List.getElem?_cons_zero, Option.getD_some]; rotate_left
                  · exact (Below.refl _ w5).drew
                  iterate 14 ((first | (refine wpP_q (by rfl) (by rfl) ?_ ?_ ?_; rotate_left; focus (rintro W hX; have s0 := (hX.cell (p := ⟨g, 0, none⟩) hg5).trans k0; have s1 := (hX.cell (p := ⟨g, 1, none⟩) hg5).trans k1; have s2 := (hX.cell (p := ⟨g, 2, none⟩) hg5).trans k2; have s3 := (hX.cell (p := ⟨g, 3, none⟩) hg5).trans k3; go_simp; try (with_reducible rfl); done)) | refine wpP_skip (by rfl) (by rfl) ?_); try simp only [Act.put, List.setIfInBounds_toArray, List.set_cons_succ, List.set_cons_zero])
                  refine wpP_a (by rfl) (by rfl) fun K hK => ?_
                  go_simp
                  refine hK _ _ (fun _ => ((Below.refl _ w5).drew.alloc (Nat.le_refl _) _)) ?_; clear hK K; try simp only [Act.put, List.setIfInBounds_toArray, List.set_cons_succ, List.set_cons_zero]
                  refine wpP_a (by rfl) (by rfl) fun K hK => ?_
                  refine wp_store_row 28 _ _ rfl w5.heap.size (Step.arr d) rfl rfl _ _ (heap_alloc_new _ _) rfl rfl (Step.one _) ?_
                  generalize hW6 : World.setRow _ w5.heap.size (Step.arr d) = W6
                  refine hK _ _ (fun h => absurd h (by omega)) ?_; clear hK K; try simp only [Act.put, List.setIfInBounds_toArray, List.set_cons_succ, List.set_cons_zero]
                  refine wpP_nil ?_
                  have hz6 : W6.heap[w5.heap.size]? = some (.cells (Step.arr d) 28 (0, 0)) := by rw [← hW6]; exact setRow_heap _ _ _ _ _ _ (heap_alloc_new _ _)
                  have hb6 : Below w5.heap.size w5 W6 := by rw [← hW6]; exact below_setRowI ((Below.refl _ w5).drew.alloc (Nat.le_refl _) _) (Nat.le_refl _) _
                  have x6 := rowAt_rowI hz6
                  rw [Step.sz] at x6
                  have hP6 := hP5.below hb6
                  have hB6 := bthen hB5 hb6
                  have hz6' : w5.heap.size < W6.heap.size := (Array.getElem?_eq_some_iff.1 hz6).1
                  clear hW6 hz6 hb6 hP5 hB5 k0 k1 k2 k3
                  have HDV := Lib.hid (show T.sparse l = if T.stepRight d = true then (d, true) else (T.zeroS, false) by rw [HD.out]; exact HV.out)
                  have hrr := fun X : World => rstepRight_c d X
                  rcases hrt : T.stepRight d with _ | _
                  · rw [hrt] at hrr
                    have HZ := Lib.hid (show T.sparse l = (T.zeroS, false) by rw [HDV.out, if_neg (by rw [hrt]; exact Bool.false_ne_true)])
                    clear hrt HDV
                    go_upto_region 17 with (first | (refine wpList_load_at_v 28 _ rfl rfl _ (0) 5 rfl _ _ x6 rfl rfl rfl ?_) | (go_at_call 46; (with_reducible refine (hrr _).mono ?_); rintro r W7 ⟨rfl, hb7⟩))
                    have hP7 := hP6.below hb7
                    have hB7 := bthen hB6 hb7
                    have hres := hP7
                    unfold R5 at hres
                    go_wp2_with (refine wpList_store_row rfl _ _ _ rfl n (Step.arr T.zeroS) rfl rfl _ _ hres rfl rfl (Step.one _) ?_)
                    have hR8 := setRow_heap _ n _ (Step.arr T.zeroS) _ _ hres
                    exact bodyPost_ret (rsparse_results _ _ n _ _ rfl rfl (rowAt_rowI hR8)) rfl ⟨by rw [HZ.out]; rfl, below_setRowI hB7 hnn _⟩

                  · rw [hrt] at hrr
                    have HZ := Lib.hid (show T.sparse l = (d, true) by rw [HDV.out, if_pos hrt])
                    clear hrt HDV
                    go_upto_region 18 with (first | (refine wpList_load_at_v 28 _ rfl rfl _ (0) 5 rfl _ _ x6 rfl rfl rfl ?_) | (go_at_call 46; (with_reducible refine (hrr _).mono ?_); rintro r W7 ⟨rfl, hb7⟩))
                    have hP7 := hP6.below hb7
                    have hB7 := bthen hB6 hb7
                    have x7 := (rowAt_block (hb7.block w5.heap.size hz6')).trans x6
                    have hres := hP7
                    unfold R5 at hres
                    go_wp2_with (first | (refine wpList_load_at_v 28 _ rfl rfl _ (0) 5 rfl _ _ x7 rfl rfl rfl ?_) | (refine wpList_store_row rfl _ _ _ rfl n (Step.arr d) rfl rfl _ _ hres rfl rfl (Step.one _) ?_))
                    have hR8 := setRow_heap _ n _ (Step.arr d) _ _ hres
                    exact bodyPost_ret (rsparse_results _ _ n _ _ rfl rfl (rowAt_rowI hR8)) rfl ⟨by rw [HZ.out]; rfl, below_setRowI hB7 hnn _⟩
                · have hqI : ((q : Int) == (l.length : Int)) = false := by rw [beq_eq_false_iff_ne]; omega
                  have HV := Lib.hid (HRN.out (by
                    rw [HQ.out, show cnt - vs.length = 0 by omega, T.rtail, if_neg (by rw [List.drop_eq_nil_iff]; omega)]; rfl))
                  go_wp2_with (go_at_call 44; (with_reducible refine (hcc _).mono ?_); rintro r w5 ⟨rfl, hb5⟩)
                  have hL5 := hL.below hb5
                  have hP5 := hP2.below hb5
                  have hB5 := bthen hB2 hb5
                  obtain ⟨d, hd⟩ : ∃ d, d = T.stepOf (k : Int) vs := ⟨_, rfl⟩
                  have k0 : w5.cell? ⟨g, 0, none⟩ = some (.int .i64 d.a) := by rw [hd]; exact (cell_of hL5 0).1
                  have k1 : w5.cell? ⟨g, 1, none⟩ = some (.int .i64 d.b) := by rw [hd]; exact (cell_of hL5 1).1
                  have k2 : w5.cell? ⟨g, 2, none⟩ = some (.int .i64 d.c) := by rw [hd]; exact (cell_of hL5 2).1
                  have k3 : w5.cell? ⟨g, 3, none⟩ = some (.int .i64 d.d) := by rw [hd]; exact (cell_of hL5 3).1
                  have hdk : (k : Int) = d.kind := by rw [hd]; rfl
                  have hg5 := hL5.lt
                  have HD := Lib.hid hd
                  rw [hdk]
                  clear hdk hL hP2 hB2 hd hL5 hb5
                  refine wp_region_P 15 [14, 15] [0, 1, 2, 3, 4, 5, 6, 7, 8, 9, 10, 11, 12, 13, 14, 15] (fun X => Below w5.heap.size w5 X) (by kernel_rfl) (by kernel_rfl) (by kernel_rfl) (by decide) (by simp only [ordOps, List.map_cons, List.map_nil, List.getElem?_cons_succ, List.getElem?_cons_zero, Option.getD_some]; repeat (first | exact trivial | refine ⟨.inl rfl, ?_⟩ | refine ⟨.inr fun _ _ _ _ h => h, ?_⟩)) ?_ ?_
                  rotate_left; simp only [ordOps, List.map_cons, List.map_nil, List.getElem?_cons_succ, List.getElem?_cons_zero, Option.getD_some]; rotate_left
                  · exact (Below.refl _ w5).drew
                  iterate 14 ((first | (refine wpP_q (by rfl) (by rfl) ?_ ?_ ?_; rotate_left; focus (rintro W hX; have s0 := (hX.cell (p := ⟨g, 0, none⟩) hg5).trans k0; have s1 := (hX.cell (p := ⟨g, 1, none⟩) hg5).trans k1; have s2 := (hX.cell (p := ⟨g, 2, none⟩) hg5).trans k2; have s3 := (hX.cell (p := ⟨g, 3, none⟩) hg5).trans k3; go_simp; try (with_reducible rfl); done)) | refine wpP_skip (by rfl) (by rfl) ?_); try simp only [Act.put, List.setIfInBounds_toArray, List.set_cons_succ, List.set_cons_zero])
                  refine wpP_a (by rfl) (by rfl) fun K hK => ?_
                  go_simp
                  refine hK _ _ (fun _ => ((Below.refl _ w5).drew.alloc (Nat.le_refl _) _)) ?_; clear hK K; try simp only [Act.put, List.setIfInBounds_toArray, List.set_cons_succ, List.set_cons_zero]
                  refine wpP_a (by rfl) (by rfl) fun K hK => ?_
                  refine wp_store_row 28 _ _ rfl w5.heap.size (Step.arr d) rfl rfl _ _ (heap_alloc_new _ _) rfl rfl (Step.one _) ?_
                  generalize hW6 : World.setRow _ w5.heap.size (Step.arr d) = W6
                  refine hK _ _ (fun h => absurd h (by omega)) ?_; clear hK K; try simp only [Act.put, List.setIfInBounds_toArray, List.set_cons_succ, List.set_cons_zero]
                  refine wpP_nil ?_
                  have hz6 : W6.heap[w5.heap.size]? = some (.cells (Step.arr d) 28 (0, 0)) := by rw [← hW6]; exact setRow_heap _ _ _ _ _ _ (heap_alloc_new _ _)
                  have hb6 : Below w5.heap.size w5 W6 := by rw [← hW6]; exact below_setRowI ((Below.refl _ w5).drew.alloc (Nat.le_refl _) _) (Nat.le_refl _) _
                  have x6 := rowAt_rowI hz6
                  rw [Step.sz] at x6
                  have hP6 := hP5.below hb6
                  have hB6 := bthen hB5 hb6
                  have hz6' : w5.heap.size < W6.heap.size := (Array.getElem?_eq_some_iff.1 hz6).1
                  clear hW6 hz6 hb6 hP5 hB5 k0 k1 k2 k3
                  have HZ := HV
                  have hP7 := hP6
                  have hB7 := hB6
                  have hres := hP7
                  unfold R5 at hres
                  go_wp2_with (refine wpList_store_row rfl _ _ _ rfl n (Step.arr T.zeroS) rfl rfl _ _ hres rfl rfl (Step.one _) ?_)
                  have hR8 := setRow_heap _ n _ (Step.arr T.zeroS) _ _ hres
                  exact bodyPost_ret (rsparse_results _ _ n _ _ rfl rfl (rowAt_rowI hR8)) rfl ⟨by rw [HZ.out]; rfl, below_setRowI hB7 hnn _⟩

        · have hne : (l.take wd.length == wd) = false := beq_eq_false_iff_ne.2 hpr
          have hnx : T.sparse l = T.rfrom l (12 - (k + 1)) (k + 1) := by
            rw [HST.out, if_neg (fun h => ?_), show 12 - (k + 1) = 11 - k by omega]
            exact hpr (List.prefix_iff_eq_take.1 (List.isPrefixOf_iff_prefix.1 h)).symm
          have HX := Lib.hid hnx
          have hs1 : (0 : Int) ≤ (wd.length : Int) := by omega
          have hs2 : (wd.length : Int) ≤ (l.length : Int) := by omega
          clear HST hnx hlt hpr
          go_wp2_with (go_at_call 43; (with_reducible refine (hwc _).mono ?_); rintro r w2 ⟨rfl, hb2⟩)
          go_roundw
          case rel => exact ⟨k + 1, by omega, by omega, by go_num, HX, hP.below hb2, bthen hB hb2⟩
          case measure => simp [intOf] <;> omega
    · obtain rfl : k = 12 := by omega
      have HR := Lib.hid (show T.sparse l = (T.zeroS, false) from hsp.out)
      clear hsp
      have hres := hP
      unfold R5 at hres
      go_wp2_with (refine wpList_store_row rfl _ _ _ rfl n (Step.arr T.zeroS) rfl rfl _ _ hres rfl rfl (Step.one _) ?_)
      have hR6 := setRow_heap _ n _ (Step.arr T.zeroS) _ _ hres
      exact bodyPost_ret (rsparse_results _ _ n _ _ rfl rfl (rowAt_rowI hR6)) rfl ⟨by rw [HR.out]; rfl, below_setRowI hB hnn _⟩
end Go.Proofs.YtpgdgboobnmjiaaDoor
