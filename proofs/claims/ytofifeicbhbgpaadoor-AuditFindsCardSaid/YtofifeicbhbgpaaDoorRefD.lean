/- The reference's audit: ended. -/
import Derived.Test.YtofifeicbhbgpaaDoorRefC
namespace Go.Proofs.YtofifeicbhbgpaaDoor
open Go.RowKit Go.Shelf
set_option linter.unusedVariables false
set_option linter.unusedSimpArgs false
theorem T.cntE_snocD (q : Event → Bool) (x : Event) (xs : List Event) : T.cntE q (xs ++ [x]) = (if q x = true then T.cntE q xs + 1 else T.cntE q xs) := by
  unfold T.cntE
  rw [List.filter_append]
  cases h : q x <;> simp [h]
theorem T.any_snoc (q : Event → Bool) (x : Event) (xs : List Event) : (xs ++ [x]).any q = (if q x = true then true else xs.any q) := by
  rw [List.any_append]
  cases h : q x <;> simp [h]
theorem T.unasked_snoc (e x : Event) (xs : List Event) : T.unasked e (xs ++ [x]) = (if T.kd 8 (T.p_key e) x = true then false else T.unasked e xs) := by
  unfold T.unasked
  rw [List.any_append]
  cases h : T.kd 8 (T.p_key e) x <;> simp [h]
theorem T.cnt_none (q : Event → Bool) (xs : List Event) : (T.cntE q xs == 0) = (xs.find? q).isNone := by
  unfold T.cntE
  induction xs with
  | nil => rfl
  | cons x xs ih =>
    rw [List.find?_cons, List.filter_cons]
    cases h : q x with
    | true => simp; omega
    | false => simpa using ih
def T.earlyX (e x : Event) : Bool := (e.code == 4) && decide (T.clamp e.loc < T.add x.loc x.value)
theorem T.early_snoc (e x : Event) (xs : List Event) : T.early e (xs ++ [x]) = (if (T.kd 1 (T.p_key e) x && (T.cntE (T.kd 1 (T.p_key e)) xs == 0)) = true then T.earlyX e x else T.early e xs) := by
  rw [T.cnt_none]
  unfold T.early
  rw [List.find?_append]
  cases xs.find? (T.kd 1 (T.p_key e)) <;> cases h : T.kd 1 (T.p_key e) x <;> simp [h, T.earlyX]
section
attribute [local go_sem] Event.sz bw_cell
attribute [local go_sem high] eqKL eqIL
set_option maxRecDepth 100000 in
set_option maxHeartbeats 8000000 in
theorem refEnded_c (v : Value) (l : List Event) (n : Nat) (e : Event) (hn : l[n]? = some e) (hll : l.length ≤ 100000) (w : World) (h : Sl Event.arr 18 w.heap.size w v l) :
    Calls Tryd.prog 43 #[v, .int .i64 (n : Int)] w fun r w' => r = .returned (.tuple #[.bool (T.over e (l.take n)), .bool (T.early e (l.take n)), .bool (T.unasked e (l.take n)), .bool (T.empty e (l.take n))]) ∧ Below w.heap.size w w' := by
  have hans := Lib.hid (fun (W : World) (hB : Below w.heap.size w W) => refAnswered_c v l n e hn W ((h.below hB).mono hB.size))
  obtain ⟨A, cap, rfl, hcap, hl1, hl2⟩ := h.view
  obtain ⟨hnl, hne⟩ := List.getElem?_eq_some_iff.1 hn
  obtain ⟨b, off, hA, hb, hrow, _⟩ := h.at hnl
  cases hA
  rw [hne] at hrow
  clear hn hne
  go_enter Tryd.func43, Tryd.ntmps43
  go_wp2_with (first | (refine wpList_load_at rfl 55 _ rfl _ (off + n * 18) 18 rfl _ _ hrow rfl rfl rfl ?_) | (refine wpList_store_new rfl _ _ _ rfl w.heap.size (Event.arr e) _ _ rfl rfl rfl rfl rfl (Event.one _) ?_; refine Hid.out ?_))
  refine Lib.hid ?_
  obtain ⟨W1, hW1⟩ : ∃ W1, W1 = w.alloc (Obj.cells (Event.arr e) 55) := ⟨_, rfl⟩
  have rE : rowAt W1 w.heap.size 0 18 = some (Event.arr e) := by rw [hW1]; exact rowAt_new _ _ _ _ _ rfl
  have hB1 : Below w.heap.size w W1 := by rw [hW1]; exact (Below.refl _ w).alloc (Nat.le_refl _) _
  have hs1 : W1.heap.size = w.heap.size + 1 := by rw [hW1]; simp
  have hS1 : Sl Event.arr 18 W1.heap.size W1 (.slice (some ⟨b, off, none⟩) l.length cap) l := (h.below hB1).mono hB1.size
  rw [← hW1]
  clear hW1 hrow hb h
  have HS1 := Lib.hid hs1
  obtain ⟨m0, m1, m2, m3, m4, m5, m6, m7, m8, m9, m10, m11, m12, m13, m14, m15, m16, m17⟩ := Event.cellsL rE
  have lt0 : w.heap.size < W1.heap.size := by omega
  clear hs1
  go_wp2
  refine wp_region_calm (by kernel_rfl) (by kernel_rfl) ?_
  repeat ((fail_if_success (with_reducible refine wpQuiet_nil ?_)); (first | go_big_quiet_skip | go_big_quiet_step (fail)))
  refine wpQuiet_nil ?_
  rintro _ ⟨⟨X0, hb0⟩, rfl⟩
  have hB0 : Below (w.heap.size + 1) W1 _ := hb0.mono (by have := HS1.out; omega)
  clear m0 m1 m2 m3 m4 m5 m6 m7 m8 m9 m10 m11 m12 m13 m14 m15 m16 m17 lt0 hb0
  go_wp2
  go_loopw [9, 10, 11, 12, 13] (fun is ag ea un i wr => ∃ k : Nat, k ≤ n ∧ i = .int .i64 (k : Int) ∧ is = .int .i64 (T.cntE (T.kd 1 (T.p_key e)) (l.take k)) ∧ ag = .bool ((l.take k).any (T.kd 7 (T.p_key e))) ∧ ea = .bool (T.early e (l.take k)) ∧ un = .bool (T.unasked e (l.take k)) ∧ Below (w.heap.size + 1) W1 wr) (fun _ _ _ _ i _ => n - (intOf i).toNat)
  case atStart => exact ⟨0, Nat.zero_le _, rfl, rfl, rfl, by simp [T.early], by simp [T.unasked], hB0⟩
  case round =>
    obtain ⟨k, hk, rfl, rfl, rfl, rfl, rfl, hBr⟩ := hrel
    have hs1 := HS1.out
    by_cases hkl : k < n
    · obtain ⟨b2, off2, ho, hb2, hrow, _⟩ := ((hS1.below (hBr.mono (Nat.le_of_eq hs1))).mono hBr.size).at (show k < l.length by omega)
      cases ho
      obtain ⟨x, hx⟩ : ∃ x, x = l[k] := ⟨_, rfl⟩
      rw [← hx] at hrow
      have hxo : l[k]? = some x := by rw [hx]; exact List.getElem?_eq_getElem (by omega)
      have hnext : l.take (k + 1) = l.take k ++ [x] := by rw [List.take_add_one, hxo]; rfl
      have H1 := Lib.hid (T.cntE_snocD (T.kd 1 (T.p_key e)) x (l.take k))
      have H2 := Lib.hid (T.any_snoc (T.kd 7 (T.p_key e)) x (l.take k))
      have H3 := Lib.hid (T.early_snoc e x (l.take k))
      have H4 := Lib.hid (T.unasked_snoc e x (l.take k))
      have hcb := T.cnt_bd (T.kd 1 (T.p_key e)) (l.take k)
      rw [List.length_take] at hcb
      rw [← hnext] at H1 H2 H3 H4
      obtain ⟨no, hno⟩ : ∃ no, no = T.cntE (T.kd 1 (T.p_key e)) (l.take k) := ⟨_, rfl⟩
      obtain ⟨ag, hag⟩ : ∃ ag, ag = (l.take k).any (T.kd 7 (T.p_key e)) := ⟨_, rfl⟩
      obtain ⟨ea, hea⟩ : ∃ ea, ea = T.early e (l.take k) := ⟨_, rfl⟩
      obtain ⟨un, hun⟩ : ∃ un, un = T.unasked e (l.take k) := ⟨_, rfl⟩
      rw [← hno] at H1 hcb
      rw [← hag] at H2
      rw [← hea, ← hno] at H3
      rw [← hun] at H4
      rw [← hno, ← hag, ← hea, ← hun]
      clear hno hag hea hun hx hxo hnext
      have hzr := hBr.size
      have rEr := (rowAt_block (hBr.block w.heap.size (by omega))).trans rE
      go_wp2_with (first | (refine wpList_load_at rfl 55 _ rfl _ (off + k * 18) 18 rfl _ _ hrow rfl rfl rfl ?_) | (refine wpList_store_new rfl _ _ _ rfl wr.heap.size (Event.arr x) _ _ rfl rfl rfl rfl rfl (Event.one _) ?_; refine Hid.out ?_))
      refine Lib.hid ?_
      obtain ⟨W2, hW2⟩ : ∃ W2, W2 = wr.alloc (Obj.cells (Event.arr x) 55) := ⟨_, rfl⟩
      obtain ⟨g, hg⟩ : ∃ g, g = wr.heap.size := ⟨_, rfl⟩
      have rX : rowAt W2 g 0 18 = some (Event.arr x) := by rw [hW2, hg]; exact rowAt_new _ _ _ _ _ rfl
      have rE2 : rowAt W2 w.heap.size 0 18 = some (Event.arr e) := by rw [hW2, rowAt_alloc_old _ _ _ _ _ (by omega)]; exact rEr
      have hB2 : Below (w.heap.size + 1) W1 W2 := by rw [hW2]; exact hBr.alloc (by omega) _
      have hz2 : w.heap.size + 1 ≤ W2.heap.size := by have := hB2.size; omega
      rw [← hW2, ← hg]
      clear hW2 hg hrow rEr
      obtain ⟨m0, m1, m2, m3, m4, m5, m6, m7, m8, m9, m10, m11, m12, m13, m14, m15, m16, m17⟩ := Event.cellsL rE2
      obtain ⟨x0, x1, x2, x3, x4, x5, x6, x7, x8, x9, x10, x11, x12, x13, x14, x15, x16, x17⟩ := Event.cellsL rX
      clear rX rE2 hS1 rE
      have HCB := Lib.hid hcb
      clear hcb
      rcases gi : T.eqKey x.key e.key with _ | _
      · have q1 := Lib.hid ((show T.kd 1 (T.p_key e) x = ((x.kind == 1) && T.eqKey x.key e.key) from rfl).trans (by rw [gi, Bool.and_false]))
        have q7 := Lib.hid ((show T.kd 7 (T.p_key e) x = ((x.kind == 7) && T.eqKey x.key e.key) from rfl).trans (by rw [gi, Bool.and_false]))
        have q8 := Lib.hid ((show T.kd 8 (T.p_key e) x = ((x.kind == 8) && T.eqKey x.key e.key) from rfl).trans (by rw [gi, Bool.and_false]))
        replace gi := T.eqKey_u gi
        go_wp2
        go_roundw
        case rel => exact ⟨k + 1, by omega, by go_num, by rw [H1.out, q1.out]; rfl, by rw [H2.out, q7.out]; rfl, by rw [H3.out, q1.out]; rfl, by rw [H4.out, q8.out]; rfl, hB2⟩
        case measure => simp [intOf]; omega
      · have q1 := Lib.hid ((show T.kd 1 (T.p_key e) x = ((x.kind == 1) && T.eqKey x.key e.key) from rfl).trans (by rw [gi, Bool.and_true]))
        have q7 := Lib.hid ((show T.kd 7 (T.p_key e) x = ((x.kind == 7) && T.eqKey x.key e.key) from rfl).trans (by rw [gi, Bool.and_true]))
        have q8 := Lib.hid ((show T.kd 8 (T.p_key e) x = ((x.kind == 8) && T.eqKey x.key e.key) from rfl).trans (by rw [gi, Bool.and_true]))
        replace gi := T.eqKey_u gi
        by_cases hk1 : x.kind = 1
        · rw [hk1] at q1 q7 q8
          rcases gn : (no == 0) with _ | _
          · have GN := Lib.hid gn
            have gn' : ¬ no = 0 := by simpa using gn
            have hcb := HCB.out
            go_wp2
            go_roundw
            case rel => exact ⟨k + 1, by omega, by go_num, by rw [H1.out, q1.out]; rfl, by rw [H2.out, q7.out]; rfl, by rw [H3.out, q1.out, GN.out]; rfl, by rw [H4.out, q8.out]; rfl, hB2⟩
            case measure => simp [intOf]; omega
          · have GN := Lib.hid gn
            obtain rfl : no = 0 := by simpa using gn
            clear gn
            rcases gc : (e.code == 4) with _ | _
            · have q5 := Lib.hid (show T.earlyX e x = false by unfold T.earlyX; rw [gc]; rfl)
              have lg := World.block_lt_of_cell? W2 _ x0
              have le := World.block_lt_of_cell? W2 _ m0
              go_wp2
              refine wp_region_calm (by kernel_rfl) (by kernel_rfl) ?_
              repeat ((fail_if_success (with_reducible refine wpQuiet_nil ?_)); (first | go_big_quiet_skip | go_big_quiet_step (fail)))
              refine wpQuiet_nil ?_
              rintro _ ⟨⟨X6, hb6⟩, rfl⟩
              have x06 := (hb6.cell (p := ⟨g, 0, none⟩) lg).trans x0
              go_wp2
              go_roundw
              case rel => exact ⟨k + 1, by omega, by go_num, by rw [H1.out, q1.out]; rfl, by rw [H2.out, q7.out]; rfl, by rw [H3.out, q1.out]; exact congrArg Value.bool q5.out.symm, by rw [H4.out, q8.out]; rfl, hB2.trans (hb6.mono hz2)⟩
              case measure => simp [intOf]; omega
            · have q5 := Lib.hid (show T.earlyX e x = decide (T.clamp e.loc < T.add x.loc x.value) by unfold T.earlyX; rw [gc]; rfl)
              have lg := World.block_lt_of_cell? W2 _ x0
              have le := World.block_lt_of_cell? W2 _ m0
              go_wp2
              refine wp_region_calm (by kernel_rfl) (by kernel_rfl) ?_
              repeat ((fail_if_success (with_reducible refine wpQuiet_nil ?_)); (first | go_big_quiet_skip | go_big_quiet_step ((first | (go_at_call 69; exact calm_of (refl_below (radd_c _ _ _))) | (go_at_call 70; exact calm_of (refl_below (rclamp_c _ _)))))))
              refine wpQuiet_nil ?_
              rintro _ ⟨⟨X6, hb6⟩, rfl⟩
              have x06 := (hb6.cell (p := ⟨g, 0, none⟩) lg).trans x0
              go_wp2
              go_roundw
              case rel => exact ⟨k + 1, by omega, by go_num, by rw [H1.out, q1.out]; rfl, by rw [H2.out, q7.out]; rfl, by rw [H3.out, q1.out]; exact congrArg Value.bool q5.out.symm, by rw [H4.out, q8.out]; rfl, hB2.trans (hb6.mono hz2)⟩
              case measure => simp [intOf]; omega
        · by_cases hk7 : x.kind = 7
          · rw [hk7] at q1 q7 q8
            clear hk1
            go_wp2
            go_roundw
            case rel => exact ⟨k + 1, by omega, by go_num, by rw [H1.out, q1.out]; rfl, by rw [H2.out, q7.out]; rfl, by rw [H3.out, q1.out]; rfl, by rw [H4.out, q8.out]; rfl, hB2⟩
            case measure => simp [intOf]; omega
          · by_cases hk8 : x.kind = 8
            · rw [hk8] at q1 q7 q8
              clear hk1 hk7
              go_wp2
              go_roundw
              case rel => exact ⟨k + 1, by omega, by go_num, by rw [H1.out, q1.out]; rfl, by rw [H2.out, q7.out]; rfl, by rw [H3.out, q1.out]; rfl, by rw [H4.out, q8.out]; rfl, hB2⟩
              case measure => simp [intOf]; omega
            · have e1 : (x.kind == 1) = false := by simp [hk1]
              have e7 : (x.kind == 7) = false := by simp [hk7]
              have e8 : (x.kind == 8) = false := by simp [hk8]
              rw [e1] at q1
              rw [e7] at q7
              rw [e8] at q8
              clear hk1 hk7 hk8
              go_wp2
              go_roundw
              case rel => exact ⟨k + 1, by omega, by go_num, by rw [H1.out, q1.out]; rfl, by rw [H2.out, q7.out]; rfl, by rw [H3.out, q1.out]; rfl, by rw [H4.out, q8.out]; rfl, hB2⟩
              case measure => simp [intOf]; omega
    · obtain rfl : k = n := by omega
      have hs1 := HS1.out
      have hzr := hBr.size
      have rEr := (rowAt_block (hBr.block w.heap.size (by omega))).trans rE
      obtain ⟨m0, m1, m2, m3, m4, m5, m6, m7, m8, m9, m10, m11, m12, m13, m14, m15, m16, m17⟩ := Event.cellsL rEr
      have hBw : Below w.heap.size w wr := hB1.trans (hBr.mono (by omega))
      have hcall := hans.out wr hBw
      have HO := Lib.hid (show T.over e (l.take k) = ((T.cntE (T.kd 1 (T.p_key e)) (l.take k) != 1) || (l.take k).any (T.kd 7 (T.p_key e))) from rfl)
      have HE := Lib.hid (show T.empty e (l.take k) = ((e.code == 0) && !((l.take k).any (T.kd 6 (T.pEmpty e (l.take k))))) from rfl)
      obtain ⟨no, hno⟩ : ∃ no, no = T.cntE (T.kd 1 (T.p_key e)) (l.take k) := ⟨_, rfl⟩
      obtain ⟨ag, hag⟩ : ∃ ag, ag = (l.take k).any (T.kd 7 (T.p_key e)) := ⟨_, rfl⟩
      obtain ⟨an, han⟩ : ∃ an, an = (l.take k).any (T.kd 6 (T.pEmpty e (l.take k))) := ⟨_, rfl⟩
      rw [← hno, ← hag] at HO
      rw [← han] at HE hcall
      rw [← hno, ← hag]
      clear hno hag han m0 m1 m2 m3 m4 m5 m6 m7 m8 m9 m10 m11 m12 m13 m14 m15 m17 rEr hs1
      rcases ag with _ | _
      all_goals
        rcases gc : (e.code == 0) with _ | _
        all_goals
          rw [gc] at HE
          go_wp2_with (go_at_call 71; (with_reducible refine hcall.mono ?_); rintro r w5 ⟨rfl, hb5⟩)
          refine bodyPost_ret (v := .tuple #[.bool (T.over e (l.take k)), .bool (T.early e (l.take k)), .bool (T.unasked e (l.take k)), .bool (T.empty e (l.take k))]) ?_ rfl ⟨rfl, by first | exact hBw | exact bthen hBw hb5⟩
          rw [HO.out, HE.out]
          simp [results, Tryd.f43, go_sem]
end
end Go.Proofs.YtofifeicbhbgpaaDoor
