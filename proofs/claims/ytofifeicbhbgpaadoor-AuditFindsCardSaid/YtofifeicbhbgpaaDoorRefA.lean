/- The reference's audit: Late, started. -/
import Derived.Test.YtofifeicbhbgpaaDoorRefTicks
import Derived.Test.YtofifeicbhbgpaaDoorWrong
import Derived.Test.YtofifeicbhbgpaaDoorEventL
namespace Go.Proofs.YtofifeicbhbgpaaDoor
open Go.RowKit Go.Shelf
set_option linter.unusedVariables false
set_option linter.unusedSimpArgs false
theorem refl_below {P : Program} {f : FuncId} {args : Array Value} {w : World} {v : Value} (h : Calls P f args w fun e w' => e = .returned v ∧ w = w') : Calls P f args w fun e w' => e = .returned v ∧ Below w.heap.size w w' :=
  h.mono fun _ _ ⟨he, hm⟩ => ⟨he, hm ▸ Below.refl _ _⟩
def T.lateX (s r : Int) (x : Event) : Bool := decide (T.clamp x.real + T.clamp x.value + 2 * T.clamp s ≤ T.clamp r)
section
attribute [local go_sem] Event.sz bw_cell
set_option maxRecDepth 100000 in
set_option maxHeartbeats 1000000 in
theorem refLate_c (x : Event) (r s : Int) (w : World) : Calls Tryd.prog 68 #[.agg (Event.arr x), .int .i64 r, .int .i64 s] w fun e w' => e = .returned (.bool (T.lateX s r x)) ∧ Below w.heap.size w w' := by
  have hB : Below w.heap.size w (w.alloc (Obj.cells (Event.arr x) 55)) := (Below.refl _ w).alloc (Nat.le_refl _) _
  have hr : rowAt (w.alloc (Obj.cells (Event.arr x) 55)) w.heap.size 0 18 = some (Event.arr x) := rowAt_new _ _ _ _ _ rfl
  obtain ⟨W, hW⟩ : ∃ W, W = w.alloc (Obj.cells (Event.arr x) 55) := ⟨_, rfl⟩
  have hsz : w.heap.size < W.heap.size := by rw [hW]; simp
  rw [← hW] at hB hr
  obtain ⟨_, c1, _, _, _, _, c2⟩ := Event.cells hr
  simp only [Nat.zero_add] at c1 c2
  have b1 := T.clamp_bd x.real
  have b2 := T.clamp_bd x.value
  have b3 := T.clamp_bd s
  have b4 := T.clamp_bd r
  have hR := Lib.hid (show T.lateX s r x = decide (T.clamp r - T.clamp x.real - T.clamp x.value ≥ 2 * T.clamp s) by unfold T.lateX; rw [decide_eq_decide]; omega)
  have HW := Lib.hid hW
  clear hW hr
  go_enter Tryd.func68, Tryd.ntmps68
  go_wp2
  rw [← HW.out]
  refine wp_region_calm (by kernel_rfl) (by kernel_rfl) ?_
  repeat ((fail_if_success (with_reducible refine wpQuiet_nil ?_)); (first | go_big_quiet_skip | go_big_quiet_step ((go_at_call 70; exact calm_of (refl_below (rclamp_c _ _))))))
  refine wpQuiet_nil ?_
  rintro _ ⟨⟨X2, hb2⟩, rfl⟩
  go_wp2
  go_ret
  exact ⟨ret_bool hR.out.symm, bthen hB hb2⟩
end
/-! What is asked of those ahead, one more at a time. -/
theorem T.lost_snoc (e x : Event) (xs : List Event) : T.lost e (xs ++ [x]) = (if T.kd 2 (T.pLost e) x = true then false else T.lost e xs) := by
  unfold T.lost
  rw [List.any_append]
  cases h : T.kd 2 (T.pLost e) x <;> simp [h]
theorem T.twice_snoc (e x : Event) (xs : List Event) : T.twice e (xs ++ [x]) = (if T.stop e x = true then T.hit e x else T.twice e xs) := by
  unfold T.twice
  rw [List.reverse_append, List.reverse_singleton, List.singleton_append, List.find?_cons]
  cases T.stop e x <;> simp
/-- late, as the reference keeps it: none yet, or the first's. -/
def T.lateR (c : Config) (e : Event) (xs : List Event) : Bool := match xs.find? (T.kd 1 (T.p_root e)) with
  | some x => T.lateX c.skew e.real x
  | none => false
def T.noneR (e : Event) (xs : List Event) : Bool := !(xs.any (T.kd 1 (T.p_root e)))
theorem T.noneR_find (e : Event) (xs : List Event) : T.noneR e xs = (xs.find? (T.kd 1 (T.p_root e))).isNone := by
  unfold T.noneR
  induction xs with
  | nil => rfl
  | cons x xs ih => rw [List.find?_cons, List.any_cons]; cases T.kd 1 (T.p_root e) x <;> simp_all
theorem T.lateE_R (c : Config) (e : Event) (xs : List Event) : T.lateE c e xs = (T.lateR c e xs || T.noneR e xs) := by
  rw [T.noneR_find]
  unfold T.lateE T.lateR
  cases xs.find? (T.kd 1 (T.p_root e)) <;> simp [T.lateX]
theorem T.noneR_snoc (e x : Event) (xs : List Event) : T.noneR e (xs ++ [x]) = (if T.kd 1 (T.p_root e) x = true then false else T.noneR e xs) := by
  unfold T.noneR
  rw [List.any_append]
  cases h : T.kd 1 (T.p_root e) x <;> simp [h]
theorem T.lateR_snoc (c : Config) (e x : Event) (xs : List Event) : T.lateR c e (xs ++ [x]) = (if (T.kd 1 (T.p_root e) x && T.noneR e xs) = true then T.lateX c.skew e.real x else T.lateR c e xs) := by
  rw [T.noneR_find]
  unfold T.lateR
  rw [List.find?_append]
  cases xs.find? (T.kd 1 (T.p_root e)) <;> cases h : T.kd 1 (T.p_root e) x <;> simp [h]
/-- The boxes of a configuration, and of the event that is asked about. -/
theorem boxesR (c : Config) (w : World) : ∃ W, W = w.alloc (Obj.cells (Config.arr c) 24) ∧ W.heap.size = w.heap.size + 1 ∧ Below w.heap.size w W ∧ rowAt W w.heap.size 0 14 = some (Config.arr c) :=
  ⟨_, rfl, by simp, (Below.refl _ w).alloc (Nat.le_refl _) _, rowAt_new _ _ _ _ _ rfl⟩
section
attribute [local go_sem] Event.sz Config.sz Key.sz Id.sz
attribute [local go_sem high] eqKL eqIL
set_option maxRecDepth 100000 in
set_option maxHeartbeats 8000000 in
theorem refStarted_c (v : Value) (l : List Event) (c : Config) (n : Nat) (e : Event) (hn : l[n]? = some e) (w : World) (h : Sl Event.arr 18 w.heap.size w v l) :
    Calls Tryd.prog 41 #[.agg (Config.arr c), v, .int .i64 (n : Int)] w fun r w' => r = .returned (.tuple #[.bool (T.lost e (l.take n)), .bool (T.twice e (l.take n)), .bool (T.lateE c e (l.take n))]) ∧ Below w.heap.size w w' := by
  obtain ⟨A, cap, rfl, hcap, hl1, hl2⟩ := h.view
  obtain ⟨hnl, hne⟩ := List.getElem?_eq_some_iff.1 hn
  obtain ⟨W, hW, hsz, hB, rC⟩ := boxesR c w
  have hS := (h.below hB).mono hB.size
  obtain ⟨b, off, rfl, hb, hrow, _⟩ := hS.at hnl
  rw [hne] at hrow
  have cs : W.cell? ⟨w.heap.size, 1, none⟩ = some (.int .i64 c.skew) := by have := rowAt_cell rC 1 (by omega); simpa [Config.at1] using this
  have HN := Lib.hid hn
  clear hn hne
  subst hW
  go_enter Tryd.func41, Tryd.ntmps41
  go_wp2_with (first | ((refine wpList_load_at rfl 55 _ rfl _ (off + n * 18) 18 rfl _ _ hrow rfl rfl rfl ?_); refine Hid.out ?_))
  refine Lib.hid ?_
  have HZ := Lib.hid hsz
  generalize w.alloc (Obj.cells (Config.arr c) 24) = W at HZ hB rC hS hb hrow cs ⊢
  clear hsz
  go_wp2_with (first | (refine wpList_store_new rfl _ _ _ rfl W.heap.size (Event.arr e) _ _ rfl rfl rfl rfl rfl (Event.one _) ?_; refine Hid.out ?_))
  refine Lib.hid ?_
  have hsz := HZ.out
  obtain ⟨W1, hW1⟩ : ∃ W1, W1 = W.alloc (Obj.cells (Event.arr e) 55) := ⟨_, rfl⟩
  have rE : rowAt W1 W.heap.size 0 18 = some (Event.arr e) := by rw [hW1]; exact rowAt_new _ _ _ _ _ rfl
  have hB1 : Below w.heap.size w W1 := by rw [hW1]; exact hB.alloc hB.size _
  have hs1 : W1.heap.size = w.heap.size + 2 := by rw [hW1]; simp; omega
  have cs1 : W1.cell? ⟨w.heap.size, 1, none⟩ = some (.int .i64 c.skew) := by rw [hW1, World.cell?_of_block (w := W) (Below.heap_alloc W _ _ (by simp; omega))]; exact cs
  have hS1 : Sl Event.arr 18 W1.heap.size W1 (.slice (some ⟨b, off, none⟩) l.length cap) l := (h.below hB1).mono hB1.size
  rw [← hW1]
  rw [hsz] at rE ⊢
  clear hW1 hS hrow hb rC cs hB HZ hsz
  have HS1 := Lib.hid hs1
  clear hs1
  go_wp2
  go_loopw [10, 11, 12, 13, 14] (fun lo tw la no i wr => ∃ k : Nat, k ≤ n ∧ i = .int .i64 (k : Int) ∧ lo = .bool (T.lost e (l.take k)) ∧ tw = .bool (T.twice e (l.take k)) ∧ la = .bool (T.lateR c e (l.take k)) ∧ no = .bool (T.noneR e (l.take k)) ∧ Below (w.heap.size + 2) W1 wr) (fun _ _ _ _ i _ => n - (intOf i).toNat)
  case atStart => exact ⟨0, Nat.zero_le _, rfl, rfl, rfl, rfl, rfl, Below.refl _ _⟩
  case round =>
    obtain ⟨k, hk, rfl, rfl, rfl, rfl, rfl, hBr⟩ := hrel
    have hs1 := HS1.out
    by_cases hkl : k < n
    · obtain ⟨b2, off2, ho, hb2, hrow, _⟩ := ((hS1.below (hBr.mono (Nat.le_of_eq hs1))).mono hBr.size).at (show k < l.length by omega)
      cases ho
      obtain ⟨x, hx⟩ : ∃ x, x = l[k] := ⟨_, rfl⟩
      rw [← hx] at hrow
      have hxo : l[k]? = some x := by rw [hx]; exact List.getElem?_eq_getElem (by omega)
      have hnext : l.take (k + 1) = l.take k ++ [x] := by rw [List.take_add_one, hxo]; rfl
      have H1 := Lib.hid (T.lost_snoc e x (l.take k))
      have H2 := Lib.hid (T.twice_snoc e x (l.take k))
      have H3 := Lib.hid (T.lateR_snoc c e x (l.take k))
      have H4 := Lib.hid (T.noneR_snoc e x (l.take k))
      rw [← hnext] at H1 H2 H3 H4
      obtain ⟨lo, hlo⟩ : ∃ lo, lo = T.lost e (l.take k) := ⟨_, rfl⟩
      obtain ⟨tw, htw⟩ : ∃ tw, tw = T.twice e (l.take k) := ⟨_, rfl⟩
      obtain ⟨la, hla⟩ : ∃ la, la = T.lateR c e (l.take k) := ⟨_, rfl⟩
      obtain ⟨no, hno⟩ : ∃ no, no = T.noneR e (l.take k) := ⟨_, rfl⟩
      rw [← hlo] at H1
      rw [← htw] at H2
      rw [← hla, ← hno] at H3
      rw [← hno] at H4
      rw [← hlo, ← htw, ← hla, ← hno]
      clear hlo htw hla hno hx hxo hnext
      have hzr := hBr.size
      have rEr := (rowAt_block (hBr.block (w.heap.size + 1) (by omega))).trans rE
      have csr : wr.cell? ⟨w.heap.size, 1, none⟩ = some (.int .i64 c.skew) := by rw [World.cell?_of_block (w := W1) (hBr.block w.heap.size (by omega))]; exact cs1
      go_wp2_with (first | (refine wpList_load_at rfl 55 _ rfl _ (off + k * 18) 18 rfl _ _ hrow rfl rfl rfl ?_) | (refine wpList_store_new rfl _ _ _ rfl wr.heap.size (Event.arr x) _ _ rfl rfl rfl rfl rfl (Event.one _) ?_; refine Hid.out ?_))
      refine Lib.hid ?_
      obtain ⟨W2, hW2⟩ : ∃ W2, W2 = wr.alloc (Obj.cells (Event.arr x) 55) := ⟨_, rfl⟩
      obtain ⟨g, hg⟩ : ∃ g, g = wr.heap.size := ⟨_, rfl⟩
      have rX : rowAt W2 g 0 18 = some (Event.arr x) := by rw [hW2, hg]; exact rowAt_new _ _ _ _ _ rfl
      have rE2 : rowAt W2 (w.heap.size + 1) 0 18 = some (Event.arr e) := by rw [hW2, rowAt_alloc_old _ _ _ _ _ (by omega)]; exact rEr
      have cs2 : W2.cell? ⟨w.heap.size, 1, none⟩ = some (.int .i64 c.skew) := by rw [hW2, World.cell?_of_block (w := wr) (Below.heap_alloc wr _ _ (by simp; omega))]; exact csr
      have hB2 : Below (w.heap.size + 2) W1 W2 := by rw [hW2]; exact hBr.alloc (by omega) _
      have hz2 : w.heap.size + 2 ≤ W2.heap.size := by have := hB2.size; omega
      rw [← hW2, ← hg]
      clear hW2 hg hrow rEr csr
      obtain ⟨m0, m1, m2, m3, m4, m5, m6, m7, m8, m9, m10, m11, m12, m13, m14, m15, m16, m17⟩ := Event.cellsL rE2
      obtain ⟨x0, x1, x2, x3, x4, x5, x6, x7, x8, x9, x10, x11, x12, x13, x14, x15, x16, x17⟩ := Event.cellsL rX
      have RX := Lib.hid rX
      clear rX rE2
      clear cs1 rE hS1 h
      by_cases hk2 : x.kind = 2
      · have q2 := Lib.hid (show T.stop e x = false by simp [T.stop, hk2])
        have q4 := Lib.hid (show T.kd 1 (T.p_root e) x = false by simp [T.kd, hk2])
        rcases and4 (T.eqKey x.key e.key) (T.eqKey x.parent e.parent) (T.eqId x.root e.root) (x.hop == e.hop) with ⟨hr, g1⟩ | ⟨hr, g1, g2⟩ | ⟨hr, g1, g2, g3⟩ | ⟨hr, g1, g2, g3, g4⟩ | ⟨hr, g1, g2, g3, g4⟩
        all_goals
          have q1 := Lib.hid ((show T.kd 2 (T.pLost e) x = (T.eqKey x.key e.key && (T.eqKey x.parent e.parent && (T.eqId x.root e.root && (x.hop == e.hop)))) by rw [T.kd, hk2]; rfl).trans hr)
          clear hr
          replace g1 := T.eqKey_u g1
          try replace g2 := T.eqKey_u g2
          try replace g3 := T.eqId_u g3
          go_wp2
          go_roundw
          case rel => exact ⟨k + 1, by omega, by go_num, by rw [H1.out, q1.out]; rfl, by rw [H2.out, q2.out]; rfl, by rw [H3.out, q4.out]; rfl, by rw [H4.out, q4.out]; rfl, hB2⟩
          case measure => simp [intOf]; omega
      · by_cases hk3 : x.kind = 3
        · have q1 := Lib.hid (show T.kd 2 (T.pLost e) x = false by simp [T.kd, hk3])
          have q4 := Lib.hid (show T.kd 1 (T.p_root e) x = false by simp [T.kd, hk3])
          have q3 := Lib.hid (show T.hit e x = true by simp [T.hit, hk3])
          clear hk2
          rcases and2 (T.eqKey x.key e.key) (x.node == e.node) with ⟨hr, g1⟩ | ⟨hr, g1, g2⟩ | ⟨hr, g1, g2⟩
          all_goals
            have q2 := Lib.hid ((show T.stop e x = (T.eqKey x.key e.key && (x.node == e.node)) by unfold T.stop; rw [hk3, Bool.and_comm (x.node == e.node) (decide (x.key = e.key))]; rfl).trans hr)
            clear hr
            replace g1 := T.eqKey_u g1
            go_wp2
            go_roundw
            case rel => exact ⟨k + 1, by omega, by go_num, by rw [H1.out, q1.out]; rfl, by rw [H2.out, q2.out, q3.out]; rfl, by rw [H3.out, q4.out]; rfl, by rw [H4.out, q4.out]; rfl, hB2⟩
            case measure => simp [intOf]; omega
        · by_cases hk9 : x.kind = 9
          · have q1 := Lib.hid (show T.kd 2 (T.pLost e) x = false by simp [T.kd, hk9])
            have q4 := Lib.hid (show T.kd 1 (T.p_root e) x = false by simp [T.kd, hk9])
            clear hk2 hk3
            rcases g1 : (x.node == e.node) with _ | _
            all_goals
              have q2 := Lib.hid ((show T.stop e x = (x.node == e.node) by unfold T.stop; rw [hk9]; exact Bool.or_false _).trans g1)
              have q3 := Lib.hid ((show T.hit e x = !(x.node == e.node) by unfold T.hit; rw [hk9]; rfl).trans (congrArg not g1))
              go_wp2
              go_roundw
              case rel => exact ⟨k + 1, by omega, by go_num, by rw [H1.out, q1.out]; rfl, by rw [H2.out, q2.out, q3.out]; rfl, by rw [H3.out, q4.out]; rfl, by rw [H4.out, q4.out]; rfl, hB2⟩
              case measure => simp [intOf]; omega
          · have q1 := Lib.hid (show T.kd 2 (T.pLost e) x = false by simp [T.kd, hk2])
            have q2 := Lib.hid (show T.stop e x = false by simp [T.stop, hk9, hk3])
            by_cases hk1 : x.kind = 1
            · clear hk2 hk3 hk9
              rcases g1 : T.eqId x.root e.root with _ | _
              · have q4 := Lib.hid ((show T.kd 1 (T.p_root e) x = T.eqId x.root e.root by rw [T.kd, hk1]; rfl).trans g1)
                replace g1 := T.eqId_u g1
                go_wp2
                go_roundw
                case rel => exact ⟨k + 1, by omega, by go_num, by rw [H1.out, q1.out]; rfl, by rw [H2.out, q2.out]; rfl, by rw [H3.out, q4.out]; rfl, by rw [H4.out, q4.out]; rfl, hB2⟩
                case measure => simp [intOf]; omega
              · have q4 := Lib.hid ((show T.kd 1 (T.p_root e) x = T.eqId x.root e.root by rw [T.kd, hk1]; rfl).trans g1)
                replace g1 := T.eqId_u g1
                rcases no with _ | _
                · go_wp2
                  go_roundw
                  case rel => exact ⟨k + 1, by omega, by go_num, by rw [H1.out, q1.out]; rfl, by rw [H2.out, q2.out]; rfl, by rw [H3.out, q4.out]; rfl, by rw [H4.out, q4.out]; rfl, hB2⟩
                  case measure => simp [intOf]; omega
                · have rX := RX.out
                  go_wp2_with (first | (refine wpList_load_at_v 55 _ rfl rfl _ (0) 18 rfl _ _ rX rfl rfl rfl ?_) | (go_at_call 68; (with_reducible refine (refLate_c x e.real c.skew _).mono ?_); rintro r w5 ⟨rfl, hb5⟩))
                  go_roundw
                  case rel => exact ⟨k + 1, by omega, by go_num, by rw [H1.out, q1.out]; rfl, by rw [H2.out, q2.out]; rfl, by rw [H3.out, q4.out]; rfl, by rw [H4.out, q4.out]; rfl, hB2.trans (hb5.mono hz2)⟩
                  case measure => simp [intOf]; omega
            · have q4 := Lib.hid (show T.kd 1 (T.p_root e) x = false by simp [T.kd, hk1])
              have e2 : (x.kind == 2) = false := by simp [hk2]
              have e3 : (x.kind == 3) = false := by simp [hk3]
              have e9 : (x.kind == 9) = false := by simp [hk9]
              have e1 : (x.kind == 1) = false := by simp [hk1]
              clear hk2 hk3 hk9 hk1
              go_wp2
              go_roundw
              case rel => exact ⟨k + 1, by omega, by go_num, by rw [H1.out, q1.out]; rfl, by rw [H2.out, q2.out]; rfl, by rw [H3.out, q4.out]; rfl, by rw [H4.out, q4.out]; rfl, hB2⟩
              case measure => simp [intOf]; omega
    · obtain rfl : k = n := by omega
      have HL := Lib.hid (T.lateE_R c e (l.take k))
      rcases gl : T.lateR c e (l.take k) with _ | _
      all_goals
        have HG := Lib.hid gl
        rw [gl] at HL
        clear gl
        go_wp2
        refine bodyPost_ret (v := .tuple #[.bool (T.lost e (l.take k)), .bool (T.twice e (l.take k)), .bool (T.lateE c e (l.take k))]) ?_ rfl ⟨rfl, hB1.trans (hBr.mono (by omega))⟩
        rw [HL.out]
        simp [results, Tryd.f41, go_sem]
end
end Go.Proofs.YtofifeicbhbgpaaDoor
