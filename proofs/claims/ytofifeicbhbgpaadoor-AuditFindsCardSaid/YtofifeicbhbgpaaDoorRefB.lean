/- The reference's audit: sent. -/
import Derived.Test.YtofifeicbhbgpaaDoorRefA
namespace Go.Proofs.YtofifeicbhbgpaaDoor
open Go.RowKit Go.Shelf
set_option linter.unusedVariables false
set_option linter.unusedSimpArgs false
def T.by13 (e x : Event) : Bool := ((x.kind == 1) || (x.kind == 3)) && T.pBy e x
theorem T.stray_snoc (e x : Event) (xs : List Event) : T.stray e (xs ++ [x]) = (if T.by13 e x = true then false else T.stray e xs) := by
  unfold T.stray T.by13
  rw [List.any_append, List.any_append]
  cases h1 : (x.kind == 1) <;> cases h3 : (x.kind == 3) <;> cases hb : T.pBy e x <;> simp [T.kd, h1, h3, hb]
def T.manyR (c : Config) (e : Event) (xs : List Event) : Bool := decide (c.attempts < e.key.att) || xs.any (T.kd 11 (T.pMine e))
theorem T.manyR_snoc (c : Config) (e x : Event) (xs : List Event) : T.manyR c e (xs ++ [x]) = (if T.kd 11 (T.pMine e) x = true then true else T.manyR c e xs) := by
  unfold T.manyR
  rw [List.any_append]
  cases h : T.kd 11 (T.pMine e) x <;> simp [h]
theorem T.many_R (c : Config) (e : Event) (xs : List Event) : T.many c e xs = (T.manyR c e xs || (e.key.att != T.cntE (T.kd 2 (T.pMine e)) xs + 1)) := by
  unfold T.many T.manyR
  cases (e.key.att != T.cntE (T.kd 2 (T.pMine e)) xs + 1) <;> simp
theorem T.cntE_snoc (q : Event → Bool) (x : Event) (xs : List Event) : T.cntE q (xs ++ [x]) = (if q x = true then T.cntE q xs + 1 else T.cntE q xs) := by
  unfold T.cntE
  rw [List.filter_append]
  cases h : q x <;> simp [h]
theorem T.soon_snoc (e x : Event) (xs : List Event) : T.soon e (xs ++ [x]) = (if T.kd 10 (T.pMine e) x = true then T.soonE e x else T.soon e xs) := by
  unfold T.soon
  rw [List.reverse_append, List.reverse_singleton, List.singleton_append, List.find?_cons]
  cases T.kd 10 (T.pMine e) x <;> simp
theorem and5b (a b c d f : Bool) : ((a && (b && (c && (d && f)))) = false ∧ a = false) ∨ ((a && (b && (c && (d && f)))) = false ∧ a = true ∧ b = false) ∨ ((a && (b && (c && (d && f)))) = false ∧ a = true ∧ b = true ∧ c = false) ∨ ((a && (b && (c && (d && f)))) = false ∧ a = true ∧ b = true ∧ c = true ∧ d = false) ∨ ((a && (b && (c && (d && f)))) = false ∧ a = true ∧ b = true ∧ c = true ∧ d = true ∧ f = false) ∨ ((a && (b && (c && (d && f)))) = true ∧ a = true ∧ b = true ∧ c = true ∧ d = true ∧ f = true) := by cases a <;> cases b <;> cases c <;> cases d <;> cases f <;> simp
section
attribute [local go_sem] Event.sz Config.sz Key.sz Id.sz bw_cell
attribute [local go_sem high] eqKL eqIL
set_option maxRecDepth 100000 in
set_option maxHeartbeats 8000000 in
theorem refSent_c (v : Value) (l : List Event) (c : Config) (n : Nat) (e : Event) (hn : l[n]? = some e) (hh : e.hop ≤ 9223372036854775807) (hll : l.length ≤ 100000) (w : World) (h : Sl Event.arr 18 w.heap.size w v l) :
    Calls Tryd.prog 42 #[.agg (Config.arr c), v, .int .i64 (n : Int)] w fun r w' => r = .returned (.tuple #[.bool (T.stray e (l.take n)), .bool (T.many c e (l.take n)), .bool (T.soon e (l.take n))]) ∧ Below w.heap.size w w' := by
  obtain ⟨A, cap, rfl, hcap, hl1, hl2⟩ := h.view
  obtain ⟨hnl, hne⟩ := List.getElem?_eq_some_iff.1 hn
  obtain ⟨W, hW, hsz, hB, rC⟩ := boxesR c w
  have hS := (h.below hB).mono hB.size
  obtain ⟨b, off, rfl, hb, hrow, _⟩ := hS.at hnl
  rw [hne] at hrow
  have cs : W.cell? ⟨w.heap.size, 8, none⟩ = some (.int .i64 c.attempts) := by have := rowAt_cell rC 8 (by omega); simpa [Config.at8] using this
  have HN := Lib.hid hn
  clear hn hne
  subst hW
  go_enter Tryd.func42, Tryd.ntmps42
  go_wp2_with (first | ((refine wpList_load_at rfl 55 _ rfl _ (off + n * 18) 18 rfl _ _ hrow rfl rfl rfl ?_); refine Hid.out ?_))
  refine Lib.hid ?_
  have HZ := Lib.hid hsz
  generalize w.alloc (Obj.cells (Config.arr c) 24) = W at HZ hB rC hS hb hrow cs ⊢
  clear hsz
  go_wp2_with (first | (refine wpList_store_new rfl _ _ _ rfl W.heap.size (Event.arr e) _ _ rfl rfl rfl rfl rfl (Event.one _) ?_; refine Hid.out ?_))
  refine Lib.hid ?_
  have hsz := HZ.out
  obtain ⟨W1, hW1⟩ : ∃ W1, W1 = W.alloc (Obj.cells (Event.arr e) 55) := ⟨_, rfl⟩
  have rE : rowAt W1 W.heap.size 0 18 = some (Event.arr e) := by rw [hW1]; exact rowAt_new _ _ _ _ _ rfl
  have hB1 : Below w.heap.size w W1 := by rw [hW1]; exact hB.alloc hB.size _
  have hs1 : W1.heap.size = w.heap.size + 2 := by rw [hW1]; simp; omega
  have cs1 : W1.cell? ⟨w.heap.size, 8, none⟩ = some (.int .i64 c.attempts) := by rw [hW1, World.cell?_of_block (w := W) (Below.heap_alloc W _ _ (by simp; omega))]; exact cs
  have hS1 : Sl Event.arr 18 W1.heap.size W1 (.slice (some ⟨b, off, none⟩) l.length cap) l := (h.below hB1).mono hB1.size
  rw [← hW1]
  rw [hsz] at rE ⊢
  clear hW1 hS hrow hb rC cs hB HZ hsz
  have HS1 := Lib.hid hs1
  clear hs1
  have hs1 := HS1.out
  obtain ⟨m0, m1, m2, m3, m4, m5, m6, m7, m8, m9, m10, m11, m12, m13, m14, m15, m16, m17⟩ := Event.cellsL rE
  have lt0 : w.heap.size < W1.heap.size := by omega
  have lt1 : w.heap.size + 1 < W1.heap.size := by omega
  clear hs1
  go_wp2
  refine wp_region_calm (by kernel_rfl) (by kernel_rfl) ?_
  repeat ((fail_if_success (with_reducible refine wpQuiet_nil ?_)); (first | go_big_quiet_skip | go_big_quiet_step (fail)))
  refine wpQuiet_nil ?_
  rintro _ ⟨⟨X0, hb0⟩, rfl⟩
  have hB0 : Below (w.heap.size + 2) W1 _ := hb0.mono (by have := HS1.out; omega)
  clear m0 m1 m2 m3 m4 m5 m6 m7 m8 m9 m10 m11 m12 m13 m14 m15 m16 m17 lt0 lt1 hb0
  go_wp2
  go_loopw [10, 11, 12, 13, 14] (fun lo tw la no i wr => ∃ k : Nat, k ≤ n ∧ i = .int .i64 (k : Int) ∧ lo = .bool (T.stray e (l.take k)) ∧ tw = .bool (T.manyR c e (l.take k)) ∧ la = .bool (T.soon e (l.take k)) ∧ no = .int .i64 (T.cntE (T.kd 2 (T.pMine e)) (l.take k)) ∧ Below (w.heap.size + 2) W1 wr) (fun _ _ _ _ i _ => n - (intOf i).toNat)
  case atStart => exact ⟨0, Nat.zero_le _, rfl, rfl, by simp [T.manyR], rfl, rfl, hB0⟩
  case round =>
    obtain ⟨k, hk, rfl, rfl, rfl, rfl, rfl, hBr⟩ := hrel
    have hs1 := HS1.out
    by_cases hkl : k < n
    · obtain ⟨b2, off2, ho, hb2, hrow, _⟩ := ((hS1.below (hBr.mono (Nat.le_of_eq hs1))).mono hBr.size).at (show k < l.length by omega)
      cases ho
      obtain ⟨x, hx⟩ : ∃ x, x = l[k] := ⟨_, rfl⟩
      rw [← hx] at hrow
      have hxo : l[k]? = some x := by rw [hx]; exact List.getElem?_eq_getElem (by omega)
      have hnext : l.take (k + 1) = l.take k ++ [x] := by rw [List.take_add_one, hxo]; rfl
      have H1 := Lib.hid (T.stray_snoc e x (l.take k))
      have H2 := Lib.hid (T.manyR_snoc c e x (l.take k))
      have H3 := Lib.hid (T.soon_snoc e x (l.take k))
      have H4 := Lib.hid (T.cntE_snoc (T.kd 2 (T.pMine e)) x (l.take k))
      have hcb := T.cnt_bd (T.kd 2 (T.pMine e)) (l.take k)
      rw [List.length_take] at hcb
      rw [← hnext] at H1 H2 H3 H4
      obtain ⟨lo, hlo⟩ : ∃ lo, lo = T.stray e (l.take k) := ⟨_, rfl⟩
      obtain ⟨tw, htw⟩ : ∃ tw, tw = T.manyR c e (l.take k) := ⟨_, rfl⟩
      obtain ⟨la, hla⟩ : ∃ la, la = T.soon e (l.take k) := ⟨_, rfl⟩
      obtain ⟨no, hno⟩ : ∃ no, no = T.cntE (T.kd 2 (T.pMine e)) (l.take k) := ⟨_, rfl⟩
      rw [← hlo] at H1
      rw [← htw] at H2
      rw [← hla] at H3
      rw [← hno] at H4 hcb
      rw [← hlo, ← htw, ← hla, ← hno]
      clear hlo htw hla hno hx hxo hnext
      have hzr := hBr.size
      have rEr := (rowAt_block (hBr.block (w.heap.size + 1) (by omega))).trans rE
      have csr : wr.cell? ⟨w.heap.size, 8, none⟩ = some (.int .i64 c.attempts) := by rw [World.cell?_of_block (w := W1) (hBr.block w.heap.size (by omega))]; exact cs1
      go_wp2_with (first | (refine wpList_load_at rfl 55 _ rfl _ (off + k * 18) 18 rfl _ _ hrow rfl rfl rfl ?_) | (refine wpList_store_new rfl _ _ _ rfl wr.heap.size (Event.arr x) _ _ rfl rfl rfl rfl rfl (Event.one _) ?_; refine Hid.out ?_))
      refine Lib.hid ?_
      obtain ⟨W2, hW2⟩ : ∃ W2, W2 = wr.alloc (Obj.cells (Event.arr x) 55) := ⟨_, rfl⟩
      obtain ⟨g, hg⟩ : ∃ g, g = wr.heap.size := ⟨_, rfl⟩
      have rX : rowAt W2 g 0 18 = some (Event.arr x) := by rw [hW2, hg]; exact rowAt_new _ _ _ _ _ rfl
      have rE2 : rowAt W2 (w.heap.size + 1) 0 18 = some (Event.arr e) := by rw [hW2, rowAt_alloc_old _ _ _ _ _ (by omega)]; exact rEr
      have cs2 : W2.cell? ⟨w.heap.size, 8, none⟩ = some (.int .i64 c.attempts) := by rw [hW2, World.cell?_of_block (w := wr) (Below.heap_alloc wr _ _ (by simp; omega))]; exact csr
      have hB2 : Below (w.heap.size + 2) W1 W2 := by rw [hW2]; exact hBr.alloc (by omega) _
      have hz2 : w.heap.size + 2 ≤ W2.heap.size := by have := hB2.size; omega
      rw [← hW2, ← hg]
      clear hW2 hg hrow rEr csr
      obtain ⟨m0, m1, m2, m3, m4, m5, m6, m7, m8, m9, m10, m11, m12, m13, m14, m15, m16, m17⟩ := Event.cellsL rE2
      obtain ⟨x0, x1, x2, x3, x4, x5, x6, x7, x8, x9, x10, x11, x12, x13, x14, x15, x16, x17⟩ := Event.cellsL rX
      have RX := Lib.hid rX
      clear rX rE2
      clear cs1 rE hS1 h
      have HCB := Lib.hid hcb
      clear hcb cs2
      by_cases hk1 : x.kind = 1
      · have q2 := Lib.hid (show T.kd 11 (T.pMine e) x = false by simp [T.kd, hk1])
        have q3 := Lib.hid (show T.kd 10 (T.pMine e) x = false by simp [T.kd, hk1])
        have q4 := Lib.hid (show T.kd 2 (T.pMine e) x = false by simp [T.kd, hk1])
        rcases and5b (x.node == e.node) (T.eqId x.root e.root) (T.eqKey x.key e.parent) (decide (0 < e.hop)) (x.hop == e.hop - 1) with ⟨hr, g1⟩ | ⟨hr, g1, g2⟩ | ⟨hr, g1, g2, g3⟩ | ⟨hr, g1, g2, g3, g4⟩ | ⟨hr, g1, g2, g3, g4, g5⟩ | ⟨hr, g1, g2, g3, g4, g5⟩
        all_goals
          have q1 := Lib.hid ((show T.by13 e x = ((x.node == e.node) && (T.eqId x.root e.root && (T.eqKey x.key e.parent && (decide (0 < e.hop) && (x.hop == e.hop - 1))))) by unfold T.by13 T.pBy; rw [hk1, show decide (1 ≤ e.hop) = decide (0 < e.hop) from decide_eq_decide.2 (by omega)]; rfl).trans hr)
          clear hr
          try replace g2 := T.eqId_u g2
          try replace g3 := T.eqKey_u g3
          try have hq : 0 < e.hop := of_decide_eq_true g4
          rcases gi : T.eqId x.key.id e.key.id with _ | _
          all_goals
            replace gi := T.eqId_u gi
            go_wp2
            go_roundw
            case rel => exact ⟨k + 1, by omega, by go_num, by rw [H1.out, q1.out]; rfl, by rw [H2.out, q2.out]; rfl, by rw [H3.out, q3.out]; rfl, by rw [H4.out, q4.out]; rfl, hB2⟩
            case measure => simp [intOf]; omega
      · by_cases hk3 : x.kind = 3
        · have q2 := Lib.hid (show T.kd 11 (T.pMine e) x = false by simp [T.kd, hk3])
          have q3 := Lib.hid (show T.kd 10 (T.pMine e) x = false by simp [T.kd, hk3])
          have q4 := Lib.hid (show T.kd 2 (T.pMine e) x = false by simp [T.kd, hk3])
          clear hk1
          rcases and5b (x.node == e.node) (T.eqId x.root e.root) (T.eqKey x.key e.parent) (decide (0 < e.hop)) (x.hop == e.hop - 1) with ⟨hr, g1⟩ | ⟨hr, g1, g2⟩ | ⟨hr, g1, g2, g3⟩ | ⟨hr, g1, g2, g3, g4⟩ | ⟨hr, g1, g2, g3, g4, g5⟩ | ⟨hr, g1, g2, g3, g4, g5⟩
          all_goals
            have q1 := Lib.hid ((show T.by13 e x = ((x.node == e.node) && (T.eqId x.root e.root && (T.eqKey x.key e.parent && (decide (0 < e.hop) && (x.hop == e.hop - 1))))) by unfold T.by13 T.pBy; rw [hk3, show decide (1 ≤ e.hop) = decide (0 < e.hop) from decide_eq_decide.2 (by omega)]; rfl).trans hr)
            clear hr
            try replace g2 := T.eqId_u g2
            try replace g3 := T.eqKey_u g3
            try have hq : 0 < e.hop := of_decide_eq_true g4
            rcases gi : T.eqId x.key.id e.key.id with _ | _
            all_goals
              replace gi := T.eqId_u gi
              go_wp2
              go_roundw
              case rel => exact ⟨k + 1, by omega, by go_num, by rw [H1.out, q1.out]; rfl, by rw [H2.out, q2.out]; rfl, by rw [H3.out, q3.out]; rfl, by rw [H4.out, q4.out]; rfl, hB2⟩
              case measure => simp [intOf]; omega
        · by_cases hk2 : x.kind = 2
          · have q1 := Lib.hid (show T.by13 e x = false by simp [T.by13, hk2])
            clear hk1 hk3
            rcases gi : T.eqId x.key.id e.key.id with _ | _
            · have q2 := Lib.hid (show T.kd 11 (T.pMine e) x = false by simp [T.kd, hk2])
              have q3 := Lib.hid (show T.kd 10 (T.pMine e) x = false by simp [T.kd, hk2])
              have q4 := Lib.hid ((show T.kd 2 (T.pMine e) x = T.eqId x.key.id e.key.id by rw [T.kd, hk2]; rfl).trans gi)
              replace gi := T.eqId_u gi
              have hcb := HCB.out
              go_wp2
              go_roundw
              case rel => exact ⟨k + 1, by omega, by go_num, by rw [H1.out, q1.out]; rfl, by rw [H2.out, q2.out]; rfl, by rw [H3.out, q3.out]; rfl, by rw [H4.out, q4.out]; rfl, hB2⟩
              case measure => simp [intOf]; omega
            · have q2 := Lib.hid (show T.kd 11 (T.pMine e) x = false by simp [T.kd, hk2])
              have q3 := Lib.hid (show T.kd 10 (T.pMine e) x = false by simp [T.kd, hk2])
              have q4 := Lib.hid ((show T.kd 2 (T.pMine e) x = T.eqId x.key.id e.key.id by rw [T.kd, hk2]; rfl).trans gi)
              replace gi := T.eqId_u gi
              have hcb := HCB.out
              go_wp2
              go_roundw
              case rel => exact ⟨k + 1, by omega, by go_num, by rw [H1.out, q1.out]; rfl, by rw [H2.out, q2.out]; rfl, by rw [H3.out, q3.out]; rfl, by rw [H4.out, q4.out]; rfl, hB2⟩
              case measure => simp [intOf]; omega
          · by_cases hk11 : x.kind = 11
            · have q1 := Lib.hid (show T.by13 e x = false by simp [T.by13, hk11])
              clear hk1 hk3 hk2
              rcases gi : T.eqId x.key.id e.key.id with _ | _
              · have q2 := Lib.hid ((show T.kd 11 (T.pMine e) x = T.eqId x.key.id e.key.id by rw [T.kd, hk11]; rfl).trans gi)
                have q3 := Lib.hid (show T.kd 10 (T.pMine e) x = false by simp [T.kd, hk11])
                have q4 := Lib.hid (show T.kd 2 (T.pMine e) x = false by simp [T.kd, hk11])
                replace gi := T.eqId_u gi
                go_wp2
                go_roundw
                case rel => exact ⟨k + 1, by omega, by go_num, by rw [H1.out, q1.out]; rfl, by rw [H2.out, q2.out]; rfl, by rw [H3.out, q3.out]; rfl, by rw [H4.out, q4.out]; rfl, hB2⟩
                case measure => simp [intOf]; omega
              · have q2 := Lib.hid ((show T.kd 11 (T.pMine e) x = T.eqId x.key.id e.key.id by rw [T.kd, hk11]; rfl).trans gi)
                have q3 := Lib.hid (show T.kd 10 (T.pMine e) x = false by simp [T.kd, hk11])
                have q4 := Lib.hid (show T.kd 2 (T.pMine e) x = false by simp [T.kd, hk11])
                replace gi := T.eqId_u gi
                go_wp2
                go_roundw
                case rel => exact ⟨k + 1, by omega, by go_num, by rw [H1.out, q1.out]; rfl, by rw [H2.out, q2.out]; rfl, by rw [H3.out, q3.out]; rfl, by rw [H4.out, q4.out]; rfl, hB2⟩
                case measure => simp [intOf]; omega
            · by_cases hk10 : x.kind = 10
              · have q1 := Lib.hid (show T.by13 e x = false by simp [T.by13, hk10])
                clear hk1 hk3 hk2 hk11
                rcases gi : T.eqId x.key.id e.key.id with _ | _
                · have q2 := Lib.hid (show T.kd 11 (T.pMine e) x = false by simp [T.kd, hk10])
                  have q3 := Lib.hid ((show T.kd 10 (T.pMine e) x = T.eqId x.key.id e.key.id by rw [T.kd, hk10]; rfl).trans gi)
                  have q4 := Lib.hid (show T.kd 2 (T.pMine e) x = false by simp [T.kd, hk10])
                  replace gi := T.eqId_u gi
                  go_wp2
                  go_roundw
                  case rel => exact ⟨k + 1, by omega, by go_num, by rw [H1.out, q1.out]; rfl, by rw [H2.out, q2.out]; rfl, by rw [H3.out, q3.out]; rfl, by rw [H4.out, q4.out]; rfl, hB2⟩
                  case measure => simp [intOf]; omega
                · have q2 := Lib.hid (show T.kd 11 (T.pMine e) x = false by simp [T.kd, hk10])
                  have q3 := Lib.hid ((show T.kd 10 (T.pMine e) x = T.eqId x.key.id e.key.id by rw [T.kd, hk10]; rfl).trans gi)
                  have q4 := Lib.hid (show T.kd 2 (T.pMine e) x = false by simp [T.kd, hk10])
                  replace gi := T.eqId_u gi
                  rcases gv : decide (x.value < 0) with _ | _
                  · have q5 := Lib.hid (show T.soonE e x = decide (T.clamp e.loc < T.add x.loc x.value) by unfold T.soonE; rw [gv]; rfl)
                    have lg := World.block_lt_of_cell? W2 _ x0
                    have le := World.block_lt_of_cell? W2 _ m0
                    go_wp2
                    refine wp_region_calm (by kernel_rfl) (by kernel_rfl) ?_
                    repeat ((fail_if_success (with_reducible refine wpQuiet_nil ?_)); (first | go_big_quiet_skip | go_big_quiet_step ((first | (go_at_call 69; exact calm_of (refl_below (radd_c _ _ _))) | (go_at_call 70; exact calm_of (refl_below (rclamp_c _ _)))))))
                    refine wpQuiet_nil ?_
                    rintro _ ⟨⟨X6, hb6⟩, rfl⟩
                    go_wp2
                    go_roundw
                    case rel => exact ⟨k + 1, by omega, by go_num, by rw [H1.out, q1.out]; rfl, by rw [H2.out, q2.out]; rfl, by rw [H3.out, q3.out, q5.out]; rfl, by rw [H4.out, q4.out]; rfl, hB2.trans (hb6.mono hz2)⟩
                    case measure => simp [intOf]; omega
                  · have q5 := Lib.hid (show T.soonE e x = true by unfold T.soonE; rw [gv]; rfl)
                    have lg := World.block_lt_of_cell? W2 _ x0
                    have le := World.block_lt_of_cell? W2 _ m0
                    go_wp2
                    refine wp_region_calm (by kernel_rfl) (by kernel_rfl) ?_
                    repeat ((fail_if_success (with_reducible refine wpQuiet_nil ?_)); (first | go_big_quiet_skip | go_big_quiet_step (fail)))
                    refine wpQuiet_nil ?_
                    rintro _ ⟨⟨X6, hb6⟩, rfl⟩
                    go_wp2
                    go_roundw
                    case rel => exact ⟨k + 1, by omega, by go_num, by rw [H1.out, q1.out]; rfl, by rw [H2.out, q2.out]; rfl, by rw [H3.out, q3.out, q5.out]; rfl, by rw [H4.out, q4.out]; rfl, hB2.trans (hb6.mono hz2)⟩
                    case measure => simp [intOf]; omega
              · have q1 := Lib.hid (show T.by13 e x = false by simp [T.by13, hk1, hk3])
                have q2 := Lib.hid (show T.kd 11 (T.pMine e) x = false by simp [T.kd, hk11])
                have q3 := Lib.hid (show T.kd 10 (T.pMine e) x = false by simp [T.kd, hk10])
                have q4 := Lib.hid (show T.kd 2 (T.pMine e) x = false by simp [T.kd, hk2])
                have e1 : (x.kind == 1) = false := by simp [hk1]
                have e3 : (x.kind == 3) = false := by simp [hk3]
                have e2 : (x.kind == 2) = false := by simp [hk2]
                have e11 : (x.kind == 11) = false := by simp [hk11]
                have e10 : (x.kind == 10) = false := by simp [hk10]
                clear hk1 hk3 hk2 hk11 hk10
                rcases gi : T.eqId x.key.id e.key.id with _ | _
                all_goals
                  replace gi := T.eqId_u gi
                  go_wp2
                  go_roundw
                  case rel => exact ⟨k + 1, by omega, by go_num, by rw [H1.out, q1.out]; rfl, by rw [H2.out, q2.out]; rfl, by rw [H3.out, q3.out]; rfl, by rw [H4.out, q4.out]; rfl, hB2⟩
                  case measure => simp [intOf]; omega
    · obtain rfl : k = n := by omega
      have hs1 := HS1.out
      have hzr := hBr.size
      have rEr := (rowAt_block (hBr.block (w.heap.size + 1) (by omega))).trans rE
      obtain ⟨m0, m1, m2, m3, m4, m5, m6, m7, m8, m9, m10, m11, m12, m13, m14, m15, m16, m17⟩ := Event.cellsL rEr
      have le := World.block_lt_of_cell? wr _ m0
      have hcb := T.cnt_bd (T.kd 2 (T.pMine e)) (l.take k)
      rw [List.length_take] at hcb
      have HM := Lib.hid (T.many_R c e (l.take k))
      obtain ⟨no, hno⟩ : ∃ no, no = T.cntE (T.kd 2 (T.pMine e)) (l.take k) := ⟨_, rfl⟩
      rw [← hno] at HM hcb
      rw [← hno]
      have w1 : IntKind.i64.wrap (no + 1) = no + 1 := IntWalk.i64_in _ (by omega)
      clear hno m0 m1 m2 m3 m4 m5 m6 m8 m9 m10 m11 m12 m13 m14 m15 m16 m17 rEr hs1
      rcases gm : T.manyR c e (l.take k) with _ | _
      all_goals
        rw [gm] at HM
        clear gm
        go_wp2
        refine wp_region_calm (by kernel_rfl) (by kernel_rfl) ?_
        repeat ((fail_if_success (with_reducible refine wpQuiet_nil ?_)); (first | go_big_quiet_skip | go_big_quiet_step (fail)))
        refine wpQuiet_nil ?_
        rintro _ ⟨⟨X6, hb6⟩, rfl⟩
        go_wp2
        refine bodyPost_ret (v := .tuple #[.bool (T.stray e (l.take k)), .bool (T.many c e (l.take k)), .bool (T.soon e (l.take k))]) ?_ rfl ⟨rfl, hB1.trans ((hBr.mono (by omega)).trans (hb6.mono (by omega)))⟩
        rw [HM.out]
        simp [results, Tryd.f42, go_sem]
end
end Go.Proofs.YtofifeicbhbgpaaDoor
