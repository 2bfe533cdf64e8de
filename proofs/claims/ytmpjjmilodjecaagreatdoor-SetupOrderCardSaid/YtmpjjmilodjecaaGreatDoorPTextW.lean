/- The text of a program: the program's walk. -/
import Derived.Test.YtmpjjmilodjecaaGreatDoorPText
import Derived.Test.YtmpjjmilodjecaaGreatDoorHeadP
import Derived.Test.YtmpjjmilodjecaaGreatDoorRLines
import Derived.Test.YtmpjjmilodjecaaGreatDoorShelf
import Derived.Lib.Join
import Derived.Deep.RegionHeld3
namespace Go.Proofs.YtmpjjmilodjecaaGreatDoor
open Go.RowKit Go.Shelf
set_option linter.unusedVariables false
set_option linter.unusedSimpArgs false
theorem Own.new1 (w : World) (base : Nat) (hb : base ≤ w.heap.size) (l : List UInt8) : Own strL 1 base 9 (w.alloc (.cells (strL l) 9)) (.slice (some ⟨w.heap.size, 0, none⟩) 1 1) [l] := by
  have := World.ownsRow_lit (base := base) (e := 9) (size := 1) w (strL l) 1 hb (by unfold maxLen; omega) rfl
  unfold Own
  simpa using this
theorem box_facts2 (w : World) (a b : Int) : ((w.alloc (.cells #[.int .i64 a, .int .i64 b] 3)).cell? ⟨w.heap.size, 0, none⟩ = some (.int .i64 a) ∧ (w.alloc (.cells #[.int .i64 a, .int .i64 b] 3)).cell? ⟨w.heap.size, 1, none⟩ = some (.int .i64 b)) :=
  ⟨(cell_of (heap_alloc_new _ _) 0).1, (cell_of (heap_alloc_new _ _) 1).1⟩
theorem T.join_S (ps : List (List UInt8)) : Lib.join ps [59, 32] = T.joinS ps := by
  have key : ∀ (p : List UInt8) (r : List (List UInt8)), p ++ Lib.joinTail [59, 32] r = T.joinS (p :: r) := by
    intro p r
    induction r generalizing p with
    | nil => simp [Lib.joinTail, T.joinS]
    | cons q r ih =>
      rw [T.joinS, if_neg (by simp), ← ih q]
      simp [Lib.joinTail]
  cases ps with
  | nil => rfl
  | cons p r => rw [Lib.join_cons, key]
theorem join_c (v : Value) (ps : List (List UInt8)) (sep : List UInt8) (w : World) (h : Sl strL 1 w.heap.size w v ps) (hl : (Lib.join ps sep).length ≤ 140737488355328) (hn : ps.length ≤ 1000000) :
    Calls Tryz.prog 69 #[v, strV sep] w fun r w' => r = .returned (strV (Lib.join ps sep)) ∧ Below w.heap.size w w' := by
  obtain ⟨A, cap, rfl, hcap, hl1, hl2⟩ := h.view
  by_cases h0 : ps = []
  · subst h0
    refine (Tryz.strings_Join_none A cap ⟨sep.toArray⟩ w).mono ?_
    rintro r w' ⟨rfl, rfl⟩
    exact ⟨rfl, Below.refl _ _⟩
  · have hp : 0 < ps.length := List.length_pos_iff.2 h0
    obtain ⟨b, off, hA, hb, _, hall⟩ := h.at hp
    subst hA
    have hm : (ps.map fun p => (⟨p.toArray⟩ : ByteArray)).map (·.data.toList) = ps := by simp [Function.comp_def]
    have hj := Tryz.strings_Join b off cap (ps.map fun p => (⟨p.toArray⟩ : ByteArray)) ⟨sep.toArray⟩ w (fun j x hx => by
      rw [List.getElem?_map, Option.map_eq_some_iff] at hx
      obtain ⟨p, hp, rfl⟩ := hx
      have := rowAt_cell (hall j p hp) 0 (by omega)
      simpa [strL] using this) hb (by rw [List.length_map]; omega) (by rw [List.length_map]; omega) (by rw [hm]; simpa using hl)
    rw [hm, List.length_map] at hj
    simpa using hj
theorem cell_block {w w' : World} {b o : Nat} (h : w'.heap[b]? = w.heap[b]?) : w'.cell? ⟨b, o, none⟩ = w.cell? ⟨b, o, none⟩ := by simp only [World.cell?, h]
theorem own_cntP {w : World} {base : Nat} {e : TypeId} {xs : List (List UInt8)} {A : Option Addr} {n cap : Nat} (h : Own strL 1 base e w (.slice A n cap) xs) : n = xs.length := by
  rcases h.2 with ⟨hv, h0⟩ | ⟨g, cap, cur, hv, _⟩
  · injection hv with _ e2 _; omega
  · injection hv
def VerbsPost (k : Int) (w : World) (r : Ending) (w' : World) : Prop :=
  r = .returned (.slice (some ⟨w.heap.size, 0, none⟩) 8 8) ∧ w'.cell? ⟨w.heap.size, k.toNat, none⟩ = some (strV (T.verb k)) ∧ Below w.heap.size w w' ∧ w.heap.size < w'.heap.size
set_option maxRecDepth 100000 in
theorem verbs_c (k : Int) (h : 1 ≤ k ∧ k ≤ 7) (w : World) : Calls Tryz.prog 67 #[] w (VerbsPost k w) := by
  rcases T.kinds7 k h with rfl | rfl | rfl | rfl | rfl | rfl | rfl
  all_goals
    clear h
    go_enter Tryz.func67, Tryz.ntmps67
    go_wp2
    go_ret
    exact ⟨rfl, (cell_of (heap_alloc_new _ _) _).1, (Below.refl _ w).alloc (Nat.le_refl _) _, by simp⟩
attribute [local go_sem] GoOp.sz
set_option maxRecDepth 100000 in
set_option maxHeartbeats 8000000 in
theorem ptext_c (v : Value) (xs : List GoOp) (w : World) (h : Sl GoOp.arr 3 w.heap.size w v xs) (hok : ∀ x ∈ xs, GoOp.ok x) (hn : xs.length ≤ 10000) (ht : Tab w) :
    Calls Tryz.prog 21 #[v] w fun r w' => r = .returned (strV (T.progText xs)) ∧ Below w.heap.size w w' := by
  obtain ⟨A, cap, rfl, hcap, hl1, hl2⟩ := h.view
  have HOK := Lib.hid hok
  clear hok
  go_enter Tryz.func21, Tryz.ntmps21
  go_wp2
  go_loopw [3, 11] (fun u i wr => ∃ k : Nat, k ≤ xs.length ∧ i = .int .i64 (k : Int) ∧ Own strL 1 w.heap.size 9 wr u ((xs.take k).map T.opText) ∧ Hid ((xs.take k).all T.known = true) ∧ Below w.heap.size w wr) (fun _ i _ => xs.length - (intOf i).toNat)
  case atStart => exact ⟨0, Nat.zero_le _, rfl, Own.nil, Lib.hid rfl, Below.refl _ _⟩
  case round =>
    obtain ⟨k, hk, rfl, hown, hkn, hB⟩ := hrel
    have hBz := hB.size
    by_cases hkl : k < xs.length
    · have hkI : (k : Int) < (xs.length : Int) := by omega
      have hS := (h.below hB).mono hBz
      obtain ⟨bb, off, hA, hb, hrow, _⟩ := hS.at hkl
      subst hA
      obtain ⟨x, hx⟩ : ∃ x, x = xs[k] := ⟨_, rfl⟩
      rw [← hx] at hrow
      have hxo := HOK.out x (by rw [hx]; exact List.getElem_mem _)
      have hknx : (xs.take (k + 1)).all T.known = ((xs.take k).all T.known && T.known x) := by rw [List.take_succ_eq_append_getElem hkl, List.all_append, ← hx]; simp
      have htk : (xs.take (k + 1)).map T.opText = (xs.take k).map T.opText ++ [T.opText x] := by rw [List.take_succ_eq_append_getElem hkl, List.map_append, ← hx]; rfl
      have hmem : x ∈ xs := by rw [hx]; exact List.getElem_mem _
      have HM := Lib.hid hmem
      have hwk : IntKind.i64.wrap ((k : Int) + 1) = (k : Int) + 1 := IntWalk.i64_in _ (by omega)
      have HKN := Lib.hid hknx
      have HTK := Lib.hid htk
      have hfl : ((xs.take k).map T.opText).length = k := by rw [List.length_map, List.length_take]; omega
      obtain ⟨ps, hps⟩ : ∃ ps, ps = (xs.take k).map T.opText := ⟨_, rfl⟩
      rw [← hps] at hown HTK hfl
      have HFL := Lib.hid hfl
      clear hx hmem hknx htk hfl hps
      obtain ⟨W3, hW3⟩ : ∃ W3, W3 = wr.alloc (.cells (GoOp.arr x) 110) := ⟨_, rfl⟩
      have hb3 : Below wr.heap.size wr W3 := by rw [hW3]; exact (Below.refl _ wr).alloc (Nat.le_refl _) _
      have r3 : rowAt W3 wr.heap.size 0 3 = some (GoOp.arr x) := by rw [hW3]; exact rowAt_new _ _ _ _ _ rfl
      have hz3 : wr.heap.size < W3.heap.size := by rw [hW3]; simp
      obtain ⟨c0, c1, c2⟩ := opCells r3
      have HW3 := Lib.hid hW3
      clear hW3 r3 hS
      obtain ⟨kd, hkd⟩ : ∃ kd, kd = x.kind := ⟨_, rfl⟩
      rw [← hkd] at c0
      by_cases hlow : kd < 1
      · have HR := Lib.hid (show T.progText xs = [] by
          rw [T.progText, if_neg]
          intro e
          have := List.all_eq_true.1 e x HM.out
          simp only [T.known, decide_eq_true_eq] at this; omega)
        clear hkd HKN hkn
        go_wp2_with (first | (refine wpList_load_at_v 110 _ rfl rfl _ (off + k * 3) 3 rfl _ _ hrow rfl rfl rfl ?_) | (refine wpList_store_new rfl _ _ _ rfl _ (GoOp.arr x) _ _ rfl rfl rfl rfl rfl (GoOp.one _) ?_; rw [← HW3.out]))
        go_ret
        exact ⟨by rw [HR.out] <;> rfl, bthen hB hb3⟩
      · by_cases hhi : 7 < kd
        · have HR := Lib.hid (show T.progText xs = [] by
            rw [T.progText, if_neg]
            intro e
            have := List.all_eq_true.1 e x HM.out
            simp only [T.known, decide_eq_true_eq] at this; omega)
          clear hkd HKN hkn
          go_wp2_with (first | (refine wpList_load_at_v 110 _ rfl rfl _ (off + k * 3) 3 rfl _ _ hrow rfl rfl rfl ?_) | (refine wpList_store_new rfl _ _ _ rfl _ (GoOp.arr x) _ _ rfl rfl rfl rfl rfl (GoOp.one _) ?_; rw [← HW3.out]))
          go_ret
          exact ⟨by rw [HR.out] <;> rfl, bthen hB hb3⟩
        · have hkk : 1 ≤ kd ∧ kd ≤ 7 := by omega
          have hkx : T.known x = true := by simp only [T.known, decide_eq_true_eq]; omega
          have hkn2 := Lib.hid (show (xs.take (k + 1)).all T.known = true by rw [HKN.out, hkn.out, hkx]; rfl)
          have hvl := T.verb_len kd hkk
          have HVS := fun X : World => verbs_c kd hkk X
          have HCT := fun X : World => counts_c kd X
          have HTX := Lib.hid (show T.opText x = T.verb kd ++ (if T.pcount kd = 0 then [] else 32 :: Lib.itoa x.a) ++ (if T.pcount kd = 2 then 32 :: Lib.itoa x.b else []) by rw [T.opText, T.opNum1, T.opNum2, hkd])
          have q0 : 0 ≤ kd := by omega
          have q8 : kd < 8 := by omega
          have HKD := Lib.hid hkd.symm
          clear hkd HKN hkn hkx
          go_upto_region 7 with (first | (refine wpList_load_at_v 110 _ rfl rfl _ (off + k * 3) 3 rfl _ _ hrow rfl rfl rfl ?_) | (refine wpList_store_new rfl _ _ _ rfl _ (GoOp.arr x) _ _ rfl rfl rfl rfl rfl (GoOp.one _) ?_; rw [← HW3.out]))
          unfold VerbsPost at HVS
          refine wp_region_P 6 [0, 4, 5, 6] [1, 2, 0, 3, 4, 5, 6] (fun X => Below W3.heap.size W3 X) (by kernel_rfl) (by kernel_rfl) (by kernel_rfl) (by decide) (by simp only [ordOps, List.map_cons, List.map_nil, List.getElem?_cons_succ, List.getElem?_cons_zero, Option.getD_some]; repeat (first | exact trivial | refine ⟨.inl rfl, ?_⟩ | refine ⟨.inr fun _ _ _ _ h => h, ?_⟩)) ?_ ?_
          rotate_left; simp only [ordOps, List.map_cons, List.map_nil, List.getElem?_cons_succ, List.getElem?_cons_zero, Option.getD_some]; rotate_left
          · exact (Below.refl _ W3).drew
          iterate 2 ((first | (refine wpP_q (by rfl) (by rfl) ?_ ?_ ?_; rotate_left; focus (rintro W hX; have s0 := (hX.cell (p := ⟨wr.heap.size, 0, none⟩) hz3).trans c0; go_simp; try (with_reducible rfl); done)) | refine wpP_skip (by rfl) (by rfl) ?_); try simp only [Act.put, List.setIfInBounds_toArray, List.set_cons_succ, List.set_cons_zero])
          refine wpP_a (by rfl) (by rfl) fun K hK => ?_
          go_simp
          refine (HVS _).mono ?_
          rintro r W4 ⟨rfl, hvc, hb4, hz4⟩
          have hX4 : Below W3.heap.size W3 W4 := (Below.refl _ W3).drew.trans hb4
          have hvc2 : W4.cell? ⟨W3.heap.size, kd.toNat, none⟩ = some (strV (T.verb kd)) := hvc
          refine hK _ _ (fun _ => hX4) ?_; clear hK K; try simp only [Act.put, List.setIfInBounds_toArray, List.set_cons_succ, List.set_cons_zero]
          iterate 1 ((first | (refine wpP_q (by rfl) (by rfl) ?_ ?_ ?_; rotate_left; focus (rintro W hX; go_simp; try (with_reducible rfl); done)) | refine wpP_skip (by rfl) (by rfl) ?_); try simp only [Act.put, List.setIfInBounds_toArray, List.set_cons_succ, List.set_cons_zero])
          refine wpP_a (by rfl) (by rfl) fun K hK => ?_
          go_simp
          refine hK _ _ (fun _ => hX4) ?_; clear hK K; try simp only [Act.put, List.setIfInBounds_toArray, List.set_cons_succ, List.set_cons_zero]
          refine wpP_a (by rfl) (by rfl) fun K hK => ?_
          refine wp_slice1 32 9 _ rfl (strL (T.verb kd)) 1 16 Tryz.underlying32 (by kernel_rfl) (by decide) rfl rfl W4.heap.size rfl ?_
          refine hK _ _ (fun _ => hX4.alloc hX4.size _) ?_; clear hK K; try simp only [Act.put, List.setIfInBounds_toArray, List.set_cons_succ, List.set_cons_zero]
          refine wpP_a (by rfl) (by rfl) fun K hK => ?_
          go_simp
          refine hK _ _ (fun h => absurd h (by omega)) ?_; clear hK K; try simp only [Act.put, List.setIfInBounds_toArray, List.set_cons_succ, List.set_cons_zero]
          refine wpP_nil ?_
          have hB4 := bthen (bthen hB hb3) hX4
          have hown4 := (hown.below hb3).below hX4
          have hz34 : W3.heap.size < W4.heap.size := hz4
          obtain ⟨W5, hW5⟩ : ∃ W5, W5 = W4.alloc (.cells (strL (T.verb kd)) 9) := ⟨_, rfl⟩
          have hw5 : Own strL 1 W4.heap.size 9 W5 (.slice (some ⟨W4.heap.size, 0, none⟩) 1 1) [T.verb kd] := by rw [hW5]; exact Own.new1 W4 _ (Nat.le_refl _) _
          have hb45 : Below W4.heap.size W4 W5 := by rw [hW5]; exact (Below.refl _ W4).alloc (Nat.le_refl _) _
          have hz5 : W5.heap.size = W4.heap.size + 1 := by rw [hW5]; simp
          rw [← hW5]
          have x0 := (hX4.cell (p := ⟨wr.heap.size, 0, none⟩) hz3).trans c0
          have x1 := (hX4.cell (p := ⟨wr.heap.size, 1, none⟩) hz3).trans c1
          have x2 := (hX4.cell (p := ⟨wr.heap.size, 2, none⟩) hz3).trans c2
          have hlt4 : wr.heap.size < W4.heap.size := by omega
          have y0 := (hb45.cell (p := ⟨wr.heap.size, 0, none⟩) hlt4).trans x0
          have y1 := (hb45.cell (p := ⟨wr.heap.size, 1, none⟩) hlt4).trans x1
          have y2 := (hb45.cell (p := ⟨wr.heap.size, 2, none⟩) hlt4).trans x2
          clear hW5 hvc hvc2 c0 c1 c2 x0 x1 x2 hown HVS hX4 hb4
          go_upto_region 8 with (fail)
          have HZ5 := Lib.hid hz5
          have hA := box_facts2 W5 x.a x.b
          have HA := Lib.hid hA
          have hlt5 : wr.heap.size < W5.heap.size := by omega
          have hn45 : W4.heap.size < W5.heap.size := by omega
          clear hA hz5
          have htab5 : Tab W5 := ((ht.below hB4).below hb45)
          have hpc : T.pcount kd = 0 ∨ T.pcount kd = 1 ∨ T.pcount kd = 2 := by unfold T.pcount; split <;> (try split) <;> omega
          rcases hpc with hpc | hpc | hpc
          · rw [hpc] at HCT
            rw [hpc] at HTX
            clear hpc
            refine wp_mono (Q := fun e a' w' => e = .normal ∧ a' = ⟨#[Value.slice (some ⟨bb, off, none⟩) xs.length cap, undef, u2, u3, undef, Value.pointer (some ⟨wr.heap.size, 0, none⟩), Value.slice (some ⟨W4.heap.size, 0, none⟩) 1 1, undef, u8, Value.slice (some ⟨bb, off, none⟩) xs.length cap, Value.int .i64 xs.length, Value.int .i64 k, Value.bool true, Value.pointer (some ⟨bb, off + k * 3, none⟩), Value.agg (GoOp.arr x), Value.pointer (some ⟨wr.heap.size, 0, none⟩), Value.int .i64 kd, Value.bool false, Value.bool false, Value.pointer (some ⟨wr.heap.size, 0, none⟩), Value.int .i64 kd, Value.bool false, Value.bool false, Value.slice (some ⟨W3.heap.size, 0, none⟩) 8 8, Value.pointer (some ⟨wr.heap.size, 0, none⟩), Value.int .i64 kd, Value.pointer (some ⟨W3.heap.size, kd.toNat, none⟩), strV (T.verb kd), Value.slice (some ⟨W4.heap.size, 0, none⟩) 1 1, Value.pointer (some ⟨wr.heap.size, 1, none⟩), Value.int .i64 x.a, Value.pointer (some ⟨wr.heap.size, 2, none⟩), Value.int .i64 x.b, Value.slice (some ⟨W5.heap.size, 0, none⟩) 2 2, Value.pointer (some ⟨wr.heap.size, 0, none⟩), Value.int .i64 kd, Value.int .i64 0, Value.slice (some ⟨W5.heap.size, 0, none⟩) 0 2, Value.int .i64 0, Value.int .i64 0, u40, u41, u42, u43, u44, u45, u46, u47, u48, u49, u50, u51, u52, u53, u54, undef, undef], []⟩ ∧ Below W5.heap.size W5 w' ∧ (w'.cell? ⟨W5.heap.size, 0, none⟩ = some (.int .i64 x.a) ∧ w'.cell? ⟨W5.heap.size, 1, none⟩ = some (.int .i64 x.b)) ∧ W5.heap.size < w'.heap.size) ?_ ?_
            · go_region_held3 (fun w' => w'.cell? ⟨wr.heap.size, 0, none⟩ = some (.int .i64 kd) ∧ w'.cell? ⟨wr.heap.size, 1, none⟩ = some (.int .i64 x.a) ∧ w'.cell? ⟨wr.heap.size, 2, none⟩ = some (.int .i64 x.b)) (go_keep) ((go_at_call 68; (with_reducible refine (HCT _).mono ?_); rintro r w' ⟨rfl, rfl⟩))
              all_goals exact ⟨rfl, rfl, ((Below.refl _ W5).alloc (Nat.le_refl _) _).drew, HA.out, by show _ < (W5.alloc _).heap.size; rw [World.size_alloc]; omega⟩
            · rintro _ _ w6 ⟨rfl, rfl, hb6, ⟨k0, k1⟩, hz6⟩
              have hc6 := bthen hb45 hb6
              have ho6 := hw5.below hb6
              clear hb6 HCT y0 y1 y2 hw5
              have ha21 := T.itoa21 hxo.2.1
              have hb21 := T.itoa21 hxo.2.2
              obtain ⟨ta, hta⟩ : ∃ ta, ta = Lib.itoa x.a := ⟨_, rfl⟩
              obtain ⟨tb, htb⟩ : ∃ tb, tb = Lib.itoa x.b := ⟨_, rfl⟩
              have HIA := Lib.hid (fun (X : World) (hX : Tab X) => itoa_c x.a hxo.2.1.1 hxo.2.1.2 X hX)
              have HIB := Lib.hid (fun (X : World) (hX : Tab X) => itoa_c x.b hxo.2.2.1 hxo.2.2.2 X hX)
              rw [← hta] at HTX HIA ha21
              rw [← htb] at HTX HIB hb21
              clear hta htb
              have HTY := Lib.hid (show Lib.join [T.verb kd] [32] = T.opText x by rw [HTX.out]; simp [Lib.join, List.intercalate])
              have htl := T.opText_len x hxo (by simp only [T.known, decide_eq_true_eq]; rw [HKD.out]; omega)
              go_wp2
              refine wp_loop_rounds 1 ?_
              rw [rounds_succ]
              have hjn := join_c _ [T.verb kd] [32] w6 (ho6.sl strL_sz) (by rw [HTY.out]; omega) (by simp)
              rw [HTY.out] at hjn
              have pp := fun X : World => (rowAt_new X (strL (T.opText x)) 9 (0, 0) X.heap.size rfl : rowAt (X.alloc (.cells (strL (T.opText x)) 9 (0, 0))) X.heap.size 0 1 = some (strL (T.opText x)))
              go_wp2_with (first | (go_at_call 69; (with_reducible refine hjn.mono ?_); rintro r w20 ⟨rfl, hb20⟩; have hc20 := bthen hc6 hb20; have op20 := hown4.below hc20; have pq := pp w20; have hB20 := bthen hB4 hc20; have hB20z := hB20.size) | (at_builtin; refine wpList_append1 strL 1 rfl _ _ _ rfl w.heap.size 9 16 Tryz.underlying32 (by kernel_rfl) (by decide) _ ps (T.opText x) rfl (op20.alloc _) (w20.heap.size) rfl pq (strL_one (T.opText x)) (by have := HFL.out; omega) (by have := HFL.out; omega) (by simp <;> omega) ?_; intro v' w' hown' hgr' hbel'))
              go_roundw
              case rel => exact ⟨k + 1, by omega, by go_num, by rw [HTK.out]; exact hown', hkn2, (hB20.alloc hB20.size _).trans hbel'⟩
              case measure => simp [intOf] <;> omega
          · rw [hpc] at HCT
            rw [hpc] at HTX
            clear hpc
            refine wp_mono (Q := fun e a' w' => e = .normal ∧ a' = ⟨#[Value.slice (some ⟨bb, off, none⟩) xs.length cap, undef, u2, u3, undef, Value.pointer (some ⟨wr.heap.size, 0, none⟩), Value.slice (some ⟨W4.heap.size, 0, none⟩) 1 1, undef, u8, Value.slice (some ⟨bb, off, none⟩) xs.length cap, Value.int .i64 xs.length, Value.int .i64 k, Value.bool true, Value.pointer (some ⟨bb, off + k * 3, none⟩), Value.agg (GoOp.arr x), Value.pointer (some ⟨wr.heap.size, 0, none⟩), Value.int .i64 kd, Value.bool false, Value.bool false, Value.pointer (some ⟨wr.heap.size, 0, none⟩), Value.int .i64 kd, Value.bool false, Value.bool false, Value.slice (some ⟨W3.heap.size, 0, none⟩) 8 8, Value.pointer (some ⟨wr.heap.size, 0, none⟩), Value.int .i64 kd, Value.pointer (some ⟨W3.heap.size, kd.toNat, none⟩), strV (T.verb kd), Value.slice (some ⟨W4.heap.size, 0, none⟩) 1 1, Value.pointer (some ⟨wr.heap.size, 1, none⟩), Value.int .i64 x.a, Value.pointer (some ⟨wr.heap.size, 2, none⟩), Value.int .i64 x.b, Value.slice (some ⟨W5.heap.size, 0, none⟩) 2 2, Value.pointer (some ⟨wr.heap.size, 0, none⟩), Value.int .i64 kd, Value.int .i64 1, Value.slice (some ⟨W5.heap.size, 0, none⟩) 1 2, Value.int .i64 1, Value.int .i64 0, u40, u41, u42, u43, u44, u45, u46, u47, u48, u49, u50, u51, u52, u53, u54, undef, undef], []⟩ ∧ Below W5.heap.size W5 w' ∧ (w'.cell? ⟨W5.heap.size, 0, none⟩ = some (.int .i64 x.a) ∧ w'.cell? ⟨W5.heap.size, 1, none⟩ = some (.int .i64 x.b)) ∧ W5.heap.size < w'.heap.size) ?_ ?_
            · go_region_held3 (fun w' => w'.cell? ⟨wr.heap.size, 0, none⟩ = some (.int .i64 kd) ∧ w'.cell? ⟨wr.heap.size, 1, none⟩ = some (.int .i64 x.a) ∧ w'.cell? ⟨wr.heap.size, 2, none⟩ = some (.int .i64 x.b)) (go_keep) ((go_at_call 68; (with_reducible refine (HCT _).mono ?_); rintro r w' ⟨rfl, rfl⟩))
              all_goals exact ⟨rfl, rfl, ((Below.refl _ W5).alloc (Nat.le_refl _) _).drew, HA.out, by show _ < (W5.alloc _).heap.size; rw [World.size_alloc]; omega⟩
            · rintro _ _ w6 ⟨rfl, rfl, hb6, ⟨k0, k1⟩, hz6⟩
              have hc6 := bthen hb45 hb6
              have ho6 := hw5.below hb6
              clear hb6 HCT y0 y1 y2 hw5
              have ha21 := T.itoa21 hxo.2.1
              have hb21 := T.itoa21 hxo.2.2
              obtain ⟨ta, hta⟩ : ∃ ta, ta = Lib.itoa x.a := ⟨_, rfl⟩
              obtain ⟨tb, htb⟩ : ∃ tb, tb = Lib.itoa x.b := ⟨_, rfl⟩
              have HIA := Lib.hid (fun (X : World) (hX : Tab X) => itoa_c x.a hxo.2.1.1 hxo.2.1.2 X hX)
              have HIB := Lib.hid (fun (X : World) (hX : Tab X) => itoa_c x.b hxo.2.2.1 hxo.2.2.2 X hX)
              rw [← hta] at HTX HIA ha21
              rw [← htb] at HTX HIB hb21
              clear hta htb
              have HTY := Lib.hid (show Lib.join [T.verb kd, ta] [32] = T.opText x by rw [HTX.out]; simp [Lib.join, List.intercalate])
              have htl := T.opText_len x hxo (by simp only [T.known, decide_eq_true_eq]; rw [HKD.out]; omega)
              go_wp2
              refine wp_loop_rounds 2 ?_
              rw [rounds_succ]
              have hi0 := HIA.out w6 ((ht.below hB4).below hc6)
              have pr0 := fun X : World => (rowAt_new X (strL ta) 9 (0, 0) X.heap.size rfl : rowAt (X.alloc (.cells (strL ta) 9 (0, 0))) X.heap.size 0 1 = some (strL ta))
              go_upto_region 12 with (first | (go_at_call 62; (with_reducible refine hi0.mono ?_); rintro r w7 ⟨rfl, hb7⟩; have hc7 := bthen hc6 hb7; have ow7 := ho6.below hb7; have ps0 := pr0 w7; have hz7 := hc7.size) | (at_builtin; refine wpList_append1 strL 1 rfl _ _ _ rfl W4.heap.size 9 16 Tryz.underlying32 (by kernel_rfl) (by decide) _ ([T.verb kd]) ta rfl (ow7.alloc _) (w7.heap.size) rfl ps0 (strL_one ta) (by simp <;> omega) (by simp <;> omega) (by simp <;> omega) ?_; intro v8 w8 hown8 hgr8 hbel8))
              have hc8 : Below W4.heap.size W4 w8 := (hc7.alloc hc7.size _).trans hbel8
              clear pr0 hi0
              go_wp2
              rw [rounds_succ]
              have hjn := join_c _ [T.verb kd, ta] [32] w8 (hown8.sl strL_sz) (by rw [HTY.out]; omega) (by simp)
              rw [HTY.out] at hjn
              have pp := fun X : World => (rowAt_new X (strL (T.opText x)) 9 (0, 0) X.heap.size rfl : rowAt (X.alloc (.cells (strL (T.opText x)) 9 (0, 0))) X.heap.size 0 1 = some (strL (T.opText x)))
              obtain ⟨vA, vn, vc, rfl⟩ := hown8.shape
              obtain rfl : vn = 2 := own_cntP hown8
              go_wp2_with (first | (go_at_call 69; (with_reducible refine hjn.mono ?_); rintro r w20 ⟨rfl, hb20⟩; have hc20 := bthen hc8 hb20; have op20 := hown4.below hc20; have pq := pp w20; have hB20 := bthen hB4 hc20; have hB20z := hB20.size) | (at_builtin; refine wpList_append1 strL 1 rfl _ _ _ rfl w.heap.size 9 16 Tryz.underlying32 (by kernel_rfl) (by decide) _ ps (T.opText x) rfl (op20.alloc _) (w20.heap.size) rfl pq (strL_one (T.opText x)) (by have := HFL.out; omega) (by have := HFL.out; omega) (by simp <;> omega) ?_; intro v' w' hown' hgr' hbel'))
              go_roundw
              case rel => exact ⟨k + 1, by omega, by go_num, by rw [HTK.out]; exact hown', hkn2, (hB20.alloc hB20.size _).trans hbel'⟩
              case measure => simp [intOf] <;> omega
          · rw [hpc] at HCT
            rw [hpc] at HTX
            clear hpc
            refine wp_mono (Q := fun e a' w' => e = .normal ∧ a' = ⟨#[Value.slice (some ⟨bb, off, none⟩) xs.length cap, undef, u2, u3, undef, Value.pointer (some ⟨wr.heap.size, 0, none⟩), Value.slice (some ⟨W4.heap.size, 0, none⟩) 1 1, undef, u8, Value.slice (some ⟨bb, off, none⟩) xs.length cap, Value.int .i64 xs.length, Value.int .i64 k, Value.bool true, Value.pointer (some ⟨bb, off + k * 3, none⟩), Value.agg (GoOp.arr x), Value.pointer (some ⟨wr.heap.size, 0, none⟩), Value.int .i64 kd, Value.bool false, Value.bool false, Value.pointer (some ⟨wr.heap.size, 0, none⟩), Value.int .i64 kd, Value.bool false, Value.bool false, Value.slice (some ⟨W3.heap.size, 0, none⟩) 8 8, Value.pointer (some ⟨wr.heap.size, 0, none⟩), Value.int .i64 kd, Value.pointer (some ⟨W3.heap.size, kd.toNat, none⟩), strV (T.verb kd), Value.slice (some ⟨W4.heap.size, 0, none⟩) 1 1, Value.pointer (some ⟨wr.heap.size, 1, none⟩), Value.int .i64 x.a, Value.pointer (some ⟨wr.heap.size, 2, none⟩), Value.int .i64 x.b, Value.slice (some ⟨W5.heap.size, 0, none⟩) 2 2, Value.pointer (some ⟨wr.heap.size, 0, none⟩), Value.int .i64 kd, Value.int .i64 2, Value.slice (some ⟨W5.heap.size, 0, none⟩) 2 2, Value.int .i64 2, Value.int .i64 0, u40, u41, u42, u43, u44, u45, u46, u47, u48, u49, u50, u51, u52, u53, u54, undef, undef], []⟩ ∧ Below W5.heap.size W5 w' ∧ (w'.cell? ⟨W5.heap.size, 0, none⟩ = some (.int .i64 x.a) ∧ w'.cell? ⟨W5.heap.size, 1, none⟩ = some (.int .i64 x.b)) ∧ W5.heap.size < w'.heap.size) ?_ ?_
            · go_region_held3 (fun w' => w'.cell? ⟨wr.heap.size, 0, none⟩ = some (.int .i64 kd) ∧ w'.cell? ⟨wr.heap.size, 1, none⟩ = some (.int .i64 x.a) ∧ w'.cell? ⟨wr.heap.size, 2, none⟩ = some (.int .i64 x.b)) (go_keep) ((go_at_call 68; (with_reducible refine (HCT _).mono ?_); rintro r w' ⟨rfl, rfl⟩))
              all_goals exact ⟨rfl, rfl, ((Below.refl _ W5).alloc (Nat.le_refl _) _).drew, HA.out, by show _ < (W5.alloc _).heap.size; rw [World.size_alloc]; omega⟩
            · rintro _ _ w6 ⟨rfl, rfl, hb6, ⟨k0, k1⟩, hz6⟩
              have hc6 := bthen hb45 hb6
              have ho6 := hw5.below hb6
              clear hb6 HCT y0 y1 y2 hw5
              have ha21 := T.itoa21 hxo.2.1
              have hb21 := T.itoa21 hxo.2.2
              obtain ⟨ta, hta⟩ : ∃ ta, ta = Lib.itoa x.a := ⟨_, rfl⟩
              obtain ⟨tb, htb⟩ : ∃ tb, tb = Lib.itoa x.b := ⟨_, rfl⟩
              have HIA := Lib.hid (fun (X : World) (hX : Tab X) => itoa_c x.a hxo.2.1.1 hxo.2.1.2 X hX)
              have HIB := Lib.hid (fun (X : World) (hX : Tab X) => itoa_c x.b hxo.2.2.1 hxo.2.2.2 X hX)
              rw [← hta] at HTX HIA ha21
              rw [← htb] at HTX HIB hb21
              clear hta htb
              have HTY := Lib.hid (show Lib.join [T.verb kd, ta, tb] [32] = T.opText x by rw [HTX.out]; simp [Lib.join, List.intercalate])
              have htl := T.opText_len x hxo (by simp only [T.known, decide_eq_true_eq]; rw [HKD.out]; omega)
              go_wp2
              refine wp_loop_rounds 3 ?_
              rw [rounds_succ]
              have hi0 := HIA.out w6 ((ht.below hB4).below hc6)
              have pr0 := fun X : World => (rowAt_new X (strL ta) 9 (0, 0) X.heap.size rfl : rowAt (X.alloc (.cells (strL ta) 9 (0, 0))) X.heap.size 0 1 = some (strL ta))
              go_upto_region 12 with (first | (go_at_call 62; (with_reducible refine hi0.mono ?_); rintro r w7 ⟨rfl, hb7⟩; have hc7 := bthen hc6 hb7; have ow7 := ho6.below hb7; have ps0 := pr0 w7; have hz7 := hc7.size) | (at_builtin; refine wpList_append1 strL 1 rfl _ _ _ rfl W4.heap.size 9 16 Tryz.underlying32 (by kernel_rfl) (by decide) _ ([T.verb kd]) ta rfl (ow7.alloc _) (w7.heap.size) rfl ps0 (strL_one ta) (by simp <;> omega) (by simp <;> omega) (by simp <;> omega) ?_; intro v8 w8 hown8 hgr8 hbel8))
              have hc8 : Below W4.heap.size W4 w8 := (hc7.alloc hc7.size _).trans hbel8
              have k1a := (hb7.cell (p := ⟨W5.heap.size, 1, none⟩) hz6).trans k1
              have hz7a : W5.heap.size < w7.heap.size := Nat.lt_of_lt_of_le hz6 hb7.size
              have k1b : w8.cell? ⟨W5.heap.size, 1, none⟩ = some (.int .i64 x.b) := by
                have e := hgr8.block W5.heap.size (by show W5.heap.size < (w7.alloc _).heap.size; rw [World.size_alloc]; omega) (by intro q; first | exact absurd (Option.some.inj q) (by show ¬ (W4.heap.size = W5.heap.size); omega) | exact absurd (Option.some.inj q) (by show ¬ (W5.heap.size = W4.heap.size); omega))
                have e2 := e.trans (Below.heap_alloc w7 (.cells (strL ta) 9) W5.heap.size hz7a)
                have e3 : rowAt w8 W5.heap.size 1 1 = rowAt w7 W5.heap.size 1 1 := rowAt_block e2
                rw [cell_block e2]; exact k1a
              clear pr0 hi0
              go_wp2
              rw [rounds_succ]
              have hi1 := HIB.out w8 ((ht.below hB4).below hc8)
              have pr1 := fun X : World => (rowAt_new X (strL tb) 9 (0, 0) X.heap.size rfl : rowAt (X.alloc (.cells (strL tb) 9 (0, 0))) X.heap.size 0 1 = some (strL tb))
              go_upto_region 12 with (first | (go_at_call 62; (with_reducible refine hi1.mono ?_); rintro r w9 ⟨rfl, hb9⟩; have hc9 := bthen hc8 hb9; have ow9 := hown8.below hb9; have ps1 := pr1 w9; have hz9 := hc9.size) | (at_builtin; refine wpList_append1 strL 1 rfl _ _ _ rfl W4.heap.size 9 16 Tryz.underlying32 (by kernel_rfl) (by decide) _ ([T.verb kd, ta]) tb rfl (ow9.alloc _) (w9.heap.size) rfl ps1 (strL_one tb) (by simp <;> omega) (by simp <;> omega) (by simp <;> omega) ?_; intro v10 w10 hown10 hgr10 hbel10))
              have hc10 : Below W4.heap.size W4 w10 := (hc9.alloc hc9.size _).trans hbel10
              clear pr1 hi1
              go_wp2
              rw [rounds_succ]
              have hjn := join_c _ [T.verb kd, ta, tb] [32] w10 (hown10.sl strL_sz) (by rw [HTY.out]; omega) (by simp)
              rw [HTY.out] at hjn
              have pp := fun X : World => (rowAt_new X (strL (T.opText x)) 9 (0, 0) X.heap.size rfl : rowAt (X.alloc (.cells (strL (T.opText x)) 9 (0, 0))) X.heap.size 0 1 = some (strL (T.opText x)))
              obtain ⟨vA, vn, vc, rfl⟩ := hown10.shape
              obtain rfl : vn = 3 := own_cntP hown10
              go_wp2_with (first | (go_at_call 69; (with_reducible refine hjn.mono ?_); rintro r w20 ⟨rfl, hb20⟩; have hc20 := bthen hc10 hb20; have op20 := hown4.below hc20; have pq := pp w20; have hB20 := bthen hB4 hc20; have hB20z := hB20.size) | (at_builtin; refine wpList_append1 strL 1 rfl _ _ _ rfl w.heap.size 9 16 Tryz.underlying32 (by kernel_rfl) (by decide) _ ps (T.opText x) rfl (op20.alloc _) (w20.heap.size) rfl pq (strL_one (T.opText x)) (by have := HFL.out; omega) (by have := HFL.out; omega) (by simp <;> omega) ?_; intro v' w' hown' hgr' hbel'))
              go_roundw
              case rel => exact ⟨k + 1, by omega, by go_num, by rw [HTK.out]; exact hown', hkn2, (hB20.alloc hB20.size _).trans hbel'⟩
              case measure => simp [intOf] <;> omega
    · have hkI : ¬ (k : Int) < (xs.length : Int) := by omega
      have hke : xs.take k = xs := List.take_of_length_le (by omega)
      have hall := hkn.out
      rw [hke] at hall hown
      have HR := Lib.hid (show T.progText xs = T.joinS (xs.map T.opText) by rw [T.progText, if_pos hall])
      have hjl := T.joinS_len xs HOK.out hall
      obtain ⟨A2, m2, cap2, rfl⟩ := hown.shape
      have hjn := join_c _ _ [59, 32] wr (hown.sl strL_sz) (by rw [T.join_S]; omega) (by rw [List.length_map]; omega)
      rw [T.join_S, ← HR.out] at hjn
      clear hke hall hkn hown hjl
      go_wp2_with (go_at_call 69; (with_reducible refine hjn.mono ?_); rintro r w7 ⟨rfl, hb7⟩)
      go_ret
      exact ⟨rfl, bthen hB hb7⟩
end Go.Proofs.YtmpjjmilodjecaaGreatDoor
