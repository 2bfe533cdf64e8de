/- The reference's text of findings. -/
import Derived.Test.YtofifeicbhbgpaaDoorText32
namespace Go.Proofs.YtofifeicbhbgpaaDoor
open Go.RowKit Go.Shelf
set_option linter.unusedVariables false
set_option linter.unusedSimpArgs false
attribute [local go_sem] Find.sz bw_cell
set_option maxRecDepth 100000 in
set_option maxHeartbeats 4000000 in
theorem refText_c (v : Value) (xs : List Find) (w : World) (h : Sl Find.arr 2 w.heap.size w v xs) (hok : ∀ f ∈ xs, 0 ≤ f.at_ ∧ f.at_ < 100) (hn : xs.length ≤ 100000) :
    Calls Tryd.prog 10 #[v] w fun r w' => r = .returned (strV (T.text32 xs)) ∧ Below w.heap.size w w' := by
  obtain ⟨A, cap, rfl, hcap, hl1, hl2⟩ := h.view
  have HOK := Lib.hid hok
  clear hok
  go_enter Tryd.func10, Tryd.ntmps10
  go_wp2
  go_loopw [3, 4] (fun s i wr => ∃ k : Nat, k ≤ xs.length ∧ s = strV (T.text32 (xs.take k)) ∧ i = .int .i64 (k : Int) ∧ Below w.heap.size w wr) (fun _ i _ => xs.length - (intOf i).toNat)
  case atStart => exact ⟨0, Nat.zero_le _, rfl, rfl, Below.refl _ _⟩
  case round =>
    obtain ⟨k, hk, rfl, rfl, hB⟩ := hrel
    by_cases hkl : k < xs.length
    · obtain ⟨b, off, rfl, hb, hrow, _⟩ := ((h.below hB).mono hB.size).at hkl
      obtain ⟨f, hf⟩ : ∃ f, f = xs[k] := ⟨_, rfl⟩
      rw [← hf] at hrow
      have hfo : xs[k]? = some f := by rw [hf]; exact List.getElem?_eq_getElem hkl
      obtain ⟨hf0, hf1⟩ := HOK.out f (List.mem_of_getElem? hfo)
      have HN := Lib.hid (T.text32_succ xs k f hfo)
      have hlen := T.text32_len (xs.take k) fun g hg => HOK.out g (List.mem_of_mem_take hg)
      rw [List.length_take] at hlen
      obtain ⟨L, hL⟩ : ∃ L, L = T.text32 (xs.take k) := ⟨_, rfl⟩
      rw [← hL] at HN hlen
      rw [← hL]
      clear hL hf hfo
      have c0 : wr.cell? ⟨b, off + k * 2, none⟩ = some (.int .i64 f.kind) := rowAt_cell hrow 0 (by omega)
      have c1 : wr.cell? ⟨b, off + k * 2 + 1, none⟩ = some (.int .i64 f.at_) := rowAt_cell hrow 1 (by omega)
      obtain ⟨n, hn2⟩ : ∃ n : Nat, f.at_ = (n : Int) := ⟨f.at_.toNat, by omega⟩
      rw [hn2] at c1
      have hn100 : n < 100 := by omega
      have hline : Lib.decDigits n ++ [32] ++ T.name f.kind ++ [10] = T.line32 f := by rw [T.line32, hn2]; rfl
      have HL := Lib.hid hline
      have hd1 := decDigits_len n (by omega)
      have hd2 := T.name_len f.kind
      have hD := digits_nat n (by omega)
      clear hrow hf0 hf1 hn2 hline
      go_wp2
      refine wp_region_P 17 [6, 14, 17] [0, 1, 2, 3, 4, 5, 9, 10, 11, 12, 13, 6, 7, 8, 14, 15, 16, 17] (fun X => Below wr.heap.size wr X) (by kernel_rfl) (by kernel_rfl) (by kernel_rfl) (by decide) (by simp only [ordOps, List.map_cons, List.map_nil, List.getElem?_cons_succ, List.getElem?_cons_zero, Option.getD_some]; repeat (first | exact trivial | refine ⟨.inl rfl, ?_⟩ | refine ⟨.inr fun _ _ _ _ h => h, ?_⟩)) ?_ ?_
      rotate_left; simp only [ordOps, List.map_cons, List.map_nil, List.getElem?_cons_succ, List.getElem?_cons_zero, Option.getD_some]; rotate_left
      · exact (Below.refl _ wr).drew
      repeat ((first | (refine wpP_q (by rfl) (by rfl) ?_ ?_ ?_; rotate_left; focus (rintro W hX; have s0 := (hX.cell (p := ⟨b, off + k * 2, none⟩) hb).trans c0; have s1 := (hX.cell (p := ⟨b, off + k * 2 + 1, none⟩) hb).trans c1; go_simp; try (with_reducible rfl); done)) | refine wpP_skip (by rfl) (by rfl) ?_); try simp only [Act.put, List.setIfInBounds_toArray, List.set_cons_succ, List.set_cons_zero])
      refine wpP_a (by rfl) (by rfl) fun K hK => ?_
      go_simp
      refine (hD _).mono ?_
      rintro r w2 ⟨rfl, hb2⟩
      have hX2 : Below wr.heap.size wr w2 := (Below.refl _ wr).drew.trans hb2
      refine hK _ _ (fun _ => hX2) ?_; clear hK K; try simp only [Act.put, List.setIfInBounds_toArray, List.set_cons_succ, List.set_cons_zero]
      refine wpP_q (by rfl) (by rfl) (strV (L ++ Lib.decDigits n)) ?_ ?_
      · rintro W hX; go_simp; rw [if_neg (by simp; omega)]; (first | rfl | simp only [ByteArray.mk_append_mk, List.append_assoc, List.cons_append, List.nil_append, List.singleton_append])
      try simp only [Act.put, List.setIfInBounds_toArray, List.set_cons_succ, List.set_cons_zero]
      refine wpP_q (by rfl) (by rfl) (strV (L ++ Lib.decDigits n ++ [32])) ?_ ?_
      · rintro W hX; go_simp; rw [if_neg (by simp; omega)]; (first | rfl | simp only [ByteArray.mk_append_mk, List.append_assoc, List.cons_append, List.nil_append, List.singleton_append])
      try simp only [Act.put, List.setIfInBounds_toArray, List.set_cons_succ, List.set_cons_zero]
      refine wpP_a (by rfl) (by rfl) fun K hK => ?_
      go_simp
      refine (refName_c _ _).mono ?_
      rintro r w3 ⟨rfl, hb3⟩
      have hX3 : Below wr.heap.size wr w3 := bthen hX2 hb3
      refine hK _ _ (fun _ => hX3) ?_; clear hK K; try simp only [Act.put, List.setIfInBounds_toArray, List.set_cons_succ, List.set_cons_zero]
      refine wpP_q (by rfl) (by rfl) (strV (L ++ Lib.decDigits n ++ [32] ++ T.name f.kind)) ?_ ?_
      · rintro W hX; go_simp; rw [if_neg (by simp; omega)]; (first | rfl | simp only [ByteArray.mk_append_mk, List.append_assoc, List.cons_append, List.nil_append, List.singleton_append])
      try simp only [Act.put, List.setIfInBounds_toArray, List.set_cons_succ, List.set_cons_zero]
      refine wpP_q (by rfl) (by rfl) (strV (L ++ Lib.decDigits n ++ [32] ++ T.name f.kind ++ [10])) ?_ ?_
      · rintro W hX; go_simp; rw [if_neg (by simp; omega)]; (first | rfl | simp only [ByteArray.mk_append_mk, List.append_assoc, List.cons_append, List.nil_append, List.singleton_append])
      try simp only [Act.put, List.setIfInBounds_toArray, List.set_cons_succ, List.set_cons_zero]
      refine wpP_a (by rfl) (by rfl) fun K hK => ?_
      go_simp
      refine hK _ _ (fun h => absurd h (by omega)) ?_; clear hK K; try simp only [Act.put, List.setIfInBounds_toArray, List.set_cons_succ, List.set_cons_zero]
      refine wpP_nil ?_
      go_wp2
      go_roundw
      case rel => exact ⟨k + 1, by omega, by rw [HN.out, ← HL.out]; simp [List.append_assoc], by go_num, bthen hB hX3⟩
      case measure => simp [intOf]; omega
    · rw [List.take_of_length_le (by omega)]
      go_wp2
      go_ret
      exact ⟨rfl, hB⟩
set_option maxRecDepth 100000 in
set_option maxHeartbeats 4000000 in
theorem same_c (v v2 : Value) (xs : List Find) (w : World) (h : Sl Find.arr 2 w.heap.size w v xs) (h2 : Sl Find.arr 2 w.heap.size w v2 xs) :
    Calls Tryd.prog 8 #[v, v2] w fun r w' => r = .returned (.bool true) ∧ Below w.heap.size w w' := by
  obtain ⟨A, cap, rfl, hcap, hl1, hl2⟩ := h.view
  obtain ⟨A2, cap2, rfl, hcap2, hl3, hl4⟩ := h2.view
  go_enter Tryd.func8, Tryd.ntmps8
  go_wp2
  go_loopw [5] (fun i wr => ∃ k : Nat, k ≤ xs.length ∧ i = .int .i64 (k : Int) ∧ Below w.heap.size w wr) (fun i _ => xs.length - (intOf i).toNat)
  case atStart => exact ⟨0, Nat.zero_le _, rfl, Below.refl _ _⟩
  case round =>
    obtain ⟨k, hk, rfl, hB⟩ := hrel
    by_cases hkl : k < xs.length
    · obtain ⟨b, off, rfl, hb, hrow, _⟩ := ((h.below hB).mono hB.size).at hkl
      obtain ⟨b2, off2, rfl, hb2, hrow2, _⟩ := ((h2.below hB).mono hB.size).at hkl
      obtain ⟨f, hf⟩ : ∃ f, f = xs[k] := ⟨_, rfl⟩
      rw [← hf] at hrow hrow2
      have c0 : wr.cell? ⟨b, off + k * 2, none⟩ = some (.int .i64 f.kind) := rowAt_cell hrow 0 (by omega)
      have c1 : wr.cell? ⟨b, off + k * 2 + 1, none⟩ = some (.int .i64 f.at_) := rowAt_cell hrow 1 (by omega)
      have d0 : wr.cell? ⟨b2, off2 + k * 2, none⟩ = some (.int .i64 f.kind) := rowAt_cell hrow2 0 (by omega)
      have d1 : wr.cell? ⟨b2, off2 + k * 2 + 1, none⟩ = some (.int .i64 f.at_) := rowAt_cell hrow2 1 (by omega)
      clear hf hrow hrow2
      go_wp2
      refine wp_region_calm (by kernel_rfl) (by kernel_rfl) ?_
      repeat ((fail_if_success (with_reducible refine wpQuiet_nil ?_)); (first | go_big_quiet_skip | go_big_quiet_step (fail)))
      refine wpQuiet_nil ?_
      rintro _ ⟨⟨X2, hb3⟩, rfl⟩
      go_wp2
      go_roundw
      case rel => exact ⟨k + 1, by omega, by go_num, bthen hB hb3⟩
      case measure => simp [intOf]; omega
    · go_wp2
      go_ret
      exact ⟨rfl, hB⟩
end Go.Proofs.YtofifeicbhbgpaaDoor
