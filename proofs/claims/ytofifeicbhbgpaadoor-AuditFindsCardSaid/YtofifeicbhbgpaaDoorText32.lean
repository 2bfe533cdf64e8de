/- The text of findings: the program's, with a Builder, and the reference's, with sums. -/
import Derived.Test.YtofifeicbhbgpaaDoorBuild
import Derived.Test.YtofifeicbhbgpaaDoorName
import Derived.Test.YtofifeicbhbgpaaDoorHeadP
import Derived.Test.YtofifeicbhbgpaaDoorCheck
namespace Go.Proofs.YtofifeicbhbgpaaDoor
open Go.RowKit Go.Shelf
set_option linter.unusedVariables false
set_option linter.unusedSimpArgs false
attribute [local go_sem] Find.sz
def T.line32 (f : Find) : List UInt8 := Lib.decDigits f.at_.toNat ++ [32] ++ T.name f.kind ++ [10]
def T.text32 (xs : List Find) : List UInt8 := xs.flatMap T.line32
theorem T.text32_succ (xs : List Find) (k : Nat) (f : Find) (h : xs[k]? = some f) : T.text32 (xs.take (k + 1)) = T.text32 (xs.take k) ++ T.line32 f := by
  rw [List.take_add_one, h]
  simp [T.text32]
theorem T.line32_len (f : Find) (h0 : 0 ≤ f.at_) (h1 : f.at_ < 100) : (T.line32 f).length ≤ 40 := by
  have := decDigits_len f.at_.toNat (by omega)
  have := T.name_len f.kind
  simp [T.line32]; omega
theorem T.text32_len (xs : List Find) (h : ∀ f ∈ xs, 0 ≤ f.at_ ∧ f.at_ < 100) : (T.text32 xs).length ≤ 40 * xs.length := by
  induction xs with
  | nil => simp [T.text32]
  | cons f xs ih =>
    have h1 := T.line32_len f (h f List.mem_cons_self).1 (h f List.mem_cons_self).2
    have h2 := ih fun g hg => h g (List.mem_cons_of_mem _ hg)
    simp only [T.text32, List.flatMap_cons, List.length_append, List.length_cons] at h2 ⊢
    omega
set_option maxRecDepth 100000 in
set_option maxHeartbeats 4000000 in
theorem text_c (v : Value) (xs : List Find) (w : World) (h : Sl Find.arr 2 w.heap.size w v xs) (hok : ∀ f ∈ xs, 0 ≤ f.at_ ∧ f.at_ < 100) (hn : xs.length ≤ 100000) :
    Calls Tryd.prog 9 #[v] w fun r w' => r = .returned (strV (T.text32 xs)) ∧ Below w.heap.size w w' := by
  obtain ⟨A, cap, rfl, hcap, hl1, hl2⟩ := h.view
  have hI0 : Bld w.heap.size w.heap.size [] (w.alloc (.cells #[.pointer none, .slice none 0 0] 66)) := Lib.IsBuilderF.of (Lib.fresh_isBuilder 66 5 w)
  have hB0 : Below w.heap.size w (w.alloc (.cells #[.pointer none, .slice none 0 0] 66)) := (Below.refl _ w).alloc (Nat.le_refl _) _
  have HOK := Lib.hid hok
  clear hok
  go_enter Tryd.func9, Tryd.ntmps9
  go_wp2
  go_loopw [8] (fun i wr => ∃ k : Nat, k ≤ xs.length ∧ i = .int .i64 (k : Int) ∧ Bld w.heap.size w.heap.size (T.text32 (xs.take k)) wr ∧ Below w.heap.size w wr) (fun i _ => xs.length - (intOf i).toNat)
  case atStart => exact ⟨0, Nat.zero_le _, rfl, hI0, hB0⟩
  case round =>
    obtain ⟨k, hk, rfl, hI, hB⟩ := hrel
    by_cases hkl : k < xs.length
    · obtain ⟨b, off, rfl, hb, hrow, _⟩ := (h.below hB).at hkl
      obtain ⟨f, hf⟩ : ∃ f, f = xs[k] := ⟨_, rfl⟩
      rw [← hf] at hrow
      have hfo : xs[k]? = some f := by rw [hf]; exact List.getElem?_eq_getElem hkl
      obtain ⟨hf0, hf1⟩ := HOK.out f (List.mem_of_getElem? hfo)
      have HN := Lib.hid (T.text32_succ xs k f hfo)
      have hlen := T.text32_len (xs.take k) fun g hg => HOK.out g (List.mem_of_mem_take hg)
      have hlen2 := T.line32_len f hf0 hf1
      rw [List.length_take] at hlen
      obtain ⟨L, hL⟩ : ∃ L, L = T.text32 (xs.take k) := ⟨_, rfl⟩
      rw [← hL] at hI HN hlen
      clear hL hf hfo
      go_wp2_with (first | (refine wpList_load_at rfl 57 _ rfl _ (off + k * 2) 2 rfl _ _ hrow rfl rfl rfl ?_) | (refine wpList_store_new rfl _ _ _ rfl wr.heap.size (Find.arr f) _ _ rfl rfl rfl rfl rfl (Find.one _) ?_))
      have hsz := hB.size
      have r1 : rowAt (wr.alloc (Obj.cells (Find.arr f) 57)) wr.heap.size 0 2 = some (Find.arr f) := rowAt_new _ _ _ _ _ rfl
      have hI1 : Bld w.heap.size w.heap.size L (wr.alloc (Obj.cells (Find.arr f) 57)) := hI.alloc _
      have hB1 := hB.alloc hB.size (Obj.cells (Find.arr f) 57)
      obtain ⟨g, hg⟩ : ∃ g, g = wr.heap.size := ⟨_, rfl⟩
      rw [← hg] at r1 ⊢
      obtain ⟨W1, hW1⟩ : ∃ W1, W1 = wr.alloc (Obj.cells (Find.arr f) 57) := ⟨_, rfl⟩
      have hg1 : g < W1.heap.size := by rw [hW1]; simp; omega
      rw [← hW1] at r1 hI1 hB1 ⊢
      clear hW1
      have c0 : W1.cell? ⟨g, 0, none⟩ = some (.int .i64 f.kind) := rowAt_cell r1 0 (by omega)
      have c1 : W1.cell? ⟨g, 1, none⟩ = some (.int .i64 f.at_) := rowAt_cell r1 1 (by omega)
      obtain ⟨n, hn2⟩ : ∃ n : Nat, f.at_ = (n : Int) := ⟨f.at_.toNat, by omega⟩
      rw [hn2] at c1
      have hn100 : n < 100 := by omega
      have hd1 := decDigits_len n (by omega)
      have hd2 := T.name_len f.kind
      refine wp_region_P 9 [2, 6, 9] [0, 1, 4, 5, 2, 3, 6, 7, 8, 9] (fun X => Below W1.heap.size W1 X) (by kernel_rfl) (by kernel_rfl) (by kernel_rfl) (by decide) (by simp only [ordOps, List.map_cons, List.map_nil, List.getElem?_cons_succ, List.getElem?_cons_zero, Option.getD_some]; repeat (first | exact trivial | refine ⟨.inl rfl, ?_⟩ | refine ⟨.inr fun _ _ _ _ h => h, ?_⟩)) ?_ ?_
      rotate_left; simp only [ordOps, List.map_cons, List.map_nil, List.getElem?_cons_succ, List.getElem?_cons_zero, Option.getD_some]; rotate_left
      · exact (Below.refl _ W1).drew
      clear hg hrow hI hf0 hf1
      repeat ((first | (refine wpP_q (by rfl) (by rfl) ?_ ?_ ?_; rotate_left; focus (rintro W hX; have s0 := (hX.cell (p := ⟨g, 0, none⟩) hg1).trans c0; have s1 := (hX.cell (p := ⟨g, 1, none⟩) hg1).trans c1; go_simp; try (with_reducible rfl); done)) | refine wpP_skip (by rfl) (by rfl) ?_); try simp only [Act.put, List.setIfInBounds_toArray, List.set_cons_succ, List.set_cons_zero])
      refine wpP_a (by rfl) (by rfl) fun K hK => ?_
      go_simp
      refine (Tryd.strconv_Itoa_small n hn100 _).mono ?_
      rintro r w2 ⟨rfl, rfl⟩
      have hX2 : Below W1.heap.size W1 W1.drew := (Below.refl _ W1).drew
      refine hK _ _ (fun _ => hX2) ?_; clear hK K; try simp only [Act.put, List.setIfInBounds_toArray, List.set_cons_succ, List.set_cons_zero]
      refine wpP_q (by rfl) (by rfl) (strV (Lib.decDigits n ++ [32])) ?_ ?_
      · rintro W hX; go_simp; rw [if_neg (by simp; omega)]; (first | rfl | simp only [ByteArray.mk_append_mk, List.append_assoc, List.cons_append, List.nil_append, List.singleton_append])
      try simp only [Act.put, List.setIfInBounds_toArray, List.set_cons_succ, List.set_cons_zero]
      refine wpP_a (by rfl) (by rfl) fun K hK => ?_
      go_simp
      refine (name_c _ _).mono ?_
      rintro r w3 ⟨rfl, hb3⟩
      have hX3 : Below W1.heap.size W1 w3 := bthen hX2 hb3
      refine hK _ _ (fun _ => hX3) ?_; clear hK K; try simp only [Act.put, List.setIfInBounds_toArray, List.set_cons_succ, List.set_cons_zero]
      refine wpP_q (by rfl) (by rfl) (strV (Lib.decDigits n ++ [32] ++ T.name f.kind)) ?_ ?_
      · rintro W hX; go_simp; rw [if_neg (by simp; omega)]; (first | rfl | simp only [ByteArray.mk_append_mk, List.append_assoc, List.cons_append, List.nil_append, List.singleton_append])
      try simp only [Act.put, List.setIfInBounds_toArray, List.set_cons_succ, List.set_cons_zero]
      refine wpP_q (by rfl) (by rfl) (strV (Lib.decDigits n ++ [32] ++ T.name f.kind ++ [10])) ?_ ?_
      · rintro W hX; go_simp; rw [if_neg (by simp; omega)]; (first | rfl | simp only [ByteArray.mk_append_mk, List.append_assoc, List.cons_append, List.nil_append, List.singleton_append])
      try simp only [Act.put, List.setIfInBounds_toArray, List.set_cons_succ, List.set_cons_zero]
      have hI3 := hI1.below hX3
      have hB3 := hB1.trans (hX3.mono hB1.size)
      have hline : Lib.decDigits n ++ [32] ++ T.name f.kind ++ [10] = T.line32 f := by rw [T.line32, hn2]; rfl
      rw [hline]
      have HN2 := Lib.hid hn2
      clear hn2 hline
      refine wpP_a (by rfl) (by rfl) fun K hK => ?_
      go_simp
      refine (writeString_c w.heap.size w.heap.size L (T.line32 f) w3 hI3 (by omega) hB3.size).mono ?_
      rintro r w5 ⟨rfl, hI5, hb5⟩
      refine hK _ _ (fun h => absurd h (by omega)) ?_; clear hK K; try simp only [Act.put, List.setIfInBounds_toArray, List.set_cons_succ, List.set_cons_zero]
      refine wpP_nil ?_
      go_wp2
      go_roundw
      case rel => exact ⟨k + 1, by omega, by go_num, by rw [HN.out]; exact hI5, hB3.trans hb5⟩
      case measure => simp [intOf]; omega
    · rw [List.take_of_length_le (by omega)] at hI
      go_wp2_with (go_at_call 28; refine (Tryd.Builder_String_any_k w.heap.size w.heap.size _ _ hI hB.size).mono ?_; rintro r w4 ⟨rfl, _, hb4, _⟩)
      go_ret
      exact ⟨rfl, hB.trans hb4⟩
end Go.Proofs.YtofifeicbhbgpaaDoor
