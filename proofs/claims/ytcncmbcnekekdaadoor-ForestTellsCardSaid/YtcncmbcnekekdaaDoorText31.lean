/- Forest: the text of items: the program's, with a Builder. -/
import Derived.Test.YtcncmbcnekekdaaDoorLine
import Derived.Test.YtcncmbcnekekdaaDoorOrderC
import Derived.Test.YtcncmbcnekekdaaDoorUnd
import Derived.Test.YtcncmbcnekekdaaDoorHeadP
namespace Go.Proofs.YtcncmbcnekekdaaDoor
open Go.RowKit Go.Shelf
set_option linter.unusedVariables false
set_option linter.unusedSimpArgs false
attribute [local go_sem] Item.sz
theorem T.line31_len (x : Item) (h : Item.ok x) (deep : Nat) : (T.line31 deep x).length ≤ 2 * deep + 200 := by
  have h1 := T.head31_len x h
  have h2 := T.tail31_len x h
  have h3 := T.deep31_len deep
  simp only [T.line31, List.length_append]; omega
set_option maxRecDepth 100000 in
set_option maxHeartbeats 4000000 in
theorem text31_c (v : Value) (xs : List Item) (w : World) (h : Sl Item.arr 17 w.heap.size w v xs) (hok : ∀ x ∈ xs, Item.ok x) (hn : xs.length ≤ 1000) (ht : Tab w) :
    Calls Tryd.prog 22 #[v] w fun r w' => r = .returned (strV (T.text31 xs)) ∧ Below w.heap.size w w' := by
  obtain ⟨A, cap, rfl, hcap, hl1, hl2⟩ := h.view
  obtain ⟨W0, hW0⟩ : ∃ W0, W0 = w.alloc (.cells #[.pointer none, .slice none 0 0] 98) := ⟨_, rfl⟩
  have hI0 : Bld w.heap.size w.heap.size [] W0 := by rw [hW0]; exact Lib.IsBuilderF.of (Lib.fresh_isBuilder 98 5 w)
  have hB0 : Below w.heap.size w W0 := by rw [hW0]; exact (Below.refl _ w).alloc (Nat.le_refl _) _
  have hs0 : W0.heap.size = w.heap.size + 1 := by rw [hW0]; simp
  have hor := order_c _ xs W0 ((h.below hB0).mono hB0.size) (by omega)
  have HW := Lib.hid hW0
  have HOK := Lib.hid hok
  have hol : (T.ints (T.order xs)).length = xs.length := by rw [T.ints_len, T.order_len]
  clear hW0 hok
  go_enter Tryd.func22, Tryd.ntmps22
  go_wp2_with fail
  rw [← HW.out]
  refine hor.mono ?_
  rintro e W1 ⟨uo, rfl, hownO, hb1⟩
  obtain ⟨Ao, no, co, rfl⟩ := hownO.shape
  obtain rfl := int_own_len hownO
  rw [hol]
  rw [hol] at hownO
  have hI1 := hI0.below hb1
  have hB1 := hB0.trans (hb1.mono hB0.size)
  have hz1 := hb1.size
  have HOWN := Lib.hid hownO
  have HOL := Lib.hid hol
  clear hor hI0 hownO hol hB0 hb1
  go_wp2
  go_loopw [9] (fun i wr => ∃ k : Nat, k ≤ xs.length ∧ i = .int .i64 (k : Int) ∧ Bld w.heap.size w.heap.size (T.textOf xs ((T.order xs).take k)) wr ∧ Below w.heap.size w wr ∧ Hid (Lib.OthersKept 5 (some w.heap.size) W1 wr)) (fun i _ => xs.length - (intOf i).toNat)
  case atStart => exact ⟨0, Nat.zero_le _, rfl, hI1, hB1, Lib.hid (Lib.OthersKept.refl _ _ _)⟩
  case round =>
    obtain ⟨k, hk, rfl, hI, hB, hO⟩ := hrel
    by_cases hkl : k < xs.length
    · have hownr := HOWN.out.others hO.out (by omega) (by decide)
      obtain ⟨b1, off1, ho1, hb1', hrow1, _⟩ := (hownr.sl intArr_sz).at (k := k) (by rw [HOL.out]; exact hkl)
      cases ho1
      obtain ⟨i, hi⟩ : ∃ i, i = (T.order xs)[k]'(by rw [T.order_len]; exact hkl) := ⟨_, rfl⟩
      have hio : (T.order xs)[k]? = some i := by rw [hi]; exact List.getElem?_eq_getElem _
      have hil : i < xs.length := (T.order_mem xs i).1 (List.mem_of_getElem? hio)
      rw [show (T.ints (T.order xs))[k]'(by rw [HOL.out]; exact hkl) = (i : Int) by rw [hi]; simp [T.ints]] at hrow1
      have c1 : wr.cell? ⟨b1, off1 + k, none⟩ = some (.int .i64 (i : Int)) := by have := rowAt_cell hrow1 0 (by omega); simpa [intArr] using this
      have hS := (h.below hB).mono hB.size
      obtain ⟨b, off, rfl, hb, hrow, _⟩ := hS.at hil
      obtain ⟨x, hx⟩ : ∃ x, x = xs[i] := ⟨_, rfl⟩
      rw [← hx] at hrow
      have hxo : xs[i]? = some x := by rw [hx]; exact List.getElem?_eq_getElem hil
      have hxk := HOK.out x (List.mem_of_getElem? hxo)
      have HN := Lib.hid (T.textOf_succ xs (T.order xs) k i hio)
      have HL := Lib.hid (T.lineAt_some xs i x hxo)
      have hlen := T.textOf_len xs HOK.out ((T.order xs).take k)
      have hlen' : (T.textOf xs ((T.order xs).take k)).length ≤ 10000000 := by
        rw [List.length_take, T.order_len] at hlen
        refine Nat.le_trans hlen (Nat.le_trans (Nat.mul_le_mul (show 2 * xs.length + 210 ≤ 2210 by omega) (show min k xs.length ≤ 1000 by omega)) (by omega))
      have hpl := T.path_len xs (i : Int)
      have hpp := T.path_pos xs i hil
      obtain ⟨L, hL⟩ : ∃ L, L = T.textOf xs ((T.order xs).take k) := ⟨_, rfl⟩
      rw [← hL] at hI HN hlen'
      obtain ⟨d, hd⟩ : ∃ d, (T.path xs (i : Int)).length = d + 1 := ⟨(T.path xs (i : Int)).length - 1, by omega⟩
      have hline := T.line31_len x hxk d
      replace hline : (T.line31 d x).length ≤ 3000 := by omega
      have HP := fun (X : World) (hX : Below wr.heap.size wr X) => above_c_path _ xs (i : Int) X ((hS.below hX).mono hX.size) (by omega)
      have HQ := fun (X : World) (hX : Below wr.heap.size wr X) => line_c x d (by omega) hxk X (((ht.below hB).below hX))
      have HD := Lib.hid hd
      have hBz := hB.size
      have hd1 : IntKind.i64.wrap (d : Int) = (d : Int) := IntWalk.i64_in _ (by omega)
      have HD1 := Lib.hid hd1
      clear hd1
      clear hL hx hxo hio hi hlen hrow1 hpl hpp hxk
      go_wp2
      refine wp_region_P 11 [6, 9, 11] [0, 1, 2, 3, 4, 5, 6, 7, 8, 9, 10, 11] (fun X => Below wr.heap.size wr X) (by kernel_rfl) (by kernel_rfl) (by kernel_rfl) (by decide) (by simp only [ordOps, List.map_cons, List.map_nil, List.getElem?_cons_succ, List.getElem?_cons_zero, Option.getD_some]; repeat (first | exact trivial | refine ⟨.inl rfl, ?_⟩ | refine ⟨.inr fun _ _ _ _ h => h, ?_⟩)) ?_ ?_
      rotate_left; simp only [ordOps, List.map_cons, List.map_nil, List.getElem?_cons_succ, List.getElem?_cons_zero, Option.getD_some]; rotate_left
      · exact (Below.refl _ wr).drew
      iterate 3 ((first | (refine wpP_q (by rfl) (by rfl) ?_ ?_ ?_; rotate_left; focus (rintro W hX; go_simp; try (with_reducible rfl); done)) | refine wpP_skip (by rfl) (by rfl) ?_); try simp only [Act.put, List.setIfInBounds_toArray, List.set_cons_succ, List.set_cons_zero])
      refine wpP_q (by rfl) (by rfl) (.agg (Item.arr x)) ?_ ?_
      · intro X hX; exact yields_load_at 88 _ rfl b (off + i * 17) 17 rfl (Item.arr x) _ Tryd.underlying88 rfl (by kernel_rfl) ((rowAt_block (hX.block b hb)).trans hrow)
      simp only [Act.put, List.setIfInBounds_toArray, List.set_cons_succ, List.set_cons_zero]
      iterate 2 ((first | (refine wpP_q (by rfl) (by rfl) ?_ ?_ ?_; rotate_left; focus (rintro W hX; go_simp; try (with_reducible rfl); done)) | refine wpP_skip (by rfl) (by rfl) ?_); try simp only [Act.put, List.setIfInBounds_toArray, List.set_cons_succ, List.set_cons_zero])
      refine wpP_a (by rfl) (by rfl) fun K hK => ?_
      go_simp
      refine (HP _ (Below.refl _ wr).drew).mono ?_
      rintro r w2 ⟨up, rfl, hownp, hb2⟩
      obtain ⟨Ap, np, cp, rfl⟩ := hownp.shape
      obtain rfl := int_own_len hownp
      rw [HD.out]
      have hX2 : Below wr.heap.size wr w2 := (Below.refl _ wr).drew.trans hb2
      refine hK _ _ (fun _ => hX2) ?_; clear hK K; try simp only [Act.put, List.setIfInBounds_toArray, List.set_cons_succ, List.set_cons_zero]
      iterate 2 ((first | (refine wpP_q (by rfl) (by rfl) ?_ ?_ ?_; rotate_left; focus (rintro W hX; go_simp; try (with_reducible rfl); done)) | refine wpP_skip (by rfl) (by rfl) ?_); try simp only [Act.put, List.setIfInBounds_toArray, List.set_cons_succ, List.set_cons_zero])
      refine wpP_a (by rfl) (by rfl) fun K hK => ?_
      go_simp
      try rw [HD1.out]
      refine (HQ _ hX2).mono ?_
      rintro r w3 ⟨rfl, hb3⟩
      have hX3 : Below wr.heap.size wr w3 := bthen hX2 hb3
      refine hK _ _ (fun _ => hX3) ?_; clear hK K; try simp only [Act.put, List.setIfInBounds_toArray, List.set_cons_succ, List.set_cons_zero]
      refine wpP_q (by rfl) (by rfl) (strV (T.line31 d x ++ [10])) ?_ ?_
      · rintro W hX; go_simp; rw [if_neg (by simp; omega)]; (first | rfl | simp only [ByteArray.mk_append_mk, List.append_assoc, List.cons_append, List.nil_append, List.singleton_append])
      try simp only [Act.put, List.setIfInBounds_toArray, List.set_cons_succ, List.set_cons_zero]
      have hI3 := hI.below hX3
      have hB3 := bthen hB hX3
      refine wpP_a (by rfl) (by rfl) fun K hK => ?_
      go_simp
      refine (writeString_k w.heap.size w.heap.size L (T.line31 d x ++ [10]) w3 hI3 (by simp only [List.length_append, List.length_cons, List.length_nil]; omega) hB3.size).mono ?_
      rintro r w5 ⟨rfl, hI5, hb5, hk5⟩
      refine hK _ _ (fun h => absurd h (by omega)) ?_; clear hK K; try simp only [Act.put, List.setIfInBounds_toArray, List.set_cons_succ, List.set_cons_zero]
      refine wpP_nil ?_
      clear HP HQ hownp hI hI3
      go_wp2
      go_roundw
      case rel => exact ⟨k + 1, by omega, by go_num, by rw [HN.out, HL.out, HD.out]; exact hI5, hB3.trans hb5, Lib.hid ((hO.out.trans (others_below hX3)).trans hk5)⟩
      case measure => simp [intOf]; omega
    · rw [List.take_of_length_le (by rw [T.order_len]; omega)] at hI
      go_wp2_with (go_at_call 65; refine (Tryd.Builder_String_any_k w.heap.size w.heap.size _ _ hI hB.size).mono ?_; rintro r w4 ⟨rfl, _, hb4, _⟩)
      go_ret
      exact ⟨rfl, hB.trans hb4⟩
end Go.Proofs.YtcncmbcnekekdaaDoor
