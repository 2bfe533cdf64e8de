/- Forest: the reference's text of items. -/
import Derived.Test.YtcncmbcnekekdaaDoorText31
namespace Go.Proofs.YtcncmbcnekekdaaDoor
open Go.RowKit Go.Shelf
set_option linter.unusedVariables false
set_option linter.unusedSimpArgs false
attribute [local go_sem] Item.sz bw_cell
set_option maxRecDepth 100000 in
set_option maxHeartbeats 4000000 in
theorem rtext31_c (v : Value) (xs : List Item) (w : World) (h : Sl Item.arr 17 w.heap.size w v xs) (hok : ∀ x ∈ xs, Item.ok x) (hn : xs.length ≤ 1000) (ht : Tab w) :
    Calls Tryd.prog 23 #[v] w fun r w' => r = .returned (strV (T.text31 xs)) ∧ Below w.heap.size w w' := by
  obtain ⟨A, cap, rfl, hcap, hl1, hl2⟩ := h.view
  have hor := rorder_c _ xs w h (by omega)
  have HOK := Lib.hid hok
  have hol : (T.ints (T.order xs)).length = xs.length := by rw [T.ints_len, T.order_len]
  clear hok
  go_enter Tryd.func23, Tryd.ntmps23
  go_wp2_with (go_at_call 21; (with_reducible refine hor.mono ?_); rintro e W1 ⟨uo, rfl, hownO, hb1⟩; obtain ⟨Ao, no, co, rfl⟩ := hownO.shape; obtain rfl := int_own_len hownO; rw [hol]; rw [hol] at hownO)
  have hSl := hownO.sl intArr_sz
  have hS1 := (h.below hb1).mono hb1.size
  have ht1 := ht.below hb1
  have HOL := Lib.hid hol
  clear hor hownO hol h ht
  go_loopw [3, 5] (fun s n wr => ∃ k : Nat, k ≤ xs.length ∧ s = strV (T.textOf xs ((T.order xs).take k)) ∧ n = .int .i64 (k : Int) ∧ Below W1.heap.size W1 wr) (fun _ n _ => xs.length - (intOf n).toNat)
  case atStart => exact ⟨0, Nat.zero_le _, rfl, rfl, Below.refl _ _⟩
  case round =>
    obtain ⟨k, hk, rfl, rfl, hB⟩ := hrel
    by_cases hkl : k < xs.length
    · obtain ⟨b1, off1, ho1, hb1', hrow1, _⟩ := ((hSl.below hB)).at (k := k) (by rw [HOL.out]; exact hkl)
      cases ho1
      obtain ⟨i, hi⟩ : ∃ i, i = (T.order xs)[k]'(by rw [T.order_len]; exact hkl) := ⟨_, rfl⟩
      have hio : (T.order xs)[k]? = some i := by rw [hi]; exact List.getElem?_eq_getElem _
      have hil : i < xs.length := (T.order_mem xs i).1 (List.mem_of_getElem? hio)
      rw [show (T.ints (T.order xs))[k]'(by rw [HOL.out]; exact hkl) = (i : Int) by rw [hi]; simp [T.ints]] at hrow1
      have c1 : wr.cell? ⟨b1, off1 + k, none⟩ = some (.int .i64 (i : Int)) := by have := rowAt_cell hrow1 0 (by omega); simpa [intArr] using this
      have hS := (hS1.below hB).mono hB.size
      obtain ⟨b, off, rfl, hb, hrow, _⟩ := (hS1.below hB).at hil
      obtain ⟨x, hx⟩ : ∃ x, x = xs[i] := ⟨_, rfl⟩
      rw [← hx] at hrow
      have hxo : xs[i]? = some x := by rw [hx]; exact List.getElem?_eq_getElem hil
      have hxk := HOK.out x (List.mem_of_getElem? hxo)
      have HN := Lib.hid (T.textOf_succ xs (T.order xs) k i hio)
      have HLA := Lib.hid (T.lineAt_some xs i x hxo)
      have hlen := T.textOf_len xs HOK.out ((T.order xs).take k)
      have hlen' : (T.textOf xs ((T.order xs).take k)).length ≤ 10000000 := by
        rw [List.length_take, T.order_len] at hlen
        refine Nat.le_trans hlen (Nat.le_trans (Nat.mul_le_mul (show 2 * xs.length + 210 ≤ 2210 by omega) (show min k xs.length ≤ 1000 by omega)) (by omega))
      have hpl := T.path_len xs (i : Int)
      have hpp := T.path_pos xs i hil
      obtain ⟨L, hL⟩ : ∃ L, L = T.textOf xs ((T.order xs).take k) := ⟨_, rfl⟩
      rw [← hL] at HN hlen' ⊢
      obtain ⟨d, hd⟩ : ∃ d, (T.path xs (i : Int)).length = d + 1 := ⟨(T.path xs (i : Int)).length - 1, by omega⟩
      have hdb : d ≤ 1000 := by omega
      have HD := Lib.hid hd
      have hBz := hB.size
      clear hL hx hxo hio hi hlen hrow1 hpl hpp hd hl1
      go_wp2_with (first | (refine wpList_load_at rfl 89 _ rfl _ (off + i * 17) 17 rfl _ _ hrow rfl rfl rfl ?_) | (refine wpList_store_new rfl _ _ _ rfl wr.heap.size (Item.arr x) _ _ rfl rfl rfl rfl rfl (Item.one _) ?_))
      have r1 : rowAt (wr.alloc (Obj.cells (Item.arr x) 89)) wr.heap.size 0 17 = some (Item.arr x) := rowAt_new _ _ _ _ _ rfl
      have hB1 := hB.alloc hB.size (Obj.cells (Item.arr x) 89)
      have hrW := (Below.refl wr.heap.size wr).alloc (Nat.le_refl _) (Obj.cells (Item.arr x) 89)
      obtain ⟨g, hg⟩ : ∃ g, g = wr.heap.size := ⟨_, rfl⟩
      rw [← hg] at r1 ⊢
      obtain ⟨W2, hW2⟩ : ∃ W2, W2 = wr.alloc (Obj.cells (Item.arr x) 89) := ⟨_, rfl⟩
      have hg1 : g < W2.heap.size := by rw [hW2]; simp; omega
      rw [← hW2] at r1 hB1 hrW ⊢
      have c1W := (hrW.cell (p := ⟨b1, off1 + k, none⟩) (show b1 < wr.heap.size by omega)).trans c1
      have hb1W : b1 < W2.heap.size := by omega
      clear hW2 hg c1 hrow
      go_loopw [3, 7] (fun s q X => ∃ j : Nat, j ≤ d ∧ s = strV (L ++ T.deep31 j) ∧ q = .int .i64 ((j : Int) + 1) ∧ Below W2.heap.size W2 X) (fun _ q _ => d + 1 - (intOf q).toNat)
      case atStart => exact ⟨0, Nat.zero_le _, by rw [show T.deep31 0 = [] from rfl, List.append_nil], rfl, Below.refl _ _⟩
      case round =>
        obtain ⟨j, hj, rfl, rfl, hBX⟩ := hrel
        have hBX1 := bthen hB1 hBX
        have c1X := (hBX.cell (p := ⟨b1, off1 + k, none⟩) hb1W).trans c1W
        have hPX := rabove_c_path _ xs (i : Int) _ ((hS1.below hBX1).mono hBX1.size) (by omega)
        by_cases hjd : j < d
        · have ld := T.deep31_len j
          have HS := Lib.hid (T.deep31_succ j)
          go_wp2_with (go_at_call 19; (with_reducible refine hPX.mono ?_); rintro r w3 ⟨up, rfl, hownp, hb3⟩; obtain ⟨Ap, np, cp, rfl⟩ := hownp.shape; obtain rfl := int_own_len hownp; rw [HD.out])
          go_roundw
          case rel => exact ⟨j + 1, by omega, by simp only [ByteArray.mk_append_mk]; rw [HS.out, List.append_assoc], by go_num, bthen hBX hb3⟩
          case measure => simp [intOf]; omega
        · obtain rfl : j = d := by omega
          have ld := T.deep31_len j
          have ll : (L ++ T.deep31 j).length ≤ 10002000 := by rw [List.length_append]; omega
          obtain ⟨M, hM⟩ : ∃ M, M = L ++ T.deep31 j := ⟨_, rfl⟩
          rw [← hM] at ll ⊢
          have lk := T.keyText_len x.key hxk.1
          have ln := T.itoa_i64 hxk.2.2.2.2.1
          have lf := T.itoa_i64 hxk.2.2.2.2.2.1
          have lt := T.itoa_i64 hxk.2.2.2.2.2.2.1
          have lc := T.itoa_i64 hxk.2.2.2.2.2.2.2.2
          have le := T.evName_len x.how
          have HM := Lib.hid hM
          have RX := Lib.hid ((rowAt_block (hBX.block g hg1)).trans r1)
          have htX := (ht1.below hBX1)
          have hzX := Nat.lt_of_lt_of_le hg1 hBX.size
          clear hM r1 c1W hS1 hSl hrW ld hS
          go_wp2_with (go_at_call 19; (with_reducible refine hPX.mono ?_); rintro r w3 ⟨up, rfl, hownp, hb3⟩; obtain ⟨Ap, np, cp, rfl⟩ := hownp.shape; obtain rfl := int_own_len hownp; rw [HD.out]; clear hPX)
          have rX := (rowAt_block (hb3.block g hzX)).trans RX.out
          have ht3 := htX.below hb3
          have hz3 := Nat.lt_of_lt_of_le hzX hb3.size
          have hB3 := bthen hBX1 hb3
          have rK : rowAt w3 g 0 4 = some (Key.arr x.key) := (rowAt_part rX 0 4 (by omega)).trans (congrArg some (Item.part_key x))
          have c12 : w3.cell? ⟨g, 12, none⟩ = some (.int .i64 x.node) := rowAt_cell rX 12 (by omega)
          have c13 : w3.cell? ⟨g, 13, none⟩ = some (.int .i64 x.from_) := rowAt_cell rX 13 (by omega)
          have c14 : w3.cell? ⟨g, 14, none⟩ = some (.int .i64 x.to_) := rowAt_cell rX 14 (by omega)
          have c15 : w3.cell? ⟨g, 15, none⟩ = some (.int .i64 x.how) := rowAt_cell rX 15 (by omega)
          have c16 : w3.cell? ⟨g, 16, none⟩ = some (.int .i64 x.code) := rowAt_cell rX 16 (by omega)
          have H1 := Lib.hid (fun y : BW w3 => rKeyText_c x.key hxk.1 y.1 (ht3.below y.2))
          have H2 := Lib.hid (fun y : BW w3 => digits_t x.node hxk.2.2.2.2.1.1 hxk.2.2.2.2.1.2 y.1 (ht3.below y.2))
          have H3 := Lib.hid (fun y : BW w3 => digits_t x.from_ hxk.2.2.2.2.2.1.1 hxk.2.2.2.2.2.1.2 y.1 (ht3.below y.2))
          have H4 := Lib.hid (fun (Z : World) (hZ : Below w3.heap.size w3 Z) (y : BW Z) => digits_t x.to_ hxk.2.2.2.2.2.2.1.1 hxk.2.2.2.2.2.2.1.2 y.1 ((ht3.below hZ).below y.2))
          have H5 := Lib.hid (fun (Z : World) (hZ : Below w3.heap.size w3 Z) => digits_t x.code hxk.2.2.2.2.2.2.2.2.1 hxk.2.2.2.2.2.2.2.2.2 Z (ht3.below hZ))
          have HH := Lib.hid (show T.head31 x = T.keyText x.key ++ [32, 97, 116, 32] ++ Lib.itoa x.node ++ [32, 102, 114, 111, 109, 32] ++ Lib.itoa x.from_ from rfl)
          have HT := Lib.hid (show T.tail31 x = if x.how = 0 then [] else [32, 116, 111, 32] ++ Lib.itoa x.to_ ++ [32] ++ T.evName x.how ++ (if x.how = 9 then [] else [32] ++ Lib.itoa x.code) from rfl)
          have HLB := Lib.hid (show T.textOf xs ((T.order xs).take (k + 1)) = M ++ T.head31 x ++ T.tail31 x ++ [10] by rw [HN.out, HLA.out, HD.out, HM.out]; simp only [List.append_assoc, Nat.add_sub_cancel])
          clear c1X rX RX htX hBX hBX1 hb3 hxk ht3 hownp HLA HN HM HD
          refine wp_region_calm (by kernel_rfl) (by kernel_rfl) ?_
          repeat ((fail_if_success (with_reducible refine wpQuiet_nil ?_)); (first | go_big_quiet_skip | (refine wpQuiet_load_at (by rfl) 46 _ rfl _ 0 4 rfl _ _ rK rfl rfl rfl ?_; simp only [Act.put, List.setIfInBounds_toArray, List.set_cons_succ, List.set_cons_zero]) | go_big_quiet_step ((first | (go_at_call 35; exact calm_of (H1.out _)) | (go_at_call 66; first | with_reducible exact calm_of (H2.out _) | with_reducible exact calm_of (H3.out _))))))
          refine wpQuiet_nil ?_
          rintro _ ⟨⟨X, hX⟩, rfl⟩
          simp only [ByteArray.mk_append_mk]
          rw [show M ++ T.keyText x.key ++ [32, 97, 116, 32] ++ Lib.itoa x.node ++ [32, 102, 114, 111, 109, 32] ++ Lib.itoa x.from_ = M ++ T.head31 x from by rw [HH.out]; simp only [List.append_assoc]]
          have lh : (M ++ T.head31 x).length ≤ 10003000 := by rw [List.length_append, HH.out]; simp only [List.length_append, List.length_cons, List.length_nil]; omega
          obtain ⟨N, hN⟩ : ∃ N, N = M ++ T.head31 x := ⟨_, rfl⟩
          rw [← hN] at lh ⊢
          have HNN := Lib.hid hN
          have x14 := (hX.cell (p := ⟨g, 14, none⟩) hz3).trans c14
          have x15 := (hX.cell (p := ⟨g, 15, none⟩) hz3).trans c15
          have x16 := (hX.cell (p := ⟨g, 16, none⟩) hz3).trans c16
          have hzY := Nat.lt_of_lt_of_le hz3 hX.size
          clear c12 c13 c14 c15 c16 rK hN H1 H2 H3
          by_cases h0 : x.how = 0
          · have HT0 := Lib.hid (show T.tail31 x = [] by rw [HT.out, if_pos h0])
            go_wp2
            go_roundw
            case rel => exact ⟨k + 1, by omega, by simp only [ByteArray.mk_append_mk]; rw [HLB.out, HT0.out, HNN.out, List.append_nil], by go_num, bthen hB3 hX⟩
            case measure => simp [intOf]; omega
          · go_wp2
            have H4X := Lib.hid (H4.out _ hX)
            refine wp_region_calm (by kernel_rfl) (by kernel_rfl) ?_
            repeat ((fail_if_success (with_reducible refine wpQuiet_nil ?_)); (first | go_big_quiet_skip | go_big_quiet_step ((first | (go_at_call 66; exact calm_of (H4X.out _)) | (go_at_call 67; exact calm_of (refEvName_c _ _))))))
            refine wpQuiet_nil ?_
            rintro _ ⟨⟨Y, hY⟩, rfl⟩
            simp only [ByteArray.mk_append_mk]
            have hY0 := bthen hX hY
            have lm : (N ++ [32, 116, 111, 32] ++ Lib.itoa x.to_ ++ [32] ++ T.evName x.how).length ≤ 10003100 := by simp only [List.length_append, List.length_cons, List.length_nil]; omega
            obtain ⟨K, hK⟩ : ∃ K, K = N ++ [32, 116, 111, 32] ++ Lib.itoa x.to_ ++ [32] ++ T.evName x.how := ⟨_, rfl⟩
            rw [← hK] at lm ⊢
            have HK := Lib.hid hK
            have y15 := (hY.cell (p := ⟨g, 15, none⟩) hzY).trans x15
            have y16 := (hY.cell (p := ⟨g, 16, none⟩) hzY).trans x16
            have H5Y := H5.out _ hY0
            clear hK x14 x15 x16 H4 H5 H4X
            have HT1 := HT.out
            rw [if_neg h0] at HT1
            by_cases h9 : x.how = 9
            · rw [if_pos h9, List.append_nil] at HT1
              have HT2 := Lib.hid HT1
              clear HT1 HT
              go_wp2
              go_roundw
              case rel => exact ⟨k + 1, by omega, by simp only [ByteArray.mk_append_mk]; rw [HLB.out, HT2.out, HK.out, HNN.out]; simp only [List.append_assoc], by go_num, bthen hB3 hY0⟩
              case measure => simp [intOf]; omega
            · rw [if_neg h9] at HT1
              have HT2 := Lib.hid HT1
              clear HT1 HT
              go_wp2_with (go_at_call 66; (with_reducible refine H5Y.mono ?_); rintro r w5 ⟨rfl, hb5⟩)
              go_roundw
              case rel => exact ⟨k + 1, by omega, by simp only [ByteArray.mk_append_mk]; rw [HLB.out, HT2.out, HK.out, HNN.out]; simp only [List.append_assoc], by go_num, bthen hB3 (bthen hY0 hb5)⟩
              case measure => simp [intOf]; omega
    · rw [List.take_of_length_le (by rw [T.order_len]; omega)]
      go_wp2
      go_ret
      exact ⟨rfl, bthen hb1 hB⟩
end Go.Proofs.YtcncmbcnekekdaaDoor
