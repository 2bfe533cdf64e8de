/- The text of a configuration: the program's walk. -/
import Derived.Test.YtmpjjmilodjecaaGreatDoorSetPs
import Derived.Test.YtmpjjmilodjecaaGreatDoorPTextW
import Derived.Test.YtmpjjmilodjecaaGreatDoorBuild
import Derived.Test.YtmpjjmilodjecaaGreatDoorCfgs
namespace Go.Proofs.YtmpjjmilodjecaaGreatDoor
open Go.RowKit Go.Shelf
set_option linter.unusedVariables false
set_option linter.unusedSimpArgs false
theorem trimLine_c (xs : List GoOp) (hok : ∀ x ∈ xs, GoOp.ok x) (hl : xs.length ≤ 100000) (X : World) :
    Calls Tryz.prog 64 #[.string (ByteArray.mk ([112, 114, 111, 103, 114, 97, 109, 32] ++ T.progText xs).toArray), .string (ByteArray.mk #[32])] X fun e w' => e = .returned (strV (T.progLine xs)) ∧ w' = X := by
  have htr := T.trim_progLine xs hok
  have htl := T.progText_len xs hok
  have hlen : ([112, 114, 111, 103, 114, 97, 109, 32] ++ T.progText xs).length ≤ 6000000 := by simp only [List.length_append, List.length_cons, List.length_nil]; omega
  generalize [112, 114, 111, 103, 114, 97, 109, 32] ++ T.progText xs = t at *
  have hh := Tryz.strings_TrimSuffix ⟨t.toArray⟩ ⟨#[32]⟩ X (by simp [ByteArray.size]; omega)
  rw [show Lib.trimSuffix (ByteArray.mk t.toArray).data.toList (ByteArray.mk #[32]).data.toList = T.progLine xs from htr] at hh
  exact hh
attribute [local go_sem] Config.sz bw_cell
set_option maxRecDepth 100000 in
set_option maxHeartbeats 8000000 in
theorem stext_c (c : Config) (hci : ∀ n ∈ c.ints, i64 n) (ps : List PV) (w : World) (h : Sl PV.arr 1 w.heap.size w c.progs ps) (hok : ∀ p ∈ ps, PV.ok w p) (hn : ps.length ≤ 20) (hs : ∀ p ∈ ps, p.xs.length ≤ 20) (he : Env w) :
    Calls Tryz.prog 17 #[.agg (Config.arr c)] w fun r w' => r = .returned (strV (T.cfgText c ps)) ∧ Below w.heap.size w w' := by
  obtain ⟨A, cap, hv, hcap, hl1, hl2⟩ := h.view
  obtain ⟨b, hb⟩ : ∃ b, b = w.heap.size + 1 := ⟨_, rfl⟩
  obtain ⟨W0, hW0⟩ : ∃ W0, W0 = (w.alloc (.cells (Config.arr c) 29)).alloc (.cells #[.pointer none, .slice none 0 0] 116) := ⟨_, rfl⟩
  have hI0 : Bld b b [] W0 := by
    rw [hW0, hb]
    have := Lib.IsBuilderF.of (Lib.fresh_isBuilder 116 5 (w.alloc (.cells (Config.arr c) 29)))
    rw [World.size_alloc] at this
    exact this
  have hB0 : Below w.heap.size w W0 := by rw [hW0]; exact ((Below.refl _ w).alloc (Nat.le_refl _) _).alloc (by simp) _
  have hz0 : W0.heap.size = b + 1 := by rw [hW0, hb]; simp
  have hr0 : rowAt W0 w.heap.size 0 14 = some (Config.arr c) := rowAt_rowI (cs := Config.arr c) (t := 29) (fr := (0, 0)) (by rw [hW0]; exact (Below.heap_alloc _ _ _ (by simp)).trans (heap_alloc_new _ _))
  have hwd := words_c W0
  obtain ⟨W1, hW1⟩ : ∃ W1, W1 = W0.alloc (.cells words29V 9) := ⟨_, rfl⟩
  have hwh : W1.heap[W0.heap.size]? = some (.cells words29V 9 (0, 0)) := by rw [hW1]; exact heap_alloc_new _ _
  have hI1 : Bld b b [] W1 := by rw [hW1]; exact hI0.below ((Below.refl _ W0).alloc (Nat.le_refl _) _)
  have hB1 : Below b W0 W1 := by rw [hW1]; exact (Below.refl _ W0).alloc (by omega) _
  have hz1 : W1.heap.size = b + 2 := by rw [hW1]; simp; omega
  have hr1 : rowAt W1 w.heap.size 0 14 = some (Config.arr c) := (rowAt_block (hB1.block w.heap.size (by omega))).trans hr0
  have hB01 : Below w.heap.size w W1 := hB0.trans (hB1.mono (by omega))
  rw [← hW1, hz0] at hwd
  rw [hz0] at hwh
  have HW := Lib.hid hW0
  have HOK := Lib.hid hok
  have HCI := Lib.hid hci
  have HS := Lib.hid hs
  have HV := Lib.hid hv
  have HT := Lib.hid (show T.cfgText c ps = T.setsText c.ints 13 ++ T.progsText ps from rfl)
  have HB := Lib.hid hb
  have hbw : w.heap.size < b := by omega
  clear hW0 hW1 hok hci hs hI0 hB1 hr0 hv hb
  have HZ1 := Lib.hid hz1
  have hz1' : b + 2 ≤ W1.heap.size := by omega
  clear hz0 hz1
  go_enter Tryz.func17, Tryz.ntmps17
  go_upto_region 2 with (fail)
  rw [← HW.out, ← HB.out]
  go_wp2_with (go_at_call 60; (with_reducible refine hwd.mono ?_); rintro r w2 ⟨rfl, hw2⟩; rw [hw2]; clear hw2)
  go_loopw [10] (fun i wr => ∃ k : Nat, k ≤ 13 ∧ i = .int .i64 (k : Int) ∧ Bld b b (T.setsText c.ints k) wr ∧ Below b W1 wr ∧ wr.heap[b + 1]? = some (.cells words29V 9 (0, 0))) (fun i _ => 13 - (intOf i).toNat)
  case atStart => exact ⟨0, Nat.zero_le _, rfl, hI1, Below.refl _ _, hwh⟩
  case round =>
    obtain ⟨k, hk, rfl, hI, hB, hwr⟩ := hrel
    have hBz := hB.size
    have hBw : Below w.heap.size w wr := hB01.trans (hB.mono (by omega))
    have hrr : rowAt wr w.heap.size 0 14 = some (Config.arr c) := (rowAt_block (hB.block w.heap.size (by omega))).trans hr1
    by_cases hkl : k < 13
    · have hkI : (k : Int) < 13 := by omega
      have cw : wr.cell? ⟨b + 1, k, none⟩ = some (strV (T.words29.getD k [])) := (cell_of hwr k).1.trans (words29_at k hkl)
      have hwl := T.word29_len k hkl
      have hwk : IntKind.i64.wrap ((k : Int) + 1) = (k : Int) + 1 := IntWalk.i64_in _ (by omega)
      have hzi : i64 (c.ints.getD k 0) := by
        rw [List.getD_eq_getElem?_getD, List.getElem?_eq_getElem (by rw [Config.ints_len]; exact hkl)]
        exact HCI.out _ (List.getElem_mem _)
      have hgt := get_c c (k : Int) wr
      rw [show T.get c (k : Int) = c.ints.getD k 0 by unfold T.get; rw [if_pos (by omega), Int.toNat_natCast]] at hgt
      have hln : (T.setsText c.ints k).length ≤ 31 * k := T.setsText_len c.ints HCI.out k (by omega)
      have hnx := Lib.hid (show T.setsText c.ints (k + 1) = T.setsText c.ints k ++ (T.words29.getD k [] ++ (32 :: Lib.itoa (c.ints.getD k 0)) ++ [10]) from rfl)
      generalize c.ints.getD k 0 = z at *
      generalize T.words29.getD k [] = wd at *
      obtain ⟨L, hL⟩ : ∃ L, L = T.setsText c.ints k := ⟨_, rfl⟩
      rw [← hL] at hI hln hnx
      clear hL
      have hit := fun (X : World) (hX : Below wr.heap.size wr X) => itoa_c z hzi.1 hzi.2 X ((he.below hBw).below hX).tab
      have hil := T.itoa21 hzi
      generalize Lib.itoa z = it at *
      have e3 := Lib.hid (show (ByteArray.mk wd.toArray ++ ByteArray.mk #[32] ++ ByteArray.mk it.toArray ++ ByteArray.mk #[10]) = ByteArray.mk (wd ++ (32 :: it) ++ [10]).toArray by simp only [ByteArray.mk_append_mk] <;> simp)
      clear hzi
      go_wp2_with (first | (refine wpList_load_at_v 29 _ rfl rfl _ (0) 14 rfl _ _ hrr rfl rfl rfl ?_) | (go_at_call 63; (with_reducible refine hgt.mono ?_); rintro r w3 ⟨rfl, hb3⟩) | (go_at_call 62; (with_reducible refine (hit _ hb3).mono ?_); rintro r w4 ⟨rfl, hb4⟩))
      have hb34 := bthen hb3 hb4
      rw [e3.out]
      have hI4 := hI.below hb34
      have hw4 := (hb34.block (b + 1) (by omega)).trans hwr
      have hB4 : Below b W1 w4 := hB.trans (hb34.mono (by omega))
      have hI5 := writeString_k b b L (wd ++ (32 :: it) ++ [10]) w4 hI4 (by simp only [List.length_append, List.length_cons, List.length_nil]; omega) (by have := hb34.size; omega)
      refine hI5.mono ?_
      rintro r w5 ⟨rfl, hI6, hb5, hk5⟩
      have hw5 := hk5 (b + 1) _ hw4 (by intro q; injection q with q; omega) (by intro c fz q; injection q with _ q; exact absurd q (by decide))
      clear hI hI4 hI5 hgt hit
      go_wp2
      go_roundw
      case rel => exact ⟨k + 1, by omega, by go_num, by rw [hnx.out]; exact hI6, hB4.trans hb5, hw5⟩
      case measure => simp [intOf] <;> omega
    · obtain rfl : k = 13 := by omega
      have hkI : ¬ (13 : Int) < 13 := by omega
      have c13 : wr.cell? ⟨w.heap.size, 13, none⟩ = some c.progs := rowAt_cell hrr 13 (by omega)
      rw [HV.out] at c13 h
      have hL13 := T.setsText_len c.ints HCI.out 13 (by omega)
      generalize T.setsText c.ints 13 = L0 at *
      clear hwr hr1
      go_wp2
      go_loopw [28] (fun i wr2 => ∃ k : Nat, k ≤ ps.length ∧ i = .int .i64 (k : Int) ∧ Bld b b (L0 ++ T.progsText (ps.take k)) wr2 ∧ Below b W1 wr2) (fun i _ => ps.length - (intOf i).toNat)
      case atStart => exact ⟨0, Nat.zero_le _, rfl, by simpa [T.progsText] using hI, hB⟩
      case round =>
        clear hI hB hBz hBw hrr c13
        obtain ⟨k, hk, rfl, hI, hB⟩ := hrel
        have hBz := hB.size
        have hBw : Below w.heap.size w wr := hB01.trans (hB.mono (by omega))
        have hpl := T.progsText_len (ps.take k) (fun p hp => (HOK.out p (List.mem_of_mem_take hp)).2) (fun p hp => HS.out p (List.mem_of_mem_take hp))
        rw [List.length_take] at hpl
        by_cases hkl : k < ps.length
        · have hkI : (k : Int) < (ps.length : Int) := by omega
          have hSp := (h.below hBw).mono hBw.size
          obtain ⟨bb, off, hA, hbl, hrow, _⟩ := hSp.at hkl
          subst hA
          obtain ⟨x, hx⟩ : ∃ x, x = ps[k] := ⟨_, rfl⟩
          rw [← hx] at hrow
          have hmem : x ∈ ps := by rw [hx]; exact List.getElem_mem _
          have hox := PV.below (HOK.out x hmem) hBw
          have hxs := HS.out x hmem
          have htk : ps.take (k + 1) = ps.take k ++ [x] := by rw [List.take_succ_eq_append_getElem hkl, ← hx]
          have hnx := Lib.hid (show T.progsText (ps.take (k + 1)) = T.progsText (ps.take k) ++ (T.progLine x.xs ++ [10]) by rw [htk, T.progsText_snoc])
          obtain ⟨A2, cap2, hxv, _, _, _⟩ := hox.1.view
          have e0 : wr.cell? ⟨bb, off + k * 1, none⟩ = some x.v := rowAt_cell hrow 0 (by omega)
          rw [Nat.mul_one, hxv] at e0
          have htx := ptext_c x.v x.xs wr hox.1 hox.2 (by omega) (he.below hBw).tab
          rw [hxv] at htx
          have htl := T.progText_len x.xs hox.2
          have hpl2 := T.progLine_len x.xs hox.2
          have hts := fun X : World => trimLine_c x.xs hox.2 (by omega) X
          have e3 := Lib.hid (show (ByteArray.mk #[112, 114, 111, 103, 114, 97, 109, 32] ++ ByteArray.mk (T.progText x.xs).toArray) = ByteArray.mk ([112, 114, 111, 103, 114, 97, 109, 32] ++ T.progText x.xs).toArray by simp only [ByteArray.mk_append_mk] <;> simp)
          obtain ⟨tl, htl9⟩ : ∃ tl, tl = ByteArray.mk ([112, 114, 111, 103, 114, 97, 109, 32] ++ T.progText x.xs).toArray := ⟨_, rfl⟩
          rw [← htl9] at hts e3
          have hwk : IntKind.i64.wrap ((k : Int) + 1) = (k : Int) + 1 := IntWalk.i64_in _ (by omega)
          generalize T.progText x.xs = tx at *
          generalize T.progLine x.xs = ln at *
          generalize x.xs.length = xl at *
          obtain ⟨L, hL⟩ : ∃ L, L = T.progsText (ps.take k) := ⟨_, rfl⟩
          rw [← hL] at hI hpl hnx
          replace hpl : L.length ≤ 22000 := by omega
          replace htl : tx.length ≤ 1040 := by omega
          replace hpl2 : ln.length ≤ 1048 := by omega
          clear hL hx hmem hox htk hxv hrow hSp htl9 hxs
          go_upto_region 10 with (fail)
          go_wp2_with (first | (go_at_call 21; (with_reducible refine htx.mono ?_); rintro r w3 ⟨rfl, hb3⟩) | (go_at_call 64; rw [e3.out]; (with_reducible refine (hts _).mono ?_); rintro r w4 ⟨rfl, hw4⟩; rw [hw4]; clear hw4))
          rw [ByteArray.mk_append_mk]
          have hI5 := writeString_k b b (L0 ++ L) (ln ++ [10]) w3 (hI.below hb3) (by simp only [List.length_append, List.length_cons, List.length_nil]; omega) (by have := hb3.size; omega)
          refine Calls.mono (by simpa using hI5) ?_
          rintro r w5 ⟨rfl, hI6, hb5, hk5⟩
          clear hI hI5 hts htx
          go_wp2
          go_roundw
          case rel => exact ⟨k + 1, by omega, by go_num, by rw [hnx.out]; simpa [List.append_assoc] using hI6, (hB.trans (hb3.mono (by omega))).trans hb5⟩
          case measure => simp [intOf] <;> omega
        · have hkI : ¬ (k : Int) < (ps.length : Int) := by omega
          rw [List.take_of_length_le (by omega)] at hI
          go_wp2_with (go_at_call 65; refine (Tryz.Builder_String_any_k b b _ _ hI (by omega)).mono ?_; rintro r w4 ⟨rfl, _, hb4, _⟩)
          go_ret
          exact ⟨by rw [HT.out]; rfl, hBw.trans (hb4.mono (by omega))⟩
end Go.Proofs.YtmpjjmilodjecaaGreatDoor
namespace Go.Proofs.YtmpjjmilodjecaaGreatDoor
open Go.RowKit Go.Shelf
set_option linter.unusedVariables false
set_option linter.unusedSimpArgs false
attribute [local go_sem] Config.sz bw_cell
end Go.Proofs.YtmpjjmilodjecaaGreatDoor
