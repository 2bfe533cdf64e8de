/- The reference's audit: answered. -/
import Derived.Test.YtofifeicbhbgpaaDoorRefA
namespace Go.Proofs.YtofifeicbhbgpaaDoor
open Go.RowKit Go.Shelf
set_option linter.unusedVariables false
set_option linter.unusedSimpArgs false
theorem Event.cellsO {w : World} {g o : Nat} {e : Event} (h : rowAt w g o 18 = some (Event.arr e)) :
    w.cell? ⟨g, o, none⟩ = some (.int .i64 e.kind) ∧ w.cell? ⟨g, o + 4, none⟩ = some (.int .i64 e.key.id.node) ∧ w.cell? ⟨g, o + 5, none⟩ = some (.int .i64 e.key.id.inc) ∧ w.cell? ⟨g, o + 6, none⟩ = some (.int .i64 e.key.id.seq) ∧ w.cell? ⟨g, o + 7, none⟩ = some (.int .i64 e.key.att) ∧
    w.cell? ⟨g, o + 8, none⟩ = some (.int .i64 e.parent.id.node) ∧ w.cell? ⟨g, o + 9, none⟩ = some (.int .i64 e.parent.id.inc) ∧ w.cell? ⟨g, o + 10, none⟩ = some (.int .i64 e.parent.id.seq) ∧ w.cell? ⟨g, o + 11, none⟩ = some (.int .i64 e.parent.att) ∧
    w.cell? ⟨g, o + 16, none⟩ = some (.int .i64 e.code) ∧ w.cell? ⟨g, o + 17, none⟩ = some (.int .i64 e.value) :=
  ⟨rowAt_cell h 0 (by omega), rowAt_cell h 4 (by omega), rowAt_cell h 5 (by omega), rowAt_cell h 6 (by omega), rowAt_cell h 7 (by omega), rowAt_cell h 8 (by omega), rowAt_cell h 9 (by omega), rowAt_cell h 10 (by omega), rowAt_cell h 11 (by omega), rowAt_cell h 16 (by omega), rowAt_cell h 17 (by omega)⟩
def T.isAns (e x : Event) : Bool := (x.kind == 6) && ((x.code == 0) && (x.value == e.value))
def T.isBeg (e x y : Event) : Bool := (y.kind == 3) && (T.eqKey y.key x.key && T.eqKey y.parent e.key)
theorem T.answ_eq (e : Event) (xs : List Event) : xs.any (T.kd 6 (T.pEmpty e xs)) = xs.any (fun x => T.isAns e x && xs.any (T.isBeg e x)) := by
  congr 1
  funext x
  show ((x.kind == 6) && ((x.code == 0) && ((x.value == e.value) && xs.any (T.kd 3 (T.pStart e x))))) = (((x.kind == 6) && ((x.code == 0) && (x.value == e.value))) && xs.any (T.isBeg e x))
  rw [Bool.and_assoc, Bool.and_assoc]
  rfl
section
attribute [local go_sem] Event.sz bw_cell
attribute [local go_sem high] eqKL eqIL
set_option maxRecDepth 100000 in
set_option maxHeartbeats 8000000 in
theorem refAnswered_c (v : Value) (l : List Event) (n : Nat) (e : Event) (hn : l[n]? = some e) (w : World) (h : Sl Event.arr 18 w.heap.size w v l) :
    Calls Tryd.prog 71 #[v, .int .i64 (n : Int)] w fun r w' => r = .returned (.bool ((l.take n).any (T.kd 6 (T.pEmpty e (l.take n))))) ∧ Below w.heap.size w w' := by
  obtain ⟨A, cap, rfl, hcap, hl1, hl2⟩ := h.view
  obtain ⟨hnl, hne⟩ := List.getElem?_eq_some_iff.1 hn
  obtain ⟨b, off, hA, hb, hrow, _⟩ := h.at hnl
  cases hA
  rw [hne] at hrow
  rw [T.answ_eq]
  obtain ⟨xs, hxs⟩ : ∃ xs, xs = l.take n := ⟨_, rfl⟩
  rw [← hxs]
  have HX := Lib.hid hxs
  have HE := Lib.hid hrow
  clear hn hne hxs hrow
  go_enter Tryd.func71, Tryd.ntmps71
  go_wp2
  go_loopw [5] (fun i wr => ∃ k : Nat, k ≤ n ∧ i = .int .i64 (k : Int) ∧ Hid ((l.take k).any (fun x => T.isAns e x && xs.any (T.isBeg e x)) = false) ∧ Below w.heap.size w wr) (fun i _ => n - (intOf i).toNat)
  case atStart => exact ⟨0, Nat.zero_le _, rfl, Lib.hid rfl, Below.refl _ _⟩
  case round =>
    obtain ⟨k, hk, rfl, hno, hB⟩ := hrel
    by_cases hkl : k < n
    · obtain ⟨b2, off2, ho, hb2, hrow, _⟩ := ((h.below hB).mono hB.size).at (show k < l.length by omega)
      cases ho
      obtain ⟨x, hx⟩ : ∃ x, x = l[k] := ⟨_, rfl⟩
      rw [← hx] at hrow
      have hxo : l[k]? = some x := by rw [hx]; exact List.getElem?_eq_getElem (by omega)
      have hxm : x ∈ xs := by rw [HX.out]; exact List.mem_take_iff_getElem.2 ⟨k, by omega, hx.symm⟩
      have HN := Lib.hid (show (l.take (k + 1)).any (fun x => T.isAns e x && xs.any (T.isBeg e x)) = ((l.take k).any (fun x => T.isAns e x && xs.any (T.isBeg e x)) || (T.isAns e x && xs.any (T.isBeg e x))) by rw [List.take_add_one, hxo]; simp [List.any_append])
      have RX := Lib.hid hrow
      have HM := Lib.hid hxm
      clear hx hxo hrow hxm
      go_wp2
      go_loopw [6] (fun i X => ∃ j : Nat, j ≤ n ∧ i = .int .i64 (j : Int) ∧ Hid ((T.isAns e x && (l.take j).any (T.isBeg e x)) = false) ∧ Below w.heap.size w X ∧ Below wr.heap.size wr X) (fun i _ => n - (intOf i).toNat)
      case atStart => exact ⟨0, Nat.zero_le _, rfl, Lib.hid (by simp), hB, Below.refl _ _⟩
      case round =>
        obtain ⟨j, hj, rfl, hnj, hBX, hBrX⟩ := hrel
        by_cases hjl : j < n
        · obtain ⟨b3, off3, ho, hb3, hrow, _⟩ := ((h.below hBX).mono hBX.size).at (show j < l.length by omega)
          cases ho
          obtain ⟨y, hy⟩ : ∃ y, y = l[j] := ⟨_, rfl⟩
          rw [← hy] at hrow
          have hyo : l[j]? = some y := by rw [hy]; exact List.getElem?_eq_getElem (by omega)
          have hym : y ∈ xs := by rw [HX.out]; exact List.mem_take_iff_getElem.2 ⟨j, by omega, hy.symm⟩
          have HNj := Lib.hid (show (l.take (j + 1)).any (T.isBeg e x) = ((l.take j).any (T.isBeg e x) || T.isBeg e x y) by rw [List.take_add_one, hyo]; simp [List.any_append])
          have HMy := Lib.hid hym
          have rX := (rowAt_block (hBrX.block b hb2)).trans RX.out
          have rE := (rowAt_block (hBX.block b hb)).trans HE.out
          obtain ⟨y0, y4, y5, y6, y7, y8, y9, y10, y11, y16, y17⟩ := Event.cellsO hrow
          obtain ⟨x0, x4, x5, x6, x7, _, _, _, _, x16, x17⟩ := Event.cellsO rX
          obtain ⟨_, m4, m5, m6, m7, _, _, _, _, m16, m17⟩ := Event.cellsO rE
          have HH := Lib.hid h
          clear hy hyo hym hrow rX rE h
          rcases and3 (x.kind == 6) (x.code == 0) (x.value == e.value) with ⟨ha, g1⟩ | ⟨ha, g1, g2⟩ | ⟨ha, g1, g2, g3⟩ | ⟨ha, g1, g2, g3⟩
          iterate 3
            · have HA := Lib.hid (show T.isAns e x = false from ha)
              clear ha
              go_wp2
              refine wp_region_calm (by kernel_rfl) (by kernel_rfl) ?_
              repeat ((fail_if_success (with_reducible refine wpQuiet_nil ?_)); (first | go_big_quiet_skip | go_big_quiet_step (fail)))
              refine wpQuiet_nil ?_
              rintro _ ⟨⟨X6, hb6⟩, rfl⟩
              go_wp2
              go_roundw
              case rel => exact ⟨j + 1, by omega, by go_num, Lib.hid (by rw [HA.out]; rfl), bthen hBX hb6, bthen hBrX hb6⟩
              case measure => simp [intOf]; omega
          · have HA := Lib.hid (show T.isAns e x = true from ha)
            clear ha
            rcases and3 (y.kind == 3) (T.eqKey y.key x.key) (T.eqKey y.parent e.key) with ⟨hc, q1⟩ | ⟨hc, q1, q2⟩ | ⟨hc, q1, q2, q3⟩ | ⟨hc, q1, q2, q3⟩
            iterate 3
              · have HC := Lib.hid (show T.isBeg e x y = false from hc)
                clear hc
                try replace q2 := T.eqKey_u q2
                try replace q3 := T.eqKey_u q3
                go_wp2
                refine wp_region_calm (by kernel_rfl) (by kernel_rfl) ?_
                repeat ((fail_if_success (with_reducible refine wpQuiet_nil ?_)); (first | go_big_quiet_skip | go_big_quiet_step (fail)))
                refine wpQuiet_nil ?_
                rintro _ ⟨⟨X6, hb6⟩, rfl⟩
                go_wp2
                go_roundw
                case rel => exact ⟨j + 1, by omega, by go_num, Lib.hid (by have := hnj.out; rw [HA.out, Bool.true_and] at this ⊢; rw [HNj.out, this, HC.out]; rfl), bthen hBX hb6, bthen hBrX hb6⟩
                case measure => simp [intOf]; omega
            · have HC := Lib.hid (show T.isBeg e x y = true from hc)
              clear hc
              replace q2 := T.eqKey_u q2
              replace q3 := T.eqKey_u q3
              have HR := Lib.hid (show xs.any (fun x => T.isAns e x && xs.any (T.isBeg e x)) = true from List.any_eq_true.2 ⟨x, HM.out, by rw [HA.out, Bool.true_and]; exact List.any_eq_true.2 ⟨y, HMy.out, HC.out⟩⟩)
              go_wp2
              refine wp_region_calm (by kernel_rfl) (by kernel_rfl) ?_
              repeat ((fail_if_success (with_reducible refine wpQuiet_nil ?_)); (first | go_big_quiet_skip | go_big_quiet_step (fail)))
              refine wpQuiet_nil ?_
              rintro _ ⟨⟨X6, hb6⟩, rfl⟩
              go_wp2
              go_ret
              exact ⟨ret_bool HR.out.symm, bthen hBX hb6⟩
        · obtain rfl : j = n := by omega
          have HR := Lib.hid (show (l.take (k + 1)).any (fun x => T.isAns e x && xs.any (T.isBeg e x)) = false by rw [HN.out, hno.out, HX.out, hnj.out]; rfl)
          go_wp2
          go_roundw
          case rel => exact ⟨k + 1, by omega, by go_num, HR, hBX⟩
          case measure => simp [intOf]; omega
    · obtain rfl : k = n := by omega
      have HR := Lib.hid (show xs.any (fun x => T.isAns e x && xs.any (T.isBeg e x)) = false by have := hno.out; rw [← HX.out] at this; exact this)
      go_wp2
      go_ret
      exact ⟨ret_bool HR.out.symm, hB⟩
end
end Go.Proofs.YtofifeicbhbgpaaDoor
