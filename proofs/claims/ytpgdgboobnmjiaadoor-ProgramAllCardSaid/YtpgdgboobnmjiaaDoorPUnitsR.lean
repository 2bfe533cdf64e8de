/- Units of a program: the document's walk. -/
import Derived.Test.YtpgdgboobnmjiaaDoorPRightR
namespace Go.Proofs.YtpgdgboobnmjiaaDoor
open Go.RowKit Go.Shelf
set_option linter.unusedVariables false
set_option linter.unusedSimpArgs false
attribute [local go_sem] GoOp.sz
set_option maxRecDepth 100000 in
set_option maxHeartbeats 8000000 in
theorem runits_c (v : Value) (xs : List GoOp) (w : World) (h : Sl GoOp.arr 3 w.heap.size w v xs) (hn : xs.length ≤ 1000000) :
    Calls Tryd.prog 30 #[v] w fun r w' => r = .returned (.int .i64 (T.units xs)) ∧ Below w.heap.size w w' := by
  obtain ⟨A, cap, rfl, hcap, hl1, hl2⟩ := h.view
  go_enter Tryd.func30, Tryd.ntmps30
  go_wp2
  go_loop [3, 4, 5] (fun u i m => ∃ k : Nat, k ≤ xs.length ∧ i = .int .i64 (k : Int) ∧ u = .int .i64 (T.units (xs.take k))) (fun _ i _ => xs.length - (intOf i).toNat)
  case atStart => exact ⟨0, Nat.zero_le _, rfl, rfl⟩
  case round =>
    obtain ⟨k, hk, rfl, rfl⟩ := hrel
    by_cases hkl : k < xs.length
    · have hkI : (k : Int) < (xs.length : Int) := by omega
      obtain ⟨bb, off, hA, hb, hrow, _⟩ := h.at hkl
      subst hA
      obtain ⟨x, hx⟩ : ∃ x, x = xs[k] := ⟨_, rfl⟩
      rw [← hx] at hrow
      have hbd := T.units_bd (xs.take k)
      rw [List.length_take] at hbd
      have HN := Lib.hid (show T.units (xs.take (k + 1)) = T.units (xs.take k) + T.unit x by rw [List.take_succ_eq_append_getElem hkl, T.units_snoc, ← hx])
      obtain ⟨u, hu⟩ : ∃ u, u = T.units (xs.take k) := ⟨_, rfl⟩
      rw [← hu] at hbd HN ⊢
      have hu0 : 0 ≤ u := hbd.1
      have hu1 : u ≤ 1000000000 := by omega
      have hwk : IntKind.i64.wrap ((k : Int) + 1) = (k : Int) + 1 := IntWalk.i64_in _ (by omega)
      rcases x with ⟨kd, a, b⟩
      have c0 : w.cell? ⟨bb, off + k * 3, none⟩ = some (.int .i64 kd) := rowAt_cell hrow 0 (by omega)
      have c1 : w.cell? ⟨bb, off + k * 3 + 1, none⟩ = some (.int .i64 a) := rowAt_cell hrow 1 (by omega)
      clear hu hx hbd hrow
      by_cases hk1 : kd = 1
      · subst hk1
        rcases f0 : decide (a < 0) with _ | _
        · have g0 := of_decide_eq_false f0
          rcases f1 : decide (1000 < a) with _ | _
          · have g1 := of_decide_eq_false f1
            have HU := Lib.hid (show T.unit ⟨1, a, b⟩ = a by simp [T.unit, g0, g1])
            have hwu : IntKind.i64.wrap (u + a) = u + a := IntWalk.i64_in _ (by omega)
            go_wp2
            go_round
            case rel => exact ⟨k + 1, by omega, by go_num, by rw [HN.out, HU.out]⟩
            case measure => simp [intOf] <;> omega
          · have g1 := of_decide_eq_true f1
            have HU := Lib.hid (show T.unit ⟨1, a, b⟩ = 1000 by simp [T.unit, g0, g1])
            have hwu : IntKind.i64.wrap (u + 1000) = u + 1000 := IntWalk.i64_in _ (by omega)
            go_wp2
            go_round
            case rel => exact ⟨k + 1, by omega, by go_num, by rw [HN.out, HU.out]⟩
            case measure => simp [intOf] <;> omega
        · have g0 := of_decide_eq_true f0
          have HU := Lib.hid (show T.unit ⟨1, a, b⟩ = 0 by simp [T.unit, g0])
          have hwu : IntKind.i64.wrap u = u := IntWalk.i64_in _ (by omega)
          go_wp2
          go_round
          case rel => exact ⟨k + 1, by omega, by go_num, by rw [HN.out, HU.out]; simp⟩
          case measure => simp [intOf] <;> omega
      · have e1 : (kd == 1) = false := by rw [beq_eq_false_iff_ne]; exact hk1
        have HU := Lib.hid (show T.unit ⟨kd, a, b⟩ = 1 by simp [T.unit, hk1])
        have hwu : IntKind.i64.wrap (u + 1) = u + 1 := IntWalk.i64_in _ (by omega)
        clear hk1
        go_wp2
        go_round
        case rel => exact ⟨k + 1, by omega, by go_num, by rw [HN.out, HU.out]⟩
        case measure => simp [intOf] <;> omega
    · have hkI : ¬ (k : Int) < (xs.length : Int) := by omega
      have hke : xs.take k = xs := List.take_of_length_le (by omega)
      rw [hke]
      clear hke
      go_wp2
      go_ret
      exact ⟨rfl, Below.refl _ _⟩
end Go.Proofs.YtpgdgboobnmjiaaDoor
