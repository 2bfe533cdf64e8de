/- Texts: the reference's Digits: what strconv.Itoa tells. -/
import Derived.Test.YtpgdgboobnmjiaaGreatDoorFunc
import Derived.Test.YtpgdgboobnmjiaaGreatDoorKept
import Derived.Shelf.Abstract
import Derived.Lib.ItoaMem
import Derived.Lib.ItoaLen
namespace Go.Proofs.YtpgdgboobnmjiaaGreatDoor
open Go.RowKit Go.Shelf
set_option linter.unusedVariables false
set_option linter.unusedSimpArgs false
/-- A text, as a list of bytes. -/
abbrev strV (l : List UInt8) : Value := .string ⟨l.toArray⟩
theorem digit_slice (n : Nat) (h : n < 10) : (ByteArray.mk #[48, 49, 50, 51, 52, 53, 54, 55, 56, 57]).extract n (n + 1) = ⟨(Lib.decDigits n).toArray⟩ := by
  rw [Lib.decDigits_one h]
  match n, h with
  | 0, _ | 1, _ | 2, _ | 3, _ | 4, _ | 5, _ | 6, _ | 7, _ | 8, _ | 9, _ => rfl
theorem decDigits_more (n : Nat) (h : ¬ n < 10) : Lib.decDigits n = Lib.decDigits (n / 10) ++ Lib.decDigits (n % 10) := by
  rw [Lib.decDigits, dif_neg h, Lib.decDigits_one (show n % 10 < 10 by omega)]
theorem decDigits_len (n : Nat) (h : (n : Int) ≤ 9223372036854775808) : (Lib.decDigits n).length ≤ 21 := by
  by_cases h0 : n = 0
  · subst h0; rw [Lib.decDigits_one (by omega)]; simp
  · have := Lib.itoa_length_le (-(n : Int)) (by omega) (by omega)
    rw [Lib.itoa_neg n (by omega)] at this
    simp at this; omega
set_option maxRecDepth 100000 in
set_option maxHeartbeats 1000000 in
theorem digits_nat (n : Nat) : n ≤ 9223372036854775807 → ∀ w : World, Calls Tryz.prog 28 #[.int .i64 (n : Int)] w fun r w' => r = .returned (strV (Lib.decDigits n)) ∧ Below w.heap.size w w' := by
  induction n using Nat.strongRecOn with
  | _ n ih =>
  intro hn w
  have h0 : decide ((n : Int) < 0) = false := by simp
  by_cases h10 : n < 10
  · have h1 : decide ((n : Int) < 10) = true := by simp; omega
    have HS := Lib.hid (digit_slice n h10)
    go_enter Tryz.func28, Tryz.ntmps28
    go_wp2
    go_ret
    exact ⟨by rw [HS.out]; rfl, Below.refl _ _⟩
  · have h1 : decide ((n : Int) < 10) = false := by simp; omega
    have hq : Int.tdiv (n : Int) 10 = ((n / 10 : Nat) : Int) := by rw [Int.tdiv_eq_ediv_of_nonneg (by omega)]; omega
    have hr : Int.tmod (n : Int) 10 = ((n % 10 : Nat) : Int) := by rw [Int.tmod_eq_emod_of_nonneg (by omega)]; omega
    have HS := Lib.hid (digit_slice (n % 10) (by omega))
    have HM := Lib.hid (decDigits_more n h10)
    have hl1 := decDigits_len (n / 10) (by omega)
    have hb : n % 10 < 10 := by omega
    have HI := ih (n / 10) (by omega) (by omega)
    go_enter Tryz.func28, Tryz.ntmps28
    go_wp2
    refine wp_region_calm (by kernel_rfl) (by kernel_rfl) ?_
    repeat ((fail_if_success (with_reducible refine wpQuiet_nil ?_)); (first | go_big_quiet_skip | go_big_quiet_step ((go_at_call 28; exact calm_of (HI _)))))
    refine wpQuiet_nil ?_
    rintro _ ⟨⟨X2, hb2⟩, rfl⟩
    rw [HS.out, ByteArray.mk_append_mk, ← HM.out]
    go_wp2
    go_ret
    exact ⟨rfl, hb2⟩
set_option maxRecDepth 100000 in
set_option maxHeartbeats 1000000 in
theorem digits_c (n : Int) (h0 : -9223372036854775808 ≤ n) (h1 : n ≤ 9223372036854775807) (w : World) :
    Calls Tryz.prog 28 #[.int .i64 n] w fun r w' => r = .returned (strV (Lib.itoa n)) ∧ Below w.heap.size w w' := by
  by_cases hs : 0 ≤ n
  · obtain ⟨m, rfl⟩ : ∃ m : Nat, n = (m : Int) := ⟨n.toNat, by omega⟩
    rw [Lib.itoa_nonneg]
    exact digits_nat m (by omega) w
  · obtain ⟨m, rfl⟩ : ∃ m : Nat, n = -(m : Int) := ⟨(-n).toNat, by omega⟩
    have hI := Lib.hid (Lib.itoa_neg m (by omega))
    have a0 : decide (-(m : Int) < 0) = true := by simp; omega
    by_cases h10 : m < 10
    · have a1 : decide (-(m : Int) > -10) = true := by simp; omega
      have a2 : (0 : Int) - (-(m : Int)) = (m : Int) := by omega
      have HI := digits_nat m (by omega)
      have hl := decDigits_len m (by omega)
      go_enter Tryz.func28, Tryz.ntmps28
      go_wp2_with (go_at_call 28; (with_reducible refine (HI _).mono ?_); rintro r w4 ⟨rfl, hb4⟩)
      go_ret
      exact ⟨by rw [hI.out, ByteArray.mk_append_mk]; rfl, hb4⟩
    · have a1 : decide (-(m : Int) > -10) = false := by simp; omega
      have hq : (0 : Int) - Int.tdiv (-(m : Int)) 10 = ((m / 10 : Nat) : Int) := by rw [Int.neg_tdiv, Int.tdiv_eq_ediv_of_nonneg (by omega)]; omega
      have hr : (0 : Int) - Int.tmod (-(m : Int)) 10 = ((m % 10 : Nat) : Int) := by rw [Int.neg_tmod, Int.tmod_eq_emod_of_nonneg (by omega)]; omega
      have HM := Lib.hid (decDigits_more m h10)
      have hl1 := decDigits_len (m / 10) (by omega)
      have hl2 := decDigits_len (m % 10) (by omega)
      have HI := digits_nat (m / 10) (by omega)
      have HJ := digits_nat (m % 10) (by omega)
      rw [show ((m / 10 : Nat) : Int) = (m : Int) / 10 from by omega] at HI
      rw [show ((m % 10 : Nat) : Int) = (m : Int) % 10 from by omega] at HJ
      go_enter Tryz.func28, Tryz.ntmps28
      go_wp2_with (go_at_call 28; (first | (with_reducible refine (HI _).mono ?_; rintro r w4 ⟨rfl, hb4⟩) | (with_reducible refine (HJ _).mono ?_; rintro r w5 ⟨rfl, hb5⟩)))
      go_ret
      exact ⟨by rw [hI.out, HM.out, ByteArray.mk_append_mk, ByteArray.mk_append_mk]; rfl, bthen hb4 hb5⟩
end Go.Proofs.YtpgdgboobnmjiaaGreatDoor
