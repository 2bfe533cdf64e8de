/- Texts: the reference's Digits: what strconv.Itoa tells. -/
import Derived.Test.YtmpjjmilodjecaaGreatDoorFunc
import Derived.Test.YtmpjjmilodjecaaGreatDoorKept
import Derived.Shelf.Abstract
import Derived.Lib.ItoaMem
import Derived.Lib.ItoaLen
namespace Go.Proofs.YtmpjjmilodjecaaGreatDoor
open Go.RowKit Go.Shelf
set_option linter.unusedVariables false
set_option linter.unusedSimpArgs false
/-- A text, as a list of bytes. -/
abbrev strV (l : List UInt8) : Value := .string ⟨l.toArray⟩
theorem digit_slice (n : Nat) (h : n < 10) : (ByteArray.mk #[48, 49, 50, 51, 52, 53, 54, 55, 56, 57]).extract n (n + 1) = ⟨(Lib.decDigits n).toArray⟩ := by
  rw [Lib.decDigits_one h]
  match n, h with
  | 0, _ | 1, _ | 2, _ | 3, _ | 4, _ | 5, _ | 6, _ | 7, _ | 8, _ | 9, _ => rfl
theorem decDigits_more (n : Nat) (h : ¬ n < 10) : Lib.decDigits n = Lib.decDigits (n / 10) ++ Lib.decDigits (n % 10) := by
  rw [Lib.decDigits, dif_neg h, Lib.decDigits_one (show n % 10 < 10 by omega)]
theorem decDigits_len (n : Nat) (h : (n : Int) ≤ 9223372036854775808) : (Lib.decDigits n).length ≤ 21 := by
  by_cases h0 : n = 0
  · subst h0; rw [Lib.decDigits_one (by omega)]; simp
  · have := Lib.itoa_length_le (-(n : Int)) (by omega) (by omega)
    rw [Lib.itoa_neg n (by omega)] at this
    simp at this; omega
end Go.Proofs.YtmpjjmilodjecaaGreatDoor
