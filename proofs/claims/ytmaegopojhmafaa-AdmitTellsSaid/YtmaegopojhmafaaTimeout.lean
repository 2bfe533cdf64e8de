/- Contracts of timeout: a span as text, read. -/
import Derived.Test.YtmaegopojhmafaaTicks
namespace Go.Proofs.Ytmaegopojhmafaa
open Go.RowKit

def T.unit (c : Int) : Int := if c = 72 then 3600000000 else if c = 77 then 60000000 else if c = 83 then 1000000 else if c = 109 then 1000 else if c = 117 then 1 else 0
set_option maxHeartbeats 400000 in
theorem unit_c (a : Int) (w : World) :
    Calls Try.prog 76 #[.int .u8 a] w fun e w' => e = .returned (.int .i64 (T.unit a)) ∧ w = w' := by
  unfold T.unit
  by_cases h0 : a = 72
  · subst h0
    go_enter Try.func76, Try.ntmps76
    go_wp2
    go_ret
    exact ⟨rfl, rfl⟩
  by_cases h1 : a = 77
  · subst h1
    go_enter Try.func76, Try.ntmps76
    go_wp2
    go_ret
    exact ⟨rfl, rfl⟩
  by_cases h2 : a = 83
  · subst h2
    go_enter Try.func76, Try.ntmps76
    go_wp2
    go_ret
    exact ⟨rfl, rfl⟩
  by_cases h3 : a = 109
  · subst h3
    go_enter Try.func76, Try.ntmps76
    go_wp2
    go_ret
    exact ⟨rfl, rfl⟩
  by_cases h4 : a = 117
  · subst h4
    go_enter Try.func76, Try.ntmps76
    go_wp2
    go_ret
    exact ⟨rfl, rfl⟩
  rw [if_neg h0, if_neg h1, if_neg h2, if_neg h3, if_neg h4]
  have h0 : (a == 72) = false := by simpa using h0
  have h1 : (a == 77) = false := by simpa using h1
  have h2 : (a == 83) = false := by simpa using h2
  have h3 : (a == 109) = false := by simpa using h3
  have h4 : (a == 117) = false := by simpa using h4
  go_enter Try.func76, Try.ntmps76
  go_wp2
  go_ret
  exact ⟨rfl, rfl⟩

def T.num : List UInt8 → Int → Option Int
  | [], n => some n
  | c :: l, n => if (c.toNat : Int) < 48 ∨ 57 < (c.toNat : Int) then none else T.num l (10 * n + (c.toNat - 48))
theorem T.num_snoc (c : UInt8) : ∀ (l : List UInt8) (n : Int), T.num (l ++ [c]) n = (T.num l n).bind fun m => if (c.toNat : Int) < 48 ∨ 57 < (c.toNat : Int) then none else some (10 * m + (c.toNat - 48))
  | [], n => by simp [T.num]
  | d :: l, n => by
    simp only [List.cons_append, T.num]
    split
    · rfl
    · exact T.num_snoc c l _
theorem T.num_none (m : List UInt8) : ∀ (l : List UInt8) (n : Int), T.num l n = none → T.num (l ++ m) n = none
  | [], n => by simp [T.num]
  | d :: l, n => by
    simp only [List.cons_append, T.num]
    split
    · simp
    · exact T.num_none m l _
theorem T.num_bd : ∀ (l : List UInt8) (n m : Int) (b : Int), 0 ≤ n → n < b → T.num l n = some m → 0 ≤ m ∧ m < b * 10 ^ l.length
  | [], n, m, b, h0, h1, h => by simp [T.num] at h; subst h; simp; omega
  | d :: l, n, m, b, h0, h1, h => by
    simp only [T.num] at h
    split at h
    · cases h
    · rename_i hc
      have := T.num_bd l (10 * n + (d.toNat - 48)) m (b * 10) (by omega) (by omega) h
      rw [List.length_cons, Int.pow_succ, Int.mul_comm (10 ^ l.length) 10, ← Int.mul_assoc]
      exact this
def T.decode (s : List UInt8) : Int × Int :=
  if s.length < 2 ∨ 9 < s.length then (0, 3) else
  match T.num (s.take (s.length - 1)) 0 with
  | none => (0, 5)
  | some n =>
    if s.getD (s.length - 1) 0 = 110 then (n / 1000, 0)
    else if T.unit (s.getD (s.length - 1) 0).toNat = 0 then (0, 5) else (T.mul n (T.unit (s.getD (s.length - 1) 0).toNat), 0)

theorem T.take_snoc (s : ByteArray) (k : Nat) (h : k < s.size) : s.data.toList.take (k + 1) = s.data.toList.take k ++ [s[k]] := by
  rw [List.take_succ_eq_append_getElem (by simpa using h)]; rfl
set_option maxHeartbeats 1000000 in
theorem decode_c (s : ByteArray) (w : World) :
    Calls Try.prog 66 #[.string s] w fun e w' => e = .returned (.tuple #[.int .i64 (T.decode s.data.toList).1, .int .i64 (T.decode s.data.toList).2]) ∧ w = w' := by
  by_cases hs : s.size < 2 ∨ 9 < s.size
  · have hd : T.decode s.data.toList = (0, 3) := by unfold T.decode; rw [if_pos (by simpa using hs)]
    have HD := Lib.hid hd
    clear hd
    rcases hs with hs | hs
    · go_enter Try.func66, Try.ntmps66
      go_wp2
      go_ret2
      exact ⟨ret_ii HD.out, rfl⟩
    · go_enter Try.func66, Try.ntmps66
      go_wp2
      go_ret2
      exact ⟨ret_ii HD.out, rfl⟩
  · have hs1 : 2 ≤ s.size := by omega
    have hs2 : s.size ≤ 9 := by omega
    have hd : T.decode s.data.toList = match T.num (s.data.toList.take (s.size - 1)) 0 with
      | none => (0, 5)
      | some n =>
        if s.data.toList.getD (s.size - 1) 0 = 110 then (n / 1000, 0)
        else if T.unit (s.data.toList.getD (s.size - 1) 0).toNat = 0 then (0, 5) else (T.mul n (T.unit (s.data.toList.getD (s.size - 1) 0).toNat), 0) := by
      unfold T.decode; rw [if_neg (by simpa using hs)]; rfl
    have HD := Lib.hid hd
    clear hd hs
    go_enter Try.func66, Try.ntmps66
    go_wp2
    go_loop [4, 19] (fun n i => ∃ (k : Nat) (m : Int), k ≤ s.size - 1 ∧ i = .int .i64 k ∧ n = .int .i64 m ∧ Hid (T.num (s.data.toList.take k) 0 = some m)) (fun _ i => s.size - (intOf i).toNat)
    case atStart => exact ⟨0, 0, Nat.zero_le _, rfl, rfl, rfl⟩
    case round =>
      obtain ⟨k, m, hk, rfl, rfl, Hm⟩ := hrel
      have hb := T.num_bd _ 0 m 1 (by omega) (by omega) Hm.out
      have hp : (10 : Int) ^ (s.data.toList.take k).length ≤ 10 ^ 8 := by
        have : (10 : Nat) ^ (s.data.toList.take k).length ≤ 10 ^ 8 := Nat.pow_le_pow_right (by omega) (by rw [List.length_take]; omega)
        exact_mod_cast this
      have hb1 : 0 ≤ m := hb.1
      have hb2 : m < 100000000 := by have := hb.2; omega
      clear hb hp
      by_cases hlt : k < s.size - 1
      · have hks : k < s.size := by omega
        have hsn := T.num_snoc s[k] (s.data.toList.take k) 0
        rw [← T.take_snoc s k hks, Hm.out, Option.bind_some] at hsn
        have hnn := T.num_none (((s.data.toList.take (s.size - 1)).drop (k + 1))) (s.data.toList.take (k + 1)) 0
        have ht : s.data.toList.take (k + 1) ++ (s.data.toList.take (s.size - 1)).drop (k + 1) = s.data.toList.take (s.size - 1) := by
          have h2 := List.take_append_drop (k + 1) (s.data.toList.take (s.size - 1))
          rw [List.take_take, Nat.min_eq_left (by omega)] at h2
          exact h2
        rw [ht] at hnn
        have hbad : (s[k].toNat : Int) < 48 ∨ 57 < (s[k].toNat : Int) → T.decode s.data.toList = (0, 5) := by
          intro h
          rw [if_pos h] at hsn
          have e := hnn hsn
          rw [HD.out, e]
        have hgood : 48 ≤ (s[k].toNat : Int) → (s[k].toNat : Int) ≤ 57 → T.num (s.data.toList.take (k + 1)) 0 = some (10 * m + (s[k].toNat - 48)) := by
          intro h1 h2
          rw [if_neg (by omega)] at hsn
          exact hsn
        have HB := Lib.hid hbad
        have HG := Lib.hid hgood
        clear hsn hnn ht hbad hgood
        go_wp2
        · go_ret2
          exact ⟨ret_ii (HB.out (by omega)), rfl⟩
        · exact ⟨⟨k + 1, _, by omega, by go_num, rfl, HG.out (by omega) (by omega)⟩, by simp [intOf]; omega⟩
        · go_ret2
          exact ⟨ret_ii (HB.out (by omega)), rfl⟩
      · obtain rfl : k = s.size - 1 := by omega
        have hgd : s.data.toList.getD (s.size - 1) 0 = s[s.size - 1] := by
          rw [List.getD_eq_getElem?_getD, List.getElem?_eq_getElem (by simp; omega)]; rfl
        have hd := HD.out
        rw [Hm.out, hgd] at hd
        have hl : s.size - 1 < s.size := by omega
        clear HD Hm hgd hlt
        have hlast : (s[s.size - 1].toNat : Int) = 110 ↔ s[s.size - 1] = 110 := by
          rw [← UInt8.toNat_inj]; simp; omega
        by_cases hn : s[s.size - 1] = 110
        · have h110 : ((s[s.size - 1].toNat : Int) == 110) = true := by rw [hn]; rfl
          have hd' : T.decode s.data.toList = (m / 1000, 0) := by rw [hd]; simp [hn]
          have HD := Lib.hid hd'
          clear hd hd' hn hlast
          go_wp2
          go_ret2
          exact ⟨ret_ii HD.out, rfl⟩
        · have h110 : ((s[s.size - 1].toNat : Int) == 110) = false := by
            rw [beq_eq_false_iff_ne]; exact fun h => hn (hlast.1 h)
          simp only [if_neg hn] at hd
          by_cases hu : T.unit (s[s.size - 1].toNat) = 0
          · have hu0 : (T.unit (s[s.size - 1].toNat) == 0) = true := by rw [hu]; rfl
            rw [if_pos hu] at hd
            have HD := Lib.hid hd
            clear hd hn hlast hu
            go_wp2_with (first | (go_at_call 76; (with_reducible refine (unit_c _ _).mono ?_); rintro e w' ⟨rfl, rfl⟩) | (go_at_call 77; (with_reducible refine (mul_c _ _ _).mono ?_); rintro e w' ⟨rfl, rfl⟩))
            go_ret2
            exact ⟨ret_ii HD.out, rfl⟩
          · have hu0 : (T.unit (s[s.size - 1].toNat) == 0) = false := by rw [beq_eq_false_iff_ne]; exact hu
            rw [if_neg hu] at hd
            have HD := Lib.hid hd
            clear hd hn hlast hu
            go_wp2_with (first | (go_at_call 76; (with_reducible refine (unit_c _ _).mono ?_); rintro e w' ⟨rfl, rfl⟩) | (go_at_call 77; (with_reducible refine (mul_c _ _ _).mono ?_); rintro e w' ⟨rfl, rfl⟩))
            go_ret2
            exact ⟨ret_ii HD.out, rfl⟩
end Go.Proofs.Ytmaegopojhmafaa
