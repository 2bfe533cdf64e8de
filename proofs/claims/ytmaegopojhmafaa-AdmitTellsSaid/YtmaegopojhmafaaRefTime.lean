/- Contracts of the document's own ticks, timeouts and deadlines: the same plain functions. -/
import Derived.Test.YtmaegopojhmafaaBudget
namespace Go.Proofs.Ytmaegopojhmafaa
open Go.RowKit

set_option maxHeartbeats 400000 in
theorem rclamp_c (a : Int) (w : World) :
    Calls Try.prog 33 #[.int .i64 a] w fun e w' => e = .returned (.int .i64 (T.clamp a)) ∧ w = w' := by
  go_enter Try.func33, Try.ntmps33
  go_wp2
  all_goals go_ret
  all_goals exact ⟨ret_int (by unfold T.clamp; split <;> (try split) <;> omega), rfl⟩
set_option maxHeartbeats 400000 in
theorem radd_c (a b : Int) (w : World) :
    Calls Try.prog 70 #[.int .i64 a, .int .i64 b] w fun e w' => e = .returned (.int .i64 (T.add a b)) ∧ w = w' := by
  have h1 := T.clamp_bd a
  have h2 := T.clamp_bd b
  have hE : T.add a b = if 1125899906842624 < T.clamp a + T.clamp b then 1125899906842624 else T.clamp a + T.clamp b := by
    unfold T.add
    have hx : 0 ≤ T.clamp a + T.clamp b := by omega
    generalize T.clamp a + T.clamp b = x at *
    unfold T.clamp; split <;> (try split) <;> omega
  have HE := Lib.hid hE
  clear hE
  go_enter Try.func70, Try.ntmps70
  go_wp2_with (go_at_call 33; (with_reducible refine (rclamp_c _ _).mono ?_); rintro e w' ⟨rfl, rfl⟩)
  all_goals go_ret
  all_goals exact ⟨ret_int (by rw [HE.out]; split <;> omega), rfl⟩
set_option maxHeartbeats 400000 in
theorem rsub_c (a b : Int) (w : World) :
    Calls Try.prog 68 #[.int .i64 a, .int .i64 b] w fun e w' => e = .returned (.int .i64 (T.sub a b)) ∧ w = w' := by
  have h1 := T.clamp_bd a
  have h2 := T.clamp_bd b
  go_enter Try.func68, Try.ntmps68
  go_wp2_with (go_at_call 33; (with_reducible refine (rclamp_c _ _).mono ?_); rintro e w' ⟨rfl, rfl⟩)
  all_goals go_ret
  all_goals exact ⟨ret_int (by unfold T.sub; split <;> omega), rfl⟩

def T.cap (n : Int) : Int := if 1125899906842624 < n then 1125899906842624 else n
theorem T.mul_cap (a b : Int) : T.mul a b = T.cap (T.clamp a * T.clamp b) := by
  have h1 := T.clamp_bd a
  have h2 := T.clamp_bd b
  unfold T.mul T.cap
  generalize T.clamp a = x at *
  generalize T.clamp b = y at *
  by_cases hy : 0 < y
  · have hk : 1125899906842624 / y < x ↔ 1125899906842624 < x * y := by
      constructor
      · intro h
        have := Int.lt_mul_of_ediv_lt hy h
        exact this
      · intro h
        by_cases hq : 1125899906842624 / y < x
        · exact hq
        · have := (Int.le_ediv_iff_mul_le hy).1 (show x ≤ 1125899906842624 / y by omega)
          omega
    by_cases hq : 1125899906842624 < x * y
    · rw [if_pos ⟨hy, hk.2 hq⟩, if_pos hq]
    · rw [if_neg (fun h => hq (hk.1 h.2)), if_neg hq]
  · have : y = 0 := by omega
    subst this
    simp
theorem T.add_cap {a b : Int} (h0 : 0 ≤ a) (h1 : a ≤ 1125899906842624) (h2 : 0 ≤ b) (h3 : b ≤ 1125899906842624) : T.add a b = T.cap (a + b) := by
  have e1 : T.clamp a = a := by unfold T.clamp; rw [if_neg (by omega), if_neg (by omega)]
  have e2 : T.clamp b = b := by unfold T.clamp; rw [if_neg (by omega), if_neg (by omega)]
  unfold T.add
  rw [e1, e2]
  unfold T.clamp T.cap
  split <;> (try split) <;> omega
theorem T.cap_bd {n : Int} (h : 0 ≤ n) : 0 ≤ T.cap n ∧ T.cap n ≤ 1125899906842624 := by unfold T.cap; split <;> omega
/-- One round of the document's product. -/
theorem T.cap_step (o a m : Int) (ho : 0 ≤ o) (ha : 0 ≤ a) (hm : 0 ≤ m) (k : Int) (hk : k = o ∨ k = T.cap (o + a)) (d : Int) (hd : d = 2 * m ∧ k = o ∨ d = 2 * m + 1 ∧ k = T.cap (o + a)) :
    T.cap (k + T.cap (a + a) * m) = T.cap (o + a * d) := by
  have hx : 0 ≤ a * m := Int.mul_nonneg ha hm
  have e2 : a * (2 * m) = 2 * (a * m) := by rw [← Int.mul_assoc, Int.mul_comm a 2, Int.mul_assoc]
  have e3 : a * (2 * m + 1) = 2 * (a * m) + a := by rw [Int.mul_add, e2, Int.mul_one]
  have e4 : (a + a) * m = 2 * (a * m) := by rw [Int.add_mul]; omega
  by_cases h2 : 1125899906842624 < a + a
  · have e5 : T.cap (a + a) = 1125899906842624 := by unfold T.cap; rw [if_pos h2]
    rw [e5]
    by_cases hm0 : m = 0
    · subst hm0
      simp only [Int.mul_zero, Int.add_zero] at *
      rcases hd with ⟨rfl, rfl⟩ | ⟨rfl, rfl⟩
      · simp
      · simp only [Int.zero_add, Int.mul_one]
        unfold T.cap; split <;> (try split) <;> omega
    · have h3 : a ≤ a * m := by
        have := Int.mul_le_mul_of_nonneg_left (show 1 ≤ m by omega) ha
        rwa [Int.mul_one] at this
      have hk0 : 0 ≤ k := by
        rcases hk with rfl | rfl
        · exact ho
        · exact (T.cap_bd (by omega)).1
      have hl : T.cap (k + 1125899906842624 * m) = 1125899906842624 := by
        unfold T.cap
        split
        · rfl
        · omega
      rw [hl]
      rcases hd with ⟨rfl, _⟩ | ⟨rfl, _⟩
      · rw [e2]; unfold T.cap; rw [if_pos (by omega)]
      · rw [e3]; unfold T.cap; rw [if_pos (by omega)]
  · have e5 : T.cap (a + a) = a + a := by unfold T.cap; rw [if_neg h2]
    rw [e5, e4]
    rcases hd with ⟨rfl, rfl⟩ | ⟨rfl, rfl⟩
    · rw [e2]
    · rw [e3]; unfold T.cap; split <;> (repeat' split) <;> omega

set_option maxHeartbeats 1000000 in
theorem rmul_c (a b : Int) (w : World) :
    Calls Try.prog 79 #[.int .i64 a, .int .i64 b] w fun e w' => e = .returned (.int .i64 (T.mul a b)) ∧ w = w' := by
  have h1 := T.clamp_bd a
  have h2 := T.clamp_bd b
  have HM := Lib.hid (T.mul_cap a b)
  go_enter Try.func79, Try.ntmps79
  go_wp2_with (go_at_call 33; (with_reducible refine (rclamp_c _ _).mono ?_); rintro e w' ⟨rfl, rfl⟩)
  go_loop [0, 1, 5] (fun x n o => ∃ X N O : Int, x = .int .i64 X ∧ n = .int .i64 N ∧ o = .int .i64 O ∧ 0 ≤ X ∧ X ≤ 1125899906842624 ∧ 0 ≤ N ∧ N ≤ 1125899906842624 ∧ 0 ≤ O ∧ O ≤ 1125899906842624 ∧ Hid (T.cap (O + X * N) = T.cap (T.clamp a * T.clamp b))) (fun _ n _ => (intOf n).toNat)
  case atStart => exact ⟨_, _, 0, rfl, rfl, rfl, h1.1, h1.2, h2.1, h2.2, by omega, by omega, by rw [Int.zero_add]; rfl⟩
  case round =>
    obtain ⟨X, N, O, rfl, rfl, rfl, x0, x1, n0, n1, o0, o1, HI⟩ := hrel
    have c1 := T.cap_bd (show 0 ≤ O + X by omega)
    have c2 := T.cap_bd (show 0 ≤ X + X by omega)
    have A1 := Lib.hid (T.add_cap o0 o1 x0 x1)
    have A2 := Lib.hid (T.add_cap x0 x1 x0 x1)
    clear h1 h2
    by_cases hn : 0 < N
    · by_cases hodd : N % 2 = 1
      · have hb : (N % 2 == 1) = true := by rw [hodd]; rfl
        have S := Lib.hid (T.cap_step O X (N / 2) o0 x0 (by omega) _ (.inr rfl) N (.inr ⟨by omega, rfl⟩))
        clear hodd
        go_wp2_with (go_at_call 70; (with_reducible refine (radd_c _ _ _).mono ?_); rintro e w' ⟨rfl, rfl⟩)
        exact ⟨⟨_, _, _, rfl, rfl, rfl, by rw [A2.out]; exact c2.1, by rw [A2.out]; exact c2.2, by omega, by omega, by rw [A1.out]; exact c1.1, by rw [A1.out]; exact c1.2, by rw [A1.out, A2.out]; exact S.out.trans HI.out⟩, by simp [intOf]; omega⟩
      · have hb : (N % 2 == 1) = false := by rw [beq_eq_false_iff_ne]; exact hodd
        have S := Lib.hid (T.cap_step O X (N / 2) o0 x0 (by omega) _ (.inl rfl) N (.inl ⟨by omega, rfl⟩))
        clear hodd
        go_wp2_with (go_at_call 70; (with_reducible refine (radd_c _ _ _).mono ?_); rintro e w' ⟨rfl, rfl⟩)
        exact ⟨⟨_, _, _, rfl, rfl, rfl, by rw [A2.out]; exact c2.1, by rw [A2.out]; exact c2.2, by omega, by omega, o0, o1, by rw [A2.out]; exact S.out.trans HI.out⟩, by simp [intOf]; omega⟩
    · go_wp2
      go_ret
      have hN : N = 0 := by omega
      subst hN
      have := HI.out
      rw [Int.mul_zero, Int.add_zero] at this
      exact ⟨ret_int (by rw [HM.out, ← this]; unfold T.cap; rw [if_neg (by omega)]), rfl⟩

set_option maxHeartbeats 400000 in
theorem runit_c (a : Int) (w : World) :
    Calls Try.prog 78 #[.int .u8 a] w fun e w' => e = .returned (.int .i64 (T.unit a)) ∧ w = w' := by
  unfold T.unit
  by_cases h0 : a = 72
  · subst h0
    go_enter Try.func78, Try.ntmps78
    go_wp2
    go_ret
    exact ⟨rfl, rfl⟩
  by_cases h1 : a = 77
  · subst h1
    go_enter Try.func78, Try.ntmps78
    go_wp2
    go_ret
    exact ⟨rfl, rfl⟩
  by_cases h2 : a = 83
  · subst h2
    go_enter Try.func78, Try.ntmps78
    go_wp2
    go_ret
    exact ⟨rfl, rfl⟩
  by_cases h3 : a = 109
  · subst h3
    go_enter Try.func78, Try.ntmps78
    go_wp2
    go_ret
    exact ⟨rfl, rfl⟩
  by_cases h4 : a = 117
  · subst h4
    go_enter Try.func78, Try.ntmps78
    go_wp2
    go_ret
    exact ⟨rfl, rfl⟩
  rw [if_neg h0, if_neg h1, if_neg h2, if_neg h3, if_neg h4]
  have h0 : (a == 72) = false := by simpa using h0
  have h1 : (a == 77) = false := by simpa using h1
  have h2 : (a == 83) = false := by simpa using h2
  have h3 : (a == 109) = false := by simpa using h3
  have h4 : (a == 117) = false := by simpa using h4
  go_enter Try.func78, Try.ntmps78
  go_wp2
  go_ret
  exact ⟨rfl, rfl⟩

set_option maxHeartbeats 1000000 in
theorem rdecode_c (s : ByteArray) (w : World) :
    Calls Try.prog 69 #[.string s] w fun e w' => e = .returned (.tuple #[.int .i64 (T.decode s.data.toList).1, .int .i64 (T.decode s.data.toList).2]) ∧ w = w' := by
  by_cases hs : s.size < 2 ∨ 9 < s.size
  · have hd : T.decode s.data.toList = (0, 3) := by unfold T.decode; rw [if_pos (by simpa using hs)]
    have HD := Lib.hid hd
    clear hd
    rcases hs with hs | hs
    · go_enter Try.func69, Try.ntmps69
      go_wp2
      go_ret2
      exact ⟨ret_ii HD.out, rfl⟩
    · go_enter Try.func69, Try.ntmps69
      go_wp2
      go_ret2
      exact ⟨ret_ii HD.out, rfl⟩
  · have hs1 : 2 ≤ s.size := by omega
    have hs2 : s.size ≤ 9 := by omega
    have hl : s.size - 1 < s.size := by omega
    have hd : T.decode s.data.toList = match T.num (s.data.toList.take (s.size - 1)) 0 with
      | none => (0, 5)
      | some n =>
        if s.data.toList.getD (s.size - 1) 0 = 110 then (n / 1000, 0)
        else if T.unit (s.data.toList.getD (s.size - 1) 0).toNat = 0 then (0, 5) else (T.mul n (T.unit (s.data.toList.getD (s.size - 1) 0).toNat), 0) := by
      unfold T.decode; rw [if_neg (by simpa using hs)]; rfl
    have HD := Lib.hid hd
    clear hd hs
    go_enter Try.func69, Try.ntmps69
    go_wp2
    go_loop [5, 6] (fun n i => ∃ (k : Nat) (m : Int), k ≤ s.size - 1 ∧ i = .int .i64 k ∧ n = .int .i64 m ∧ Hid (T.num (s.data.toList.take k) 0 = some m)) (fun _ i => s.size - (intOf i).toNat)
    case atStart => exact ⟨0, 0, Nat.zero_le _, rfl, rfl, rfl⟩
    case round =>
      obtain ⟨k, m, hk, rfl, rfl, Hm⟩ := hrel
      have hb := T.num_bd _ 0 m 1 (by omega) (by omega) Hm.out
      have hp : (10 : Int) ^ (s.data.toList.take k).length ≤ 10 ^ 8 := by
        have : (10 : Nat) ^ (s.data.toList.take k).length ≤ 10 ^ 8 := Nat.pow_le_pow_right (by omega) (by rw [List.length_take]; omega)
        exact_mod_cast this
      have hb1 : 0 ≤ m := hb.1
      have hb2 : m < 100000000 := by have := hb.2; omega
      clear hb hp
      by_cases hlt : k < s.size - 1
      · have hks : k < s.size := by omega
        have hsn := T.num_snoc s[k] (s.data.toList.take k) 0
        rw [← T.take_snoc s k hks, Hm.out, Option.bind_some] at hsn
        have hnn := T.num_none (((s.data.toList.take (s.size - 1)).drop (k + 1))) (s.data.toList.take (k + 1)) 0
        have ht : s.data.toList.take (k + 1) ++ (s.data.toList.take (s.size - 1)).drop (k + 1) = s.data.toList.take (s.size - 1) := by
          have h2 := List.take_append_drop (k + 1) (s.data.toList.take (s.size - 1))
          rw [List.take_take, Nat.min_eq_left (by omega)] at h2
          exact h2
        rw [ht] at hnn
        have hbad : (s[k].toNat : Int) < 48 ∨ 57 < (s[k].toNat : Int) → T.decode s.data.toList = (0, 5) := by
          intro h
          rw [if_pos h] at hsn
          have e := hnn hsn
          rw [HD.out, e]
        have hgood : 48 ≤ (s[k].toNat : Int) → (s[k].toNat : Int) ≤ 57 → T.num (s.data.toList.take (k + 1)) 0 = some (m * 10 + s[k].toNat - 48) := by
          intro h1 h2
          rw [if_neg (by omega)] at hsn
          rw [hsn]; congr 1; omega
        have HB := Lib.hid hbad
        have HG := Lib.hid hgood
        clear hsn hnn ht hbad hgood
        go_wp2
        · go_ret2
          exact ⟨ret_ii (HB.out (by omega)), rfl⟩
        · exact ⟨⟨k + 1, _, by omega, by go_num, rfl, HG.out (by omega) (by omega)⟩, by simp [intOf]; omega⟩
        · go_ret2
          exact ⟨ret_ii (HB.out (by omega)), rfl⟩
      · obtain rfl : k = s.size - 1 := by omega
        have hgd : s.data.toList.getD (s.size - 1) 0 = s[s.size - 1] := by
          rw [List.getD_eq_getElem?_getD, List.getElem?_eq_getElem (by simp; omega)]; rfl
        have hd := HD.out
        rw [Hm.out, hgd] at hd
        clear HD Hm hgd hlt
        have hlast : (s[s.size - 1].toNat : Int) = 110 ↔ s[s.size - 1] = 110 := by
          rw [← UInt8.toNat_inj]; simp; omega
        by_cases hn : s[s.size - 1] = 110
        · have h110 : ((s[s.size - 1].toNat : Int) == 110) = true := by rw [hn]; rfl
          have hd' : T.decode s.data.toList = (m / 1000, 0) := by rw [hd]; simp [hn]
          have HD := Lib.hid hd'
          clear hd hd' hn hlast
          go_wp2
          go_ret2
          exact ⟨ret_ii HD.out, rfl⟩
        · have h110 : ((s[s.size - 1].toNat : Int) == 110) = false := by
            rw [beq_eq_false_iff_ne]; exact fun h => hn (hlast.1 h)
          simp only [if_neg hn] at hd
          by_cases hu : T.unit (s[s.size - 1].toNat) = 0
          · have hu0 : (T.unit (s[s.size - 1].toNat) == 0) = true := by rw [hu]; rfl
            rw [if_pos hu] at hd
            have HD := Lib.hid hd
            clear hd hn hlast hu
            go_wp2_with (first | (go_at_call 78; (with_reducible refine (runit_c _ _).mono ?_); rintro e w' ⟨rfl, rfl⟩) | (go_at_call 79; (with_reducible refine (rmul_c _ _ _).mono ?_); rintro e w' ⟨rfl, rfl⟩))
            go_ret2
            exact ⟨ret_ii HD.out, rfl⟩
          · have hu0 : (T.unit (s[s.size - 1].toNat) == 0) = false := by rw [beq_eq_false_iff_ne]; exact hu
            rw [if_neg hu] at hd
            have HD := Lib.hid hd
            clear hd hn hlast hu
            go_wp2_with (first | (go_at_call 78; (with_reducible refine (runit_c _ _).mono ?_); rintro e w' ⟨rfl, rfl⟩) | (go_at_call 79; (with_reducible refine (rmul_c _ _ _).mono ?_); rintro e w' ⟨rfl, rfl⟩))
            go_ret2
            exact ⟨ret_ii HD.out, rfl⟩
set_option maxHeartbeats 400000 in
theorem rdeadline_c (a : Int) (s : ByteArray) (w : World) :
    Calls Try.prog 56 #[.int .i64 a, .string s] w fun e w' => e = .returned (.tuple #[.int .i64 (T.deadline a s.data.toList).1, .int .i64 (T.deadline a s.data.toList).2]) ∧ w = w' := by
  by_cases h : (T.decode s.data.toList).2 = 0
  · have hd : T.deadline a s.data.toList = (T.add a (T.decode s.data.toList).1, 0) := by unfold T.deadline; rw [if_pos h]
    have hb : ((T.decode s.data.toList).2 != 0) = false := by rw [h]; rfl
    have HD := Lib.hid hd
    clear hd h
    go_enter Try.func56, Try.ntmps56
    go_wp2_with (first | (go_at_call 69; (with_reducible refine (rdecode_c _ _).mono ?_); rintro e w' ⟨rfl, rfl⟩) | (go_at_call 70; (with_reducible refine (radd_c _ _ _).mono ?_); rintro e w' ⟨rfl, rfl⟩))
    go_ret2
    exact ⟨ret_ii HD.out, rfl⟩
  · have hd : T.deadline a s.data.toList = (0, (T.decode s.data.toList).2) := by unfold T.deadline; rw [if_neg h]
    have hb : ((T.decode s.data.toList).2 != 0) = true := by rw [bne_iff_ne]; exact h
    have HD := Lib.hid hd
    clear hd h
    go_enter Try.func56, Try.ntmps56
    go_wp2_with (first | (go_at_call 69; (with_reducible refine (rdecode_c _ _).mono ?_); rintro e w' ⟨rfl, rfl⟩) | (go_at_call 70; (with_reducible refine (radd_c _ _ _).mono ?_); rintro e w' ⟨rfl, rfl⟩))
    go_ret2
    exact ⟨ret_ii HD.out, rfl⟩
theorem T.sub_bd (a b : Int) : 0 ≤ T.sub a b ∧ T.sub a b ≤ 1125899906842624 := by
  have h1 := T.clamp_bd a
  have h2 := T.clamp_bd b
  unfold T.sub; split <;> omega
set_option maxHeartbeats 400000 in
theorem renough_c (d now least : Int) (w : World) :
    Calls Try.prog 54 #[.int .i64 d, .int .i64 now, .int .i64 least] w fun e w' => e = .returned (.bool (T.enough d now least)) ∧ w = w' := by
  have hbd := T.sub_bd d now
  by_cases h : 0 < T.sub d now
  · have hb : (T.sub d now != 0) = true := by rw [bne_iff_ne]; omega
    go_enter Try.func54, Try.ntmps54
    go_wp2_with (first | (go_at_call 68; (with_reducible refine (rsub_c _ _ _).mono ?_); rintro e w' ⟨rfl, rfl⟩) | (go_at_call 33; (with_reducible refine (rclamp_c _ _).mono ?_); rintro e w' ⟨rfl, rfl⟩))
    go_ret
    exact ⟨ret_bool (by simp [T.enough, h]), rfl⟩
  · have hb : (T.sub d now != 0) = false := by rw [bne_eq_false_iff_eq]; omega
    go_enter Try.func54, Try.ntmps54
    go_wp2_with (first | (go_at_call 68; (with_reducible refine (rsub_c _ _ _).mono ?_); rintro e w' ⟨rfl, rfl⟩) | (go_at_call 33; (with_reducible refine (rclamp_c _ _).mono ?_); rintro e w' ⟨rfl, rfl⟩))
    go_ret
    exact ⟨ret_bool (by simp [T.enough]; omega), rfl⟩
end Go.Proofs.Ytmaegopojhmafaa
