/- Parsing a step as the document does: the plain law. -/
import Derived.Test.YtpgdgboobnmjiaaDoorSBack
namespace Go.Proofs.YtpgdgboobnmjiaaDoor
open Go.RowKit Go.Shelf
set_option linter.unusedVariables false
set_option linter.unusedSimpArgs false
/-- Digits, as long as the number is small: the number, what is left. -/
def T.digs : List UInt8 → Nat → Nat × List UInt8
  | [], n => (n, [])
  | c :: cs, n => if 48 ≤ c.toNat ∧ c.toNat ≤ 57 ∧ n < 10000000000000000 then T.digs cs (10 * n + (c.toNat - 48)) else (n, c :: cs)
theorem T.digs_suffix (l : List UInt8) (n : Nat) : ∃ p, l = p ++ (T.digs l n).2 := by
  induction l generalizing n with
  | nil => exact ⟨[], rfl⟩
  | cons c cs ih =>
    rw [T.digs]
    split
    · obtain ⟨p, hp⟩ := ih (10 * n + (c.toNat - 48))
      exact ⟨c :: p, by rw [List.cons_append, ← hp]⟩
    · exact ⟨[], rfl⟩
theorem T.digs_bd (l : List UInt8) (n : Nat) (h : n ≤ 100000000000000000) : (T.digs l n).1 ≤ 100000000000000000 := by
  induction l generalizing n with
  | nil => exact h
  | cons c cs ih =>
    rw [T.digs]
    split
    · exact ih _ (by omega)
    · exact h
theorem T.digs_dec (m : Nat) (h : m < 10000000000000000) (r : List UInt8) (hr : r = [] ∨ ∃ c cs, r = c :: cs ∧ ¬ (48 ≤ c.toNat ∧ c.toNat ≤ 57)) : T.digs (Lib.decDigits m ++ r) 0 = (m, r) := by
  have key : ∀ (m : Nat), m < 10000000000000000 → ∀ r, T.digs (Lib.decDigits m ++ r) 0 = T.digs r m := by
    intro m
    induction m using Nat.strongRecOn with
    | _ m ih =>
      intro hm r
      by_cases h10 : m < 10
      · rw [Lib.decDigits_one h10]
        have hd : (UInt8.ofNat (48 + m)).toNat = 48 + m := by simp; omega
        rw [List.singleton_append, T.digs, if_pos (by rw [hd]; omega), hd]
        congr 1
        omega
      · have hd : (UInt8.ofNat (48 + m % 10)).toNat = 48 + m % 10 := by simp; omega
        rw [decDigits_more m h10, Lib.decDigits_one (show m % 10 < 10 by omega), List.append_assoc, ih (m / 10) (by omega) (by omega), List.singleton_append, T.digs, if_pos (by rw [hd]; omega), hd]
        congr 1
        omega
  rw [key m h r]
  rcases hr with rfl | ⟨c, cs, rfl, hc⟩
  · rfl
  · rw [T.digs, if_neg (by omega)]
/-- A number at the head: it, what is left, whether it is told so. -/
def T.rnum (l : List UInt8) : Int × List UInt8 × Bool :=
  if l.head? = some 45 then (-((T.digs l.tail 0).1 : Int), (T.digs l.tail 0).2, decide (l = Lib.itoa (-((T.digs l.tail 0).1 : Int)) ++ (T.digs l.tail 0).2))
  else (((T.digs l 0).1 : Int), (T.digs l 0).2, decide (l = Lib.itoa ((T.digs l 0).1 : Int) ++ (T.digs l 0).2))
theorem T.rnum_ok (l : List UInt8) (h : (T.rnum l).2.2 = true) : l = Lib.itoa (T.rnum l).1 ++ (T.rnum l).2.1 := by
  unfold T.rnum at h ⊢
  split
  · rename_i hc; rw [if_pos hc] at h; simpa using h
  · rename_i hc; rw [if_neg hc] at h; simpa using h
theorem T.rnum_bd (l : List UInt8) : -100000000000000000 ≤ (T.rnum l).1 ∧ (T.rnum l).1 ≤ 100000000000000000 := by
  unfold T.rnum
  have h1 := T.digs_bd l 0 (by omega)
  have h2 := T.digs_bd l.tail 0 (by omega)
  split <;> simp only <;> omega
theorem T.rnum_itoa (v : Int) (h : -1125899906842624 ≤ v ∧ v ≤ 1125899906842624) (r : List UInt8) (hr : r = [] ∨ ∃ cs, r = 32 :: cs) : T.rnum (Lib.itoa v ++ r) = (v, r, true) := by
  have hr' : r = [] ∨ ∃ c cs, r = c :: cs ∧ ¬ (48 ≤ c.toNat ∧ c.toNat ≤ 57) := by
    rcases hr with rfl | ⟨cs, rfl⟩
    · exact .inl rfl
    · exact .inr ⟨32, cs, rfl, by decide⟩
  by_cases h0 : 0 ≤ v
  · obtain ⟨m, rfl⟩ : ∃ m : Nat, v = (m : Int) := ⟨v.toNat, by omega⟩
    rw [Lib.itoa_nonneg]
    have hh : (Lib.decDigits m ++ r).head? ≠ some 45 := by
      cases hd : Lib.decDigits m with
      | nil => exact absurd hd (T.dec_ne m)
      | cons b bs =>
        have := T.dec_digit m b (by rw [hd]; simp)
        simp
        rintro rfl
        exact absurd this (by decide)
    unfold T.rnum
    rw [if_neg hh, T.digs_dec m (by omega) r hr', Lib.itoa_nonneg]
    simp
  · obtain ⟨m, rfl⟩ : ∃ m : Nat, v = -(m : Int) := ⟨(-v).toNat, by omega⟩
    rw [Lib.itoa_neg m (by omega)]
    unfold T.rnum
    rw [if_pos (by simp), List.cons_append, List.tail_cons, T.digs_dec m (by omega) r hr', Lib.itoa_neg m (by omega)]
    simp
/-- The numbers behind the word. -/
def T.rtail : Nat → List UInt8 → Option (List Int)
  | 0, l => if l = [] then some [] else none
  | k + 1, l => match l with
    | [] => none
    | c :: cs => if c = 32 then (if (T.rnum cs).2.2 = true then (T.rtail k (T.rnum cs).2.1).map ((T.rnum cs).1 :: ·) else none) else none
theorem T.rtail_some (k : Nat) (l : List UInt8) (vs : List Int) (h : T.rtail k l = some vs) : l = T.numsText vs ∧ vs.length = k := by
  induction k generalizing l vs with
  | zero =>
    rw [T.rtail] at h
    split at h
    · rename_i hl; cases h; exact ⟨hl, rfl⟩
    · cases h
  | succ k ih =>
    cases l with
    | nil => rw [T.rtail] at h; cases h
    | cons c cs =>
      rw [T.rtail] at h
      split at h
      · rename_i hc
        split at h
        · rename_i hn
          cases hk : T.rtail k (T.rnum cs).2.1 with
          | none => rw [hk] at h; cases h
          | some ws =>
            rw [hk] at h
            cases h
            obtain ⟨h1, h2⟩ := ih _ _ hk
            have h3 := T.rnum_ok cs hn
            refine ⟨?_, by simp [h2]⟩
            rw [h1] at h3
            simp only [T.numsText, List.flatMap_cons]
            rw [hc]
            simp only [List.cons_append]
            congr 1
        · cases h
      · cases h
theorem T.rtail_text (vs : List Int) (h : ∀ v ∈ vs, -1125899906842624 ≤ v ∧ v ≤ 1125899906842624) : T.rtail vs.length (T.numsText vs) = some vs := by
  induction vs with
  | nil => rfl
  | cons v vs ih =>
    have e : T.numsText (v :: vs) = 32 :: (Lib.itoa v ++ T.numsText vs) := by simp [T.numsText]
    have hr : T.numsText vs = [] ∨ ∃ cs, T.numsText vs = 32 :: cs := by
      cases vs with
      | nil => exact .inl rfl
      | cons u us => exact .inr ⟨_, by simp [T.numsText]; rfl⟩
    have hn := T.rnum_itoa v (h v List.mem_cons_self) _ hr
    rw [e, List.length_cons, T.rtail, if_pos rfl, hn]
    simp [ih fun u hu => h u (List.mem_cons_of_mem _ hu)]
def T.stepOf (k : Int) (vs : List Int) : Step := ⟨k, vs.getD 0 0, vs.getD 1 0, vs.getD 2 0, vs.getD 3 0⟩
/-- What a kind whose word stands ahead makes of the rest. -/
def T.rkind (k : Nat) (l : List UInt8) : Step × Bool := match T.rtail (T.has k).toNat (l.drop (T.word k).length) with
  | some vs => if T.stepRight (T.stepOf k vs) = true then (T.stepOf k vs, true) else (T.zeroS, false)
  | none => (T.zeroS, false)
/-- From kind k on, n kinds. -/
def T.rfrom (l : List UInt8) : Nat → Nat → Step × Bool
  | 0, _ => (T.zeroS, false)
  | n + 1, k => if (T.word k).isPrefixOf l then T.rkind k l else T.rfrom l n (k + 1)
theorem T.stepText_of (k : Nat) (hk : 1 ≤ k ∧ k ≤ 11) (vs : List Int) (h : vs.length = (T.has k).toNat) : T.stepText (T.stepOf k vs) = T.word k ++ T.numsText vs := by
  have hb := T.has_bd k
  rw [T.stepText, if_pos (by simp [T.stepIs, T.stepOf]; omega)]
  show T.word k ++ T.numsText ((T.stepOf k vs).nums.take (T.has k).toNat) = _
  congr 2
  rw [← h]
  have h4 : vs.length ≤ 4 := by omega
  clear h
  match vs, h4 with
  | [], _ => rfl
  | [_], _ => rfl
  | [_, _], _ => rfl
  | [_, _, _], _ => rfl
  | [_, _, _, _], _ => rfl
theorem T.rkind_some (k : Nat) (hk : 1 ≤ k ∧ k ≤ 11) (l : List UInt8) (hp : (T.word k).isPrefixOf l = true) (h : (T.rkind k l).2 = true) : T.sparse l = T.rkind k l := by
  unfold T.rkind at h ⊢
  split at h
  · rename_i vs hvs
    split at h
    · rename_i hr
      rw [if_pos hr]
      obtain ⟨h1, h2⟩ := T.rtail_some _ _ _ hvs
      obtain ⟨r, rfl⟩ := List.isPrefixOf_iff_prefix.1 hp
      rw [List.drop_left] at h1
      have := T.stepText_of k hk vs h2
      rw [h1, ← this]
      exact T.sparse_text hr
    · cases h
  · cases h
theorem T.word_apart (j k : Nat) (hj : 1 ≤ j ∧ j ≤ 11) (hk : 1 ≤ k ∧ k ≤ 11) (r : List UInt8) (h : (T.word j).isPrefixOf (T.word k ++ 32 :: r) = true) : j = k := by
  have key : ∀ j k : Fin 12, 1 ≤ j.val → 1 ≤ k.val → j ≠ k → ∃ i, i < (T.word j.val).length ∧ i < (T.word k.val).length + 1 ∧ (T.word j.val)[i]? ≠ (T.word k.val ++ [32])[i]? := by
    decide +kernel
  refine Classical.byContradiction fun hne => ?_
  obtain ⟨i, h1, h2, h3⟩ := key ⟨j, by omega⟩ ⟨k, by omega⟩ hj.1 hk.1 (by simpa [Fin.ext_iff] using hne)
  obtain ⟨t, ht⟩ := List.isPrefixOf_iff_prefix.1 h
  apply h3
  have h4 : (T.word j ++ t)[i]? = (T.word j)[i]? := List.getElem?_append_left h1
  have h5 : (T.word k ++ 32 :: r)[i]? = (T.word k ++ [32])[i]? := by
    rw [show T.word k ++ 32 :: r = (T.word k ++ [32]) ++ r by simp]
    exact List.getElem?_append_left (by simp; omega)
  rw [ht, h5] at h4
  exact h4.symm
theorem T.rfrom_none (l : List UInt8) (n k : Nat) (h : (T.rfrom l n k).2 = false) : T.rfrom l n k = (T.zeroS, false) := by
  induction n generalizing k with
  | zero => rfl
  | succ n ih =>
    rw [T.rfrom] at h ⊢
    split
    · rename_i hp
      rw [if_pos hp] at h
      unfold T.rkind at h ⊢
      split
      · rename_i vs hvs
        rw [hvs] at h
        simp only at h ⊢
        split
        · rename_i hr; rw [if_pos hr] at h; cases h
        · rfl
      · rfl
    · rename_i hp
      rw [if_neg hp] at h
      exact ih _ h
theorem T.rfrom_some (l : List UInt8) (n k : Nat) (hk : 1 ≤ k) (hn : k + n = 12) (h : (T.rfrom l n k).2 = true) : T.sparse l = T.rfrom l n k := by
  induction n generalizing k with
  | zero => cases h
  | succ n ih =>
    rw [T.rfrom] at h ⊢
    split
    · rename_i hp
      rw [if_pos hp] at h
      exact T.rkind_some k ⟨hk, by omega⟩ l hp h
    · rename_i hp
      rw [if_neg hp] at h
      exact ih (k + 1) (by omega) (by omega) h
theorem T.rkind_text {s : Step} (h : T.stepRight s = true) (k : Nat) (hk : s.kind = k) : T.rkind k (T.stepText s) = (s, true) := by
  have hb := T.stepRight_kind h
  have ht : T.stepText s = T.word k ++ T.numsText (s.nums.take (T.has k).toNat) := by
    rw [T.stepText, if_pos (by simp [T.stepIs]; omega), hk]
  have hb4 := T.has_bd k
  have hlen : (s.nums.take (T.has k).toNat).length = (T.has k).toNat := by rw [List.length_take, Step.nums_len]; omega
  have hv : ∀ v ∈ s.nums.take (T.has k).toNat, -1125899906842624 ≤ v ∧ v ≤ 1125899906842624 := by
    intro v hv
    obtain ⟨i, hi, rfl⟩ := List.getElem_of_mem (List.mem_of_mem_take hv)
    exact (T.stepRight_num h i hi).1
  have hrt := T.rtail_text _ hv
  rw [hlen] at hrt
  have hso : T.stepOf k (s.nums.take (T.has k).toNat) = s := by
    have h0 := (T.stepRight_num h 0 (by omega)).2
    have h1 := (T.stepRight_num h 1 (by omega)).2
    have h2 := (T.stepRight_num h 2 (by omega)).2
    have h3 := (T.stepRight_num h 3 (by omega)).2
    rw [hk] at h0 h1 h2 h3
    have g : ∀ (i : Nat) (hi : i < 4), ((i : Int) < T.has k ∨ s.nums[i]'hi = 0) → (s.nums.take (T.has k).toNat).getD i 0 = s.nums[i]'hi := by
      intro i hi hh
      rw [List.getD_eq_getElem?_getD]
      by_cases hc : (i : Int) < T.has k
      · rw [List.getElem?_take_of_lt (by omega), List.getElem?_eq_getElem hi]; rfl
      · rw [List.getElem?_eq_none (by rw [hlen]; omega)]; exact (hh.resolve_left hc).symm
    unfold T.stepOf
    rw [g 0 (by omega) h0, g 1 (by omega) h1, g 2 (by omega) h2, g 3 (by omega) h3, ← hk]
    rfl
  unfold T.rkind
  rw [ht, List.drop_left, hrt]
  simp only
  rw [hso, if_pos h]
theorem T.rfrom_text {s : Step} (h : T.stepRight s = true) (kk : Nat) (hs : s.kind = kk) (n k : Nat) (hk : 1 ≤ k) (hn : k + n = 12) (hle : k ≤ kk) : T.rfrom (T.stepText s) n k = (s, true) := by
  have hb := T.stepRight_kind h
  have hb4 := T.has_bd s.kind
  have ht : T.stepText s = T.word kk ++ T.numsText (s.nums.take (T.has s.kind).toNat) := by
    rw [T.stepText, if_pos (by simp [T.stepIs]; omega), hs]
  obtain ⟨r, hr⟩ : ∃ r, T.numsText (s.nums.take (T.has s.kind).toNat) = 32 :: r := by
    obtain ⟨m, hm⟩ : ∃ m, (T.has s.kind).toNat = m + 1 := ⟨(T.has s.kind).toNat - 1, by omega⟩
    rw [hm]
    exact ⟨_, by simp [Step.nums, T.numsText]; rfl⟩
  induction n generalizing k with
  | zero => omega
  | succ n ih =>
    rw [T.rfrom]
    by_cases hkk : k = kk
    · subst hkk
      rw [if_pos (by rw [ht]; exact List.isPrefixOf_iff_prefix.2 ⟨_, rfl⟩)]
      exact T.rkind_text h k hs
    · have hnp : ¬ (T.word k).isPrefixOf (T.stepText s) = true := by
        rw [ht, hr]
        intro hp
        exact hkk (T.word_apart k kk ⟨hk, by omega⟩ ⟨by omega, by omega⟩ r hp)
      rw [if_neg hnp]
      exact ih (k + 1) (by omega) (by omega) (by omega)
/-- The document's parse is the program's. -/
theorem T.rfrom_sparse (l : List UInt8) : T.rfrom l 11 1 = T.sparse l := by
  rcases hq : (T.rfrom l 11 1).2 with _ | _
  · rw [T.rfrom_none l 11 1 hq]
    rcases hs : (T.sparse l).2 with _ | _
    · rw [T.sparse_none hs]
    · exfalso
      obtain ⟨h1, h2⟩ := T.sparse_some hs
      have hb := T.stepRight_kind h1
      have := T.rfrom_text h1 (T.sparse l).1.kind.toNat (by omega) 11 1 (by omega) rfl (by omega)
      rw [h2] at this
      rw [this] at hq
      cases hq
  · exact (T.rfrom_some l 11 1 (by omega) rfl hq).symm
end Go.Proofs.YtpgdgboobnmjiaaDoor
