/- Programs read back: plain laws. -/
import Derived.Test.YtmpjjmilodjecaaGreatDoorPStep
import Derived.Test.YtmpjjmilodjecaaGreatDoorPSplit
namespace Go.Proofs.YtmpjjmilodjecaaGreatDoor
open Go.RowKit Go.Shelf
set_option linter.unusedVariables false
set_option linter.unusedSimpArgs false
/-! Atoi of what Itoa told: every int. -/
theorem T.decFrom_ge (l : List UInt8) : ∀ acc v, Lib.decFrom acc l = some v → acc ≤ v := by
  induction l with
  | nil => intro acc v h; simp only [Lib.decFrom, Option.some.injEq] at h; omega
  | cons c r ih =>
    intro acc v h
    rw [Lib.decFrom] at h
    split at h
    · have := ih _ _ h; omega
    · cases h
theorem T.parseUint_dec (l : List UInt8) : ∀ acc v, Lib.decFrom acc l = some v → v < 18446744073709551616 → Lib.parseUint10 acc l = .ok v := by
  induction l with
  | nil => intro acc v h _; simp only [Lib.decFrom, Option.some.injEq] at h; rw [Lib.parseUint10, h]
  | cons c r ih =>
    intro acc v h hv
    rw [Lib.decFrom] at h
    split at h
    · rename_i d hd
      have hge := T.decFrom_ge r _ _ h
      unfold Lib.digitVal at hd
      split at hd
      · rename_i hc
        injection hd with hd
        rw [Lib.parseUint10, if_pos hc, hd, if_neg (by omega), if_neg (by omega)]
        exact ih _ _ h hv
      · cases hd
    · cases h
theorem T.parseMag_dec (n : Nat) (h : n < 18446744073709551616) : Lib.parseMag (Lib.decDigits n) = .ok n := by
  rw [Lib.parseMag, if_neg (T.dec_ne n)]
  exact T.parseUint_dec _ _ _ (T.decFrom_dec n) h
theorem T.atoi_all (n : Int) (h : i64 n) : T.atoi (Lib.itoa n) = n := by
  obtain ⟨h1, h2⟩ := h
  by_cases h0 : 0 ≤ n
  · obtain ⟨m, rfl⟩ : ∃ m : Nat, n = (m : Int) := ⟨n.toNat, by omega⟩
    rw [Lib.itoa_nonneg]
    have hm := T.parseMag_dec m (by omega)
    cases hd : Lib.decDigits m with
    | nil => exact absurd hd (T.dec_ne m)
    | cons c r =>
      have hc := T.dec_digit m c (by rw [hd]; simp)
      rw [hd] at hm
      have e : Lib.atoiAll (c :: r) = .ok (m : Int) := by
        simp only [Lib.atoiAll]
        rw [if_neg (by omega), hm]
        simp only []
        rw [if_neg (by omega), if_neg (by omega), if_neg (by omega)]
      rw [T.atoi, e]
  · obtain ⟨m, rfl⟩ : ∃ m : Nat, n = -(m : Int) := ⟨(-n).toNat, by omega⟩
    rw [Lib.itoa_neg m (by omega)]
    have hm := T.parseMag_dec m (by omega)
    have e : Lib.atoiAll (45 :: Lib.decDigits m) = .ok (-(m : Int)) := by
      simp only [Lib.atoiAll]
      rw [if_pos (by decide), hm]
      simp only []
      rw [if_neg (by simp), if_neg (by simp; omega), if_pos (by decide)]
    rw [T.atoi, e]
/-! A step's text reads back. -/
theorem T.itoa_byte (n : Int) (h : i64 n) : ∀ b ∈ Lib.itoa n, b ≠ 32 ∧ b ≠ 59 := by
  have key (m : Nat) : ∀ b ∈ Lib.decDigits m, b ≠ 32 ∧ b ≠ 59 := by
    intro b hb
    have hd := T.dec_digit m b hb
    constructor
    · rintro rfl; exact absurd hd (by decide)
    · rintro rfl; exact absurd hd (by decide)
  by_cases h0 : 0 ≤ n
  · obtain ⟨m, rfl⟩ : ∃ m : Nat, n = (m : Int) := ⟨n.toNat, by omega⟩
    rw [Lib.itoa_nonneg]
    exact key m
  · obtain ⟨m, rfl⟩ : ∃ m : Nat, n = -(m : Int) := ⟨(-n).toNat, by omega⟩
    rw [Lib.itoa_neg m (by omega)]
    intro b hb
    rcases List.mem_cons.1 hb with rfl | hb
    · decide
    · exact key m b hb
theorem T.verb_byte (k : Int) (h : 1 ≤ k ∧ k ≤ 7) : ∀ b ∈ T.verb k, b ≠ 32 ∧ b ≠ 59 := by
  rcases T.kinds7 k h with rfl | rfl | rfl | rfl | rfl | rfl | rfl <;> decide
theorem T.vkind_verb (k : Int) (h : 1 ≤ k ∧ k ≤ 7) : T.vkind (T.verb k) = k := by
  rcases T.kinds7 k h with rfl | rfl | rfl | rfl | rfl | rfl | rfl <;> decide
theorem T.opOk_known (o : GoOp) (n m : Int) (h : T.opOk o n m = true) : 1 ≤ o.kind ∧ o.kind ≤ 7 := by
  refine Decidable.byContradiction fun hk => ?_
  have h1 : o.kind ≠ 1 ∧ o.kind ≠ 2 ∧ o.kind ≠ 3 ∧ o.kind ≠ 4 ∧ o.kind ≠ 5 ∧ o.kind ≠ 6 ∧ o.kind ≠ 7 := by omega
  simp [T.opOk, h1] at h
theorem T.opText_byte (o : GoOp) (ho : GoOp.ok o) (hk : 1 ≤ o.kind ∧ o.kind ≤ 7) : ∀ b ∈ T.opText o, b ≠ 59 := by
  intro b hb
  unfold T.opText T.opNum1 T.opNum2 at hb
  rcases List.mem_append.1 hb with hb | hb
  · rcases List.mem_append.1 hb with hb | hb
    · exact (T.verb_byte _ hk b hb).2
    · split at hb
      · cases hb
      · rcases List.mem_cons.1 hb with rfl | hb
        · decide
        · exact (T.itoa_byte _ ho.2.1 b hb).2
  · split at hb
    · rcases List.mem_cons.1 hb with rfl | hb
      · decide
      · exact (T.itoa_byte _ ho.2.2 b hb).2
    · cases hb
theorem T.opText_parts (o : GoOp) (ho : GoOp.ok o) (hk : 1 ≤ o.kind ∧ o.kind ≤ 7) :
    T.parts 32 (T.opText o) = T.verb o.kind :: ((if T.pcount o.kind = 0 then [] else [Lib.itoa o.a]) ++ (if T.pcount o.kind = 2 then [Lib.itoa o.b] else [])) := by
  have hv := fun b hb => (T.verb_byte _ hk b hb).1
  have ha := fun b hb => (T.itoa_byte _ ho.2.1 b hb).1
  have hb := fun b hb => (T.itoa_byte _ ho.2.2 b hb).1
  unfold T.opText T.opNum1 T.opNum2
  by_cases h0 : T.pcount o.kind = 0
  · rw [if_pos h0, if_pos h0, if_neg (by omega), if_neg (by omega)]
    simp only [List.append_nil]
    exact T.parts_free 32 _ hv
  · rw [if_neg h0, if_neg h0]
    by_cases h2 : T.pcount o.kind = 2
    · rw [if_pos h2, if_pos h2]
      rw [show T.verb o.kind ++ 32 :: Lib.itoa o.a ++ 32 :: Lib.itoa o.b = T.verb o.kind ++ 32 :: (Lib.itoa o.a ++ 32 :: Lib.itoa o.b) by simp]
      rw [T.parts_app 32 _ _ hv, T.parts_app 32 _ _ ha, T.parts_free 32 _ hb]
      rfl
    · rw [if_neg h2, if_neg h2]
      simp only [List.append_nil]
      rw [T.parts_app 32 _ _ hv, T.parts_free 32 _ ha]
theorem T.opOk_zero (o : GoOp) (n m : Int) (h : T.opOk o n m = true) : (T.pcount o.kind = 0 → o.a = 0) ∧ (T.pcount o.kind ≠ 2 → o.b = 0) := by
  have hk := T.opOk_known o n m h
  obtain ⟨k, a, b⟩ := o
  rcases T.kinds7 k hk with rfl | rfl | rfl | rfl | rfl | rfl | rfl <;> simp [T.opOk, T.pcount] at h ⊢ <;> omega
theorem T.rawOp_text (o : GoOp) (ho : GoOp.ok o) (n m : Int) (h : T.opOk o n m = true) : T.rawOp (T.opText o) = o := by
  have hk := T.opOk_known o n m h
  obtain ⟨z1, z2⟩ := T.opOk_zero o n m h
  have hp := T.opText_parts o ho hk
  have hv := T.vkind_verb o.kind hk
  have a1 := T.atoi_all o.a ho.2.1
  have a2 := T.atoi_all o.b ho.2.2
  have hmax : max (T.vkind (T.verb o.kind)) 0 = o.kind := by rw [hv]; omega
  unfold T.rawOp T.onum
  rw [hp]
  obtain ⟨k, a, b⟩ := o
  simp only at hmax z1 z2 a1 a2 ⊢
  simp only [List.headD_cons, hmax, GoOp.mk.injEq, true_and]
  by_cases h0 : T.pcount k = 0
  · simp [h0, z1 h0, z2 (by omega)]
  · by_cases h2 : T.pcount k = 2
    · simp [h2, a1, a2]
    · simp [h0, h2, a1, z2 h2]
/-! The program's reader. -/
def T.pout (s : List UInt8) : List GoOp := if s = [] then [] else (T.psplit s).map T.rawOp
def T.pgood (s : List UInt8) (n m : Int) : Bool := T.pright (T.pout s) n m && decide (T.progText (T.pout s) = s)
theorem T.joinS_nil (ps : List (List UInt8)) (h : ∀ p ∈ ps, p ≠ []) (e : T.joinS ps = []) : ps = [] := by
  cases ps with
  | nil => rfl
  | cons p ps =>
    rw [T.joinS] at e
    split at e
    · exact absurd e (h p List.mem_cons_self)
    · simp at e
theorem T.opText_ne (o : GoOp) (hk : 1 ≤ o.kind ∧ o.kind ≤ 7) : T.opText o ≠ [] := by
  unfold T.opText
  rcases T.kinds7 _ hk with h | h | h | h | h | h | h <;> rw [h] <;> simp [T.verb, T.verbs]
theorem T.pright_known (xs : List GoOp) (n m : Int) (h : T.pright xs n m = true) : xs.length ≤ 16 ∧ xs.all T.known = true ∧ ∀ o ∈ xs, T.opOk o n m = true := by
  unfold T.pright at h
  rw [Bool.and_eq_true, List.all_eq_true] at h
  exact ⟨by simpa using h.1, List.all_eq_true.2 fun o ho => by simpa [T.known] using T.opOk_known o n m (h.2 o ho), h.2⟩
theorem T.pout_text (xs : List GoOp) (hok : ∀ o ∈ xs, GoOp.ok o) (n m : Int) (h : T.pright xs n m = true) : T.pout (T.progText xs) = xs := by
  obtain ⟨h1, h2, h3⟩ := T.pright_known xs n m h
  unfold T.progText
  rw [if_pos h2]
  by_cases hx : xs = []
  · subst hx; rfl
  · have hne : T.joinS (xs.map T.opText) ≠ [] := by
      intro e
      have := T.joinS_nil _ (fun p hp => by
        obtain ⟨o, ho, rfl⟩ := List.mem_map.1 hp
        exact T.opText_ne o (T.opOk_known o n m (h3 o ho))) e
      exact hx (List.map_eq_nil_iff.1 this)
    unfold T.pout
    rw [if_neg hne, T.psplit_join _ (by simpa using hx) (fun p hp => by
        obtain ⟨o, ho, rfl⟩ := List.mem_map.1 hp
        exact T.opText_byte o (hok o ho) (T.opOk_known o n m (h3 o ho)))]
    rw [List.map_map]
    conv => rhs; rw [← List.map_id xs]
    exact List.map_congr_left fun o ho => T.rawOp_text o (hok o ho) n m (h3 o ho)
theorem T.pgood_text (xs : List GoOp) (hok : ∀ o ∈ xs, GoOp.ok o) (n m : Int) (h : T.pright xs n m = true) : T.pgood (T.progText xs) n m = true := by
  unfold T.pgood
  rw [T.pout_text xs hok n m h, h]
  simp
end Go.Proofs.YtmpjjmilodjecaaGreatDoor
