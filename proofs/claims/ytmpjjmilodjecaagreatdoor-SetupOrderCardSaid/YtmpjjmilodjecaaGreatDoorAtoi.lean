/- What the library's parsing asks of the world; strconv.Atoi and strings.Split, told once. -/
import Derived.Test.YtmpjjmilodjecaaGreatDoorItoa
import Derived.Lib.AtoiTie
import Derived.Lib.SplitLaws
import Derived.Lib.AtoiErrMem
namespace Go.Proofs.YtmpjjmilodjecaaGreatDoor
open Go.RowKit Go.Shelf
set_option linter.unusedVariables false
set_option linter.unusedSimpArgs false
/-- The listed variables of the library as the row's condition has them. -/
structure Env (w : World) : Prop where
  tab : Tab w
  max : ∃ m, w.cell? ⟨1, 0, none⟩ = some (.int .i64 m)
  syn : ∃ ev, w.cell? ⟨6, 0, none⟩ = some ev ∧ (ev = .nilIface ∨ ∃ te pe, ev = .iface te pe)
  ran : ∃ ev, w.cell? ⟨7, 0, none⟩ = some ev ∧ (ev = .nilIface ∨ ∃ te pe, ev = .iface te pe)
theorem Env.below {w w' : World} (h : Env w) (hb : Below w.heap.size w w') : Env w' where
  tab := h.tab.below hb
  max := by obtain ⟨m, hm⟩ := h.max; exact ⟨m, (hb.cell (World.block_lt_of_cell? w _ hm)).trans hm⟩
  syn := by obtain ⟨m, hm, h1⟩ := h.syn; exact ⟨m, (hb.cell (World.block_lt_of_cell? w _ hm)).trans hm, h1⟩
  ran := by obtain ⟨m, hm, h1⟩ := h.ran; exact ⟨m, (hb.cell (World.block_lt_of_cell? w _ hm)).trans hm, h1⟩
/-- What Atoi answers, the error apart. -/
def T.atoi (l : List UInt8) : Int := match Lib.atoiAll l with
  | .ok v => v
  | .range => Lib.atoiSat l
  | _ => 0
theorem T.atoi_i64 (l : List UInt8) : i64 (T.atoi l) := by
  unfold T.atoi i64
  split
  · rename_i v h; exact Lib.atoiAll_bounds h
  · simp only [Lib.atoiSat]; split <;> omega
  · omega
theorem atoi_c (l : List UInt8) (hl : l.length ≤ 100000000) (w : World) (he : Env w) :
    Calls Tryz.prog 316 #[strV l] w fun r w' => ∃ ev, r = .returned (.tuple #[.int .i64 (T.atoi l), ev]) ∧ Below w.heap.size w w' := by
  have hs : (ByteArray.mk l.toArray).size = l.length := by simp [ByteArray.size]
  rcases h : Lib.atoiAll l with v | _ | _
  · refine (Tryz.strconv_Atoi_ok ⟨l.toArray⟩ (by omega) v h w).mono ?_
    rintro r w' ⟨rfl, hw⟩
    refine ⟨_, by rw [T.atoi, h], ?_⟩
    rcases hw with rfl | ⟨t, rfl⟩
    · exact Below.refl _ _
    · exact Lib.bytesWorld_below _ _ _
  · obtain ⟨ev, hv, hev⟩ := he.syn
    refine (Tryz.strconv_Atoi_syntax ⟨l.toArray⟩ (by omega) h ev w hv hev).mono ?_
    rintro r w' ⟨N, rfl, _, _, hb⟩
    exact ⟨_, by rw [T.atoi, h], hb⟩
  · obtain ⟨ev, hv, hev⟩ := he.ran
    refine (Tryz.strconv_Atoi_range ⟨l.toArray⟩ (by omega) h ev w hv hev).mono ?_
    rintro r w' ⟨N, rfl, _, _, hb⟩
    exact ⟨_, by rw [T.atoi, h], hb⟩
/-! Atoi of what Itoa told. -/
theorem T.decFrom_snoc (l : List UInt8) (acc : Nat) (b : UInt8) : Lib.decFrom acc (l ++ [b]) = (Lib.decFrom acc l).bind fun n => (Lib.digitVal b).map fun d => n * 10 + d := by
  induction l generalizing acc with
  | nil => simp [Lib.decFrom]; cases Lib.digitVal b <;> rfl
  | cons a l ih =>
    simp only [List.cons_append, Lib.decFrom]
    cases Lib.digitVal a with
    | none => rfl
    | some d => exact ih _
theorem T.digitVal_of (n : Nat) (h : n < 10) : Lib.digitVal (UInt8.ofNat (48 + n)) = some n := by
  match n, h with
  | 0, _ | 1, _ | 2, _ | 3, _ | 4, _ | 5, _ | 6, _ | 7, _ | 8, _ | 9, _ => rfl
theorem T.decFrom_dec (n : Nat) : Lib.decFrom 0 (Lib.decDigits n) = some n := by
  induction n using Nat.strongRecOn with
  | _ n ih =>
    by_cases h : n < 10
    · rw [Lib.decDigits_one h]
      simp only [Lib.decFrom, T.digitVal_of n h]; simp
    · rw [decDigits_more n h, Lib.decDigits_one (show n % 10 < 10 by omega), T.decFrom_snoc, ih (n / 10) (by omega), T.digitVal_of _ (by omega)]
      simp; omega
theorem T.dec_ne (n : Nat) : Lib.decDigits n ≠ [] := by
  by_cases h : n < 10
  · rw [Lib.decDigits_one h]; simp
  · rw [decDigits_more n h, Lib.decDigits_one (show n % 10 < 10 by omega)]; simp
theorem T.dec_digit (n : Nat) : ∀ b ∈ Lib.decDigits n, 48 ≤ b.toNat ∧ b.toNat ≤ 57 := by
  intro b hb
  obtain ⟨k, hk⟩ := List.getElem?_of_mem hb
  obtain ⟨d, hd⟩ := Lib.digit_of_decFrom _ _ _ (T.decFrom_dec n) k b hk
  unfold Lib.digitVal at hd
  split at hd
  · assumption
  · cases hd
theorem T.atoi_dec (n : Nat) (h : (Lib.decDigits n).length ≤ 18) : T.atoi (Lib.decDigits n) = n := by
  have h1 : Lib.atoi (Lib.decDigits n) = some (n : Int) := by
    cases hd : Lib.decDigits n with
    | nil => exact absurd hd (T.dec_ne n)
    | cons b r =>
      have hb := T.dec_digit n b (by rw [hd]; simp)
      have e1 : (b == 45) = false := by
        refine beq_eq_false_iff_ne.2 fun e => ?_
        rw [e] at hb; exact absurd hb (by decide)
      have e2 : (b == 43) = false := by
        refine beq_eq_false_iff_ne.2 fun e => ?_
        rw [e] at hb; exact absurd hb (by decide)
      have h2 := T.decFrom_dec n
      rw [hd] at h2
      simp [Lib.atoi, e1, e2, Lib.decNat, h2]
  rw [T.atoi, Lib.atoiAll_short _ h, h1]
  rfl
theorem T.atoi_itoa (n : Int) (h : (Lib.itoa n).length ≤ 18) : T.atoi (Lib.itoa n) = n := by
  by_cases h0 : 0 ≤ n
  · obtain ⟨m, rfl⟩ : ∃ m : Nat, n = (m : Int) := ⟨n.toNat, by omega⟩
    rw [Lib.itoa_nonneg] at h ⊢
    exact T.atoi_dec m h
  · obtain ⟨m, rfl⟩ : ∃ m : Nat, n = -(m : Int) := ⟨(-n).toNat, by omega⟩
    rw [Lib.itoa_neg m (by omega)] at h ⊢
    rw [T.atoi, Lib.atoiAll_short _ h]
    have hne : (Lib.decDigits m).isEmpty = false := by
      cases hd : Lib.decDigits m with
      | nil => exact absurd hd (T.dec_ne m)
      | cons => rfl
    simp [Lib.atoi, Lib.decNat, hne, T.decFrom_dec m, Lib.NumEnd.ofOption]
/-! Parts. -/
/-- The parts of a text between bytes c. -/
def T.parts (c : UInt8) : List UInt8 → List (List UInt8)
  | [] => [[]]
  | b :: l => if b = c then [] :: T.parts c l else match T.parts c l with
    | [] => [[b]]
    | p :: ps => (b :: p) :: ps
theorem T.parts_ne (c : UInt8) (l : List UInt8) : T.parts c l ≠ [] := by
  cases l with
  | nil => simp [T.parts]
  | cons b l =>
    unfold T.parts
    split
    · simp
    · split <;> simp
theorem T.parts_free (c : UInt8) (a : List UInt8) (h : ∀ b ∈ a, b ≠ c) : T.parts c a = [a] := by
  induction a with
  | nil => rfl
  | cons b a ih =>
    rw [T.parts, if_neg (h b List.mem_cons_self), ih fun x hx => h x (List.mem_cons_of_mem _ hx)]
theorem T.parts_app (c : UInt8) (a l : List UInt8) (h : ∀ b ∈ a, b ≠ c) : T.parts c (a ++ c :: l) = a :: T.parts c l := by
  induction a with
  | nil => simp [T.parts]
  | cons b a ih =>
    rw [List.cons_append, T.parts, if_neg (h b List.mem_cons_self), ih fun x hx => h x (List.mem_cons_of_mem _ hx)]
theorem T.index_ne (c b : UInt8) (l : List UInt8) (h : b ≠ c) : Lib.index (b :: l) [c] = if Lib.index l [c] == -1 then -1 else Lib.index l [c] + 1 := by
  have hp : ([c] : List UInt8).isPrefixOf (b :: l) = false := by simp [List.isPrefixOf, Ne.symm h]
  rw [Lib.index, hp]; simp
theorem T.splitK_ne (c b : UInt8) (h : b ≠ c) (k : Nat) (l : List UInt8) : Lib.splitK [c] 0 k (b :: l) = match Lib.splitK [c] 0 k l with
    | [] => [[b]]
    | p :: ps => (b :: p) :: ps := by
  cases k with
  | zero => rfl
  | succ k =>
    have hi := T.index_ne c b l h
    have hge := Lib.index_ge l [c]
    by_cases hm : Lib.index l [c] = -1
    · have e1 : (Lib.index l [c] == -1) = true := beq_iff_eq.2 hm
      rw [e1, if_pos rfl] at hi
      have e2 : (Lib.index (b :: l) [c] == -1) = true := beq_iff_eq.2 hi
      simp only [Lib.splitK, e1, e2, if_true]
    · have e1 : (Lib.index l [c] == -1) = false := beq_eq_false_iff_ne.2 hm
      rw [e1, if_neg (by simp)] at hi
      have e2 : (Lib.index (b :: l) [c] == -1) = false := beq_eq_false_iff_ne.2 (by omega)
      obtain ⟨j, hj⟩ : ∃ j : Nat, Lib.index l [c] = j := ⟨(Lib.index l [c]).toNat, by omega⟩
      have e3 : ((j : Int) + 1).toNat = j + 1 := by omega
      have e4 : ((j : Int)).toNat = j := by omega
      unfold Lib.splitK
      rw [e1, e2, hi, hj, if_neg (by simp), if_neg (by simp), e3, e4]
      rfl
theorem T.splitK_parts (c : UInt8) (l : List UInt8) : Lib.splitK [c] 0 (l.count c) l = T.parts c l := by
  induction l with
  | nil => rfl
  | cons b l ih =>
    by_cases h : b = c
    · subst h
      have hi : Lib.index (b :: l) [b] = 0 := by rw [Lib.index]; simp [List.isPrefixOf]
      rw [List.count_cons_self]
      simp only [Lib.splitK, hi]
      rw [T.parts, if_pos rfl, ← ih]
      rfl
    · rw [List.count_cons_of_ne (by simpa using h), T.splitK_ne c b h, ih, T.parts, if_neg h]
theorem T.parts_len (c : UInt8) (l : List UInt8) : (T.parts c l).length = l.count c + 1 := by
  induction l with
  | nil => rfl
  | cons b l ih =>
    by_cases h : b = c
    · subst h; rw [T.parts, if_pos rfl, List.count_cons_self, List.length_cons, ih]
    · rw [T.parts, if_neg h, List.count_cons_of_ne (by simpa using h), ← ih]
      cases hp : T.parts c l with
      | nil => exact absurd hp (T.parts_ne c l)
      | cons => rfl
theorem T.parts_sub (c : UInt8) (l : List UInt8) : ∀ p ∈ T.parts c l, p.length ≤ l.length := by
  induction l with
  | nil => simp [T.parts]
  | cons b l ih =>
    intro p hp
    by_cases h : b = c
    · rw [T.parts, if_pos h] at hp
      rcases List.mem_cons.1 hp with rfl | hp
      · simp
      · have := ih p hp; simp; omega
    · rw [T.parts, if_neg h] at hp
      cases hq : T.parts c l with
      | nil => exact absurd hq (T.parts_ne c l)
      | cons q qs =>
        rw [hq] at hp ih
        rcases List.mem_cons.1 hp with rfl | hp
        · have := ih q List.mem_cons_self; simp; omega
        · have := ih p (List.mem_cons_of_mem _ hp); simp; omega
theorem split_c (c : UInt8) (l : List UInt8) (hl : l.length ≤ 100000000) (w : World) (he : Env w) :
    Calls Tryz.prog 315 #[strV l, .string ⟨#[c]⟩] w fun r w' => r = .returned (.slice (some ⟨w.heap.size, 0, none⟩) (T.parts c l).length (T.parts c l).length) ∧ w' = w.alloc (.cells ((T.parts c l).map strV).toArray 9) := by
  obtain ⟨m, hm⟩ := he.max
  have hs : (ByteArray.mk l.toArray).size = l.length := by simp [ByteArray.size]
  have hc : Lib.countB ⟨l.toArray⟩ ⟨#[c]⟩ = l.count c := by
    have := Lib.count_one c l
    simpa [Lib.countB] using this
  refine (Tryz.strings_Split ⟨l.toArray⟩ ⟨#[c]⟩ m w (by omega) hm (by simp [ByteArray.size])).mono ?_
  rintro r w' ⟨rfl, rfl⟩
  rw [hc, T.parts_len]
  refine ⟨rfl, ?_⟩
  have hv : ∀ (q : List ByteArray), q.map Value.string = (q.map (·.data.toList)).map strV := fun q => by rw [List.map_map]; rfl
  rw [hv, Lib.splitB_data]
  congr 3
  exact congrArg (List.map strV) (by simpa using T.splitK_parts c l)
end Go.Proofs.YtmpjjmilodjecaaGreatDoor
