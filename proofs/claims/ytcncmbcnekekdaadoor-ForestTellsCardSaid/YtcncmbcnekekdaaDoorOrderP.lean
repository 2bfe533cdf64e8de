/- Forest: all places, each ahead of all that are below it: as a plain function. -/
import Derived.Test.YtcncmbcnekekdaaDoorPath
namespace Go.Proofs.YtcncmbcnekekdaaDoor
set_option linter.unusedVariables false
set_option linter.unusedSimpArgs false

theorem T.up_lt (xs : List Item) (k : Nat) : -1 ≤ T.upI xs k ∧ T.upI xs k < k := by
  unfold T.upI T.up
  cases hx : xs[k]? with
  | none => simp only; omega
  | some x =>
    simp only
    cases hl : T.lastKey xs x.parent k with
    | none => simp only; omega
    | some j => have := (T.lastKey_lt _ _ _ _ hl).1; simp only; omega
/-- The places below one, ahead of place k, in order. -/
def T.kd_ (xs : List Item) (a : Int) (k : Nat) : List Nat := (List.range k).filter fun j => decide (T.upI xs j = a)
theorem T.kd_succ (xs : List Item) (a : Int) (k : Nat) : T.kd_ xs a (k + 1) = if T.upI xs k = a then T.kd_ xs a k ++ [k] else T.kd_ xs a k := by
  unfold T.kd_
  rw [List.range_succ, List.filter_append]
  by_cases h : T.upI xs k = a <;> simp [List.filter_cons, h]
theorem T.kd_mem (xs : List Item) (a : Int) (k j : Nat) : j ∈ T.kd_ xs a k ↔ j < k ∧ T.upI xs j = a := by simp [T.kd_]
theorem T.kd_nodup (xs : List Item) (a : Int) (k : Nat) : (T.kd_ xs a k).Nodup := List.Nodup.sublist List.filter_sublist List.nodup_range
theorem T.kd_gt (xs : List Item) (a : Int) (k j : Nat) (h : j ∈ T.kd_ xs a k) : a < j := by
  have := (T.kd_mem xs a k j).1 h
  have := (T.up_lt xs j).2
  omega
theorem T.kd_len (xs : List Item) (a : Int) (k : Nat) : (T.kd_ xs a k).length ≤ k := by
  have := List.length_filter_le (fun j => decide (T.upI xs j = a)) (List.range k)
  simpa [T.kd_] using this
/-- Places below one, and those below these, in order. -/
def T.under (xs : List Item) : Nat → Int → List Nat
  | 0, _ => []
  | f + 1, a => (T.kd_ xs a xs.length).flatMap fun k => k :: T.under xs f k
/-- Is a place above another one? -/
def T.anc (xs : List Item) (a : Int) : Nat → Nat → Prop
  | 0, _ => False
  | f + 1, k => T.upI xs k = a ∨ (0 ≤ T.upI xs k ∧ T.anc xs a f (T.upI xs k).toNat)
theorem T.anc_lt (xs : List Item) (a : Int) : ∀ (f k : Nat), T.anc xs a f k → a < k
  | 0, _, h => h.elim
  | f + 1, k, h => by
    have := (T.up_lt xs k).2
    rcases h with h | ⟨h0, h⟩
    · omega
    · have := T.anc_lt xs a f _ h; omega
theorem T.anc_fuel (xs : List Item) (a : Int) : ∀ (f g k : Nat), k < f → k < g → T.anc xs a f k → T.anc xs a g k
  | 0, _, _, h, _, _ => by omega
  | _ + 1, 0, _, _, h, _ => by omega
  | f + 1, g + 1, k, h1, h2, h => by
    have := (T.up_lt xs k).2
    rcases h with h | ⟨h0, h⟩
    · exact .inl h
    · exact .inr ⟨h0, T.anc_fuel xs a f g _ (by omega) (by omega) h⟩
/-- Above k: those above it, told by fuel of its own. -/
def T.Anc (xs : List Item) (a : Int) (k : Nat) : Prop := T.anc xs a (k + 1) k
theorem T.Anc_step (xs : List Item) (a : Int) (k : Nat) : T.Anc xs a k ↔ T.upI xs k = a ∨ (0 ≤ T.upI xs k ∧ T.Anc xs a (T.upI xs k).toNat) := by
  have := (T.up_lt xs k).2
  constructor
  · intro h
    rcases h with h | ⟨h0, h⟩
    · exact .inl h
    · exact .inr ⟨h0, T.anc_fuel xs a k _ _ (by omega) (by omega) h⟩
  · intro h
    rcases h with h | ⟨h0, h⟩
    · exact .inl h
    · exact .inr ⟨h0, T.anc_fuel xs a _ k _ (by omega) (by omega) h⟩
theorem T.Anc_lt (xs : List Item) (a : Int) (k : Nat) (h : T.Anc xs a k) : a < k := T.anc_lt xs a _ k h
theorem T.Anc_root (xs : List Item) : ∀ k : Nat, T.Anc xs (-1) k := by
  intro k
  induction k using Nat.strongRecOn with
  | _ k ih =>
    rw [T.Anc_step]
    have := T.up_lt xs k
    by_cases h : T.upI xs k = -1
    · exact .inl h
    · exact .inr ⟨by omega, ih _ (by omega)⟩
/-- Below a there is one way up from x to a: through one child of a. -/
theorem T.Anc_child (xs : List Item) (a : Int) : ∀ x : Nat, T.Anc xs a x → ∃ k, T.upI xs k = a ∧ (x = k ∨ T.Anc xs k x) := by
  intro x
  induction x using Nat.strongRecOn with
  | _ x ih =>
    intro h
    rcases (T.Anc_step xs a x).1 h with h | ⟨h0, h⟩
    · exact ⟨x, h, .inl rfl⟩
    · have hu := (T.up_lt xs x).2
      obtain ⟨k, hk, hx⟩ := ih _ (by omega) h
      refine ⟨k, hk, .inr ((T.Anc_step xs k x).2 ?_)⟩
      rcases hx with hx | hx
      · left; omega
      · right; exact ⟨h0, hx⟩
theorem T.Anc_trans (xs : List Item) (a : Int) (k : Nat) (hk : T.upI xs k = a) : ∀ x : Nat, T.Anc xs k x → T.Anc xs a x := by
  intro x
  induction x using Nat.strongRecOn with
  | _ x ih =>
    intro h
    have hu := (T.up_lt xs x).2
    rcases (T.Anc_step xs k x).1 h with h | ⟨h0, h⟩
    · refine (T.Anc_step xs a x).2 (.inr ⟨by omega, ?_⟩)
      rw [h]
      exact (T.Anc_step xs a _).2 (.inl (by simpa using hk))
    · exact (T.Anc_step xs a x).2 (.inr ⟨h0, ih _ (by omega) h⟩)
theorem T.Anc_uniq (xs : List Item) (a : Int) (k1 k2 : Nat) (h1 : T.upI xs k1 = a) (h2 : T.upI xs k2 = a) : ∀ x : Nat, (x = k1 ∨ T.Anc xs k1 x) → (x = k2 ∨ T.Anc xs k2 x) → k1 = k2 := by
  have key : ∀ (p q : Nat), T.upI xs p = a → T.upI xs q = a → ¬ T.Anc xs p q := by
    intro p q hp hq h
    have hl := (T.up_lt xs p).2
    rcases (T.Anc_step xs p q).1 h with h | ⟨h0, h⟩
    · omega
    · have := T.Anc_lt xs p _ h
      rw [hq] at this h0
      omega
  intro x
  induction x using Nat.strongRecOn with
  | _ x ih =>
    intro e1 e2
    rcases e1 with e1 | e1
    · rcases e2 with e2 | e2
      · omega
      · subst e1; exact absurd e2 (key _ _ h2 h1)
    · rcases e2 with e2 | e2
      · subst e2; exact absurd e1 (key _ _ h1 h2)
      · have hu := (T.up_lt xs x).2
        rcases (T.Anc_step xs k1 x).1 e1 with f1 | ⟨g1, f1⟩ <;> rcases (T.Anc_step xs k2 x).1 e2 with f2 | ⟨g2, f2⟩
        · omega
        · exact ih _ (by omega) (.inl (by omega)) (.inr f2)
        · exact ih _ (by omega) (.inr f1) (.inl (by omega))
        · exact ih _ (by omega) (.inr f1) (.inr f2)
theorem T.under_mem (xs : List Item) : ∀ (f : Nat) (a : Int) (x : Nat), -1 ≤ a → (xs.length : Int) - a ≤ f → (x ∈ T.under xs f a ↔ x < xs.length ∧ T.Anc xs a x)
  | 0, a, x, h0, hf => by
    simp only [T.under, List.not_mem_nil, false_iff]
    rintro ⟨h1, h2⟩
    have := T.Anc_lt xs a x h2
    omega
  | f + 1, a, x, h0, hf => by
    simp only [T.under, List.mem_flatMap, List.mem_cons]
    constructor
    · rintro ⟨k, hk, hx⟩
      have hkm := (T.kd_mem xs a _ k).1 hk
      have hgt := T.kd_gt xs a _ k hk
      rcases hx with rfl | hx
      · exact ⟨hkm.1, (T.Anc_step xs a x).2 (.inl hkm.2)⟩
      · have := (T.under_mem xs f k x (by omega) (by omega)).1 hx
        exact ⟨this.1, T.Anc_trans xs a k hkm.2 x this.2⟩
    · rintro ⟨hx, ha⟩
      obtain ⟨k, hk, hkx⟩ := T.Anc_child xs a x ha
      have hkx' : k ≤ x := by
        rcases hkx with rfl | h
        · exact Nat.le_refl _
        · have := T.Anc_lt xs k x h; omega
      have hgt := (T.up_lt xs k).2
      refine ⟨k, (T.kd_mem xs a _ k).2 ⟨by omega, hk⟩, ?_⟩
      rcases hkx with rfl | h
      · exact .inl rfl
      · exact .inr ((T.under_mem xs f k x (by omega) (by omega)).2 ⟨hx, h⟩)
theorem T.nodup_flat {α : Type} (l : List Nat) (g : Nat → List α) (hl : l.Nodup) (hg : ∀ k ∈ l, (g k).Nodup) (hd : ∀ k1 ∈ l, ∀ k2 ∈ l, ∀ x, x ∈ g k1 → x ∈ g k2 → k1 = k2) : (l.flatMap g).Nodup := by
  induction l with
  | nil => simp
  | cons a l ih =>
    rw [List.flatMap_cons, List.nodup_append]
    have hl' := List.nodup_cons.1 hl
    refine ⟨hg a List.mem_cons_self, ih hl'.2 (fun k hk => hg k (List.mem_cons_of_mem _ hk)) (fun k1 h1 k2 h2 => hd k1 (List.mem_cons_of_mem _ h1) k2 (List.mem_cons_of_mem _ h2)), ?_⟩
    intro x hx y hy hxy
    subst hxy
    obtain ⟨k, hk, hx2⟩ := List.mem_flatMap.1 hy
    have := hd a List.mem_cons_self k (List.mem_cons_of_mem _ hk) x hx hx2
    subst this
    exact hl'.1 hk
theorem T.under_nodup (xs : List Item) : ∀ (f : Nat) (a : Int), -1 ≤ a → (xs.length : Int) - a ≤ f → (T.under xs f a).Nodup
  | 0, _, _, _ => by simp [T.under]
  | f + 1, a, h0, hf => by
    have hm : ∀ k ∈ T.kd_ xs a xs.length, ∀ x, x ∈ (k :: T.under xs f k) → (x = k ∨ T.Anc xs k x) := by
      intro k hk x hx
      have hgt := T.kd_gt xs a _ k hk
      rcases List.mem_cons.1 hx with h | h
      · exact .inl h
      · exact .inr ((T.under_mem xs f k x (by omega) (by omega)).1 h).2
    unfold T.under
    refine T.nodup_flat _ _ (T.kd_nodup xs a _) ?_ ?_
    · intro k hk
      have hgt := T.kd_gt xs a _ k hk
      refine List.nodup_cons.2 ⟨fun h => ?_, T.under_nodup xs f k (by omega) (by omega)⟩
      have := T.Anc_lt xs k k ((T.under_mem xs f k k (by omega) (by omega)).1 h).2
      omega
    · intro k1 h1 k2 h2 x hx1 hx2
      exact T.Anc_uniq xs a k1 k2 ((T.kd_mem xs a _ k1).1 h1).2 ((T.kd_mem xs a _ k2).1 h2).2 x (hm k1 h1 x hx1) (hm k2 h2 x hx2)
/-- Who stands there stands behind the one above it, or is a child of a. -/
def T.behind (xs : List Item) (a : Int) (l : List Nat) : Prop := ∀ p k s, l = p ++ k :: s → T.upI xs k = a ∨ ∃ j : Nat, j ∈ p ∧ T.upI xs k = (j : Int)
theorem T.under_behind (xs : List Item) : ∀ (f : Nat) (a : Int), T.behind xs a (T.under xs f a)
  | 0, _ => by intro p k s h; simp [T.under] at h
  | f + 1, a => by
    have key : ∀ l : List Nat, (∀ k ∈ l, T.upI xs k = a) → T.behind xs a (l.flatMap fun k => k :: T.under xs f k) := by
      intro l
      induction l with
      | nil => intro _ p k s h; simp at h
      | cons q l ih =>
        intro hl p k s h
        rw [List.flatMap_cons] at h
        rcases List.append_eq_append_iff.1 h with ⟨ls, h1, h2⟩ | ⟨bs, h1, h2⟩
        · -- the split lies behind the first group
          rcases ih (fun k hk => hl k (List.mem_cons_of_mem _ hk)) ls k s h2 with h3 | ⟨j, hj, h3⟩
          · exact .inl h3
          · exact .inr ⟨j, by rw [h1]; exact List.mem_append_right _ hj, h3⟩
        · cases bs with
          | nil =>
            simp only [List.nil_append] at h2
            rcases ih (fun k hk => hl k (List.mem_cons_of_mem _ hk)) [] k s h2.symm with h3 | ⟨j, hj, _⟩
            · exact .inl h3
            · simp at hj
          | cons b bs =>
            rw [List.cons_append, List.cons.injEq] at h2
            obtain ⟨rfl, h2⟩ := h2
            cases p with
            | nil =>
              simp only [List.nil_append, List.cons.injEq] at h1
              rw [← h1.1]
              exact .inl (hl q List.mem_cons_self)
            | cons p0 p =>
              rw [List.cons_append, List.cons.injEq] at h1
              obtain ⟨rfl, h1⟩ := h1
              rcases T.under_behind xs f q p k bs h1 with h3 | ⟨j, hj, h3⟩
              · exact .inr ⟨q, List.mem_cons_self, h3⟩
              · exact .inr ⟨j, List.mem_cons_of_mem _ hj, h3⟩
    exact key _ fun k hk => ((T.kd_mem xs a _ k).1 hk).2
def T.order (xs : List Item) : List Nat := T.under xs (xs.length + 1) (-1)
theorem T.order_mem (xs : List Item) (x : Nat) : x ∈ T.order xs ↔ x < xs.length := by
  unfold T.order
  rw [T.under_mem xs _ _ x (by omega) (by omega)]
  exact ⟨fun h => h.1, fun h => ⟨h, T.Anc_root xs x⟩⟩
theorem T.order_nodup (xs : List Item) : (T.order xs).Nodup := T.under_nodup xs _ _ (by omega) (by omega)
theorem T.order_len (xs : List Item) : (T.order xs).length = xs.length := by
  have hp : (T.order xs).Perm (List.range xs.length) := (List.perm_ext_iff_of_nodup (T.order_nodup xs) List.nodup_range).2 fun x => by rw [T.order_mem, List.mem_range]
  have := hp.length_eq
  simpa using this
theorem T.order_behind (xs : List Item) : T.behind xs (-1) (T.order xs) := T.under_behind xs _ _
end Go.Proofs.YtcncmbcnekekdaaDoor
