/- The segments of a span, as plain lists: how they are made, how they lie, how many they are. -/
import Derived.Test.YtcmngomncdeffaaPathF
namespace Go.Proofs.Ytcmngomncdeffaa
set_option linter.unusedVariables false
set_option linter.unusedSimpArgs false

def T.good (xs : List Item) (i : Nat) (f t : Int) (a : Int) : Prop := a = -1 ∨ ∃ (k : Nat) (x : Item), a = (k : Int) ∧ xs[k]? = some x ∧ i < k ∧ T.upI xs k = i ∧ T.cand f t x = true
theorem T.good_fold (xs : List Item) (i : Nat) (f t : Int) : ∀ (l : List Nat) (a : Int), (∀ k ∈ l, T.upI xs k = i) → T.good xs i f t a → T.good xs i f t (l.foldl (T.lstep xs f t) a)
  | [], a, _, h => h
  | k :: l, a, hl, h => by
    rw [List.foldl_cons]
    refine T.good_fold xs i f t l _ (fun j hj => hl j (List.mem_cons_of_mem _ hj)) ?_
    unfold T.lstep
    split
    · rename_i x hx
      split
      · rename_i hc
        simp only [Bool.and_eq_true] at hc
        have hu := hl k List.mem_cons_self
        have := T.upI_lt xs k
        exact .inr ⟨k, x, rfl, hx, by omega, hu, hc.1⟩
      · exact h
    · exact h
theorem T.last_good (xs : List Item) (i : Nat) (f t : Int) : T.good xs i f t (T.last xs i f t) :=
  T.good_fold xs i f t _ _ (fun k hk => (T.kidN_lt xs i k hk).2) (.inl rfl)
theorem T.cand_of {f t : Int} {x : Item} (h : T.cand f t x = true) : T.counts x = true ∧ x.to_ ≤ t ∧ max x.from_ f < x.to_ := by
  simpa [T.cand] using h
def T.lastO (xs : List Item) (i : Nat) (f t : Int) : Option (Nat × Item) :=
  if 0 ≤ T.last xs i f t then (xs[(T.last xs i f t).toNat]?).map fun x => ((T.last xs i f t).toNat, x) else none
theorem T.lastO_some {xs : List Item} {i : Nat} {f t : Int} {k : Nat} {x : Item} (h : T.lastO xs i f t = some (k, x)) :
    T.last xs i f t = (k : Int) ∧ xs[k]? = some x ∧ i < k ∧ k < xs.length ∧ T.upI xs k = i ∧ T.counts x = true ∧ x.to_ ≤ t ∧ max x.from_ f < x.to_ := by
  unfold T.lastO at h
  split at h
  · rename_i h0
    rcases T.last_good xs i f t with hg | ⟨k', x', hk, hx, hi, hu, hc⟩
    · omega
    · rw [hk] at h
      simp only [Int.toNat_natCast, hx, Option.map_some, Option.some.injEq, Prod.mk.injEq] at h
      obtain ⟨rfl, rfl⟩ := h
      exact ⟨hk, hx, hi, (List.getElem?_eq_some_iff.1 hx).1, hu, T.cand_of hc⟩
  · cases h
theorem T.lastO_none {xs : List Item} {i : Nat} {f t : Int} (h : T.lastO xs i f t = none) : T.last xs i f t = -1 := by
  unfold T.lastO at h
  rcases T.last_good xs i f t with hg | ⟨k', x', hk, hx, _⟩
  · exact hg
  · rw [hk] at h
    simp [hx] at h
theorem T.lastO_neg {xs : List Item} {i : Nat} {f t : Int} (h : T.last xs i f t < 0) : T.lastO xs i f t = none := by
  unfold T.lastO; rw [if_neg (by omega)]
theorem T.lastO_of {xs : List Item} {i : Nat} {f t : Int} {k : Nat} {x : Item} (h : T.last xs i f t = (k : Int)) (hx : xs[k]? = some x) : T.lastO xs i f t = some (k, x) := by
  unfold T.lastO; rw [if_pos (by omega), h]; simp [hx]
def T.seg (i : Nat) (f t : Int) : List Seg := if f < t then [⟨(i : Int), f, t⟩] else []
def T.span (xs : List Item) (i : Nat) (f t : Int) : List Seg :=
  match h : T.lastO xs i f t with
  | none => T.seg i f t
  | some (k, x) => T.span xs i f (max x.from_ f) ++ (T.span xs k (max x.from_ f) x.to_ ++ T.seg i x.to_ t)
termination_by (xs.length - i, (t - f).toNat)
decreasing_by
  all_goals
    obtain ⟨h1, h2, h3, h4, h5, h6, h7, h8⟩ := T.lastO_some h
  · exact Prod.Lex.right _ (by omega)
  · exact Prod.Lex.left _ _ (by omega)
theorem T.span_none {xs : List Item} {i : Nat} {f t : Int} (h : T.lastO xs i f t = none) : T.span xs i f t = T.seg i f t := by
  rw [T.span]; split
  · rfl
  · rename_i h'; rw [h] at h'; cases h'
theorem T.span_some {xs : List Item} {i : Nat} {f t : Int} {k : Nat} {x : Item} (h : T.lastO xs i f t = some (k, x)) :
    T.span xs i f t = T.span xs i f (max x.from_ f) ++ (T.span xs k (max x.from_ f) x.to_ ++ T.seg i x.to_ t) := by
  rw [T.span]; split
  · rename_i h'; rw [h] at h'; cases h'
  · rename_i h'; rw [h] at h'; cases h'; rfl
/-- A property of spans, by how they are made. -/
theorem T.span_ind {xs : List Item} {M : Nat → Int → Int → List Seg → Prop} (h0 : ∀ i f t, T.lastO xs i f t = none → M i f t (T.seg i f t))
    (h1 : ∀ i f t k x a b, T.lastO xs i f t = some (k, x) → M i f (max x.from_ f) a → M k (max x.from_ f) x.to_ b → M i f t (a ++ (b ++ T.seg i x.to_ t))) (i : Nat) (f t : Int) : M i f t (T.span xs i f t) := by
  match h : T.lastO xs i f t with
  | none => rw [T.span_none h]; exact h0 i f t h
  | some (k, x) => rw [T.span_some h]; exact h1 i f t k x _ _ h (T.span_ind h0 h1 i f _) (T.span_ind h0 h1 k _ _)
termination_by (xs.length - i, (t - f).toNat)
decreasing_by
  all_goals
    obtain ⟨h1, h2, h3, h4, h5, h6, h7, h8⟩ := T.lastO_some h
  · exact Prod.Lex.right _ (by omega)
  · exact Prod.Lex.left _ _ (by omega)

/-- Side by side from f up to t, none empty. -/
def T.chain : Int → Int → List Seg → Prop
  | f, t, [] => f = t
  | f, t, a :: l => a.from_ = f ∧ a.from_ < a.to_ ∧ T.chain a.to_ t l
theorem T.chain_app : ∀ (a b : List Seg) (f m t : Int), T.chain f m a → T.chain m t b → T.chain f t (a ++ b)
  | [], b, f, m, t, h, k => by cases h; exact k
  | x :: a, b, f, m, t, h, k => ⟨h.1, h.2.1, T.chain_app a b _ m t h.2.2 k⟩
theorem T.chain_seg (i : Nat) (f t : Int) (h : f ≤ t) : T.chain f t (T.seg i f t) := by
  unfold T.seg
  split
  · exact ⟨rfl, by assumption, rfl⟩
  · show f = t; omega
theorem T.span_chain (xs : List Item) (i : Nat) (f t : Int) (h : f ≤ t) : T.chain f t (T.span xs i f t) := by
  revert h
  refine T.span_ind (M := fun i f t s => f ≤ t → T.chain f t s) (fun i f t _ h => T.chain_seg i f t h) ?_ i f t
  intro i f t k x a b h ha hb hft
  obtain ⟨h1, h2, h3, h4, h5, h6, h7, h8⟩ := T.lastO_some h
  exact T.chain_app _ _ _ _ _ (ha (by omega)) (T.chain_app _ _ _ _ _ (hb (by omega)) (T.chain_seg _ _ _ h7))
theorem T.chain_le : ∀ (l : List Seg) (f t : Int), T.chain f t l → f ≤ t ∧ ∀ s ∈ l, f ≤ s.from_ ∧ s.from_ < s.to_ ∧ s.to_ ≤ t
  | [], f, t, h => ⟨by cases h; omega, by simp⟩
  | a :: l, f, t, ⟨h1, h2, h3⟩ => by
    obtain ⟨k1, k2⟩ := T.chain_le l _ _ h3
    refine ⟨by omega, fun s hs => ?_⟩
    rcases List.mem_cons.1 hs with rfl | hs
    · omega
    · have := k2 s hs; omega
theorem T.chain_up : ∀ (l : List Seg) (f t : Int), T.chain f t l → (l.map (·.from_)).Pairwise (· < ·)
  | [], _, _, _ => List.Pairwise.nil
  | a :: l, f, t, ⟨h1, h2, h3⟩ => by
    rw [List.map_cons]
    refine List.Pairwise.cons (fun b hb => ?_) (T.chain_up l _ _ h3)
    obtain ⟨s, hs, rfl⟩ := List.mem_map.1 hb
    have := ((T.chain_le l _ _ h3).2 s hs).1
    omega
theorem nodup_len : ∀ (l m : List Int), l.Pairwise (· < ·) → (∀ x ∈ l, x ∈ m) → l.length ≤ m.length
  | [], _, _, _ => Nat.zero_le _
  | a :: l, m, h, k => by
    obtain ⟨h1, h2⟩ := List.pairwise_cons.1 h
    have hm := k a List.mem_cons_self
    have := nodup_len l (m.erase a) h2 fun x hx => (List.mem_erase_of_ne (by have := h1 x hx; omega)).2 (k x (List.mem_cons_of_mem _ hx))
    have hl := List.length_erase_of_mem hm
    have := List.length_pos_of_mem hm
    simp only [List.length_cons]
    omega
theorem T.span_froms (xs : List Item) (i : Nat) (f t : Int) : ∀ s ∈ T.span xs i f t, s.from_ = f ∨ (∃ x ∈ xs, s.from_ = x.from_) ∨ (∃ x ∈ xs, s.from_ = x.to_) := by
  refine T.span_ind (M := fun i f t s => ∀ q ∈ s, q.from_ = f ∨ (∃ x ∈ xs, q.from_ = x.from_) ∨ (∃ x ∈ xs, q.from_ = x.to_)) ?_ ?_ i f t
  · intro i f t h s hs
    unfold T.seg at hs
    split at hs
    · simp at hs; exact .inl (by rw [hs])
    · cases hs
  · intro i f t k x a b h ha hb s hs
    obtain ⟨h1, h2, h3, h4, h5, h6, h7, h8⟩ := T.lastO_some h
    have hx := List.mem_of_getElem? h2
    rcases List.mem_append.1 hs with hs | hs
    · exact ha s hs
    rcases List.mem_append.1 hs with hs | hs
    · rcases hb s hs with e | e
      · by_cases hm : x.from_ ≤ f
        · exact .inl (by omega)
        · exact .inr (.inl ⟨x, hx, by omega⟩)
      · exact .inr e
    · unfold T.seg at hs
      split at hs
      · simp at hs; exact .inr (.inr ⟨x, hx, by rw [hs]⟩)
      · cases hs
theorem T.span_len (xs : List Item) (i : Nat) (f t : Int) (h : f ≤ t) : (T.span xs i f t).length ≤ 2 * xs.length + 1 := by
  have h1 := T.chain_up _ _ _ (T.span_chain xs i f t h)
  have h2 := nodup_len _ (f :: (xs.map (·.from_) ++ xs.map (·.to_))) h1 fun x hx => by
    obtain ⟨s, hs, rfl⟩ := List.mem_map.1 hx
    rcases T.span_froms xs i f t s hs with e | ⟨y, hy, e⟩ | ⟨y, hy, e⟩
    · rw [e]; exact List.mem_cons_self
    · rw [e]; exact List.mem_cons_of_mem _ (List.mem_append_left _ (List.mem_map.2 ⟨y, hy, rfl⟩))
    · rw [e]; exact List.mem_cons_of_mem _ (List.mem_append_right _ (List.mem_map.2 ⟨y, hy, rfl⟩))
  simp at h2
  omega

/-! Whose they are. -/
theorem T.pathF_self (xs : List Item) (i : Int) (f : Nat) (h0 : 0 ≤ i) (hf : i < f) : i ∈ T.pathF xs f i := by
  cases f with
  | zero => omega
  | succ f => rw [T.pathF, if_pos h0]; exact List.mem_cons_self
theorem T.pathF_up (xs : List Item) : ∀ (f : Nat) (a k : Int), a < f → k ∈ T.pathF xs f a → 0 ≤ T.above xs k → T.above xs k ∈ T.pathF xs f a
  | 0, a, k, _, h, _ => by cases h
  | f + 1, a, k, ha, h, h0 => by
    rw [T.pathF] at h ⊢
    split at h
    · rename_i ha0
      rw [if_pos ha0]
      have hlt := T.above_lt xs a ha0
      rcases List.mem_cons.1 h with rfl | h
      · exact List.mem_cons_of_mem _ (T.pathF_self xs _ _ h0 (by omega))
      · exact List.mem_cons_of_mem _ (T.pathF_up xs f _ k (by omega) h h0)
    · cases h
/-- A segment within the span of its own item, which is that one, or below it. -/
def T.within (xs : List Item) (i : Nat) (s : Seg) : Prop := ∃ (a : Nat) (z : Item), s.at_ = a ∧ xs[a]? = some z ∧ z.from_ ≤ s.from_ ∧ s.to_ ≤ z.to_ ∧ (i : Int) ∈ T.path xs a
theorem T.within_seg (xs : List Item) (i : Nat) (f t : Int) (y : Item) (hy : xs[i]? = some y) (h1 : y.from_ ≤ f) (h2 : t ≤ y.to_) : ∀ s ∈ T.seg i f t, T.within xs i s := by
  intro s hs
  unfold T.seg at hs
  split at hs
  · simp at hs
    subst hs
    have hi := (List.getElem?_eq_some_iff.1 hy).1
    refine ⟨i, y, rfl, hy, h1, h2, ?_⟩
    rw [T.path, if_pos (by omega)]
    exact T.pathF_self xs _ _ (by omega) (by omega)
  · cases hs
theorem T.span_within (xs : List Item) (i : Nat) (f t : Int) (y : Item) (hy : xs[i]? = some y) (h1 : y.from_ ≤ f) (h2 : t ≤ y.to_) (hft : f ≤ t) : ∀ s ∈ T.span xs i f t, T.within xs i s := by
  revert y
  revert hft
  refine T.span_ind (M := fun i f t s => f ≤ t → ∀ y, xs[i]? = some y → y.from_ ≤ f → t ≤ y.to_ → ∀ q ∈ s, T.within xs i q) ?_ ?_ i f t
  · intro i f t h _ y hy h1 h2
    exact T.within_seg xs i f t y hy h1 h2
  · intro i f t k x a b h ha hb hft y hy h1 h2 s hs
    obtain ⟨l1, l2, l3, l4, l5, l6, l7, l8⟩ := T.lastO_some h
    rcases List.mem_append.1 hs with hs | hs
    · exact ha (by omega) y hy h1 (by omega) s hs
    rcases List.mem_append.1 hs with hs | hs
    · obtain ⟨c, z, e1, e2, e3, e4, e5⟩ := hb (by omega) x l2 (by omega) (by omega) s hs
      refine ⟨c, z, e1, e2, e3, e4, ?_⟩
      have hc := (List.getElem?_eq_some_iff.1 e2).1
      have hab : T.above xs (k : Int) = (i : Int) := by rw [T.above_up xs k l4]; exact l5
      rw [T.path, if_pos (by omega)] at e5 ⊢
      have := T.pathF_up xs xs.length c k (by omega) e5 (by omega)
      rw [hab] at this
      exact this
    · exact T.within_seg xs i _ _ y hy (by omega) h2 s hs
theorem T.chain_whole : ∀ (l : List Seg) (f t : Int), T.chain f t l → T.whole l = t - f
  | [], f, t, h => by cases h; simp [T.whole]
  | a :: l, f, t, ⟨h1, h2, h3⟩ => by
    have := T.chain_whole l _ _ h3
    simp only [T.whole, List.map_cons, List.sum_cons] at this ⊢
    rw [this]
    unfold T.segd
    rw [if_neg (by omega)]
    omega
theorem sum_set : ∀ (l : List Int) (k : Nat) (v d : Int), l[k]? = some v → (l.set k (v + d)).sum = l.sum + d
  | [], k, v, d, h => by simp at h
  | a :: l, 0, v, d, h => by simp at h; subst h; simp; omega
  | a :: l, k + 1, v, d, h => by
    simp at h
    have := sum_set l k v d h
    simp [this]; omega
theorem sum_zeros (n : Nat) : (List.replicate n (0 : Int)).sum = 0 := by
  induction n with
  | zero => rfl
  | succ n ih => simp [List.replicate_succ, ih]
theorem T.own_sum (n : Nat) (ss : List Seg) (h : ∀ s ∈ ss, 0 ≤ s.at_ ∧ s.at_ < n) : (T.own n ss).sum = T.whole ss := by
  obtain ⟨k, hk⟩ : ∃ k, ss.length = k := ⟨_, rfl⟩
  induction k generalizing ss with
  | zero =>
    obtain rfl := List.eq_nil_of_length_eq_zero hk
    rw [T.own_nil, sum_zeros]; rfl
  | succ k ih =>
    have hne : ss ≠ [] := by intro e; subst e; simp at hk
    obtain ⟨l, s, rfl⟩ : ∃ l s, ss = l ++ [s] := ⟨ss.dropLast, ss.getLast hne, (List.dropLast_concat_getLast hne).symm⟩
    have hs := h s (by simp)
    obtain ⟨a, ha⟩ : ∃ a : Nat, s.at_ = a := ⟨s.at_.toNat, by omega⟩
    rw [T.own_hit n l s a ha (by omega), T.whole_snoc, sum_set _ _ _ _ (T.own_get n l a (by omega)), ih l (fun q hq => h q (by simp [hq])) (by simpa using hk)]
end Go.Proofs.Ytcmngomncdeffaa
