/- Forest: who was there: plain law; an item ended in place. -/
import Derived.Test.YtcncmbcnekekdaaDoorPath
import Derived.Test.YtcncmbcnekekdaaDoorHead
import Derived.Test.YtcncmbcnekekdaaDoorLits
namespace Go.Proofs.YtcncmbcnekekdaaDoor
open Go.RowKit
set_option linter.unusedVariables false
set_option linter.unusedSimpArgs false

/-! The plain law. -/
def T.mk (e : Event) : Item := ⟨e.key, e.parent, e.root, e.hop, e.node, e.real, -1, 0, 0⟩
def T.over (x : Item) (e : Event) : Item := { x with to_ := e.real, how := e.kind, code := e.code }
def T.endFrom (out : List Item) (e : Event) : Nat → List Item
  | 0 => out
  | k + 1 => match out[k]? with
    | some x => if x.key = e.key ∧ x.node = e.node then (if x.how = 0 then out.set k (T.over x e) else out) else T.endFrom out e k
    | none => out
def T.crash (e : Event) (x : Item) : Item := if x.node = e.node ∧ x.how = 0 then T.over x { e with code := 0 } else x
def T.grow1 (out : List Item) (e : Event) : List Item :=
  if e.kind = 1 ∨ e.kind = 3 then out ++ [T.mk e]
  else if e.kind = 5 ∨ e.kind = 6 ∨ e.kind = 7 then T.endFrom out e out.length
  else if e.kind = 9 then out.map (T.crash e) else out
def T.grow (l : List Event) : List Item := l.foldl T.grow1 []
theorem T.grow_snoc (l : List Event) (e : Event) : T.grow (l ++ [e]) = T.grow1 (T.grow l) e := by simp [T.grow]
theorem T.endFrom_len (out : List Item) (e : Event) : ∀ k, (T.endFrom out e k).length = out.length
  | 0 => rfl
  | k + 1 => by
    unfold T.endFrom
    split
    · split
      · split
        · simp
        · rfl
      · exact T.endFrom_len out e k
    · rfl
theorem T.grow1_len (out : List Item) (e : Event) : (T.grow1 out e).length ≤ out.length + 1 := by
  unfold T.grow1
  split
  · simp
  · split
    · rw [T.endFrom_len]; omega
    · split <;> simp
theorem T.grow_len (l : List Event) : (T.grow l).length ≤ l.length := by
  suffices h : ∀ (l : List Event) (out : List Item), (l.foldl T.grow1 out).length ≤ out.length + l.length by simpa [T.grow] using h l []
  intro l
  induction l with
  | nil => simp
  | cons e l ih => intro out; rw [List.foldl_cons]; have := ih (T.grow1 out e); have := T.grow1_len out e; simp only [List.length_cons]; omega
/-- Who was there stays known: a at one place, b there later. -/
def T.later (a b : Item) : Prop := (a.how ≠ 0 → a = b) ∧ { b with to_ := a.to_, how := a.how, code := a.code } = a
theorem T.later_refl (a : Item) : T.later a a := ⟨fun _ => rfl, rfl⟩
theorem T.later_trans {a b c : Item} (h : T.later a b) (k : T.later b c) : T.later a c := by
  obtain ⟨h1, h2⟩ := h
  obtain ⟨k1, k2⟩ := k
  constructor
  · intro ha
    have := h1 ha
    subst this
    exact k1 ha
  · cases a; cases b; cases c
    simp at h2 k2 ⊢
    simp_all
theorem T.later_over (x : Item) (e : Event) (h : x.how = 0) : T.later x (T.over x e) := ⟨fun hn => absurd h hn, rfl⟩
def T.ext (xs ys : List Item) : Prop := ∀ (i : Nat) (a : Item), xs[i]? = some a → ∃ b, ys[i]? = some b ∧ T.later a b
theorem T.ext_refl (xs : List Item) : T.ext xs xs := fun i a h => ⟨a, h, T.later_refl a⟩
theorem T.ext_trans {xs ys zs : List Item} (h : T.ext xs ys) (k : T.ext ys zs) : T.ext xs zs := fun i a ha => by
  obtain ⟨b, hb, h1⟩ := h i a ha
  obtain ⟨c, hc, h2⟩ := k i b hb
  exact ⟨c, hc, T.later_trans h1 h2⟩
theorem T.ext_end (out : List Item) (e : Event) : ∀ k, T.ext out (T.endFrom out e k)
  | 0 => T.ext_refl out
  | k + 1 => by
    unfold T.endFrom
    split
    · rename_i x hx
      split
      · split
        · rename_i h0
          intro i a ha
          rw [List.getElem?_set]
          by_cases hik : k = i
          · subst hik
            rw [hx] at ha
            cases ha
            have := (List.getElem?_eq_some_iff.1 hx).1
            rw [if_pos rfl, if_pos this]
            exact ⟨_, rfl, T.later_over _ e h0⟩
          · rw [if_neg hik]
            exact ⟨a, ha, T.later_refl a⟩
        · exact T.ext_refl out
      · exact T.ext_end out e k
    · exact T.ext_refl out
theorem T.ext_grow1 (out : List Item) (e : Event) : T.ext out (T.grow1 out e) := by
  unfold T.grow1
  split
  · intro i a ha
    have := (List.getElem?_eq_some_iff.1 ha).1
    exact ⟨a, by rw [List.getElem?_append_left this]; exact ha, T.later_refl a⟩
  · split
    · exact T.ext_end out e _
    · split
      · intro i a ha
        refine ⟨T.crash e a, by simp [ha], ?_⟩
        unfold T.crash
        split
        · rename_i h; exact T.later_over _ _ h.2
        · exact T.later_refl a
      · exact T.ext_refl out
theorem T.ext_grow (l m : List Event) : T.ext (T.grow l) (T.grow (l ++ m)) := by
  rw [show T.grow (l ++ m) = m.foldl T.grow1 (T.grow l) by simp [T.grow]]
  generalize T.grow l = out
  induction m generalizing out with
  | nil => exact T.ext_refl out
  | cons e m ih => rw [List.foldl_cons]; exact T.ext_trans (T.ext_grow1 out e) (ih _)
/-- Who is still there has not ended. -/
def T.fresh (x : Item) : Prop := x.how = 0 → x.to_ = -1
theorem T.fresh_end (out : List Item) (e : Event) (he : e.kind ≠ 0) (h : ∀ x ∈ out, T.fresh x) : ∀ k, ∀ x ∈ T.endFrom out e k, T.fresh x
  | 0 => h
  | k + 1 => by
    unfold T.endFrom
    split
    · split
      · split
        · intro x hx
          rcases List.mem_or_eq_of_mem_set hx with hx | rfl
          · exact h x hx
          · intro h0; exact absurd h0 he
        · exact h
      · exact T.fresh_end out e he h k
    · exact h
theorem T.fresh_grow1 (out : List Item) (e : Event) (h : ∀ x ∈ out, T.fresh x) : ∀ x ∈ T.grow1 out e, T.fresh x := by
  unfold T.grow1
  split
  · intro x hx
    rcases List.mem_append.1 hx with hx | hx
    · exact h x hx
    · simp at hx; subst hx; intro _; rfl
  · split
    · rename_i hk; exact T.fresh_end out e (by omega) h _
    · split
      · rename_i hk
        intro x hx
        obtain ⟨y, hy, rfl⟩ := List.mem_map.1 hx
        unfold T.crash
        split
        · intro h0; simp [T.over] at h0; omega
        · exact h y hy
      · exact h
theorem T.fresh_grow (l : List Event) : ∀ x ∈ T.grow l, T.fresh x := by
  suffices h : ∀ (l : List Event) (out : List Item), (∀ x ∈ out, T.fresh x) → ∀ x ∈ l.foldl T.grow1 out, T.fresh x from h l [] (by simp)
  intro l
  induction l with
  | nil => intro out h; exact h
  | cons e l ih => intro out h; exact ih _ (T.fresh_grow1 out e h)

/-! One field of one element, written in place. -/
section
variable {α : Type} {arr : α → Array Value} {sz base : Nat} {e : TypeId} {w w1 : World} {v : Value} {xs : List α} {g n cap : Nat}
theorem Own.setField (hs : ∀ x, (arr x).size = sz) (h0 : 0 < sz) (h : Own arr sz base e w (.slice (some ⟨g, 0, none⟩) n cap) xs) (i : Nat) (x y : α) (hx : xs[i]? = some x) (j : Nat) (hj : j < sz) (u : Value) (hy : (arr x).setIfInBounds j u = arr y) :
    Own arr sz base e (w.setCell ⟨g, i * sz + j, none⟩ u) (.slice (some ⟨g, 0, none⟩) n cap) (xs.set i y) := by
  have hi := (List.getElem?_eq_some_iff.1 hx).1
  rcases h.2 with ⟨hv, _⟩ | ⟨g', cap', cur, hv, hb, hg, hnc, hcm, hcs, ht⟩
  · cases hv
  · injection hv with e1 e2 e3
    injection e1 with e1
    injection e1 with e1
    subst e1; subst e2; subst e3
    have hlen := flat_len hs xs
    have hlen' := flat_len hs (xs.set i y)
    refine ⟨by rw [hlen'], .inr ⟨g, cap, cur.setIfInBounds (i * sz + j) u, by simp, hb, heap_setCell_same w g _ cur e u hg, by simpa using hnc, hcm, by simpa using hcs, ?_⟩⟩
    apply List.ext_getElem?
    intro m
    rw [flat_get hs h0, List.getElem?_take]
    simp only [List.length_set]
    have hle : i * sz + sz ≤ xs.length * sz := by rw [← Nat.succ_mul]; exact Nat.mul_le_mul_right _ (by omega)
    have hsz : xs.length * sz ≤ cur.size := by rw [hcs]; exact Nat.mul_le_mul_right _ hnc
    by_cases hm : m < xs.length * sz
    · rw [if_pos hm]
      have hdiv : m / sz < xs.length := (Nat.div_lt_iff_lt_mul h0).2 hm
      have hold : cur[m]? = (xs[m / sz]?).bind fun x => (arr x)[m % sz]? := by
        rw [← flat_get hs h0, ← ht, List.getElem?_take, if_pos hm]; simp
      have h5 := Nat.div_add_mod m sz
      have h6 := Nat.mod_lt m h0
      simp only [Array.getElem?_toList, Array.getElem?_setIfInBounds]
      rw [List.getElem?_set]
      by_cases e : i = m / sz
      · rw [← e, Nat.mul_comm] at h5
        rw [if_pos e, if_pos hi]
        simp only [Option.bind_some]
        rw [← hy, Array.getElem?_setIfInBounds, hs]
        by_cases e2 : j = m % sz
        · rw [if_pos (by omega), if_pos (by omega), if_pos e2, if_pos (by omega)]
        · rw [if_neg (by omega), if_neg e2, hold, ← e, hx]; rfl
      · rw [if_neg e, if_neg, hold]
        intro e3
        apply e
        exact (Nat.div_eq_of_lt_le (by omega) (by rw [Nat.succ_mul]; omega)).symm
    · rw [if_neg hm, List.getElem?_eq_none (by simp; exact (Nat.le_div_iff_mul_le h0).2 (by omega)), Option.bind_none]
end
end Go.Proofs.YtcncmbcnekekdaaDoor
