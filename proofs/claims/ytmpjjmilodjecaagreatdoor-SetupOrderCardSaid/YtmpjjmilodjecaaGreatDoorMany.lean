/- Lists of the call's own: many elements appended at once; an element written in place. -/
import Derived.Test.YtmpjjmilodjecaaGreatDoorList
import Derived.Laws.AppendOwnNone
import Derived.Deep.MidRow
namespace Go.Proofs.YtmpjjmilodjecaaGreatDoor
open Go.RowKit
set_option linter.unusedVariables false
set_option linter.unusedSimpArgs false

/-- What may be appended: nothing, or elements that lie in a row. -/
def Src {α : Type} (arr : α → Array Value) (sz : Nat) (w : World) (v : Value) (ys : List α) : Prop :=
  (v = .slice none 0 0 ∧ ys = []) ∨ ∃ g off c, v = .slice (some ⟨g, off, none⟩) ys.length c ∧ ∀ i y, ys[i]? = some y → rowAt w g (off + i * sz) sz = some (arr y)
section
variable {α : Type} {arr : α → Array Value} {sz base : Nat} {e : TypeId} {w w1 : World} {v : Value} {xs : List α}
theorem Own.src (hs : ∀ x, (arr x).size = sz) (h : Own arr sz base e w v xs) : Src arr sz w v xs := by
  rcases h.2 with ⟨rfl, hn⟩ | ⟨g, cap, cur, rfl, _⟩
  · exact .inl ⟨rfl, List.eq_nil_of_length_eq_zero hn⟩
  · obtain ⟨A, cap', hv, _, _, h3⟩ := h.sl hs
    by_cases hx : xs = []
    · subst hx
      exact .inr ⟨g, 0, cap, rfl, by simp⟩
    · obtain ⟨b, off, hA, hb, hr⟩ := h3 hx
      exact .inr ⟨b, off, cap', by rw [hv, hA], hr⟩
theorem Sl.src {B : Nat} (h : Sl arr sz B w v xs) (hx : xs ≠ []) : Src arr sz w v xs := by
  obtain ⟨A, cap', hv, _, _, h3⟩ := h
  obtain ⟨b, off, hA, hb, hr⟩ := h3 hx
  exact .inr ⟨b, off, cap', by rw [hv, hA], hr⟩
theorem flat_get (hs : ∀ x, (arr x).size = sz) (h0 : 0 < sz) (l : List α) (j : Nat) : (l.flatMap fun x => (arr x).toList)[j]? = (l[j / sz]?).bind fun x => (arr x)[j % sz]? := by
  have hlen := flat_len hs l
  cases hx : l[j / sz]? with
  | none =>
    have := List.getElem?_eq_none_iff.1 hx
    simp only [Option.bind_none]
    refine List.getElem?_eq_none ?_
    rw [hlen]
    have := (Nat.le_div_iff_mul_le h0).1 this
    exact this
  | some x =>
    have hp := flat_part hs l _ x hx
    have hm : j % sz < sz := Nat.mod_lt _ h0
    have : (((l.flatMap fun x => (arr x).toList).drop (j / sz * sz)).take sz)[j % sz]? = (arr x).toList[j % sz]? := by rw [hp]
    rw [List.getElem?_take, if_pos hm, List.getElem?_drop] at this
    rw [show j / sz * sz + j % sz = j by rw [Nat.mul_comm]; exact Nat.div_add_mod j sz] at this
    simpa using this
end
theorem wpList_appendN {P : Program} {ops : Array Oper} {rest : List Oper} {o : Oper} {a : Act} {w : World} {Q : Exit → Act → World → Prop} {α : Type} (arr : α → Array Value) (sz : Nat) (hgd : o.guard = none) (s x : Operand) (t : TypeId)
    (ho : o.op = .call { callee := .builtin .append, args := #[s, x], argTypes := #[t, t] })
    (base : Nat) (e : TypeId) (bytes : Nat) (ht : P.underlying t = some (.slice e)) (hi : rowInfo P e = some (sz, bytes)) (hsz : 0 < sz) (hs : ∀ x, (arr x).size = sz) (h1 : ∀ x, (arr x).all (·.oneCell') = true)
    (v u : Value) (xs ys : List α) (hv : a.eval s = v) (hown : Own arr sz base e w v xs) (hu : a.eval x = u) (hsrc : Src arr sz w u ys)
    (hbytes : (xs.length + ys.length) * bytes ≤ 140737488355328) (h63 : xs.length + ys.length ≤ 9223372036854775807) (hbase : base ≤ w.heap.size)
    (h : ∀ v' w', Own arr sz base e w' v' (xs ++ ys) → w.grownBy w' v.ownBlock → Below base w w' → wpList P ops Q rest (a.put o.dst v') w') : wpList P ops Q (o :: rest) a w := by
  obtain ⟨i, z, hq, hi1, hi2, hi3, hz⟩ := rowInfo_some hi
  rcases hsrc with ⟨rfl, rfl⟩ | ⟨g, off, c, rfl, hrow⟩
  · refine wpList_append_own_none hgd s x t ho base e i sz ht hq v xs.length _ hv hown hu ?_
    exact h v w (by simpa using hown) (World.grownBy.refl _ _) (Below.refl _ _)
  · refine wpList_append_own _ hgd s x t ho base e i z sz bytes ht hq hi1 hi2 hi3 hz hsz v xs.length _ hv hown ⟨g, off, none⟩ ys.length c (ys.flatMap fun x => (arr x).toList) hu (flat_len hs ys) (fun j u hj => ?_) (fun u hu => ?_) (by unfold maxLen; omega) hbytes hbase (fun v' w' hown' hgr _ => ?_)
    · rw [flat_get hs hsz] at hj
      cases hy : ys[j / sz]? with
      | none => rw [hy] at hj; simp at hj
      | some y =>
        rw [hy] at hj
        simp only [Option.bind_some] at hj
        have hadd : (⟨g, off, none⟩ : Addr).add j = ⟨g, (off + j / sz * sz) + j % sz, none⟩ := by
          have : j / sz * sz + j % sz = j := by rw [Nat.mul_comm]; exact Nat.div_add_mod j sz
          unfold Addr.add
          simp only [Addr.mk.injEq, and_true, true_and]
          split <;> simp_all <;> omega
        rw [hadd, rowAt_cell (hrow _ y hy) (j % sz) (Nat.mod_lt _ hsz)]
        exact hj
    · obtain ⟨y, _, hy⟩ := List.mem_flatMap.1 hu
      exact (Array.all_eq_true_iff_forall_mem.1 (h1 y)) u (by simpa using hy)
    · refine h v' w' ?_ hgr ((Below.refl base w).grown hgr hbase fun k hk => (hown.lt k hk).1)
      unfold Own
      simpa using hown'

/-! In place. -/
theorem setCells_block (g : Nat) : ∀ (vs : List Value) (o : Nat) (w : World) (cur : Array Value) (t : TypeId), w.heap[g]? = some (.cells cur t (0, 0)) →
    ∃ cur', (w.setCells g o vs).heap[g]? = some (.cells cur' t (0, 0)) ∧ cur'.size = cur.size ∧ ∀ j, cur'[j]? = if o ≤ j ∧ j < o + vs.length ∧ j < cur.size then vs[j - o]? else cur[j]?
  | [], o, w, cur, t, h => ⟨cur, h, rfl, fun j => by rw [if_neg (by simp; omega)]⟩
  | v :: vs, o, w, cur, t, h => by
    obtain ⟨cur', h1, h2, h3⟩ := setCells_block g vs (o + 1) (w.setCell ⟨g, o, none⟩ v) _ t (heap_setCell_same w g o cur t v h)
    refine ⟨cur', h1, by simpa using h2, fun j => ?_⟩
    rw [h3]
    simp only [Array.size_setIfInBounds, List.length_cons, Array.getElem?_setIfInBounds]
    by_cases e : o = j
    · subst e
      rw [if_neg (by omega), if_pos rfl]
      by_cases hs : o < cur.size
      · rw [if_pos hs, if_pos (by omega)]; simp
      · rw [if_neg hs, if_neg (by omega)]; simp; omega
    · rw [if_neg e]
      by_cases hc : o + 1 ≤ j ∧ j < o + 1 + vs.length ∧ j < cur.size
      · rw [if_pos hc, if_pos (by omega)]
        rw [show j - o = (j - (o + 1)) + 1 by omega, List.getElem?_cons_succ]
      · rw [if_neg hc, if_neg (by omega)]
theorem setCells_other (g : Nat) : ∀ (vs : List Value) (o : Nat) (w : World) (k : Nat), k ≠ g → (w.setCells g o vs).heap[k]? = w.heap[k]?
  | [], _, _, _, _ => rfl
  | v :: vs, o, w, k, h => (setCells_other g vs (o + 1) _ k h).trans (heap_setCell_other w ⟨g, o, none⟩ k v h)
theorem setCells_rest (g : Nat) : ∀ (vs : List Value) (o : Nat) (w : World), (w.setCells g o vs).os = w.os ∧ (w.setCells g o vs).tape = w.tape ∧ (w.setCells g o vs).output = w.output ∧ (w.setCells g o vs).heap.size = w.heap.size
  | [], _, _ => ⟨rfl, rfl, rfl, rfl⟩
  | v :: vs, o, w => by
    obtain ⟨h1, h2, h3, h4⟩ := setCells_rest g vs (o + 1) (w.setCell ⟨g, o, none⟩ v)
    exact ⟨h1, h2, h3, by rw [World.setCells, h4]; simp⟩
theorem Below.setCells {B g o : Nat} {a w : World} (h : Below B a w) (hg : B ≤ g) (vs : List Value) : Below B a (w.setCells g o vs) := by
  obtain ⟨h1, h2, h3, h4⟩ := setCells_rest g vs o w
  exact ⟨h1.trans h.os, h2.trans h.tape, h3.trans h.output, by rw [h4]; exact h.size, fun k hk => (setCells_other g vs o w k (by omega)).trans (h.block k hk)⟩
section
variable {α : Type} {arr : α → Array Value} {sz base : Nat} {e : TypeId} {w w1 : World} {v : Value} {xs : List α} {g n cap : Nat}
theorem Own.at (h : Own arr sz base e w (.slice (some ⟨g, 0, none⟩) n cap) xs) : n = xs.length ∧ base ≤ g ∧ ∃ cur, w.heap[g]? = some (.cells cur e (0, 0)) ∧ xs.length * sz ≤ cur.size ∧ cur.toList.take (xs.length * sz) = xs.flatMap fun x => (arr x).toList := by
  rcases h.2 with ⟨hv, _⟩ | ⟨g', cap', cur, hv, hb, hg, hnc, hcm, hcs, ht⟩
  · cases hv
  · injection hv with e1 e2 e3
    injection e1 with e1
    injection e1 with e1
    subst e1; subst e2
    exact ⟨rfl, hb, cur, hg, by rw [hcs]; exact Nat.mul_le_mul_right _ hnc, ht⟩
theorem Own.there (h : Own arr sz base e w (.slice (some ⟨g, 0, none⟩) n cap) xs) (i : Nat) (hi : i < xs.length) : w.there g (i * sz) sz := by
  obtain ⟨_, _, cur, hg, hs, _⟩ := h.at
  have hle : i * sz + sz ≤ xs.length * sz := by rw [← Nat.succ_mul]; exact Nat.mul_le_mul_right _ (by omega)
  intro j hj
  have hlt : i * sz + j < cur.size := by omega
  simp [World.cell?, World.frozen?, hg, hlt]
theorem Own.row (hs : ∀ x, (arr x).size = sz) (h : Own arr sz base e w (.slice (some ⟨g, 0, none⟩) n cap) xs) (i : Nat) (x : α) (hx : xs[i]? = some x) : rowAt w g (i * sz) sz = some (arr x) := by
  obtain ⟨A, c, hv, _, _, h3⟩ := h.sl hs
  obtain ⟨b, off, hA, _, hr⟩ := h3 (by intro e; subst e; simp at hx)
  injection hv with e1 e2 e3
  rw [hA] at e1
  injection e1 with e1
  injection e1 with e1 e4 e5
  have := hr i x hx
  rwa [← e1, ← e4, Nat.zero_add] at this
theorem Own.setAt (hs : ∀ x, (arr x).size = sz) (h0 : 0 < sz) (h : Own arr sz base e w (.slice (some ⟨g, 0, none⟩) n cap) xs) (i : Nat) (hi : i < xs.length) (y : α) :
    Own arr sz base e (w.setCells g (i * sz) (arr y).toList) (.slice (some ⟨g, 0, none⟩) n cap) (xs.set i y) := by
  rcases h.2 with ⟨hv, _⟩ | ⟨g', cap', cur, hv, hb, hg, hnc, hcm, hcs, ht⟩
  · cases hv
  · injection hv with e1 e2 e3
    injection e1 with e1
    injection e1 with e1
    subst e1; subst e2; subst e3
    obtain ⟨cur', h1, h2, h3⟩ := setCells_block g (arr y).toList (i * sz) w cur e hg
    have hlen := flat_len hs xs
    have hlen' := flat_len hs (xs.set i y)
    refine ⟨by rw [hlen'], .inr ⟨g, cap, cur', by simp, hb, h1, by simpa using hnc, hcm, by rw [h2, hcs], ?_⟩⟩
    apply List.ext_getElem?
    intro j
    rw [flat_get hs h0, List.getElem?_take]
    simp only [List.length_set]
    have hle : i * sz + sz ≤ xs.length * sz := by rw [← Nat.succ_mul]; exact Nat.mul_le_mul_right _ (by omega)
    have hsz : xs.length * sz ≤ cur.size := by rw [hcs]; exact Nat.mul_le_mul_right _ hnc
    by_cases hj : j < xs.length * sz
    · rw [if_pos hj]
      have hdiv : j / sz < xs.length := (Nat.div_lt_iff_lt_mul h0).2 hj
      have hold : cur[j]? = (xs[j / sz]?).bind fun x => (arr x)[j % sz]? := by
        rw [← flat_get hs h0, ← ht, List.getElem?_take, if_pos hj]; simp
      simp only [Array.getElem?_toList, h3, Array.length_toList, hs]
      rw [List.getElem?_set]
      by_cases e : i = j / sz
      · have h5 := Nat.div_add_mod j sz
        have h6 := Nat.mod_lt j h0
        rw [← e, Nat.mul_comm] at h5
        rw [if_pos (by omega), if_pos e, if_pos hi]
        simp only [Option.bind_some]
        rw [show j - i * sz = j % sz by omega]
      · rw [if_neg e, if_neg]
        · exact hold
        · intro hc
          apply e
          exact (Nat.div_eq_of_lt_le (by rw [Nat.mul_comm] at *; omega) (by rw [Nat.succ_mul]; omega)).symm
    · rw [if_neg hj, List.getElem?_eq_none (by simp; exact (Nat.le_div_iff_mul_le h0).2 (by omega)), Option.bind_none]
end
end Go.Proofs.YtmpjjmilodjecaaGreatDoor
