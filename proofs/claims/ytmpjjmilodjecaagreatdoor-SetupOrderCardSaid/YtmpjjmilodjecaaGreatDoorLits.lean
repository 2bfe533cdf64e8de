/- Literals: slices of several structs; a struct under a guard. -/
import Derived.Test.YtmpjjmilodjecaaGreatDoorMany
namespace Go.Proofs.YtmpjjmilodjecaaGreatDoor
open Go.RowKit
set_option linter.unusedVariables false
set_option linter.unusedSimpArgs false

theorem foldl_set (off : Nat) : ∀ (l : List Value) (j : Nat) (old : Array Value),
    ((l.zipIdx j).foldl (fun (b : Array Value) (x : Value × Nat) => b.setIfInBounds (off + x.2) x.1) old).size = old.size ∧
    ∀ i, ((l.zipIdx j).foldl (fun (b : Array Value) (x : Value × Nat) => b.setIfInBounds (off + x.2) x.1) old)[i]? = if off + j ≤ i ∧ i < off + j + l.length ∧ i < old.size then l[i - (off + j)]? else old[i]?
  | [], j, old => ⟨rfl, fun i => by rw [if_neg (by simp; omega)]; rfl⟩
  | x :: l, j, old => by
    obtain ⟨h1, h2⟩ := foldl_set off l (j + 1) (old.setIfInBounds (off + j) x)
    simp only [List.zipIdx_cons, List.foldl_cons]
    refine ⟨by rw [h1]; simp, fun i => ?_⟩
    rw [h2]
    simp only [Array.size_setIfInBounds, List.length_cons, Array.getElem?_setIfInBounds]
    by_cases e : off + j = i
    · subst e
      rw [if_neg (by omega), if_pos rfl]
      by_cases hs : off + j < old.size
      · rw [if_pos hs, if_pos (by omega)]; simp
      · rw [if_neg hs, if_neg (by omega)]; simp; omega
    · rw [if_neg e]
      by_cases hc : off + (j + 1) ≤ i ∧ i < off + (j + 1) + l.length ∧ i < old.size
      · rw [if_pos hc, if_pos (by omega), show i - (off + j) = (i - (off + (j + 1))) + 1 by omega, List.getElem?_cons_succ]
      · rw [if_neg hc, if_neg (by omega)]
theorem fill_row (n : Nat) : ∀ (vs : List Value) (k : Nat) (old : Array Value), (∀ v ∈ vs, v.cells.size = n) → (k + vs.length) * n ≤ old.size →
    ∃ r, Instr.fill (fun i => some (i * n, n)) old ((vs.zipIdx k).map fun p => (p.2, p.1)) = some r ∧ r.size = old.size ∧ ∀ i, r[i]? = if k * n ≤ i ∧ i < (k + vs.length) * n then (vs.flatMap fun v => v.cells.toList)[i - k * n]? else old[i]?
  | [], k, old, _, _ => ⟨old, rfl, rfl, fun i => by rw [if_neg (by simp <;> omega)]⟩
  | v :: vs, k, old, hv, hs => by
    have h0 := hv v List.mem_cons_self
    simp only [List.length_cons] at hs
    have e1 : (k + (vs.length + 1)) * n = k * n + n + vs.length * n := by rw [Nat.add_mul, Nat.add_mul]; omega
    have e2 : (k + 1 + vs.length) * n = k * n + n + vs.length * n := by rw [Nat.add_mul, Nat.add_mul]; omega
    obtain ⟨f1, f2⟩ := foldl_set (k * n) v.cells.toList 0 old
    obtain ⟨r, r1, r2, r3⟩ := fill_row n vs (k + 1) ((v.cells.toList.zipIdx 0).foldl (fun (b : Array Value) (x : Value × Nat) => b.setIfInBounds (k * n + x.2) x.1) old) (fun u hu => hv u (List.mem_cons_of_mem _ hu)) (by rw [f1]; omega)
    refine ⟨r, ?_, by rw [r2, f1], fun i => ?_⟩
    · simp only [List.zipIdx_cons, List.map_cons, Instr.fill]
      rw [if_neg (by simp [h0]; omega)]
      rw [← Array.foldl_toList, Array.toList_zipIdx]
      exact r1
    · rw [r3, f2]
      simp only [Nat.add_zero, Array.length_toList, h0, List.length_cons, Nat.add_mul, Nat.one_mul, List.flatMap_cons]
      rw [List.getElem?_append]
      simp only [Array.length_toList, h0]
      by_cases c1 : k * n + n ≤ i ∧ i < k * n + n + vs.length * n
      · rw [if_pos c1, if_pos (by omega), if_neg (by omega)]
        congr 1; omega
      · rw [if_neg c1]
        by_cases c2 : k * n ≤ i ∧ i < k * n + n ∧ i < old.size
        · rw [if_pos c2, if_pos (by omega), if_pos (by omega)]
        · rw [if_neg c2, if_neg (by omega)]
theorem run_sliceK {P : Program} (w : World) (t e : TypeId) (vs : List Value) (m n : Nat) (hm : m = vs.length) (z : Value) (i : TypeInfo) (ht : P.underlying t = some (.slice e)) (hq : P.info? e = some i) (hi1 : i.zero = some z) (hi2 : i.size = n)
    (hz : z.cells.size = n) (h0 : 0 < m * n) (h24 : m * n ≤ 16777216) (hv : ∀ v ∈ vs, v.cells.size = n) (ps : List (Nat × Value)) (hps : ps = (vs.zipIdx 0).map fun p => (p.2, p.1)) :
    (Instr.buildSlice t m ps.toArray).run P w = .ok (.slice (some ⟨w.heap.size, 0, none⟩) m m) (w.alloc (.cells (vs.flatMap fun v => v.cells.toList).toArray e)) := by
  obtain ⟨r, r1, r2, r3⟩ := fill_row n vs 0 ((Array.range (m * n)).map (z.cells[· % z.cells.size]!)) hv (by simp [hm])
  have hlen : (vs.flatMap fun v => v.cells.toList).length = m * n := by
    rw [hm]; clear r3 r1 r2 hps h0 h24 hm
    induction vs with
    | nil => simp
    | cons v vs ih => simp [List.flatMap_cons, hv v List.mem_cons_self, ih fun u hu => hv u (List.mem_cons_of_mem _ hu), Nat.add_mul]; omega
  have hr : r = (vs.flatMap fun v => v.cells.toList).toArray := by
    apply Array.ext_getElem?
    intro j
    rw [r3, List.getElem?_toArray]
    by_cases c : 0 * n ≤ j ∧ j < (0 + vs.length) * n
    · rw [if_pos c]; simp
    · have hc : m * n ≤ j := by rw [hm]; simp at c; exact c
      rw [if_neg c]
      simp only [List.getElem?_toArray]
      exact (List.getElem?_eq_none (by simpa using hc)).trans (List.getElem?_eq_none (by rw [hlen]; exact hc)).symm
  rw [← hps] at r1
  have e1 : ¬ 16777216 < m * n := by omega
  have e2 : ¬ m * n = 0 := by omega
  simp [Instr.buildSlice, run_underlying ht, sizeOf, typeInfo, zeroValue, hq, hi1, hi2, e1, e2, newRow] at r1 ⊢
  simp [r1, hr]
/-- A struct literal under a guard that holds. -/
theorem wpList_build_w {P : Program} {ops : Array Oper} {rest : List Oper} {o : Oper} {a : Act} {w : World} {Q : Exit → Act → World → Prop} (hw : Region.wanted o (yielded ops a.tmps) = true) (t : TypeId) (ps : List (Nat × Operand)) (ho : o.op = .build t ps.toArray)
    (vs : List (Nat × Value)) (hv : ps.map (fun q => (q.1, a.eval q.2)) = vs) (cells : Array Value) (hf : P.built t vs = some cells)
    (h : wpList P ops Q rest (a.put o.dst (.agg cells)) w) : wpList P ops Q (o :: rest) a w :=
  wpList_step fun K hK => by
    rw [if_pos hw]
    subst hv
    have e : (ps.toArray.map fun (i, x) => (i, a.eval x)).toList = ps.map (fun q => (q.1, a.eval q.2)) := by simp
    exact wp_build t ps.toArray ho (by rw [e, hf]; rfl) (by rw [e, hf]; exact hK _ _ h)
/-- A literal of several elements. -/
theorem wpList_sliceK {P : Program} {ops : Array Oper} {rest : List Oper} {o : Oper} {a : Act} {w : World} {Q : Exit → Act → World → Prop} {α : Type} (arr : α → Array Value) (n : Nat) (hg : o.guard = none) (t e : TypeId) (m : Nat) (ps : List (Nat × Operand)) (ho : o.op = .buildSlice t m ps.toArray)
    (xs : List α) (hm : m = xs.length) (bytes : Nat) (ht : P.underlying t = some (.slice e)) (hi : rowInfo P e = some (n, bytes)) (hn : 0 < m * n ∧ m * n ≤ 16777216) (hs : ∀ x, (arr x).size = n) (hcap : m ≤ 9223372036854775807)
    (hx : ps.map (fun q => (q.1, a.eval q.2)) = (xs.zipIdx 0).map fun p => (p.2, Value.agg (arr p.1)))
    (h : ∀ w', Own arr n w.heap.size e w' (.slice (some ⟨w.heap.size, 0, none⟩) m m) xs → Below w.heap.size w w' → wpList P ops Q rest (a.put o.dst (.slice (some ⟨w.heap.size, 0, none⟩) m m)) w') : wpList P ops Q (o :: rest) a w :=
  wpList_plain hg fun K hK => by
    obtain ⟨i, z, hq, hi1, hi2, hi3, hz⟩ := rowInfo_some hi
    unfold Oper.wp execOp
    have hps : (ps.map fun q => (q.1, a.eval q.2)) = ((xs.map fun x => Value.agg (arr x)).zipIdx 0).map fun p => (p.2, p.1) := by
      rw [hx]
      apply List.ext_getElem?
      intro j
      simp only [List.getElem?_map, List.getElem?_zipIdx]
      cases xs[j]? <;> rfl
    have hr := run_sliceK (P := P) w t e (xs.map fun x => Value.agg (arr x)) m n (by simp [hm]) z i ht hq hi1 hi2 hz hn.1 hn.2 (by intro v hv; obtain ⟨x, _, rfl⟩ := List.mem_map.1 hv; simp [Value.cells, hs]) _ hps
    have he : (ps.toArray.map fun (i, x) => (i, a.eval x)) = (ps.map fun q => (q.1, a.eval q.2)).toArray := by simp
    simp only [ho, Sem.run_bind, he, hr, Result.andThen_ok]
    refine hK _ _ (h _ ?_ ((Below.refl _ w).alloc (Nat.le_refl _) _))
    have hfl : ((xs.map fun x => Value.agg (arr x)).flatMap fun v => v.cells.toList) = xs.flatMap fun x => (arr x).toList := by
      rw [List.flatMap_map]; rfl
    rw [hfl]
    have hlen := flat_len hs xs
    refine ⟨by rw [hlen], .inr ⟨w.heap.size, m, _, by rw [hm], Nat.le_refl _, heap_alloc_new _ _, by omega, by unfold maxLen; omega, by simp only [List.size_toArray]; rw [hlen, hm], ?_⟩⟩
    simp only [List.toList_toArray]
    rw [← hlen]
    exact List.take_length
end Go.Proofs.YtmpjjmilodjecaaGreatDoor
