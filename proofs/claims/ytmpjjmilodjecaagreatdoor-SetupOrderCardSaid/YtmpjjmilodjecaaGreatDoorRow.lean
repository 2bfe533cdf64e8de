/- What a law's row wants of the arguments that came in: slices; the last step. -/
import Derived.Test.YtmpjjmilodjecaaGreatDoorOpen
import Derived.Test.YtmpjjmilodjecaaGreatDoorList
namespace Go.Proofs.YtmpjjmilodjecaaGreatDoor
open Go.RowKit Go.ChangeShapes Go.WideShapes Go.ChangeAt Go.Deep
open Go.ChangeMaps (open_string shut_string)
set_option linter.unusedVariables false

section
variable {H : Type} {enc : TypeId × Value → H} {P : Program} {W : World} {base : Nat} {spare : Nat → Bool} {held : Bool}
theorem agg_open {r : Reach} {b0 : Nat} {t : TypeId} {fs : Array Field} {v : Value} {d : DataW H} {p : List MemPlace} (hs : P.underlying t = some (.struct fs))
    (hv : Value.okWide P W r b0 t v) (h : DataW.Trod enc P W base spare held t v d p) : ∃ cs fuel, v = .agg cs ∧ DataW.trod enc P W base spare held fuel t cs.toList = some (d, p) := by
  obtain ⟨cs, rfl, _⟩ := okWide_struct hs hv
  obtain ⟨fuel, hf⟩ := h
  exact ⟨cs, fuel, rfl, by simpa [Value.cells] using hf⟩
theorem arr_of {cs a : Array Value} (h : cs.toList = a.toList) : cs = a := Array.toList_inj.mp h
theorem rowAt_of_cells {w : World} {a : Addr} {n : Nat} {cs : List Value} (h : w.cells? base a n = some cs) (hn : 0 < n) : a.spot = none ∧ rowAt w a.block a.off n = some cs.toArray := by
  obtain ⟨_, hcl, hat⟩ := World.cells?_some h
  have h0 := hat 0 hn
  rw [List.getElem?_eq_getElem (by omega)] at h0
  have hspot : a.spot = none := by
    cases hs : a.spot with
    | none => rfl
    | some z => simp [World.cell?, Addr.add, hs] at h0; split at h0 <;> simp_all
  obtain ⟨b, off, sp⟩ := a
  simp only at hspot
  subst hspot
  refine ⟨rfl, ?_⟩
  have hadd : ∀ j, (⟨b, off, none⟩ : Addr).add j = ⟨b, off + j, none⟩ := fun j => by unfold Addr.add; split <;> simp_all
  simp only [hadd] at hat
  unfold rowAt
  cases hh : w.heap[b]? with
  | none => simp [World.cell?, hadd, hh] at h0
  | some o =>
    cases o with
    | cells c t fr =>
      have hat' : ∀ j, j < n → c[off + j]? = cs[j]? := fun j hj => by have := hat j hj; simpa [World.cell?, hh] using this
      have hsz : off + n ≤ c.size := by
        have := hat' (n - 1) (by omega)
        rw [List.getElem?_eq_getElem (by omega)] at this
        have := (Array.getElem?_eq_some_iff.1 this).1
        omega
      simp only [if_pos hsz]
      congr 1
      apply Array.ext_getElem?
      intro i
      by_cases hi : i < n
      · rw [Array.getElem?_extract]
        simp only [List.getElem?_toArray]
        rw [← hat' i hi]
        simp [Nat.min_eq_left hsz, hi]
      · rw [Array.getElem?_eq_none (by simp; omega), Array.getElem?_eq_none (by simp; omega)]
    | _ => simp [World.cell?, hadd, hh] at h0
theorem slice_open_form {α : Type} {arr : α → Array Value} {sz : Nat} {t e : TypeId} {v : Value} {d : DataW H} {p : List MemPlace} (ht : P.underlying t = some (.slice e)) (hC : P.cellsOf e = sz) (hsz : 0 < sz)
    {ok : α → Prop} (hopen : ∀ fuel cs y, DataW.trod enc P W 0 (fun _ => true) true fuel e cs = some y → ∃ x : α, cs = (arr x).toList ∧ ok x)
    (hv : ∃ a n c, v = .slice a n c) (h : DataW.Trod enc P W 0 (fun _ => true) true t v d p) :
    ∃ xs : List α, Sl arr sz W.heap.size W v xs ∧ (∀ x ∈ xs, ok x) ∧ ((d = .nil ∧ xs = []) ∨ ∃ el sp, d = .slice el sp ∧ xs.length ≤ el.length + sp.length) := by
  obtain ⟨a0, len0, cap0, rfl⟩ := hv
  obtain ⟨fuel, hf⟩ := h
  rcases open_slice ht hf with ⟨hcs, hx⟩ | ⟨a, len, cap, m, n, D, Pl, hcs, hb, hl, hm, hmm, hx, hi⟩
  · simp [Value.cells] at hcs
    obtain ⟨rfl, rfl, rfl⟩ := hcs
    injection hx with hx1 _
    exact ⟨[], ⟨none, 0, rfl, Nat.le_refl _, Nat.zero_le _, fun h => absurd rfl h⟩, by simp, .inl ⟨hx1, rfl⟩⟩
  · simp [Value.cells] at hcs
    obtain ⟨rfl, rfl, rfl⟩ := hcs
    have hml : len0 ≤ m := by rw [hmm]; split <;> omega
    have key : ∀ i, i < len0 → ∃ x : α, W.cells? 0 (a.add (i * sz)) sz = some (arr x).toList ∧ ok x := fun i hil => by
      obtain ⟨cs', hc, ht'⟩ := hi i (by omega)
      obtain ⟨x, rfl, hok⟩ := hopen _ _ _ ht'
      exact ⟨x, by rw [← hC]; exact hc, hok⟩
    have hxs : ∃ xs : List α, xs.length = len0 ∧ ∀ i x, xs[i]? = some x → W.cells? 0 (a.add (i * sz)) sz = some (arr x).toList ∧ ok x := by
      clear hl hml hf hi hx hmm
      induction len0 with
      | zero => exact ⟨[], rfl, by simp⟩
      | succ k ih =>
        obtain ⟨xs, hlen, hq⟩ := ih (fun i hi => key i (by omega))
        obtain ⟨x, hx, hok⟩ := key k (by omega)
        refine ⟨xs ++ [x], by simp [hlen], fun i y hy => ?_⟩
        by_cases hik : i < xs.length
        · rw [List.getElem?_append_left hik] at hy; exact hq i y hy
        · have hik' : i = k := by
            have := (List.getElem?_eq_some_iff.1 hy).1
            simp at this; omega
          subst hik'
          rw [List.getElem?_append_right (by omega)] at hy
          simp [hlen] at hy
          subst hy
          exact ⟨hx, hok⟩
    obtain ⟨xs, rfl, hq⟩ := hxs
    refine ⟨xs, ⟨some a, cap0, rfl, hl, hm, fun hn => ?_⟩, fun x hx => ?_, .inr ⟨_, _, by injection hx, ?_⟩⟩
    · have h0 : ∃ x, xs[0]? = some x := by
        cases xs with
        | nil => exact absurd rfl hn
        | cons x l => exact ⟨x, rfl⟩
      obtain ⟨x0, h0⟩ := h0
      have hr0 := rowAt_of_cells (hq 0 x0 h0).1 hsz
      simp only [Nat.zero_mul, Addr.add_zero'] at hr0
      obtain ⟨b, off, sp⟩ := a
      have hspot : sp = none := hr0.1
      subst hspot
      refine ⟨b, off, rfl, ?_, fun i x hi' => ?_⟩
      · have := rowAt_lt hr0.2
        exact this
      · have hr := (rowAt_of_cells (hq i x hi').1 hsz).2
        have hadd : (⟨b, off, none⟩ : Addr).add (i * sz) = ⟨b, off + i * sz, none⟩ := by unfold Addr.add; split <;> simp_all
        rw [hadd] at hr
        simpa using hr
    · obtain ⟨i, hi', rfl⟩ := List.getElem_of_mem hx
      exact (hq i _ (List.getElem?_eq_getElem hi')).2
    · simp <;> omega
theorem slice_open {α : Type} {arr : α → Array Value} {sz : Nat} {r : Reach} {b0 : Nat} {t e : TypeId} {v : Value} {d : DataW H} {p : List MemPlace} (ht : P.underlying t = some (.slice e)) (hC : P.cellsOf e = sz) (hsz : 0 < sz)
    {ok : α → Prop} (hopen : ∀ fuel cs y, DataW.trod enc P W 0 (fun _ => true) true fuel e cs = some y → ∃ x : α, cs = (arr x).toList ∧ ok x)
    (hv : Value.okWide P W r b0 t v) (h : DataW.Trod enc P W 0 (fun _ => true) true t v d p) :
    ∃ xs : List α, Sl arr sz W.heap.size W v xs ∧ (∀ x ∈ xs, ok x) ∧ ((d = .nil ∧ xs = []) ∨ ∃ el sp, d = .slice el sp ∧ xs.length ≤ el.length + sp.length) :=
  slice_open_form ht hC hsz hopen (okWide_slice ht hv) h
theorem slice_form {t e : TypeId} {v : Value} (ht : P.underlying t = some (.slice e)) (hx : ∃ fuel y, DataW.trod enc P W 0 (fun _ => true) true fuel t [v] = some y) : ∃ A n cap, v = .slice A n cap := by
  obtain ⟨fuel, ⟨d, p⟩, h⟩ := hx
  rcases open_slice ht h with ⟨hcs, _⟩ | ⟨a, len, cap, _, _, _, _, hcs, _⟩
  · exact ⟨none, 0, 0, by simpa using hcs⟩
  · exact ⟨some a, len, cap, by simpa using hcs⟩
end
theorem int_open {H : Type} {enc : TypeId × Value → H} {W : World} {base : Nat} {spare : Nat → Bool} {held : Bool} {fuel : Nat} {cs : List Value} {y : DataW H × List MemPlace}
    (h : DataW.trod enc Tryz.prog W base spare held fuel 3 cs = some y) : ∃ x : Int, cs = (#[Value.int .i64 x]).toList ∧ (Lit.int .i64 x).wf = true := by
  obtain ⟨v, hc, _, hw⟩ := DataW.trod_int Tryz.underlying3 h
  exact ⟨v, hc, hw⟩
end Go.Proofs.YtmpjjmilodjecaaGreatDoor
