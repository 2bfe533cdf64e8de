/- A configuration's programs, as they came in. -/
import Derived.Test.YtofifeicbhbgpaaRow
import Derived.Test.YtofifeicbhbgpaaStepsC
namespace Go.Proofs.Ytofifeicbhbgpaa
open Go.RowKit Go.ChangeShapes Go.WideShapes Go.ChangeAt Go.Deep
set_option linter.unusedVariables false
theorem pair_list {α : Type} {R : Value → List α → Prop} (xs : List Value) (h : ∀ v ∈ xs, ∃ l, R v l) : ∃ zs : List (Value × List α), zs.map (·.1) = xs ∧ ∀ z ∈ zs, R z.1 z.2 := by
  induction xs with
  | nil => exact ⟨[], rfl, by simp⟩
  | cons v xs ih =>
    obtain ⟨l, hl⟩ := h v List.mem_cons_self
    obtain ⟨zs, hz, hr⟩ := ih fun u hu => h u (List.mem_cons_of_mem _ hu)
    refine ⟨(v, l) :: zs, by simp [hz], fun z hm => ?_⟩
    rcases List.mem_cons.1 hm with rfl | hm
    · exact hl
    · exact hr z hm
section
variable {H : Type} {enc : TypeId × Value → H} {W : World}
theorem ops_open {fuel : Nat} {cs : List Value} {y : DataW H × List MemPlace} (h : DataW.trod enc Try.prog W 0 (fun _ => true) true fuel 72 cs = some y) :
    ∃ v : Value, cs = (valArr v).toList ∧ ∃ l : List GoOp, Sl GoOp.arr 3 W.heap.size W v l ∧ ∀ o ∈ l, GoOp.ok o := by
  obtain ⟨d, p⟩ := y
  have hf : ∃ v, cs = [v] ∧ ∃ a n c, v = .slice a n c := by
    rcases open_slice Try.underlying72 h with ⟨hcs, _⟩ | ⟨a, len, cap, _, _, _, _, hcs, _⟩
    · exact ⟨_, by simpa using hcs, _, _, _, rfl⟩
    · exact ⟨_, by simpa using hcs, _, _, _, rfl⟩
  obtain ⟨v, rfl, hv⟩ := hf
  obtain ⟨xs, hs, hok, _⟩ := slice_open_form (arr := GoOp.arr) (sz := 3) (W := W) (v := v) Try.underlying72 (by kernel_rfl) (by omega) (fun fuel cs y h => GoOp.open h) hv ⟨fuel, by obtain ⟨a, n, c, rfl⟩ := hv; exact h⟩
  exact ⟨v, rfl, xs, hs, hok⟩
theorem progs_open {v : Value} (h : ∃ fuel y, DataW.trod enc Try.prog W 0 (fun _ => true) true fuel 38 [v] = some y) :
    ∃ zs : List (Value × List GoOp), Progs W.heap.size W v zs ∧ ∀ z ∈ zs, ∀ o ∈ z.2, GoOp.ok o := by
  obtain ⟨A, n, cap, hv⟩ := slice_form Try.underlying38 h
  obtain ⟨fuel, ⟨d, p⟩, h⟩ := h
  obtain ⟨xs, hs, hok, _⟩ := slice_open_form (arr := valArr) (sz := 1) (W := W) (v := v) (ok := fun u => ∃ l : List GoOp, Sl GoOp.arr 3 W.heap.size W u l ∧ ∀ o ∈ l, GoOp.ok o) Try.underlying38 (by kernel_rfl) (by omega) (fun fuel cs y h => ops_open h) ⟨A, n, cap, hv⟩ ⟨fuel, by rw [hv] at h ⊢; exact h⟩
  obtain ⟨zs, rfl, hz⟩ := pair_list xs hok
  exact ⟨zs, ⟨hs, fun z hm => (hz z hm).1⟩, fun z hm => (hz z hm).2⟩
end
end Go.Proofs.Ytofifeicbhbgpaa
