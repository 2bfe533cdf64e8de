/- Parts of a program's text: split and join; the plain parse; programs read back. -/
import Derived.Test.YtmpjjmilodjecaaGreatDoorPText
import Derived.Test.YtmpjjmilodjecaaGreatDoorAtoi
import Derived.Lib.Index
import Derived.Lib.IndexMore
namespace Go.Proofs.YtmpjjmilodjecaaGreatDoor
open Go.RowKit Go.Shelf
set_option linter.unusedVariables false
set_option linter.unusedSimpArgs false
/-- The parts between "; ". -/
def T.psplitF : Nat → List UInt8 → List (List UInt8)
  | 0, s => [s]
  | f + 1, s => if Lib.index s [59, 32] < 0 then [s] else s.take (Lib.index s [59, 32]).toNat :: T.psplitF f (s.drop ((Lib.index s [59, 32]).toNat + 2))
def T.psplit (s : List UInt8) : List (List UInt8) := T.psplitF s.length s
theorem T.occ_free (p r : List UInt8) (hp : ∀ b ∈ p, b ≠ 59) (j : Nat) (hj : j < p.length) : Lib.occAt (p ++ r) [59, 32] j = false := by
  unfold Lib.occAt
  rw [List.drop_append_of_le_length (by omega), List.drop_eq_getElem_cons hj, List.cons_append]
  have := hp p[j] (List.getElem_mem _)
  simp [List.isPrefixOf]
  intro e; exact absurd e.symm this
theorem T.index_part (p r : List UInt8) (hp : ∀ b ∈ p, b ≠ 59) : Lib.index (p ++ ([59, 32] ++ r)) [59, 32] = (p.length : Int) :=
  Lib.index_first (by simp) (by unfold Lib.occAt; rw [List.drop_left]; simp [List.isPrefixOf]) (fun j hj => T.occ_free p _ hp j hj)
theorem T.index_nopart (p : List UInt8) (hp : ∀ b ∈ p, b ≠ 59) : Lib.index p [59, 32] = -1 := by
  refine Lib.index_none (fun j hj => ?_)
  rcases Nat.lt_or_ge j p.length with h | h
  · have := T.occ_free p [] hp j h
    simpa using this
  · unfold Lib.occAt; rw [List.drop_eq_nil_of_le h]; rfl
theorem T.psplitF_join (ps : List (List UInt8)) (h0 : ps ≠ []) (hp : ∀ p ∈ ps, ∀ b ∈ p, b ≠ 59) : ∀ f, ps.length ≤ f + 1 → T.psplitF f (T.joinS ps) = ps := by
  induction ps with
  | nil => exact absurd rfl h0
  | cons p ps ih =>
    intro f hf
    have hp1 := hp p List.mem_cons_self
    by_cases hn : ps = []
    · subst hn
      rw [T.joinS, if_pos rfl]
      cases f with
      | zero => rfl
      | succ f => rw [T.psplitF, T.index_nopart p hp1, if_pos (by omega)]
    · have hl : 0 < ps.length := List.length_pos_iff.2 hn
      cases f with
      | zero => simp only [List.length_cons] at hf; omega
      | succ f =>
        rw [T.joinS, if_neg hn, T.psplitF, T.index_part p _ hp1, if_neg (by omega), Int.toNat_natCast, List.take_left' rfl]
        have e : (p ++ ([59, 32] ++ T.joinS ps)).drop (p.length + 2) = T.joinS ps := by
          rw [show p ++ ([59, 32] ++ T.joinS ps) = (p ++ [59, 32]) ++ T.joinS ps by simp, show p.length + 2 = (p ++ [59, 32]).length by simp, List.drop_left]
        rw [e, ih hn (fun q hq => hp q (List.mem_cons_of_mem _ hq)) f (by simp only [List.length_cons] at hf; omega)]
theorem T.joinS_count (ps : List (List UInt8)) : ps.length ≤ (T.joinS ps).length + 1 := by
  induction ps with
  | nil => simp
  | cons p ps ih =>
    rw [T.joinS]
    split
    · rename_i h; subst h; simp
    · simp only [List.length_cons, List.length_append, List.length_nil]; omega
theorem T.psplit_join (ps : List (List UInt8)) (h0 : ps ≠ []) (hp : ∀ p ∈ ps, ∀ b ∈ p, b ≠ 59) : T.psplit (T.joinS ps) = ps :=
  T.psplitF_join ps h0 hp _ (T.joinS_count ps)
theorem T.psplitF_nil (f : Nat) : T.psplitF f [] = [[]] := by
  cases f with
  | zero => rfl
  | succ f => rw [T.psplitF, if_pos (by decide)]
theorem T.psplitF_more (f : Nat) : ∀ (g : Nat) (s : List UInt8), s.length ≤ f → s.length ≤ g → T.psplitF f s = T.psplitF g s := by
  induction f with
  | zero =>
    intro g s hf _
    obtain rfl : s = [] := List.eq_nil_of_length_eq_zero (by omega)
    rw [T.psplitF_nil, T.psplitF_nil]
  | succ f ih =>
    intro g s hf hg
    cases g with
    | zero =>
      obtain rfl : s = [] := List.eq_nil_of_length_eq_zero (by omega)
      rw [T.psplitF_nil, T.psplitF_nil]
    | succ g =>
      rw [T.psplitF, T.psplitF]
      split
      · rfl
      · rw [ih g _ (by rw [List.length_drop]; omega) (by rw [List.length_drop]; omega)]
theorem T.psplit_none (s : List UInt8) (h : Lib.index s [59, 32] < 0) : T.psplit s = [s] := by
  unfold T.psplit
  cases hl : s.length with
  | zero => rfl
  | succ f => rw [T.psplitF, if_pos h]
theorem T.psplit_cut (s : List UInt8) (i : Nat) (h : Lib.index s [59, 32] = (i : Int)) : i + 2 ≤ s.length ∧ T.psplit s = s.take i :: T.psplit (s.drop (i + 2)) := by
  have hr := Lib.index_room s [59, 32] (by omega)
  rw [h] at hr
  have hr2 : i + 2 ≤ s.length := by simp only [List.length_cons, List.length_nil] at hr; omega
  refine ⟨hr2, ?_⟩
  unfold T.psplit
  cases hl : s.length with
  | zero => omega
  | succ f =>
    rw [T.psplitF, if_neg (by rw [h]; omega), h, Int.toNat_natCast, T.psplitF_more f (s.drop (i + 2)).length _ (by rw [List.length_drop]; omega) (Nat.le_refl _)]
theorem T.psplit_cases (s : List UInt8) : Lib.index s [59, 32] < 0 ∨ ∃ i : Nat, Lib.index s [59, 32] = (i : Int) := by
  by_cases h : Lib.index s [59, 32] < 0
  · exact .inl h
  · exact .inr ⟨(Lib.index s [59, 32]).toNat, by omega⟩
end Go.Proofs.YtmpjjmilodjecaaGreatDoor
