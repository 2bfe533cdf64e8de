/- Where findings lie: the plain law. -/
import Derived.Test.YtofifeicbhbgpaaDoorCheck
namespace Go.Proofs.YtofifeicbhbgpaaDoor
open Go.RowKit
theorem T.found_at (c : Config) (xs : List Event) (at_ : Nat) (e : Event) : ∀ (k : Nat) (f : Find), f ∈ T.found c xs at_ e k → f.at_ = (at_ : Int)
  | 0, f, h => by simp [T.found] at h
  | k + 1, f, h => by
    simp only [T.found, List.mem_append] at h
    rcases h with h | h
    · exact T.found_at c xs at_ e k f h
    · split at h
      · simp at h; rw [h]
      · simp at h
theorem T.chk_low (c : Config) (l : List Event) : ∀ (k : Nat) (f : Find), f ∈ T.chk c l k → 0 ≤ f.at_ ∧ f.at_ < (k : Int)
  | 0, f, h => by simp [T.chk] at h
  | k + 1, f, h => by
    simp only [T.chk, List.mem_append] at h
    rcases h with h | h
    · have := T.chk_low c l k f h; omega
    · cases hl : l[k]? with
      | none => rw [hl] at h; simp at h
      | some e =>
        rw [hl] at h
        have := T.found_at c _ k e 12 f h
        omega
end Go.Proofs.YtofifeicbhbgpaaDoor
