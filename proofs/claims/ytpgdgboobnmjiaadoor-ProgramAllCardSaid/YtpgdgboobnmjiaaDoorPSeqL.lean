/- A loop over strings.SplitSeq: the function value. -/
import Derived.Test.YtpgdgboobnmjiaaDoorPSeqW
import Derived.Test.YtpgdgboobnmjiaaDoorLinesL
namespace Go.Proofs.YtpgdgboobnmjiaaDoor
open Go.RowKit Go.Shelf
set_option linter.unusedVariables false
set_option linter.unusedSimpArgs false
abbrev seqW (s : List UInt8) (w : World) : World := ((w.alloc (.cells #[strV s] 9)).alloc (.cells #[strV [59, 32]] 9)).alloc (.cells #[.int .i64 0] 3)
abbrev seqV (w : World) : Value := .func (.func 96) #[] #[.pointer (some ⟨w.heap.size + 1, 0, none⟩), .pointer (some ⟨w.heap.size, 0, none⟩), .pointer (some ⟨w.heap.size + 1 + 1, 0, none⟩)]
set_option maxRecDepth 100000 in
theorem splitSeq0_in (n : Nat) (s : List UInt8) (w : World) :
    CallsIn Fence.wide n Tryd.prog 81 #[strV s, strV [59, 32], .int .i64 0] w fun e w' => e = .returned (seqV w) ∧ w' = seqW s w := by
  refine callsIn_of_wp Tryd.func81 rfl trivial ?_ rfl
  simp only [Tryd.ntmps81, List.size_toArray, List.length_cons, List.length_nil, Nat.reduceAdd, Nat.reduceSub, Array.replicate_succ, Array.replicate_zero, List.push_toArray, List.append_toArray, List.nil_append, List.cons_append]
  gi_wp2
  go_ret
  exact ⟨rfl, rfl⟩
set_option maxRecDepth 100000 in
theorem splitSeq_in (n : Nat) (s : List UInt8) (w : World) :
    CallsIn Fence.wide n Tryd.prog 64 #[strV s, strV [59, 32]] w fun e w' => e = .returned (seqV w) ∧ w' = seqW s w := by
  refine callsIn_of_wp Tryd.func64 rfl trivial ?_ rfl
  simp only [Tryd.ntmps64, List.size_toArray, List.length_cons, List.length_nil, Nat.reduceAdd, Nat.reduceSub, Array.replicate_succ, Array.replicate_zero, List.push_toArray, List.append_toArray, List.nil_append, List.cons_append]
  gi_wp2_with (refine ⟨trivial, fun h => (by cases h), ?_⟩; gi_at_call 81; refine (splitSeq0_in _ _ _).mono ?_; rintro r w2 ⟨rfl, rfl⟩)
  go_ret
  exact ⟨rfl, rfl⟩
theorem seqW_boxes (s : List UInt8) (w : World) : SeqB w.heap.size (w.heap.size + 1) (w.heap.size + 1 + 1) s (seqW s w) := by
  unfold seqW
  have e (X : World) (t : TypeId) (v : Value) (k : Nat) (h : X.heap.size = k) : Boxed (X.alloc (.cells #[v] t)) k t v := by subst h; exact Boxed.new X t v
  exact ⟨((e _ _ _ _ rfl).alloc _).alloc _, (e _ _ _ _ (by simp)).alloc _, e _ _ _ _ (by simp)⟩
end Go.Proofs.YtpgdgboobnmjiaaDoor
