/- strings.SplitSeq's closure at "; ": it yields the parts, one after the other. -/
import Derived.Test.YtpgdgboobnmjiaaDoorPSplit
import Derived.Test.YtpgdgboobnmjiaaDoorLinesW
import Derived.Test.YtpgdgboobnmjiaaDoorPHas
namespace Go.Proofs.YtpgdgboobnmjiaaDoor
open Go.RowKit Go.Shelf
set_option linter.unusedVariables false
set_option linter.unusedSimpArgs false
/-- The closure's three boxes. -/
structure SeqB (Bs Be Bv : Nat) (s : List UInt8) (W : World) : Prop where
  s : Boxed W Bs 9 (strV s)
  e : Boxed W Be 9 (strV [59, 32])
  v : Boxed W Bv 3 (.int .i64 0)
set_option maxRecDepth 100000 in
set_option maxHeartbeats 4000000 in
theorem seq1_in (n : Nat) (l Bs Be Bv : Nat) (hne1 : Be ≠ Bs) (hne2 : Bv ≠ Bs) (s : List UInt8) (hs : s.length ≤ 1000000) (J Jx : List (List UInt8) → World → Prop) (hJ : ∀ pre W W', J pre W → W.grownBy W' (some Bs) → J pre W') (hJe : ∀ pre W, J pre W → Env W)
    (hY : ∀ pre x W, J pre W → (∃ post, T.psplit s = pre ++ x :: post) → YieldAt Fence.wide (n - 1) Tryd.prog l #[strV x] W fun e W' =>
      (e = .returned (.bool true) ∧ J (pre ++ [x]) W' ∧ W'.heap[Bs]? = W.heap[Bs]? ∧ W'.heap[Be]? = W.heap[Be]? ∧ W'.heap[Bv]? = W.heap[Bv]?) ∨ (e = .returned (.bool false) ∧ Jx (pre ++ [x]) W'))
    (W : World) (hB : SeqB Bs Be Bv s W) (h0 : J [] W) :
    CallsIn Fence.wide n Tryd.prog 96 #[.func (.yield l) #[] #[], .pointer (some ⟨Be, 0, none⟩), .pointer (some ⟨Bs, 0, none⟩), .pointer (some ⟨Bv, 0, none⟩)] W fun e W' => (∃ v, e = .returned v) ∧
      (J (T.psplit s) W' ∨ (∃ pre x post, T.psplit s = pre ++ x :: post ∧ Jx (pre ++ [x]) W')) := by
  refine callsIn_of_wp Tryd.func96 rfl trivial ?_ rfl
  simp only [Tryd.ntmps96, List.size_toArray, List.length_cons, List.length_nil, Nat.reduceAdd, Nat.reduceSub, Array.replicate_succ, Array.replicate_zero, List.push_toArray, List.append_toArray, List.nil_append, List.cons_append]
  have ce := hB.e.cell
  gi_wp2
  gi_loopw [7, 8] (fun i f wr => ∃ pre rest, T.psplit s = pre ++ T.psplit rest ∧ SeqB Bs Be Bv rest wr ∧ J pre wr ∧ rest.length ≤ s.length) (fun _ _ wr => T.boxLen wr Bs)
  case atStart => exact ⟨[], s, rfl, hB, h0, Nat.le_refl _⟩
  case round =>
    obtain ⟨pre, rest, he, hb, hj, hl⟩ := hrel
    have hlen := T.boxLen_of hb.s
    have cs := hb.s.cell
    have fs := hb.s.frozen
    have ce := hb.e.cell
    have cv := hb.v.cell
    have henv := hJe pre wr hj
    obtain ⟨m, hm⟩ := henv.max
    have hix := Tryd.strings_Index ⟨rest.toArray⟩ ⟨#[59, 32]⟩ m wr (by show rest.length < _; omega) hm
    rcases T.psplit_cases rest with hx | ⟨i, hx⟩
    · have hx1 : Lib.index rest [59, 32] = -1 := by have := Lib.index_ge rest [59, 32]; omega
      have hnext := T.psplit_none rest hx
      rw [show Lib.index (ByteArray.mk rest.toArray).data.toList (ByteArray.mk #[59, 32]).data.toList = -1 from hx1] at hix
      obtain ⟨fn, tmps, assign, body, hy, hR⟩ := hY pre rest wr hj ⟨[], by rw [he, hnext]⟩
      have HE := Lib.hid (he.trans (by rw [hnext]))
      clear hx hx1 hnext he
      gi_wp2_with (refine ⟨trivial, fun h => (by cases h), ?_⟩; gi_at_call 85; refine (callsIn_wide.2 hix).mono ?_; rintro r w2 ⟨rfl, rfl⟩)
      refine ⟨fun h => (by cases h), hR.mono ?_⟩
      rintro e W3 (⟨rfl, hJ3, _, _, _⟩ | ⟨rfl, hJx3⟩)
      · gi_wp2
        go_end0
        exact ⟨⟨_, rfl⟩, .inl (by rw [HE.out]; exact hJ3)⟩
      · gi_wp2
        go_end0
        exact ⟨⟨_, rfl⟩, .inr ⟨pre, rest, [], HE.out, hJx3⟩⟩
    · obtain ⟨hi2, hcut⟩ := T.psplit_cut rest i hx
      rw [show Lib.index (ByteArray.mk rest.toArray).data.toList (ByteArray.mk #[59, 32]).data.toList = (i : Int) from hx] at hix
      obtain ⟨fn, tmps, assign, body, hy, hR⟩ := hY pre (rest.take i) wr hj ⟨_, by rw [he, hcut]⟩
      have HE := Lib.hid (he.trans (by rw [hcut]))
      have h1 := bytes_take rest i
      have h2 := bytes_drop rest (i + 2) rest.length (Nat.le_refl _)
      have hw1 : IntKind.i64.wrap ((i : Int) + 2) = (i : Int) + 2 := IntWalk.i64_in _ (by omega)
      have hw2 : (i : Int) + 2 ≤ (rest.length : Int) := by omega
      have hw3 : (0 : Int) ≤ (i : Int) + 2 := by omega
      have hw4 : ((i : Int) + 2).toNat = i + 2 := by omega
      have hw5 : (i : Int) ≤ (rest.length : Int) := by omega
      clear hx hcut he
      gi_wp2_with (refine ⟨trivial, fun h => (by cases h), ?_⟩; gi_at_call 85; refine (callsIn_wide.2 hix).mono ?_; rintro r w2 ⟨rfl, rfl⟩)
      refine ⟨fun h => (by cases h), hR.mono ?_⟩
      rintro e W3 (⟨rfl, hJ3, hk1, hk2, hk3⟩ | ⟨rfl, hJx3⟩)
      · have hb3 : Boxed W3 Bs 9 (strV rest) := by unfold Boxed; rw [hk1]; exact hb.s
        have hbe : Boxed W3 Be 9 (strV [59, 32]) := by unfold Boxed; rw [hk2]; exact hb.e
        have hbv : Boxed W3 Bv 3 (.int .i64 0) := by unfold Boxed; rw [hk3]; exact hb.v
        have cs3 := hb3.cell
        have fs3 := hb3.frozen
        have ce3 := hbe.cell
        have g3 := grownBy_setCell' W3 Bs (strV (rest.drop (i + 2)))
        have hb9 := hb3.set (strV (rest.drop (i + 2)))
        gi_wp2
        go_roundw
        case rel => exact ⟨pre ++ [rest.take i], rest.drop (i + 2), by rw [HE.out]; simp, ⟨hb9, hbe.kept g3 (by simpa using hne1), hbv.kept g3 (by simpa using hne2)⟩, hJ _ _ _ hJ3 g3, by simp; omega⟩
        case measure => rw [hlen, T.boxLen_of hb9]; simp; omega
      · gi_wp2
        refine bodyPost_ret (results_none rfl _ _ _) rfl ?_
        exact ⟨⟨_, rfl⟩, .inr ⟨_, _, _, HE.out, hJx3⟩⟩
end Go.Proofs.YtpgdgboobnmjiaaDoor
