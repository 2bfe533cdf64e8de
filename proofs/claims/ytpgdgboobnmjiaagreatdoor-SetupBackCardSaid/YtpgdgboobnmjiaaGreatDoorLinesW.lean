/- strings.Lines: its closure's rounds; a loop over it. -/
import Derived.Test.YtpgdgboobnmjiaaGreatDoorLinesK
import Derived.Test.YtpgdgboobnmjiaaGreatDoorHeadIn
import Derived.Test.YtpgdgboobnmjiaaGreatDoorShelf
import Derived.RangeFuncBox
namespace Go.Proofs.YtpgdgboobnmjiaaGreatDoor
open Go.RowKit Go.Shelf
set_option linter.unusedVariables false
set_option linter.unusedSimpArgs false
attribute [local go_sem] Oper.semAt_some
def T.boxLen (w : World) (Bs : Nat) : Nat := match w.cell? ⟨Bs, 0, none⟩ with
  | some (.string b) => b.size
  | _ => 0
theorem T.boxLen_of {w : World} {Bs : Nat} {t : TypeId} {l : List UInt8} (h : Boxed w Bs t (strV l)) : T.boxLen w Bs = l.length := by
  unfold T.boxLen
  rw [h.cell]
  simp [strV, ByteArray.size]
theorem bytes_take (l : List UInt8) (k : Nat) : (ByteArray.mk l.toArray).extract 0 k = ⟨(l.take k).toArray⟩ := by
  rw [ByteArray.ext_iff, ByteArray.data_extract]
  simp
theorem bytes_drop (l : List UInt8) (k n : Nat) (h : l.length ≤ n) : (ByteArray.mk l.toArray).extract k n = ⟨(l.drop k).toArray⟩ := by
  rw [ByteArray.ext_iff, ByteArray.data_extract]
  simp
  rw [List.take_of_length_le (by simp; omega)]
set_option maxRecDepth 100000 in
set_option maxHeartbeats 2000000 in
theorem lines1_in (n : Nat) (l Bs : Nat) (s : List UInt8) (hs : s.length ≤ 1000000) (J Jx : List (List UInt8) → World → Prop) (hJ : ∀ pre W W', J pre W → W.grownBy W' (some Bs) → J pre W')
    (hY : ∀ pre x W, J pre W → (∃ post, T.linesK s = pre ++ x :: post) → YieldAt Fence.wide (n - 1) Tryz.prog l #[strV x] W fun e W' =>
      (e = .returned (.bool true) ∧ J (pre ++ [x]) W' ∧ W'.heap[Bs]? = W.heap[Bs]?) ∨ (e = .returned (.bool false) ∧ Jx (pre ++ [x]) W'))
    (W : World) (hB : Boxed W Bs 9 (strV s)) (h0 : J [] W) :
    CallsIn Fence.wide n Tryz.prog 48 #[.func (.yield l) #[] #[], .pointer (some ⟨Bs, 0, none⟩)] W fun e W' => (∃ v, e = .returned v) ∧
      (J (T.linesK s) W' ∨ (∃ pre x post, T.linesK s = pre ++ x :: post ∧ Jx (pre ++ [x]) W')) := by
  refine callsIn_of_wp Tryz.func48 rfl trivial ?_ rfl
  simp only [Tryz.ntmps48, List.size_toArray, List.length_cons, List.length_nil, Nat.reduceAdd, Nat.reduceSub, Array.replicate_succ, Array.replicate_zero, List.push_toArray, List.append_toArray, List.nil_append, List.cons_append]
  gi_wp2
  gi_loopw [3] (fun i wr => ∃ pre rest, T.linesK s = pre ++ T.linesK rest ∧ Boxed wr Bs 9 (strV rest) ∧ J pre wr ∧ rest.length ≤ s.length)
    (fun i wr => T.boxLen wr Bs)
  case atStart => exact ⟨[], s, rfl, hB, h0, Nat.le_refl _⟩
  case round =>
    obtain ⟨pre, rest, he, hb, hj, hl⟩ := hrel
    have hlen := T.boxLen_of hb
    have hc := hb.cell
    have hfz := hb.frozen
    by_cases hr : rest = []
    · rw [hr] at hc he
      gi_wp2
      go_end0
      exact ⟨⟨_, rfl⟩, .inl (by rw [he, show T.linesK [] = [] from rfl, List.append_nil]; exact hj)⟩
    · have hpos : 0 < rest.length := List.length_pos_iff.2 hr
      have hJ1 : ∀ v, J pre (wr.setCell ⟨Bs, 0, none⟩ v) := fun v => hJ pre wr _ hj (grownBy_setCell' wr Bs v)
      rcases T.index_cases rest with hx | ⟨i, hx⟩
      · have hnext := T.index_none rest hr hx
        have HN := Lib.hid hnext
        have hix := Tryz.strings_IndexByte ⟨rest.toArray⟩ 10 wr
        rw [show Lib.indexByte (ByteArray.mk rest.toArray).data.toList (10 : Int).toNat.toUInt8 = -1 from hx] at hix
        obtain ⟨fn, tmps, assign, body, hy, hR⟩ := hY pre rest (wr.setCell ⟨Bs, 0, none⟩ (.string ⟨#[]⟩)) (hJ1 _) ⟨[], by rw [he, hnext]⟩
        clear hx hnext
        have hnext := HN
        gi_wp2_with (refine ⟨trivial, fun h => (by cases h), ?_⟩; gi_at_call 49; refine (callsIn_wide.2 hix).mono ?_; rintro r w2 ⟨rfl, rfl⟩)
        refine ⟨fun h => (by cases h), hR.mono ?_⟩
        rintro e W3 (⟨rfl, hJ3, hk3⟩ | ⟨rfl, hJx3⟩)
        · have hb3 : Boxed W3 Bs 9 (strV []) := by
            unfold Boxed
            rw [hk3]
            exact hb.set _
          gi_wp2
          go_roundw
          case rel => exact ⟨pre ++ [rest], [], by rw [he, hnext.out]; simp [T.linesK], hb3, hJ3, by simp⟩
          case measure => rw [hlen, T.boxLen_of hb3]; simp; omega
        · gi_wp2
          refine bodyPost_ret (results_none rfl _ _ _) rfl ?_
          exact ⟨⟨_, rfl⟩, .inr ⟨_, _, _, by rw [he, hnext.out], hJx3⟩⟩
      · obtain ⟨hi, hcut⟩ := T.index_cut rest i hx
        have hix := Tryz.strings_IndexByte ⟨rest.toArray⟩ 10 wr
        rw [show Lib.indexByte (ByteArray.mk rest.toArray).data.toList (10 : Int).toNat.toUInt8 = (i : Int) from hx] at hix
        obtain ⟨fn, tmps, assign, body, hy, hR⟩ := hY pre (rest.take (i + 1)) ((wr.setCell ⟨Bs, 0, none⟩ (strV (rest.drop (i + 1)))).drew) (hJ pre wr _ hj ⟨rfl, rfl, rfl, (KeepsWalks.setCell wr _ _).size, fun k _ hk => Below.heap_setCell _ _ _ k (fun e => hk (by rw [e]))⟩) ⟨_, by rw [he, hcut]⟩
        have hnext := Lib.hid hcut
        clear hx hcut
        have h1 := bytes_take rest (i + 1)
        have h2 := bytes_drop rest (i + 1) rest.length (Nat.le_refl _)
        gi_wp2_with (refine ⟨trivial, fun h => (by cases h), ?_⟩; gi_at_call 49; refine (callsIn_wide.2 hix).mono ?_; rintro r w2 ⟨rfl, rfl⟩)
        have hbd : Boxed w2.drew Bs 9 (strV rest) := hb
        have hw1 : IntKind.i64.wrap ((i : Int) + 1) = (i : Int) + 1 := IntWalk.i64_in _ (by omega)
        have hw2 : (i : Int) + 1 ≤ (rest.length : Int) := by omega
        have hw3 : (0 : Int) ≤ (i : Int) + 1 := by omega
        have hw4 : ((i : Int) + 1).toNat = i + 1 := by omega
        refine wpIn_wide.2 ?_
        refine wp_region_T 9 [9] (fun X => X = w2.drew) (by kernel_rfl) (by kernel_rfl) (by repeat (first | exact trivial | refine ⟨.inl rfl, ?_⟩ | refine ⟨.inr fun _ _ _ _ h => h, ?_⟩)) ?_ ?_
        · rfl
        repeat ((first | (refine wpT_q (by rfl) (by rfl) ?_ ?_ ?_; rotate_left; focus (rintro W rfl; go_simp; try (with_reducible rfl); done)) | refine wpT_skip (by rfl) (by rfl) ?_); try simp only [Act.put, List.setIfInBounds_toArray, List.set_cons_succ, List.set_cons_zero])
        refine wpT_a (by rfl) (by rfl) fun K hK => ?_
        go_simp
        refine hK _ _ (fun h => absurd h (by omega)) ?_; clear hK K; try simp only [Act.put, List.setIfInBounds_toArray, List.set_cons_succ, List.set_cons_zero]
        refine wpT_nil ?_
        gi_wp2
        refine ⟨fun h => (by cases h), hR.mono ?_⟩
        rintro e W3 (⟨rfl, hJ3, hk3⟩ | ⟨rfl, hJx3⟩)
        · have hb3 : Boxed W3 Bs 9 (strV (rest.drop (i + 1))) := by
            unfold Boxed
            rw [hk3]
            exact hbd.set _
          gi_wp2
          go_roundw
          case rel => exact ⟨pre ++ [rest.take (i + 1)], rest.drop (i + 1), by rw [he, hnext.out]; simp, hb3, hJ3, by simp; omega⟩
          case measure => rw [hlen, T.boxLen_of hb3]; simp; omega
        · gi_wp2
          refine bodyPost_ret (results_none rfl _ _ _) rfl ?_
          exact ⟨⟨_, rfl⟩, .inr ⟨_, _, _, by rw [he, hnext.out], hJx3⟩⟩
end Go.Proofs.YtpgdgboobnmjiaaGreatDoor
