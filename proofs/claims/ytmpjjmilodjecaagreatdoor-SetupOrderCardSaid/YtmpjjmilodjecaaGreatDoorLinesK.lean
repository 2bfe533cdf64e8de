/- Lines of a text, each with its end; and without. -/
import Derived.Test.YtmpjjmilodjecaaGreatDoorText
import Derived.Lib.Strings
import Derived.Lib.Bytealg
import Derived.Test.YtmpjjmilodjecaaGreatDoorHeadIn
import Derived.Test.YtmpjjmilodjecaaGreatDoorShelf
import Derived.RangeFuncBox
namespace Go.Proofs.YtmpjjmilodjecaaGreatDoor
open Go.RowKit Go.Shelf
set_option linter.unusedVariables false
set_option linter.unusedSimpArgs false
/-- The lines, each with the line's end that it has. -/
def T.linesK : List UInt8 → List (List UInt8)
  | [] => []
  | c :: cs => if c = 10 then [10] :: T.linesK cs else match T.linesK cs with
    | [] => [[c]]
    | l :: ls => (c :: l) :: ls
theorem T.linesK_nil (l : List UInt8) : T.linesK l = [] ↔ l = [] := by
  cases l with
  | nil => simp [T.linesK]
  | cons c cs =>
    simp only [T.linesK]
    split
    · simp
    · split <;> simp
theorem T.linesK_line (p r : List UInt8) (hp : ∀ c ∈ p, c ≠ 10) : T.linesK (p ++ 10 :: r) = (p ++ [10]) :: T.linesK r := by
  induction p with
  | nil => simp [T.linesK]
  | cons c p ih =>
    have hc : c ≠ 10 := hp c List.mem_cons_self
    have := ih fun x hx => hp x (List.mem_cons_of_mem _ hx)
    simp only [List.cons_append, T.linesK, if_neg hc, this]
theorem T.linesK_last (p : List UInt8) (h0 : p ≠ []) (hp : ∀ c ∈ p, c ≠ 10) : T.linesK p = [p] := by
  induction p with
  | nil => exact absurd rfl h0
  | cons c p ih =>
    have hc : c ≠ 10 := hp c List.mem_cons_self
    cases p with
    | nil => simp [T.linesK, hc]
    | cons d q =>
      have := ih (by simp) fun x hx => hp x (List.mem_cons_of_mem _ hx)
      rw [T.linesK, if_neg hc, this]
theorem T.linesK_flat (l : List UInt8) : (T.linesK l).flatten = l := by
  induction l with
  | nil => rfl
  | cons c l ih =>
    simp only [T.linesK]
    split
    · rename_i h; simp [ih, h]
    · split
      · rename_i h; rw [h] at ih; simp at ih; simp [← ih]
      · rename_i l ls h; rw [h] at ih; simp at ih; simp [← ih]
theorem T.linesK_ne (l : List UInt8) : ∀ x ∈ T.linesK l, x ≠ [] := by
  induction l with
  | nil => simp [T.linesK]
  | cons c l ih =>
    simp only [T.linesK]
    split
    · intro x hx
      rcases List.mem_cons.1 hx with rfl | h
      · simp
      · exact ih x h
    · split
      · intro x hx; simp at hx; simp [hx]
      · rename_i l ls h
        rw [h] at ih
        intro x hx
        rcases List.mem_cons.1 hx with rfl | hx
        · simp
        · exact ih x (List.mem_cons_of_mem _ hx)
theorem T.linesK_len (l : List UInt8) : (T.linesK l).length ≤ l.length := by
  induction l with
  | nil => simp [T.linesK]
  | cons c l ih =>
    simp only [T.linesK]
    split
    · simp; exact ih
    · split
      · simp
      · rename_i l ls h
        rw [h] at ih
        simp at ih ⊢
        omega
theorem T.linesK_le (l x : List UInt8) (h : x ∈ T.linesK l) : x.length ≤ l.length := by
  have := T.linesK_flat l
  have h2 : x.length ≤ ((T.linesK l).map List.length).sum := by
    generalize T.linesK l = ls at h
    induction ls with
    | nil => cases h
    | cons y ys ih =>
      simp only [List.map_cons, List.sum_cons]
      rcases List.mem_cons.1 h with rfl | h
      · omega
      · have := ih h; omega
  rw [← List.length_flatten, this] at h2
  exact h2
/-- The next line's bounds. -/
theorem T.index_bd (l : List UInt8) : -1 ≤ Lib.indexByte l 10 ∧ Lib.indexByte l 10 < l.length := by
  induction l with
  | nil => simp [Lib.indexByte]
  | cons b l ih =>
    simp only [Lib.indexByte, List.length_cons]
    split
    · omega
    · split <;> omega
theorem T.index_cut (l : List UInt8) (i : Nat) (h : Lib.indexByte l 10 = (i : Int)) : i < l.length ∧ T.linesK l = l.take (i + 1) :: T.linesK (l.drop (i + 1)) := by
  refine ⟨by have := (T.index_bd l).2; omega, ?_⟩
  induction l generalizing i with
  | nil => simp [Lib.indexByte] at h
  | cons b l ih =>
    simp only [Lib.indexByte] at h
    by_cases hb : b = 10
    · simp [hb] at h
      obtain rfl : i = 0 := by omega
      simp [T.linesK, hb]
    · have hbd := T.index_bd l
      rw [if_neg (by simpa using hb)] at h
      split at h
      · rename_i h'
        omega
      · rename_i h'
        have h' : Lib.indexByte l 10 ≠ -1 := by simpa using h'
        obtain ⟨k, rfl⟩ : ∃ k, i = k + 1 := ⟨i - 1, by omega⟩
        have := ih k (by omega)
        rw [T.linesK, if_neg hb, this]
        simp
theorem T.index_none (l : List UInt8) (h0 : l ≠ []) (h : Lib.indexByte l 10 = -1) : T.linesK l = [l] := by
  refine T.linesK_last l h0 ?_
  clear h0
  induction l with
  | nil => simp
  | cons b l ih =>
    simp only [Lib.indexByte] at h
    by_cases hb : b = 10
    · simp [hb] at h
    · rw [if_neg (by simpa using hb)] at h
      have hbd := T.index_bd l
      have h1 : Lib.indexByte l 10 = -1 := by
        split at h
        · rename_i h'; simpa using h'
        · omega
      intro c hc
      rcases List.mem_cons.1 hc with rfl | hc
      · exact hb
      · exact ih h1 c hc
theorem T.index_cases (l : List UInt8) : Lib.indexByte l 10 = -1 ∨ ∃ i : Nat, Lib.indexByte l 10 = (i : Int) := by
  have := T.index_bd l
  by_cases h : Lib.indexByte l 10 = -1
  · exact .inl h
  · exact .inr ⟨(Lib.indexByte l 10).toNat, by omega⟩
/-- Without its end. -/
def T.trimNL (l : List UInt8) : List UInt8 := Lib.trimSuffix l [10]
def T.lines (l : List UInt8) : List (List UInt8) := (T.linesK l).map T.trimNL
end Go.Proofs.YtmpjjmilodjecaaGreatDoor
namespace Go.Proofs.YtmpjjmilodjecaaGreatDoor
open Go.RowKit Go.Shelf
set_option linter.unusedVariables false
set_option linter.unusedSimpArgs false
attribute [local go_sem] Oper.semAt_some
def T.boxLen (w : World) (Bs : Nat) : Nat := match w.cell? ⟨Bs, 0, none⟩ with
  | some (.string b) => b.size
  | _ => 0
theorem T.boxLen_of {w : World} {Bs : Nat} {t : TypeId} {l : List UInt8} (h : Boxed w Bs t (strV l)) : T.boxLen w Bs = l.length := by
  unfold T.boxLen
  rw [h.cell]
  simp [strV, ByteArray.size]
theorem bytes_take (l : List UInt8) (k : Nat) : (ByteArray.mk l.toArray).extract 0 k = ⟨(l.take k).toArray⟩ := by
  rw [ByteArray.ext_iff, ByteArray.data_extract]
  simp
theorem bytes_drop (l : List UInt8) (k n : Nat) (h : l.length ≤ n) : (ByteArray.mk l.toArray).extract k n = ⟨(l.drop k).toArray⟩ := by
  rw [ByteArray.ext_iff, ByteArray.data_extract]
  simp
  rw [List.take_of_length_le (by simp; omega)]
set_option maxRecDepth 100000 in
set_option maxHeartbeats 2000000 in
theorem lines1_in (n : Nat) (l Bs : Nat) (s : List UInt8) (hs : s.length ≤ 1000000) (J Jx : List (List UInt8) → World → Prop) (hJ : ∀ pre W W', J pre W → W.grownBy W' (some Bs) → J pre W')
    (hY : ∀ pre x W, J pre W → (∃ post, T.linesK s = pre ++ x :: post) → YieldAt Fence.wide (n - 1) Tryz.prog l #[strV x] W fun e W' =>
      (e = .returned (.bool true) ∧ J (pre ++ [x]) W' ∧ W'.heap[Bs]? = W.heap[Bs]?) ∨ (e = .returned (.bool false) ∧ Jx (pre ++ [x]) W'))
    (W : World) (hB : Boxed W Bs 9 (strV s)) (h0 : J [] W) :
    CallsIn Fence.wide n Tryz.prog 132 #[.func (.yield l) #[] #[], .pointer (some ⟨Bs, 0, none⟩)] W fun e W' => (∃ v, e = .returned v) ∧
      (J (T.linesK s) W' ∨ (∃ pre x post, T.linesK s = pre ++ x :: post ∧ Jx (pre ++ [x]) W')) := by
  refine callsIn_of_wp Tryz.func132 rfl trivial ?_ rfl
  simp only [Tryz.ntmps132, List.size_toArray, List.length_cons, List.length_nil, Nat.reduceAdd, Nat.reduceSub, Array.replicate_succ, Array.replicate_zero, List.push_toArray, List.append_toArray, List.nil_append, List.cons_append]
  gi_wp2
  gi_loopw [3] (fun i wr => ∃ pre rest, T.linesK s = pre ++ T.linesK rest ∧ Boxed wr Bs 9 (strV rest) ∧ J pre wr ∧ rest.length ≤ s.length)
    (fun i wr => T.boxLen wr Bs)
  case atStart => exact ⟨[], s, rfl, hB, h0, Nat.le_refl _⟩
  case round =>
    obtain ⟨pre, rest, he, hb, hj, hl⟩ := hrel
    have hlen := T.boxLen_of hb
    have hc := hb.cell
    have hfz := hb.frozen
    by_cases hr : rest = []
    · rw [hr] at hc he
      gi_wp2
      go_end0
      exact ⟨⟨_, rfl⟩, .inl (by rw [he, show T.linesK [] = [] from rfl, List.append_nil]; exact hj)⟩
    · have hpos : 0 < rest.length := List.length_pos_iff.2 hr
      have hJ1 : ∀ v, J pre (wr.setCell ⟨Bs, 0, none⟩ v) := fun v => hJ pre wr _ hj (grownBy_setCell' wr Bs v)
      rcases T.index_cases rest with hx | ⟨i, hx⟩
      · have hnext := T.index_none rest hr hx
        have HN := Lib.hid hnext
        have hix := Tryz.strings_IndexByte ⟨rest.toArray⟩ 10 wr
        rw [show Lib.indexByte (ByteArray.mk rest.toArray).data.toList (10 : Int).toNat.toUInt8 = -1 from hx] at hix
        obtain ⟨fn, tmps, assign, body, hy, hR⟩ := hY pre rest (wr.setCell ⟨Bs, 0, none⟩ (.string ⟨#[]⟩)) (hJ1 _) ⟨[], by rw [he, hnext]⟩
        clear hx hnext
        have hnext := HN
        gi_wp2_with (refine ⟨trivial, fun h => (by cases h), ?_⟩; gi_at_call 133; refine (callsIn_wide.2 hix).mono ?_; rintro r w2 ⟨rfl, rfl⟩)
        refine ⟨fun h => (by cases h), hR.mono ?_⟩
        rintro e W3 (⟨rfl, hJ3, hk3⟩ | ⟨rfl, hJx3⟩)
        · have hb3 : Boxed W3 Bs 9 (strV []) := by
            unfold Boxed
            rw [hk3]
            exact hb.set _
          gi_wp2
          go_roundw
          case rel => exact ⟨pre ++ [rest], [], by rw [he, hnext.out]; simp [T.linesK], hb3, hJ3, by simp⟩
          case measure => rw [hlen, T.boxLen_of hb3]; simp; omega
        · gi_wp2
          refine bodyPost_ret (results_none rfl _ _ _) rfl ?_
          exact ⟨⟨_, rfl⟩, .inr ⟨_, _, _, by rw [he, hnext.out], hJx3⟩⟩
      · obtain ⟨hi, hcut⟩ := T.index_cut rest i hx
        have hix := Tryz.strings_IndexByte ⟨rest.toArray⟩ 10 wr
        rw [show Lib.indexByte (ByteArray.mk rest.toArray).data.toList (10 : Int).toNat.toUInt8 = (i : Int) from hx] at hix
        obtain ⟨fn, tmps, assign, body, hy, hR⟩ := hY pre (rest.take (i + 1)) ((wr.setCell ⟨Bs, 0, none⟩ (strV (rest.drop (i + 1)))).drew) (hJ pre wr _ hj ⟨rfl, rfl, rfl, (KeepsWalks.setCell wr _ _).size, fun k _ hk => Below.heap_setCell _ _ _ k (fun e => hk (by rw [e]))⟩) ⟨_, by rw [he, hcut]⟩
        have hnext := Lib.hid hcut
        clear hx hcut
        have h1 := bytes_take rest (i + 1)
        have h2 := bytes_drop rest (i + 1) rest.length (Nat.le_refl _)
        gi_wp2_with (refine ⟨trivial, fun h => (by cases h), ?_⟩; gi_at_call 133; refine (callsIn_wide.2 hix).mono ?_; rintro r w2 ⟨rfl, rfl⟩)
        have hbd : Boxed w2.drew Bs 9 (strV rest) := hb
        have hw1 : IntKind.i64.wrap ((i : Int) + 1) = (i : Int) + 1 := IntWalk.i64_in _ (by omega)
        have hw2 : (i : Int) + 1 ≤ (rest.length : Int) := by omega
        have hw3 : (0 : Int) ≤ (i : Int) + 1 := by omega
        have hw4 : ((i : Int) + 1).toNat = i + 1 := by omega
        refine wpIn_wide.2 ?_
        refine wp_region_T 9 [9] (fun X => X = w2.drew) (by kernel_rfl) (by kernel_rfl) (by repeat (first | exact trivial | refine ⟨.inl rfl, ?_⟩ | refine ⟨.inr fun _ _ _ _ h => h, ?_⟩)) ?_ ?_
        · rfl
        repeat ((first | (refine wpT_q (by rfl) (by rfl) ?_ ?_ ?_; rotate_left; focus (rintro W rfl; go_simp; try (with_reducible rfl); done)) | refine wpT_skip (by rfl) (by rfl) ?_); try simp only [Act.put, List.setIfInBounds_toArray, List.set_cons_succ, List.set_cons_zero])
        refine wpT_a (by rfl) (by rfl) fun K hK => ?_
        go_simp
        refine hK _ _ (fun h => absurd h (by omega)) ?_; clear hK K; try simp only [Act.put, List.setIfInBounds_toArray, List.set_cons_succ, List.set_cons_zero]
        refine wpT_nil ?_
        gi_wp2
        refine ⟨fun h => (by cases h), hR.mono ?_⟩
        rintro e W3 (⟨rfl, hJ3, hk3⟩ | ⟨rfl, hJx3⟩)
        · have hb3 : Boxed W3 Bs 9 (strV (rest.drop (i + 1))) := by
            unfold Boxed
            rw [hk3]
            exact hbd.set _
          gi_wp2
          go_roundw
          case rel => exact ⟨pre ++ [rest.take (i + 1)], rest.drop (i + 1), by rw [he, hnext.out]; simp, hb3, hJ3, by simp; omega⟩
          case measure => rw [hlen, T.boxLen_of hb3]; simp; omega
        · gi_wp2
          refine bodyPost_ret (results_none rfl _ _ _) rfl ?_
          exact ⟨⟨_, rfl⟩, .inr ⟨_, _, _, by rw [he, hnext.out], hJx3⟩⟩
end Go.Proofs.YtmpjjmilodjecaaGreatDoor
