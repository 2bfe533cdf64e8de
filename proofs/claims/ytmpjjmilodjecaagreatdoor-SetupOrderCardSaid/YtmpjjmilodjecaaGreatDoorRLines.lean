/- The document's lines of a text: its walk. -/
import Derived.Test.YtmpjjmilodjecaaGreatDoorLinesK
import Derived.Test.YtmpjjmilodjecaaGreatDoorList
import Derived.Test.YtmpjjmilodjecaaGreatDoorLoadV
namespace Go.Proofs.YtmpjjmilodjecaaGreatDoor
open Go.RowKit Go.Shelf
set_option linter.unusedVariables false
set_option linter.unusedSimpArgs false
theorem T.trimNL_end (p : List UInt8) : T.trimNL (p ++ [10]) = p := by
  unfold T.trimNL Lib.trimSuffix Lib.hasSuffix
  rw [if_pos (List.isSuffixOf_iff_suffix.2 ⟨p, rfl⟩)]
  simp
theorem T.trimNL_free (p : List UInt8) (hp : ∀ c ∈ p, c ≠ 10) : T.trimNL p = p := by
  unfold T.trimNL Lib.trimSuffix Lib.hasSuffix
  rw [if_neg]
  intro h
  obtain ⟨q, rfl⟩ := List.isSuffixOf_iff_suffix.1 h
  exact hp 10 (by simp) rfl
theorem T.lines_nil : T.lines [] = [] := rfl
theorem T.lines_line (p r : List UInt8) (hp : ∀ c ∈ p, c ≠ 10) : T.lines (p ++ 10 :: r) = p :: T.lines r := by
  unfold T.lines
  rw [T.linesK_line p r hp, List.map_cons, T.trimNL_end]
theorem T.lines_last (p : List UInt8) (h0 : p ≠ []) (hp : ∀ c ∈ p, c ≠ 10) : T.lines p = [p] := by
  unfold T.lines
  rw [T.linesK_last p h0 hp, List.map_cons, T.trimNL_free p hp, List.map_nil]
def strL (l : List UInt8) : Array Value := #[strV l]
theorem strL_one (l : List UInt8) : (strL l).all (·.oneCell') = true := by simp [strL, Value.oneCell']
theorem strL_sz (l : List UInt8) : (strL l).size = 1 := rfl
def RLinesPost (s : List UInt8) (w : World) (r : Ending) (w' : World) : Prop :=
  ∃ v, r = .returned v ∧ Own strL 1 w.heap.size 9 w' v (T.lines s) ∧ Below w.heap.size w w'
theorem T.take_free (s : List UInt8) (f k : Nat) (hf : f ≤ k) (h : ∀ c ∈ (s.drop f).take (k - f), c ≠ 10) (hk : k < s.length) (hc : s[k] ≠ 10) : ∀ c ∈ (s.drop f).take (k + 1 - f), c ≠ 10 := by
  intro c hm
  rw [show k + 1 - f = (k - f) + 1 by omega, List.take_succ_eq_append_getElem (by simp; omega), List.mem_append] at hm
  rcases hm with hm | hm
  · exact h c hm
  · simp only [List.mem_singleton, List.getElem_drop] at hm
    rw [hm, show s[f + (k - f)]'(by omega) = s[k] by congr 1; omega]
    exact hc
theorem T.drop_line (s : List UInt8) (f k : Nat) (hf : f ≤ k) (hk : k < s.length) (hc : s[k] = 10) : s.drop f = (s.drop f).take (k - f) ++ 10 :: s.drop (k + 1) := by
  have h1 : (s.drop f).drop (k - f) = s.drop k := by rw [List.drop_drop, show f + (k - f) = k by omega]
  conv => lhs; rw [← List.take_append_drop (k - f) (s.drop f), h1, List.drop_eq_getElem_cons hk, hc]
theorem bytes_part (s : List UInt8) (f k : Nat) : (ByteArray.mk s.toArray).extract f k = ⟨((s.drop f).take (k - f)).toArray⟩ := by
  rw [ByteArray.extract_mk]
  try simp
set_option maxRecDepth 100000 in
set_option maxHeartbeats 4000000 in
theorem rlines_c (s : List UInt8) (hs : s.length ≤ 1000000) (w : World) : Calls Tryz.prog 20 #[strV s] w (RLinesPost s w) := by
  go_enter Tryz.func20, Tryz.ntmps20
  go_wp2
  go_loopw [3, 4, 5] (fun v f i wr => ∃ (fr k : Nat) (out : List (List UInt8)), f = .int .i64 (fr : Int) ∧ i = .int .i64 (k : Int) ∧ fr ≤ k ∧ k ≤ s.length ∧ Hid (∀ c ∈ (s.drop fr).take (k - fr), c ≠ 10) ∧ Hid (T.lines s = out ++ T.lines (s.drop fr)) ∧ out.length ≤ k ∧ Own strL 1 w.heap.size 9 wr v out ∧ Below w.heap.size w wr) (fun _ _ i _ => s.length - (intOf i).toNat)
  case atStart => exact ⟨0, 0, [], rfl, rfl, Nat.le_refl _, Nat.zero_le _, Lib.hid (by simp), Lib.hid (by simp), Nat.le_refl _, Own.nil, Below.refl _ _⟩
  case round =>
    obtain ⟨fr, k, out, rfl, rfl, hfk, hks, hfree, hL, hlen, hown, hB⟩ := hrel
    have hsz := hB.size
    by_cases hk : k < s.length
    · have hkI : (k : Int) < (s.length : Int) := by omega
      have hwk : IntKind.i64.wrap ((k : Int) + 1) = (k : Int) + 1 := IntWalk.i64_in _ (by omega)
      by_cases hc : s[k] = 10
      · have hbb : ((((ByteArray.mk s.toArray)[k]'(by simpa [ByteArray.size] using hk)).toNat : Int) == 10) = true := by
          show ((s[k].toNat : Int) == 10) = true
          rw [hc]; rfl
        have hcut := bytes_part s fr k
        obtain ⟨x, hx⟩ : ∃ x, x = (s.drop fr).take (k - fr) := ⟨_, rfl⟩
        rw [← hx] at hcut
        have hL2 := Lib.hid (show T.lines s = (out ++ [x]) ++ T.lines (s.drop (k + 1)) by
          rw [hL.out, T.drop_line s fr k hfk hk hc, T.lines_line _ _ hfree.out, ← hx]; simp)
        have p1 : rowAt (wr.alloc (.cells #[strV x] 9)) wr.heap.size 0 1 = some (strL x) := rowAt_new _ _ _ _ _ rfl
        have hfI : (fr : Int) ≤ (k : Int) := by omega
        clear hL hfree hc hx
        go_wp2_with ((at_builtin; refine wpList_append1 strL 1 rfl _ _ _ rfl w.heap.size 9 16 Tryz.underlying32 (by kernel_rfl) (by decide) _ out x rfl (hown.alloc _) (wr.heap.size) rfl p1 (strL_one x) (by omega) (by omega) (by simp <;> omega) ?_; intro v' w' hown' hgr' hbel'))
        go_roundw
        case rel => exact ⟨k + 1, k + 1, out ++ [x], by go_num, by go_num, Nat.le_refl _, by omega, Lib.hid (by simp), hL2, by simp; omega, hown', (hB.alloc hsz _).trans hbel'⟩
        case measure => simp [intOf] <;> omega
      · have hbb : ((((ByteArray.mk s.toArray)[k]'(by simpa [ByteArray.size] using hk)).toNat : Int) == 10) = false := by
          show ((s[k].toNat : Int) == 10) = false
          rw [beq_eq_false_iff_ne]; intro e; exact hc (UInt8.toNat_inj.1 (by have : s[k].toNat = 10 := by omega
                                                                             rw [this]; rfl))
        have hfree2 := Lib.hid (T.take_free s fr k hfk hfree.out hk hc)
        clear hfree hc
        go_wp2
        go_roundw
        case rel => exact ⟨fr, k + 1, out, rfl, by go_num, by omega, by omega, hfree2, hL, by omega, hown, hB⟩
        case measure => simp [intOf] <;> omega
    · have hkI : ¬ (k : Int) < (s.length : Int) := by omega
      by_cases hf : fr < s.length
      · have hfI : (fr : Int) < (s.length : Int) := by omega
        have hcut := bytes_drop s fr s.length (Nat.le_refl _)
        obtain ⟨x, hx⟩ : ∃ x, x = s.drop fr := ⟨_, rfl⟩
        rw [← hx] at hcut
        have hL2 := Lib.hid (show T.lines s = out ++ [x] by
          rw [hL.out, ← hx, T.lines_last x (by rw [hx, ne_eq, List.drop_eq_nil_iff]; omega) (by have := hfree.out; rw [List.take_of_length_le (by rw [List.length_drop]; omega), ← hx] at this; exact this)])
        have p1 : rowAt (wr.alloc (.cells #[strV x] 9)) wr.heap.size 0 1 = some (strL x) := rowAt_new _ _ _ _ _ rfl
        clear hL hfree hx
        go_wp2_with ((at_builtin; refine wpList_append1 strL 1 rfl _ _ _ rfl w.heap.size 9 16 Tryz.underlying32 (by kernel_rfl) (by decide) _ out x rfl (hown.alloc _) (wr.heap.size) rfl p1 (strL_one x) (by omega) (by omega) (by simp <;> omega) ?_; intro v' w' hown' hgr' hbel'))
        go_ret
        exact ⟨_, rfl, by rw [hL2.out]; exact hown', (hB.alloc hsz _).trans hbel'⟩
      · have hfI : ¬ (fr : Int) < (s.length : Int) := by omega
        have hL2 := Lib.hid (show T.lines s = out by rw [hL.out, List.drop_eq_nil_of_le (by omega), T.lines_nil, List.append_nil])
        clear hL hfree hk
        go_wp2
        go_ret
        exact ⟨_, rfl, by rw [hL2.out]; exact hown, hB⟩
end Go.Proofs.YtmpjjmilodjecaaGreatDoor
