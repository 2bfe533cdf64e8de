/- The places from an item up: the program's, the document's. -/
import Derived.Test.YtcncmbcnekekdaaDoorAbove
namespace Go.Proofs.YtcncmbcnekekdaaDoor
open Go.RowKit
set_option linter.unusedVariables false
set_option linter.unusedSimpArgs false

theorem T.lastKey_lt (xs : List Item) (p : Key) (n k : Nat) (h : T.lastKey xs p n = some k) : k < n ∧ (xs[k]?.map (·.key)) = some p := by
  induction n with
  | zero => simp [T.lastKey] at h
  | succ n ih =>
    rw [T.lastKey] at h
    split at h
    · rename_i hc
      cases h
      exact ⟨by omega, hc⟩
    · have := ih h
      exact ⟨by omega, this.2⟩
theorem T.above_lt (xs : List Item) (i : Int) (hi : 0 ≤ i) : -1 ≤ T.above xs i ∧ T.above xs i < i := by
  unfold T.above
  split
  · unfold T.upI T.up
    split
    · rename_i k hk
      split at hk
      · have := (T.lastKey_lt _ _ _ _ hk).1
        omega
      · cases hk
    · omega
  · omega
def T.pathF (xs : List Item) : Nat → Int → List Int
  | 0, _ => []
  | f + 1, i => if 0 ≤ i then i :: T.pathF xs f (T.above xs i) else []
def T.path (xs : List Item) (i : Int) : List Int := if i < xs.length then T.pathF xs xs.length i else []
theorem T.pathF_fuel (xs : List Item) : ∀ (f g : Nat) (i : Int), i < f → i < g → T.pathF xs f i = T.pathF xs g i
  | 0, 0, _, _, _ => rfl
  | 0, g + 1, i, h, _ => by simp only [T.pathF]; rw [if_neg (by omega)]
  | f + 1, 0, i, _, h => by simp only [T.pathF]; rw [if_neg (by omega)]
  | f + 1, g + 1, i, h1, h2 => by
    simp only [T.pathF]
    split
    · rename_i hi
      have := T.above_lt xs i hi
      rw [T.pathF_fuel xs f g _ (by omega) (by omega)]
    · rfl
theorem T.pathF_step (xs : List Item) (i : Int) (h0 : 0 ≤ i) (hi : i < xs.length) : T.pathF xs xs.length i = i :: T.pathF xs xs.length (T.above xs i) := by
  obtain ⟨n, hn⟩ : ∃ n, xs.length = n + 1 := ⟨xs.length - 1, by omega⟩
  have := T.above_lt xs i h0
  rw [hn]
  simp only [T.pathF]
  rw [if_pos h0, T.pathF_fuel xs n (n + 1) _ (by omega) (by omega)]
  rfl
theorem T.pathF_end (xs : List Item) (i : Int) (h0 : i < 0) : T.pathF xs xs.length i = [] := by
  cases xs.length with
  | zero => rfl
  | succ n => simp only [T.pathF]; rw [if_neg (by omega)]

set_option maxRecDepth 100000 in
set_option maxHeartbeats 1000000 in
theorem above_c_path (v : Value) (xs : List Item) (i : Int) (w : World) (h : Sl Item.arr 17 w.heap.size w v xs) (hn : xs.length ≤ 100000) :
    Calls Tryd.prog 18 #[v, .int .i64 i] w fun e w' => ∃ u, e = .returned u ∧ Own intArr 1 w.heap.size 3 w' u (T.path xs i) ∧ Below w.heap.size w w' := by
  obtain ⟨A, cap, rfl, hcap, hl1, hl2⟩ := h.view
  by_cases hi : i < xs.length
  · have hp : T.path xs i = T.pathF xs xs.length i := by rw [T.path, if_pos hi]
    rw [hp]
    clear hp
    go_enter Tryd.func18, Tryd.ntmps18
    go_wp2
    go_loopw [1, 5] (fun c u wr => ∃ (c' : Int) (L : List Int), c = .int .i64 c' ∧ c' < xs.length ∧ T.pathF xs xs.length i = L ++ T.pathF xs xs.length c' ∧ (0 ≤ c' → L.length + (c' + 1).toNat ≤ xs.length) ∧ Own intArr 1 w.heap.size 3 wr u L ∧ Below w.heap.size w wr) (fun c _ _ => (intOf c + 1).toNat)
    case atStart => exact ⟨i, [], rfl, hi, rfl, by simp; omega, Own.nil, Below.refl _ _⟩
    case round =>
      obtain ⟨c, L, rfl, hc1, hL, hlen, hown, hB⟩ := hrel
      by_cases hc : 0 ≤ c
      · have hab := T.above_lt xs c hc
        have hsz := hB.size
        have hlen := hlen hc
        have p1 : rowAt (wr.alloc (.cells #[.int .i64 c] 3)) wr.heap.size 0 1 = some (intArr c) := rowAt_new _ _ _ _ _ rfl
        have HL := Lib.hid hL
        clear hL
        go_wp2_with (first | (at_builtin; refine wpList_append1 intArr 1 rfl _ _ _ rfl w.heap.size 3 8 Tryd.underlying29 (by kernel_rfl) (by decide) _ L c rfl (hown.alloc _) (wr.heap.size) rfl p1 (intArr_one c) (by omega) (by omega) (by simp <;> omega) ?_; intro v' w' hown' hgr' hbel'; have hB2 := (hB.alloc hsz _).trans hbel'; have hS2 := (h.below hB2).mono hB2.size) | (go_at_call 15; (with_reducible refine (above_c _ xs c _ hS2).mono ?_); rintro e w2 ⟨rfl, hb2⟩))
        clear hgr'
        go_roundw
        case rel => exact ⟨T.above xs c, L ++ [c], rfl, by omega, by rw [HL.out, T.pathF_step xs c hc hc1]; simp, fun h0 => by simp only [List.length_append, List.length_cons, List.length_nil]; omega, hown'.below hb2, bthen hB2 hb2⟩
        case measure => simp only [intOf]; omega
      · have hL2 : T.pathF xs xs.length i = L := by rw [hL, T.pathF_end xs c (by omega)]; simp
        clear hL hlen
        rw [hL2]
        go_wp2
        go_ret
        exact ⟨_, rfl, hown, hB⟩
  · have hp : T.path xs i = [] := by rw [T.path, if_neg hi]
    rw [hp]
    go_enter Tryd.func18, Tryd.ntmps18
    go_wp2
    first
      | (go_ret; exact ⟨_, rfl, Own.nil, Below.refl _ _⟩)
      | (refine wp_loop_rounds 1 ?_
         rw [rounds_succ]
         by_cases h0 : 0 ≤ i
         all_goals go_wp2
         all_goals go_ret
         all_goals exact ⟨_, rfl, Own.nil, Below.refl _ _⟩)
set_option maxRecDepth 100000 in
set_option maxHeartbeats 1000000 in
theorem rabove_c_path (v : Value) (xs : List Item) (i : Int) (w : World) (h : Sl Item.arr 17 w.heap.size w v xs) (hn : xs.length ≤ 100000) :
    Calls Tryd.prog 19 #[v, .int .i64 i] w fun e w' => ∃ u, e = .returned u ∧ Own intArr 1 w.heap.size 3 w' u (T.path xs i) ∧ Below w.heap.size w w' := by
  obtain ⟨A, cap, rfl, hcap, hl1, hl2⟩ := h.view
  by_cases hi : i < xs.length
  · have hp : T.path xs i = T.pathF xs xs.length i := by rw [T.path, if_pos hi]
    rw [hp]
    clear hp
    go_enter Tryd.func19, Tryd.ntmps19
    go_wp2
    go_loopw [1, 5] (fun c u wr => ∃ (c' : Int) (L : List Int), c = .int .i64 c' ∧ c' < xs.length ∧ T.pathF xs xs.length i = L ++ T.pathF xs xs.length c' ∧ (0 ≤ c' → L.length + (c' + 1).toNat ≤ xs.length) ∧ Own intArr 1 w.heap.size 3 wr u L ∧ Below w.heap.size w wr) (fun c _ _ => (intOf c + 1).toNat)
    case atStart => exact ⟨i, [], rfl, hi, rfl, by simp; omega, Own.nil, Below.refl _ _⟩
    case round =>
      obtain ⟨c, L, rfl, hc1, hL, hlen, hown, hB⟩ := hrel
      by_cases hc : 0 ≤ c
      · have hab := T.above_lt xs c hc
        have hsz := hB.size
        have hlen := hlen hc
        have p1 : rowAt (wr.alloc (.cells #[.int .i64 c] 3)) wr.heap.size 0 1 = some (intArr c) := rowAt_new _ _ _ _ _ rfl
        have HL := Lib.hid hL
        clear hL
        go_wp2_with (first | (at_builtin; refine wpList_append1 intArr 1 rfl _ _ _ rfl w.heap.size 3 8 Tryd.underlying29 (by kernel_rfl) (by decide) _ L c rfl (hown.alloc _) (wr.heap.size) rfl p1 (intArr_one c) (by omega) (by omega) (by simp <;> omega) ?_; intro v' w' hown' hgr' hbel'; have hB2 := (hB.alloc hsz _).trans hbel'; have hS2 := (h.below hB2).mono hB2.size) | (go_at_call 16; (with_reducible refine (rabove_c _ xs c _ hS2).mono ?_); rintro e w2 ⟨rfl, hb2⟩))
        clear hgr'
        go_roundw
        case rel => exact ⟨T.above xs c, L ++ [c], rfl, by omega, by rw [HL.out, T.pathF_step xs c hc hc1]; simp, fun h0 => by simp only [List.length_append, List.length_cons, List.length_nil]; omega, hown'.below hb2, bthen hB2 hb2⟩
        case measure => simp only [intOf]; omega
      · have hL2 : T.pathF xs xs.length i = L := by rw [hL, T.pathF_end xs c (by omega)]; simp
        clear hL hlen
        rw [hL2]
        go_wp2
        go_ret
        exact ⟨_, rfl, hown, hB⟩
  · have hp : T.path xs i = [] := by rw [T.path, if_neg hi]
    rw [hp]
    go_enter Tryd.func19, Tryd.ntmps19
    go_wp2
    first
      | (go_ret; exact ⟨_, rfl, Own.nil, Below.refl _ _⟩)
      | (refine wp_loop_rounds 1 ?_
         rw [rounds_succ]
         by_cases h0 : 0 ≤ i
         all_goals go_wp2
         all_goals go_ret
         all_goals exact ⟨_, rfl, Own.nil, Below.refl _ _⟩)
end Go.Proofs.YtcncmbcnekekdaaDoor
