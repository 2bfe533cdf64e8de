/- Forest: the reference's order: below a place; two lists of places compared. -/
import Derived.Test.YtcncmbcnekekdaaDoorOrderW
import Derived.Test.YtcncmbcnekekdaaDoorMany
namespace Go.Proofs.YtcncmbcnekekdaaDoor
open Go.RowKit Go.Shelf
set_option linter.unusedVariables false
set_option linter.unusedSimpArgs false
/-! Below a place. -/
theorem T.under_len (xs : List Item) (f : Nat) (a : Int) (h0 : -1 ≤ a) (hf : (xs.length : Int) - a ≤ f) : (T.under xs f a).length ≤ xs.length := by
  have hp : (T.under xs f a).Perm ((List.range xs.length).filter (fun x => decide (x ∈ T.under xs f a))) :=
    (List.perm_ext_iff_of_nodup (T.under_nodup xs f a h0 hf) (List.nodup_range.sublist List.filter_sublist)).2 fun x => by
      simp only [List.mem_filter, List.mem_range, decide_eq_true_eq]
      exact ⟨fun h => ⟨((T.under_mem xs f a x h0 hf).1 h).1, h⟩, fun h => h.2⟩
  rw [hp.length_eq]
  have := List.length_filter_le (fun x => decide (x ∈ T.under xs f a)) (List.range xs.length)
  simpa using this
/-- Those below a that stand ahead of place k, and those below these. -/
def T.und (xs : List Item) (f : Nat) (a : Int) (k : Nat) : List Nat := (T.kd_ xs a k).flatMap fun j => j :: T.under xs f j
theorem T.und_all (xs : List Item) (f : Nat) (a : Int) : T.und xs f a xs.length = T.under xs (f + 1) a := rfl
theorem T.und_low (xs : List Item) (f : Nat) (a : Int) (k : Nat) (h : (k : Int) ≤ a + 1) : T.und xs f a k = [] := by
  have : T.kd_ xs a k = [] := by
    refine List.eq_nil_iff_forall_not_mem.2 fun j hj => ?_
    have h1 := T.kd_gt xs a k j hj
    have h2 := ((T.kd_mem xs a k j).1 hj).1
    omega
  rw [T.und, this]; rfl
theorem T.und_in (xs : List Item) (f : Nat) (a : Int) (k : Nat) (h : T.upI xs k = a) : T.und xs f a (k + 1) = (T.und xs f a k ++ [k]) ++ T.under xs f k := by
  unfold T.und
  rw [T.kd_succ, if_pos h, List.flatMap_append]
  simp
theorem T.und_out (xs : List Item) (f : Nat) (a : Int) (k : Nat) (h : ¬ T.upI xs k = a) : T.und xs f a (k + 1) = T.und xs f a k := by
  unfold T.und
  rw [T.kd_succ, if_neg h]
theorem T.und_len (xs : List Item) (f : Nat) (a : Int) (k : Nat) (hk : k ≤ xs.length) (h0 : -1 ≤ a) (hf : (xs.length : Int) - a ≤ (f + 1 : Nat)) : (T.und xs f a k).length ≤ xs.length := by
  have h1 := T.under_len xs (f + 1) a h0 hf
  rw [← T.und_all] at h1
  obtain ⟨m, hm⟩ : ∃ m, xs.length = k + m := ⟨xs.length - k, by omega⟩
  have key : ∀ m, (T.und xs f a k).length ≤ (T.und xs f a (k + m)).length := by
    intro m
    induction m with
    | zero => exact Nat.le_refl _
    | succ m ih =>
      refine Nat.le_trans ih ?_
      rw [← Nat.add_assoc]
      by_cases h : T.upI xs (k + m) = a
      · rw [T.und_in xs f a _ h]; simp only [List.length_append]; omega
      · rw [T.und_out xs f a _ h]; exact Nat.le_refl _
  have := key m
  rw [← hm] at this
  omega
theorem intArr_sz (x : Int) : (intArr x).size = 1 := rfl
theorem T.ints_snoc (l : List Nat) (k : Nat) : T.ints (l ++ [k]) = T.ints l ++ [(k : Int)] := by simp [T.ints]
theorem T.ints_append (l m : List Nat) : T.ints (l ++ m) = T.ints l ++ T.ints m := by simp [T.ints]
theorem T.ints_len (l : List Nat) : (T.ints l).length = l.length := by simp [T.ints]
theorem T.above_up (xs : List Item) (k : Nat) (h : k < xs.length) : T.above xs (k : Int) = T.upI xs k := by rw [T.above, if_pos (by omega)]; simp
set_option maxRecDepth 100000 in
set_option maxHeartbeats 4000000 in
theorem under_c (xs : List Item) (hn : xs.length ≤ 100000) : ∀ (f : Nat) (a : Int), -1 ≤ a → a < xs.length → (xs.length : Int) - a ≤ f → ∀ (v : Value) (w : World), Sl Item.arr 17 w.heap.size w v xs →
    Calls Tryd.prog 62 #[v, .int .i64 a] w fun r w' => ∃ u, r = .returned u ∧ Own intArr 1 w.heap.size 3 w' u (T.ints (T.under xs f a)) ∧ Below w.heap.size w w' := by
  intro f
  induction f with
  | zero => intro a h0 h1 h2; omega
  | succ f ih =>
    intro a h0 h1 h2 v w h
    have HIH := Lib.hid ih
    clear ih
    obtain ⟨A, cap, rfl, hcap, hl1, hl2⟩ := h.view
    obtain ⟨m, hm⟩ : ∃ m : Nat, a + 1 = (m : Int) := ⟨(a + 1).toNat, by omega⟩
    go_enter Tryd.func62, Tryd.ntmps62
    go_wp2
    go_loopw [5, 6] (fun u i wr => ∃ k : Nat, k ≤ xs.length ∧ m ≤ k ∧ i = .int .i64 (k : Int) ∧ Own intArr 1 w.heap.size 3 wr u (T.ints (T.und xs f a k)) ∧ Below w.heap.size w wr) (fun _ i _ => xs.length - (intOf i).toNat)
    case atStart => exact ⟨m, by omega, Nat.le_refl _, by go_num, by rw [T.und_low xs f a m (by omega)]; exact Own.nil, Below.refl _ _⟩
    case round =>
      obtain ⟨k, hk, hmk, rfl, hown, hB⟩ := hrel
      by_cases hkl : k < xs.length
      · have hS := (h.below hB).mono hB.size
        have hsz := hB.size
        have hab := rabove_c _ xs (k : Int) wr hS
        rw [T.above_up xs k hkl] at hab
        have hlen := T.und_len xs f a k hk h0 h2
        by_cases hu : T.upI xs k = a
        · rw [hu] at hab
          have HN := Lib.hid (T.und_in xs f a k hu)
          have hlenf := T.under_len xs f (k : Int) (by omega) (by omega)
          obtain ⟨L, hL⟩ : ∃ L, L = T.und xs f a k := ⟨_, rfl⟩
          rw [← hL] at hown hlen HN
          clear hL hu
          have HLL := Lib.hid (T.ints_len L)
          go_wp2_with (first | (go_at_call 16; (with_reducible refine hab.mono ?_); rintro e w1 ⟨rfl, hb1⟩; have hown1 := hown.below hb1; have hB1 := bthen hB hb1; have hz1 := hB1.size; have p1 : rowAt (w1.alloc (.cells #[.int .i64 (k : Int)] 3)) w1.heap.size 0 1 = some (intArr (k : Int)) := rowAt_new _ _ _ _ _ rfl; clear hab hown hb1) | (at_builtin; have _t := hown1; refine wpList_append1 intArr 1 rfl _ _ _ rfl w.heap.size 3 8 Tryd.underlying29 (by kernel_rfl) (by decide) _ (T.ints L) (k : Int) rfl (hown1.alloc _) w1.heap.size rfl p1 (intArr_one _) (by rw [HLL.out]; omega) (by rw [HLL.out]; omega) (by simp <;> omega) ?_; clear _t hown1; intro v2 w2 hown2 hgr2 hbel2; clear hgr2; rw [← T.ints_snoc] at hown2; have hB2 := (hB1.alloc hz1 (Obj.cells #[.int .i64 (k : Int)] 3)).trans hbel2; have hz2 := hB2.size; have hS2 := (h.below hB2).mono hz2; obtain ⟨A2, n2, c2, rfl⟩ := hown2.shape; have hcall := HIH.out (k : Int) (by omega) (by omega) (by omega) _ w2 hS2; clear p1 hbel2 hS hB1 hB) | (go_at_call 62; (with_reducible refine hcall.mono ?_); rintro e w3 ⟨u3, rfl, hown3, hb3⟩; have hsrc := hown3.src intArr_sz; have hown23 := hown2.below hb3; have hB3 := bthen hB2 hb3; have hz3 := hB3.size; have HLM := Lib.hid (T.ints_len (L ++ [k])); have HLU := Lib.hid (T.ints_len (T.under xs f (k : Int)))) | (at_builtin; refine wpList_appendN intArr 1 rfl _ _ _ rfl w.heap.size 3 8 Tryd.underlying29 (by kernel_rfl) (by decide) intArr_sz intArr_one _ _ (T.ints (L ++ [k])) (T.ints (T.under xs f (k : Int))) rfl hown23 rfl hsrc (by rw [HLM.out, HLU.out, List.length_append]; simp; omega) (by rw [HLM.out, HLU.out, List.length_append]; simp; omega) hz3 ?_; intro v4 w4 hown4 hgr4 hbel4; clear hgr4))
          rw [← T.ints_append] at hown4
          have hB4 := hB3.trans hbel4
          clear hown2 hown3 hown23 hsrc hbel4 hcall
          go_roundw
          case rel => exact ⟨k + 1, by omega, by omega, by go_num, by rw [HN.out]; exact hown4, hB4⟩
          case measure => simp [intOf]; omega
        · have HN := Lib.hid (T.und_out xs f a k hu)
          obtain ⟨q, hq⟩ : ∃ q, q = T.upI xs k := ⟨_, rfl⟩
          rw [← hq] at hab hu
          clear hq
          go_wp2_with (go_at_call 16; (with_reducible refine hab.mono ?_); rintro e w1 ⟨rfl, hb1⟩)
          go_roundw
          case rel => exact ⟨k + 1, by omega, by omega, by go_num, by rw [HN.out]; exact hown.below hb1, bthen hB hb1⟩
          case measure => simp [intOf]; omega
      · obtain rfl : k = xs.length := by omega
        rw [T.und_all] at hown
        go_wp2
        go_ret
        exact ⟨_, rfl, hown, hB⟩
set_option maxRecDepth 100000 in
set_option maxHeartbeats 1000000 in
theorem rorder_c (v : Value) (xs : List Item) (w : World) (h : Sl Item.arr 17 w.heap.size w v xs) (hn : xs.length ≤ 100000) :
    Calls Tryd.prog 21 #[v] w fun e w' => ∃ u, e = .returned u ∧ Own intArr 1 w.heap.size 3 w' u (T.ints (T.order xs)) ∧ Below w.heap.size w w' := by
  obtain ⟨A, cap, rfl, hcap, hl1, hl2⟩ := h.view
  have hu := under_c xs hn (xs.length + 1) (-1) (by omega) (by omega) (by omega) _ w h
  go_enter Tryd.func21, Tryd.ntmps21
  go_wp2_with (go_at_call 62; (with_reducible refine hu.mono ?_); rintro e w1 ⟨u, rfl, hown, hb1⟩)
  go_ret
  exact ⟨_, rfl, hown, hb1⟩
section
attribute [local go_sem] bw_cell
set_option maxRecDepth 100000 in
set_option maxHeartbeats 4000000 in
theorem ints_c (v v2 : Value) (xs : List Int) (w : World) (h : Sl intArr 1 w.heap.size w v xs) (h2 : Sl intArr 1 w.heap.size w v2 xs) :
    Calls Tryd.prog 17 #[v, v2] w fun r w' => r = .returned (.bool true) ∧ Below w.heap.size w w' := by
  obtain ⟨A, cap, rfl, hcap, hl1, hl2⟩ := h.view
  obtain ⟨A2, cap2, rfl, hcap2, hl3, hl4⟩ := h2.view
  go_enter Tryd.func17, Tryd.ntmps17
  go_wp2
  go_loopw [5] (fun i wr => ∃ k : Nat, k ≤ xs.length ∧ i = .int .i64 (k : Int) ∧ Below w.heap.size w wr) (fun i _ => xs.length - (intOf i).toNat)
  case atStart => exact ⟨0, Nat.zero_le _, rfl, Below.refl _ _⟩
  case round =>
    obtain ⟨k, hk, rfl, hB⟩ := hrel
    by_cases hkl : k < xs.length
    · obtain ⟨b, off, rfl, hb, hrow, _⟩ := ((h.below hB).mono hB.size).at hkl
      obtain ⟨b2, off2, rfl, hb2, hrow2, _⟩ := ((h2.below hB).mono hB.size).at hkl
      obtain ⟨f, hf⟩ : ∃ f, f = xs[k] := ⟨_, rfl⟩
      rw [← hf] at hrow hrow2
      have c0 : wr.cell? ⟨b, off + k, none⟩ = some (.int .i64 f) := by have := rowAt_cell hrow 0 (by omega); simpa [intArr] using this
      have d0 : wr.cell? ⟨b2, off2 + k, none⟩ = some (.int .i64 f) := by have := rowAt_cell hrow2 0 (by omega); simpa [intArr] using this
      clear hf hrow hrow2
      go_wp2
      refine wp_region_calm (by kernel_rfl) (by kernel_rfl) ?_
      repeat ((fail_if_success (with_reducible refine wpQuiet_nil ?_)); (first | go_big_quiet_skip | go_big_quiet_step (fail)))
      refine wpQuiet_nil ?_
      rintro _ ⟨⟨X2, hb3⟩, rfl⟩
      go_wp2
      go_roundw
      case rel => exact ⟨k + 1, by omega, by go_num, bthen hB hb3⟩
      case measure => simp [intOf]; omega
    · go_wp2
      go_ret
      exact ⟨rfl, hB⟩
end
end Go.Proofs.YtcncmbcnekekdaaDoor
