/- Layer 36, the document's span. -/
import Derived.Test.YtcmngomncdeffaaSpanW
namespace Go.Proofs.Ytcmngomncdeffaa
open Go.RowKit
set_option linter.unusedVariables false
set_option linter.unusedSimpArgs false
attribute [local go_sem] Item.sz Item.at13 Item.at14 Item.at15

theorem T.span_short (xs : List Item) (i : Nat) (f t : Int) (h : f ≤ t) (hn : xs.length ≤ 100000) : (T.span xs i f t).length ≤ 200001 := by have := T.span_len xs i f t h; omega
/-- What the document's span does. -/
def T.RSp (v : Value) (xs : List Item) (i : Nat) (f t : Int) : Prop :=
  f ≤ t → ∀ (w : World), Sl Item.arr 17 w.heap.size w v xs →
    Calls Try.prog 49 #[v, .int .i64 (i : Int), .int .i64 f, .int .i64 t] w fun e w' => ∃ z, e = .returned z ∧ Own Seg.arr 3 w.heap.size 47 w' z (T.span xs i f t) ∧ Below w.heap.size w w'
set_option maxRecDepth 100000 in
set_option maxHeartbeats 2000000 in
theorem rspan_step (v : Value) (xs : List Item) (hn : xs.length ≤ 100000) (i : Nat) (hi : i < xs.length) (f t : Int) (IH : ∀ k f' t', k < xs.length → (i < k ∨ (i = k ∧ (t' - f').toNat < (t - f).toNat)) → T.RSp v xs k f' t') : T.RSp v xs i f t := by
  intro hft w hS
  obtain ⟨A, cap, rfl, hcap, hl1, hl2⟩ := hS.view
  obtain ⟨b, off, rfl, hb, hrow, hall⟩ := hS.at hi
  have hlc := rlast_c _ xs i hi f t w hS
  clear hrow
  cases hk : T.lastO xs i f t with
  | none =>
    rw [T.lastO_none hk] at hlc
    rw [T.span_none hk]
    clear hk IH
    by_cases hlt : f < t
    · rw [T.seg, if_pos hlt]
      go_enter Try.func49, Try.ntmps49
      go_wp2_with (first | (go_at_call 63; (with_reducible refine hlc.mono ?_); rintro e w1 ⟨rfl, hb1⟩; have hz := hb1.size; have p4 : rowAt (w1.alloc (.cells (Seg.arr ⟨i, f, t⟩) 47)) w1.heap.size 0 3 = some (Seg.arr ⟨i, f, t⟩) := rowAt_new _ _ _ _ _ rfl) | (refine wpList_build_at rfl _ _ rfl _ ?_ _ (builtSeg' ⟨i, f, t⟩) ?_; rfl) | (refine wpList_slice1 rfl _ 47 _ rfl (Seg.arr ⟨i,f,t⟩) 3 24 Try.underlying43 (by kernel_rfl) (by decide) rfl rfl (w1.heap.size) (by simp) ?_) | (at_builtin; refine wpList_append1 Seg.arr 3 rfl _ _ _ rfl w.heap.size 47 24 Try.underlying43 (by kernel_rfl) (by decide) _ ([] : List Seg) ⟨i,f,t⟩ rfl (Own.nil) (w1.heap.size) rfl p4 (Seg.one ⟨i,f,t⟩) (by simp) (by simp) (by simp <;> omega) ?_; intro v' w' hown' hgr' hbel'))
      go_ret
      exact ⟨_, rfl, hown', (hb1.alloc hz _).trans hbel'⟩
    · rw [T.seg, if_neg hlt]
      go_enter Try.func49, Try.ntmps49
      go_wp2_with (go_at_call 63; (with_reducible refine hlc.mono ?_); rintro e w1 ⟨rfl, hb1⟩)
      go_ret
      exact ⟨_, rfl, Own.nil, hb1⟩
  | some p =>
    obtain ⟨k, x⟩ := p
    obtain ⟨k1, k2, k3, k4, k5, k6, k7, k8⟩ := T.lastO_some hk
    have hs := T.span_some hk
    rw [k1] at hlc
    rw [hs]
    have hk1 := IH k (max x.from_ f) x.to_ k4 (.inl k3) (by omega)
    have hk0 := IH i f (max x.from_ f) hi (.inr ⟨rfl, by omega⟩) (by omega)
    have hrowx := hall k x k2
    have d13 := rowAt_cell hrowx 13 (by omega)
    rw [Item.at13] at d13
    have d14 := rowAt_cell hrowx 14 (by omega)
    rw [Item.at14] at d14
    obtain ⟨m, hm⟩ : ∃ m, m = max x.from_ f := ⟨_, rfl⟩
    have hm1 : f ≤ m := by omega
    have hm2 : m < x.to_ := by omega
    have l1 := T.span_short xs i f m hm1 hn
    have l2 := T.span_short xs k m x.to_ (by omega) hn
    rw [← hm] at hk1 hk0 ⊢
    have HL : ∀ W : World, Calls Try.prog 64 #[.int .i64 x.from_, .int .i64 f] W fun e w' => e = .returned (.int .i64 m) ∧ W = w' := fun W => by rw [hm]; exact rlater_c _ _ W
    have hki : (k : Int) ≠ -1 := by omega
    clear hk k1 k2 k5 k6 hs IH k8 hm hall hrowx
    obtain ⟨s1, hs1⟩ : ∃ s, s = T.span xs i f m := ⟨_, rfl⟩
    obtain ⟨s2, hs2⟩ : ∃ s, s = T.span xs k m x.to_ := ⟨_, rfl⟩
    rw [← hs1] at l1 ⊢
    rw [← hs2] at l2 ⊢
    have HS1 := Lib.hid hs1
    have HS2 := Lib.hid hs2
    clear hs1 hs2
    have l12 : (s1 ++ s2).length ≤ 400002 := by simp only [List.length_append]; omega
    have HLEN := Lib.hid l12
    by_cases hlt : x.to_ < t
    all_goals
      first | rw [T.seg, if_pos hlt] | rw [T.seg, if_neg hlt]
      clear l12
      go_enter Try.func49, Try.ntmps49
      go_wp2_with (first | (go_at_call 63; (with_reducible refine hlc.mono ?_); rintro e w1 ⟨rfl, hb1⟩; have hz := hb1.size; have hS1 := (hS.below hb1).mono hb1.size; obtain ⟨hc1, _⟩ := bcell hb1) | (go_at_call 64; (with_reducible refine (HL _).mono ?_); rintro e w' ⟨rfl, rfl⟩) | (go_at_call 49; (with_reducible refine (hk0 _ hS1).mono ?_); rintro e w2 ⟨z1, rfl, hown1, hb2⟩; have hB2 := bthen hb1 hb2; rw [← HS1.out] at hown1; have hsz2 := hB2.size; have hsrc1 := hown1.src Seg.sz) | (at_builtin; (refine wpList_appendN Seg.arr 3 rfl _ _ _ rfl w.heap.size 47 24 Try.underlying43 (by kernel_rfl) (by decide) Seg.sz Seg.one _ _ [] s1 rfl Own.nil rfl hsrc1 (by simp <;> omega) (by simp <;> omega) hsz2 ?_); intro v3 w3 hown3 hgr3 hb3; have hB3 := hB2.trans hb3; have hS3 := (hS.below hB3).mono hB3.size; obtain ⟨hc3, _⟩ := bcell hB3))
      clear hgr3 hown1 hsrc1
      rw [List.nil_append] at hown3
      refine (hk1 _ hS3).mono ?_
      rintro e w4 ⟨z2, rfl, hown2, hb4⟩
      rw [← HS2.out] at hown2
      have hsrc2 := hown2.src Seg.sz
      have hown4 := hown3.below hb4
      have hB4 := hB3.trans (hb4.mono hB3.size)
      have hsz4 := hB4.size
      obtain ⟨hc4, _⟩ := bcell hB4
      clear hk0 hk1 hlc hown3 hown2
      go_wp2_with (first | (at_builtin; refine wpList_appendN Seg.arr 3 rfl _ _ _ rfl w.heap.size 47 24 Try.underlying43 (by kernel_rfl) (by decide) Seg.sz Seg.one _ _ s1 s2 rfl hown4 rfl hsrc2 (by omega) (by omega) hsz4 ?_; intro v5 w5 hown5 hgr5 hb5; clear hown4; have hB5 := hB4.trans hb5; have hsz5 := hB5.size; obtain ⟨hc5, _⟩ := bcell hB5; have p4 : rowAt (w5.alloc (.cells (Seg.arr ⟨i, x.to_, t⟩) 47)) w5.heap.size 0 3 = some (Seg.arr ⟨i, x.to_, t⟩) := rowAt_new _ _ _ _ _ rfl) | (refine wpList_build_at rfl _ _ rfl _ ?_ _ (builtSeg' ⟨i, x.to_, t⟩) ?_; rfl) | (refine wpList_slice1 rfl _ 47 _ rfl (Seg.arr ⟨i,x.to_,t⟩) 3 24 Try.underlying43 (by kernel_rfl) (by decide) rfl rfl (w5.heap.size) (by simp) ?_) | (at_builtin; refine wpList_append1 Seg.arr 3 rfl _ _ _ rfl w.heap.size 47 24 Try.underlying43 (by kernel_rfl) (by decide) _ (s1 ++ s2) ⟨i,x.to_,t⟩ rfl (hown5.alloc _) (w5.heap.size) rfl p4 (Seg.one ⟨i,x.to_,t⟩) (by have := HLEN.out; omega) (by have := HLEN.out; omega) (by simp <;> omega) ?_; intro v' w' hown' hgr' hbel'))
      go_ret
      first
        | exact ⟨_, rfl, by rw [← List.append_assoc]; exact hown', (hB5.alloc hsz5 _).trans hbel'⟩
        | exact ⟨_, rfl, by rw [List.append_nil]; exact hown5, hB5⟩
theorem rspan_c (v : Value) (xs : List Item) (hn : xs.length ≤ 100000) (i : Nat) (hi : i < xs.length) (f t : Int) : T.RSp v xs i f t :=
  rspan_step v xs hn i hi f t fun k f' t' hk hor => rspan_c v xs hn k hk f' t'
termination_by (xs.length - i, (t - f).toNat)
decreasing_by
  rcases hor with h | ⟨rfl, h⟩
  · exact Prod.Lex.left _ _ (by omega)
  · exact Prod.Lex.right _ h
end Go.Proofs.Ytcmngomncdeffaa
