/- Layer 36, the walker's span; the document's. -/
import Derived.Test.YtcmngomncdeffaaSpan
import Derived.Test.YtcmngomncdeffaaMany
namespace Go.Proofs.Ytcmngomncdeffaa
open Go.RowKit
set_option linter.unusedVariables false
set_option linter.unusedSimpArgs false
attribute [local go_sem] Item.sz Item.at13 Item.at14 Item.at15

theorem WOut.below {F g : Nat} {lv bv : Value} {w w1 : World} {out : List Seg} (h : WOut F g lv bv w out) (hb : Below w.heap.size w w1) (hg : g < F) (hF : F ≤ w.heap.size) : WOut F g lv bv w1 out := by
  obtain ⟨ov, h1, h2⟩ := h
  exact ⟨ov, (hb.block g (by omega)).trans h1, h2.below hb⟩
theorem T.seg_rev (i : Nat) (f t : Int) : (T.seg i f t).reverse = T.seg i f t := by unfold T.seg; split <;> rfl
theorem T.seg_len (i : Nat) (f t : Int) : (T.seg i f t).length ≤ 1 := by unfold T.seg; split <;> simp
/-- What the walker's span does. -/
def T.WSp (F g : Nat) (lv bv : Value) (xs : List Item) (i : Nat) (f t : Int) : Prop :=
  f ≤ t → ∀ (out : List Seg) (w : World), out.length + (T.span xs i f t).length ≤ 100000 → WInv F g lv bv xs w → WOut F g lv bv w out →
    Calls Try.prog 46 #[.pointer (some ⟨g, 0, none⟩), .int .i64 (i : Int), .int .i64 f, .int .i64 t] w fun e w' => (∃ v, e = .returned v) ∧ WOut F g lv bv w' (out ++ (T.span xs i f t).reverse) ∧ Kept F g w w'
set_option maxRecDepth 100000 in
set_option maxHeartbeats 2000000 in
theorem wspan_step (F g : Nat) (lv bv : Value) (xs : List Item) (i : Nat) (hi : i < xs.length) (f t : Int) (IH : ∀ k f' t', i < k → k < xs.length → T.WSp F g lv bv xs k f' t') : T.WSp F g lv bv xs i f t := by
  intro hft out w hlen hI hO
  obtain ⟨A, cap, rfl, hcap, hl1, hl2⟩ := hI.2.2.1.view
  obtain ⟨b, off, rfl, hb, hrow, hall⟩ := hI.2.2.1.at hi
  have hgF := hI.1
  have hFs := hI.2.1
  clear hrow
  go_enter Try.func46, Try.ntmps46
  go_wp2
  go_loopw [3] (fun tv wr => ∃ t' out', tv = .int .i64 t' ∧ f ≤ t' ∧ t' ≤ t ∧ Hid (out ++ (T.span xs i f t).reverse = out' ++ (T.span xs i f t').reverse) ∧ WOut F g (.slice (some ⟨b, off, none⟩) xs.length cap) bv wr out' ∧ Kept F g w wr) (fun tv _ => (intOf tv - f).toNat)
  case atStart => exact ⟨t, out, rfl, hft, by omega, Lib.hid rfl, hO, Kept.refl _ _ _⟩
  case round =>
    obtain ⟨t', out', rfl, ht1, ht2, heq, hO', hK⟩ := hrel
    have hI' := hI.kept hK
    have hO2 := hO'
    obtain ⟨ov, hg, hown⟩ := hO2
    have hlc := last_c F g _ bv ov xs i hi f t' wr hg hI'
    have hF' := hI'.2.1
    have hl2 : out'.length + (T.span xs i f t').length ≤ 100000 := by
      have := congrArg List.length heq.out
      simp only [List.length_append, List.length_reverse] at this
      omega
    clear hown hg hI hO
    cases hk : T.lastO xs i f t' with
    | none =>
      rw [T.lastO_none hk] at hlc
      rw [T.span_none hk] at heq
      clear hk IH
      go_wp2_with (first | (go_at_call 60; (with_reducible refine hlc.mono ?_); rintro e w1 ⟨rfl, hb1⟩; have hO1 := hO'.below hb1 hgF hF'; have hF1 := Nat.le_trans hF' hb1.size) | (go_at_call 61; (with_reducible refine (wown_c F g _ bv xs i f t' out' (by omega) _ hgF hF1 hO1).mono ?_); rintro e w2 ⟨⟨v, rfl⟩, hO2, hK2⟩))
      refine bodyPost_ret (results_none rfl _ _ _) rfl ?_
      refine ⟨⟨_, rfl⟩, ?_, hK.trans ((Kept.of_below hb1 hF').trans hK2)⟩
      rw [heq.out, T.seg_rev]
      exact hO2
    | some p =>
      obtain ⟨k, x⟩ := p
      obtain ⟨k1, k2, k3, k4, k5, k6, k7, k8⟩ := T.lastO_some hk
      have hs := T.span_some hk
      rw [k1] at hlc
      rw [hs] at heq hl2
      simp only [List.length_append] at hl2
      have hroww := hall k x k2
      have hk1 := IH k (max x.from_ f) x.to_ k3 k4 (by omega)
      have hrowx := (rowAt_block ((hK.below (Nat.le_refl _) (by omega)).block b hb)).trans (hall k x k2)
      have d14 := rowAt_cell hrowx 14 (by omega)
      rw [Item.at14] at d14
      obtain ⟨m, hm⟩ : ∃ m, m = max x.from_ f := ⟨_, rfl⟩
      have hm1 : f ≤ m := by omega
      have hm2 : m < x.to_ := by omega
      rw [← hm] at heq hl2 hk1
      have HM := Lib.hid hm
      have HX := Lib.hid k2
      clear hk k1 k2 k5 k6 hs hroww IH k8 hm
      go_wp2_with (go_at_call 60; (with_reducible refine hlc.mono ?_); rintro e w1 ⟨rfl, hb1⟩; have hO1 := hO'.below hb1 hgF hF'; have hF1 := Nat.le_trans hF' hb1.size)
      have hI1 := hI'.kept (Kept.of_below (g := g) hb1 hF')
      have hO1' := hO1
      obtain ⟨ov1, hg1, _⟩ := hO1'
      have HGB := fun y : BW w1 => (y.2.block g (by omega)).trans hg1
      have HLB := fun y : BW w1 => hI1.2.2.1.below (y.2.mono (show g ≤ w1.heap.size by omega))
      have e0 := (bw_then (Below.refl _ w1) (wcells hg1).1)
      have e1 := bw_then hb1 d14
      have HB : ∀ y : BW w1, Calls Try.prog 62 #[.pointer (some ⟨g, 0, none⟩), .int .i64 (k : Int), .int .i64 f] y.1 fun e w' => e = .returned (.int .i64 m) ∧ y.1 = w' := fun y => by
        have := begin_c g _ bv ov1 xs k x HX.out f g y.1 (HGB y) (HLB y)
        rwa [← HM.out] at this
      clear hg1 hlc HGB HLB hI' d14
      refine wp_region_calm (by kernel_rfl) (by kernel_rfl) ?_
      repeat ((fail_if_success (with_reducible refine wpQuiet_nil ?_)); (first | go_big_quiet_skip | go_big_quiet_step ((go_at_call 62; exact calm_same (HB _)))))
      refine wpQuiet_nil ?_
      rintro _ ⟨⟨w2, hb2⟩, rfl⟩
      have hO2 := hO1.below hb2 hgF hF1
      have hF2 := Nat.le_trans hF1 hb2.size
      have hI2 := hI1.kept (Kept.of_below (g := g) hb2 hF1)
      clear HB e0 e1
      go_wp2_with (first | (go_at_call 61; (with_reducible refine (wown_c F g _ bv xs i x.to_ t' out' (by omega) _ hgF hF2 hO2).mono ?_); rintro e w3 ⟨⟨v, rfl⟩, hO3, hK3⟩; have hI3 := hI2.kept hK3) | (go_at_call 46; (with_reducible refine (hk1 _ _ (by rw [← T.seg] at *; simp only [List.length_append]; omega) hI3 hO3).mono ?_); rintro e w4 ⟨⟨v', rfl⟩, hO4, hK4⟩))
      go_roundw
      case rel =>
        refine ⟨m, _, rfl, by omega, by omega, Lib.hid ?_, hO4, hK.trans ((Kept.of_below hb1 hF').trans ((Kept.of_below hb2 hF1).trans (hK3.trans hK4)))⟩
        rw [heq.out]
        show _ = out' ++ T.seg i x.to_ t' ++ _ ++ _
        simp [T.seg_rev]
      case measure => simp [intOf]; omega
theorem wspan_c (F g : Nat) (lv bv : Value) (xs : List Item) : ∀ (n i : Nat) (f t : Int), xs.length - i ≤ n → i < xs.length → T.WSp F g lv bv xs i f t
  | 0, i, f, t, h, hi => by omega
  | n + 1, i, f, t, h, hi => wspan_step F g lv bv xs i hi f t fun k f' t' hik hk => wspan_c F g lv bv xs n k f' t' (by omega) hk
end Go.Proofs.Ytcmngomncdeffaa
