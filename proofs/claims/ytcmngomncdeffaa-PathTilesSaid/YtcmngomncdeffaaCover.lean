/- Layer 36, the segments of a place: the program's, the document's. -/
import Derived.Test.YtcmngomncdeffaaSpanR
import Derived.Test.YtcmngomncdeffaaRev
import Derived.Test.YtcmngomncdeffaaHead
namespace Go.Proofs.Ytcmngomncdeffaa
open Go.RowKit
set_option linter.unusedVariables false
set_option linter.unusedSimpArgs false
attribute [local go_sem] Item.sz Item.at13 Item.at14 Item.at15

def T.cover (xs : List Item) (i : Int) : List Seg :=
  if 0 ≤ i ∧ i < xs.length then (match xs[i.toNat]? with | some x => if T.counts x = true then T.span xs i.toNat x.from_ x.to_ else [] | none => []) else []
theorem T.cover_in (xs : List Item) (i : Nat) (x : Item) (hx : xs[i]? = some x) (h : T.counts x = true) : T.cover xs (i : Int) = T.span xs i x.from_ x.to_ := by
  have := (List.getElem?_eq_some_iff.1 hx).1
  rw [T.cover, if_pos (by omega)]; simp [hx, h]
theorem T.cover_no (xs : List Item) (i : Nat) (x : Item) (hx : xs[i]? = some x) (h : T.counts x = false) : T.cover xs (i : Int) = [] := by
  have := (List.getElem?_eq_some_iff.1 hx).1
  rw [T.cover, if_pos (by omega)]; simp [hx, h]
theorem T.cover_out (xs : List Item) (i : Int) (h : i < 0 ∨ (xs.length : Int) ≤ i) : T.cover xs i = [] := by rw [T.cover, if_neg (by omega)]
theorem T.counts_lt {x : Item} (h : T.counts x = true) : x.from_ < x.to_ := by simp [T.counts] at h; exact h.2

theorem own_gate {α : Type} {arr : α → Array Value} {sz F : Nat} {e : TypeId} {w : World} {v : Value} {xs : List α} (h : Own arr sz F e w v xs) (hF : F ≤ w.heap.size) : ∃ g6, F ≤ g6 ∧ g6 ≤ w.heap.size ∧ ∀ k, v.ownBlock = some k → k = g6 := by
  cases hq : v.ownBlock with
  | none => exact ⟨F, Nat.le_refl _, hF, fun k hk => by cases hk⟩
  | some k => exact ⟨k, (h.lt k hq).1, Nat.le_of_lt (h.lt k hq).2, fun k' hk' => by cases hk'; rfl⟩
/-- While the lists of those below are filled. -/
def CovInv (c g : Nat) (lv : Value) (xs : List Item) (k : Nat) (w : World) : Prop :=
  w.heap[g]? = some (.cells #[lv, .slice (some ⟨c, 0, none⟩) xs.length xs.length, .slice none 0 0] 91 (0, 0)) ∧
  ∃ vs : List Value, vs.length = xs.length ∧ Own valArr 1 c 35 w (.slice (some ⟨c, 0, none⟩) xs.length xs.length) vs ∧
    (∀ j u, vs[j]? = some u → Own intArr 1 (g + 1) 3 w u ((T.kidTo xs j k).map Int.ofNat)) ∧
    (∀ (j1 j2 : Nat) (u1 u2 : Value) (b : Nat), vs[j1]? = some u1 → vs[j2]? = some u2 → u1.ownBlock = some b → u2.ownBlock = some b → j1 = j2)
theorem CovInv.below {c g k : Nat} {lv : Value} {xs : List Item} {w w1 : World} (h : CovInv c g lv xs k w) (hb : Below w.heap.size w w1) (hg : g < w.heap.size) : CovInv c g lv xs k w1 := by
  obtain ⟨h1, vs, h2, h3, h4, h5⟩ := h
  exact ⟨(hb.block g hg).trans h1, vs, h2, h3.below hb, fun j u hu => (h4 j u hu).below hb, h5⟩
theorem CovInv.skip {c g k : Nat} {lv : Value} {xs : List Item} {w : World} (h : CovInv c g lv xs k w) (hk : T.upI xs k < 0) : CovInv c g lv xs (k + 1) w := by
  obtain ⟨h1, vs, h2, h3, h4, h5⟩ := h
  exact ⟨h1, vs, h2, h3, fun j u hu => by rw [T.kidTo_miss xs j k (by omega)]; exact h4 j u hu, h5⟩
theorem CovInv.step {c g k a : Nat} {lv u u' : Value} {xs : List Item} {w wC : World} {o : Obj} (hcg : c < g) (hgs : g < w.heap.size) {vs : List Value}
    (h1 : w.heap[g]? = some (.cells #[lv, .slice (some ⟨c, 0, none⟩) xs.length xs.length, .slice none 0 0] 91 (0, 0))) (h2 : vs.length = xs.length)
    (h3 : Own valArr 1 c 35 w (.slice (some ⟨c, 0, none⟩) xs.length xs.length) vs)
    (h4 : ∀ j u, vs[j]? = some u → Own intArr 1 (g + 1) 3 w u ((T.kidTo xs j k).map Int.ofNat))
    (h5 : ∀ (j1 j2 : Nat) (u1 u2 : Value) (b : Nat), vs[j1]? = some u1 → vs[j2]? = some u2 → u1.ownBlock = some b → u2.ownBlock = some b → j1 = j2)
    (hu : vs[a]? = some u) (hup : T.upI xs k = a)
    (hown : Own intArr 1 (g + 1) 3 wC u' ((T.kidTo xs a k).map Int.ofNat ++ [(k : Int)])) (hgr : (w.drew.alloc o).grownBy wC u.ownBlock) (hat : u'.ownBlock = u.ownBlock ∨ u'.ownBlock = some (w.drew.alloc o).heap.size) :
    CovInv c g lv xs (k + 1) (wC.setCell ⟨c, a, none⟩ u') := by
  have ha : a < vs.length := (List.getElem?_eq_some_iff.1 hu).1
  have hb := hown.lt
  have hub := (h4 a u hu).lt
  have hgw : (w.drew.alloc o).heap[g]? = w.heap[g]? := Below.heap_alloc w.drew o g hgs
  have hcs : c < w.heap.size := by omega
  refine ⟨?_, vs.set a u', by simpa using h2, ?_, ?_, ?_⟩
  · rw [heap_setCell_other _ _ _ _ (show g ≠ c by omega)]
    rw [hgr.block g (by simp; omega) (fun e => by have := hub g e.symm; omega), hgw]
    exact h1
  · have := ((h3.drew.alloc o).kept hgr (.inr (by intro e; have := hub c e.symm; omega)))
    exact Own.set1 (f := id) this a ha u'
  · intro j z hz
    rw [List.getElem?_set] at hz
    split at hz
    · rename_i e
      subst e
      cases hz
      rw [T.kidTo_hit xs a k hup, List.map_append]
      exact ownsRow_setCell_below hown (show c < g + 1 by omega) _
    · rename_i e
      rw [T.kidTo_miss xs j k (by rw [hup]; omega)]
      have h6 := h4 j z hz
      refine ownsRow_setCell_below (((h6.drew.alloc o).kept hgr ?_)) (show c < g + 1 by omega) _
      cases hzb : z.ownBlock with
      | none => exact .inl rfl
      | some b =>
        refine .inr fun e2 => e ?_
        rw [← hzb] at e2
        exact h5 a j u z b hu hz (by rw [← e2]; exact hzb) hzb
  · intro j1 j2 z1 z2 b e1 e2 e3 e4
    rw [List.getElem?_set] at e1 e2
    have key : ∀ j z, vs[j]? = some z → z.ownBlock = some b → u'.ownBlock = some b → a = j := fun j z hz hzb hub' => by
      rcases hat with hat | hat
      · exact h5 a j u z b hu hz (by rw [← hat]; exact hub') hzb
      · rw [hat] at hub'
        injection hub' with hub'
        have := (h4 j z hz).lt b hzb
        simp at hub'
        omega
    split at e1
    · rename_i q1
      cases e1
      split at e2
      · rename_i q2; omega
      · rw [← q1]; exact key j2 z2 e2 e4 e3
    · split at e2
      · rename_i q2
        cases e2
        rw [← q2]; exact (key j1 z1 e1 e3 e4).symm
      · exact h5 j1 j2 z1 z2 b e1 e2 e3 e4
theorem CovInv.done {c g : Nat} {lv : Value} {xs : List Item} {w : World} (h : CovInv c g lv xs xs.length w) (hcg : c < g) (hg : g < w.heap.size) (hS : Sl Item.arr 17 g w lv xs) :
    WInv w.heap.size g lv (.slice (some ⟨c, 0, none⟩) xs.length xs.length) xs w ∧ WOut w.heap.size g lv (.slice (some ⟨c, 0, none⟩) xs.length xs.length) w [] := by
  obtain ⟨h1, vs, h2, h3, h4, h5⟩ := h
  have hview := h3.2
  refine ⟨⟨hg, Nat.le_refl _, hS, vs, h2, ?_, fun i v hv => ?_⟩, ⟨_, h1, Own.nil⟩⟩
  · obtain ⟨A, cap, hv, k1, k2, k3⟩ := h3.sl (sz := 1) (fun _ => rfl)
    injection hv with e1 e2 e3
    subst e1; subst e3
    refine ⟨_, _, by rw [h2], by omega, k2, fun hn => ?_⟩
    obtain ⟨b, off, hA, _, hr⟩ := k3 hn
    injection hA with hA
    injection hA with e4 e5
    subst e4
    exact ⟨c, off, by rw [← e5], hcg, hr⟩
  · exact (h4 i v hv).slr (sz := 1) (fun _ => rfl)

set_option maxRecDepth 100000 in
set_option maxHeartbeats 4000000 in
theorem cover_yes (v : Value) (xs : List Item) (i : Nat) (x : Item) (hx : xs[i]? = some x) (hc : T.counts x = true) (w : World) (h : Sl Item.arr 17 w.heap.size w v xs) (hn : xs.length ≤ 40000) :
    Calls Try.prog 21 #[v, .int .i64 (i : Int)] w fun e w' => ∃ z, e = .returned z ∧ Own Seg.arr 3 w.heap.size 46 w' z (T.span xs i x.from_ x.to_) ∧ Below w.heap.size w w' := by
  obtain ⟨A, cap, rfl, hcap, hl1, hl2⟩ := h.view
  have hi := (List.getElem?_eq_some_iff.1 hx).1
  obtain ⟨b, off, rfl, hb, hrow0, hall⟩ := h.at hi
  have hrow := hall i x hx
  clear hrow0
  have hft := T.counts_lt hc
  have hsp : (T.span xs i x.from_ x.to_).length ≤ 80001 := by have := T.span_len xs i x.from_ x.to_ (by omega); omega
  have HC : ∀ W : World, Calls Try.prog 45 #[.agg (Item.arr x)] W fun e w' => e = .returned (.bool true) ∧ Below W.heap.size W w' := fun W => by have := counts36_c x W; rw [hc] at this; exact this
  have HX := Lib.hid hx
  have hHC := Lib.hid hc
  clear hx hc
  have g1 : decide ((i : Int) < 0) = false := by simp
  have g2 : decide (xs.length ≤ i) = false := by simp <;> omega
  go_enter Try.func21, Try.ntmps21
  go_wp2_with (first | (refine wpList_load_at_w rfl 31 _ rfl _ (off + i * 17) 17 rfl _ _ hrow rfl rfl rfl ?_) | (go_at_call 45; (with_reducible refine (HC _).mono ?_); rintro e w1 ⟨rfl, hb1⟩) | (refine wpList_makeN valArr 1 (.slice none 0 0) rfl _ _ _ rfl w1.heap.size 35 24 Try.underlying89 (by kernel_rfl) (by decide) (by kernel_rfl) xs.length rfl rfl (by omega) (by omega) (Nat.le_refl _) ?_; intro w2 hown2 hb2 hlt2))
  obtain ⟨c, hcd⟩ : ∃ c, c = w1.heap.size := ⟨_, rfl⟩
  obtain ⟨g, hgd⟩ : ∃ g, g = w2.heap.size := ⟨_, rfl⟩
  have hwc : w.heap.size ≤ c := by have := hb1.size; omega
  have hcg : c < g := by omega
  obtain ⟨w3, hw3⟩ : ∃ w3, w2.alloc (Obj.cells #[.slice (some ⟨b, off, none⟩) xs.length cap, .slice (some ⟨c, 0, none⟩) xs.length xs.length, .slice none 0 0] 91) = w3 := ⟨_, rfl⟩
  have hB3 : Below w.heap.size w w3 := by rw [← hw3]; exact (bthen hb1 hb2).alloc (by omega) _
  have hg3 : g < w3.heap.size := by rw [← hw3]; simp <;> omega
  have hI0 : CovInv c g (.slice (some ⟨b, off, none⟩) xs.length cap) xs 0 w3 := by
    refine ⟨by rw [← hw3, hgd]; exact heap_alloc_new _ _, List.replicate xs.length (.slice none 0 0), by simp, by rw [← hw3, hcd]; exact hown2.alloc _, fun j u hu => ?_, fun j1 j2 u1 u2 b h1 h2 h3 h4 => ?_⟩
    · rw [List.getElem?_replicate] at hu
      split at hu
      · cases hu; exact Own.nil
      · cases hu
    · rw [List.getElem?_replicate] at h1
      split at h1
      · cases h1; cases h3
      · cases h1
  rw [← hcd, ← hgd, hw3]
  have HC1 := Lib.hid hcd
  have HC2 := Lib.hid hgd
  clear hw3 hown2 hlt2 hcd hgd HC g1 g2 hb1 hb2
  go_loopw [32] (fun kv wr => ∃ k : Nat, k ≤ xs.length ∧ kv = .int .i64 (k : Int) ∧ CovInv c g (.slice (some ⟨b, off, none⟩) xs.length cap) xs k wr ∧ g < wr.heap.size ∧ Below w.heap.size w wr) (fun kv _ => xs.length - (intOf kv).toNat)
  case atStart => exact ⟨0, Nat.zero_le _, rfl, hI0, hg3, hB3⟩
  case round =>
    obtain ⟨k, hk, rfl, hI, hgr, hB⟩ := hrel
    have hsz := hB.size
    by_cases hkl : k < xs.length
    · have hAb := above_c _ xs k wr ((h.below hB).mono hsz)
      rw [T.above_up xs k hkl] at hAb
      by_cases hneg : T.upI xs k < 0
      · go_wp2_with (go_at_call 17; (with_reducible refine hAb.mono ?_); rintro e w4 ⟨rfl, hb4⟩)
        go_roundw
        case rel => exact ⟨k + 1, by omega, by go_num, (hI.below hb4 hgr).skip hneg, by have := hb4.size; omega, bthen hB hb4⟩
        case measure => simp [intOf]; omega
      · obtain ⟨a, ha⟩ : ∃ a : Nat, T.upI xs k = a := ⟨(T.upI xs k).toNat, by omega⟩
        have hak := (T.upI_lt xs k).2
        rw [ha] at hAb hak
        have hal : a < xs.length := by omega
        have HA := Lib.hid ha
        clear ha hneg
        go_wp2_with (go_at_call 17; (with_reducible refine hAb.mono ?_); rintro e w4 ⟨rfl, hb4⟩)
        have hI4 := hI.below hb4 hgr
        have hg4 := Nat.lt_of_lt_of_le hgr hb4.size
        have hB4 := bthen hB hb4
        obtain ⟨h1, vs, h2, h3, h4, h5⟩ := hI4
        obtain ⟨u, hu⟩ : ∃ u, vs[a]? = some u := ⟨_, List.getElem?_eq_getElem (by omega)⟩
        have hu4 := h4 a u hu
        have hut := hu4.lt
        have hcu := own_cell1 (f := id) h3 a u hu
        obtain ⟨hc1, hf1⟩ := hcu
        have hc2 := (wcells h1).2.1
        have hkk : (T.kidTo xs a k).length ≤ 40000 := by have := List.length_filter_le (fun j => decide (T.upI xs j = (a : Int))) (List.range k); simp [T.kidTo] at *; omega
        have hc4 : c < w4.heap.size := by omega
        obtain ⟨uA, un, uc, rfl⟩ := hu4.shape
        simp only [id] at hc1
        have HV2 := Lib.hid h2
        have HU := Lib.hid hu
        have H4 := Lib.hid h4
        have H5 := Lib.hid h5
        have hA1 : (w4.drew.alloc (Obj.cells (intArr (k : Int)) 3)).cell? ⟨g, 1, none⟩ = some (.slice (some ⟨c, 0, none⟩) xs.length xs.length) := by rw [World.cell?_of_block (w := w4) (Below.heap_alloc w4.drew _ _ hg4)]; exact hc2
        have hA2 : (w4.drew.alloc (Obj.cells (intArr (k : Int)) 3)).cell? ⟨c, a, none⟩ = some (.slice uA un uc) := by rw [World.cell?_of_block (w := w4) (Below.heap_alloc w4.drew _ _ hc4)]; exact hc1
        have hA3 : (w4.drew.alloc (Obj.cells (intArr (k : Int)) 3)).frozen? ⟨c, a, none⟩ = false := by rw [World.frozen?_of_block (w := w4) (Below.heap_alloc w4.drew _ _ hc4)]; exact hf1
        have hnew : rowAt (w4.drew.alloc (Obj.cells (intArr (k : Int)) 3)) w4.drew.heap.size 0 1 = some (intArr k) := rowAt_new _ _ _ _ _ rfl
        clear h2 hu h4 h5 hAb
        refine wp_region_T 15 [13, 14, 15, 16] (fun W => W.cell? ⟨g, 1, none⟩ = some (.slice (some ⟨c, 0, none⟩) xs.length xs.length) ∧ W.cell? ⟨c, a, none⟩ = some (.slice uA un uc)) (by kernel_rfl) (by kernel_rfl) (by repeat (first | exact trivial | refine ⟨.inl rfl, ?_⟩ | refine ⟨.inr fun _ _ _ _ h => h, ?_⟩)) ?_ ?_
        · exact ⟨hc2, hc1⟩
        repeat ((first | (refine wpT_q (by rfl) (by rfl) ?_ ?_ ?_; rotate_left; focus (rintro W ⟨s1, s2⟩; go_simp; try (with_reducible rfl); done)) | refine wpT_skip (by rfl) (by rfl) ?_); try simp only [Act.put, List.setIfInBounds_toArray, List.set_cons_succ, List.set_cons_zero])
        refine wpT_a (by rfl) (by rfl) fun K hK => ?_
        refine wp_slice1 35 3 _ rfl (intArr k) 1 8 Try.underlying35 (by kernel_rfl) (by decide) rfl rfl _ rfl ?_
        refine hK _ _ (fun _ => ⟨hA1, hA2⟩) ?_
        clear hK K
        try simp only [Act.put, List.setIfInBounds_toArray, List.set_cons_succ, List.set_cons_zero]
        refine wpT_a (by rfl) (by rfl) fun K hK => ?_
        refine wp_append1 intArr 1 _ _ _ rfl (g + 1) 3 8 Try.underlying35 (by kernel_rfl) (by decide) _ ((T.kidTo xs a k).map Int.ofNat) (k : Int) rfl (hu4.drew.alloc _) _ rfl hnew (intArr_one _) (by simp only [List.length_map]; omega) (by simp only [List.length_map]; omega) (by simp <;> omega) ?_
        intro v5 w5 hown5 hgr5 hbel5 hat5
        have hC1 := (hbel5.cell (p := ⟨g, 1, none⟩) (show g < g + 1 by omega)).trans hA1
        have hC2 := (hbel5.cell (p := ⟨c, a, none⟩) (show c < g + 1 by omega)).trans hA2
        have hC3 := (hbel5.frozen (p := ⟨c, a, none⟩) (show c < g + 1 by omega)).trans hA3
        obtain ⟨vA, vn, vc, rfl⟩ := hown5.shape
        refine hK _ _ (fun _ => ⟨hC1, hC2⟩) ?_
        clear hK K
        try simp only [Act.put, List.setIfInBounds_toArray, List.set_cons_succ, List.set_cons_zero]
        refine wpT_a (by rfl) (by rfl) fun K hK => ?_
        go_simp
        refine hK _ _ (fun h => absurd h (by omega)) ?_
        clear hK K
        try simp only [Act.put, List.setIfInBounds_toArray, List.set_cons_succ, List.set_cons_zero]
        refine wpT_a (by rfl) (by rfl) fun K hK => ?_
        go_simp
        refine hK _ _ (fun h => absurd h (by omega)) ?_
        clear hK K
        refine wpT_nil ?_
        try simp only [Act.put, List.setIfInBounds_toArray, List.set_cons_succ, List.set_cons_zero]
        have hstep := CovInv.step hcg hg4 h1 HV2.out h3 H4.out H5.out HU.out HA.out hown5 hgr5 hat5
        have hsz5 := hbel5.size
        have HSt := Lib.hid hstep
        have hB6 : Below w.heap.size w (w5.setCell ⟨c, a, none⟩ (.slice vA vn vc)) := ((hB4.drew.alloc (hB4.drew.size) _).trans (hbel5.mono (by omega))).setCell (p := ⟨c, a, none⟩) hwc _
        clear hstep hown5 hgr5 hat5 hC1 hC2 hC3 hA1 hA2 hA3 hu4 h3
        go_wp2
        go_roundw
        case rel => exact ⟨k + 1, by omega, by go_num, HSt.out, by simp at hsz5 ⊢; omega, hB6⟩
        case measure => simp [intOf]; omega
    · obtain rfl : k = xs.length := by omega
      have hfx := rowAt_cell ((rowAt_block (hB.block b hb)).trans hrow) 13 (by omega)
      have htx := rowAt_cell ((rowAt_block (hB.block b hb)).trans hrow) 14 (by omega)
      rw [Item.at13] at hfx
      rw [Item.at14] at htx
      obtain ⟨hWI, hWO⟩ := hI.done hcg hgr ((h.below hB).mono (by omega))
      obtain ⟨F, hF⟩ : ∃ F, F = wr.heap.size := ⟨_, rfl⟩
      rw [← hF] at hWI hWO
      have hFs : F ≤ wr.heap.size := by omega
      have hgF : g < F := by omega
      have hKd : Kept F g wr wr.drew := Kept.of_below ((Below.refl _ wr).drew) hFs
      have hWI2 := hWI.kept hKd
      have hWO2 := hWO.below ((Below.refl _ wr).drew) hgF hFs
      have hsc := wspan_c F g _ _ xs xs.length i x.from_ x.to_ (by omega) hi (by omega) [] wr.drew (by simp; omega) hWI2 hWO2
      have HF := Lib.hid hF
      clear hI hWI hWO hF hWI2 hWO2
      go_wp2
      refine wp_region_tail 12 (by kernel_rfl) (by kernel_rfl) ?_
      simp only [List.take_succ_cons, List.take_zero, List.drop_succ_cons, List.drop_zero]
      repeat ((fail_if_success (with_reducible refine wpQuiet_nil ?_)); (first | go_big_quiet_skip | go_big_quiet_step (fail)))
      refine wpQuiet_nil ?_
      go_wp2_with (first | (go_at_call 46; (with_reducible refine hsc.mono ?_); rintro e w5 ⟨⟨v5, rfl⟩, hO5, hK5⟩; obtain ⟨ov, hg5, hown5⟩ := hO5; obtain ⟨A5, n5, c5, rfl⟩ := hown5.shape; have c5 := (wcells hg5).2.2.1) | (go_at_call 47; (with_reducible refine (revSeg_c F _ _ _ hown5).mono ?_); rintro e w6 ⟨⟨v6, rfl⟩, hown6, hK6⟩; have hs5 : F ≤ w5.heap.size := (by have := hK5.size; simp at this; omega); obtain ⟨g6, hg6, hg6s, hg6k⟩ := own_gate hown5 hs5; have hK6 := hK6 g6 hg6k; have hsz5 := hK5.size; have hbg : w6.heap[g]? = _ := (hK6.block g (by simp at hsz5; omega) (by omega)).trans hg5; have c6 := (wcells hbg).2.2.1))
      go_ret
      rw [List.nil_append, List.reverse_reverse] at hown6
      refine ⟨_, rfl, hown6.lower (by omega), ?_⟩
      have hB5 : Below w.heap.size w w5 := hB.drew.trans (hK5.below (by omega) (by omega))
      exact hB5.trans (hK6.below (by omega) hg6s)
end Go.Proofs.Ytcmngomncdeffaa
