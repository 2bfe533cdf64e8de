/- slices.Reverse over a list of the call's own, in place. -/
import Derived.Test.YtcmngomncdeffaaMany
import Derived.Test.YtcmngomncdeffaaPathD
import Derived.Test.YtcmngomncdeffaaAny
namespace Go.Proofs.Ytcmngomncdeffaa
open Go.RowKit
set_option linter.unusedVariables false
set_option linter.unusedSimpArgs false

theorem Kept.setCells {F g : Nat} {a w : World} (h : Kept F g a w) (o : Nat) (vs : List Value) : Kept F g a (w.setCells g o vs) := by
  obtain ⟨h1, h2, h3, h4⟩ := setCells_rest g vs o w
  exact ⟨h1.trans h.os, h2.trans h.tape, h3.trans h.output, by rw [h4]; exact h.size, fun k hk hg => (setCells_other g vs o w k hg).trans (h.block k hk hg)⟩
theorem Kept.drew {F g : Nat} {a w : World} (h : Kept F g a w) : Kept F g a w.drew := ⟨h.os, h.tape, h.output, h.size, h.block⟩
theorem rev_step {α : Type} (L M : List α) (k q : Nat) (x y : α) (hl : M.length = L.length) (hq : q = L.length - 1 - k) (hkq : k < q) (hx : M[k]? = some x) (hy : M[q]? = some y)
    (h : ∀ m, m < L.length → M[m]? = if m < k ∨ L.length - k ≤ m then L[L.length - 1 - m]? else L[m]?) :
    ∀ m, m < L.length → ((M.set k y).set q x)[m]? = if m < k + 1 ∨ L.length - (k + 1) ≤ m then L[L.length - 1 - m]? else L[m]? := by
  intro m hm
  simp only [List.getElem?_set, List.length_set]
  by_cases e : q = m
  · subst e
    rw [if_pos rfl, if_pos (by omega), if_pos (by omega)]
    have := h k (by omega)
    rw [if_neg (by omega)] at this
    rw [show L.length - 1 - q = k by omega, ← this, hx]
  · rw [if_neg e]
    by_cases e2 : k = m
    · subst e2
      rw [if_pos rfl, if_pos (by omega), if_pos (by omega)]
      have := h q (by omega)
      rw [if_neg (by omega)] at this
      rw [← hq, ← this, hy]
    · rw [if_neg e2, h m hm]
      by_cases c : m < k ∨ L.length - k ≤ m
      · rw [if_pos c, if_pos (by omega)]
      · rw [if_neg c, if_neg (by omega)]
theorem rev_end {α : Type} (L M : List α) (k : Nat) (hl : M.length = L.length) (hk : L.length - 1 - k ≤ k)
    (h : ∀ m, m < L.length → M[m]? = if m < k ∨ L.length - k ≤ m then L[L.length - 1 - m]? else L[m]?) : M = L.reverse := by
  apply List.ext_getElem?
  intro m
  by_cases hm : m < L.length
  · rw [h m hm, List.getElem?_reverse hm]
    split
    · rfl
    · rw [show L.length - 1 - m = m by omega]
  · rw [List.getElem?_eq_none (by omega), List.getElem?_eq_none (by simp; omega)]
set_option maxRecDepth 100000 in
set_option maxHeartbeats 2000000 in
theorem revSeg_c (base : Nat) (v : Value) (L : List Seg) (w : World) (h : Own Seg.arr 3 base 46 w v L) :
    Calls Try.prog 47 #[v] w fun e w' => (∃ u, e = .returned u) ∧ Own Seg.arr 3 base 46 w' v L.reverse ∧ ∀ g, (∀ k, v.ownBlock = some k → k = g) → Kept w.heap.size g w w' := by
  rcases h.2 with ⟨rfl, hn⟩ | ⟨g, cap, cur, rfl, _, _, hnc, hcm, _⟩
  · have hL : L = [] := List.eq_nil_of_length_eq_zero hn
    subst hL
    go_enter Try.func47, Try.ntmps47
    go_wp2
    refine wp_loop_rounds 1 ?_
    rw [rounds_succ]
    go_wp2
    go_end0
    exact ⟨⟨_, rfl⟩, Own.nil, fun g _ => Kept.refl _ _ _⟩
  · unfold maxLen at hcm
    go_enter Try.func47, Try.ntmps47
    go_wp2
    go_loopw [2, 3] (fun i j wr => ∃ (k : Nat) (M : List Seg), k ≤ L.length ∧ i = .int .i64 (k : Int) ∧ j = .int .i64 ((L.length : Int) - 1 - k) ∧ M.length = L.length ∧
      Hid (∀ m, m < L.length → M[m]? = if m < k ∨ L.length - k ≤ m then L[L.length - 1 - m]? else L[m]?) ∧ Own Seg.arr 3 base 46 wr (.slice (some ⟨g, 0, none⟩) L.length cap) M ∧ Kept w.heap.size g w wr)
      (fun i _ _ => L.length - (intOf i).toNat)
    case atStart => exact ⟨0, L, Nat.zero_le _, rfl, by go_num, rfl, Lib.hid fun m hm => by rw [if_neg (by omega)], h, Kept.refl _ _ _⟩
    case round =>
      obtain ⟨k, M, hk, rfl, rfl, hM, hall, hown, hK⟩ := hrel
      by_cases hlt : k < L.length - 1 - k
      · obtain ⟨q, hq⟩ : ∃ q : Nat, q = L.length - 1 - k := ⟨_, rfl⟩
        have hqi : ((L.length : Int) - 1 - k) = (q : Int) := by omega
        rw [hqi]
        have hkq : k < q := by omega
        have hqL : q < L.length := by omega
        have hkL : k < L.length := by omega
        obtain ⟨x, hx⟩ : ∃ x, x = M[k] := ⟨_, rfl⟩
        obtain ⟨y, hy⟩ : ∃ y, y = M[q] := ⟨_, rfl⟩
        have hxo : M[k]? = some x := by rw [hx]; exact List.getElem?_eq_getElem (by omega)
        have hyo : M[q]? = some y := by rw [hy]; exact List.getElem?_eq_getElem (by omega)
        have hr1 := hown.drew.row Seg.sz k x hxo
        have hr2 := hown.drew.row Seg.sz q y hyo
        have HS := Lib.hid (rev_step L M k q x y hM hq hkq hxo hyo hall.out)
        have H2 := hown.drew.setAt Seg.sz (by omega) k (by omega) y
        have H3 := H2.setAt Seg.sz (by omega) q (by simp; omega) x
        have t1 := hown.drew.there k (by omega)
        have t2 := H2.there q (by simp; omega)
        have hls : ((M.set k y).set q x).length = L.length := by simp [hM]
        have HLS := Lib.hid hls
        have HML := Lib.hid hM
        have HQ := Lib.hid hq
        have HH := Lib.hid H3
        clear hq hqi hx hy hxo hyo hall H2 H3 hls hM h
        have hk64 : (k : Int) + 1 ≤ 9223372036854775807 := by omega
        go_wp2
        refine wp_region_any (by kernel_rfl) ?_
        change wpAny _ _ _ _ _ _ _ (World.drew _)
        (refine wpAny_take (i := 0) (v := ?_) rfl (by kernel_rfl) (by kernel_rfl) (by kernel_rfl) (fun _ _ _ h => h) (Or.inl ⟨by rfl, ?_⟩) ?_); rotate_left; focus (intro w; go_simp; try (with_reducible rfl)); try simp only [Act.put, List.getElem_toArray, List.getElem_cons_succ, List.getElem_cons_zero, List.setIfInBounds_toArray, List.set_cons_succ, List.set_cons_zero]
        (refine wpAny_take (i := 1) (v := ?_) rfl (by kernel_rfl) (by kernel_rfl) (by kernel_rfl) (fun _ _ _ h => h) (Or.inl ⟨by rfl, ?_⟩) ?_); rotate_left; focus (intro w; go_simp; try (with_reducible rfl)); try simp only [Act.put, List.getElem_toArray, List.getElem_cons_succ, List.getElem_cons_zero, List.setIfInBounds_toArray, List.set_cons_succ, List.set_cons_zero]
        (refine wpAny_take (i := 2) (v := ?_) rfl (by kernel_rfl) (by kernel_rfl) (by kernel_rfl) (fun _ _ _ h => h) (Or.inl ⟨by rfl, ?_⟩) ?_); rotate_left; focus (intro w; go_simp; try (with_reducible rfl)); try simp only [Act.put, List.getElem_toArray, List.getElem_cons_succ, List.getElem_cons_zero, List.setIfInBounds_toArray, List.set_cons_succ, List.set_cons_zero]
        (refine wpAny_take (i := 3) (v := ?_) rfl (by kernel_rfl) (by kernel_rfl) (by kernel_rfl) (fun _ _ _ h => h) (Or.inl ⟨by rfl, ?_⟩) ?_); rotate_left; focus (intro w; go_simp; try (with_reducible rfl)); try simp only [Act.put, List.getElem_toArray, List.getElem_cons_succ, List.getElem_cons_zero, List.setIfInBounds_toArray, List.set_cons_succ, List.set_cons_zero]
        (refine wpAny_take (i := 4) (v := ?_) rfl (by kernel_rfl) (by kernel_rfl) (by kernel_rfl) (fun _ _ _ h => h) (Or.inl ⟨by rfl, ?_⟩) ?_); rotate_left; focus (intro w; go_simp; try (with_reducible rfl)); try simp only [Act.put, List.getElem_toArray, List.getElem_cons_succ, List.getElem_cons_zero, List.setIfInBounds_toArray, List.set_cons_succ, List.set_cons_zero]
        (refine wpAny_take (i := 5) (v := ?_) rfl (by kernel_rfl) (by kernel_rfl) (by kernel_rfl) (fun _ _ _ h => h) (Or.inl ⟨by rfl, ?_⟩) ?_); rotate_left; focus (intro w; go_simp; try (with_reducible rfl)); try simp only [Act.put, List.getElem_toArray, List.getElem_cons_succ, List.getElem_cons_zero, List.setIfInBounds_toArray, List.set_cons_succ, List.set_cons_zero]
        (refine wpAny_take (i := 6) (v := ?_) rfl (by kernel_rfl) (by kernel_rfl) (by kernel_rfl) (fun _ _ _ h => h) (Or.inl ⟨by rfl, ?_⟩) ?_); rotate_left; focus (intro w; go_simp; try (with_reducible rfl)); try simp only [Act.put, List.getElem_toArray, List.getElem_cons_succ, List.getElem_cons_zero, List.setIfInBounds_toArray, List.set_cons_succ, List.set_cons_zero]
        (refine wpAny_take (i := 8) (v := ?_) rfl (by kernel_rfl) (by kernel_rfl) (by kernel_rfl) (fun _ _ _ h => h) (Or.inl ⟨by rfl, ?_⟩) ?_); rotate_left; focus (intro w; go_simp; try (with_reducible rfl)); try simp only [Act.put, List.getElem_toArray, List.getElem_cons_succ, List.getElem_cons_zero, List.setIfInBounds_toArray, List.set_cons_succ, List.set_cons_zero]
        (refine wpAny_take (i := 9) (v := ?_) rfl (by kernel_rfl) (by kernel_rfl) (by kernel_rfl) (fun _ _ _ h => h) (Or.inl ⟨by rfl, ?_⟩) ?_); rotate_left; focus (intro w; go_simp; try (with_reducible rfl)); try simp only [Act.put, List.getElem_toArray, List.getElem_cons_succ, List.getElem_cons_zero, List.setIfInBounds_toArray, List.set_cons_succ, List.set_cons_zero]
        (refine wpAny_take (i := 10) (v := ?_) rfl (by kernel_rfl) (by kernel_rfl) (by kernel_rfl) (fun _ _ _ h => h) (Or.inl ⟨by rfl, ?_⟩) ?_); rotate_left; focus (intro w; go_simp; try (with_reducible rfl)); try simp only [Act.put, List.getElem_toArray, List.getElem_cons_succ, List.getElem_cons_zero, List.setIfInBounds_toArray, List.set_cons_succ, List.set_cons_zero]
        refine wpAny_ready (rs := [7, 11]) (by kernel_rfl) (by simp) ?_
        refine AllReady.cons rfl (fun K hK => ?_) (AllReady.cons rfl (fun K hK => ?_) (AllReady.nil))
        all_goals try simp only [Act.put, List.getElem_toArray, List.getElem_cons_succ, List.getElem_cons_zero, List.setIfInBounds_toArray, List.set_cons_succ, List.set_cons_zero]
        · refine step_load_at (by rfl) 46 _ rfl g (q * 3) 3 rfl _ _ hr2 rfl rfl rfl ?_; refine hK _ _ ?_; clear hK K; try simp only [Act.put, List.getElem_toArray, List.getElem_cons_succ, List.getElem_cons_zero, List.setIfInBounds_toArray, List.set_cons_succ, List.set_cons_zero]
          refine wpAny_ready (rs := [11]) (by kernel_rfl) (by simp) ?_
          refine AllReady.cons rfl (fun K hK => ?_) (AllReady.nil)
          all_goals try simp only [Act.put, List.getElem_toArray, List.getElem_cons_succ, List.getElem_cons_zero, List.setIfInBounds_toArray, List.set_cons_succ, List.set_cons_zero]
          refine step_load_at (by rfl) 46 _ rfl g (k * 3) 3 rfl _ _ hr1 rfl rfl rfl ?_; refine hK _ _ ?_; clear hK K; try simp only [Act.put, List.getElem_toArray, List.getElem_cons_succ, List.getElem_cons_zero, List.setIfInBounds_toArray, List.set_cons_succ, List.set_cons_zero]
          (refine wpAny_take (i := 12) (v := ?_) rfl (by kernel_rfl) (by kernel_rfl) (by kernel_rfl) (fun _ _ _ h => h) (Or.inl ⟨by rfl, ?_⟩) ?_); rotate_left; focus (intro w; go_simp; try (with_reducible rfl)); try simp only [Act.put, List.getElem_toArray, List.getElem_cons_succ, List.getElem_cons_zero, List.setIfInBounds_toArray, List.set_cons_succ, List.set_cons_zero]
          refine wpAny_ready (rs := [13]) (by kernel_rfl) (by simp) ?_
          refine AllReady.cons rfl (fun K hK => ?_) (AllReady.nil)
          all_goals try simp only [Act.put, List.getElem_toArray, List.getElem_cons_succ, List.getElem_cons_zero, List.setIfInBounds_toArray, List.set_cons_succ, List.set_cons_zero]
          refine step_store_mid (by rfl) _ _ _ rfl g (k * 3) (Seg.arr y) rfl rfl t1 rfl (Seg.one y) ?_; refine hK _ _ ?_; clear hK K; try simp only [Act.put, List.getElem_toArray, List.getElem_cons_succ, List.getElem_cons_zero, List.setIfInBounds_toArray, List.set_cons_succ, List.set_cons_zero]
          (refine wpAny_take (i := 14) (v := ?_) rfl (by kernel_rfl) (by kernel_rfl) (by kernel_rfl) (fun _ _ _ h => h) (Or.inl ⟨by rfl, ?_⟩) ?_); rotate_left; focus (intro w; go_simp; try (with_reducible rfl)); try simp only [Act.put, List.getElem_toArray, List.getElem_cons_succ, List.getElem_cons_zero, List.setIfInBounds_toArray, List.set_cons_succ, List.set_cons_zero]
          refine wpAny_ready (rs := [15]) (by kernel_rfl) (by simp) ?_
          refine AllReady.cons rfl (fun K hK => ?_) (AllReady.nil)
          all_goals try simp only [Act.put, List.getElem_toArray, List.getElem_cons_succ, List.getElem_cons_zero, List.setIfInBounds_toArray, List.set_cons_succ, List.set_cons_zero]
          refine step_store_mid (by rfl) _ _ _ rfl g (q * 3) (Seg.arr x) rfl rfl t2 rfl (Seg.one x) ?_; refine hK _ _ ?_; clear hK K; try simp only [Act.put, List.getElem_toArray, List.getElem_cons_succ, List.getElem_cons_zero, List.setIfInBounds_toArray, List.set_cons_succ, List.set_cons_zero]
          refine wpAny_done (by kernel_rfl) ?_ _
          go_wp2
          go_roundw
          case rel => exact ⟨k + 1, (M.set k y).set q x, by omega, by go_num, by have := HQ.out; go_num, HLS.out, HS, HH.out, (hK.drew.setCells _ _).setCells _ _⟩
          case measure => simp [intOf]; omega
        · refine step_load_at (by rfl) 46 _ rfl g (k * 3) 3 rfl _ _ hr1 rfl rfl rfl ?_; refine hK _ _ ?_; clear hK K; try simp only [Act.put, List.getElem_toArray, List.getElem_cons_succ, List.getElem_cons_zero, List.setIfInBounds_toArray, List.set_cons_succ, List.set_cons_zero]
          refine wpAny_ready (rs := [7]) (by kernel_rfl) (by simp) ?_
          refine AllReady.cons rfl (fun K hK => ?_) (AllReady.nil)
          all_goals try simp only [Act.put, List.getElem_toArray, List.getElem_cons_succ, List.getElem_cons_zero, List.setIfInBounds_toArray, List.set_cons_succ, List.set_cons_zero]
          refine step_load_at (by rfl) 46 _ rfl g (q * 3) 3 rfl _ _ hr2 rfl rfl rfl ?_; refine hK _ _ ?_; clear hK K; try simp only [Act.put, List.getElem_toArray, List.getElem_cons_succ, List.getElem_cons_zero, List.setIfInBounds_toArray, List.set_cons_succ, List.set_cons_zero]
          (refine wpAny_take (i := 12) (v := ?_) rfl (by kernel_rfl) (by kernel_rfl) (by kernel_rfl) (fun _ _ _ h => h) (Or.inl ⟨by rfl, ?_⟩) ?_); rotate_left; focus (intro w; go_simp; try (with_reducible rfl)); try simp only [Act.put, List.getElem_toArray, List.getElem_cons_succ, List.getElem_cons_zero, List.setIfInBounds_toArray, List.set_cons_succ, List.set_cons_zero]
          refine wpAny_ready (rs := [13]) (by kernel_rfl) (by simp) ?_
          refine AllReady.cons rfl (fun K hK => ?_) (AllReady.nil)
          all_goals try simp only [Act.put, List.getElem_toArray, List.getElem_cons_succ, List.getElem_cons_zero, List.setIfInBounds_toArray, List.set_cons_succ, List.set_cons_zero]
          refine step_store_mid (by rfl) _ _ _ rfl g (k * 3) (Seg.arr y) rfl rfl t1 rfl (Seg.one y) ?_; refine hK _ _ ?_; clear hK K; try simp only [Act.put, List.getElem_toArray, List.getElem_cons_succ, List.getElem_cons_zero, List.setIfInBounds_toArray, List.set_cons_succ, List.set_cons_zero]
          (refine wpAny_take (i := 14) (v := ?_) rfl (by kernel_rfl) (by kernel_rfl) (by kernel_rfl) (fun _ _ _ h => h) (Or.inl ⟨by rfl, ?_⟩) ?_); rotate_left; focus (intro w; go_simp; try (with_reducible rfl)); try simp only [Act.put, List.getElem_toArray, List.getElem_cons_succ, List.getElem_cons_zero, List.setIfInBounds_toArray, List.set_cons_succ, List.set_cons_zero]
          refine wpAny_ready (rs := [15]) (by kernel_rfl) (by simp) ?_
          refine AllReady.cons rfl (fun K hK => ?_) (AllReady.nil)
          all_goals try simp only [Act.put, List.getElem_toArray, List.getElem_cons_succ, List.getElem_cons_zero, List.setIfInBounds_toArray, List.set_cons_succ, List.set_cons_zero]
          refine step_store_mid (by rfl) _ _ _ rfl g (q * 3) (Seg.arr x) rfl rfl t2 rfl (Seg.one x) ?_; refine hK _ _ ?_; clear hK K; try simp only [Act.put, List.getElem_toArray, List.getElem_cons_succ, List.getElem_cons_zero, List.setIfInBounds_toArray, List.set_cons_succ, List.set_cons_zero]
          refine wpAny_done (by kernel_rfl) ?_ _
          go_wp2
          go_roundw
          case rel => exact ⟨k + 1, (M.set k y).set q x, by omega, by go_num, by have := HQ.out; go_num, HLS.out, HS, HH.out, (hK.drew.setCells _ _).setCells _ _⟩
          case measure => simp [intOf]; omega
      · have hr := rev_end L M k hM (by omega) hall.out
        subst hr
        clear hall
        go_wp2
        go_end0
        refine ⟨⟨_, rfl⟩, hown, fun g' hg => ?_⟩
        rw [← hg g rfl]
        exact hK
end Go.Proofs.Ytcmngomncdeffaa
