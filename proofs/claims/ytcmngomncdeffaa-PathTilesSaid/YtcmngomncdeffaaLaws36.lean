/- Layer 36, the statements' walks. -/
import Derived.Test.YtcmngomncdeffaaAwake36
import Derived.Test.YtcmngomncdeffaaOpen
namespace Go.Proofs.Ytcmngomncdeffaa
open Go.RowKit
set_option linter.unusedVariables false
set_option linter.unusedSimpArgs false
attribute [local go_sem] Item.sz Seg.sz Seg.at0 Seg.at1 Seg.at2 Item.at13 Item.at14 Item.at15

theorem all_snoc {α : Type} {p : α → Prop} {l : List α} {x : α} (h : ∀ s ∈ l, p s) (hx : p x) : ∀ s ∈ l ++ [x], p s := fun s hs => (List.mem_append.1 hs).elim (h s) fun e => by simp at e; rw [e]; exact hx
set_option maxRecDepth 100000 in
set_option maxHeartbeats 2000000 in
theorem pathOwns_w (v0 : Value) (a0 : List Item) (v1 : Value) (a1 : List Seg) (W : World) (s0 : Sl Item.arr 17 W.heap.size W v0 a0) (w0 : ∀ x ∈ a0, Item.ok x) (z0 : a0.length * 136 ≤ 140737488351232)
    (s1 : Sl Seg.arr 3 W.heap.size W v1 a1) (w1 : ∀ x ∈ a1, Seg.ok x) (z1 : a1.length * 24 ≤ 140737488351232) :
    Calls Try.prog 6 #[v0, v1] W fun e w' => e = .returned (.bool true) ∧ Below W.heap.size W w' := by
  obtain ⟨A, cap, rfl, hcap, hl1, hl2⟩ := s0.view
  obtain ⟨A', cap', rfl, hcap', hl1', hl2'⟩ := s1.view
  clear w0 w1
  by_cases h20 : 20 < a0.length
  · go_enter Try.func6, Try.ntmps6
    go_wp2_with (go_at_call 20; (with_reducible refine (awake36_c _).mono ?_); rintro e w1 ⟨rfl, hb1⟩)
    go_ret
    exact ⟨rfl, hb1⟩
  by_cases h40 : 40 < a1.length
  · go_enter Try.func6, Try.ntmps6
    go_wp2_with (go_at_call 20; (with_reducible refine (awake36_c _).mono ?_); rintro e w1 ⟨rfl, hb1⟩)
    go_ret
    exact ⟨rfl, hb1⟩
  go_enter Try.func6, Try.ntmps6
  go_wp2
  go_loopw [5, 6] (fun rv kv wr => ∃ k : Nat, k ≤ a1.length ∧ kv = .int .i64 (k : Int) ∧ Own Seg.arr 3 W.heap.size 47 wr rv (a1.take k) ∧ Hid (∀ s ∈ a1.take k, T.segOk s) ∧ Below W.heap.size W wr) (fun _ kv _ => a1.length - (intOf kv).toNat)
  case atStart => exact ⟨0, Nat.zero_le _, rfl, Own.nil, Lib.hid (by simp), Below.refl _ _⟩
  case round =>
    obtain ⟨k, hk, rfl, hown, hok, hB⟩ := hrel
    have hsz := hB.size
    by_cases hkl : k < a1.length
    · obtain ⟨b, off, rfl, hb, hrow, _⟩ := (s1.below hB).at hkl
      obtain ⟨x, hx⟩ : ∃ x, x = a1[k] := ⟨_, rfl⟩
      rw [← hx] at hrow
      have c0 := rowAt_cell hrow 0 (by omega)
      have c1 := rowAt_cell hrow 1 (by omega)
      have c2 := rowAt_cell hrow 2 (by omega)
      rw [Seg.at0, Nat.add_zero] at c0
      rw [Seg.at1] at c1
      rw [Seg.at2] at c2
      have hnext : a1.take (k + 1) = a1.take k ++ [x] := by rw [hx]; simp
      have HN := Lib.hid hnext
      have hlen : (a1.take k).length = k := by simp; omega
      have HL := Lib.hid hlen
      clear hx hnext hlen hrow
      rcases h1 : T.timeB x.from_ with _ | _
      · go_wp2_with (first | (go_at_call 29; (with_reducible refine (time36_c _ _).mono ?_); rintro e w' ⟨rfl, rfl⟩) | (go_at_call 20; (with_reducible refine (awake36_c _).mono ?_); rintro e w1 ⟨rfl, hb1⟩))
        go_ret
        exact ⟨rfl, hB.trans (hb1.mono hsz)⟩
      rcases h2 : T.timeB x.to_ with _ | _
      · go_wp2_with (first | (go_at_call 29; (with_reducible refine (time36_c _ _).mono ?_); rintro e w' ⟨rfl, rfl⟩) | (go_at_call 20; (with_reducible refine (awake36_c _).mono ?_); rintro e w1 ⟨rfl, hb1⟩))
        go_ret
        exact ⟨rfl, hB.trans (hb1.mono hsz)⟩
      have hxo := Lib.hid (show T.segOk x from ⟨(T.timeB_iff _).1 h1, (T.timeB_iff _).1 h2⟩)
      go_wp2_with ((go_at_call 29; (with_reducible refine (time36_c _ _).mono ?_); rintro e w' ⟨rfl, rfl⟩))
      have p4 : rowAt (wr.drew.alloc (.cells (Seg.arr x) 47)) wr.drew.heap.size 0 3 = some (Seg.arr x) := rowAt_new _ _ _ _ _ rfl
      have hbr : b < wr.heap.size := by omega
      clear h1 h2
      refine wp_region_T 19 [17, 18, 19] (fun W => W.heap[b]? = wr.heap[b]?) (by kernel_rfl) (by kernel_rfl) (by repeat (first | exact trivial | refine ⟨.inl rfl, ?_⟩ | refine ⟨.inr fun _ _ _ _ h => h, ?_⟩)) ?_ ?_
      · rfl
      repeat ((first | (refine wpT_q (by rfl) (by rfl) ?_ ?_ ?_; rotate_left; focus (rintro W hS; have s0 := (World.cell?_of_block hS).trans c0; have s1 := (World.cell?_of_block hS).trans c1; have s2 := (World.cell?_of_block hS).trans c2; go_simp; try (with_reducible rfl); done)) | refine wpT_skip (by rfl) (by rfl) ?_); try simp only [Act.put, List.setIfInBounds_toArray, List.set_cons_succ, List.set_cons_zero])
      refine wpT_a (by rfl) (by rfl) fun K hK => ?_
      refine wp_slice1 43 47 _ rfl (Seg.arr x) 3 24 Try.underlying43 (by kernel_rfl) (by decide) rfl rfl _ rfl ?_
      have hS1 := Below.heap_alloc wr.drew (Obj.cells (Seg.arr x) 47) b hbr
      refine hK _ _ (fun _ => hS1) ?_; clear hK K; try simp only [Act.put, List.setIfInBounds_toArray, List.set_cons_succ, List.set_cons_zero]
      refine wpT_a (by rfl) (by rfl) fun K hK => ?_
      refine wp_append1 Seg.arr 3 _ _ _ rfl W.heap.size 47 24 Try.underlying43 (by kernel_rfl) (by decide) _ (a1.take k) x rfl (hown.drew.alloc _) _ rfl p4 (Seg.one _) (by rw [HL.out]; omega) (by rw [HL.out]; omega) (by simp <;> omega) ?_
      intro v' w' hown' hgr' hbel' _
      refine hK _ _ (fun _ => (hbel'.block b hb).trans hS1) ?_; clear hK K; try simp only [Act.put, List.setIfInBounds_toArray, List.set_cons_succ, List.set_cons_zero]
      refine wpT_a (by rfl) (by rfl) fun K hK => ?_
      go_simp
      refine hK _ _ (fun h => absurd h (by omega)) ?_; clear hK K; try simp only [Act.put, List.setIfInBounds_toArray, List.set_cons_succ, List.set_cons_zero]
      refine wpT_nil ?_
      clear hgr' hS1
      go_wp2
      go_roundw
      case rel => exact ⟨k + 1, by omega, by go_num, by rw [HN.out]; exact hown', Lib.hid (by rw [HN.out]; exact all_snoc hok.out hxo.out), (hB.drew.alloc hsz _).trans hbel'⟩
      case measure => simp [intOf]; omega
    · rw [List.take_of_length_le (by omega)] at hown hok
      have hok1 := hok.out
      have HO := Lib.hid hok1
      clear hok1
      have sa := (s1.below hB).mono hsz
      have sb := hown.sl Seg.sz
      have hn40 : a1.length ≤ 1000 := by omega
      have hn20 : a0.length ≤ 100000 := by omega
      go_wp2_with (first | (go_at_call 24; (with_reducible refine (whole36_c _ a1 _ sa HO.out hn40).mono ?_); rintro e w2 ⟨rfl, hb2⟩; have sb2 := (sb.below hb2).mono hb2.size; have hB2 := bthen hB hb2) | (go_at_call 25; (with_reducible refine (rwhole36_c _ a1 _ sb2 HO.out hn40).mono ?_); rintro e w3 ⟨rfl, hb3⟩; have hB3 := bthen hB2 hb3; have sc3 := (s0.below hB3).mono hB3.size) | (go_at_call 22; (with_reducible refine (mine36_c _ a0 _ sc3 hn20).mono ?_); rintro e w4 ⟨u4, rfl, hown4, hb4⟩; have hB4 := bthen hB3 hb4; have hS4 := hown4.sl Item.sz; have sa4 := (s1.below hB4).mono hB4.size) | (go_at_call 27; (with_reducible refine (own36_c _ _ a0 a1 _ hS4 sa4 HO.out hn40 hn20).mono ?_); rintro e w5 ⟨u5, rfl, hown5, hb5⟩; have hB5 := bthen hB4 hb5; have sc5 := (s0.below hB5).mono hB5.size; have hbb5 := bthen (bthen (bthen hb2 hb3) hb4) hb5; have sb5 := (sb.below hbb5).mono hbb5.size; have so5 := hown5.sl (arr := intArr) (sz := 1) (fun _ => rfl)) | (go_at_call 28; (with_reducible refine (rown36_c _ _ a0 a1 _ sc5 sb5 HO.out hn40 hn20).mono ?_); rintro e w6 ⟨u6, rfl, hown6, hb6⟩; have hB6 := bthen hB5 hb6; have so6 := (so5.below hb6).mono hb6.size; have sp6 := hown6.sl (arr := intArr) (sz := 1) (fun _ => rfl); have hI6 := ints_c _ _ _ _ _ _ so6 sp6; simp only [decide_true] at hI6) | (go_at_call 26; (with_reducible refine hI6.mono ?_); rintro e w7 ⟨rfl, hb7⟩) | (go_at_call 20; (with_reducible refine (awake36_c _).mono ?_); rintro e w8 ⟨rfl, hb8⟩))
      go_ret
      exact ⟨rfl, bthen (bthen hB6 hb7) hb8⟩
end Go.Proofs.Ytcmngomncdeffaa
