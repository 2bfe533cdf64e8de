/- Layer 36: PathCovers' walk. -/
import Derived.Test.YtcmngomncdeffaaLaws36
namespace Go.Proofs.Ytcmngomncdeffaa
open Go.RowKit
set_option linter.unusedVariables false
set_option linter.unusedSimpArgs false
attribute [local go_sem] Item.sz Seg.sz Seg.at0 Seg.at1 Seg.at2 Item.at13 Item.at14 Item.at15

theorem Own.len {α : Type} {arr : α → Array Value} {sz base : Nat} {e : TypeId} {w : World} {xs : List α} {A : Option Addr} {n cap : Nat} (h : Own arr sz base e w (.slice A n cap) xs) : n = xs.length := by
  rcases h.2 with ⟨hv, h0⟩ | ⟨g, cap, cur, hv, _⟩
  · injection hv with _ e2 _; omega
  · injection hv
theorem T.may_of {xs : List Item} (h : T.may xs = true) : xs.length ≤ 20 ∧ ∀ x ∈ xs, T.itemOk x := by
  simp only [T.may, Bool.and_eq_true, List.all_eq_true, decide_eq_true_eq] at h
  exact ⟨h.2, fun x hx => (T.itemB_iff x).1 (h.1 x hx)⟩
theorem T.cover_cases (xs : List Item) (i : Int) : T.cover xs i = [] ∨ ∃ (k : Nat) (x : Item), i = k ∧ xs[k]? = some x ∧ T.counts x = true ∧ T.cover xs i = T.span xs k x.from_ x.to_ := by
  by_cases hi : 0 ≤ i ∧ i < xs.length
  · obtain ⟨k, rfl⟩ : ∃ k : Nat, i = k := ⟨i.toNat, by omega⟩
    obtain ⟨x, hx⟩ : ∃ x, xs[k]? = some x := ⟨_, List.getElem?_eq_getElem (by omega)⟩
    cases hc : T.counts x with
    | true => exact .inr ⟨k, x, rfl, hx, hc, T.cover_in xs k x hx hc⟩
    | false => exact .inl (T.cover_no xs k x hx hc)
  · exact .inl (T.cover_out xs i (by omega))
theorem T.cover_ok (xs : List Item) (i : Int) (h : ∀ x ∈ xs, T.itemOk x) : ∀ s ∈ T.cover xs i, T.segOk s := by
  rcases T.cover_cases xs i with e | ⟨k, x, _, hx, hc, e⟩
  · rw [e]; simp
  · rw [e]
    intro s hs
    have hft := T.counts_lt hc
    obtain ⟨⟨h1, h2⟩, h3, h4⟩ := h x (List.mem_of_getElem? hx)
    have := (T.chain_le _ _ _ (T.span_chain xs k x.from_ x.to_ (by omega))).2 s hs
    exact ⟨⟨by omega, by omega⟩, by omega, by omega⟩
theorem T.cover_len (xs : List Item) (i : Int) : (T.cover xs i).length ≤ 2 * xs.length + 1 := by
  rcases T.cover_cases xs i with e | ⟨k, x, _, hx, hc, e⟩
  · rw [e]; simp
  · rw [e]; exact T.span_len xs k _ _ (by have := T.counts_lt hc; omega)
set_option maxRecDepth 100000 in
set_option maxHeartbeats 2000000 in
theorem pathCovers_w (v0 : Value) (a0 : List Item) (i : Int) (W : World) (s0 : Sl Item.arr 17 W.heap.size W v0 a0) (w0 : ∀ x ∈ a0, Item.ok x) (z0 : a0.length * 136 ≤ 140737488351232) (hi : i64 i) :
    Calls Try.prog 5 #[v0, .int .i64 i] W fun e w' => e = .returned (.bool true) ∧ Below W.heap.size W w' := by
  obtain ⟨A, cap, rfl, hcap, hl1, hl2⟩ := s0.view
  clear w0 hi
  have hm := may36_c _ a0 W s0
  rcases hmay : T.may a0 with _ | _
  · rw [hmay] at hm
    clear hmay
    go_enter Try.func5, Try.ntmps5
    go_wp2_with (first | (go_at_call 19; (with_reducible refine hm.mono ?_); rintro e w' ⟨rfl, rfl⟩) | (go_at_call 20; (with_reducible refine (awake36_c _).mono ?_); rintro e w1 ⟨rfl, hb1⟩))
    go_ret
    exact ⟨rfl, hb1⟩
  rw [hmay] at hm
  obtain ⟨hn20, hok⟩ := T.may_of hmay
  have hsok := T.cover_ok a0 i hok
  have hslen := T.cover_len a0 i
  obtain ⟨ss, hss⟩ : ∃ ss, ss = T.cover a0 i := ⟨_, rfl⟩
  rw [← hss] at hsok hslen
  have HSS := Lib.hid hss
  have HO := Lib.hid hsok
  have hn1 : ss.length ≤ 1000 := by omega
  have hn2 : a0.length ≤ 100000 := by omega
  have hn4 : a0.length ≤ 40000 := by omega
  clear hmay hok hss hsok hslen
  go_enter Try.func5, Try.ntmps5
  go_wp2_with (first | (go_at_call 19; (with_reducible refine hm.mono ?_); rintro e w' ⟨rfl, rfl⟩) | (go_at_call 22; (with_reducible refine (mine36_c _ a0 _ s0 hn2).mono ?_); rintro e w1 ⟨u1, rfl, hown1, hb1⟩; have hS1 := hown1.sl Item.sz) | (go_at_call 21; (with_reducible refine (cover_c _ a0 i _ hS1 hn4).mono ?_); rintro e w2 ⟨u2, rfl, hown2, hb2⟩; have hB2 := bthen hb1 hb2; have sc2 := (s0.below hB2).mono hB2.size; obtain ⟨A2, n2, c2, rfl⟩ := hown2.shape) | (go_at_call 23; (with_reducible refine (rcover_c _ a0 i _ sc2 hn4).mono ?_); rintro e w3 ⟨u3, rfl, hown3, hb3⟩; rw [← HSS.out] at hown2 hown3; have hB3 := bthen hB2 hb3; have sc3 := (s0.below hB3).mono hB3.size; obtain ⟨A3, n3, c3, rfl⟩ := hown3.shape; have hn2' := hown2.len; have hn3' := hown3.len; subst hn2' hn3'; have ha := ((hown2.sl Seg.sz).below hb3).mono hb3.size; have hb := hown3.sl Seg.sz; clear hown2 hown3 hown1 hS1 hm sc2; obtain ⟨_, _, q1, q2, q3, q4⟩ := ha.view; cases q1; obtain ⟨_, _, q5, q6, q7, q8⟩ := hb.view; cases q5))
  go_loopw [7] (fun kv wr => ∃ k : Nat, k ≤ ss.length ∧ kv = .int .i64 (k : Int) ∧ ∃ m, wr = w3.drewN m) (fun kv _ => ss.length - (intOf kv).toNat)
  case atStart => exact ⟨0, Nat.zero_le _, rfl, 0, rfl⟩
  case round =>
    obtain ⟨k, hk, rfl, m, rfl⟩ := hrel
    by_cases hkl : k < ss.length
    · obtain ⟨b, off, rfl, _, hrow, _⟩ := ha.at hkl
      obtain ⟨b', off', rfl, _, hrow', _⟩ := hb.at hkl
      obtain ⟨x, hx⟩ : ∃ x, x = ss[k] := ⟨_, rfl⟩
      rw [← hx] at hrow hrow'
      have c0 := rowAt_cell hrow 0 (by omega)
      have c1 := rowAt_cell hrow 1 (by omega)
      have c2 := rowAt_cell hrow 2 (by omega)
      have d0 := rowAt_cell hrow' 0 (by omega)
      have d1 := rowAt_cell hrow' 1 (by omega)
      have d2 := rowAt_cell hrow' 2 (by omega)
      rw [Seg.at0, Nat.add_zero] at c0 d0
      rw [Seg.at1] at c1 d1
      rw [Seg.at2] at c2 d2
      clear hx hrow hrow'
      go_wp2
      go_quiet (fail)
      go_wp2
      go_roundw
      case rel => exact ⟨k + 1, by omega, by go_num, _, rfl⟩
      case measure => simp [intOf]; omega
    · have hbm := below_drewN (Below.refl w3.heap.size w3) m
      have sa := (ha.below hbm).mono hbm.size
      have sb := (hb.below hbm).mono hbm.size
      have sc := (sc3.below hbm).mono hbm.size
      have hB := bthen hB3 hbm
      clear sc3 ha hb
      go_wp2_with (first | (go_at_call 24; (with_reducible refine (whole36_c _ ss _ sa HO.out hn1).mono ?_); rintro e w4 ⟨rfl, hb4⟩; have sb4 := (sb.below hb4).mono hb4.size) | (go_at_call 25; (with_reducible refine (rwhole36_c _ ss _ sb4 HO.out hn1).mono ?_); rintro e w5 ⟨rfl, hb5⟩; have hb45 := bthen hb4 hb5; have sc5 := (sc.below hb45).mono hb45.size) | (go_at_call 22; (with_reducible refine (mine36_c _ a0 _ sc5 hn2).mono ?_); rintro e w6 ⟨u6, rfl, hown6, hb6⟩; have hb46 := bthen hb45 hb6; have hS6 := hown6.sl Item.sz; have sa6 := (sa.below hb46).mono hb46.size) | (go_at_call 27; (with_reducible refine (own36_c _ _ a0 ss _ hS6 sa6 HO.out hn1 hn2).mono ?_); rintro e w7 ⟨u7, rfl, hown7, hb7⟩; have hb47 := bthen hb46 hb7; have sc7 := (sc.below hb47).mono hb47.size; have sb7 := (sb.below hb47).mono hb47.size; have so7 := hown7.sl (arr := intArr) (sz := 1) (fun _ => rfl)) | (go_at_call 28; (with_reducible refine (rown36_c _ _ a0 ss _ sc7 sb7 HO.out hn1 hn2).mono ?_); rintro e w8 ⟨u8, rfl, hown8, hb8⟩; have hb48 := bthen hb47 hb8; have so8 := (so7.below hb8).mono hb8.size; have sp8 := hown8.sl (arr := intArr) (sz := 1) (fun _ => rfl); have hI8 := ints_c _ _ _ _ _ _ so8 sp8; simp only [decide_true] at hI8) | (go_at_call 26; (with_reducible refine hI8.mono ?_); rintro e w9 ⟨rfl, hb9⟩) | (go_at_call 20; (with_reducible refine (awake36_c _).mono ?_); rintro e w10 ⟨rfl, hb10⟩))
      go_ret
      exact ⟨rfl, bthen hB (bthen (bthen hb48 hb9) hb10)⟩
end Go.Proofs.Ytcmngomncdeffaa
