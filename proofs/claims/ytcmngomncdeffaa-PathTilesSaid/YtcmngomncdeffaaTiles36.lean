/- Layer 36: PathTiles' walk. -/
import Derived.Test.YtcmngomncdeffaaCovers36
namespace Go.Proofs.Ytcmngomncdeffaa
open Go.RowKit
set_option linter.unusedVariables false
set_option linter.unusedSimpArgs false
attribute [local go_sem] Item.sz Seg.sz Seg.at0 Seg.at1 Seg.at2 Item.at13 Item.at14 Item.at15

theorem T.chain_adj : ∀ (l : List Seg) (f t : Int) (k : Nat) (a b : Seg), T.chain f t l → l[k]? = some a → l[k + 1]? = some b → b.from_ = a.to_
  | [], _, _, k, a, b, _, h1, _ => by simp at h1
  | x :: l, f, t, 0, a, b, ⟨h1, h2, h3⟩, e1, e2 => by
    simp at e1 e2
    subst e1
    cases l with
    | nil => simp at e2
    | cons y l => simp at e2; subst e2; exact h3.1
  | x :: l, f, t, k + 1, a, b, ⟨h1, h2, h3⟩, e1, e2 => by
    simp at e1 e2
    exact T.chain_adj l _ _ k a b h3 e1 e2
theorem T.chain_last : ∀ (l : List Seg) (f t : Int) (m : Nat) (a : Seg), T.chain f t l → l.length = m + 1 → l[m]? = some a → a.to_ = t
  | [], _, _, m, a, _, h, _ => by simp at h
  | [x], f, t, m, a, ⟨h1, h2, h3⟩, hl, e => by
    simp at hl; subst hl; simp at e; subst e; exact h3
  | x :: y :: l, f, t, m, a, ⟨h1, h2, h3⟩, hl, e => by
    simp at hl
    obtain ⟨m', rfl⟩ : ∃ m', m = m' + 1 := ⟨m - 1, by omega⟩
    rw [List.getElem?_cons_succ] at e
    exact T.chain_last (y :: l) _ _ m' a h3 (by simp; omega) e
theorem T.sum_le (l : List Int) (c : Int) (h0 : 0 ≤ c) (h : ∀ x ∈ l, 0 ≤ x ∧ x ≤ c) : 0 ≤ l.sum ∧ l.sum ≤ l.length * c := by
  induction l with
  | nil => simp
  | cons a l ih =>
    have := ih fun x hx => h x (List.mem_cons_of_mem _ hx)
    have ha := h a List.mem_cons_self
    simp only [List.sum_cons, List.length_cons, Int.natCast_add, Int.add_mul]
    omega
/-- What a place's segments are, where there are some. -/
structure Tiled (xs : List Item) (i : Nat) (x : Item) (ss : List Seg) (m : Nat) : Prop where
  len : ss.length = m + 1
  short : ss.length ≤ 41
  first : ∃ y, ss[0]? = some y ∧ y.from_ = x.from_
  last : ∃ y, ss[m]? = some y ∧ y.to_ = x.to_
  each : ∀ (k : Nat) (y : Seg), ss[k]? = some y → y.from_ < y.to_ ∧ ∃ (a : Nat) (z : Item), y.at_ = a ∧ a < xs.length ∧ xs[a]? = some z ∧ z.from_ ≤ y.from_ ∧ y.to_ ≤ z.to_ ∧ (i : Int) ∈ T.path xs a
  adj : ∀ (k : Nat) (a b : Seg), ss[k]? = some a → ss[k + 1]? = some b → b.from_ = a.to_
  ok : ∀ s ∈ ss, T.segOk s
  whole : T.whole ss = x.to_ - x.from_
  own : (T.own xs.length ss).sum = x.to_ - x.from_
theorem T.tiled (xs : List Item) (i : Nat) (x : Item) (hx : xs[i]? = some x) (hc : T.counts x = true) (hok : ∀ y ∈ xs, T.itemOk y) (hn : xs.length ≤ 20) : ∃ m, Tiled xs i x (T.cover xs (i : Int)) m := by
  have hso := T.cover_ok xs (i : Int) hok
  rw [T.cover_in xs i x hx hc] at hso ⊢
  have hft := T.counts_lt hc
  have hch := T.span_chain xs i x.from_ x.to_ (by omega)
  have hlen := T.span_len xs i x.from_ x.to_ (by omega)
  have hin := T.span_within xs i x.from_ x.to_ x hx (by omega) (by omega) (by omega)
  have hle := (T.chain_le _ _ _ hch).2
  generalize T.span xs i x.from_ x.to_ = ss at *
  have hwh := T.chain_whole _ _ _ hch
  cases ss with
  | nil => exact absurd (show x.from_ = x.to_ from hch) (by omega)
  | cons y l =>
    obtain ⟨q, hq⟩ : ∃ q, (y :: l)[l.length]? = some q := ⟨_, List.getElem?_eq_getElem (by simp)⟩
    refine ⟨l.length, by simp, by omega, ⟨y, rfl, hch.1⟩, ⟨q, hq, T.chain_last _ _ _ l.length q hch (by simp) hq⟩, fun k z hz => ?_, fun k a b e1 e2 => T.chain_adj _ _ _ k a b hch e1 e2, hso, hwh, ?_⟩
    · have hm := List.mem_of_getElem? hz
      obtain ⟨a, u, h1, h2, h3, h4, h5⟩ := hin z hm
      exact ⟨(hle z hm).2.1, a, u, h1, (List.getElem?_eq_some_iff.1 h2).1, h2, h3, h4, h5⟩
    · rw [T.own_sum, hwh]
      intro s hs
      obtain ⟨a, u, h1, h2, h3, h4, h5⟩ := hin s hs
      have := (List.getElem?_eq_some_iff.1 h2).1
      omega

theorem BW.below {w : World} (y : BW w) : Below w.heap.size w y.1 := y.2
/-- Nothing to be tiled. -/
def T.none36 (xs : List Item) (i : Int) : Prop := i < 0 ∨ (xs.length : Int) ≤ i ∨ ∃ (k : Nat) (x : Item), i = k ∧ xs[k]? = some x ∧ (x.how = 0 ∨ x.to_ ≤ x.from_)
theorem T.none36_or (xs : List Item) (i : Int) : T.none36 xs i ∨ ∃ (k : Nat) (x : Item), i = k ∧ xs[k]? = some x ∧ T.counts x = true := by
  by_cases hi : 0 ≤ i ∧ i < xs.length
  · obtain ⟨k, rfl⟩ : ∃ k : Nat, i = k := ⟨i.toNat, by omega⟩
    obtain ⟨x, hx⟩ : ∃ x, xs[k]? = some x := ⟨_, List.getElem?_eq_getElem (by omega)⟩
    cases hc : T.counts x with
    | true => exact .inr ⟨k, x, rfl, hx, hc⟩
    | false =>
      refine .inl (.inr (.inr ⟨k, x, rfl, hx, ?_⟩))
      simp [T.counts] at hc
      by_cases h0 : x.how = 0
      · exact .inl h0
      · exact .inr (hc h0)
  · unfold T.none36; omega
theorem T.none36_cover (xs : List Item) (i : Int) (h : T.none36 xs i) : T.cover xs i = [] := by
  rcases h with h | h | ⟨k, x, rfl, hx, h⟩
  · exact T.cover_out xs i (.inl h)
  · exact T.cover_out xs i (.inr h)
  · refine T.cover_no xs k x hx ?_
    rcases h with h | h
    · simp [T.counts, h]
    · simp [T.counts]; intro; omega
set_option maxRecDepth 100000 in
set_option maxHeartbeats 2000000 in
theorem pathTiles_no (v0 : Value) (a0 : List Item) (i : Int) (W : World) (s0 : Sl Item.arr 17 W.heap.size W v0 a0) (hmay : T.may a0 = true) (hno : T.none36 a0 i) :
    Calls Try.prog 7 #[v0, .int .i64 i] W fun e w' => e = .returned (.bool true) ∧ Below W.heap.size W w' := by
  obtain ⟨A, cap, rfl, hcap, hl1, hl2⟩ := s0.view
  have hm := may36_c _ a0 W s0
  rw [hmay] at hm
  have hn20 := (T.may_of hmay).1
  have hn2 : a0.length ≤ 100000 := by omega
  have hn4 : a0.length ≤ 40000 := by omega
  have hcv := Lib.hid (T.none36_cover a0 i hno)
  clear hmay
  rcases hno with h | h | ⟨k, x, rfl, hx, h⟩
  · have g1 : decide (i < 0) = true := by simpa using h
    go_enter Try.func7, Try.ntmps7
    go_wp2_with (first | (go_at_call 19; (with_reducible refine hm.mono ?_); rintro e w' ⟨rfl, rfl⟩) | (go_at_call 22; (with_reducible refine (mine36_c _ a0 _ s0 hn2).mono ?_); rintro e w1 ⟨u1, rfl, hown1, hb1⟩; have hS1 := hown1.sl Item.sz) | (go_at_call 21; (with_reducible refine (cover_c _ a0 i _ hS1 hn4).mono ?_); rintro e w2 ⟨u2, rfl, hown2, hb2⟩; rw [hcv.out] at hown2; have hB2 := bthen hb1 hb2; obtain ⟨A2, n2, c2, rfl⟩ := hown2.shape; obtain rfl := hown2.len; clear hown2 hown1 hS1 hm))
    refine wp_region_calm (by kernel_rfl) (by kernel_rfl) ?_
    repeat ((fail_if_success (with_reducible refine wpQuiet_nil ?_)); (first | go_big_quiet_skip | go_big_quiet_step (fail)))
    refine wpQuiet_nil ?_
    rintro _ ⟨⟨w3, hb3⟩, rfl⟩
    go_wp2_with (go_at_call 20; (with_reducible refine (awake36_c _).mono ?_); rintro e w4 ⟨rfl, hb4⟩)
    go_ret
    exact ⟨rfl, bthen (bthen hB2 hb3) hb4⟩
  · have g1 : decide (i < 0) = false := by simp; omega
    have g2 : decide ((a0.length : Int) ≤ i) = true := by simpa using h
    go_enter Try.func7, Try.ntmps7
    go_wp2_with (first | (go_at_call 19; (with_reducible refine hm.mono ?_); rintro e w' ⟨rfl, rfl⟩) | (go_at_call 22; (with_reducible refine (mine36_c _ a0 _ s0 hn2).mono ?_); rintro e w1 ⟨u1, rfl, hown1, hb1⟩; have hS1 := hown1.sl Item.sz) | (go_at_call 21; (with_reducible refine (cover_c _ a0 i _ hS1 hn4).mono ?_); rintro e w2 ⟨u2, rfl, hown2, hb2⟩; rw [hcv.out] at hown2; have hB2 := bthen hb1 hb2; obtain ⟨A2, n2, c2, rfl⟩ := hown2.shape; obtain rfl := hown2.len; clear hown2 hown1 hS1 hm))
    refine wp_region_calm (by kernel_rfl) (by kernel_rfl) ?_
    repeat ((fail_if_success (with_reducible refine wpQuiet_nil ?_)); (first | go_big_quiet_skip | go_big_quiet_step (fail)))
    refine wpQuiet_nil ?_
    rintro _ ⟨⟨w3, hb3⟩, rfl⟩
    go_wp2_with (go_at_call 20; (with_reducible refine (awake36_c _).mono ?_); rintro e w4 ⟨rfl, hb4⟩)
    go_ret
    exact ⟨rfl, bthen (bthen hB2 hb3) hb4⟩
  · have hk := (List.getElem?_eq_some_iff.1 hx).1
    obtain ⟨b, off, rfl, hb, _, hall⟩ := s0.at hk
    have hrow := hall k x hx
    have g1 : decide ((k : Int) < 0) = false := by simp
    have g2 : decide (a0.length ≤ k) = false := by simp <;> omega
    have d13 := rowAt_cell hrow 13 (by omega)
    have d14 := rowAt_cell hrow 14 (by omega)
    have d15 := rowAt_cell hrow 15 (by omega)
    rw [Item.at13] at d13
    rw [Item.at14] at d14
    rw [Item.at15] at d15
    clear hx hall hrow
    have hd : x.how = 0 ∨ (x.how == 0) = false ∧ x.to_ ≤ x.from_ := by
      by_cases h0 : x.how = 0
      · exact .inl h0
      · exact .inr ⟨by simpa using h0, by rcases h with h | h; exact absurd h h0; exact h⟩
    clear h
    rcases hd with h0 | ⟨h0, h1⟩
    all_goals
      go_enter Try.func7, Try.ntmps7
      go_wp2_with (first | (go_at_call 19; (with_reducible refine hm.mono ?_); rintro e w' ⟨rfl, rfl⟩) | (go_at_call 22; (with_reducible refine (mine36_c _ a0 _ s0 hn2).mono ?_); rintro e w1 ⟨u1, rfl, hown1, hb1⟩; have hS1 := hown1.sl Item.sz) | (go_at_call 21; (with_reducible refine (cover_c _ a0 k _ hS1 hn4).mono ?_); rintro e w2 ⟨u2, rfl, hown2, hb2⟩; rw [hcv.out] at hown2; have hB2 := bthen hb1 hb2; obtain ⟨A2, n2, c2, rfl⟩ := hown2.shape; obtain rfl := hown2.len; clear hown2 hown1 hS1 hm))
      have e13 := bw_then hB2 d13
      have e14 := bw_then hB2 d14
      have e15 := bw_then hB2 d15
      clear d13 d14 d15
      refine wp_region_calm (by kernel_rfl) (by kernel_rfl) ?_
      repeat ((fail_if_success (with_reducible refine wpQuiet_nil ?_)); (first | go_big_quiet_skip | go_big_quiet_step (fail)))
      refine wpQuiet_nil ?_
      rintro _ ⟨⟨w3, hb3⟩, rfl⟩
      go_wp2_with (go_at_call 20; (with_reducible refine (awake36_c _).mono ?_); rintro e w4 ⟨rfl, hb4⟩)
      go_ret
      exact ⟨rfl, bthen (bthen hB2 hb3) hb4⟩

set_option maxRecDepth 100000 in
set_option maxHeartbeats 4000000 in
theorem pathTiles_yes (v0 : Value) (a0 : List Item) (i : Nat) (x : Item) (hx : a0[i]? = some x) (hc : T.counts x = true) (W : World) (s0 : Sl Item.arr 17 W.heap.size W v0 a0) (hmay : T.may a0 = true) :
    Calls Try.prog 7 #[v0, .int .i64 (i : Int)] W fun e w' => e = .returned (.bool true) ∧ Below W.heap.size W w' := by
  obtain ⟨A, cap, rfl, hcap, hl1, hl2⟩ := s0.view
  have hm := may36_c _ a0 W s0
  rw [hmay] at hm
  obtain ⟨hn20, hok⟩ := T.may_of hmay
  have hn2 : a0.length ≤ 100000 := by omega
  have hn4 : a0.length ≤ 40000 := by omega
  have hft := T.counts_lt hc
  obtain ⟨m, hT⟩ := T.tiled a0 i x hx hc hok hn20
  obtain ⟨ss, hss⟩ : ∃ ss, ss = T.cover a0 (i : Int) := ⟨_, rfl⟩
  rw [← hss] at hT
  have HSS := Lib.hid hss
  have hi := (List.getElem?_eq_some_iff.1 hx).1
  obtain ⟨b, off, rfl, hb, _, hall⟩ := s0.at hi
  have hrow := hall i x hx
  have g1 : decide ((i : Int) < 0) = false := by simp
  have g2 : decide (a0.length ≤ i) = false := by simp <;> omega
  have d13 := rowAt_cell hrow 13 (by omega)
  have d14 := rowAt_cell hrow 14 (by omega)
  have d15 := rowAt_cell hrow 15 (by omega)
  rw [Item.at13] at d13
  rw [Item.at14] at d14
  rw [Item.at15] at d15
  have g3 : (x.how == 0) = false := by simp [T.counts] at hc ⊢; exact hc.1
  have g4 : decide (x.to_ ≤ x.from_) = false := by simp; omega
  have hbx := (hok x (List.mem_of_getElem? hx))
  obtain ⟨⟨o1, o2⟩, o3, o4⟩ := hbx
  have HT := Lib.hid hT
  clear hmay hok hc hss hrow hx hT
  go_enter Try.func7, Try.ntmps7
  go_wp2_with (first | (go_at_call 19; (with_reducible refine hm.mono ?_); rintro e w' ⟨rfl, rfl⟩) | (go_at_call 22; (with_reducible refine (mine36_c _ a0 _ s0 hn2).mono ?_); rintro e w1 ⟨u1, rfl, hown1, hb1⟩; have hS1 := hown1.sl Item.sz) | (go_at_call 21; (with_reducible refine (cover_c _ a0 i _ hS1 hn4).mono ?_); rintro e w2 ⟨u2, rfl, hown2, hb2⟩; rw [← HSS.out] at hown2; have hB2 := bthen hb1 hb2; obtain ⟨gs, cs, rfl, hc1, hc2⟩ := hown2.block (by rw [HT.out.len]; omega); clear hown1 hS1 hm))
  have e13 := bw_then hB2 d13
  have e14 := bw_then hB2 d14
  have e15 := bw_then hB2 d15
  have hsl := hown2.sl Seg.sz
  have hrows := fun k y h => hown2.row Seg.sz k y h
  have hgs := (hown2.lt gs rfl).2
  have hlen := HT.out.len
  have hshort := HT.out.short
  rw [hlen] at hc1 hsl ⊢
  obtain ⟨y0, hy0, hy0f⟩ := HT.out.first
  obtain ⟨ym, hym, hymt⟩ := HT.out.last
  have c01 := rowAt_cell (hrows 0 y0 hy0) 1 (by omega)
  have cm2 := rowAt_cell (hrows m ym hym) 2 (by omega)
  rw [Seg.at1, hy0f, Nat.zero_mul, Nat.zero_add] at c01
  rw [Seg.at2, hymt] at cm2
  have HR := Lib.hid hrows
  have HL := Lib.hid hlen
  clear hrows hlen hown2 hy0 hym hy0f hymt hb1 hb2
  refine wp_region_calm (by kernel_rfl) (by kernel_rfl) ?_
  repeat ((fail_if_success (with_reducible refine wpQuiet_nil ?_)); (first | go_big_quiet_skip | go_big_quiet_step (fail)))
  refine wpQuiet_nil ?_
  rintro _ ⟨⟨w3, hb3⟩, rfl⟩
  have c01' := bw_then hb3 c01
  have cm2' := bw_then hb3 cm2
  have f13 := bw_then (bthen hB2 hb3) d13
  have f14 := bw_then (bthen hB2 hb3) d14
  clear e13 e14 e15 c01 cm2
  go_wp2
  have g5 : ((m : Int) + 1 == 0) = false := by simp <;> omega
  have g6 : (((m + 1 : Nat) : Int) == 0) = false := by simp <;> omega
  have g7 : IntKind.i64.wrap ((m : Int) + 1 - 1) = (m : Int) := by rw [IntWalk.i64_in _ (by omega)]; omega
  refine wp_region_calm (by kernel_rfl) (by kernel_rfl) ?_
  repeat ((fail_if_success (with_reducible refine wpQuiet_nil ?_)); (first | go_big_quiet_skip | go_big_quiet_step (fail)))
  refine wpQuiet_nil ?_
  rintro _ ⟨⟨w4, hb4⟩, rfl⟩
  clear c01' cm2' f13 f14 g5 g6 g7
  rename_i w4
  have hB24 : Below w2.heap.size w2 w4 := bthen hb3 hb4
  have hB4 : Below W.heap.size W w4 := bthen hB2 hB24
  clear hb3 hb4 g1 g2 g3 g4
  go_wp2
  go_loopw [6] (fun kv wr => ∃ k : Nat, k ≤ m + 1 ∧ kv = .int .i64 (k : Int) ∧ Below w4.heap.size w4 wr) (fun kv _ => m + 1 - (intOf kv).toNat)
  case atStart => exact ⟨0, Nat.zero_le _, rfl, Below.refl _ _⟩
  case round =>
    obtain ⟨k, hk, rfl, hBr⟩ := hrel
    have hBr2 := bthen hB24 hBr
    have hBrW := bthen hB4 hBr
    by_cases hkl : k < m + 1
    · obtain ⟨y, hy⟩ : ∃ y, ss[k]? = some y := ⟨_, List.getElem?_eq_getElem (by rw [HL.out]; exact hkl)⟩
      obtain ⟨q1, a, z, ha, hal, hz, q2, q3, q4⟩ := HT.out.each k y hy
      have hr := (rowAt_block (hBr2.block gs hgs)).trans (HR.out k y hy)
      have hrz := (rowAt_block (hBrW.block b hb)).trans (hall a z hz)
      have c0 := rowAt_cell hr 0 (by omega)
      have c1 := rowAt_cell hr 1 (by omega)
      have c2 := rowAt_cell hr 2 (by omega)
      rw [Seg.at0, Nat.add_zero, ha] at c0
      rw [Seg.at1] at c1
      rw [Seg.at2] at c2
      have z13 := rowAt_cell hrz 13 (by omega)
      have z14 := rowAt_cell hrz 14 (by omega)
      rw [Item.at13] at z13
      rw [Item.at14] at z14
      have hsW := (s0.below hBrW).mono hBrW.size
      obtain ⟨pp, hpp⟩ : ∃ pp, pp = T.path a0 (a : Int) := ⟨_, rfl⟩
      rw [← hpp] at q4
      have h1 : decide ((a : Int) < 0) = false := by simp
      have h2 : decide (a0.length ≤ a) = false := by simp <;> omega
      have h3 : decide (y.to_ ≤ y.from_) = false := by simp <;> omega
      have h4 : decide (y.from_ < z.from_) = false := by simp <;> omega
      have h5 : decide (z.to_ < y.to_) = false := by simp <;> omega
      have HPP := Lib.hid hpp
      have Hha := Lib.hid ha
      have hadj := fun j p (h : ss[j]? = some p) (h2 : ss[j + 1]? = some y) => HT.out.adj j p y h h2
      have hrj := fun j p (h : ss[j]? = some p) => (rowAt_block (hBr2.block gs hgs)).trans (HR.out j p h)
      have HADJ := Lib.hid hadj
      have HRJ := Lib.hid hrj
      have HY := Lib.hid hy
      clear hpp ha hadj hrj hy hz hr hrz
      have hcase : k = 0 ∨ ∃ j, k = j + 1 := by cases k with | zero => exact .inl rfl | succ j => exact .inr ⟨j, rfl⟩
      rcases hcase with rfl | ⟨j, rfl⟩
      case inl =>
        rw [Nat.zero_mul] at c0
        rw [Nat.zero_mul, Nat.zero_add] at c1 c2
        rw [show ((0 : Nat) : Int) = 0 from rfl]
        have e0 := bw_then (Below.refl _ wr) c0
        have e1 := bw_then (Below.refl _ wr) c1
        have e2 := bw_then (Below.refl _ wr) c2
        have f13 := bw_then (Below.refl _ wr) z13
        have f14 := bw_then (Below.refl _ wr) z14
        go_wp2
        simp only [List.append_eq, List.cons_append, List.nil_append]
        refine wp_region_calm (by kernel_rfl) (by kernel_rfl) ?_
        repeat ((fail_if_success (with_reducible refine wpQuiet_nil ?_)); (first | go_big_quiet_skip | go_big_quiet_step (fail)))
        refine wpQuiet_nil ?_
        rintro _ ⟨⟨w5, hb5⟩, rfl⟩
        clear e0 e1 e2 f13 f14 
        have hpath := rabove_c_path _ a0 (a : Int) _ ((hsW.below hb5).mono hb5.size) hn2
        rw [← HPP.out] at hpath
        go_wp2_with (go_at_call 30; (with_reducible refine hpath.mono ?_); rintro e w6 ⟨u6, rfl, hown6, hb6⟩; have hp6 := hown6.sl (arr := intArr) (sz := 1) (fun _ => rfl); obtain ⟨A6, n6, r6, rfl⟩ := hown6.shape; obtain rfl := hown6.len; clear hown6)
        go_loop [9, 10] (fun iv jv => ∃ n : Nat, n ≤ pp.length ∧ jv = .int .i64 (n : Int) ∧ iv = .bool (decide ((i : Int) ∈ pp.take n))) (fun _ jv => pp.length - (intOf jv).toNat)
        case atStart => exact ⟨0, Nat.zero_le _, rfl, by simp⟩
        case round =>
          obtain ⟨n, hn, rfl, rfl⟩ := hrel
          obtain ⟨_, _, v1, v2, v3, v4⟩ := hp6.view
          cases v1
          by_cases hnl : n < pp.length
          · obtain ⟨b7, o7, rfl, hb7, hr7, _⟩ := hp6.at hnl
            obtain ⟨q, hq⟩ : ∃ q, q = pp[n] := ⟨_, rfl⟩
            rw [← hq] at hr7
            have c7 := rowAt_cell hr7 0 (by omega)
            have c7 : w6.cell? ⟨b7, o7 + n, none⟩ = some (.int .i64 q) := by simpa [intArr] using c7
            have hnx : pp.take (n + 1) = pp.take n ++ [q] := by rw [hq]; simp
            have HNX := Lib.hid hnx
            clear hq hr7 hnx
            by_cases hin : (i : Int) ∈ pp.take n
            · rw [decide_eq_true hin]
              go_wp2
              go_round
              case rel => exact ⟨n + 1, by omega, by go_num, by rw [HNX.out]; simp [hin]⟩
              case measure => simp [intOf] <;> omega
            · rw [decide_eq_false hin]
              by_cases hqi : q = (i : Int)
              · have hqb : (q == (i : Int)) = true := by simpa using hqi
                have HQI := Lib.hid hqi
                clear hqi
                go_wp2
                go_round
                case rel => exact ⟨n + 1, by omega, by go_num, by rw [HNX.out]; simp [HQI.out]⟩
                case measure => simp [intOf] <;> omega
              · have hqb : (q == (i : Int)) = false := by simpa using hqi
                have HQI := Lib.hid hqi
                clear hqi
                go_wp2
                go_round
                case rel => exact ⟨n + 1, by omega, by go_num, by rw [HNX.out]; have := HQI.out; simp [hin]; omega⟩
                case measure => simp [intOf] <;> omega
          · rw [List.take_of_length_le (by omega), decide_eq_true q4]
            go_wp2
            go_roundw
            case rel => exact ⟨1, by omega, by simp, bthen (bthen hBr hb5) hb6⟩
            case measure => simp [intOf] <;> omega
      case inr =>
        obtain ⟨p, hp⟩ : ∃ p, ss[j]? = some p := ⟨_, List.getElem?_eq_getElem (by rw [HL.out]; omega)⟩
        have hrp := HRJ.out j p hp
        have p2 := rowAt_cell hrp 2 (by omega)
        rw [Seg.at2, ← HADJ.out j p hp HY.out] at p2
        rw [show ((j + 1 : Nat) : Int) = (j : Int) + 1 from rfl]
        have e0 := bw_then (Below.refl _ wr) c0
        have e1 := bw_then (Below.refl _ wr) c1
        have e2 := bw_then (Below.refl _ wr) c2
        have e3 := bw_then (Below.refl _ wr) p2
        have f13 := bw_then (Below.refl _ wr) z13
        have f14 := bw_then (Below.refl _ wr) z14
        have g8 : decide (0 < (j : Int) + 1) = true := by simp <;> omega
        have g7 : IntKind.i64.wrap ((j : Int) + 1 - 1) = (j : Int) := by rw [IntWalk.i64_in _ (by omega)]; omega
        clear hp hrp
        go_wp2
        simp only [List.append_eq, List.cons_append, List.nil_append]
        refine wp_region_calm (by kernel_rfl) (by kernel_rfl) ?_
        repeat ((fail_if_success (with_reducible refine wpQuiet_nil ?_)); (first | go_big_quiet_skip | go_big_quiet_step (fail)))
        refine wpQuiet_nil ?_
        rintro _ ⟨⟨w5, hb5⟩, rfl⟩
        clear e0 e1 e2 f13 f14 e3 g8 g7
        have hpath := rabove_c_path _ a0 (a : Int) _ ((hsW.below hb5).mono hb5.size) hn2
        rw [← HPP.out] at hpath
        go_wp2_with (go_at_call 30; (with_reducible refine hpath.mono ?_); rintro e w6 ⟨u6, rfl, hown6, hb6⟩; have hp6 := hown6.sl (arr := intArr) (sz := 1) (fun _ => rfl); obtain ⟨A6, n6, r6, rfl⟩ := hown6.shape; obtain rfl := hown6.len; clear hown6)
        go_loop [9, 10] (fun iv jv => ∃ n : Nat, n ≤ pp.length ∧ jv = .int .i64 (n : Int) ∧ iv = .bool (decide ((i : Int) ∈ pp.take n))) (fun _ jv => pp.length - (intOf jv).toNat)
        case atStart => exact ⟨0, Nat.zero_le _, rfl, by simp⟩
        case round =>
          obtain ⟨n, hn, rfl, rfl⟩ := hrel
          obtain ⟨_, _, v1, v2, v3, v4⟩ := hp6.view
          cases v1
          by_cases hnl : n < pp.length
          · obtain ⟨b7, o7, rfl, hb7, hr7, _⟩ := hp6.at hnl
            obtain ⟨q, hq⟩ : ∃ q, q = pp[n] := ⟨_, rfl⟩
            rw [← hq] at hr7
            have c7 := rowAt_cell hr7 0 (by omega)
            have c7 : w6.cell? ⟨b7, o7 + n, none⟩ = some (.int .i64 q) := by simpa [intArr] using c7
            have hnx : pp.take (n + 1) = pp.take n ++ [q] := by rw [hq]; simp
            have HNX := Lib.hid hnx
            clear hq hr7 hnx
            by_cases hin : (i : Int) ∈ pp.take n
            · rw [decide_eq_true hin]
              go_wp2
              go_round
              case rel => exact ⟨n + 1, by omega, by go_num, by rw [HNX.out]; simp [hin]⟩
              case measure => simp [intOf] <;> omega
            · rw [decide_eq_false hin]
              by_cases hqi : q = (i : Int)
              · have hqb : (q == (i : Int)) = true := by simpa using hqi
                have HQI := Lib.hid hqi
                clear hqi
                go_wp2
                go_round
                case rel => exact ⟨n + 1, by omega, by go_num, by rw [HNX.out]; simp [HQI.out]⟩
                case measure => simp [intOf] <;> omega
              · have hqb : (q == (i : Int)) = false := by simpa using hqi
                have HQI := Lib.hid hqi
                clear hqi
                go_wp2
                go_round
                case rel => exact ⟨n + 1, by omega, by go_num, by rw [HNX.out]; have := HQI.out; simp [hin]; omega⟩
                case measure => simp [intOf] <;> omega
          · rw [List.take_of_length_le (by omega), decide_eq_true q4]
            go_wp2
            go_roundw
            case rel => exact ⟨j + 1 + 1, by omega, by go_num, bthen (bthen hBr hb5) hb6⟩
            case measure => simp [intOf] <;> omega
    · obtain rfl : k = m + 1 := by omega
      have sW := (s0.below hBrW).mono hBrW.size
      have sS := (hsl.below hBr2).mono hBr2.size
      have HOK := Lib.hid HT.out.ok
      have hn1k : ss.length ≤ 1000 := by omega
      have hso : T.own a0.length ss = T.own a0.length ss := rfl
      obtain ⟨oo, hoo⟩ : ∃ oo, oo = T.own a0.length ss := ⟨_, rfl⟩
      have hol : oo.length = a0.length := by rw [hoo]; exact T.own_length _ _
      have hob : ∀ q ∈ oo, 0 ≤ q ∧ q ≤ 46161896180547625 := by
        intro q hq
        rw [hoo] at hq
        obtain ⟨j, _, rfl⟩ := List.mem_map.1 hq
        have := T.mineOf_le ss j HOK.out
        constructor
        · exact this.1
        · have h2 := this.2
          have : (ss.length : Int) * 1125899906842625 ≤ 41 * 1125899906842625 := Int.mul_le_mul_of_nonneg_right (by omega) (by omega)
          omega
      have hos : oo.sum = x.to_ - x.from_ := by rw [hoo]; exact HT.out.own
      have HOO := Lib.hid hoo
      have HOL := Lib.hid hol
      have HOB := Lib.hid hob
      have HOS := Lib.hid hos
      have hwh := HT.out.whole
      have HWH := Lib.hid hwh
      clear hso hoo hol hob hos hwh
      go_wp2_with (first | (go_at_call 22; (with_reducible refine (mine36_c _ a0 _ sW hn2).mono ?_); rintro e w5 ⟨u5, rfl, hown5, hb5⟩; have hS5 := hown5.sl Item.sz; have sS5 := (sS.below hb5).mono hb5.size) | (go_at_call 27; (with_reducible refine (own36_c _ _ a0 ss _ hS5 sS5 HOK.out hn1k hn2).mono ?_); rintro e w6 ⟨u6, rfl, hown6, hb6⟩; have hso6 := hown6.sl (arr := intArr) (sz := 1) (fun _ => rfl); obtain ⟨A6, n6, r6, rfl⟩ := hown6.shape; obtain rfl := hown6.len; rw [← HOO.out] at hso6; clear hown6))
      rw [← HOO.out]
      have hBr6 := bthen hb5 hb6
      have sS6 := (sS.below hBr6).mono hBr6.size
      have hBW6 := bthen hBrW hBr6
      obtain ⟨_, _, v1, v2, v3, v4⟩ := hso6.view
      cases v1
      go_loop [12, 13] (fun sv jv => ∃ n : Nat, n ≤ oo.length ∧ jv = .int .i64 (n : Int) ∧ sv = .int .i64 (oo.take n).sum) (fun _ jv => oo.length - (intOf jv).toNat)
      case atStart => exact ⟨0, Nat.zero_le _, rfl, rfl⟩
      case round =>
        obtain ⟨n, hn, rfl, rfl⟩ := hrel
        by_cases hnl : n < oo.length
        · obtain ⟨b7, o7, rfl, hb7, hr7, _⟩ := hso6.at hnl
          obtain ⟨q, hq⟩ : ∃ q, q = oo[n] := ⟨_, rfl⟩
          have hqb := HOB.out q (by rw [hq]; exact List.getElem_mem _)
          have hsb := T.sum_le (oo.take n) 46161896180547625 (by omega) fun z hz => HOB.out z (List.mem_of_mem_take hz)
          rw [← hq] at hr7
          have c7 := rowAt_cell hr7 0 (by omega)
          have c7 : w6.cell? ⟨b7, o7 + n, none⟩ = some (.int .i64 q) := by simpa [intArr] using c7
          have hnx : (oo.take (n + 1)).sum = (oo.take n).sum + q := by rw [List.take_add_one, List.getElem?_eq_getElem hnl, ← hq]; simp
          have hol2 := HOL.out
          obtain ⟨sm, hsm⟩ : ∃ sm, sm = (oo.take n).sum := ⟨_, rfl⟩
          rw [← hsm] at hsb hnx ⊢
          have hsb1 : sm ≤ 923237923610952500 := by
            have h2 := hsb.2
            have : ((oo.take n).length : Int) * 46161896180547625 ≤ 20 * 46161896180547625 := Int.mul_le_mul_of_nonneg_right (by simp; omega) (by omega)
            omega
          have hsb0 := hsb.1
          obtain ⟨qb0, qb1⟩ := hqb
          have HNX := Lib.hid hnx
          clear hq hr7 hnx hsb hsm hol2
          go_wp2
          go_round
          case rel => exact ⟨n + 1, by omega, by go_num, by rw [HNX.out]⟩
          case measure => simp [intOf]; omega
        · rw [List.take_of_length_le (by omega), HOS.out]
          have e13 := bw_then hBW6 d13
          have e14 := bw_then hBW6 d14
          have g9 : IntKind.i64.wrap (x.to_ - x.from_) = x.to_ - x.from_ := IntWalk.i64_in _ (by omega)
          have hWc : ∀ W' : World, Below w6.heap.size w6 W' → Calls Try.prog 24 #[.slice (some ⟨gs, 0, none⟩) (m + 1) cs] W' fun e w' => e = .returned (.int .i64 (x.to_ - x.from_)) ∧ Below W'.heap.size W' w' := fun W' hb => by
            have := whole36_c _ ss W' ((sS6.below hb).mono hb.size) HOK.out hn1k
            rw [HWH.out] at this
            exact this
          go_wp2
          refine wp_region_calm (by kernel_rfl) (by kernel_rfl) ?_
          repeat ((fail_if_success (with_reducible refine wpQuiet_nil ?_)); (first | go_big_quiet_skip | go_big_quiet_step (first | (go_at_call 24; exact calm_of (hWc _ (BW.below _))) | (go_at_call 20; exact calm_of (awake36_c _)))))
          refine wpQuiet_nil ?_
          rintro _ ⟨⟨w8, hb8⟩, rfl⟩
          go_wp2
          go_ret
          exact ⟨rfl, bthen hBW6 hb8⟩
set_option maxRecDepth 100000 in
theorem pathTiles_w (v0 : Value) (a0 : List Item) (i : Int) (W : World) (s0 : Sl Item.arr 17 W.heap.size W v0 a0) (w0 : ∀ x ∈ a0, Item.ok x) (z0 : a0.length * 136 ≤ 140737488351232) (hi : i64 i) :
    Calls Try.prog 7 #[v0, .int .i64 i] W fun e w' => e = .returned (.bool true) ∧ Below W.heap.size W w' := by
  cases hmay : T.may a0 with
  | false =>
    have hm := may36_c _ a0 W s0
    rw [hmay] at hm
    clear hmay w0 hi
    go_enter Try.func7, Try.ntmps7
    go_wp2_with (first | (go_at_call 19; (with_reducible refine hm.mono ?_); rintro e w' ⟨rfl, rfl⟩) | (go_at_call 20; (with_reducible refine (awake36_c _).mono ?_); rintro e w1 ⟨rfl, hb1⟩))
    go_ret
    exact ⟨rfl, hb1⟩
  | true =>
    rcases T.none36_or a0 i with h | ⟨k, x, rfl, hx, hc⟩
    · exact pathTiles_no v0 a0 i W s0 hmay h
    · exact pathTiles_yes v0 a0 k x hx hc W s0 hmay
end Go.Proofs.Ytcmngomncdeffaa
