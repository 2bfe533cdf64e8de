/- ForestOrder: the plain law; its walk. -/
import Derived.Test.YtofifeicbhbgpaaOrderC
import Derived.Test.YtofifeicbhbgpaaAwake31
import Derived.Test.YtofifeicbhbgpaaMine
namespace Go.Proofs.Ytofifeicbhbgpaa
open Go.RowKit Go.Shelf
set_option linter.unusedVariables false
set_option linter.unusedSimpArgs false
attribute [local go_sem] Item.sz Key.sz bw_cell
attribute [local go_sem high] eqTKey

def T.seenOf (n : Nat) (S : List Nat) : List Bool := (List.range n).map fun i => decide (i ∈ S)
theorem T.seen_len (n : Nat) (S : List Nat) : (T.seenOf n S).length = n := by simp [T.seenOf]
theorem T.seen_nil (n : Nat) : T.seenOf n [] = List.replicate n false := by
  apply List.ext_getElem?
  intro i
  simp only [T.seenOf, List.getElem?_map, List.getElem?_range', List.getElem?_replicate]
  by_cases h : i < n
  · simp [h]
  · simp [h]
theorem T.seen_get (n : Nat) (S : List Nat) (i : Nat) (hi : i < n) : (T.seenOf n S)[i]? = some (decide (i ∈ S)) := by simp [T.seenOf, hi]
theorem T.seen_set (n : Nat) (S : List Nat) (i : Nat) (hi : i < n) : (T.seenOf n S).set i true = T.seenOf n (S ++ [i]) := by
  apply List.ext_getElem?
  intro j
  rw [List.getElem?_set, T.seen_len]
  by_cases hij : i = j
  · subst hij
    rw [if_pos rfl, if_pos hi, T.seen_get n _ i hi]; simp
  · rw [if_neg hij]
    by_cases hj : j < n
    · rw [T.seen_get n _ j hj, T.seen_get n _ j hj]; simp; exact fun h => absurd h.symm hij
    · rw [List.getElem?_eq_none (by rw [T.seen_len]; omega), List.getElem?_eq_none (by rw [T.seen_len]; omega)]
structure T.OrdAt (xs : List Item) (m i : Nat) : Prop where
  lt : i < xs.length
  new : i ∉ (T.order xs).take m
  take : (T.order xs).take (m + 1) = (T.order xs).take m ++ [i]
  up : T.upI xs i = -1 ∨ ∃ j : Nat, j ∈ (T.order xs).take m ∧ T.upI xs i = (j : Int)
theorem T.ord_at (xs : List Item) (m : Nat) (hm : m < xs.length) : ∃ i, (T.order xs)[m]? = some i ∧ T.OrdAt xs m i := by
  have hl := T.order_len xs
  have hm' : m < (T.order xs).length := by omega
  refine ⟨(T.order xs)[m], List.getElem?_eq_getElem hm', ?_⟩
  have hsp : T.order xs = (T.order xs).take m ++ (T.order xs)[m] :: (T.order xs).drop (m + 1) := by
    have := List.take_append_drop m (T.order xs)
    rw [List.drop_eq_getElem_cons hm'] at this
    exact this.symm
  have hnd := T.order_nodup xs
  refine ⟨(T.order_mem xs _).1 (List.getElem_mem _), fun hin => ?_, by simp, T.order_behind xs _ _ _ hsp⟩
  rw [hsp, List.nodup_append] at hnd
  exact hnd.2.2 _ hin _ List.mem_cons_self rfl
theorem T.path_root (xs : List Item) (i : Nat) (hi : i < xs.length) (h : T.upI xs i = -1) : T.path xs i = [(i : Int)] := by
  unfold T.path
  rw [if_pos (by omega), T.pathF_step xs i (by omega) (by omega), show T.above xs (i : Int) = T.upI xs i by rw [T.above, if_pos (by omega)]; simp, h, T.pathF_end xs (-1) (by omega)]
theorem T.path_up (xs : List Item) (i j : Nat) (hi : i < xs.length) (h : T.upI xs i = (j : Int)) : ∃ r, T.path xs i = (i : Int) :: (j : Int) :: r := by
  have hl := (T.up_lt xs i).2
  unfold T.path
  rw [if_pos (by omega), T.pathF_step xs i (by omega) (by omega), show T.above xs (i : Int) = T.upI xs i by rw [T.above, if_pos (by omega)]; simp, h, T.pathF_step xs j (by omega) (by omega)]
  exact ⟨_, rfl⟩
theorem T.up_key (xs : List Item) (i j : Nat) (x y : Item) (hx : xs[i]? = some x) (hy : xs[j]? = some y) (h : T.upI xs i = (j : Int)) : y.key = x.parent := by
  unfold T.upI T.up at h
  rw [hx] at h
  simp only at h
  cases hl : T.lastKey xs x.parent i with
  | none => rw [hl] at h; simp only at h; omega
  | some k =>
    rw [hl] at h
    simp only at h
    obtain rfl : k = j := by omega
    have := (T.lastKey_lt _ _ _ _ hl).2
    rw [hy] at this
    simpa using this
theorem own_set1 {base g n cap : Nat} {e : TypeId} {w : World} {L : List Bool} (h : Own boolArr 1 base e w (.slice (some ⟨g, 0, none⟩) n cap) L) (i : Nat) (hi : i < L.length) (y : Bool) :
    Own boolArr 1 base e (w.setCell ⟨g, i, none⟩ (.bool y)) (.slice (some ⟨g, 0, none⟩) n cap) (L.set i y) := by
  have := Own.setAt (arr := boolArr) (sz := 1) (fun _ => rfl) (by omega) h i hi y
  rw [Nat.mul_one] at this
  exact this
theorem own_blk {α : Type} {arr : α → Array Value} {sz base : Nat} {e : TypeId} {w : World} {v : Value} {xs : List α} (h : Own arr sz base e w v xs) (hn : 0 < xs.length) : ∃ g cap, v = .slice (some ⟨g, 0, none⟩) xs.length cap ∧ base ≤ g ∧ g < w.heap.size := by
  rcases h.2 with ⟨_, h0⟩ | ⟨g, cap, cur, hv, hb, hg, hnc, hcm, _⟩
  · omega
  · exact ⟨g, cap, hv, hb, (Array.getElem?_eq_some_iff.1 hg).1⟩
theorem own_open {α : Type} {arr : α → Array Value} {sz base g n cap : Nat} {e : TypeId} {w : World} {xs : List α} (h : Own arr sz base e w (.slice (some ⟨g, 0, none⟩) n cap) xs) (o : Nat) : w.frozen? ⟨g, o, none⟩ = false := by
  rcases h.2 with ⟨hv, _⟩ | ⟨g', cap', cur, hv, hb, hg, _⟩
  · cases hv
  · injection hv with e1 e2 e3
    injection e1 with e1
    injection e1 with e1 _ _
    subst e1
    simp [World.frozen?, hg]
theorem bool_own_len {base : Nat} {e : TypeId} {w : World} {xs : List Bool} {A : Option Addr} {n cap : Nat} (h : Own boolArr 1 base e w (.slice A n cap) xs) : n = xs.length := by
  rcases h.2 with ⟨hv, h0⟩ | ⟨g, cap, cur, hv, _⟩
  · injection hv with _ e2 _; omega
  · injection hv
set_option maxRecDepth 100000 in
set_option maxHeartbeats 8000000 in
theorem forestOrder_c (v : Value) (xs : List Item) (w : World) (h : Sl Item.arr 17 w.heap.size w v xs) :
    Calls Try.prog 3 #[v] w fun e w' => e = .returned (.bool true) ∧ Below w.heap.size w w' := by
  obtain ⟨A, cap, rfl, hcap, hl1, hl2⟩ := h.view
  by_cases hn : 40 < xs.length
  · go_enter Try.func3, Try.ntmps3
    go_wp2_with (go_at_call 7; (with_reducible refine (awake31_c _).mono ?_); rintro e w1 ⟨rfl, hb1⟩)
    go_ret
    exact ⟨rfl, hb1⟩
  · have h1' : decide (40 < (xs.length : Int)) = false := by simp; omega
    have hmine := mine31_c _ xs w h (by omega)
    have holen := T.order_len xs
    have hil : (T.ints (T.order xs)).length = xs.length := by simp [T.ints, holen]
    have HO := fun u w1 (hs : Sl Item.arr 17 w1.heap.size w1 u xs) => order_c u xs w1 hs (by omega)
    have HIL := Lib.hid hil
    clear holen hil
    go_enter Try.func3, Try.ntmps3
    go_wp2_with (first | (go_at_call 8; (with_reducible refine hmine.mono ?_); rintro e w1 ⟨u1, rfl, hown1, hb1⟩; have hS1 := hown1.sl Item.sz; have hord := HO u1 w1 hS1) | (go_at_call 9; (with_reducible refine hord.mono ?_); rintro e w2 ⟨u2, rfl, hown2, hb2⟩; have hB2 := bthen hb1 hb2; have hS2 := (hS1.below hb2).mono hb2.size; have hT2 := Own.sl (arr := intArr) (sz := 1) (fun _ => rfl) hown2; obtain ⟨A2, n2, c2, rfl⟩ := hown2.shape; have hn2 := int_own_len hown2; rw [HIL.out] at hn2; subst hn2))
    obtain ⟨Au, nu, cu, hu1⟩ := hown1.shape
    rw [hu1] at hown1
    have hnu := own_len hown1
    subst hnu
    clear hown1 hmine HO hown2 hord hS1
    have hfalse : ((xs.length : Int) != (xs.length : Int)) = false := by simp
    go_wp2
    subst hu1
    go_loopw [5, 6] (fun sv iv wr => ∃ k : Nat, k ≤ xs.length ∧ iv = .int .i64 (k : Int) ∧ Own boolArr 1 w2.heap.size 4 wr sv (List.replicate k false) ∧ Below w2.heap.size w2 wr) (fun _ iv _ => xs.length - (intOf iv).toNat)
    case atStart => exact ⟨0, Nat.zero_le _, rfl, Own.nil, Below.refl _ _⟩
    case round =>
      obtain ⟨k, hk, rfl, hown, hB⟩ := hrel
      by_cases hkl : k < xs.length
      · have hwz := hB.size
        have py : rowAt (wr.alloc (.cells #[.bool false] 4)) wr.heap.size 0 1 = some (boolArr false) := rowAt_new _ _ _ _ _ rfl
        have hrl : (List.replicate k false).length = k := by simp
        have HRL := Lib.hid hrl
        have hnx := Lib.hid (show List.replicate (k + 1) false = List.replicate k false ++ [false] by rw [List.replicate_succ'])
        clear hrl
        go_wp2_with (first | (at_builtin; refine wpList_append3 boolArr 1 rfl _ _ _ rfl w2.heap.size 4 1 Try.underlying28 (by kernel_rfl) (by decide) _ (List.replicate k false) false rfl (hown.alloc _) wr.heap.size rfl py (boolArr_one _) (by rw [HRL.out]; omega) (by rw [HRL.out]; omega) (by simp; omega) ?_; intro v3 w3 hown3 hgr3 hbel3 hloc3))
        clear hgr3 hloc3
        go_roundw
        case rel => exact ⟨k + 1, by omega, by go_num, by rw [hnx.out]; exact hown3, (hB.alloc hwz _).trans hbel3⟩
        case measure => simp [intOf]; omega
      · obtain rfl : k = xs.length := by omega
        have hs0 : List.replicate xs.length false = T.seenOf xs.length [] := (T.seen_nil _).symm
        rw [hs0] at hown
        clear hs0
        obtain ⟨A5, n5, c5, rfl⟩ := hown.shape
        have hn5 := bool_own_len hown
        rw [T.seen_len] at hn5
        subst hn5
        obtain ⟨w3, hw3⟩ : ∃ w3, w3 = wr := ⟨_, rfl⟩
        rw [← hw3] at hown hB ⊢
        clear hw3
        have hS3 := (hS2.below hB).mono hB.size
        have hT3 := (hT2.below hB).mono hB.size
        have hown0 := hown
        go_wp2
        go_loopw [7] (fun iv wr => ∃ m : Nat, m ≤ xs.length ∧ iv = .int .i64 (m : Int) ∧ Own boolArr 1 w2.heap.size 4 wr (.slice A5 xs.length c5) (T.seenOf xs.length ((T.order xs).take m)) ∧ Below w2.heap.size w2 wr) (fun iv _ => xs.length - (intOf iv).toNat)
        case atStart => exact ⟨0, Nat.zero_le _, rfl, by simpa using hown, hB⟩
        case round =>
          obtain ⟨m, hm, rfl, hsn, hB4⟩ := hrel
          by_cases hml : m < xs.length
          · obtain ⟨i, hio, HOA⟩ := T.ord_at xs m hml
            have hin := HOA.lt
            obtain ⟨g, c5', hA5, hg1, hg2⟩ := own_blk hsn (by rw [T.seen_len]; omega)
            rw [T.seen_len] at hA5
            injection hA5 with q1 q2 q3
            subst q1; subst q3
            clear q2
            have hrs := Own.row (arr := boolArr) (sz := 1) (fun _ => rfl) hsn i _ (T.seen_get xs.length _ i hin)
            rw [Nat.mul_one] at hrs
            have cs : wr.cell? ⟨g, i, none⟩ = some (.bool false) := by have := rowAt_cell hrs 0 (by omega); simp only [HOA.new, decide_false] at this; simpa [boolArr] using this
            have fs := own_open hsn i
            obtain ⟨b2, o2, hA2, hb2', hro, _⟩ := (hT2.below hB4).at (k := m) (by rw [HIL.out]; exact hml)
            subst hA2
            have hel : (T.ints (T.order xs))[m]'(by rw [HIL.out]; exact hml) = (i : Int) := by
              have := (List.getElem?_eq_some_iff.1 hio).2
              simp [T.ints, this]
            rw [hel] at hro
            have co : wr.cell? ⟨b2, o2 + m, none⟩ = some (.int .i64 (i : Int)) := by have := rowAt_cell hro 0 (by omega); simpa [intArr] using this
            have hs4 := own_set1 hsn i (by rw [T.seen_len]; exact hin) true
            rw [T.seen_set xs.length _ i hin, ← HOA.take] at hs4
            have hB5 := hB4.setCell (p := ⟨g, i, none⟩) hg1 (.bool true)
            obtain ⟨w4, hw4⟩ : ∃ w4, w4 = wr.setCell ⟨g, i, none⟩ (.bool true) := ⟨_, rfl⟩
            rw [← hw4] at hs4 hB5
            have hS4 := (hS2.below hB5).mono hB5.size
            have hab := above_c _ xs (i : Int) w4 hS4
            rw [show T.above xs (i : Int) = T.upI xs i by rw [T.above, if_pos (by omega)]; simp] at hab
            obtain ⟨bI, oI, hAu, hbI, hrI, hallI⟩ := hS2.at hin
            subst hAu
            have i0 : (0 : Int) ≤ (i : Int) := by omega
            have i1 : (i : Int) < (xs.length : Int) := by omega
            have m1 : (m : Int) < (xs.length : Int) := by omega
            have d1 : decide ((i : Int) < 0) = false := by simp
            have d2 : decide ((xs.length : Int) ≤ (i : Int)) = false := by simp; omega
            have d3 : decide (xs.length ≤ i) = false := by simp; omega
            have HW4 := Lib.hid hw4
            have HPA := fun X (hX : Sl Item.arr 17 X.heap.size X (.slice (some ⟨bI, oI, none⟩) xs.length cu) xs) => above_c_path _ xs (i : Int) X hX (by omega)
            clear hrs hro hel hw4 hsn hio
            rcases HOA.up with hup | ⟨j, hjm, hup⟩
            · have hpth := T.path_root xs i hin hup
              rw [hup] at hab
              have hpl : (T.path xs i).length = 1 := by rw [hpth]; rfl
              go_wp2_with (first | (go_at_call 10; rw [← HW4.out]; (with_reducible refine hab.mono ?_); rintro e w5 ⟨rfl, hb5⟩; have hS5 := (hS4.below hb5).mono hb5.size; have hpa := HPA w5 hS5) | (go_at_call 11; (with_reducible refine hpa.mono ?_); rintro e w6 ⟨u6, rfl, hown6, hb6⟩; obtain ⟨gp, cp, rfl, hgp1, hgp2⟩ := own_blk hown6 (by simp [hpth]); have hs6 := (hs4.below hb5).below hb6; have hB6 := bthen hb5 hb6; have p0 := Own.row (arr := intArr) (sz := 1) (fun _ => rfl) hown6 0 (i : Int) (by simp [hpth]); have cp0 : w6.cell? ⟨gp, 0, none⟩ = some (.int .i64 (i : Int)) := rowAt_cell p0 0 (by omega); rw [hpl]))
              refine wp_region_calm (by kernel_rfl) (by kernel_rfl) ?_
              repeat ((fail_if_success (with_reducible refine wpQuiet_nil ?_)); (first | go_big_quiet_skip | go_big_quiet_step (fail)))
              refine wpQuiet_nil ?_
              rintro _ ⟨⟨w7, hb7⟩, rfl⟩
              go_wp2
              go_roundw
              case rel => exact ⟨m + 1, by omega, by go_num, hs6.below hb7, (hB5.trans (hB6.mono hB5.size)).trans (hb7.mono (by have := hB5.size; have := hB6.size; omega))⟩
              case measure => simp [intOf]; omega
            · obtain ⟨r, hpth⟩ := T.path_up xs i j hin hup
              rw [hup] at hab
              have hji := (T.up_lt xs i).2
              rw [hup] at hji
              have hjl : j < xs.length := by omega
              obtain ⟨x, hx⟩ : ∃ x, x = xs[i] := ⟨_, rfl⟩
              obtain ⟨y, hy⟩ : ∃ y, y = xs[j] := ⟨_, rfl⟩
              have hkey := T.up_key xs i j x y (by rw [hx]; exact List.getElem?_eq_getElem hin) (by rw [hy]; exact List.getElem?_eq_getElem hjl) hup
              have rX := hallI i x (by rw [hx]; exact List.getElem?_eq_getElem hin)
              have rY := hallI j y (by rw [hy]; exact List.getElem?_eq_getElem hjl)
              obtain ⟨Lp, hLp⟩ : ∃ Lp, Lp = (T.path xs i).length := ⟨_, rfl⟩
              have hpl : 2 ≤ Lp := by rw [hLp, hpth]; simp
              have hpl' : (T.path xs i).length = Lp := hLp.symm
              have j0 : (0 : Int) ≤ (j : Int) := by omega
              have j1 : (j : Int) < (xs.length : Int) := by omega
              have d4 : decide ((i : Int) ≤ (j : Int)) = false := by simp; omega
              have d5 : decide (i ≤ j) = false := by simp; omega
              have d6 : decide ((Lp : Int) < 1) = false := by simp; omega
              have d7 : decide ((Lp : Int) < 2) = false := by simp; omega
              have d10 : decide ((j : Int) < 0) = false := by simp
              have d8 : (0 : Int) < (Lp : Int) := by omega
              have d9 : (1 : Int) < (Lp : Int) := by omega
              have hjs : j ∈ (T.order xs).take (m + 1) := by rw [HOA.take]; exact List.mem_append_left _ hjm
              have hsg := T.seen_get xs.length ((T.order xs).take (m + 1)) j hjl
              rw [decide_eq_true hjs] at hsg
              have HBLK := fun X (hX : Below w2.heap.size w2 X) => rowAt_block (g := bI) (o := oI + j * 17) (n := 17) (hX.block bI hbI)
              have HBLI := fun X (hX : Below w2.heap.size w2 X) => rowAt_block (g := bI) (o := oI + i * 17) (n := 17) (hX.block bI hbI)
              clear hx hy hLp
              go_wp2_with (first | (go_at_call 10; rw [← HW4.out]; (with_reducible refine hab.mono ?_); rintro e w5 ⟨rfl, hb5⟩; have hS5 := (hS4.below hb5).mono hb5.size; have hpa := HPA w5 hS5) | (go_at_call 11; (with_reducible refine hpa.mono ?_); rintro e w6 ⟨u6, rfl, hown6, hb6⟩; obtain ⟨gp, cp, rfl, hgp1, hgp2⟩ := own_blk hown6 (by simp [hpth]); have hs6 := (hs4.below hb5).below hb6; have hB6 := bthen hb5 hb6; have p0 := Own.row (arr := intArr) (sz := 1) (fun _ => rfl) hown6 0 (i : Int) (by simp [hpth]); have cp0 : w6.cell? ⟨gp, 0, none⟩ = some (.int .i64 (i : Int)) := rowAt_cell p0 0 (by omega); have p1 := Own.row (arr := intArr) (sz := 1) (fun _ => rfl) hown6 1 (j : Int) (by simp [hpth]); have cp1 : w6.cell? ⟨gp, 1, none⟩ = some (.int .i64 (j : Int)) := rowAt_cell p1 0 (by omega); have sj := Own.row (arr := boolArr) (sz := 1) (fun _ => rfl) hs6 j _ hsg; rw [Nat.mul_one] at sj; have csj : w6.cell? ⟨g, j, none⟩ = some (.bool true) := rowAt_cell sj 0 (by omega); rw [hpl']))
              have hB7 : Below w2.heap.size w2 w6 := hB5.trans (hB6.mono hB5.size)
              have k1 := (rowAt_part ((HBLK w6 hB7).trans rY) 0 4 (by omega)).trans (congrArg some (Item.part_key y))
              have k2 := (rowAt_part ((HBLI w6 hB7).trans rX) 4 4 (by omega)).trans (congrArg some (Item.part_parent x))
              rw [hkey] at k1
              have hgp3 : gp < w6.heap.size := hgp2
              refine wp_region_calm (by kernel_rfl) (by kernel_rfl) ?_
              repeat ((fail_if_success (with_reducible refine wpQuiet_nil ?_)); (first | go_big_quiet_skip | (refine wpQuiet_load_at (by rfl) 34 _ rfl _ (oI+j*17) 4 rfl _ _ k1 rfl rfl rfl ?_; simp only [Act.put, List.setIfInBounds_toArray, List.set_cons_succ, List.set_cons_zero]) | (refine wpQuiet_load_at (by rfl) 34 _ rfl _ (oI+i*17+4) 4 rfl _ _ k2 rfl rfl rfl ?_; simp only [Act.put, List.setIfInBounds_toArray, List.set_cons_succ, List.set_cons_zero]) | go_big_quiet_step (fail)))
              refine wpQuiet_nil ?_
              rintro _ ⟨⟨w7, hb7⟩, rfl⟩
              go_wp2
              go_roundw
              case rel => exact ⟨m + 1, by omega, by go_num, hs6.below hb7, hB7.trans (hb7.mono (by have := hB5.size; have := hB6.size; omega))⟩
              case measure => simp [intOf]; omega
          · obtain rfl : m = xs.length := by omega
            go_wp2_with (go_at_call 7; (with_reducible refine (awake31_c _).mono ?_); rintro e w5 ⟨rfl, hb5⟩)
            go_ret
            exact ⟨rfl, bthen (bthen hB2 hB4) hb5⟩
end Go.Proofs.Ytofifeicbhbgpaa
