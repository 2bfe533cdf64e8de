/- Layer 36, the small functions: what counts, whole times, the same numbers. -/
import Derived.Test.YtcmngomncdeffaaPath
import Derived.Test.YtcmngomncdeffaaMine
namespace Go.Proofs.Ytcmngomncdeffaa
open Go.RowKit
set_option linter.unusedVariables false
set_option linter.unusedSimpArgs false
attribute [local go_sem] Item.sz Item.at13 Item.at14 Item.at15 Seg.sz Seg.at0 Seg.at1 Seg.at2

def T.counts (x : Item) : Bool := decide (x.how ≠ 0) && decide (x.from_ < x.to_)
set_option maxHeartbeats 400000 in
theorem counts36_c (x : Item) (w : World) : Calls Try.prog 45 #[.agg (Item.arr x)] w fun e w' => e = .returned (.bool (T.counts x)) ∧ Below w.heap.size w w' := by
  by_cases h1 : x.how = 0
  · have hr := Lib.hid (show T.counts x = false by simp [T.counts, h1])
    go_enter Try.func45, Try.ntmps45
    go_wp2
    go_ret
    exact ⟨ret_bool hr.out.symm, (Below.refl _ _).alloc (Nat.le_refl _) _⟩
  · have hr := Lib.hid (show T.counts x = (x.how != 0 && decide (x.from_ < x.to_)) by simp [T.counts, h1])
    have h1' : (x.how == 0) = false := by simpa using h1
    go_enter Try.func45, Try.ntmps45
    go_wp2
    go_ret
    exact ⟨ret_bool hr.out.symm, (Below.refl _ _).alloc (Nat.le_refl _) _⟩
set_option maxHeartbeats 400000 in
theorem rcounts36_c (x : Item) (w : World) : Calls Try.prog 48 #[.agg (Item.arr x)] w fun e w' => e = .returned (.bool (T.counts x)) ∧ Below w.heap.size w w' := by
  by_cases h1 : x.how = 0
  · have hr := Lib.hid (show T.counts x = false by simp [T.counts, h1])
    go_enter Try.func48, Try.ntmps48
    go_wp2
    go_ret
    exact ⟨ret_bool hr.out.symm, (Below.refl _ _).alloc (Nat.le_refl _) _⟩
  · have hr := Lib.hid (show T.counts x = (x.how != 0 && decide (x.from_ < x.to_)) by simp [T.counts, h1])
    have h1' : (x.how == 0) = false := by simpa using h1
    go_enter Try.func48, Try.ntmps48
    go_wp2
    go_ret
    exact ⟨ret_bool hr.out.symm, (Below.refl _ _).alloc (Nat.le_refl _) _⟩
theorem rlater_c (a b : Int) (w : World) : Calls Try.prog 64 #[.int .i64 a, .int .i64 b] w fun e w' => e = .returned (.int .i64 (max a b)) ∧ w = w' := by
  by_cases h : b < a
  · have hr := Lib.hid (show max a b = a by omega)
    go_enter Try.func64, Try.ntmps64
    go_wp2
    go_ret
    exact ⟨ret_int hr.out.symm, rfl⟩
  · have hr := Lib.hid (show max a b = b by omega)
    go_enter Try.func64, Try.ntmps64
    go_wp2
    go_ret
    exact ⟨ret_int hr.out.symm, rfl⟩
/-- Times as they may be. -/
def T.time (n : Int) : Prop := -1 ≤ n ∧ n ≤ 1125899906842624
def T.segOk (s : Seg) : Prop := T.time s.from_ ∧ T.time s.to_
def T.segd (s : Seg) : Int := if s.to_ - s.from_ < 0 then 0 else s.to_ - s.from_
def T.whole (ss : List Seg) : Int := (ss.map T.segd).sum
theorem T.whole_snoc (ss : List Seg) (s : Seg) : T.whole (ss ++ [s]) = T.whole ss + T.segd s := by simp [T.whole]
theorem T.whole_le (ss : List Seg) (h : ∀ s ∈ ss, T.segOk s) : 0 ≤ T.whole ss ∧ T.whole ss ≤ ss.length * 1125899906842625 := by
  induction ss with
  | nil => simp [T.whole]
  | cons a l ih =>
    have := ih fun s hs => h s (List.mem_cons_of_mem _ hs)
    have ha := h a List.mem_cons_self
    unfold T.segOk T.time at ha
    simp only [T.whole, List.map_cons, List.sum_cons, List.length_cons] at this ⊢
    unfold T.segd at this ⊢
    split <;> omega
set_option maxRecDepth 100000 in
set_option maxHeartbeats 1000000 in
theorem whole36_c (v : Value) (ss : List Seg) (w : World) (h : Sl Seg.arr 3 w.heap.size w v ss) (hok : ∀ s ∈ ss, T.segOk s) (hlen : ss.length ≤ 1000) :
    Calls Try.prog 24 #[v] w fun e w' => e = .returned (.int .i64 (T.whole ss)) ∧ Below w.heap.size w w' := by
  obtain ⟨A, cap, rfl, hcap, hl1, hl2⟩ := h.view
  go_enter Try.func24, Try.ntmps24
  go_wp2
  go_loopw [3, 8] (fun n i wr => ∃ k : Nat, k ≤ ss.length ∧ i = .int .i64 k ∧ n = .int .i64 (T.whole (ss.take k)) ∧ Below w.heap.size w wr) (fun _ i _ => ss.length - (intOf i).toNat)
  case atStart => exact ⟨0, Nat.zero_le _, rfl, rfl, Below.refl _ _⟩
  case round =>
    obtain ⟨k, hk, rfl, rfl, hB⟩ := hrel
    by_cases hkl : k < ss.length
    · obtain ⟨b, off, rfl, hb, hrow, _⟩ := (h.below hB).at hkl
      obtain ⟨x, hx⟩ : ∃ x, x = ss[k] := ⟨_, rfl⟩
      rw [← hx] at hrow
      have hsz := hB.size
      have hxk := hok x (hx ▸ List.getElem_mem _)
      obtain ⟨⟨o1, o2⟩, o3, o4⟩ := hxk
      have hnext : T.whole (ss.take (k + 1)) = T.whole (ss.take k) + T.segd x := by rw [← T.whole_snoc, hx]; simp
      have hle := T.whole_le (ss.take k) fun s hs => hok s (List.mem_of_mem_take hs)
      obtain ⟨hle1, hle2⟩ := hle
      have hle3 : T.whole (ss.take k) ≤ 1125899906842625000 := by simp only [List.length_take] at hle2; omega
      have HN := Lib.hid hnext
      clear hx h hok hnext hle2
      obtain ⟨z, hz⟩ : ∃ z, z = T.whole (ss.take k) := ⟨_, rfl⟩
      rw [← hz] at hle1 hle3 ⊢
      have HZ := Lib.hid hz
      clear hz
      have hc0 : rowAt wr b (off + k * 3) 3 = some (Seg.arr x) := hrow
      have c1 := rowAt_cell hrow 1 (by omega)
      have c2 := rowAt_cell hrow 2 (by omega)
      rw [Seg.at1] at c1
      rw [Seg.at2] at c2
      by_cases hd : x.to_ - x.from_ < 0
      · have hseg : T.segd x = 0 := by rw [T.segd, if_pos hd]
        go_wp2_with (first | (refine wpList_load_at rfl 46 _ rfl _ (off + k * 3) 3 rfl _ _ hrow rfl rfl rfl ?_) | (refine wpList_store_new rfl _ _ _ rfl wr.heap.size (Seg.arr x) _ _ rfl rfl rfl rfl rfl (Seg.one x) ?_))
        go_roundw
        case rel => exact ⟨k + 1, by omega, by go_num, by rw [HN.out, ← HZ.out, hseg] <;> first | done | go_num | simp, hB.alloc hsz _⟩
        case measure => simp [intOf]; omega
      · have hseg : T.segd x = x.to_ - x.from_ := by rw [T.segd, if_neg hd]
        go_wp2_with (first | (refine wpList_load_at rfl 46 _ rfl _ (off + k * 3) 3 rfl _ _ hrow rfl rfl rfl ?_) | (refine wpList_store_new rfl _ _ _ rfl wr.heap.size (Seg.arr x) _ _ rfl rfl rfl rfl rfl (Seg.one x) ?_))
        go_roundw
        case rel => exact ⟨k + 1, by omega, by go_num, by rw [HN.out, ← HZ.out, hseg] <;> first | done | go_num | simp, hB.alloc hsz _⟩
        case measure => simp [intOf]; omega
    · go_wp2
      go_ret
      rw [List.take_of_length_le (by omega)]
      exact ⟨rfl, hB⟩
set_option maxRecDepth 100000 in
set_option maxHeartbeats 1000000 in
theorem rwhole36_c (v : Value) (ss : List Seg) (w : World) (h : Sl Seg.arr 3 w.heap.size w v ss) (hok : ∀ s ∈ ss, T.segOk s) (hlen : ss.length ≤ 1000) :
    Calls Try.prog 25 #[v] w fun e w' => e = .returned (.int .i64 (T.whole ss)) ∧ Below w.heap.size w w' := by
  obtain ⟨A, cap, rfl, hcap, hl1, hl2⟩ := h.view
  go_enter Try.func25, Try.ntmps25
  go_wp2
  go_loopw [3, 4] (fun n i wr => ∃ k : Nat, k ≤ ss.length ∧ i = .int .i64 k ∧ n = .int .i64 (T.whole (ss.take k)) ∧ Below w.heap.size w wr) (fun _ i _ => ss.length - (intOf i).toNat)
  case atStart => exact ⟨0, Nat.zero_le _, rfl, rfl, Below.refl _ _⟩
  case round =>
    obtain ⟨k, hk, rfl, rfl, hB⟩ := hrel
    by_cases hkl : k < ss.length
    · obtain ⟨b, off, rfl, hb, hrow, _⟩ := (h.below hB).at hkl
      obtain ⟨x, hx⟩ : ∃ x, x = ss[k] := ⟨_, rfl⟩
      rw [← hx] at hrow
      have hsz := hB.size
      have hxk := hok x (hx ▸ List.getElem_mem _)
      obtain ⟨⟨o1, o2⟩, o3, o4⟩ := hxk
      have hnext : T.whole (ss.take (k + 1)) = T.whole (ss.take k) + T.segd x := by rw [← T.whole_snoc, hx]; simp
      have hle := T.whole_le (ss.take k) fun s hs => hok s (List.mem_of_mem_take hs)
      obtain ⟨hle1, hle2⟩ := hle
      have hle3 : T.whole (ss.take k) ≤ 1125899906842625000 := by simp only [List.length_take] at hle2; omega
      have HN := Lib.hid hnext
      clear hx h hok hnext hle2
      obtain ⟨z, hz⟩ : ∃ z, z = T.whole (ss.take k) := ⟨_, rfl⟩
      rw [← hz] at hle1 hle3 ⊢
      have HZ := Lib.hid hz
      clear hz
      have hc0 : rowAt wr b (off + k * 3) 3 = some (Seg.arr x) := hrow
      have c1 := rowAt_cell hrow 1 (by omega)
      have c2 := rowAt_cell hrow 2 (by omega)
      rw [Seg.at1] at c1
      rw [Seg.at2] at c2
      by_cases hd : x.from_ < x.to_
      · have hseg : T.segd x = x.to_ - x.from_ := by rw [T.segd, if_neg (by omega)]
        go_wp2
        go_quiet (fail)
        go_wp2
        go_quiet (fail)
        go_wp2
        go_roundw
        case rel => exact ⟨k + 1, by omega, by go_num, by rw [HN.out, ← HZ.out, hseg]; go_num, below_drewN hB _⟩
        case measure => simp [intOf]; omega
      · have hseg : T.segd x = 0 := by rw [T.segd]; split <;> omega
        go_wp2
        go_quiet (fail)
        go_wp2
        go_roundw
        case rel => exact ⟨k + 1, by omega, by go_num, by rw [HN.out, ← HZ.out, hseg]; simp, below_drewN hB _⟩
        case measure => simp [intOf]; omega
    · go_wp2
      go_ret
      rw [List.take_of_length_le (by omega)]
      exact ⟨rfl, hB⟩

theorem lists_eq_of (xs ys : List Int) (hl : xs.length = ys.length) (h : ∀ i, i < xs.length → xs[i]? = ys[i]?) : xs = ys := by
  apply List.ext_getElem? 
  intro i
  by_cases hi : i < xs.length
  · exact h i hi
  · rw [List.getElem?_eq_none (by omega), List.getElem?_eq_none (by omega)]
set_option maxRecDepth 100000 in
set_option maxHeartbeats 1000000 in
theorem ints_c (u v : Value) (xs ys : List Int) (B : Nat) (w : World) (h : Sl intArr 1 B w u xs) (h' : Sl intArr 1 B w v ys) :
    Calls Try.prog 26 #[u, v] w fun e w' => e = .returned (.bool (decide (xs = ys))) ∧ Below w.heap.size w w' := by
  obtain ⟨A, cap, rfl, hcap, hl1, hl2⟩ := h.view
  obtain ⟨A', cap', rfl, hcap', hl1', hl2'⟩ := h'.view
  by_cases hlen : xs.length = ys.length
  · go_enter Try.func26, Try.ntmps26
    go_wp2
    go_loopw [5] (fun i wr => ∃ k : Nat, k ≤ xs.length ∧ i = .int .i64 k ∧ (∀ j, j < k → xs[j]? = ys[j]?) ∧ ∃ n, wr = w.drewN n) (fun i _ => xs.length - (intOf i).toNat)
    case atStart => exact ⟨0, Nat.zero_le _, rfl, by omega, 0, rfl⟩
    case round =>
      obtain ⟨k, hk, rfl, hall, n, rfl⟩ := hrel
      by_cases hkl : k < xs.length
      · have hkl' : k < ys.length := by omega
        obtain ⟨b, off, rfl, hb, hrow, _⟩ := h.at hkl
        obtain ⟨b', off', rfl, hb', hrow', _⟩ := h'.at hkl'
        obtain ⟨x, hx⟩ : ∃ x, x = xs[k] := ⟨_, rfl⟩
        obtain ⟨y, hy⟩ : ∃ y, y = ys[k] := ⟨_, rfl⟩
        rw [← hx] at hrow
        rw [← hy] at hrow'
        have c1 := rowAt_cell hrow 0 (by omega)
        have c2 := rowAt_cell hrow' 0 (by omega)
        have c1 : w.cell? ⟨b, off + k, none⟩ = some (.int .i64 x) := by simpa [intArr] using c1
        have c2 : w.cell? ⟨b', off' + k, none⟩ = some (.int .i64 y) := by simpa [intArr] using c2
        have HX := Lib.hid (show xs[k]? = some x by rw [hx]; exact List.getElem?_eq_getElem hkl)
        have HY := Lib.hid (show ys[k]? = some y by rw [hy]; exact List.getElem?_eq_getElem hkl')
        clear hx hy hrow hrow' h h'
        by_cases hxy : x = y
        · subst hxy
          go_wp2
          go_quiet (fail)
          go_wp2
          go_roundw
          case rel => exact ⟨k + 1, by omega, by go_num, fun j hj => if e : j = k then by subst e; rw [HX.out, HY.out] else hall j (by omega), _, rfl⟩
          case measure => simp [intOf]; omega
        · have hr := Lib.hid (show decide (xs = ys) = false by
            simp only [decide_eq_false_iff_not]; intro e; subst e; have := HX.out.symm.trans HY.out; simp at this; exact hxy this)
          go_wp2
          go_quiet (fail)
          go_wp2
          go_ret
          exact ⟨ret_bool hr.out.symm, below_drewN (below_drewN (Below.refl _ _) _) _⟩
      · have hr := Lib.hid (show decide (xs = ys) = true by simpa using lists_eq_of xs ys hlen fun i hi => hall i (by omega))
        clear hall
        go_wp2
        go_ret
        exact ⟨ret_bool hr.out.symm, below_drewN (Below.refl _ _) _⟩
  · have hr := Lib.hid (show decide (xs = ys) = false by simp only [decide_eq_false_iff_not]; intro e; subst e; exact hlen rfl)
    go_enter Try.func26, Try.ntmps26
    go_wp2
    go_ret
    exact ⟨ret_bool hr.out.symm, Below.refl _ _⟩

def T.timeB (n : Int) : Bool := decide (-1 ≤ n) && decide (n ≤ 1125899906842624)
theorem T.timeB_iff (n : Int) : T.timeB n = true ↔ T.time n := by simp [T.timeB, T.time]
theorem time36_c (n : Int) (w : World) : Calls Try.prog 29 #[.int .i64 n] w fun e w' => e = .returned (.bool (T.timeB n)) ∧ w = w' := by
  by_cases h1 : -1 ≤ n
  · have hr := Lib.hid (show T.timeB n = decide (n ≤ 1125899906842624) by simp [T.timeB, h1])
    go_enter Try.func29, Try.ntmps29
    go_wp2
    go_ret
    exact ⟨ret_bool hr.out.symm, rfl⟩
  · have hr := Lib.hid (show T.timeB n = false by simp [T.timeB, h1])
    go_enter Try.func29, Try.ntmps29
    go_wp2
    go_ret
    exact ⟨ret_bool hr.out.symm, rfl⟩
def T.itemOk (x : Item) : Prop := T.time x.from_ ∧ T.time x.to_
def T.itemB (x : Item) : Bool := T.timeB x.from_ && T.timeB x.to_
theorem T.itemB_iff (x : Item) : T.itemB x = true ↔ T.itemOk x := by simp [T.itemB, T.itemOk, T.timeB_iff]
def T.may (xs : List Item) : Bool := xs.all T.itemB && decide (xs.length ≤ 20)
theorem T.may_bad (xs : List Item) (k : Nat) (x : Item) (hx : xs[k]? = some x) (h : T.itemB x = false) : T.may xs = false := by
  have : xs.all T.itemB = false := by
    rw [Bool.eq_false_iff]
    intro ha
    rw [List.all_eq_true] at ha
    have := ha x (List.mem_of_getElem? hx)
    rw [h] at this; cases this
  simp [T.may, this]
theorem T.may_good (xs : List Item) (h : ∀ j x, j < xs.length → xs[j]? = some x → T.itemB x = true) : T.may xs = decide ((xs.length : Int) ≤ 20) := by
  have : xs.all T.itemB = true := by
    rw [List.all_eq_true]
    intro x hx
    obtain ⟨j, hj, rfl⟩ := List.getElem_of_mem hx
    exact h j _ hj (List.getElem?_eq_getElem hj)
  simp only [T.may, this, Bool.true_and]
  exact decide_eq_decide.2 (by omega)
set_option maxRecDepth 100000 in
set_option maxHeartbeats 1000000 in
theorem may36_c (v : Value) (xs : List Item) (w : World) (h : Sl Item.arr 17 w.heap.size w v xs) :
    Calls Try.prog 19 #[v] w fun e w' => e = .returned (.bool (T.may xs)) ∧ w = w' := by
  obtain ⟨A, cap, rfl, hcap, hl1, hl2⟩ := h.view
  go_enter Try.func19, Try.ntmps19
  go_wp2
  go_loopw [3] (fun i wr => ∃ k : Nat, k ≤ xs.length ∧ i = .int .i64 k ∧ (∀ j x, j < k → xs[j]? = some x → T.itemB x = true) ∧ wr = w) (fun i _ => xs.length - (intOf i).toNat)
  case atStart => exact ⟨0, Nat.zero_le _, rfl, by omega, rfl⟩
  case round =>
    obtain ⟨k, hk, rfl, hall, rfl⟩ := hrel
    by_cases hkl : k < xs.length
    · obtain ⟨b, off, rfl, hb, hrow, _⟩ := h.at hkl
      obtain ⟨x, hx⟩ : ∃ x, x = xs[k] := ⟨_, rfl⟩
      rw [← hx] at hrow
      have c1 := rowAt_cell hrow 13 (by omega)
      have c2 := rowAt_cell hrow 14 (by omega)
      rw [Item.at13] at c1
      rw [Item.at14] at c2
      have HX := Lib.hid (show xs[k]? = some x by rw [hx]; exact List.getElem?_eq_getElem hkl)
      have HA := Lib.hid hall
      clear hx hrow h hall
      rcases h1 : T.timeB x.from_ with _ | _
      · have HR := Lib.hid (T.may_bad xs k x HX.out (by simp [T.itemB, h1]))
        go_wp2_with (go_at_call 29; (with_reducible refine (time36_c _ _).mono ?_); rintro e w' ⟨rfl, rfl⟩)
        go_ret
        exact ⟨ret_bool HR.out.symm, rfl⟩
      rcases h2 : T.timeB x.to_ with _ | _
      · have HR := Lib.hid (T.may_bad xs k x HX.out (by simp [T.itemB, h1, h2]))
        go_wp2_with (go_at_call 29; (with_reducible refine (time36_c _ _).mono ?_); rintro e w' ⟨rfl, rfl⟩)
        go_ret
        exact ⟨ret_bool HR.out.symm, rfl⟩
      have HN := Lib.hid (show T.itemB x = true by simp [T.itemB, h1, h2])
      go_wp2_with (go_at_call 29; (with_reducible refine (time36_c _ _).mono ?_); rintro e w' ⟨rfl, rfl⟩)
      go_roundw
      case rel => exact ⟨k + 1, by omega, by go_num, fun j y hj hy => if e : j = k then by subst e; rw [HX.out] at hy; cases hy; exact HN.out else HA.out j y (by omega) hy, by first | rfl | trivial⟩
      case measure => simp [intOf]; omega
    · have HR := Lib.hid (T.may_good xs fun j x hj hx => hall j x (by omega) hx)
      clear hall
      go_wp2
      go_ret
      exact ⟨ret_bool HR.out.symm, rfl⟩
end Go.Proofs.Ytcmngomncdeffaa
