/- Layer 36: what each item owns. -/
import Derived.Test.YtcmngomncdeffaaPathA
import Derived.Test.YtcmngomncdeffaaTail
namespace Go.Proofs.Ytcmngomncdeffaa
open Go.RowKit
set_option linter.unusedVariables false
set_option linter.unusedSimpArgs false
attribute [local go_sem] Item.sz Item.at13 Item.at14 Item.at15 Seg.sz Seg.at0 Seg.at1 Seg.at2

def T.mineOf (ss : List Seg) (i : Nat) : List Seg := ss.filter fun s => decide (s.at_ = (i : Int))
def T.own (n : Nat) (ss : List Seg) : List Int := (List.range n).map fun i => T.whole (T.mineOf ss i)
theorem T.own_length (n : Nat) (ss : List Seg) : (T.own n ss).length = n := by simp [T.own]
theorem T.own_nil (n : Nat) : T.own n [] = List.replicate n 0 := by
  apply List.ext_getElem
  · simp [T.own]
  · intro i h1 h2; simp [T.own, T.mineOf, T.whole]
theorem T.own_hit (n : Nat) (ss : List Seg) (s : Seg) (k : Nat) (hk : s.at_ = k) (hn : k < n) : T.own n (ss ++ [s]) = (T.own n ss).set k (T.whole (T.mineOf ss k) + T.segd s) := by
  apply List.ext_getElem
  · simp [T.own]
  · intro i h1 h2
    rw [List.getElem_set]
    simp only [T.own, List.getElem_map, List.getElem_range, T.mineOf, List.filter_append]
    by_cases e : k = i
    · subst e
      simp [hk, T.whole]
    · have : ¬ s.at_ = (i : Int) := by omega
      simp [e, this]
theorem T.own_miss (n : Nat) (ss : List Seg) (s : Seg) (h : ¬ (0 ≤ s.at_ ∧ s.at_ < n)) : T.own n (ss ++ [s]) = T.own n ss := by
  simp only [T.own, T.mineOf, List.filter_append]
  apply List.map_congr_left
  intro i hi
  have : ¬ s.at_ = (i : Int) := by simp at hi; omega
  simp [this]
theorem T.own_get (n : Nat) (ss : List Seg) (k : Nat) (hn : k < n) : (T.own n ss)[k]? = some (T.whole (T.mineOf ss k)) := by
  simp [T.own, hn]
theorem T.mineOf_le (ss : List Seg) (i : Nat) (h : ∀ s ∈ ss, T.segOk s) : 0 ≤ T.whole (T.mineOf ss i) ∧ T.whole (T.mineOf ss i) ≤ ss.length * 1125899906842625 := by
  have := T.whole_le (T.mineOf ss i) fun s hs => h s (List.mem_filter.1 hs).1
  have hl : (T.mineOf ss i).length ≤ ss.length := List.length_filter_le _ _
  constructor
  · exact this.1
  · have : ((T.mineOf ss i).length : Int) ≤ ss.length := by omega
    omega

/-! make([]T, n). -/
def zeroCells (P : Program) (e : TypeId) : Option (Array Value) := (P.info? e).bind fun i => i.zero.map (·.cells)
theorem made_flat (z : Array Value) (n : Nat) (hz : 0 < z.size) : (madeCells z (n * z.size)).toList = ((List.replicate n z).flatMap fun x => x.toList) := by
  simp only [madeCells, Array.toList_map, Array.toList_range]
  induction n with
  | zero => simp
  | succ n ih =>
    rw [Nat.succ_mul, List.range_add, List.map_append, ih, List.replicate_succ', List.flatMap_append]
    congr 1
    apply List.ext_getElem
    · simp
    · intro i h1 h2
      simp at h1
      simp [Nat.mod_eq_of_lt h1, h1]
theorem wpList_makeN {P : Program} {w : World} {ops : Array Oper} {rest : List Oper} {o : Oper} {a : Act} {Q : Exit → Act → World → Prop} {α : Type} (arr : α → Array Value) (sz : Nat) (zero : α)
    (hg : o.guard = none) (l c : Operand) (t : TypeId) (hop : o.op = Op.makeSlice t l c)
    (base : Nat) (e : TypeId) (bytes : Nat) (h1 : P.underlying t = some (.slice e)) (hi : rowInfo P e = some (sz, bytes)) (hsz : 0 < sz) (hz : zeroCells P e = some (arr zero))
    (n : Nat) (hl : a.eval l = .int .i64 n) (hc : a.eval c = .int .i64 n) (b2 : bytes * n ≤ 281474976710656) (b3 : n ≤ 9223372036854775807) (b4 : base ≤ w.heap.size)
    (hK : ∀ w', Own arr sz base e w' (.slice (some ⟨w.heap.size, 0, none⟩) n n) (List.replicate n zero) → Below base w w' → w.heap.size < w'.heap.size → wpList P ops Q rest (a.put o.dst (.slice (some ⟨w.heap.size, 0, none⟩) n n)) w') :
    wpList P ops Q (o :: rest) a w := by
  obtain ⟨i, z, hq, hi1, hi2, hi3, hzc⟩ := rowInfo_some hi
  have hzz : z.cells = arr zero := by simpa [zeroCells, hq, hi1] using hz
  refine wpList_make_full w hg l c t hop base e i z sz h1 hq hi1 hi2 .i64 .i64 n n n hl hc rfl rfl (by rw [hi3]; exact b2) (by unfold maxLen; omega) b4 (fun w' hown hgr => ?_)
  have hlt := (hown.lt w.heap.size rfl).2
  refine hK w' ?_ ((Below.refl base w).grown hgr b4 fun k hk => by cases hk) hlt
  unfold Own
  have := made_flat z.cells n (by omega)
  rw [← hzc, this, hzz] at hown
  rw [List.length_replicate]
  have e2 : ((List.replicate n zero).flatMap fun x => (arr x).toList) = ((List.replicate n (arr zero)).flatMap fun x => x.toList) := by
    clear this hown hK b2 b3 hl hc
    induction n with
    | zero => rfl
    | succ n ih => simp [List.replicate_succ, List.flatMap_cons, ih]
  rw [e2, ← hzc, hzz]
  exact hown

/-! An own row of one-cell elements, written in place. -/
theorem Own.set1 {α : Type} {f : α → Value} {base g n cap : Nat} {e : TypeId} {w : World} {L : List α} (h : Own (fun x => #[f x]) 1 base e w (.slice (some ⟨g, 0, none⟩) n cap) L) (i : Nat) (hi : i < L.length) (y : α) :
    Own (fun x => #[f x]) 1 base e (w.setCell ⟨g, i, none⟩ (f y)) (.slice (some ⟨g, 0, none⟩) n cap) (L.set i y) := by
  obtain ⟨h0, h1 | ⟨g', cap', cur, hv, hb, hg, hnc, hcm, hcs, ht⟩⟩ := h
  · cases h1.1
  · injection hv with e1 e2 e3
    injection e1 with e1
    injection e1 with e1
    subst e1; subst e2; subst e3
    have hfl : ∀ l : List α, (l.flatMap fun x => (#[f x] : Array Value).toList) = l.map f := fun l => by induction l <;> simp_all [List.flatMap_cons]
    rw [hfl] at ht
    refine ⟨by rw [hfl]; simp, .inr ⟨g, cap, cur.setIfInBounds i (f y), by simp, hb, ?_, by simpa using hnc, hcm, by simpa using hcs, ?_⟩⟩
    · have hlt := (Array.getElem?_eq_some_iff.1 hg).1
      simp only [World.setCell, Array.getElem?_modify, if_true, hg, Option.map_some, Option.isSome_none, Bool.false_eq_true, if_false]
    · rw [hfl]
      simp only [Array.toList_setIfInBounds, List.length_set, List.take_set, ht, List.map_set]
theorem own_cell1 {α : Type} {f : α → Value} {base g n cap : Nat} {e : TypeId} {w : World} {L : List α} (h : Own (fun x => #[f x]) 1 base e w (.slice (some ⟨g, 0, none⟩) n cap) L) (i : Nat) (x : α) (hx : L[i]? = some x) :
    w.cell? ⟨g, i, none⟩ = some (f x) ∧ w.frozen? ⟨g, i, none⟩ = false := by
  obtain ⟨h0, h1 | ⟨g', cap', cur, hv, hb, hg, hnc, hcm, hcs, ht⟩⟩ := h
  · cases h1.1
  · injection hv with e1 e2 e3
    injection e1 with e1
    injection e1 with e1
    subst e1
    have hfl : ∀ l : List α, (l.flatMap fun x => (#[f x] : Array Value).toList) = l.map f := fun l => by induction l <;> simp_all [List.flatMap_cons]
    rw [hfl] at ht
    have hi := (List.getElem?_eq_some_iff.1 hx).1
    have : (cur.toList.take (L.length * 1))[i]? = some (f x) := by rw [ht]; simp [hx]
    rw [List.getElem?_take, if_pos (by omega)] at this
    refine ⟨by simpa [World.cell?, hg] using this, by simp [World.frozen?, hg]⟩

set_option maxRecDepth 100000 in
set_option maxHeartbeats 1000000 in
theorem own36_c (u v : Value) (xs : List Item) (ss : List Seg) (w : World) (h : Sl Item.arr 17 w.heap.size w u xs) (h' : Sl Seg.arr 3 w.heap.size w v ss) (hok : ∀ s ∈ ss, T.segOk s) (hlen : ss.length ≤ 1000) (hxl : xs.length ≤ 100000) :
    Calls Try.prog 27 #[u, v] w fun e w' => ∃ z, e = .returned z ∧ Own intArr 1 w.heap.size 3 w' z (T.own xs.length ss) ∧ Below w.heap.size w w' := by
  obtain ⟨A, cap, rfl, hcap, hl1, hl2⟩ := h.view
  obtain ⟨A', cap', rfl, hcap', hl1', hl2'⟩ := h'.view
  go_enter Try.func27, Try.ntmps27
  go_wp2_with (refine wpList_makeN intArr 1 0 rfl _ _ _ rfl w.heap.size 3 8 Try.underlying35 (by kernel_rfl) (by decide) (by kernel_rfl) xs.length rfl rfl (by omega) (by omega) (Nat.le_refl _) ?_; intro w1 hown1 hb1 hlt1)
  rw [← T.own_nil] at hown1
  obtain ⟨g, hg⟩ : ∃ g, g = w.heap.size := ⟨_, rfl⟩
  rw [← hg] at hown1 ⊢
  have hgl1 : g < w1.heap.size := by omega
  have hgw : w.heap.size ≤ g := by omega
  have HG := Lib.hid hg
  clear hg
  go_loopw [13] (fun i wr => ∃ k : Nat, k ≤ ss.length ∧ i = .int .i64 k ∧ Own intArr 1 g 3 wr (.slice (some ⟨g, 0, none⟩) xs.length xs.length) (T.own xs.length (ss.take k)) ∧ g < wr.heap.size ∧ Below w.heap.size w wr) (fun i _ => ss.length - (intOf i).toNat)
  case atStart => exact ⟨0, Nat.zero_le _, rfl, hown1, hgl1, hb1⟩
  case round =>
    obtain ⟨k, hk, rfl, hown, hgl, hB⟩ := hrel
    by_cases hkl : k < ss.length
    · obtain ⟨b, off, rfl, hb, hrow, _⟩ := (h'.below hB).at hkl
      obtain ⟨x, hx⟩ : ∃ x, x = ss[k] := ⟨_, rfl⟩
      rw [← hx] at hrow
      have hsz := hB.size
      obtain ⟨⟨o1, o2⟩, o3, o4⟩ := hok x (hx ▸ List.getElem_mem _)
      have hnext : ss.take (k + 1) = ss.take k ++ [x] := by rw [hx]; simp
      have HN := Lib.hid hnext
      have hown2 := hown.alloc (Obj.cells (Seg.arr x) 46)
      clear hx h' hnext
      by_cases hat : 0 ≤ x.at_ ∧ x.at_ < xs.length
      · obtain ⟨a, ha⟩ : ∃ a : Nat, x.at_ = a := ⟨x.at_.toNat, by omega⟩
        have hal : a < xs.length := by omega
        have hle := T.mineOf_le (ss.take k) a fun s hs => hok s (List.mem_of_mem_take hs)
        obtain ⟨hle1, hle2⟩ := hle
        have hle3 : T.whole (T.mineOf (ss.take k) a) ≤ 1125899906842625000 := by simp only [List.length_take] at hle2; omega
        have hcf := own_cell1 hown a _ (T.own_get xs.length (ss.take k) a hal)
        have hset := Own.set1 hown a (by rw [T.own_length]; exact hal) (T.whole (T.mineOf (ss.take k) a) + T.segd x)
        rw [← T.own_hit xs.length (ss.take k) x a ha hal, ← HN.out] at hset
        have HS := Lib.hid hset
        obtain ⟨z, hz⟩ : ∃ z, z = T.whole (T.mineOf (ss.take k) a) := ⟨_, rfl⟩
        rw [← hz] at hle1 hle3 hcf HS
        have hc : wr.cell? ⟨g, a, none⟩ = some (.int .i64 z) := hcf.1
        have hf : wr.frozen? ⟨g, a, none⟩ = false := hcf.2
        have hc2 : (wr.alloc (Obj.cells (Seg.arr x) 46)).cell? ⟨g, a, none⟩ = some (.int .i64 z) := by rw [World.cell?_of_block (w := wr) (Below.heap_alloc _ _ _ hgl)]; exact hc
        have hf2 : (wr.alloc (Obj.cells (Seg.arr x) 46)).frozen? ⟨g, a, none⟩ = false := by rw [World.frozen?_of_block (w := wr) (Below.heap_alloc _ _ _ hgl)]; exact hf
        clear hcf
        obtain ⟨hat1, hat2⟩ := hat
        clear hz hle2 hok hown2 hset hown
        by_cases hd : x.to_ - x.from_ < 0
        · have hseg : T.segd x = 0 := by rw [T.segd, if_pos hd]
          go_wp2_with (first | (refine wpList_load_at rfl 46 _ rfl _ (off + k * 3) 3 rfl _ _ hrow rfl rfl rfl ?_) | (refine wpList_store_new rfl _ _ _ rfl wr.heap.size (Seg.arr x) _ _ rfl rfl rfl rfl rfl (Seg.one x) ?_))
          refine wp_region_tail 12 (by kernel_rfl) (by kernel_rfl) ?_
          simp only [List.take_succ_cons, List.take_zero, List.drop_succ_cons, List.drop_zero]
          repeat ((fail_if_success (with_reducible refine wpQuiet_nil ?_)); (first | go_big_quiet_skip | go_big_quiet_step (fail)))
          refine wpQuiet_nil ?_
          go_wp2
          have hS := HS.out
          rw [hseg, Int.add_zero] at hS
          go_roundw
          case rel => exact ⟨k + 1, by omega, by go_num, (hS.alloc _).drew, by simp <;> omega, ((hB.setCell (p := ⟨g, a, none⟩) hgw _).alloc (by simp <;> omega) _).drew⟩
          case measure => simp [intOf]; omega
        · have hseg : T.segd x = x.to_ - x.from_ := by rw [T.segd, if_neg hd]
          have HE := Lib.hid hseg
          clear hseg
          go_wp2_with (first | (refine wpList_load_at rfl 46 _ rfl _ (off + k * 3) 3 rfl _ _ hrow rfl rfl rfl ?_) | (refine wpList_store_new rfl _ _ _ rfl wr.heap.size (Seg.arr x) _ _ rfl rfl rfl rfl rfl (Seg.one x) ?_))
          refine wp_region_tail 12 (by kernel_rfl) (by kernel_rfl) ?_
          simp only [List.take_succ_cons, List.take_zero, List.drop_succ_cons, List.drop_zero]
          repeat ((fail_if_success (with_reducible refine wpQuiet_nil ?_)); (first | go_big_quiet_skip | go_big_quiet_step (fail)))
          refine wpQuiet_nil ?_
          go_wp2
          have hS := HS.out
          rw [HE.out] at hS
          go_roundw
          case rel => exact ⟨k + 1, by omega, by go_num, (hS.alloc _).drew, by simp <;> omega, ((hB.setCell (p := ⟨g, a, none⟩) hgw _).alloc (by simp <;> omega) _).drew⟩
          case measure => simp [intOf]; omega
      · have hmiss := T.own_miss xs.length (ss.take k) x hat
        rw [← HN.out] at hmiss
        rw [← hmiss] at hown2
        have HM := Lib.hid hown2
        clear hmiss hown2 hown
        by_cases h0 : 0 ≤ x.at_
        · have h1 : (xs.length : Int) ≤ x.at_ := by omega
          clear hat
          go_wp2_with (first | (refine wpList_load_at rfl 46 _ rfl _ (off + k * 3) 3 rfl _ _ hrow rfl rfl rfl ?_) | (refine wpList_store_new rfl _ _ _ rfl wr.heap.size (Seg.arr x) _ _ rfl rfl rfl rfl rfl (Seg.one x) ?_))
          go_roundw
          case rel => exact ⟨k + 1, by omega, by go_num, HM.out, by simp <;> omega, hB.alloc hsz _⟩
          case measure => simp [intOf]; omega
        · clear hat
          go_wp2_with (first | (refine wpList_load_at rfl 46 _ rfl _ (off + k * 3) 3 rfl _ _ hrow rfl rfl rfl ?_) | (refine wpList_store_new rfl _ _ _ rfl wr.heap.size (Seg.arr x) _ _ rfl rfl rfl rfl rfl (Seg.one x) ?_))
          go_roundw
          case rel => exact ⟨k + 1, by omega, by go_num, HM.out, by simp <;> omega, hB.alloc hsz _⟩
          case measure => simp [intOf]; omega
    · rw [List.take_of_length_le (by omega)] at hown
      have hown := hown.lower hgw
      go_wp2
      go_ret
      exact ⟨_, rfl, hown, hB⟩
end Go.Proofs.Ytcmngomncdeffaa
