/- Forest: Grow's walk. -/
import Derived.Test.YtcncmbcnekekdaaDoorOver
import Derived.Deep.LoopGhost
import Derived.Test.YtcncmbcnekekdaaDoorBw
import Derived.Test.YtcncmbcnekekdaaDoorTail
namespace Go.Proofs.YtcncmbcnekekdaaDoor
open Go.RowKit
set_option linter.unusedVariables false
set_option linter.unusedSimpArgs false
attribute [local go_sem] Event.set_code Item.sz Event.sz Event.at0 Event.at1 Event.at2 Event.at15 Event.at16 Item.at12 Item.at15
attribute [local go_sem high] eqTKey

theorem own_len {α : Type} {arr : α → Array Value} {sz base : Nat} {e : TypeId} {w : World} {xs : List α} {A : Option Addr} {n cap : Nat} (h : Own arr sz base e w (.slice A n cap) xs) : n = xs.length := by
  rcases h.2 with ⟨hv, h0⟩ | ⟨g, cap, cur, hv, _⟩
  · injection hv with _ e2 _; omega
  · injection hv
theorem own_block {α : Type} {arr : α → Array Value} {sz base : Nat} {e : TypeId} {w : World} {v : Value} {xs : List α} (h : Own arr sz base e w v xs) (hn : 0 < xs.length) : ∃ g cap, v = .slice (some ⟨g, 0, none⟩) xs.length cap ∧ base ≤ g ∧ g < w.heap.size := by
  rcases h.2 with ⟨_, h0⟩ | ⟨g, cap, cur, hv, hb, hg, hnc, hcm, _⟩
  · omega
  · exact ⟨g, cap, hv, hb, (Array.getElem?_eq_some_iff.1 hg).1⟩
theorem builtMk (e : Event) : Tryd.prog.built 88 [(0, .agg (Key.arr e.key)), (1, .agg (Key.arr e.parent)), (2, .agg (Id.arr e.root)), (3, .int .i64 e.hop), (4, .int .i64 e.node), (5, .int .i64 e.real), (6, .int .i64 (-1))] = some (Item.arr (T.mk e)) := by kernel_rfl
theorem T.grow1_new (out : List Item) (e : Event) (h : e.kind = 1 ∨ e.kind = 3) : T.grow1 out e = out ++ [T.mk e] := by unfold T.grow1; rw [if_pos h]
theorem T.grow1_end (out : List Item) (e : Event) (h : e.kind = 5 ∨ e.kind = 6 ∨ e.kind = 7) : T.grow1 out e = T.endFrom out e out.length := by unfold T.grow1; rw [if_neg (by omega), if_pos h]
theorem T.grow1_crash (out : List Item) (e : Event) (h : e.kind = 9) : T.grow1 out e = out.map (T.crash e) := by unfold T.grow1; rw [if_neg (by omega), if_neg (by omega), if_pos h]
theorem T.grow1_else (out : List Item) (e : Event) (h : ¬ (e.kind = 1 ∨ e.kind = 3)) (h2 : ¬ (e.kind = 5 ∨ e.kind = 6 ∨ e.kind = 7)) (h3 : ¬ e.kind = 9) : T.grow1 out e = out := by unfold T.grow1; rw [if_neg h, if_neg h2, if_neg h3]
/-- The tests of the switch. -/
structure KindIs (e : Event) (a b c d f g : Bool) : Prop where
  k1 : (e.kind == 1) = a
  k3 : (e.kind == 3) = b
  k5 : (e.kind == 5) = c
  k6 : (e.kind == 6) = d
  k7 : (e.kind == 7) = f
  k9 : (e.kind == 9) = g
theorem kinds (e : Event) : (KindIs e true false false false false false ∧ (e.kind = 1 ∨ e.kind = 3)) ∨ (KindIs e false true false false false false ∧ (e.kind = 1 ∨ e.kind = 3)) ∨ (KindIs e false false true false false false ∧ (e.kind = 5 ∨ e.kind = 6 ∨ e.kind = 7)) ∨
    (KindIs e false false false true false false ∧ (e.kind = 5 ∨ e.kind = 6 ∨ e.kind = 7)) ∨ (KindIs e false false false false true false ∧ (e.kind = 5 ∨ e.kind = 6 ∨ e.kind = 7)) ∨ (KindIs e false false false false false true ∧ e.kind = 9) ∨
    (KindIs e false false false false false false ∧ ¬ (e.kind = 1 ∨ e.kind = 3) ∧ ¬ (e.kind = 5 ∨ e.kind = 6 ∨ e.kind = 7) ∧ ¬ e.kind = 9) := by
  by_cases h1 : e.kind = 1
  · exact .inl ⟨⟨by simp [h1], by simp [h1], by simp [h1], by simp [h1], by simp [h1], by simp [h1]⟩, by omega⟩
  by_cases h3 : e.kind = 3
  · exact .inr (.inl ⟨⟨by simp [h3], by simp [h3], by simp [h3], by simp [h3], by simp [h3], by simp [h3]⟩, by omega⟩)
  by_cases h5 : e.kind = 5
  · exact .inr (.inr (.inl ⟨⟨by simp [h5], by simp [h5], by simp [h5], by simp [h5], by simp [h5], by simp [h5]⟩, by omega⟩))
  by_cases h6 : e.kind = 6
  · exact .inr (.inr (.inr (.inl ⟨⟨by simp [h6], by simp [h6], by simp [h6], by simp [h6], by simp [h6], by simp [h6]⟩, by omega⟩)))
  by_cases h7 : e.kind = 7
  · exact .inr (.inr (.inr (.inr (.inl ⟨⟨by simp [h7], by simp [h7], by simp [h7], by simp [h7], by simp [h7], by simp [h7]⟩, by omega⟩))))
  by_cases h9 : e.kind = 9
  · exact .inr (.inr (.inr (.inr (.inr (.inl ⟨⟨by simp [h9], by simp [h9], by simp [h9], by simp [h9], by simp [h9], by simp [h9]⟩, h9⟩)))))
  · exact .inr (.inr (.inr (.inr (.inr (.inr ⟨⟨by simpa using h1, by simpa using h3, by simpa using h5, by simpa using h6, by simpa using h7, by simpa using h9⟩, by omega, by omega, h9⟩)))))
theorem T.end_hit (out : List Item) (e : Event) (q : Nat) (x : Item) (hx : out[q]? = some x) (h : x.key = e.key) (h2 : x.node = e.node) (h3 : x.how = 0) : T.endFrom out e (q + 1) = out.set q (T.over x e) := by simp [T.endFrom, hx, h, h2, h3]
theorem T.end_was (out : List Item) (e : Event) (q : Nat) (x : Item) (hx : out[q]? = some x) (h : x.key = e.key) (h2 : x.node = e.node) (h3 : ¬ x.how = 0) : T.endFrom out e (q + 1) = out := by simp [T.endFrom, hx, h, h2, h3]
theorem T.end_miss (out : List Item) (e : Event) (q : Nat) (x : Item) (hx : out[q]? = some x) (h : ¬ (x.key = e.key ∧ x.node = e.node)) : T.endFrom out e (q + 1) = T.endFrom out e q := by rw [T.endFrom, hx]; simp only [if_neg h]
theorem T.crash_step (out : List Item) (e : Event) (j : Nat) (x : Item) (hx : out[j]? = some x) : (out.take (j + 1)).map (T.crash e) ++ out.drop (j + 1) = ((out.take j).map (T.crash e) ++ out.drop j).set j (T.crash e x) := by
  have hj := (List.getElem?_eq_some_iff.1 hx).1
  have hx' := (List.getElem?_eq_some_iff.1 hx).2
  rw [List.set_append, if_neg (by simp; omega)]
  simp only [List.length_map, List.length_take, Nat.min_eq_left (Nat.le_of_lt hj), Nat.sub_self]
  rw [List.take_add_one, hx, List.drop_eq_getElem_cons hj, hx']
  simp
theorem T.crash_at (out : List Item) (e : Event) (j : Nat) (x : Item) (hx : out[j]? = some x) : ((out.take j).map (T.crash e) ++ out.drop j)[j]? = some x := by
  have hj := (List.getElem?_eq_some_iff.1 hx).1
  rw [List.getElem?_append_right (by simp; omega)]
  simp [Nat.min_eq_left (Nat.le_of_lt hj), hx]
theorem T.crash_keep (out : List Item) (e : Event) (j : Nat) (x : Item) (hx : out[j]? = some x) (h : ¬ (x.node = e.node ∧ x.how = 0)) : (out.take (j + 1)).map (T.crash e) ++ out.drop (j + 1) = (out.take j).map (T.crash e) ++ out.drop j := by
  have hc : T.crash e x = x := by unfold T.crash; rw [if_neg h]
  rw [T.crash_step out e j x hx, hc]
  have ha := T.crash_at out e j x hx
  apply List.ext_getElem?
  intro i
  rw [List.getElem?_set]
  split
  · rename_i hij
    subst hij
    rw [if_pos (List.getElem?_eq_some_iff.1 ha).1, ha]
  · rfl
theorem T.crash_hit (x : Item) (e : Event) (h : x.node = e.node) (h2 : x.how = 0) : T.crash e x = T.over x { e with code := 0 } := by unfold T.crash; rw [if_pos ⟨h, h2⟩]
set_option maxRecDepth 100000 in
set_option maxHeartbeats 4000000 in
theorem grow_c (v : Value) (l : List Event) (w : World) (h : Sl Event.arr 18 w.heap.size w v l) (hn : l.length ≤ 100000) :
    Calls Tryd.prog 59 #[v] w fun e w' => ∃ u, e = .returned u ∧ Own Item.arr 17 w.heap.size 88 w' u (T.grow l) ∧ Below w.heap.size w w' := by
  obtain ⟨A, cap, rfl, hcap, hl1, hl2⟩ := h.view
  go_enter Tryd.func59, Tryd.ntmps59
  go_wp2
  go_step3
  go_wp2
  go_step3
  go_wp2
  go_loopg [3, 11] l.length (fun m ov iv wr => ∃ k : Nat, k + m = l.length ∧ iv = .int .i64 (k : Int) ∧ Own Item.arr 17 w.heap.size 88 wr ov (T.grow (l.take k)) ∧ Below w.heap.size w wr)
  case atStart => exact ⟨0, Nat.zero_add _, rfl, Own.nil, Below.refl _ _⟩
  case round =>
    obtain ⟨k, hk, rfl, hown, hB⟩ := hrel
    obtain ⟨go, hgo⟩ : ∃ go, go = gk := ⟨_, rfl⟩
    subst hgo
    by_cases hkl : k < l.length
    · obtain ⟨b, off, rfl, hb, hrow, _⟩ := (h.below hB).at hkl
      obtain ⟨e, he⟩ : ∃ e, e = l[k] := ⟨_, rfl⟩
      rw [← he] at hrow
      have hnext : T.grow (l.take (k + 1)) = T.grow1 (T.grow (l.take k)) e := by rw [← T.grow_snoc, he]; simp
      have hlen : (T.grow (l.take k)).length ≤ k := by have := T.grow_len (l.take k); simp at this; omega
      obtain ⟨out, hout⟩ : ∃ out, out = T.grow (l.take k) := ⟨_, rfl⟩
      rw [← hout] at hown hnext hlen
      have HN := Lib.hid hnext
      have hsz := hB.size
      obtain ⟨w1, hw1⟩ : ∃ w1, w1 = wr.alloc (Obj.cells (Event.arr e) 85) := ⟨_, rfl⟩
      obtain ⟨B1, hB1⟩ : ∃ B1, B1 = wr.heap.size := ⟨_, rfl⟩
      have hev : w1.heap[B1]? = some (.cells (Event.arr e) 85 (0, 0)) := by rw [hw1, hB1]; exact heap_alloc_new _ _
      have hBw1 : Below w.heap.size w w1 := by rw [hw1]; exact hB.alloc hsz _
      have hown1 : Own Item.arr 17 w.heap.size 88 w1 u3 out := by rw [hw1]; exact hown.alloc _
      have hs1 : w1.heap.size = B1 + 1 := by rw [hw1, hB1]; simp
      have hwB : w.heap.size ≤ B1 := by omega
      have HOUT := Lib.hid hout
      clear he hnext hout
      rcases kinds e with ⟨⟨k1, k3, k5, k6, k7, k9⟩, hkind⟩ | ⟨⟨k1, k3, k5, k6, k7, k9⟩, hkind⟩ | ⟨⟨k1, k3, k5, k6, k7, k9⟩, hkind⟩ | ⟨⟨k1, k3, k5, k6, k7, k9⟩, hkind⟩ | ⟨⟨k1, k3, k5, k6, k7, k9⟩, hkind⟩ | ⟨⟨k1, k3, k5, k6, k7, k9⟩, hkind⟩ | ⟨⟨k1, k3, k5, k6, k7, k9⟩, hkind⟩
      case inr.inr.inr.inr.inr.inr =>
        have HG := Lib.hid (T.grow1_else out e hkind.1 hkind.2.1 hkind.2.2)
        clear hkind
        go_wp2_with (first | (refine wpList_load_at rfl 85 _ rfl _ (off + k * 18) 18 rfl _ _ hrow rfl rfl rfl ?_) | (refine wpList_store_new rfl _ _ _ rfl wr.heap.size (Event.arr e) _ _ rfl rfl rfl rfl rfl (Event.one e) ?_))
        rw [← hw1]
        go_roundg (go - 1)
        case measure => omega
        case rel => exact ⟨k + 1, by omega, by go_num, by rw [HN.out, HG.out]; exact hown1, hBw1⟩
      case inr.inr.inr.inr.inr.inl =>
        have HG := Lib.hid (T.grow1_crash out e hkind)
        clear hkind
        obtain ⟨uA, un, uc, rfl⟩ := hown1.shape
        have hun := own_len hown1
        obtain ⟨w2, hw2⟩ : ∃ w2, w2 = wr.alloc (Obj.cells (Event.arr { e with code := 0 }) 85) := ⟨_, rfl⟩
        have hgB : ∀ q, (Value.slice uA un uc).ownBlock = some q → q < B1 := fun q hq => by have := (hown.lt q hq).2; omega
        have hown2 : Own Item.arr 17 w.heap.size 88 w2 (.slice uA un uc) out := by rw [hw2]; exact hown.alloc _
        have rB : rowAt w2 B1 0 18 = some (Event.arr { e with code := 0 }) := by rw [hw2, hB1]; exact rowAt_new _ _ _ _ _ rfl
        have hBw2 : Below w.heap.size w w2 := by rw [hw2]; exact hB.alloc hsz _
        have hs2 : w2.heap.size = B1 + 1 := by rw [hw2, hB1]; simp
        go_wp2_with (first | (refine wpList_load_at rfl 85 _ rfl _ (off + k * 18) 18 rfl _ _ hrow rfl rfl rfl ?_) | (refine wpList_store_new rfl _ _ _ rfl wr.heap.size (Event.arr e) _ _ rfl rfl rfl rfl rfl (Event.one e) ?_))
        rw [← hw2, ← hB1]
        have hB1g : B1 < w2.heap.size := by omega
        clear hrow hown hB hw1 hB1 hev h hw2 hown1 hs1 hBw1
        subst hun
        go_loopg [81] out.length (fun m iv wi => ∃ j, j + m = out.length ∧ iv = .int .i64 (j : Int) ∧ Own Item.arr 17 w.heap.size 88 wi (.slice uA out.length uc) ((out.take j).map (T.crash e) ++ out.drop j) ∧ rowAt wi B1 0 18 = some (Event.arr { e with code := 0 }) ∧ B1 < wi.heap.size ∧ Below w.heap.size w wi)
        case atStart => exact ⟨0, Nat.zero_add _, rfl, by simpa using hown2, rB, hB1g, hBw2⟩
        case round =>
          obtain ⟨j, hj, rfl, hownj, rBj, hBs, hBj⟩ := hrel
          by_cases hjl : j < out.length
          · obtain ⟨x, hx⟩ : ∃ x, out[j]? = some x := ⟨_, List.getElem?_eq_getElem hjl⟩
            have hxa := T.crash_at out e j x hx
            obtain ⟨g, cg, hv, hgb, hgs⟩ := own_block hownj (by have := (List.getElem?_eq_some_iff.1 hxa).1; omega)
            rw [show ((out.take j).map (T.crash e) ++ out.drop j).length = out.length by simp; omega] at hv
            cases hv
            have hgB1 := hgB g rfl
            have hr := hownj.row Item.sz j x hxa
            obtain ⟨w3, hw3⟩ : ∃ w3, w3 = wr.alloc (Obj.cells (Item.arr x) 88) := ⟨_, rfl⟩
            have n2 := rowAt_cell ((rowAt_alloc_old wr (Obj.cells (Item.arr x) 88) B1 0 18 hBs).trans rBj) 2 (by omega)
            rw [Event.at2, Nat.zero_add] at n2
            have HX := Lib.hid hx
            have HXA := Lib.hid hxa
            clear hx hxa
            by_cases c1 : x.node = e.node ∧ x.how = 0
            · obtain ⟨c1, c2⟩ := c1
              have HS := Lib.hid (T.crash_step out e j x HX.out)
              have HC := Lib.hid (T.crash_hit x e c1 c2)
              have c1' : (x.node == e.node) = true := by simpa using c1
              have c2' : (x.how == 0) = true := by simpa using c2
              clear c1 c2
              go_wp2_with (first | (refine wpList_load_at rfl 88 _ rfl _ (j * 17) 17 rfl _ _ hr rfl rfl rfl ?_) | (refine wpList_store_new rfl _ _ _ rfl wr.heap.size (Item.arr x) _ _ rfl rfl rfl rfl rfl (Item.one x) ?_))
              rw [← hw3]
              have hown3 : Own Item.arr 17 w.heap.size 88 w3.drew (.slice (some ⟨g, 0, none⟩) out.length uc) ((out.take j).map (T.crash e) ++ out.drop j) := by rw [hw3]; exact (hownj.alloc _).drew
              have rB3 : rowAt w3.drew B1 0 18 = some (Event.arr { e with code := 0 }) := by rw [hw3]; exact (rowAt_alloc_old wr _ B1 0 18 hBs).trans rBj
              have hB3 : Below w.heap.size w w3 := by rw [hw3]; exact hBj.alloc hBj.size _
              have hs3 : w3.heap.size = wr.heap.size + 1 := by rw [hw3]; simp
              have hov := over_c w.heap.size g out.length uc _ j x HXA.out { e with code := 0 } _ hown3
              clear hw3 hr
              refine wp_region_tail 4 (by kernel_rfl) (by kernel_rfl) ?_
              simp only [List.take_succ_cons, List.take_zero, List.drop_succ_cons, List.drop_zero]
              repeat ((fail_if_success (with_reducible refine wpQuiet_nil ?_)); (first | go_big_quiet_skip | (refine wpQuiet_load_tail (by rfl) 85 _ rfl _ 0 18 rfl _ _ rB3 rfl rfl rfl ?_; simp only [Act.put, List.setIfInBounds_toArray, List.set_cons_succ, List.set_cons_zero]) | go_big_quiet_step (fail)))
              refine wpQuiet_nil ?_
              go_wp2_with (go_at_call 90; (with_reducible refine hov.mono ?_); rintro e' w6 ⟨⟨v6, rfl⟩, hown6, hK6⟩)
              rw [← HC.out, ← HS.out] at hown6
              go_roundg (gk - 1)
              case measure => omega
              case rel => exact ⟨j + 1, by omega, by go_num, hown6, (rowAt_block (hK6.block B1 (by simp; omega) (by omega))).trans rB3, by have := hK6.size; simp at this; omega, hB3.drew.trans (hK6.below hgb (by simp; omega))⟩
            · have HS := Lib.hid (T.crash_keep out e j x HX.out c1)
              have hd : (x.node == e.node) = false ∨ (x.node == e.node) = true ∧ (x.how == 0) = false := by
                by_cases d : x.node = e.node
                · exact .inr ⟨by simpa using d, by simp; intro h0; exact c1 ⟨d, h0⟩⟩
                · exact .inl (by simpa using d)
              clear c1
              rcases hd with d1 | ⟨d1, d2⟩
              all_goals
                go_wp2_with (first | (refine wpList_load_at rfl 88 _ rfl _ (j * 17) 17 rfl _ _ hr rfl rfl rfl ?_) | (refine wpList_store_new rfl _ _ _ rfl wr.heap.size (Item.arr x) _ _ rfl rfl rfl rfl rfl (Item.one x) ?_))
                go_roundg (gk - 1)
                case measure => omega
                case rel => exact ⟨j + 1, by omega, by go_num, by rw [HS.out]; exact hownj.alloc _, (rowAt_alloc_old wr _ B1 0 18 hBs).trans rBj, by simp; omega, hBj.alloc (hBj.size) _⟩
          · obtain rfl : j = out.length := by omega
            rw [List.take_of_length_le (Nat.le_refl _), List.drop_of_length_le (Nat.le_refl _), List.append_nil] at hownj
            go_wp2
            go_roundg (go - 1)
            case measure => omega
            case rel => exact ⟨k + 1, by omega, by go_num, by rw [HN.out, HG.out]; exact hownj, hBj⟩
      case inr.inr.inl | inr.inr.inr.inl | inr.inr.inr.inr.inl =>
        have HG := Lib.hid (T.grow1_end out e hkind)
        have rB : rowAt w1 B1 0 18 = some (Event.arr e) := by rw [hw1, hB1]; exact rowAt_new _ _ _ _ _ rfl
        obtain ⟨uA, un, uc, rfl⟩ := hown1.shape
        have hun := own_len hown1
        go_wp2_with (first | (refine wpList_load_at rfl 85 _ rfl _ (off + k * 18) 18 rfl _ _ hrow rfl rfl rfl ?_) | (refine wpList_store_new rfl _ _ _ rfl wr.heap.size (Event.arr e) _ _ rfl rfl rfl rfl rfl (Event.one e) ?_))
        rw [← hw1, ← hB1]
        have hB1g : B1 < w1.heap.size := by omega
        clear hrow hown hB hw1 hB1 hev hkind h
        subst hun
        go_loopg [6] out.length (fun m iv wi => m ≤ out.length ∧ iv = .int .i64 ((m : Int) - 1) ∧ Hid (T.endFrom out e out.length = T.endFrom out e m) ∧ Below w1.heap.size w1 wi)
        case atStart => exact ⟨Nat.le_refl _, rfl, Lib.hid rfl, Below.refl _ _⟩
        case round =>
          obtain ⟨hgl, rfl, heq, hBi⟩ := hrel
          have hBw : Below w.heap.size w wr := hBw1.trans (hBi.mono hBw1.size)
          have hownI := hown1.below hBi
          cases gk with
          | zero =>
            rw [show (((0 : Nat) : Int) - 1) = -1 from rfl]
            go_wp2
            go_roundg (go - 1)
            case measure => omega
            case rel => exact ⟨k + 1, by omega, by go_num, by rw [HN.out, HG.out, heq.out]; exact hownI, hBw⟩
          | succ q =>
            rw [show (((q + 1 : Nat) : Int) - 1) = (q : Int) by omega]
            obtain ⟨x, hx⟩ : ∃ x, out[q]? = some x := ⟨_, List.getElem?_eq_getElem (by omega)⟩
            obtain ⟨g, cg, hv, hgb, hgs⟩ := own_block hown1 (by omega)
            cases hv
            have hr := hownI.row Item.sz q x hx
            have hrB := (rowAt_block (hBi.block B1 hB1g)).trans rB
            have k1' := (rowAt_part hr 0 4 (by omega)).trans (congrArg some (Item.part_key x))
            have k2' := (rowAt_part hrB 4 4 (by omega)).trans (congrArg some (Event.part_key e))
            rw [Nat.add_zero] at k1'
            rw [Nat.zero_add] at k2'
            have n1 := rowAt_cell hr 12 (by omega)
            have n2 := rowAt_cell hrB 2 (by omega)
            have n3 := rowAt_cell hr 15 (by omega)
            rw [Item.at12] at n1
            rw [Event.at2, Nat.zero_add] at n2
            rw [Item.at15] at n3
            have m1 := bw_then (Below.refl _ wr) n1
            have m2 := bw_then (Below.refl _ wr) n2
            have HX := Lib.hid hx
            clear hr hx
            by_cases c1 : x.key = e.key
            case neg =>
              go_wp2
              refine wp_region_calm (by kernel_rfl) (by kernel_rfl) ?_
              repeat ((fail_if_success (with_reducible refine wpQuiet_nil ?_)); (first | go_big_quiet_skip | (refine wpQuiet_load_at (by rfl) 46 _ rfl _ (q*17) 4 rfl _ _ k1' rfl rfl rfl ?_; simp only [Act.put, List.setIfInBounds_toArray, List.set_cons_succ, List.set_cons_zero]) | (refine wpQuiet_load_at (by rfl) 46 _ rfl _ 4 4 rfl _ _ k2' rfl rfl rfl ?_; simp only [Act.put, List.setIfInBounds_toArray, List.set_cons_succ, List.set_cons_zero]) | go_big_quiet_step (fail)))
              refine wpQuiet_nil ?_
              rintro _ ⟨⟨w5, hb5⟩, rfl⟩
              go_wp2
              go_roundg q
              case measure => omega
              case rel => exact ⟨by omega, by go_num, Lib.hid (heq.out.trans (T.end_miss out e q x HX.out (fun h => c1 h.1))), bthen hBi hb5⟩
            case pos =>
              by_cases c2 : x.node = e.node
              case neg =>
                have c2' : (x.node != e.node) = true := by simpa using c2
                have c2'' : (x.node == e.node) = false := by simpa using c2
                go_wp2
                refine wp_region_calm (by kernel_rfl) (by kernel_rfl) ?_
                repeat ((fail_if_success (with_reducible refine wpQuiet_nil ?_)); (first | go_big_quiet_skip | (refine wpQuiet_load_at (by rfl) 46 _ rfl _ (q*17) 4 rfl _ _ k1' rfl rfl rfl ?_; simp only [Act.put, List.setIfInBounds_toArray, List.set_cons_succ, List.set_cons_zero]) | (refine wpQuiet_load_at (by rfl) 46 _ rfl _ 4 4 rfl _ _ k2' rfl rfl rfl ?_; simp only [Act.put, List.setIfInBounds_toArray, List.set_cons_succ, List.set_cons_zero]) | go_big_quiet_step (fail)))
                refine wpQuiet_nil ?_
                rintro _ ⟨⟨w5, hb5⟩, rfl⟩
                go_wp2
                go_roundg q
                case measure => omega
                case rel => exact ⟨by omega, by go_num, Lib.hid (heq.out.trans (T.end_miss out e q x HX.out (fun h => c2 h.2))), bthen hBi hb5⟩
              case pos =>
                have c2' : (x.node != e.node) = false := by simpa using c2
                have hb5s : (true : Bool) = true := rfl
                by_cases c3 : x.how = 0
                case neg =>
                  have c3' : (x.how == 0) = false := by simpa using c3
                  have HE := Lib.hid (heq.out.trans (T.end_was out e q x HX.out c1 c2 c3))
                  have C1 := Lib.hid c1
                  have C2 := Lib.hid c2
                  have c1b : decide (x.key = e.key) = true := by simpa using c1
                  clear c2
                  go_wp2
                  refine wp_region_calm (by kernel_rfl) (by kernel_rfl) ?_
                  repeat ((fail_if_success (with_reducible refine wpQuiet_nil ?_)); (first | go_big_quiet_skip | (refine wpQuiet_load_at (by rfl) 46 _ rfl _ (q*17) 4 rfl _ _ k1' rfl rfl rfl ?_; simp only [Act.put, List.setIfInBounds_toArray, List.set_cons_succ, List.set_cons_zero]) | (refine wpQuiet_load_at (by rfl) 46 _ rfl _ 4 4 rfl _ _ k2' rfl rfl rfl ?_; simp only [Act.put, List.setIfInBounds_toArray, List.set_cons_succ, List.set_cons_zero]) | go_big_quiet_step (fail)))
                  refine wpQuiet_nil ?_
                  rintro _ ⟨⟨w5, hb5⟩, rfl⟩
                  have n5 := (hb5.cell (p := ⟨g, q * 17 + 15, none⟩) (Nat.lt_of_lt_of_le hgs hBi.size)).trans n3
                  go_wp2
                  go_roundg (go - 1)
                  case measure => omega
                  case rel => exact ⟨k + 1, by omega, by go_num, by rw [HN.out, HG.out, HE.out]; exact hownI.below hb5, bthen hBw hb5⟩
                case pos =>
                  have c3' : (x.how == 0) = true := by simpa using c3
                  have HE := Lib.hid (heq.out.trans (T.end_hit out e q x HX.out c1 c2 c3))
                  have c1b : decide (x.key = e.key) = true := by simpa using c1
                  clear c2 c3
                  go_wp2
                  refine wp_region_calm (by kernel_rfl) (by kernel_rfl) ?_
                  repeat ((fail_if_success (with_reducible refine wpQuiet_nil ?_)); (first | go_big_quiet_skip | (refine wpQuiet_load_at (by rfl) 46 _ rfl _ (q*17) 4 rfl _ _ k1' rfl rfl rfl ?_; simp only [Act.put, List.setIfInBounds_toArray, List.set_cons_succ, List.set_cons_zero]) | (refine wpQuiet_load_at (by rfl) 46 _ rfl _ 4 4 rfl _ _ k2' rfl rfl rfl ?_; simp only [Act.put, List.setIfInBounds_toArray, List.set_cons_succ, List.set_cons_zero]) | go_big_quiet_step (fail)))
                  refine wpQuiet_nil ?_
                  rintro _ ⟨⟨w5, hb5⟩, rfl⟩
                  have hown5 := (hownI.below hb5).drew
                  have rB5 := (rowAt_block (hb5.block B1 (by have := hBi.size; omega))).trans hrB
                  have n5 := (hb5.cell (p := ⟨g, q * 17 + 15, none⟩) (Nat.lt_of_lt_of_le hgs hBi.size)).trans n3
                  have hov := over_c w.heap.size g out.length uc out q x HX.out e _ hown5
                  go_wp2
                  refine wp_region_tail 4 (by kernel_rfl) (by kernel_rfl) ?_
                  simp only [List.take_succ_cons, List.take_zero, List.drop_succ_cons, List.drop_zero]
                  repeat ((fail_if_success (with_reducible refine wpQuiet_nil ?_)); (first | go_big_quiet_skip | (refine wpQuiet_load_tail (by rfl) 85 _ rfl _ 0 18 rfl _ _ rB5 rfl rfl rfl ?_; simp only [Act.put, List.setIfInBounds_toArray, List.set_cons_succ, List.set_cons_zero]) | go_big_quiet_step (fail)))
                  refine wpQuiet_nil ?_
                  go_wp2_with (go_at_call 90; (with_reducible refine hov.mono ?_); rintro e' w6 ⟨⟨v6, rfl⟩, hown6, hK6⟩)
                  go_roundg (go - 1)
                  case measure => omega
                  case rel => exact ⟨k + 1, by omega, by go_num, by rw [HN.out, HG.out, HE.out]; exact hown6, (bthen hBw hb5).drew.trans (hK6.below hgb (by have := hb5.size; have := hBi.size; simp; omega))⟩
      all_goals
        have HG := Lib.hid (T.grow1_new out e hkind)
        have p1 : rowAt (wr.alloc (Obj.cells (Event.arr e) 85)) wr.heap.size 4 4 = some (Key.arr e.key) := (rowAt_new_part _ _ _ _ _ _ _ rfl (Nat.le_of_ble_eq_true rfl)).trans (congrArg some (Event.part_key e))
        have p2 : rowAt (wr.alloc (Obj.cells (Event.arr e) 85)) wr.heap.size 8 4 = some (Key.arr e.parent) := (rowAt_new_part _ _ _ _ _ _ _ rfl (Nat.le_of_ble_eq_true rfl)).trans (congrArg some (Event.part_parent e))
        have p3 : rowAt (wr.alloc (Obj.cells (Event.arr e) 85)) wr.heap.size 12 3 = some (Id.arr e.root) := (rowAt_new_part _ _ _ _ _ _ _ rfl (Nat.le_of_ble_eq_true rfl)).trans (congrArg some (Event.part_root e))
        have p4 : rowAt ((wr.alloc (Obj.cells (Event.arr e) 85)).alloc (Obj.cells (Item.arr (T.mk e)) 88)) (wr.heap.size + 1) 0 17 = some (Item.arr (T.mk e)) := rowAt_new _ _ _ _ _ (by simp)
        clear hkind hev hw1 hB1 hBw1 hown1 hs1 hwB
        go_wp2_with (first | (refine wpList_load_at rfl 85 _ rfl _ (off + k * 18) 18 rfl _ _ hrow rfl rfl rfl ?_) | (refine wpList_store_new rfl _ _ _ rfl wr.heap.size (Event.arr e) _ _ rfl rfl rfl rfl rfl (Event.one e) ?_) | (refine wpList_load_at rfl 46 _ rfl _ (4) 4 rfl _ _ p1 rfl rfl rfl ?_) | (refine wpList_load_at rfl 46 _ rfl _ (8) 4 rfl _ _ p2 rfl rfl rfl ?_) | (refine wpList_load_at rfl 38 _ rfl _ (12) 3 rfl _ _ p3 rfl rfl rfl ?_) | (refine wpList_build_at rfl _ _ rfl _ ?_ _ (builtMk e) ?_; rfl) | (refine wpList_slice1 rfl _ 88 _ rfl (Item.arr (T.mk e)) 17 136 Tryd.underlying24 (by kernel_rfl) (by decide) rfl rfl (wr.heap.size + 1) (by simp) ?_) | (at_builtin; refine wpList_append1 Item.arr 17 rfl _ _ _ rfl w.heap.size 88 136 Tryd.underlying24 (by kernel_rfl) (by decide) _ out (T.mk e) rfl ((hown.alloc _).alloc _) (wr.heap.size + 1) rfl p4 (Item.one (T.mk e)) (by omega) (by omega) (by simp <;> omega) ?_; intro v' w' hown' hgr' hbel'))
        clear hgr'
        go_roundg (go - 1)
        case measure => omega
        case rel => exact ⟨k + 1, by omega, by go_num, by rw [HN.out, HG.out]; exact hown', ((hB.alloc hsz _).alloc (by simp; omega) _).trans hbel'⟩
    · rw [List.take_of_length_le (by omega)] at hown
      go_wp2
      try rw [Exit.noGoto_ret]
      go_ret
      exact ⟨_, rfl, hown, hB⟩
end Go.Proofs.YtcncmbcnekekdaaDoor
