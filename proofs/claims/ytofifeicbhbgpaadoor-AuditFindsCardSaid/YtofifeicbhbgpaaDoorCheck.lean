/- audit.Check. -/
import Derived.Test.YtofifeicbhbgpaaDoorWrong
namespace Go.Proofs.YtofifeicbhbgpaaDoor
open Go.RowKit Go.Shelf
set_option linter.unusedVariables false
set_option linter.unusedSimpArgs false
attribute [local go_sem] Event.sz Config.sz Find.sz
/-- As wpList_append1, with where the new slice lies. -/
theorem wpList_append2 {P : Program} {ops : Array Oper} {rest : List Oper} {o : Oper} {a : Act} {w : World} {Q : Exit → Act → World → Prop} {α : Type} (arr : α → Array Value) (sz : Nat) (hgd : o.guard = none) (s x : Operand) (t : TypeId)
    (ho : o.op = .call { callee := .builtin .append, args := #[s, x], argTypes := #[t, t] })
    (base : Nat) (e : TypeId) (bytes : Nat) (ht : P.underlying t = some (.slice e)) (hi : rowInfo P e = some (sz, bytes)) (hsz : 0 < sz)
    (v : Value) (xs : List α) (y : α) (hs : a.eval s = v) (hown : Own arr sz base e w v xs)
    (g : Nat) (hx : a.eval x = .slice (some ⟨g, 0, none⟩) 1 1) (hy : rowAt w g 0 sz = some (arr y)) (h1 : (arr y).all (·.oneCell') = true)
    (hbytes : (xs.length + 1) * bytes ≤ 140737488355328) (h63 : xs.length < 9223372036854775807) (hbase : base ≤ w.heap.size)
    (h : ∀ v' w', Own arr sz base e w' v' (xs ++ [y]) → w.grownBy w' v.ownBlock → Below base w w' → (v'.ownBlock = v.ownBlock ∨ v'.ownBlock = some w.heap.size) → wpList P ops Q rest (a.put o.dst v') w') : wpList P ops Q (o :: rest) a w :=
  wpList_plain hgd fun K hK => wp_append1 arr sz s x t ho base e bytes ht hi hsz v xs y hs hown g hx hy h1 hbytes h63 hbase fun v' w' a1 a2 a3 a4 => hK _ _ (h v' w' a1 a2 a3 a4)
def T.found (c : Config) (xs : List Event) (at_ : Nat) (e : Event) : Nat → List Find
  | 0 => []
  | k + 1 => T.found c xs at_ e k ++ (if T.wrong c xs ((k : Int) + 1) e = true then [⟨(k : Int) + 1, at_⟩] else [])
def T.chk (c : Config) (l : List Event) : Nat → List Find
  | 0 => []
  | n + 1 => T.chk c l n ++ (match l[n]? with | some e => T.found c (l.take n) n e 12 | none => [])
theorem T.found_len (c : Config) (xs : List Event) (at_ : Nat) (e : Event) (k : Nat) : (T.found c xs at_ e k).length ≤ k := by
  induction k with
  | zero => simp [T.found]
  | succ k ih => simp only [T.found, List.length_append]; split <;> simp <;> omega
theorem T.chk_len (c : Config) (l : List Event) (n : Nat) : (T.chk c l n).length ≤ 12 * n := by
  induction n with
  | zero => simp [T.chk]
  | succ n ih =>
    simp only [T.chk, List.length_append]
    cases l[n]? with
    | none => simp; omega
    | some e => have := T.found_len c (l.take n) n e 12; simp only; omega
theorem T.chk_succ (c : Config) (l : List Event) (n : Nat) (e : Event) (h : l[n]? = some e) : T.chk c l (n + 1) = T.chk c l n ++ T.found c (l.take n) n e 12 := by simp [T.chk, h]
set_option maxRecDepth 100000 in
set_option maxHeartbeats 4000000 in
theorem check_c (v : Value) (l : List Event) (c : Config) (w : World) (h : Sl Event.arr 18 w.heap.size w v l) (hn : l.length ≤ 1000) (hok : ∀ e ∈ l, e.hop ≤ 9223372036854775807) :
    Calls Tryd.prog 6 #[.agg (Config.arr c), v] w fun r w' => ∃ u, r = .returned u ∧ Own Find.arr 2 w.heap.size 57 w' u (T.chk c l l.length) ∧ Below w.heap.size w w' := by
  obtain ⟨A, cap, rfl, hcap, hl1, hl2⟩ := h.view
  obtain ⟨W0, hW0⟩ : ∃ W0, W0 = w.alloc (Obj.cells (Config.arr c) 24) := ⟨_, rfl⟩
  have hs0 : W0.heap.size = w.heap.size + 1 := by rw [hW0]; simp
  have hB0 : Below w.heap.size w W0 := by rw [hW0]; exact (Below.refl _ w).alloc (Nat.le_refl _) _
  have rC : rowAt W0 w.heap.size 0 14 = some (Config.arr c) := by rw [hW0]; exact rowAt_new _ _ _ _ _ rfl
  have HW := Lib.hid hW0
  have HOK := Lib.hid hok
  clear hW0 hok
  go_enter Tryd.func6, Tryd.ntmps6
  go_wp2
  rw [← HW.out]
  go_loopw [5, 11] (fun u i wr => ∃ k : Nat, k ≤ l.length ∧ i = .int .i64 (k : Int) ∧ Own Find.arr 2 (w.heap.size + 1) 57 wr u (T.chk c l k) ∧ Below (w.heap.size + 1) W0 wr) (fun _ i _ => l.length - (intOf i).toNat)
  case atStart => exact ⟨0, Nat.zero_le _, rfl, Own.nil, Below.refl _ _⟩
  case round =>
    obtain ⟨k, hk, rfl, hown, hB⟩ := hrel
    by_cases hkl : k < l.length
    · have hSr := (h.below hB0).mono hB0.size
      rw [hs0] at hSr
      have hSr := (hSr.below hB).mono (show w.heap.size + 1 ≤ wr.heap.size by have := hB.size; omega)
      obtain ⟨b, off, rfl, hb, hrow, _⟩ := hSr.at hkl
      obtain ⟨e, he⟩ : ∃ e, e = l[k] := ⟨_, rfl⟩
      rw [← he] at hrow
      have heo : l[k]? = some e := by rw [he]; exact List.getElem?_eq_getElem hkl
      have hhop := HOK.out e (List.mem_of_getElem? heo)
      have hcs := Lib.hid (T.chk_succ c l k e heo)
      have hcl := T.chk_len c l k
      clear he heo
      obtain ⟨L, hL⟩ : ∃ L, L = T.chk c l k := ⟨_, rfl⟩
      rw [← hL] at hown hcl hcs
      clear hL
      have hwz : w.heap.size + 1 ≤ wr.heap.size := by have := hB.size; omega
      have hne : u5.ownBlock ≠ some wr.heap.size := fun hh => by have := hown.lt _ hh; omega
      have HNE := Lib.hid hne
      clear hne
      go_wp2_with (first | (refine wpList_load_at rfl 55 _ rfl _ (off + k * 18) 18 rfl _ _ hrow rfl rfl rfl ?_) | (refine wpList_store_new rfl _ _ _ rfl wr.heap.size (Event.arr e) _ _ rfl rfl rfl rfl rfl (Event.one _) ?_))
      have hS1 := (hSr.below ((Below.refl _ wr).alloc (Nat.le_refl _) (Obj.cells (Event.arr e) 55))).mono (show wr.heap.size ≤ (wr.alloc (Obj.cells (Event.arr e) 55)).heap.size by simp)
      have hSt := hS1.take k hk
      have r1 : rowAt (wr.alloc (Obj.cells (Event.arr e) 55)) wr.heap.size 0 18 = some (Event.arr e) := rowAt_new _ _ _ _ _ rfl
      have hown1 := hown.alloc (Obj.cells (Event.arr e) 55)
      have hB1 := hB.alloc hwz (Obj.cells (Event.arr e) 55)
      obtain ⟨g, hg⟩ : ∃ g, g = wr.heap.size := ⟨_, rfl⟩
      rw [← hg] at r1 HNE ⊢
      obtain ⟨W1, hW1⟩ : ∃ W1, W1 = wr.alloc (Obj.cells (Event.arr e) 55) := ⟨_, rfl⟩
      have hs1 : g < W1.heap.size := by rw [hW1]; simp; omega
      rw [← hW1] at r1 hown1 hB1 ⊢
      have HSL : ∀ X : World, Below (w.heap.size + 1) W0 X → Sl Event.arr 18 X.heap.size X (.slice (some ⟨b, off, none⟩) k cap) (l.take k) := fun X hX => by
        have := (h.below hB0).mono hB0.size
        rw [hs0] at this
        exact ((this.below hX).mono (show w.heap.size + 1 ≤ X.heap.size by have := hX.size; omega)).take k hk
      clear hW1 hrow hown hB hSr hS1 hSt hg
      go_loopw [5, 8] (fun u q X => ∃ j : Nat, j ≤ 12 ∧ q = .int .i64 ((j : Int) + 1) ∧ Own Find.arr 2 (w.heap.size + 1) 57 X u (L ++ T.found c (l.take k) k e j) ∧ Below (w.heap.size + 1) W0 X ∧ rowAt X g 0 18 = some (Event.arr e) ∧ Hid (u.ownBlock ≠ some g) ∧ g < X.heap.size) (fun _ q _ => 13 - (intOf q).toNat)
      case atStart => exact ⟨0, by omega, rfl, by simpa [T.found] using hown1, hB1, r1, HNE, by omega⟩
      case round =>
        obtain ⟨j, hj, rfl, hownX, hBX, rX, hneX, hgX⟩ := hrel
        by_cases hj12 : j < 12
        · have hwr := fun X hX => wrong_c ((j : Int) + 1) (by omega) (by omega) (.slice (some ⟨b, off, none⟩) k cap) (l.take k) c e hhop (by simp; omega) X (HSL X hX)
          have rCX := (rowAt_block (hBX.block w.heap.size (by omega))).trans rC
          have hfl := T.found_len c (l.take k) k e j
          have hwz2 : w.heap.size + 1 ≤ wr.heap.size := by have := hBX.size; omega
          have k0 : (0 : Int) ≤ (k : Int) := by omega
          have k1 : (k : Int) ≤ (cap : Int) := by omega
          have hlt : decide (((j : Int) + 1) ≤ 12) = true := by simp; omega
          have hlen : (L ++ T.found c (l.take k) k e j).length ≤ 13000 := by rw [List.length_append]; omega
          obtain ⟨M, hM⟩ : ∃ M, M = L ++ T.found c (l.take k) k e j := ⟨_, rfl⟩
          have hnx : T.found c (l.take k) k e (j + 1) = T.found c (l.take k) k e j ++ (if T.wrong c (l.take k) ((j : Int) + 1) e = true then [⟨(j : Int) + 1, k⟩] else []) := rfl
          have HNX := Lib.hid (show L ++ T.found c (l.take k) k e (j + 1) = M ++ (if T.wrong c (l.take k) ((j : Int) + 1) e = true then [⟨(j : Int) + 1, k⟩] else []) by rw [hnx, hM, List.append_assoc])
          rw [← hM] at hownX hlen
          obtain ⟨A5, n5, c5, rfl⟩ := hownX.shape
          clear hM hnx hfl
          have HBW := fun x : BW wr => hBX.trans (x.2.mono hwz2)
          go_wp2
          refine wp_region_calm (by kernel_rfl) (by kernel_rfl) ?_
          repeat ((fail_if_success (with_reducible refine wpQuiet_nil ?_)); (first | go_big_quiet_skip | (refine wpQuiet_load_at (by rfl) 24 _ rfl _ 0 14 rfl _ _ rCX rfl rfl rfl ?_; simp only [Act.put, List.setIfInBounds_toArray, List.set_cons_succ, List.set_cons_zero]) | (refine wpQuiet_load_at (by rfl) 55 _ rfl _ 0 18 rfl _ _ rX rfl rfl rfl ?_; simp only [Act.put, List.setIfInBounds_toArray, List.set_cons_succ, List.set_cons_zero]) | go_big_quiet_step ((go_at_call 24; exact calm_of (hwr _ (HBW _))))))
          refine wpQuiet_nil ?_
          rintro _ ⟨⟨X2, hb2⟩, rfl⟩
          have rX2 := (rowAt_block (hb2.block g hgX)).trans rX
          have hB2 := HBW ⟨_, hb2⟩
          have hown2 := hownX.below hb2
          have hg2 := Nat.lt_of_lt_of_le hgX hb2.size
          have hsz2 := hb2.size
          rcases hw : T.wrong c (l.take k) ((j : Int) + 1) e with _ | _
          · rw [hw] at HNX
            clear hwr HBW
            go_wp2
            go_roundw
            case rel => exact ⟨j + 1, by omega, by go_num, by rw [HNX.out]; simpa using hown2, hB2, rX2, hneX, hg2⟩
            case measure => simp [intOf]; omega
          · rw [hw] at HNX
            clear hwr HBW
            have hbs := hB2.size
            obtain ⟨y, hy⟩ : ∃ y : Find, y = ⟨(j : Int) + 1, (k : Int)⟩ := ⟨_, rfl⟩
            have py := fun X : World => rowAt_new X (Find.arr y) 57 (0, 0) X.heap.size rfl
            have hyb := builtFind y
            rw [hy] at hyb
            simp only at hyb
            rw [← hy] at hyb HNX
            clear hy
            go_wp2_with (first | (refine wpList_build_at rfl 57 _ rfl _ ?_ _ hyb ?_; rfl) | (refine wpList_slice1 rfl _ 57 _ rfl (Find.arr y) 2 16 Tryd.underlying27 (by kernel_rfl) (by decide) rfl rfl _ rfl ?_) | (at_builtin; refine wpList_append2 Find.arr 2 rfl _ _ _ rfl (w.heap.size + 1) 57 16 Tryd.underlying27 (by kernel_rfl) (by decide) _ M y rfl (hown2.alloc _) _ rfl (py _) (Find.one y) (by omega) (by omega) (by simp <;> omega) ?_; intro v3 w3 hown3 hgr3 hbel3 hloc3))
            have hne3 : v3.ownBlock ≠ some g := by
              rcases hloc3 with hh | hh
              · rw [hh]; exact hneX.out
              · rw [hh]; intro h4; injection h4 with h4; simp at h4; omega
            have rX3 : rowAt w3 g 0 18 = some (Event.arr e) := (rowAt_block (hgr3.block g (by simp; omega) (Ne.symm hneX.out))).trans ((rowAt_alloc_old _ _ _ _ _ hg2).trans rX2)
            have hz3 := hbel3.size
            have HNE3 := Lib.hid hne3
            clear hne3 hgr3 hloc3
            go_roundw
            case rel => exact ⟨j + 1, by omega, by go_num, by rw [HNX.out]; exact hown3, (hB2.alloc (by omega) _).trans hbel3, rX3, HNE3, by simp at hz3; omega⟩
            case measure => simp [intOf]; omega
        · obtain rfl : j = 12 := by omega
          go_wp2
          go_roundw
          case rel => exact ⟨k + 1, by omega, by go_num, by rw [hcs.out]; exact hownX, hBX⟩
          case measure => simp [intOf]; omega
    · obtain rfl : k = l.length := by omega
      go_wp2
      go_ret
      exact ⟨_, rfl, hown.lower (by omega), hB0.trans (hB.mono (by omega))⟩
end Go.Proofs.YtofifeicbhbgpaaDoor
