/- Forest: Order: the recursion's walk. -/
import Derived.Test.YtcncmbcnekekdaaDoorOrder
import Derived.Shelf.Abstract
namespace Go.Proofs.YtcncmbcnekekdaaDoor
open Go.RowKit Go.Shelf
set_option linter.unusedVariables false
set_option linter.unusedSimpArgs false

theorem heap_box {w : World} {b : Nat} {v : Value} {t : TypeId} (h : w.heap[b]? = some (.cells #[v] t (0, 0))) : w.cell? ⟨b, 0, none⟩ = some v ∧ w.frozen? ⟨b, 0, none⟩ = false := by
  constructor <;> simp [World.cell?, World.frozen?, h]
theorem grown_setCell (w : World) (b o : Nat) (v : Value) : w.grownBy (w.setCell ⟨b, o, none⟩ v) (some b) :=
  ⟨rfl, rfl, rfl, by simp, fun k hk hne => Below.heap_setCell w ⟨b, o, none⟩ v k (by intro e; exact hne (by rw [e]))⟩
theorem int_own_len {base : Nat} {e : TypeId} {w : World} {xs : List Int} {A : Option Addr} {n cap : Nat} (h : Own intArr 1 base e w (.slice A n cap) xs) : n = xs.length := by
  rcases h.2 with ⟨hv, h0⟩ | ⟨g, cap, cur, hv, _⟩
  · injection hv with _ e2 _; omega
  · injection hv
def T.ints (l : List Nat) : List Int := l.map Int.ofNat
/-- As wpList_append1, with where the new slice lies. -/
theorem wpList_append3 {P : Program} {ops : Array Oper} {rest : List Oper} {o : Oper} {a : Act} {w : World} {Q : Exit → Act → World → Prop} {α : Type} (arr : α → Array Value) (sz : Nat) (hgd : o.guard = none) (s x : Operand) (t : TypeId)
    (ho : o.op = .call { callee := .builtin .append, args := #[s, x], argTypes := #[t, t] })
    (base : Nat) (e : TypeId) (bytes : Nat) (ht : P.underlying t = some (.slice e)) (hi : rowInfo P e = some (sz, bytes)) (hsz : 0 < sz)
    (v : Value) (xs : List α) (y : α) (hs : a.eval s = v) (hown : Own arr sz base e w v xs)
    (g : Nat) (hx : a.eval x = .slice (some ⟨g, 0, none⟩) 1 1) (hy : rowAt w g 0 sz = some (arr y)) (h1 : (arr y).all (·.oneCell') = true)
    (hbytes : (xs.length + 1) * bytes ≤ 140737488355328) (h63 : xs.length < 9223372036854775807) (hbase : base ≤ w.heap.size)
    (h : ∀ v' w', Own arr sz base e w' v' (xs ++ [y]) → w.grownBy w' v.ownBlock → Below base w w' → (v'.ownBlock = v.ownBlock ∨ v'.ownBlock = some w.heap.size) → wpList P ops Q rest (a.put o.dst v') w') : wpList P ops Q (o :: rest) a w :=
  wpList_plain hgd fun K hK => wp_append1 arr sz s x t ho base e bytes ht hi hsz v xs y hs hown g hx hy h1 hbytes h63 hbase fun v' w' a1 a2 a3 a4 => hK _ _ (h v' w' a1 a2 a3 a4)
/-- While places are listed: what lay lies; the list so far. -/
def OI (wb : World) (fv : Value) (W : World) (u : Value) (L : List Nat) : Prop :=
  Below wb.heap.size wb W ∧ W.heap[wb.heap.size]? = some (.cells #[u] 29 (0, 0)) ∧ W.heap[wb.heap.size + 1]? = some (.cells #[fv] 94 (0, 0)) ∧ Own intArr 1 (wb.heap.size + 2) 3 W u (T.ints L)
def OPost (wb : World) (fv : Value) (L : List Nat) (e : Ending) (w' : World) : Prop := (∃ r, e = .returned r) ∧ ∃ u, OI wb fv w' u L
set_option maxRecDepth 100000 in
set_option maxHeartbeats 4000000 in
theorem owalk_c (xs : List Item) (hn : xs.length ≤ 100000) (base b m3 : Nat) (wb : World) (hG : Grp wb base b xs.length xs) (h3 : wb.cell? ⟨m3, 0, none⟩ = some (.map (some b))) (fv : Value) (hfv : fv = .func (.func 61) #[] #[.pointer (some ⟨m3, 0, none⟩), .pointer (some ⟨wb.heap.size, 0, none⟩), .pointer (some ⟨wb.heap.size + 1, 0, none⟩)]) :
    ∀ (f : Nat) (a : Int), -1 ≤ a → a < xs.length → (xs.length : Int) - a ≤ f → ∀ (W : World) (u : Value) (L : List Nat), OI wb fv W u L → (L ++ T.under xs f a).length ≤ 1000000 →
      Calls Tryd.prog 61 #[.int .i64 a, .pointer (some ⟨m3, 0, none⟩), .pointer (some ⟨wb.heap.size, 0, none⟩), .pointer (some ⟨wb.heap.size + 1, 0, none⟩)] W (OPost wb fv (L ++ T.under xs f a)) := by
  intro f
  induction f with
  | zero => intro a h1 h1' h2; omega
  | succ f ih =>
    intro a ha1 ha1' ha2 W u L hI hlen
    obtain ⟨v, hvo, hrun, _⟩ := hG.look (by omega) a (by omega) (by omega)
    have l3 := World.block_lt_of_cell? wb _ h3
    simp only at l3
    obtain ⟨hB, hb0, hb1, hown⟩ := hI
    have c3 := (hB.cell (p := ⟨m3, 0, none⟩) l3).trans h3
    have hrunW := hrun W (hB.block b hG.lt)
    have hsl := Own.sl (arr := intArr) (sz := 1) (fun _ => rfl) hvo
    obtain ⟨A, nn, cap, rfl⟩ := hvo.shape
    obtain rfl := int_own_len hvo
    obtain ⟨ks, hks⟩ : ∃ ks, ks = T.kd_ xs a xs.length := ⟨_, rfl⟩
    have hun : T.under xs (f + 1) a = ks.flatMap fun k => k :: T.under xs f k := by rw [hks]; rfl
    have hkm : ∀ k ∈ ks, a < (k : Int) ∧ k < xs.length := fun k hk => by rw [hks] at hk; exact ⟨T.kd_gt xs a _ k hk, ((T.kd_mem xs a _ k).1 hk).1⟩
    rw [← hks] at hsl hrunW hvo
    rw [hun] at hlen ⊢
    have HSL := Lib.hid hsl
    have HLEN := Lib.hid hlen
    have HKM := Lib.hid hkm
    have HFV := Lib.hid hfv
    have HG := Lib.hid h3
    have hml : (List.map Int.ofNat ks).length = ks.length := by simp
    have hview := hsl.view
    obtain ⟨_, _, _, _, hl1, hl2⟩ := hview
    have hkl : ks.length ≤ 100000 := by rw [hks]; have := T.kd_len xs a xs.length; omega
    rw [hml] at hrunW hsl
    clear hks hrun hvo hun hsl hlen hkm h3 hG hl1
    have hrel0 := Lib.hid (show OI wb fv W u L from ⟨hB, hb0, hb1, hown⟩)
    clear hB hb0 hb1 hown
    go_enter Tryd.func61, Tryd.ntmps61
    go_wp2
    clear c3 hrunW
    go_loopw [11] (fun iv wr => ∃ j : Nat, j ≤ ks.length ∧ iv = .int .i64 (j : Int) ∧ Hid (∃ u', OI wb fv wr u' (L ++ (ks.take j).flatMap fun k => k :: T.under xs f k))) (fun iv _ => ks.length - (intOf iv).toNat)
    case atStart => exact ⟨0, Nat.zero_le _, rfl, Lib.hid ⟨u, by simpa using hrel0.out⟩⟩
    case round =>
      obtain ⟨j, hj, rfl, hcur⟩ := hrel
      obtain ⟨u', hB, hb0, hb1, hown⟩ := hcur.out
      clear hcur
      by_cases hjl : j < ks.length
      · obtain ⟨k, hk⟩ : ∃ k, k = ks[j] := ⟨_, rfl⟩
        have hkmem := HKM.out k (by rw [hk]; exact List.getElem_mem _)
        obtain ⟨b', off, hA, hb', hrow, _⟩ := ((HSL.out.below hB).mono hB.size).at (k := j) (by rw [hml]; exact hjl)
        subst hA
        have hel : (List.map Int.ofNat ks)[j]'(by rw [hml]; exact hjl) = (k : Int) := by rw [List.getElem_map, ← hk]; rfl
        rw [hel] at hrow
        have ce : wr.cell? ⟨b', off + j * 1, none⟩ = some (.int .i64 (k : Int)) := rowAt_cell hrow 0 (by omega)
        rw [Nat.mul_one] at ce
        have hnext : (ks.take (j + 1)).flatMap (fun k => k :: T.under xs f k) = (ks.take j).flatMap (fun k => k :: T.under xs f k) ++ (k :: T.under xs f k) := by
          rw [show ks.take (j + 1) = ks.take j ++ [k] by rw [hk]; simp, List.flatMap_append]; simp
        obtain ⟨M, hM⟩ : ∃ M, M = L ++ (ks.take j).flatMap (fun k => k :: T.under xs f k) := ⟨_, rfl⟩
        have hML : M.length + 1 + (T.under xs f k).length ≤ 1000000 := by
          have h1 := HLEN.out
          have h2 : ks = ks.take (j + 1) ++ ks.drop (j + 1) := (List.take_append_drop _ _).symm
          rw [h2, List.flatMap_append, hnext] at h1
          rw [hM]
          simp only [List.length_append, List.length_cons] at h1 ⊢
          omega
        have hres : L ++ (ks.take (j + 1)).flatMap (fun k => k :: T.under xs f k) = (M ++ [k]) ++ T.under xs f k := by rw [hnext, hM]; simp
        rw [← hM] at hown
        have HRES := Lib.hid hres
        have HK := Lib.hid hk
        clear hk hM hnext hres hrow hel
        obtain ⟨c0, f0⟩ := heap_box hb0
        obtain ⟨c1, f1⟩ := heap_box hb1
        obtain ⟨A', n', cap', rfl⟩ := hown.shape
        have hwz := hB.size
        have hlt0 := (Array.getElem?_eq_some_iff.1 hb0).1
        have hlt1 := (Array.getElem?_eq_some_iff.1 hb1).1
        have py : rowAt (wr.alloc (.cells #[.int .i64 (k : Int)] 3)) wr.heap.size 0 1 = some (intArr (k : Int)) := rowAt_new _ _ _ _ _ rfl
        have hMl : (T.ints M).length = M.length := by simp [T.ints]
        have hown1 := hown.alloc (Obj.cells #[.int .i64 (k : Int)] 3)
        have hB1 := hB.alloc hwz (Obj.cells #[.int .i64 (k : Int)] 3)
        have e0 := (Below.heap_alloc wr (Obj.cells #[.int .i64 (k : Int)] 3) _ hlt0).trans hb0
        have e1 := (Below.heap_alloc wr (Obj.cells #[.int .i64 (k : Int)] 3) _ hlt1).trans hb1
        have HIH := Lib.hid ih
        have HMl := Lib.hid hMl
        have HB0 := Lib.hid hb0
        have HB1 := Lib.hid hb1
        clear ih hMl hb0 hb1 hB hown
        go_wp2_with (first | (at_builtin; refine wpList_append3 intArr 1 rfl _ _ _ rfl (wb.heap.size + 2) 3 8 Tryd.underlying29 (by kernel_rfl) (by decide) _ (T.ints M) (k : Int) rfl hown1 wr.heap.size rfl py (intArr_one _) (by rw [HMl.out]; omega) (by rw [HMl.out]; omega) (by simp; omega) ?_; intro v2 w2 hown2 hgr2 hbel2 hloc2; obtain ⟨A2, n2, k2, rfl⟩ := hown2.shape; have d0 := (hbel2.block wb.heap.size (by omega)).trans e0; have d1 := (hbel2.block (wb.heap.size + 1) (by omega)).trans e1; obtain ⟨q0, g0⟩ := heap_box d0; obtain ⟨q1, g1⟩ := heap_box d1; rw [HFV.out] at q1; have hOI : OI wb fv (w2.setCell ⟨wb.heap.size, 0, none⟩ (.slice A2 n2 k2)) (.slice A2 n2 k2) (M ++ [k]) := ⟨(hB1.trans (hbel2.mono (by omega))).setCell (p := ⟨wb.heap.size, 0, none⟩) (Nat.le_refl _) _, by have := heap_setCell_same w2 wb.heap.size 0 _ _ (.slice A2 n2 k2) d0; simpa using this, (Below.heap_setCell w2 ⟨wb.heap.size, 0, none⟩ _ _ (by show wb.heap.size + 1 ≠ wb.heap.size; omega)).trans d1, by have h9 := hown2.kept (grown_setCell w2 wb.heap.size 0 (.slice A2 n2 k2)) (by right; intro h8; have := (hown2.lt _ h8).1; omega); simpa [T.ints] using h9⟩; have hcall := HIH.out (k : Int) (by omega) (by omega) (by omega) _ _ _ hOI (by simp only [List.length_append, List.length_cons, List.length_nil]; omega)) | (go_at_call 61; (with_reducible refine hcall.mono ?_); rintro r w3 ⟨⟨rr, rfl⟩, u3, hI3⟩))
        go_roundw
        case rel => exact ⟨j + 1, by omega, by go_num, Lib.hid ⟨u3, by rw [HRES.out]; exact hI3⟩⟩
        case measure => simp [intOf]; omega
      · obtain rfl : j = ks.length := by omega
        go_wp2
        go_end0
        exact ⟨⟨_, rfl⟩, u', hB, hb0, hb1, by rw [List.take_length] at hown; exact hown⟩
end Go.Proofs.YtcncmbcnekekdaaDoor
