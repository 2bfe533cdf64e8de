/- Forest: Order: the map of those below; the recursion. -/
import Derived.Test.YtcncmbcnekekdaaDoorOrderP
import Derived.Test.YtcncmbcnekekdaaDoorHeadP
import Derived.Test.YtcncmbcnekekdaaDoorKept
import Derived.Maps.OwnRows
import Derived.Maps.Views
import Derived.Maps.GroupsBeside
namespace Go.Proofs.YtcncmbcnekekdaaDoor
open Go.RowKit Go.Maps Go.ChangeShapes Go.MapKept
set_option maxRecDepth 100000
set_option linter.unusedVariables false
set_option linter.unusedSimpArgs false

theorem intKey : Keyed Tryd.prog 3 := int_keyed Tryd.underlying3
theorem zeroInts (w : World) : (zeroValue 29).run Tryd.prog w = .ok (.slice none 0 0) w := by kernel_rfl
theorem int_key (a : Int) (h1 : -9223372036854775808 ≤ a) (h2 : a ≤ 9223372036854775807) : keyOf Tryd.prog 3 (.int .i64 a) = some (.int .i64 a) := keyOf_int_mk Tryd.underlying3 (WalkArith.wf_i64 (by omega))
/-- A look-up sees the map's block alone. -/
theorem lookup_same {t k E : TypeId} {b : Nat} {z : Value} {es : Array MapEntry} {clock : Nat} {w X : World} {key : Value} {kl : Lit} (K : Keyed Tryd.prog k) (ht : Tryd.prog.underlying t = some (.map k E)) (hz : ∀ W : World, (zeroValue E).run Tryd.prog W = .ok z W)
    (hw : w.heap[b]? = some (.map es clock)) (hX : X.heap[b]? = some (.map es clock)) (hs : es.size ≤ maxLen) (hst : Stamped es clock) (hk : ∀ x ∈ es.toList, ∃ l, keyOf Tryd.prog k x.key = some l) (hkey : keyOf Tryd.prog k key = some kl) {v : Value}
    (h : (Instr.lookup t (.map (some b)) key false).run Tryd.prog w = .ok v w) : (Instr.lookup t (.map (some b)) key false).run Tryd.prog X = .ok v X := by
  have F : WideElems.Fit Tryd.prog k (fun v => some ((DataW.held v : DataW Value), ([] : List MemPlace))) es clock := ⟨hs, hst, fun x hx => by
    obtain ⟨l, hl⟩ := hk x hx
    exact ⟨(l, .held x.val), by simp [WideElems.rd, hl]⟩⟩
  have a1 := Maps.fit_look false K ht (hz w) hw F hkey
  have a2 := Maps.fit_look false K ht (hz X) hX F hkey
  rcases a1 with ⟨r1, n1, _⟩ | ⟨e1, y1, m1, k1, r1, R1, t1, _⟩ <;> rcases a2 with ⟨r2, n2, _⟩ | ⟨e2, y2, m2, k2, r2, R2, t2, _⟩
  · rw [r1] at h; injection h with h; rw [r2, ← h]
  · exact absurd k2 (n1 e2 m2)
  · exact absurd k1 (n2 e1 m1)
  · rw [r1] at h
    injection h with h
    have q := (t1 .nil).symm.trans (t2 .nil)
    cases R1; cases R2
    injection q with q
    rw [r2, ← h]
    simp [q]
/-- What is read at a key below which these stand. -/
def T.gdat (zs : List Int) : DataW Unit := if zs = [] then .nil else .slice (lits .i64 zs) []
theorem T.lits_inj : ∀ (a b : List Int), (lits .i64 a : List (DataW Unit)) = lits .i64 b → a = b
  | [], [], _ => rfl
  | [], _ :: _, h => by simp [lits] at h
  | _ :: _, [], h => by simp [lits] at h
  | x :: a, y :: b, h => by
    simp only [lits, List.map_cons, List.cons.injEq] at h
    obtain ⟨h1, h2⟩ := h
    injection h1 with h1
    injection h1 with _ h1
    rw [h1, T.lits_inj a b h2]
theorem T.gdat_is {w : World} {base : Nat} {e : TypeId} {v : Value} {zs L : List Int} (ho : w.ownsInts base e .i64 v zs) (h : (rowDatum .i64 v zs : DataW Unit) = T.gdat L) : zs = L := by
  unfold T.gdat at h
  rcases ho.datum (H := Unit) with ⟨h1, h2⟩ | h1
  · rw [h1] at h
    split at h
    · rename_i hL; rw [h2, hL]
    · cases h
  · rw [h1] at h
    split at h
    · cases h
    · injection h with h _; exact T.lits_inj _ _ h
/-- The map in block b holds, for each place, those below it ahead of place k. -/
def Grp (w : World) (base b k : Nat) (xs : List Item) : Prop :=
  ∃ D : DataW Unit, w.ownsGroups Tryd.prog 3 base 3 .i64 b k D ∧ ∀ a : Int, D.atKey (.int .i64 a) .nil = T.gdat ((T.kd_ xs a k).map Int.ofNat)
theorem grown_below {w w1 : World} (hb : Below w.heap.size w w1) (row : Option Nat) : w.grownBy w1 row := ⟨hb.os, hb.tape, hb.output, hb.size, fun k hk _ => hb.block k hk⟩
theorem Grp.kept {w w1 : World} {base b k : Nat} {xs : List Item} (h : Grp w base b k xs) (hg : w.grownBy w1 none) : Grp w1 base b k xs := by
  obtain ⟨D, h1, h2⟩ := h
  exact ⟨D, h1.kept hg (by simp) (fun _ _ _ x _ => by cases x.val.ownBlock <;> simp), h2⟩
theorem Grp.below {w w1 : World} {base b k : Nat} {xs : List Item} (h : Grp w base b k xs) (hb : Below w.heap.size w w1) : Grp w1 base b k xs := h.kept (grown_below hb none)
theorem flat_ints (zs : List Int) : (zs.flatMap fun x => (intArr x).toList) = zs.map (Value.int .i64) := by
  induction zs with
  | nil => rfl
  | cons a l ih => rw [List.flatMap_cons, ih]; rfl
theorem ints_own {w : World} {base : Nat} {e : TypeId} {v : Value} {zs : List Int} (h : w.ownsInts base e .i64 v zs) : Own intArr 1 base e w v zs := by
  have := h.1
  unfold Own
  rwa [flat_ints]
theorem own_ints {w : World} {base : Nat} {e : TypeId} {v : Value} {zs : List Int} (h : Own intArr 1 base e w v zs) (hwf : ∀ z ∈ zs, (Lit.int .i64 z).wf = true) : w.ownsInts base e .i64 v zs := by
  unfold Own at h
  rw [flat_ints] at h
  exact ⟨h, hwf⟩
theorem Grp.lt {w : World} {base b k : Nat} {xs : List Item} (h : Grp w base b k xs) : b < w.heap.size := by
  obtain ⟨D, ⟨es, clock, hb, _⟩, _⟩ := h
  exact (Array.getElem?_eq_some_iff.1 hb).1
theorem Grp.look {w : World} {base b k : Nat} {xs : List Item} (h : Grp w base b k xs) (hk : k < 1000000) (a : Int) (h1 : -9223372036854775808 ≤ a) (h2 : a ≤ 9223372036854775807) :
    ∃ v, Own intArr 1 base 3 w v ((T.kd_ xs a k).map Int.ofNat) ∧ (∀ X : World, X.heap[b]? = w.heap[b]? → (Instr.lookup 93 (.map (some b)) (.int .i64 a) false).run Tryd.prog X = .ok v X) ∧
      (T.upI xs k = a → ∀ w1 v', w.grownBy w1 v.ownBlock → Own intArr 1 base 3 w1 v' ((T.kd_ xs a k).map Int.ofNat ++ [(k : Int)]) → (v'.ownBlock = v.ownBlock ∨ ∃ g, v'.ownBlock = some g ∧ w.heap.size ≤ g) →
        ∃ w2, (Instr.mapUpdate 93 (.map (some b)) (.int .i64 a) v').run Tryd.prog w1 = .ok () w2 ∧ Grp w2 base b (k + 1) xs ∧ w1.grownBy w2 (some b)) := by
  obtain ⟨D, ho, hD⟩ := h
  obtain ⟨v, zs, hrun, hat, hoi, hzl, hback⟩ := ho.at intKey Tryd.underlying93 (zeroInts w) (by unfold maxLen; omega) (int_key a h1 h2)
  rw [hD] at hat
  have hzs := T.gdat_is hoi hat.symm
  have hm : IsMap D := by obtain ⟨es, clock, _, _, _, hq, _⟩ := ho; exact ⟨_, hq⟩
  rw [hzs] at hoi
  refine ⟨v, ints_own hoi, fun X hX => ?_, fun hu w1 v' hg hown' hloc => ?_⟩
  · obtain ⟨es, clock, hb, F, hs, _, hbb, _⟩ := ho
    exact lookup_same intKey Tryd.underlying93 zeroInts hb (hX.trans hb) F.size F.stamped (fun x hx => by
      obtain ⟨y, hy⟩ := F.reads x hx
      exact ⟨_, WideElems.rd_key hy⟩) (int_key a h1 h2) hrun
  · have hwf : ∀ z ∈ (T.kd_ xs a k).map Int.ofNat ++ [(k : Int)], (Lit.int .i64 z).wf = true := by
      intro z hz
      rcases List.mem_append.1 hz with hz | hz
      · obtain ⟨j, hj, rfl⟩ := List.mem_map.1 hz
        have := ((T.kd_mem xs a k j).1 hj).1
        exact WalkArith.wf_i64 (by simp; omega)
      · simp at hz; subst hz
        exact WalkArith.wf_i64 (by omega)
    have hkl := T.kd_len xs a k
    have hoi' := own_ints hown' hwf
    obtain ⟨w2, r1, r2, r3⟩ := hback w1 v' _ hg hoi' (by simp; omega) hloc
    refine ⟨w2, r1, ⟨_, r2, fun c => ?_⟩, r3⟩
    by_cases hc : c = a
    · subst hc
      rw [atKey_put_same hm (by trivial), T.kd_succ, if_pos hu, List.map_append, hoi'.datum_pos (by simp)]
      simp [T.gdat]
    · rw [atKey_put_other (by intro e; injection e with _ e; exact hc e), hD, T.kd_succ, if_neg (by rw [hu]; exact fun e => hc e.symm)]
end Go.Proofs.YtcncmbcnekekdaaDoor
