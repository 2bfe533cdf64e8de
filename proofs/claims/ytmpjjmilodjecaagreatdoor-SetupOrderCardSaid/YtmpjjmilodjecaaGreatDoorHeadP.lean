/- As XHead's law, in an order of one's own. -/
import Derived.Test.YtmpjjmilodjecaaGreatDoorHeadIn
namespace Go.Proofs.YtmpjjmilodjecaaGreatDoor
open Go.RowKit
set_option linter.unusedVariables false
section
variable {P : Program} {ops : Array Oper} {Q : Exit → Act → World → Prop} {md : Region.Mode} {S : World → Prop} {n : Nat}
/-- In the order that is given; act: those that may change memory. -/
def wpP (P : Program) (ops : Array Oper) (Q : Exit → Act → World → Prop) (S : World → Prop) (n : Nat) (act : List Nat) : List (Nat × Oper) → Act → World → Prop
  | [], a, w => Q .normal a w
  | (k, o) :: rest, a, w =>
    if act.contains k then
      ∀ K : Act → World → Prop, (∀ a' w', (k < n → S w') → wpP P ops Q S n act rest a' w' → K a' w') → if Region.wanted o (yielded ops a.tmps) = true then Oper.wp P o a w K Q else K (a.put o.dst undef) w
    else ∃ v, YieldsIf P ops S o v a ∧ wpP P ops Q S n act rest (a.put o.dst v) w
def lexP (md : Region.Mode) (ops : Array Oper) (n : Nat) (act : List Nat) : List Nat → Array Bool → Bool
  | [], listed => (Region.ready md ops listed).isEmpty
  | k :: rest, listed => (if act.contains k then Region.ready md ops listed == [k] else decide (k < n) && Region.free md ops listed k && (Region.ready md ops listed).contains k) && lexP md ops n act rest (listed.setIfInBounds k true)
def lexPB (md : Region.Mode) (ops : Array Oper) (n : Nat) (act ord : List Nat) : Bool :=
  Region.noSelect ops && decide (n < ops.size) && Region.sinkB md ops n && Region.chainB md ops n && decide (ord.length = ops.size) && lexP md ops n act ord (Array.replicate ops.size false)
def blindP (Q : Exit → Act → World → Prop) (act : List Nat) : List (Nat × Oper) → Prop
  | [] => True
  | (k, o) :: l => (act.contains k = true ∨ ∀ c a v w, Q (.panic c) (a.put o.dst v) w → Q (.panic c) a w) ∧ blindP Q act l
/-- The tail is listed last: at an act of the tail nothing of the head is left, so the head's invariant is not asked any more. -/
theorem wpAnyT_ofP (hs : Region.noSelect ops = true) (hsk : Region.sinkB md ops n = true) (hc : Region.chainB md ops n = true) (hn : n < ops.size) (act : List Nat) :
    ∀ (l : List (Nat × Oper)) (listed : Array Bool) (a : Act) (w : World), (∀ p ∈ l, ops[p.1]? = some p.2) → ((∀ p ∈ l, n ≤ p.1) ∨ (HeadInv md ops n listed ∧ S w)) → (l.map (·.1)).Pairwise (fun i j => n ≤ i → n ≤ j) → lexP md ops n act (l.map (·.1)) listed = true → blindP Q act l →
      wpP P ops Q S n act l a w → wpAnyT P md ops Q S n l.length listed a w
  | [], listed, a, w, _, _, _, hB, _, h => ⟨by simpa [lexP] using hB, h⟩
  | (k, o) :: l, listed, a, w, hl, inv, hpw, hB, hbl, h => by
    have h0 : ops[k]? = some o := hl (k, o) List.mem_cons_self
    have hl' : ∀ p ∈ l, ops[p.1]? = some p.2 := fun p hp => hl p (List.mem_cons_of_mem _ hp)
    simp only [List.map_cons, lexP, Bool.and_eq_true] at hB
    simp only [List.map_cons, List.pairwise_cons] at hpw
    obtain ⟨hpk, hpw'⟩ := hpw
    obtain ⟨hk, hB'⟩ := hB
    unfold wpP at h
    by_cases hact : act.contains k = true
    · rw [if_pos hact] at hk h
      have hrd : Region.ready md ops listed = [k] := by simpa using hk
      refine ⟨fun h' => (by rw [hrd] at h'; cases h'), fun i hi => ?_⟩
      rw [hrd] at hi
      obtain rfl : i = k := by simpa using hi
      have hin : i ∈ Region.ready md ops listed := by rw [hrd]; exact hi
      unfold wpOp
      simp only [h0]
      have := h (fun a' w' => (i < n → S w') ∧ wpAnyT P md ops Q S n l.length (listed.setIfInBounds i true) a' w') (fun a' w' hS' hT =>
        ⟨hS', wpAnyT_ofP hs hsk hc hn act l _ a' w' hl' (by
          by_cases hlt : i < n
          · right
            rcases inv with hall | ⟨hi', _⟩
            · exact absurd (hall (i, o) List.mem_cons_self) (by show ¬ n ≤ i; omega)
            · exact ⟨hi'.set hin hlt, hS' hlt⟩
          · left
            intro p hp
            exact hpk p.1 (List.mem_map_of_mem hp) (by omega)) hpw' hB' hbl.2 hT⟩)
      split
      · rename_i hw; rw [if_pos hw] at this; exact .inl this
      · rename_i hw; rw [if_neg hw] at this; exact this
    · rw [if_neg hact] at hk h
      simp only [Bool.and_eq_true, decide_eq_true_eq] at hk
      obtain ⟨⟨hkn, hf⟩, hr⟩ := hk
      obtain ⟨v, hy, hT⟩ := h
      have hin : k ∈ Region.ready md ops listed := by simpa using hr
      obtain ⟨hi', hSw⟩ := inv.resolve_left (fun hall => absurd (hall (k, o) List.mem_cons_self) (by show ¬ n ≤ k; omega))
      exact wpAnyT_first h0 (Region.noSelect_spec hs) hsk hc hn hkn (fun c a w => (hbl.1.resolve_left hact) c a _ w) l.length listed a w hi' (Region.free_spec h0 hf) hin hy hSw
        (wpAnyT_ofP hs hsk hc hn act l _ _ w hl' (.inr ⟨hi'.set hin hkn, hSw⟩) hpw' hB' hbl.2 hT)
/-- The operations, in the order that is given. -/
def ordOps (l : List Oper) (d : Oper) (ord : List Nat) : List (Nat × Oper) := ord.map fun k => (k, l[k]?.getD d)
theorem anyT_P {l : List Oper} {d : Oper} {a : Act} {w : World} (act ord : List Nat) (hB : lexPB md l.toArray n act ord = true) (hlt : ord.all (fun k => decide (k < l.length)) = true) (hpw : ord.Pairwise (fun i j => n ≤ i → n ≤ j)) (hQ : blindP Q act (ordOps l d ord)) (hS : S w)
    (h : wpP P l.toArray Q S n act (ordOps l d ord) a w) : wpAnyT P md l.toArray Q S n l.length (Array.replicate l.length false) a w := by
  simp only [lexPB, Bool.and_eq_true, decide_eq_true_eq] at hB
  obtain ⟨⟨⟨⟨⟨hsel, hn⟩, hs⟩, hc⟩, hlen⟩, hlex⟩ := hB
  have inv0 : HeadInv md l.toArray n (Array.replicate l.toArray.size false) :=
    ⟨by simp, fun j oj _ hl => (by rw [getD_replicate_false] at hl; cases hl), fun t _ ht => getD_in (by simpa using ht) (getD_replicate_false _ _)⟩
  have hm : (ordOps l d ord).map (·.1) = ord := by simp [ordOps, Function.comp_def]
  have hlen' : (ordOps l d ord).length = l.length := by simp [ordOps]; simpa using hlen
  have := wpAnyT_ofP (S := S) hsel hs hc hn act (ordOps l d ord) (Array.replicate l.toArray.size false) a w (fun p hp => by
    obtain ⟨k, hk, rfl⟩ := List.mem_map.1 hp
    have hkl : k < l.length := by have := List.all_eq_true.1 hlt k hk; simpa using this
    simp [hkl]) (.inr ⟨inv0, hS⟩) (by rw [hm]; exact hpw) (by rw [hm]; exact hlex) hQ h
  rw [hlen'] at this
  simpa using this
theorem wp_region_P {id : Nat} {a : Act} {w : World} {o : Oper} {l : List Oper} (n : Nat) (act ord : List Nat) (S : World → Prop) (hm : P.follows .mixedOrders = true) (hB : lexPB .any (o :: l).toArray n act ord = true) (hlt : ord.all (fun k => decide (k < (o :: l).length)) = true)
    (hpw : ord.Pairwise (fun i j => n ≤ i → n ≤ j)) (hQ : blindP Q act (ordOps (o :: l) o ord)) (hS : S w.drew) (h : wpP P (o :: l).toArray Q S n act (ordOps (o :: l) o ord) a w.drew) : (Code.region id (o :: l).toArray true).wp P Q a w := by
  have := anyT_P (S := S) (md := .any) act ord hB hlt hpw hQ hS h
  exact wp_region_any hm (wpAny_of_T _ _ _ _ (by simpa using this))
theorem wpIn_region_P {id l0 m : Nat} {a : Act} {w : World} {o : Oper} {l : List Oper} (n : Nat) (act ord : List Nat) (S : World → Prop) (hp : noDefer (o :: l).toArray = true) (hm : P.follows .mixedOrders = true) (hB : lexPB .any (o :: l).toArray n act ord = true) (hlt : ord.all (fun k => decide (k < (o :: l).length)) = true)
    (hpw : ord.Pairwise (fun i j => n ≤ i → n ≤ j)) (hQ : blindP (noOut Q) act (ordOps (o :: l) o ord)) (hS : S w.drew) (h : wpP P (o :: l).toArray (noOut Q) S n act (ordOps (o :: l) o ord) a w.drew) : (Code.region id (o :: l).toArray true).wpIn (Fence.wide.inRound l0) m P Q a w := by
  have := anyT_P (S := S) (md := .any) act ord hB hlt hpw hQ hS h
  exact wpIn_region_any hm (any_in hp _ _ _ _ (wpAny_of_T _ _ _ _ (by simpa using this)))
theorem wpP_nil {act : List Nat} {a : Act} {w : World} (h : Q .normal a w) : wpP P ops Q S n act [] a w := h
theorem wpP_q {act : List Nat} {o : Oper} {rest : List (Nat × Oper)} {k : Nat} {a : Act} {w : World} (hk : act.contains k = false) (hw : Region.wanted o (yielded ops a.tmps) = true) (v : Value)
    (hy : ∀ W, S W → (execOp a.eval o).run P W = .ok (.value v) W) (h : wpP P ops Q S n act rest (a.put o.dst v) w) : wpP P ops Q S n act ((k, o) :: rest) a w := by
  unfold wpP
  rw [if_neg (by rw [hk]; exact Bool.false_ne_true)]
  exact ⟨v, .inl ⟨hw, hy⟩, h⟩
theorem wpP_skip {act : List Nat} {o : Oper} {rest : List (Nat × Oper)} {k : Nat} {a : Act} {w : World} (hk : act.contains k = false) (hw : Region.wanted o (yielded ops a.tmps) = false)
    (h : wpP P ops Q S n act rest (a.put o.dst undef) w) : wpP P ops Q S n act ((k, o) :: rest) a w := by
  unfold wpP
  rw [if_neg (by rw [hk]; exact Bool.false_ne_true)]
  exact ⟨undef, .inr ⟨hw, rfl⟩, h⟩
theorem wpP_a {act : List Nat} {o : Oper} {rest : List (Nat × Oper)} {k : Nat} {a : Act} {w : World} (hk : act.contains k = true) (hw : Region.wanted o (yielded ops a.tmps) = true)
    (h : ∀ K : Act → World → Prop, (∀ a' w', (k < n → S w') → wpP P ops Q S n act rest a' w' → K a' w') → Oper.wp P o a w K Q) : wpP P ops Q S n act ((k, o) :: rest) a w := by
  unfold wpP
  rw [if_pos hk]
  intro K hK
  rw [if_pos hw]
  exact h K hK
theorem wpP_askip {act : List Nat} {o : Oper} {rest : List (Nat × Oper)} {k : Nat} {a : Act} {w : World} (hk : act.contains k = true) (hw : Region.wanted o (yielded ops a.tmps) = false) (hS : k < n → S w)
    (h : wpP P ops Q S n act rest (a.put o.dst undef) w) : wpP P ops Q S n act ((k, o) :: rest) a w := by
  unfold wpP
  rw [if_pos hk]
  intro K hK
  rw [if_neg (by rw [hw]; exact Bool.false_ne_true)]
  exact hK _ _ hS h
end
end Go.Proofs.YtmpjjmilodjecaaGreatDoor
