/- As XHeadP's law, with one pair of operations that may come either way. -/
import Derived.Test.YtmpjjmilodjecaaGreatDoorHeadP
namespace Go.Proofs.YtmpjjmilodjecaaGreatDoor
open Go.RowKit
set_option linter.unusedVariables false
section
variable {P : Program} {ops : Array Oper} {Q : Exit → Act → World → Prop} {md : Region.Mode} {S : World → Prop} {n : Nat}
/-- As wpP, to be gone on from. -/
def wpPre (P : Program) (ops : Array Oper) (Q : Exit → Act → World → Prop) (S : World → Prop) (n : Nat) (act : List Nat) (R : Act → World → Prop) : List (Nat × Oper) → Act → World → Prop
  | [], a, w => R a w
  | (k, o) :: rest, a, w =>
    if act.contains k then
      ∀ K : Act → World → Prop, (∀ a' w', S w' → wpPre P ops Q S n act R rest a' w' → K a' w') → if Region.wanted o (yielded ops a.tmps) = true then Oper.wp P o a w K Q else K (a.put o.dst undef) w
    else ∃ v, YieldsIf P ops S o v a ∧ wpPre P ops Q S n act R rest (a.put o.dst v) w
def lexPre (md : Region.Mode) (ops : Array Oper) (n : Nat) (act : List Nat) : List Nat → Array Bool → Bool
  | [], _ => true
  | k :: rest, listed => decide (k < n) && (if act.contains k then Region.ready md ops listed == [k] else Region.free md ops listed k && (Region.ready md ops listed).contains k) && lexPre md ops n act rest (listed.setIfInBounds k true)
def listedOf : List Nat → Array Bool → Array Bool
  | [], l => l
  | k :: rest, l => listedOf rest (l.setIfInBounds k true)
theorem wpAnyT_pre (hs : Region.noSelect ops = true) (hsk : Region.sinkB md ops n = true) (hc : Region.chainB md ops n = true) (hn : n < ops.size) (act : List Nat) (R : Act → World → Prop) (fuel : Nat) :
    ∀ (l : List (Nat × Oper)) (listed : Array Bool) (a : Act) (w : World), (∀ p ∈ l, ops[p.1]? = some p.2) → HeadInv md ops n listed → S w → lexPre md ops n act (l.map (·.1)) listed = true → blindP Q act l →
      wpPre P ops Q S n act R l a w → (∀ a' w', S w' → HeadInv md ops n (listedOf (l.map (·.1)) listed) → R a' w' → wpAnyT P md ops Q S n fuel (listedOf (l.map (·.1)) listed) a' w') → wpAnyT P md ops Q S n (l.length + fuel) listed a w
  | [], listed, a, w, _, inv, hS, _, _, h, hR => by
    simp only [List.length_nil, Nat.zero_add]
    exact hR a w hS inv h
  | (k, o) :: l, listed, a, w, hl, inv, hS, hB, hbl, h, hR => by
    have h0 : ops[k]? = some o := hl (k, o) List.mem_cons_self
    have hl' : ∀ p ∈ l, ops[p.1]? = some p.2 := fun p hp => hl p (List.mem_cons_of_mem _ hp)
    simp only [List.map_cons, lexPre, Bool.and_eq_true, decide_eq_true_eq] at hB
    obtain ⟨⟨hkn, hk⟩, hB'⟩ := hB
    rw [show ((k, o) :: l).length + fuel = (l.length + fuel) + 1 by simp only [List.length_cons]; omega]
    unfold wpPre at h
    by_cases hact : act.contains k = true
    · rw [if_pos hact] at hk h
      have hrd : Region.ready md ops listed = [k] := by simpa using hk
      refine ⟨fun h' => (by rw [hrd] at h'; cases h'), fun i hi => ?_⟩
      rw [hrd] at hi
      obtain rfl : i = k := by simpa using hi
      have hin : i ∈ Region.ready md ops listed := by rw [hrd]; exact hi
      unfold wpOp
      simp only [h0]
      have := h (fun a' w' => (i < n → S w') ∧ wpAnyT P md ops Q S n (l.length + fuel) (listed.setIfInBounds i true) a' w') (fun a' w' hS' hT =>
        ⟨fun _ => hS', wpAnyT_pre hs hsk hc hn act R fuel l _ a' w' hl' (inv.set hin hkn) hS' hB' hbl.2 hT hR⟩)
      split
      · rename_i hw; rw [if_pos hw] at this; exact .inl this
      · rename_i hw; rw [if_neg hw] at this; exact this
    · rw [if_neg hact] at hk h
      simp only [Bool.and_eq_true] at hk
      obtain ⟨hf, hr⟩ := hk
      obtain ⟨v, hy, hT⟩ := h
      have hin : k ∈ Region.ready md ops listed := by simpa using hr
      exact wpAnyT_first h0 (Region.noSelect_spec hs) hsk hc hn hkn (fun c a w => (hbl.1.resolve_left hact) c a _ w) (l.length + fuel) listed a w inv (Region.free_spec h0 hf) hin hy hS
        (wpAnyT_pre hs hsk hc hn act R fuel l _ _ w hl' (inv.set hin hkn) hS hB' hbl.2 hT hR)
theorem wpOp_of {i : Nat} {o : Oper} {K : Act → World → Prop} {a : Act} {w : World} (h0 : ops[i]? = some o) (hg : o.guard = none) (h : o.wp P a w K Q) : wpOp P ops Q i K a w := by
  unfold wpOp
  simp only [h0]
  rw [if_pos (by simp [Region.wanted, hg])]
  exact .inl h
/-- The pair: either way. -/
def wpPair (P : Program) (Q : Exit → Act → World → Prop) (S : World → Prop) (oi oj : Oper) (R : Act → World → Prop) (a : Act) (w : World) : Prop :=
  ∀ K : Act → World → Prop, (∀ a' w', S w' → R a' w' → K a' w') →
    oi.wp P a w (fun a2 w2 => S w2 ∧ oj.wp P a2 w2 K Q) Q ∧ oj.wp P a w (fun a2 w2 => S w2 ∧ oi.wp P a2 w2 K Q) Q
theorem wpAnyT_pair {i j : Nat} {oi oj : Oper} (hi : ops[i]? = some oi) (hj : ops[j]? = some oj) (gi : oi.guard = none) (gj : oj.guard = none) (hin : i < n) (hjn : j < n) (fuel : Nat) (listed : Array Bool) (a : Act) (w : World) (inv : HeadInv md ops n listed)
    (h1 : ∀ t, t ∈ Region.ready md ops listed ↔ t = i ∨ t = j) (h2 : Region.ready md ops (listed.setIfInBounds i true) = [j]) (h3 : Region.ready md ops (listed.setIfInBounds j true) = [i]) (hij : i ≠ j) (R : Act → World → Prop)
    (h : wpPair P Q S oi oj R a w) (hR : ∀ a' w', S w' → HeadInv md ops n ((listed.setIfInBounds i true).setIfInBounds j true) → R a' w' → wpAnyT P md ops Q S n fuel ((listed.setIfInBounds i true).setIfInBounds j true) a' w') :
    wpAnyT P md ops Q S n (fuel + 1 + 1) listed a w := by
  have invi := inv.set ((h1 i).2 (.inl rfl)) hin
  have invj := inv.set ((h1 j).2 (.inr rfl)) hjn
  have invij := invi.set (show j ∈ Region.ready md ops (listed.setIfInBounds i true) by rw [h2]; simp) hjn
  have hcomm : (listed.setIfInBounds j true).setIfInBounds i true = (listed.setIfInBounds i true).setIfInBounds j true := Array.setIfInBounds_comm _ _ (Ne.symm hij)
  obtain ⟨ha, hb⟩ := h (fun a' w' => S w' ∧ wpAnyT P md ops Q S n fuel ((listed.setIfInBounds i true).setIfInBounds j true) a' w') fun a' w' hS hr => ⟨hS, hR a' w' hS invij hr⟩
  refine ⟨fun h' => ?_, fun t ht => ?_⟩
  · have := (h1 i).2 (.inl rfl)
    rw [h'] at this; cases this
  · rcases (h1 t).1 ht with rfl | rfl
    · refine wpOp_mono ?_ (wpOp_of hi gi ha)
      rintro a2 w2 ⟨hS2, hj2⟩
      refine ⟨fun _ => hS2, fun h' => (by rw [h2] at h'; cases h'), fun t ht => ?_⟩
      rw [h2] at ht
      obtain rfl : t = j := by simpa using ht
      refine wpOp_mono ?_ (wpOp_of hj gj hj2)
      rintro a3 w3 ⟨hS3, h4⟩
      exact ⟨fun _ => hS3, h4⟩
    · refine wpOp_mono ?_ (wpOp_of hj gj hb)
      rintro a2 w2 ⟨hS2, hj2⟩
      refine ⟨fun _ => hS2, fun h' => (by rw [h3] at h'; cases h'), fun t' ht' => ?_⟩
      rw [h3] at ht'
      obtain rfl : t' = i := by simpa using ht'
      refine wpOp_mono ?_ (wpOp_of hi gi hj2)
      rintro a3 w3 ⟨hS3, h4⟩
      exact ⟨fun _ => hS3, by rw [hcomm]; exact h4⟩
def lexPP (md : Region.Mode) (ops : Array Oper) (n : Nat) (act pre : List Nat) (i j : Nat) (post : List Nat) : Bool :=
  Region.noSelect ops && decide (n < ops.size) && Region.sinkB md ops n && Region.chainB md ops n && decide (pre.length + post.length + 2 = ops.size) && lexPre md ops n act pre (Array.replicate ops.size false) &&
  decide (i < n) && decide (j < n) && decide (i ≠ j) &&
  ((Region.ready md ops (listedOf pre (Array.replicate ops.size false)) == [i, j]) || (Region.ready md ops (listedOf pre (Array.replicate ops.size false)) == [j, i])) &&
  (Region.ready md ops ((listedOf pre (Array.replicate ops.size false)).setIfInBounds i true) == [j]) && (Region.ready md ops ((listedOf pre (Array.replicate ops.size false)).setIfInBounds j true) == [i]) &&
  lexP md ops n act post (((listedOf pre (Array.replicate ops.size false)).setIfInBounds i true).setIfInBounds j true)
theorem anyT_PP {l : List Oper} {d oi oj : Oper} {a : Act} {w : World} (act pre : List Nat) (i j : Nat) (post : List Nat) (hB : lexPP md l.toArray n act pre i j post = true) (hlt : (pre ++ post).all (fun k => decide (k < l.length)) = true) (hpw : post.Pairwise (fun i j => n ≤ i → n ≤ j))
    (hi : l[i]? = some oi) (hj : l[j]? = some oj) (gi : oi.guard = none) (gj : oj.guard = none) (hQ : blindP Q act (ordOps l d pre)) (hQ' : blindP Q act (ordOps l d post)) (hS : S w)
    (h : wpPre P l.toArray Q S n act (wpPair P Q S oi oj (wpP P l.toArray Q S n act (ordOps l d post))) (ordOps l d pre) a w) : wpAnyT P md l.toArray Q S n l.length (Array.replicate l.length false) a w := by
  simp only [lexPP, Bool.and_eq_true, Bool.or_eq_true, decide_eq_true_eq, beq_iff_eq] at hB
  obtain ⟨⟨⟨⟨⟨⟨⟨⟨⟨⟨⟨⟨hsel, hn⟩, hs⟩, hc⟩, hlen⟩, hpre⟩, hin⟩, hjn⟩, hij⟩, hrd⟩, hri⟩, hrj⟩, hlex⟩ := hB
  rw [List.all_append, Bool.and_eq_true] at hlt
  have inv0 : HeadInv md l.toArray n (Array.replicate l.toArray.size false) :=
    ⟨by simp, fun j oj _ hl => (by rw [getD_replicate_false] at hl; cases hl), fun t _ ht => getD_in (by simpa using ht) (getD_replicate_false _ _)⟩
  have hm (ord : List Nat) : (ordOps l d ord).map (·.1) = ord := by simp [ordOps, Function.comp_def]
  have hlo (ord : List Nat) : (ordOps l d ord).length = ord.length := by simp [ordOps]
  have hmem (ord : List Nat) (ho : ord.all (fun k => decide (k < l.length)) = true) : ∀ p ∈ ordOps l d ord, l.toArray[p.1]? = some p.2 := fun p hp => by
    obtain ⟨k, hk, rfl⟩ := List.mem_map.1 hp
    have hkl : k < l.length := by have := List.all_eq_true.1 ho k hk; simpa using this
    simp [hkl]
  have := wpAnyT_pre (S := S) hsel hs hc hn act (wpPair P Q S oi oj (wpP P l.toArray Q S n act (ordOps l d post))) (post.length + 1 + 1) (ordOps l d pre) (Array.replicate l.toArray.size false) a w (hmem pre hlt.1) inv0 hS (by rw [hm]; exact hpre) hQ h
    (fun a' w' hS' inv' hp => by
      rw [hm] at inv' ⊢
      refine wpAnyT_pair (by simpa using hi) (by simpa using hj) gi gj hin hjn post.length _ a' w' inv' (fun t => ?_) hri hrj hij _ hp ?_
      · rcases hrd with h | h
        · rw [h]; simp
        · rw [h]; simp [or_comm]
      · intro a2 w2 hS2 inv2 hpo
        have := wpAnyT_ofP (S := S) hsel hs hc hn act (ordOps l d post) _ a2 w2 (hmem post hlt.2) (.inr ⟨inv2, hS2⟩) (by rw [hm]; exact hpw) (by rw [hm]; exact hlex) hQ' hpo
        rwa [hlo] at this)
  rw [hlo] at this
  have e : pre.length + (post.length + 1 + 1) = l.length := by simp at hlen; omega
  rw [e] at this
  simpa using this
theorem wp_region_PP {id : Nat} {a : Act} {w : World} {o oi oj : Oper} {l : List Oper} (n : Nat) (act pre : List Nat) (i j : Nat) (post : List Nat) (S : World → Prop) (hm : P.follows .mixedOrders = true) (hB : lexPP .any (o :: l).toArray n act pre i j post = true) (hlt : (pre ++ post).all (fun k => decide (k < (o :: l).length)) = true)
    (hpw : post.Pairwise (fun i j => n ≤ i → n ≤ j)) (hi : (o :: l)[i]? = some oi) (hj : (o :: l)[j]? = some oj) (gi : oi.guard = none) (gj : oj.guard = none) (hQ : blindP Q act (ordOps (o :: l) o pre)) (hQ' : blindP Q act (ordOps (o :: l) o post)) (hS : S w.drew)
    (h : wpPre P (o :: l).toArray Q S n act (wpPair P Q S oi oj (wpP P (o :: l).toArray Q S n act (ordOps (o :: l) o post))) (ordOps (o :: l) o pre) a w.drew) : (Code.region id (o :: l).toArray true).wp P Q a w := by
  have := anyT_PP (S := S) (md := .any) act pre i j post hB hlt hpw hi hj gi gj hQ hQ' hS h
  exact wp_region_any hm (wpAny_of_T _ _ _ _ (by simpa using this))
theorem wpOp_of' {i : Nat} {o : Oper} {K : Act → World → Prop} {a : Act} {w : World} (h0 : ops[i]? = some o) (hw : Region.wanted o (yielded ops a.tmps) = true) (h : o.wp P a w K Q) : wpOp P ops Q i K a w := by
  unfold wpOp
  simp only [h0]
  rw [if_pos hw]
  exact .inl h
/-- The pair, guarded or not. -/
def wpPairG (P : Program) (ops : Array Oper) (Q : Exit → Act → World → Prop) (S : World → Prop) (oi oj : Oper) (R : Act → World → Prop) (a : Act) (w : World) : Prop :=
  ∀ K : Act → World → Prop, (∀ a' w', S w' → R a' w' → K a' w') →
    (Region.wanted oi (yielded ops a.tmps) = true ∧ oi.wp P a w (fun a2 w2 => S w2 ∧ Region.wanted oj (yielded ops a2.tmps) = true ∧ oj.wp P a2 w2 K Q) Q) ∧ (Region.wanted oj (yielded ops a.tmps) = true ∧ oj.wp P a w (fun a2 w2 => S w2 ∧ Region.wanted oi (yielded ops a2.tmps) = true ∧ oi.wp P a2 w2 K Q) Q)
theorem wpAnyT_pairG {i j : Nat} {oi oj : Oper} (hi : ops[i]? = some oi) (hj : ops[j]? = some oj) (hin : i < n) (hjn : j < n) (fuel : Nat) (listed : Array Bool) (a : Act) (w : World) (inv : HeadInv md ops n listed)
    (h1 : ∀ t, t ∈ Region.ready md ops listed ↔ t = i ∨ t = j) (h2 : Region.ready md ops (listed.setIfInBounds i true) = [j]) (h3 : Region.ready md ops (listed.setIfInBounds j true) = [i]) (hij : i ≠ j) (R : Act → World → Prop)
    (h : wpPairG P ops Q S oi oj R a w) (hR : ∀ a' w', S w' → HeadInv md ops n ((listed.setIfInBounds i true).setIfInBounds j true) → R a' w' → wpAnyT P md ops Q S n fuel ((listed.setIfInBounds i true).setIfInBounds j true) a' w') :
    wpAnyT P md ops Q S n (fuel + 1 + 1) listed a w := by
  have invi := inv.set ((h1 i).2 (.inl rfl)) hin
  have invj := inv.set ((h1 j).2 (.inr rfl)) hjn
  have invij := invi.set (show j ∈ Region.ready md ops (listed.setIfInBounds i true) by rw [h2]; simp) hjn
  have hcomm : (listed.setIfInBounds j true).setIfInBounds i true = (listed.setIfInBounds i true).setIfInBounds j true := Array.setIfInBounds_comm _ _ (Ne.symm hij)
  obtain ⟨⟨wa, ha⟩, ⟨wb, hb⟩⟩ := h (fun a' w' => S w' ∧ wpAnyT P md ops Q S n fuel ((listed.setIfInBounds i true).setIfInBounds j true) a' w') fun a' w' hS hr => ⟨hS, hR a' w' hS invij hr⟩
  refine ⟨fun h' => ?_, fun t ht => ?_⟩
  · have := (h1 i).2 (.inl rfl)
    rw [h'] at this; cases this
  · rcases (h1 t).1 ht with rfl | rfl
    · refine wpOp_mono ?_ (wpOp_of' hi wa ha)
      rintro a2 w2 ⟨hS2, wj, hj2⟩
      refine ⟨fun _ => hS2, fun h' => (by rw [h2] at h'; cases h'), fun t ht => ?_⟩
      rw [h2] at ht
      obtain rfl : t = j := by simpa using ht
      refine wpOp_mono ?_ (wpOp_of' hj wj hj2)
      rintro a3 w3 ⟨hS3, h4⟩
      exact ⟨fun _ => hS3, h4⟩
    · refine wpOp_mono ?_ (wpOp_of' hj wb hb)
      rintro a2 w2 ⟨hS2, wj, hj2⟩
      refine ⟨fun _ => hS2, fun h' => (by rw [h3] at h'; cases h'), fun t' ht' => ?_⟩
      rw [h3] at ht'
      obtain rfl : t' = i := by simpa using ht'
      refine wpOp_mono ?_ (wpOp_of' hi wj hj2)
      rintro a3 w3 ⟨hS3, h4⟩
      exact ⟨fun _ => hS3, by rw [hcomm]; exact h4⟩
theorem anyT_PG {l : List Oper} {d oi oj : Oper} {a : Act} {w : World} (act pre : List Nat) (i j : Nat) (post : List Nat) (hB : lexPP md l.toArray n act pre i j post = true) (hlt : (pre ++ post).all (fun k => decide (k < l.length)) = true) (hpw : post.Pairwise (fun i j => n ≤ i → n ≤ j))
    (hi : l[i]? = some oi) (hj : l[j]? = some oj) (hQ : blindP Q act (ordOps l d pre)) (hQ' : blindP Q act (ordOps l d post)) (hS : S w)
    (h : wpPre P l.toArray Q S n act (wpPairG P l.toArray Q S oi oj (wpP P l.toArray Q S n act (ordOps l d post))) (ordOps l d pre) a w) : wpAnyT P md l.toArray Q S n l.length (Array.replicate l.length false) a w := by
  simp only [lexPP, Bool.and_eq_true, Bool.or_eq_true, decide_eq_true_eq, beq_iff_eq] at hB
  obtain ⟨⟨⟨⟨⟨⟨⟨⟨⟨⟨⟨⟨hsel, hn⟩, hs⟩, hc⟩, hlen⟩, hpre⟩, hin⟩, hjn⟩, hij⟩, hrd⟩, hri⟩, hrj⟩, hlex⟩ := hB
  rw [List.all_append, Bool.and_eq_true] at hlt
  have inv0 : HeadInv md l.toArray n (Array.replicate l.toArray.size false) :=
    ⟨by simp, fun j oj _ hl => (by rw [getD_replicate_false] at hl; cases hl), fun t _ ht => getD_in (by simpa using ht) (getD_replicate_false _ _)⟩
  have hm (ord : List Nat) : (ordOps l d ord).map (·.1) = ord := by simp [ordOps, Function.comp_def]
  have hlo (ord : List Nat) : (ordOps l d ord).length = ord.length := by simp [ordOps]
  have hmem (ord : List Nat) (ho : ord.all (fun k => decide (k < l.length)) = true) : ∀ p ∈ ordOps l d ord, l.toArray[p.1]? = some p.2 := fun p hp => by
    obtain ⟨k, hk, rfl⟩ := List.mem_map.1 hp
    have hkl : k < l.length := by have := List.all_eq_true.1 ho k hk; simpa using this
    simp [hkl]
  have := wpAnyT_pre (S := S) hsel hs hc hn act (wpPairG P l.toArray Q S oi oj (wpP P l.toArray Q S n act (ordOps l d post))) (post.length + 1 + 1) (ordOps l d pre) (Array.replicate l.toArray.size false) a w (hmem pre hlt.1) inv0 hS (by rw [hm]; exact hpre) hQ h
    (fun a' w' hS' inv' hp => by
      rw [hm] at inv' ⊢
      refine wpAnyT_pairG (by simpa using hi) (by simpa using hj) hin hjn post.length _ a' w' inv' (fun t => ?_) hri hrj hij _ hp ?_
      · rcases hrd with h | h
        · rw [h]; simp
        · rw [h]; simp [or_comm]
      · intro a2 w2 hS2 inv2 hpo
        have := wpAnyT_ofP (S := S) hsel hs hc hn act (ordOps l d post) _ a2 w2 (hmem post hlt.2) (.inr ⟨inv2, hS2⟩) (by rw [hm]; exact hpw) (by rw [hm]; exact hlex) hQ' hpo
        rwa [hlo] at this)
  rw [hlo] at this
  have e : pre.length + (post.length + 1 + 1) = l.length := by simp at hlen; omega
  rw [e] at this
  simpa using this
theorem wp_region_PG {id : Nat} {a : Act} {w : World} {o oi oj : Oper} {l : List Oper} (n : Nat) (act pre : List Nat) (i j : Nat) (post : List Nat) (S : World → Prop) (hm : P.follows .mixedOrders = true) (hB : lexPP .any (o :: l).toArray n act pre i j post = true) (hlt : (pre ++ post).all (fun k => decide (k < (o :: l).length)) = true)
    (hpw : post.Pairwise (fun i j => n ≤ i → n ≤ j)) (hi : (o :: l)[i]? = some oi) (hj : (o :: l)[j]? = some oj) (hQ : blindP Q act (ordOps (o :: l) o pre)) (hQ' : blindP Q act (ordOps (o :: l) o post)) (hS : S w.drew)
    (h : wpPre P (o :: l).toArray Q S n act (wpPairG P (o :: l).toArray Q S oi oj (wpP P (o :: l).toArray Q S n act (ordOps (o :: l) o post))) (ordOps (o :: l) o pre) a w.drew) : (Code.region id (o :: l).toArray true).wp P Q a w := by
  have := anyT_PG (S := S) (md := .any) act pre i j post hB hlt hpw hi hj hQ hQ' hS h
  exact wp_region_any hm (wpAny_of_T _ _ _ _ (by simpa using this))
theorem wpPre_a {act : List Nat} {R : Act → World → Prop} {o : Oper} {rest : List (Nat × Oper)} {k : Nat} {a : Act} {w : World} (hk : act.contains k = true) (hw : Region.wanted o (yielded ops a.tmps) = true)
    (h : ∀ K : Act → World → Prop, (∀ a' w', S w' → wpPre P ops Q S n act R rest a' w' → K a' w') → Oper.wp P o a w K Q) : wpPre P ops Q S n act R ((k, o) :: rest) a w := by
  unfold wpPre
  rw [if_pos hk]
  intro K hK
  rw [if_pos hw]
  exact h K hK
theorem wpPre_nil {act : List Nat} {R : Act → World → Prop} {a : Act} {w : World} (h : R a w) : wpPre P ops Q S n act R [] a w := h
theorem wpPre_q {act : List Nat} {R : Act → World → Prop} {o : Oper} {rest : List (Nat × Oper)} {k : Nat} {a : Act} {w : World} (hk : act.contains k = false) (hw : Region.wanted o (yielded ops a.tmps) = true) (v : Value)
    (hy : ∀ W, S W → (execOp a.eval o).run P W = .ok (.value v) W) (h : wpPre P ops Q S n act R rest (a.put o.dst v) w) : wpPre P ops Q S n act R ((k, o) :: rest) a w := by
  unfold wpPre
  rw [if_neg (by rw [hk]; exact Bool.false_ne_true)]
  exact ⟨v, .inl ⟨hw, hy⟩, h⟩
end
end Go.Proofs.YtmpjjmilodjecaaGreatDoor
namespace Go.Proofs.YtmpjjmilodjecaaGreatDoor
open Go.RowKit
set_option linter.unusedVariables false
section
variable {P : Program} {ops : Array Oper} {Q : Exit → Act → World → Prop} {md : Region.Mode} {S : World → Prop} {n m : Nat}
def Sd (m : Nat) (S : World → Prop) (listed : Array Bool) (w : World) : Prop := listed.getD m false = false → S w
theorem Sd.set {listed : Array Bool} {w : World} (h : Sd m S listed w) (i : Nat) : Sd m S (listed.setIfInBounds i true) w := fun hm => h (by
  cases hq : listed.getD m false with
  | false => rfl
  | true => rw [getD_set_true hq] at hm; cases hm)
def wpAnyM (P : Program) (md : Region.Mode) (ops : Array Oper) (Q : Exit → Act → World → Prop) (S : World → Prop) (n m : Nat) : Nat → Array Bool → Act → World → Prop
  | 0, listed, a, w => Region.ready md ops listed = [] ∧ Q .normal a w
  | fuel + 1, listed, a, w =>
    (Region.ready md ops listed = [] → Q .normal a w) ∧
    ∀ i ∈ Region.ready md ops listed, wpOp P ops Q i (fun a' w' => (i < n → Sd m S (listed.setIfInBounds i true) w') ∧ wpAnyM P md ops Q S n m fuel (listed.setIfInBounds i true) a' w') a w
theorem wpAny_of_M : ∀ (fuel : Nat) (listed : Array Bool) (a : Act) (w : World), wpAnyM P md ops Q S n m fuel listed a w → wpAny P md ops Q fuel listed a w
  | 0, _, _, _, h => h
  | fuel + 1, _, _, _, h => ⟨h.1, fun i hi => wpOp_mono (fun a' w' h' => wpAny_of_M fuel _ a' w' h'.2) (h.2 i hi)⟩
theorem wpAnyM_first {T : World → Prop} {i : Nat} {oi : Oper} {v : Value} (hi : ops[i]? = some oi) (hsel : ∀ (j : Nat) (o : Oper) cs b, ops[j]? = some o → o.op ≠ .select cs b)
    (hsk : Region.sinkB md ops n = true) (hc : Region.chainB md ops n = true) (hn : n < ops.size) (hin : i < n) (him : i ≠ m)
    (hT : ∀ listed w, HeadInv md ops n listed → listed.getD i true = false → Sd m S listed w → T w)
    (hQ : ∀ c a w, Q (.panic c) (a.put oi.dst v) w → Q (.panic c) a w) :
    ∀ (fuel : Nat) (listed : Array Bool) (a : Act) (w : World), HeadInv md ops n listed →
      (∀ j oj, ops[j]? = some oj → j ≠ i → listed.getD j true = false → (∀ e ∈ oj.after, Region.binds md e = true → e.on ≠ i) → oi.apart ops oj = true) →
      i ∈ Region.ready md ops listed → YieldsIf P ops T oi v a → Sd m S listed w →
      wpAnyM P md ops Q S n m fuel (listed.setIfInBounds i true) (a.put oi.dst v) w → wpAnyM P md ops Q S n m (fuel + 1) listed a w := by
  intro fuel
  induction fuel with
  | zero =>
    intro listed a w inv _ hr hy hS H
    refine ⟨fun h => (by rw [h] at hr; cases hr), fun j hj => ?_⟩
    by_cases hji : j = i
    · subst hji; exact hy.wpOp hi (hT listed w inv (mem_ready.1 hr).1 hS) ⟨fun _ => hS.set _, H⟩
    · have := ready_mono hj hji
      rw [H.1] at this
      cases this
  | succ fuel ih =>
    intro listed a w inv hfree hr hy hS H
    refine ⟨fun h => (by rw [h] at hr; cases hr), fun j hj => ?_⟩
    by_cases hji : j = i
    · subst hji; exact hy.wpOp hi (hT listed w inv (mem_ready.1 hr).1 hS) ⟨fun _ => hS.set _, H⟩
    · have hjn : j < n := by
        rcases Nat.lt_or_ge j n with h | h
        · exact h
        · exact absurd hj (tail_waits hsk hc hn inv _ i rfl hin (mem_ready.1 hr).1 j h)
      have h1 := H.2 j (ready_mono hj hji)
      obtain ⟨hjun, oj, hoj, hall⟩ := mem_ready.1 hj
      have hnot : ∀ e ∈ oj.after, Region.binds md e = true → e.on ≠ i := fun e he hb heq => by
        have h1 := hall e he hb
        have h0 := (mem_ready.1 hr).1
        rw [heq] at h1
        rcases Nat.lt_or_ge i listed.size with h' | h'
        · simp [h'] at h0 h1; rw [h0] at h1; cases h1
        · simp [Array.getElem?_eq_none h'] at h1
      have h2 := wpOp_putIf hoj (hfree j oj hoj hji hjun hnot) (fun cs b => hsel i oi cs b hi) (fun cs b => hsel j oj cs b hoj) hQ hy h1
      have hfree' : ∀ k ok, ops[k]? = some ok → k ≠ i → (listed.setIfInBounds j true).getD k true = false →
          (∀ e ∈ ok.after, Region.binds md e = true → e.on ≠ i) → oi.apart ops ok = true := fun k ok hk hki hun hno => by
        refine hfree k ok hk hki ?_ hno
        by_cases hjk : j = k
        · subst hjk; exact hjun
        · rw [getD_set_ne true hjk] at hun; exact hun
      have hSj : ∀ w', Sd m S ((listed.setIfInBounds i true).setIfInBounds j true) w' → Sd m S (listed.setIfInBounds j true) w' := fun w' h hm => h (by
        rw [Array.setIfInBounds_comm _ _ (Ne.symm hji), getD_set_ne false him]; exact hm)
      refine wpOp_mono (fun a' w' h3 => ⟨fun h => hSj w' (h3.2.1 h), ih (listed.setIfInBounds j true) a' w' (inv.set hj hjn) hfree' (ready_mono hr (Ne.symm hji)) h3.1 (hSj w' (h3.2.1 hjn)) ?_⟩) h2
      rw [Array.setIfInBounds_comm _ _ hji]
      exact h3.2.2
/-- What is taken first: 'need': those that need S. -/
def wpPreM (P : Program) (ops : Array Oper) (S : World → Prop) (need : List Nat) (R : Act → World → Prop) : List (Nat × Oper) → Act → World → Prop
  | [], a, w => R a w
  | (k, o) :: rest, a, w => ∃ v, YieldsIf P ops (fun W => need.contains k = true → S W) o v a ∧ wpPreM P ops S need R rest (a.put o.dst v) w
def waitsB (md : Region.Mode) (ops : Array Oper) (m k : Nat) : Bool := match ops[m]? with
  | some o => o.after.any fun e => Region.binds md e && e.on == k
  | none => false
def lexPreM (md : Region.Mode) (ops : Array Oper) (n m : Nat) (need : List Nat) : List Nat → Array Bool → Bool
  | [], _ => true
  | k :: rest, listed => decide (k < n) && decide (k ≠ m) && Region.free md ops listed k && (Region.ready md ops listed).contains k && (!need.contains k || waitsB md ops m k) && lexPreM md ops n m need rest (listed.setIfInBounds k true)
def blindM (Q : Exit → Act → World → Prop) : List (Nat × Oper) → Prop
  | [] => True
  | (k, o) :: l => (∀ c a v w, Q (.panic c) (a.put o.dst v) w → Q (.panic c) a w) ∧ blindM Q l
theorem waits_listed {k : Nat} (hm : m < ops.size) (h : waitsB md ops m k = true) {listed : Array Bool} (inv : HeadInv md ops n listed) (hk : listed.getD k true = false) : listed.getD m false = false := by
  cases hq : listed.getD m false with
  | false => rfl
  | true =>
    obtain ⟨om, hom⟩ : ∃ om, ops[m]? = some om := ⟨_, Array.getElem?_eq_getElem hm⟩
    unfold waitsB at h
    rw [hom] at h
    obtain ⟨e, he, hb⟩ := Array.any_eq_true'.1 h
    rw [Bool.and_eq_true, beq_iff_eq] at hb
    have := inv.closed m om hom hq e he hb.1
    rw [hb.2] at this
    rw [getD_both hk] at this; cases this
theorem wpAnyM_pre (hs : Region.noSelect ops = true) (hsk : Region.sinkB md ops n = true) (hc : Region.chainB md ops n = true) (hn : n < ops.size) (hm : m < ops.size) (need : List Nat) (R : Act → World → Prop) (fuel : Nat) :
    ∀ (l : List (Nat × Oper)) (listed : Array Bool) (a : Act) (w : World), (∀ p ∈ l, ops[p.1]? = some p.2) → HeadInv md ops n listed → Sd m S listed w → lexPreM md ops n m need (l.map (·.1)) listed = true → blindM Q l →
      wpPreM P ops S need R l a w → (∀ a' w', Sd m S (listedOf (l.map (·.1)) listed) w' → HeadInv md ops n (listedOf (l.map (·.1)) listed) → R a' w' → wpAnyM P md ops Q S n m fuel (listedOf (l.map (·.1)) listed) a' w') → wpAnyM P md ops Q S n m (l.length + fuel) listed a w
  | [], listed, a, w, _, inv, hS, _, _, h, hR => by
    simp only [List.length_nil, Nat.zero_add]
    exact hR a w hS inv h
  | (k, o) :: l, listed, a, w, hl, inv, hS, hB, hbl, h, hR => by
    have h0 : ops[k]? = some o := hl (k, o) List.mem_cons_self
    have hl' : ∀ p ∈ l, ops[p.1]? = some p.2 := fun p hp => hl p (List.mem_cons_of_mem _ hp)
    simp only [List.map_cons, lexPreM, Bool.and_eq_true, Bool.or_eq_true, decide_eq_true_eq] at hB
    obtain ⟨⟨⟨⟨⟨hkn, hkm⟩, hf⟩, hr⟩, hnd⟩, hB'⟩ := hB
    rw [show ((k, o) :: l).length + fuel = (l.length + fuel) + 1 by simp only [List.length_cons]; omega]
    unfold wpPreM at h
    obtain ⟨v, hy, hT⟩ := h
    have hin : k ∈ Region.ready md ops listed := by simpa using hr
    refine wpAnyM_first h0 (Region.noSelect_spec hs) hsk hc hn hkn hkm (fun L W hinv hun hSd hne => ?_) (fun c a w => hbl.1 c a _ w) (l.length + fuel) listed a w inv (Region.free_spec h0 hf) hin hy hS
      (wpAnyM_pre hs hsk hc hn hm need R fuel l _ _ w hl' (inv.set hin hkn) (hS.set _) hB' hbl.2 hT hR)
    rcases hnd with hnd | hnd
    · rw [hne] at hnd; cases hnd
    · exact hSd (waits_listed hm hnd hinv hun)
theorem wpAnyM_pair {i j : Nat} {oi oj : Oper} (hi : ops[i]? = some oi) (hj : ops[j]? = some oj) (gi : oi.guard = none) (gj : oj.guard = none) (hin : i < n) (hjn : j < n) (fuel : Nat) (listed : Array Bool) (a : Act) (w : World) (inv : HeadInv md ops n listed)
    (h1 : ∀ t, t ∈ Region.ready md ops listed ↔ t = i ∨ t = j) (h2 : Region.ready md ops (listed.setIfInBounds i true) = [j]) (h3 : Region.ready md ops (listed.setIfInBounds j true) = [i]) (hij : i ≠ j) (R : Act → World → Prop)
    (h : wpPair P Q S oi oj R a w) (hR : ∀ a' w', S w' → HeadInv md ops n ((listed.setIfInBounds i true).setIfInBounds j true) → R a' w' → wpAnyM P md ops Q S n m fuel ((listed.setIfInBounds i true).setIfInBounds j true) a' w') :
    wpAnyM P md ops Q S n m (fuel + 1 + 1) listed a w := by
  have invi := inv.set ((h1 i).2 (.inl rfl)) hin
  have invij := invi.set (show j ∈ Region.ready md ops (listed.setIfInBounds i true) by rw [h2]; simp) hjn
  have hcomm : (listed.setIfInBounds j true).setIfInBounds i true = (listed.setIfInBounds i true).setIfInBounds j true := Array.setIfInBounds_comm _ _ (Ne.symm hij)
  obtain ⟨ha, hb⟩ := h (fun a' w' => S w' ∧ wpAnyM P md ops Q S n m fuel ((listed.setIfInBounds i true).setIfInBounds j true) a' w') fun a' w' hS hr => ⟨hS, hR a' w' hS invij hr⟩
  refine ⟨fun h' => ?_, fun t ht => ?_⟩
  · have := (h1 i).2 (.inl rfl)
    rw [h'] at this; cases this
  · rcases (h1 t).1 ht with rfl | rfl
    · refine wpOp_mono ?_ (wpOp_of hi gi ha)
      rintro a2 w2 ⟨hS2, hj2⟩
      refine ⟨fun _ _ => hS2, fun h' => (by rw [h2] at h'; cases h'), fun t ht => ?_⟩
      rw [h2] at ht
      obtain rfl : t = j := by simpa using ht
      refine wpOp_mono ?_ (wpOp_of hj gj hj2)
      rintro a3 w3 ⟨hS3, h4⟩
      exact ⟨fun _ _ => hS3, h4⟩
    · refine wpOp_mono ?_ (wpOp_of hj gj hb)
      rintro a2 w2 ⟨hS2, hj2⟩
      refine ⟨fun _ _ => hS2, fun h' => (by rw [h3] at h'; cases h'), fun t' ht' => ?_⟩
      rw [h3] at ht'
      obtain rfl : t' = i := by simpa using ht'
      refine wpOp_mono ?_ (wpOp_of hi gi hj2)
      rintro a3 w3 ⟨hS3, h4⟩
      exact ⟨fun _ _ => hS3, by rw [hcomm]; exact h4⟩
/-- What comes last: each alone. S is kept before m. -/
def wpPostM (P : Program) (Q : Exit → Act → World → Prop) (S : World → Prop) : Bool → List (Bool × Oper) → Act → World → Prop
  | _, [], a, w => Q .normal a w
  | d, (b, o) :: rest, a, w => ∀ K : Act → World → Prop, (∀ a' w', (d = false → b = false → S w') → wpPostM P Q S (d || b) rest a' w' → K a' w') → Oper.wp P o a w K Q
def lexPostM (md : Region.Mode) (ops : Array Oper) : List Nat → Array Bool → Bool
  | [], listed => (Region.ready md ops listed).isEmpty
  | k :: rest, listed => (Region.ready md ops listed == [k]) && lexPostM md ops rest (listed.setIfInBounds k true)
theorem wpAnyM_post :
    ∀ (l : List (Nat × Oper)) (d : Bool) (listed : Array Bool) (a : Act) (w : World), (∀ p ∈ l, ops[p.1]? = some p.2 ∧ p.2.guard = none) → (d = true → listed.getD m false = true) → (d = false → ∀ p ∈ l, m < listed.size) → lexPostM md ops (l.map (·.1)) listed = true →
      wpPostM P Q S d (l.map fun p => (decide (p.1 = m), p.2)) a w → wpAnyM P md ops Q S n m l.length listed a w
  | [], d, listed, a, w, _, _, _, hB, h => ⟨by simpa [lexPostM] using hB, h⟩
  | (k, o) :: l, d, listed, a, w, hl, hd, hsz, hB, h => by
    obtain ⟨h0, hg⟩ := hl (k, o) List.mem_cons_self
    simp only [List.map_cons, lexPostM, Bool.and_eq_true, beq_iff_eq] at hB
    obtain ⟨hrd, hB'⟩ := hB
    refine ⟨fun h' => (by rw [hrd] at h'; cases h'), fun i hi => ?_⟩
    rw [hrd] at hi
    obtain rfl : i = k := by simpa using hi
    refine wpOp_of h0 hg ?_
    have hdm : (d || decide (i = m)) = true → (listed.setIfInBounds i true).getD m false = true := fun q => by
      rw [Bool.or_eq_true, decide_eq_true_eq] at q
      rcases q with q | q
      · exact getD_set_true (hd q)
      · subst q
        cases hdd : d with
        | true => exact getD_set_true (hd hdd)
        | false =>
          have hs := hsz hdd (i, o) List.mem_cons_self
          simp [hs]
    refine h _ fun a' w' hS' hT => ⟨fun _ hm => ?_, wpAnyM_post l _ _ a' w' (fun p hp => hl p (List.mem_cons_of_mem _ hp)) hdm (fun q p hp => ?_) hB' hT⟩
    · have hq : (d || decide (i = m)) = false := by
        cases hh : (d || decide (i = m)) with
        | false => rfl
        | true => rw [hdm hh] at hm; cases hm
      rw [Bool.or_eq_false_iff] at hq
      exact hS' hq.1 hq.2
    · rw [Bool.or_eq_false_iff] at q
      rw [Array.size_setIfInBounds]
      exact hsz q.1 (i, o) List.mem_cons_self
def lexM (md : Region.Mode) (ops : Array Oper) (n m : Nat) (need pre : List Nat) (i j : Nat) (post : List Nat) : Bool :=
  Region.noSelect ops && decide (n < ops.size) && decide (m < ops.size) && Region.sinkB md ops n && Region.chainB md ops n && decide (pre.length + post.length + 2 = ops.size) && lexPreM md ops n m need pre (Array.replicate ops.size false) &&
  decide (i < n) && decide (j < n) && decide (i ≠ j) && decide (i ≠ m) && decide (j ≠ m) &&
  ((Region.ready md ops (listedOf pre (Array.replicate ops.size false)) == [i, j]) || (Region.ready md ops (listedOf pre (Array.replicate ops.size false)) == [j, i])) &&
  (Region.ready md ops ((listedOf pre (Array.replicate ops.size false)).setIfInBounds i true) == [j]) && (Region.ready md ops ((listedOf pre (Array.replicate ops.size false)).setIfInBounds j true) == [i]) &&
  lexPostM md ops post (((listedOf pre (Array.replicate ops.size false)).setIfInBounds i true).setIfInBounds j true)
theorem anyM {l : List Oper} {d oi oj : Oper} {a : Act} {w : World} (need pre : List Nat) (i j : Nat) (post : List Nat) (hB : lexM md l.toArray n m need pre i j post = true) (hlt : (pre ++ post).all (fun k => decide (k < l.length)) = true)
    (hi : l[i]? = some oi) (hj : l[j]? = some oj) (gi : oi.guard = none) (gj : oj.guard = none) (gp : (ordOps l d post).all (fun p => p.2.guard.isNone) = true) (hQ : blindM Q (ordOps l d pre)) (hS : S w)
    (h : wpPreM P l.toArray S need (wpPair P Q S oi oj (wpPostM P Q S false ((ordOps l d post).map fun p => (decide (p.1 = m), p.2)))) (ordOps l d pre) a w) : wpAnyM P md l.toArray Q S n m l.length (Array.replicate l.length false) a w := by
  simp only [lexM, Bool.and_eq_true, Bool.or_eq_true, decide_eq_true_eq, beq_iff_eq] at hB
  obtain ⟨⟨⟨⟨⟨⟨⟨⟨⟨⟨⟨⟨⟨⟨⟨hsel, hn⟩, hm⟩, hs⟩, hc⟩, hlen⟩, hpre⟩, hin⟩, hjn⟩, hij⟩, him⟩, hjm⟩, hrd⟩, hri⟩, hrj⟩, hlex⟩ := hB
  rw [List.all_append, Bool.and_eq_true] at hlt
  have inv0 : HeadInv md l.toArray n (Array.replicate l.toArray.size false) :=
    ⟨by simp, fun j oj _ hl => (by rw [getD_replicate_false] at hl; cases hl), fun t _ ht => getD_in (by simpa using ht) (getD_replicate_false _ _)⟩
  have hmm (ord : List Nat) : (ordOps l d ord).map (·.1) = ord := by simp [ordOps, Function.comp_def]
  have hlo (ord : List Nat) : (ordOps l d ord).length = ord.length := by simp [ordOps]
  have hmem (ord : List Nat) (ho : ord.all (fun k => decide (k < l.length)) = true) : ∀ p ∈ ordOps l d ord, l.toArray[p.1]? = some p.2 := fun p hp => by
    obtain ⟨k, hk, rfl⟩ := List.mem_map.1 hp
    have hkl : k < l.length := by have := List.all_eq_true.1 ho k hk; simpa using this
    simp [hkl]
  have := wpAnyM_pre (S := S) (m := m) hsel hs hc hn hm need _ (post.length + 1 + 1) (ordOps l d pre) (Array.replicate l.toArray.size false) a w (hmem pre hlt.1) inv0 (fun _ => hS) (by rw [hmm]; exact hpre) hQ h
    (fun a' w' _ inv' hp => by
      rw [hmm] at inv' ⊢
      refine wpAnyM_pair (by simpa using hi) (by simpa using hj) gi gj hin hjn post.length _ a' w' inv' (fun t => ?_) hri hrj hij _ hp ?_
      · rcases hrd with h | h
        · rw [h]; simp
        · rw [h]; simp [or_comm]
      · intro a2 w2 hS2 inv2 hpo
        have hz : ∀ (l2 : List Nat) (L : Array Bool), (listedOf l2 L).size = L.size := fun l2 => by
          induction l2 with
          | nil => intro L; rfl
          | cons k l2 ih => intro L; rw [listedOf, ih]; simp
        have := wpAnyM_post (S := S) (n := n) (m := m) (ordOps l d post) false (((listedOf pre (Array.replicate l.toArray.size false)).setIfInBounds i true).setIfInBounds j true) a2 w2 (fun p hp => ⟨hmem post hlt.2 p hp, by
          have := List.all_eq_true.1 gp p hp
          simpa using this⟩) (fun q => by cases q) (fun _ p _ => by simpa [hz] using hm) (by rw [hmm]; exact hlex) hpo
        rwa [hlo] at this)
  rw [hlo] at this
  have e : pre.length + (post.length + 1 + 1) = l.length := by simp at hlen; omega
  rw [e] at this
  simpa using this
theorem wp_region_M {id : Nat} {a : Act} {w : World} {o oi oj : Oper} {l : List Oper} (n m : Nat) (need pre : List Nat) (i j : Nat) (post : List Nat) (S : World → Prop) (hm : P.follows .mixedOrders = true) (hB : lexM .any (o :: l).toArray n m need pre i j post = true) (hlt : (pre ++ post).all (fun k => decide (k < (o :: l).length)) = true)
    (hi : (o :: l)[i]? = some oi) (hj : (o :: l)[j]? = some oj) (gi : oi.guard = none) (gj : oj.guard = none) (gp : (ordOps (o :: l) o post).all (fun p => p.2.guard.isNone) = true) (hQ : blindM Q (ordOps (o :: l) o pre)) (hS : S w.drew)
    (h : wpPreM P (o :: l).toArray S need (wpPair P Q S oi oj (wpPostM P Q S false ((ordOps (o :: l) o post).map fun p => (decide (p.1 = m), p.2)))) (ordOps (o :: l) o pre) a w.drew) : (Code.region id (o :: l).toArray true).wp P Q a w := by
  have := anyM (S := S) (md := .any) need pre i j post hB hlt hi hj gi gj gp hQ hS h
  exact wp_region_any hm (wpAny_of_M _ _ _ _ (by simpa using this))
theorem wpPreM_nil {need : List Nat} {R : Act → World → Prop} {a : Act} {w : World} (h : R a w) : wpPreM P ops S need R [] a w := h
theorem wpPreM_q {need : List Nat} {R : Act → World → Prop} {o : Oper} {rest : List (Nat × Oper)} {k : Nat} {a : Act} {w : World} (hw : Region.wanted o (yielded ops a.tmps) = true) (v : Value)
    (hy : ∀ W, (need.contains k = true → S W) → (execOp a.eval o).run P W = .ok (.value v) W) (h : wpPreM P ops S need R rest (a.put o.dst v) w) : wpPreM P ops S need R ((k, o) :: rest) a w := by
  unfold wpPreM
  exact ⟨v, .inl ⟨hw, hy⟩, h⟩
theorem wpPostM_nil {d : Bool} {a : Act} {w : World} (h : Q .normal a w) : wpPostM P Q S d [] a w := h
theorem wpPostM_a {d b : Bool} {o : Oper} {rest : List (Bool × Oper)} {a : Act} {w : World} (h : ∀ K : Act → World → Prop, (∀ a' w', (d = false → b = false → S w') → wpPostM P Q S (d || b) rest a' w' → K a' w') → Oper.wp P o a w K Q) : wpPostM P Q S d ((b, o) :: rest) a w := h
end
end Go.Proofs.YtmpjjmilodjecaaGreatDoor
