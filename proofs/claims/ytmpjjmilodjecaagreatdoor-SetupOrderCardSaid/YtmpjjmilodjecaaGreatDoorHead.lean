/- A region that draws its order: its head keeps S (reads are taken first, what changes memory comes in the order of the text), its tail waits for all of the head: one walk in the order of the text. -/
import Derived.Test.YtmpjjmilodjecaaGreatDoorAny
import Derived.OrdersHeld
import Derived.StillTail
namespace Go.Proofs.YtmpjjmilodjecaaGreatDoor
open Go.RowKit
set_option linter.unusedVariables false

section
variable {P : Program} {ops : Array Oper} {Q : Exit → Act → World → Prop} {md : Region.Mode} {S : World → Prop} {n : Nat}
/-- Whatever order is picked, and S holds behind each operation of the head. -/
def wpAnyT (P : Program) (md : Region.Mode) (ops : Array Oper) (Q : Exit → Act → World → Prop) (S : World → Prop) (n : Nat) : Nat → Array Bool → Act → World → Prop
  | 0, listed, a, w => Region.ready md ops listed = [] ∧ Q .normal a w
  | fuel + 1, listed, a, w =>
    (Region.ready md ops listed = [] → Q .normal a w) ∧
    ∀ i ∈ Region.ready md ops listed, wpOp P ops Q i (fun a' w' => (i < n → S w') ∧ wpAnyT P md ops Q S n fuel (listed.setIfInBounds i true) a' w') a w
theorem wpAny_of_T : ∀ (fuel : Nat) (listed : Array Bool) (a : Act) (w : World), wpAnyT P md ops Q S n fuel listed a w → wpAny P md ops Q fuel listed a w
  | 0, _, _, _, h => h
  | fuel + 1, _, _, _, h => ⟨h.1, fun i hi => wpOp_mono (fun a' w' h' => wpAny_of_T fuel _ a' w' h'.2) (h.2 i hi)⟩
theorem wpAnyT_first {i : Nat} {oi : Oper} {v : Value} (hi : ops[i]? = some oi) (hsel : ∀ (j : Nat) (o : Oper) cs b, ops[j]? = some o → o.op ≠ .select cs b)
    (hsk : Region.sinkB md ops n = true) (hc : Region.chainB md ops n = true) (hn : n < ops.size) (hin : i < n)
    (hQ : ∀ c a w, Q (.panic c) (a.put oi.dst v) w → Q (.panic c) a w) :
    ∀ (fuel : Nat) (listed : Array Bool) (a : Act) (w : World), HeadInv md ops n listed →
      (∀ j oj, ops[j]? = some oj → j ≠ i → listed.getD j true = false → (∀ e ∈ oj.after, Region.binds md e = true → e.on ≠ i) → oi.apart ops oj = true) →
      i ∈ Region.ready md ops listed → YieldsIf P ops S oi v a → S w →
      wpAnyT P md ops Q S n fuel (listed.setIfInBounds i true) (a.put oi.dst v) w → wpAnyT P md ops Q S n (fuel + 1) listed a w := by
  intro fuel
  induction fuel with
  | zero =>
    intro listed a w _ _ hr hy hS H
    refine ⟨fun h => (by rw [h] at hr; cases hr), fun j hj => ?_⟩
    by_cases hji : j = i
    · subst hji; exact hy.wpOp hi hS ⟨fun _ => hS, H⟩
    · have := ready_mono hj hji
      rw [H.1] at this
      cases this
  | succ fuel ih =>
    intro listed a w inv hfree hr hy hS H
    refine ⟨fun h => (by rw [h] at hr; cases hr), fun j hj => ?_⟩
    by_cases hji : j = i
    · subst hji; exact hy.wpOp hi hS ⟨fun _ => hS, H⟩
    · have hjn : j < n := by
        rcases Nat.lt_or_ge j n with h | h
        · exact h
        · exact absurd hj (tail_waits hsk hc hn inv _ i rfl hin (mem_ready.1 hr).1 j h)
      have h1 := H.2 j (ready_mono hj hji)
      obtain ⟨hjun, oj, hoj, hall⟩ := mem_ready.1 hj
      have hnot : ∀ e ∈ oj.after, Region.binds md e = true → e.on ≠ i := fun e he hb heq => by
        have h1 := hall e he hb
        have h0 := (mem_ready.1 hr).1
        rw [heq] at h1
        rcases Nat.lt_or_ge i listed.size with h' | h'
        · simp [h'] at h0 h1; rw [h0] at h1; cases h1
        · simp [Array.getElem?_eq_none h'] at h1
      have h2 := wpOp_putIf hoj (hfree j oj hoj hji hjun hnot) (fun cs b => hsel i oi cs b hi) (fun cs b => hsel j oj cs b hoj) hQ hy h1
      have hfree' : ∀ k ok, ops[k]? = some ok → k ≠ i → (listed.setIfInBounds j true).getD k true = false →
          (∀ e ∈ ok.after, Region.binds md e = true → e.on ≠ i) → oi.apart ops ok = true := fun k ok hk hki hun hno => by
        refine hfree k ok hk hki ?_ hno
        by_cases hjk : j = k
        · subst hjk; exact hjun
        · rw [getD_set_ne true hjk] at hun; exact hun
      refine wpOp_mono (fun a' w' h3 => ⟨h3.2.1, ih (listed.setIfInBounds j true) a' w' (inv.set hj hjn) hfree' (ready_mono hr (Ne.symm hji)) h3.1 (h3.2.1 hjn) ?_⟩) h2
      rw [Array.setIfInBounds_comm _ _ hji]
      exact h3.2.2
/-- In the order of the text; act: those that may change memory. -/
def wpT (P : Program) (ops : Array Oper) (Q : Exit → Act → World → Prop) (S : World → Prop) (n : Nat) (act : List Nat) : List Oper → Nat → Act → World → Prop
  | [], _, a, w => Q .normal a w
  | o :: rest, k, a, w =>
    if act.contains k then
      ∀ K : Act → World → Prop, (∀ a' w', (k < n → S w') → wpT P ops Q S n act rest (k + 1) a' w' → K a' w') → if Region.wanted o (yielded ops a.tmps) = true then Oper.wp P o a w K Q else K (a.put o.dst undef) w
    else ∃ v, YieldsIf P ops S o v a ∧ wpT P ops Q S n act rest (k + 1) (a.put o.dst v) w
def lexT (md : Region.Mode) (ops : Array Oper) (n : Nat) (act : List Nat) : Nat → Nat → Array Bool → Bool
  | 0, _, listed => (Region.ready md ops listed).isEmpty
  | f + 1, k, listed => (if act.contains k then Region.ready md ops listed == [k] else decide (k < n) && Region.free md ops listed k && (Region.ready md ops listed).contains k) && lexT md ops n act f (k + 1) (listed.setIfInBounds k true)
def lexTB (md : Region.Mode) (ops : Array Oper) (n : Nat) (act : List Nat) : Bool :=
  Region.noSelect ops && decide (n < ops.size) && Region.sinkB md ops n && Region.chainB md ops n && lexT md ops n act ops.size 0 (Array.replicate ops.size false)
/-- At a panic's exit nobody looks at what was written first. -/
def blind (Q : Exit → Act → World → Prop) (act : List Nat) : List Oper → Nat → Prop
  | [], _ => True
  | o :: l, k => (act.contains k = true ∨ ∀ c a v w, Q (.panic c) (a.put o.dst v) w → Q (.panic c) a w) ∧ blind Q act l (k + 1)
theorem wpAnyT_of (hs : Region.noSelect ops = true) (hsk : Region.sinkB md ops n = true) (hc : Region.chainB md ops n = true) (hn : n < ops.size) (act : List Nat) :
    ∀ (l : List Oper) (k : Nat) (listed : Array Bool) (a : Act) (w : World), (∀ j, l[j]? = ops[k + j]?) → (k ≤ n → HeadInv md ops n listed) → (k < n → S w) → lexT md ops n act l.length k listed = true → blind Q act l k →
      wpT P ops Q S n act l k a w → wpAnyT P md ops Q S n l.length listed a w
  | [], k, listed, a, w, _, _, _, hB, _, h => ⟨by simpa [lexT] using hB, h⟩
  | o :: l, k, listed, a, w, hl, inv, hSw, hB, hbl, h => by
    have h0 : ops[k]? = some o := by simpa using (hl 0).symm
    have hl' : ∀ j, l[j]? = ops[k + 1 + j]? := fun j => by have := hl (j + 1); simpa [Nat.add_assoc, Nat.add_comm 1 j] using this
    simp only [List.length_cons, lexT, Bool.and_eq_true] at hB
    obtain ⟨hk, hB'⟩ := hB
    unfold wpT at h
    by_cases hact : act.contains k = true
    · rw [if_pos hact] at hk h
      have hrd : Region.ready md ops listed = [k] := by simpa using hk
      refine ⟨fun h' => (by rw [hrd] at h'; cases h'), fun i hi => ?_⟩
      rw [hrd] at hi
      obtain rfl : i = k := by simpa using hi
      have hin : i ∈ Region.ready md ops listed := by rw [hrd]; exact hi
      unfold wpOp
      simp only [h0]
      have := h (fun a' w' => (i < n → S w') ∧ wpAnyT P md ops Q S n l.length (listed.setIfInBounds i true) a' w') (fun a' w' hS' hT =>
        ⟨hS', wpAnyT_of hs hsk hc hn act l (i + 1) _ a' w' hl' (fun hle => (inv (by omega)).set hin (by omega)) (fun hlt => hS' (by omega)) hB' hbl.2 hT⟩)
      split
      · rename_i hw; rw [if_pos hw] at this; exact .inl this
      · rename_i hw; rw [if_neg hw] at this; exact this
    · rw [if_neg hact] at hk h
      simp only [Bool.and_eq_true, decide_eq_true_eq] at hk
      obtain ⟨⟨hkn, hf⟩, hr⟩ := hk
      obtain ⟨v, hy, hT⟩ := h
      have hin : k ∈ Region.ready md ops listed := by simpa using hr
      exact wpAnyT_first h0 (Region.noSelect_spec hs) hsk hc hn hkn (fun c a w => (hbl.1.resolve_left hact) c a _ w) l.length listed a w (inv (by omega)) (Region.free_spec h0 hf) hin hy (hSw hkn)
        (wpAnyT_of hs hsk hc hn act l (k + 1) _ _ w hl' (fun hle => (inv (by omega)).set hin hkn) (fun _ => hSw hkn) hB' hbl.2 hT)
theorem wp_region_T {id : Nat} {a : Act} {w : World} {l : List Oper} (n : Nat) (act : List Nat) (S : World → Prop) (hm : P.follows .mixedOrders = true) (hB : lexTB .any l.toArray n act = true)
    (hQ : blind Q act l 0) (hS : S w.drew) (h : wpT P l.toArray Q S n act l 0 a w.drew) : (Code.region id l.toArray true).wp P Q a w := by
  simp only [lexTB, Bool.and_eq_true, decide_eq_true_eq] at hB
  obtain ⟨⟨⟨⟨hsel, hn⟩, hs⟩, hc⟩, hlex⟩ := hB
  have inv0 : HeadInv .any l.toArray n (Array.replicate l.toArray.size false) :=
    ⟨by simp, fun j oj _ hl => (by rw [getD_replicate_false] at hl; cases hl), fun t _ ht => getD_in (by simpa using ht) (getD_replicate_false _ _)⟩
  have := wpAnyT_of (S := S) hsel hs hc hn act l 0 (Array.replicate l.toArray.size false) a w.drew (fun j => by simp) (fun _ => inv0) (fun _ => hS) (by simpa using hlex) hQ h
  exact wp_region_any hm (wpAny_of_T _ _ _ _ (by simpa using this))
theorem wpT_nil {act : List Nat} {k : Nat} {a : Act} {w : World} (h : Q .normal a w) : wpT P ops Q S n act [] k a w := h
/-- An operation that is taken first. -/
theorem wpT_q {act : List Nat} {o : Oper} {rest : List Oper} {k : Nat} {a : Act} {w : World} (hk : act.contains k = false) (hw : Region.wanted o (yielded ops a.tmps) = true) (v : Value)
    (hy : ∀ W, S W → (execOp a.eval o).run P W = .ok (.value v) W) (h : wpT P ops Q S n act rest (k + 1) (a.put o.dst v) w) : wpT P ops Q S n act (o :: rest) k a w := by
  unfold wpT
  rw [if_neg (by rw [hk]; exact Bool.false_ne_true)]
  exact ⟨v, .inl ⟨hw, hy⟩, h⟩
/-- One that its guard passes over. -/
theorem wpT_skip {act : List Nat} {o : Oper} {rest : List Oper} {k : Nat} {a : Act} {w : World} (hk : act.contains k = false) (hw : Region.wanted o (yielded ops a.tmps) = false)
    (h : wpT P ops Q S n act rest (k + 1) (a.put o.dst undef) w) : wpT P ops Q S n act (o :: rest) k a w := by
  unfold wpT
  rw [if_neg (by rw [hk]; exact Bool.false_ne_true)]
  exact ⟨undef, .inr ⟨hw, rfl⟩, h⟩
/-- One that may change memory. -/
theorem wpT_a {act : List Nat} {o : Oper} {rest : List Oper} {k : Nat} {a : Act} {w : World} (hk : act.contains k = true) (hw : Region.wanted o (yielded ops a.tmps) = true)
    (h : ∀ K : Act → World → Prop, (∀ a' w', (k < n → S w') → wpT P ops Q S n act rest (k + 1) a' w' → K a' w') → Oper.wp P o a w K Q) : wpT P ops Q S n act (o :: rest) k a w := by
  unfold wpT
  rw [if_pos hk]
  intro K hK
  rw [if_pos hw]
  exact h K hK
theorem yields_load_at {a : Act} {o : Oper} (ty : TypeId) (x : Operand) (ho : o.op = .load ty x) (g off m : Nat) (hx : a.eval x = .pointer (some ⟨g, off, none⟩)) (cs : Array Value) (d : TypeDesc)
    (hu : P.underlying ty = some d) (hd : (match d with | .struct _ | .array _ _ => true | _ => false) = true) (hi : (P.info? ty).map (·.size) = some m) {W : World} (hg : rowAt W g off m = some cs) :
    (execOp a.eval o).run P W = .ok (.value (.agg cs)) W := by
  unfold execOp
  simp only [ho, hx, Instr.loadAt, Instr.sureAddr, Sem.run_bind, Sem.run_pure, Result.andThen_ok, run_loadVar_at W ty g off m cs d hg hu hd hi]
end

/-! Steps that change memory, at Oper.wp. -/
section
variable {P : Program} {o : Oper} {a : Act} {w : World} {K : Act → World → Prop} {Q : Exit → Act → World → Prop}
theorem wp_slice1 (t e : TypeId) (x : Operand) (ho : o.op = .buildSlice t 1 #[(0, x)])
    (cells : Array Value) (n bytes : Nat) (ht : P.underlying t = some (.slice e)) (hi : rowInfo P e = some (n, bytes)) (hn : 0 < n ∧ n ≤ 16777216) (hx : (a.eval x).cells = cells) (hc : cells.size = n) (g : Nat) (hgw : w.heap.size = g)
    (h : K (a.put o.dst (.slice (some ⟨g, 0, none⟩) 1 1)) (w.alloc (.cells cells e))) : o.wp P a w K Q := by
  subst hgw
  obtain ⟨i, z, hq, hi1, hi2, hi3, hz⟩ := rowInfo_some hi
  unfold Oper.wp execOp
  have hr := run_slice1 w t e (a.eval x) cells n z i ht hq hi1 hi2 hz hn.1 hn.2 hx hc
  have he : (#[(0, x)] : Array (Nat × Operand)).map (fun (i, x) => (i, a.eval x)) = #[(0, a.eval x)] := by simp
  simp only [ho, Sem.run_bind, he, hr, Result.andThen_ok]
  exact h
theorem wp_append1 {α : Type} (arr : α → Array Value) (sz : Nat) (s x : Operand) (t : TypeId)
    (ho : o.op = .call { callee := .builtin .append, args := #[s, x], argTypes := #[t, t] })
    (base : Nat) (e : TypeId) (bytes : Nat) (ht : P.underlying t = some (.slice e)) (hi : rowInfo P e = some (sz, bytes)) (hsz : 0 < sz)
    (v : Value) (xs : List α) (y : α) (hs : a.eval s = v) (hown : Own arr sz base e w v xs)
    (g : Nat) (hx : a.eval x = .slice (some ⟨g, 0, none⟩) 1 1) (hy : rowAt w g 0 sz = some (arr y)) (h1 : (arr y).all (·.oneCell') = true)
    (hbytes : (xs.length + 1) * bytes ≤ 140737488355328) (h63 : xs.length < 9223372036854775807) (hbase : base ≤ w.heap.size)
    (h : ∀ v' w', Own arr sz base e w' v' (xs ++ [y]) → w.grownBy w' v.ownBlock → Below base w w' → (v'.ownBlock = v.ownBlock ∨ v'.ownBlock = some w.heap.size) → K (a.put o.dst v') w') : o.wp P a w K Q := by
  obtain ⟨i, z, hq, hi1, hi2, hi3, hz⟩ := rowInfo_some hi
  have hsz1 := rowAt_size hy
  obtain ⟨v', w', hr, h2, h3, h4, h5⟩ := run_append_own_at (P := P) w base t o.type e i z sz bytes ht hq hi1 hi2 hi3 hz hsz v xs.length _ hown ⟨g, 0, none⟩ 1 1 (arr y).toList (by simp [hsz1]) (fun j u hu => by
    have hj : j < sz := by have := (List.getElem?_eq_some_iff.1 hu).1; simp [hsz1] at this; exact this
    have hadd : (⟨g, 0, none⟩ : Addr).add j = ⟨g, 0 + j, none⟩ := by unfold Addr.add; split <;> simp_all
    rw [hadd, rowAt_cell hy j hj]
    simpa using hu) (fun u hu => (Array.all_eq_true_iff_forall_mem.1 h1) u (by simpa using hu)) (by unfold maxLen; omega) hbytes hbase
  unfold Oper.wp execOp
  simp only [ho, resolve, invoke, builtin, Sem.run_bind, Sem.run_pure, Result.andThen_ok, List.map_toArray, List.map_cons, List.map_nil, hs, hx, hr]
  refine h v' w' ?_ h3 ((Below.refl base w).grown h3 hbase fun k hk => (hown.lt k hk).1) h5
  unfold Own
  simpa using h2
end
end Go.Proofs.YtmpjjmilodjecaaGreatDoor
