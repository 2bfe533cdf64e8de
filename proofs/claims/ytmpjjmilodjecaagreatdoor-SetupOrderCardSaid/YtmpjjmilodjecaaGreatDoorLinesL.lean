/- A loop over strings.Lines. -/
import Derived.Test.YtmpjjmilodjecaaGreatDoorLinesK
namespace Go.Proofs.YtmpjjmilodjecaaGreatDoor
open Go.RowKit Go.Shelf
set_option linter.unusedVariables false
set_option linter.unusedSimpArgs false
set_option maxRecDepth 100000 in
theorem lines_in (n : Nat) (s : List UInt8) (w : World) :
    CallsIn Fence.wide n Tryz.prog 70 #[strV s] w fun e w' => e = .returned (.func (.func 132) #[] #[.pointer (some ⟨w.heap.size, 0, none⟩)]) ∧ w' = w.alloc (.cells #[strV s] 9) := by
  refine callsIn_of_wp Tryz.func70 rfl trivial ?_ rfl
  simp only [Tryz.ntmps70, List.size_toArray, List.length_cons, List.length_nil, Nat.reduceAdd, Nat.reduceSub, Array.replicate_succ, Array.replicate_zero, List.push_toArray, List.append_toArray, List.nil_append, List.cons_append]
  gi_wp2
  go_ret
  exact ⟨rfl, rfl⟩
/-- What minds neither a turn of block Bs nor one of what is no cells from B on. -/
def Turned (Bs B : Nat) (I : World → Prop) : Prop :=
  ∀ W W' row, I W → W.grownBy W' row → (∀ r, row = some r → r = Bs ∨ (B ≤ r ∧ ∃ o : Obj, W.heap[r]? = some o ∧ o.isCells = false)) → I W'
theorem Turned.alloc {Bs B : Nat} {I : World → Prop} (h : Turned Bs B I) {W : World} (hi : I W) (o : Obj) : I (W.alloc o) := h W _ none hi (World.grownBy_alloc W o none) (fun r e => by cases e)
theorem Turned.put {Bs B : Nat} {I : World → Prop} (h : Turned Bs B I) {W : World} (hi : I W) {l : Nat} {o : Obj} (hl : W.heap[l]? = some o) (hB : B ≤ l) (ho : o.isCells = false) (o' : Obj) : I (W.putObj l o') :=
  h W _ (some l) hi (grownBy_putObj' W l o') (fun r e => by cases e; exact .inr ⟨hB, o, hl, ho⟩)
theorem Turned.and {Bs B : Nat} {I I' : World → Prop} (h : Turned Bs B I) (h' : Turned Bs B I') : Turned Bs B fun W => I W ∧ I' W := fun W W' row hi hg hr => ⟨h W W' row hi.1 hg hr, h' W W' row hi.2 hg hr⟩
theorem Turned.pure {Bs B : Nat} (p : Prop) : Turned Bs B fun _ => p := fun _ _ _ h _ _ => h
theorem Turned.boxed {Bs B b : Nat} (t : TypeId) (v : Value) (h : b ≠ Bs) : Turned Bs B fun W => Boxed W b t v := fun W W' row hb hg hr => hb.kept hg fun e => by
  rcases hr b e.symm with h1 | ⟨_, o, ho, hc⟩
  · exact h h1
  · rw [show W.heap[b]? = _ from hb] at ho
    cases ho
    cases hc
theorem Turned.below {Bs B n₀ : Nat} {w₀ : World} (h1 : n₀ ≤ w₀.heap.size) (h2 : n₀ ≤ Bs) (h3 : n₀ ≤ B) : Turned Bs B fun W => Below n₀ w₀ W := fun W W' row hb hg hr => hb.grown hg (Nat.le_trans h1 hb.size) fun r e => by
  rcases hr r e with h | ⟨h, _⟩ <;> omega
/-- How a round's body may be left. -/
def linePost (Bs B : Nat) (I Ix : World → Prop) (W : World) : Exit → Act → World → Prop
  | .normal, _, W' => KeepsFrom B W W' ∧ W'.heap[Bs]? = W.heap[Bs]? ∧ I W'
  | .ret, _, W' => KeepsFrom B W W' ∧ Ix W'
  | _, _, _ => False
/-- The loop's record and the block beside it. -/
structure Books (B : Nat) (rec : Loop) (W : World) : Prop where
  one : W.heap[B]? = some (.deferred (some []))
  two : W.heap[B + 1]? = some (.loop rec)
theorem Books.turned {Bs B : Nat} {rec : Loop} (h : Bs < B) {W W' : World} (hk : Books B rec W) (hg : W.grownBy W' (some Bs)) : Books B rec W' :=
  ⟨(hg.block B (Array.getElem?_eq_some_iff.1 hk.one).1 (fun e => by cases e; omega)).trans hk.one, (hg.block (B + 1) (Array.getElem?_eq_some_iff.1 hk.two).1 (fun e => by cases e; omega)).trans hk.two⟩
theorem Books.kept {B : Nat} {rec : Loop} {W W' : World} (hk : Books B rec W) (h : KeepsFrom B W W') : Books B rec W' :=
  ⟨h.same B _ (Nat.le_refl _) hk.one rfl, h.same (B + 1) _ (by omega) hk.two rfl⟩
theorem Books.put {B : Nat} {rec rec' : Loop} {W : World} (hk : Books B rec W) : Books B rec' (W.putObj (B + 1) (.loop rec')) :=
  ⟨(World.putObj_heap_other (by omega)).trans hk.one, World.putObj_heap_same (Array.getElem?_eq_some_iff.1 hk.two).1⟩
theorem range_lines {g : Operand} {t : Tmp} {assign body : Code} {Q : Exit → Act → World → Prop} {a : Act} {w : World} {Bs : Nat} (hg : a.eval g = .func (.func 132) #[] #[.pointer (some ⟨Bs, 0, none⟩)])
    (s : List UInt8) (hs : s.length ≤ 1000000) (hb : Boxed w Bs 9 (strV s)) (I Ix : List (List UInt8) → World → Prop) (hI : ∀ pre, Turned Bs w.heap.size (I pre)) (hIx : ∀ pre, Turned Bs w.heap.size (Ix pre)) (h0 : I [] w) (a₁ : List UInt8 → Act)
    (hassign : ∀ (l : Nat) (x : List UInt8) (W : World) (K : Act → World → Prop), K (a₁ x) W → assign.wpIn (Fence.wide.inRound l) 1 Tryz.prog (Exit.then K (fun _ _ _ => False)) { tmps := a.tmps.setIfInBounds t (strV x), defers := [] } W)
    (hbody : ∀ (l : Nat) (pre : List (List UInt8)) (x : List UInt8) (post : List (List UInt8)) (W : World), T.linesK s = pre ++ x :: post → I pre W → w.heap.size ≤ W.heap.size → body.wpIn (Fence.wide.inRound l) 1 Tryz.prog (linePost Bs w.heap.size (I (pre ++ [x])) (Ix (pre ++ [x])) W) (a₁ x) W)
    (hdone : ∀ (D : Nat) (W : World), w.heap.size ≤ D → I (T.linesK s) W → W.heap[D]? = some (.deferred (some [])) → Q .normal { a with defers := { target := .collected D, args := #[] } :: a.defers } W)
    (hstop : ∀ (D : Nat) (pre : List (List UInt8)) (x : List UInt8) (post : List (List UInt8)) (W : World), w.heap.size ≤ D → T.linesK s = pre ++ x :: post → Ix (pre ++ [x]) W → W.heap[D]? = some (.deferred (some [])) →
      Code.ret.wpIn Fence.wide 3 Tryz.prog Q { a with defers := { target := .collected D, args := #[] } :: a.defers } W) :
    (Code.rangeFunc g #[t] assign body).wpIn Fence.wide 3 Tryz.prog Q a w := by
  obtain ⟨B, hB⟩ : ∃ B, B = w.heap.size := ⟨_, rfl⟩
  have hBs : Bs < B := by rw [hB]; exact hb.lt
  refine wpIn_rangeFunc ?_
  intro fn _
  obtain ⟨rec, hrec⟩ : ∃ rec : LoopState → Option Code → Loop, rec = fun st pe => { state := st, pending := pe, fn, tmps := a.tmps, params := #[t], assign, body, defers := B } := ⟨_, rfl⟩
  obtain ⟨W1, hW1⟩ : ∃ W1, (w.alloc (.deferred (some []))).alloc (.loop (rec .ready none)) = W1 := ⟨_, rfl⟩
  have hk1 : Books B (rec .ready none) W1 := by
    rw [← hW1, hB]
    refine ⟨(Below.heap_alloc _ _ _ (by simp)).trans (World.alloc_heap_new w _), ?_⟩
    have := World.alloc_heap_new (w.alloc (.deferred (some []))) (.loop (rec .ready none))
    rwa [World.size_alloc] at this
  have hI1 : I [] W1 := by rw [← hW1]; exact (hI []).alloc ((hI []).alloc h0 _) _
  have hb1 : Boxed W1 Bs 9 (strV s) := by rw [← hW1]; exact (hb.alloc _).alloc _
  have henter : (Instr.enterLoop fn a.tmps #[t] assign body Fence.wide.round).run Tryz.prog w = .ok (B + 1, [{ target := .collected B, args := #[] }]) W1 := by
    rw [← hW1, hrec, hB]; exact run_enterLoop_outer _ _ _ _ _
  refine ⟨B + 1, [{ target := .collected B, args := #[] }], W1, { target := .fn (.func 132) #[.pointer (some ⟨Bs, 0, none⟩)], args := #[.func (.yield (B + 1)) #[] #[]] }, W1, 132,
    #[.func (.yield (B + 1)) #[] #[], .pointer (some ⟨Bs, 0, none⟩)], W1, henter, ?_, fun _ _ => trivial, ?_, fun h => (by cases h), ?_⟩
  · simp only [resolve, hg]
    simp [go_sem]
  · have e1 := enters_of (P := Tryz.prog) (f := 132) Tryz.func132 (by kernel_rfl) rfl
    simp [invoke, go_sem, e1]
  rw [← hB] at hI hIx hbody hdone hstop
  clear henter hW1
  refine (lines1_in 2 (B + 1) Bs s hs (fun pre W => I pre W ∧ Books B (rec .ready none) W) (fun pre W => Ix pre W ∧ Books B (rec .done (some .ret)) W)
    (fun pre W W' hj hgr => ⟨hI pre W W' _ hj.1 hgr (fun r e => by cases e; exact .inl rfl), hj.2.turned hBs hgr⟩) ?_ W1 hb1 ⟨hI1, hk1⟩).mono ?_
  · rintro pre x W ⟨hi, hk⟩ ⟨post, hsp⟩
    have hy := run_yield (P := Tryz.prog) (args := #[strV x]) hk.two (by rw [hrec]; rfl)
    rw [hrec] at hy
    have hy' : (Instr.yield (B + 1) #[strV x]).run Tryz.prog W = .ok (.round (B + 1) fn (a.tmps.setIfInBounds t (strV x)) assign body) W := by rw [hy]; simp
    refine ⟨fn, _, assign, body, hy', roundIn_of_wpIn trivial (hassign _ x W _ ⟨_, run_beginRound hk.two (by rw [hrec]), ?_⟩)⟩
    have hk2 := hk.put (rec' := { rec .ready none with state := .busy })
    have hlt := (Array.getElem?_eq_some_iff.1 hk.two).1
    refine wpIn_mono (hbody _ pre x post _ hsp ((hI pre).put hi hk.two (by omega) rfl _) (by simp; omega)) ?_
    rintro e a3 W3 hp
    have hse : (W.putObj (B + 1) (.loop { rec .ready none with state := .busy })).heap[Bs]? = W.heap[Bs]? := World.putObj_heap_other (by omega)
    cases e with
    | normal =>
      obtain ⟨hk3, hs3, hi3⟩ := hp
      have hk4 := hk2.kept hk3
      have hr := run_endRound (P := Tryz.prog) none hk4.two
      rw [hrec] at hr hk4
      refine ⟨_, _, hr, .inl ⟨rfl, ⟨(hI _).put hi3 hk4.two (by omega) rfl _, ?_⟩, ?_⟩⟩
      · rw [hrec]; exact hk4.put
      · exact (World.putObj_heap_other (by omega)).trans (hs3.trans hse)
    | ret =>
      obtain ⟨hk3, hi3⟩ := hp
      have hk4 := hk2.kept hk3
      have hr := run_endRound (P := Tryz.prog) (some .ret) hk4.two
      rw [hrec] at hr hk4
      refine ⟨_, _, hr, .inr ⟨rfl, (hIx _).put hi3 hk4.two (by omega) rfl _, ?_⟩⟩
      rw [hrec]; exact hk4.put
    | exit id => exact hp.elim
    | goto t => exact hp.elim
    | panic ch => exact hp.elim
    | outgrown => exact hp.elim
  · rintro e W2 ⟨⟨v, rfl⟩, (⟨hi, hk⟩ | ⟨pre, x, post, hsp, hi, hk⟩)⟩
    · have hend := run_endLoop (P := Tryz.prog) hk.two (by rw [hrec]; simp)
      rw [hrec] at hend hk
      exact ⟨none, _, hend, hdone _ _ (Nat.le_refl _) ((hI _).put hi hk.two (by omega) rfl _) ((World.putObj_heap_other (by omega)).trans hk.one)⟩
    · have hend := run_endLoop (P := Tryz.prog) hk.two (by rw [hrec]; simp)
      rw [hrec] at hend hk
      exact ⟨some .ret, _, hend, hstop _ pre x post _ (Nat.le_refl _) hsp ((hIx _).put hi hk.two (by omega) rfl _) ((World.putObj_heap_other (by omega)).trans hk.one)⟩
end Go.Proofs.YtmpjjmilodjecaaGreatDoor
