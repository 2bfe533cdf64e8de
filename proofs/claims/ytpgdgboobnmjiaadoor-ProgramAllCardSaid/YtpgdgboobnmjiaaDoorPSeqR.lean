/- A loop over strings.SplitSeq. -/
import Derived.Test.YtpgdgboobnmjiaaDoorPSeqL
namespace Go.Proofs.YtpgdgboobnmjiaaDoor
open Go.RowKit Go.Shelf
set_option linter.unusedVariables false
set_option linter.unusedSimpArgs false
/-- How a round's body may be left. -/
def seqPost (Bs Be Bv B : Nat) (I Ix : World → Prop) (W : World) : Exit → Act → World → Prop
  | .normal, _, W' => KeepsFrom B W W' ∧ W'.heap[Bs]? = W.heap[Bs]? ∧ W'.heap[Be]? = W.heap[Be]? ∧ W'.heap[Bv]? = W.heap[Bv]? ∧ I W'
  | .ret, _, W' => KeepsFrom B W W' ∧ Ix W'
  | _, _, _ => False
theorem range_seq {g : Operand} {t : Tmp} {assign body : Code} {Q : Exit → Act → World → Prop} {a : Act} {w : World} {Bs Be Bv : Nat} (hg : a.eval g = .func (.func 96) #[] #[.pointer (some ⟨Be, 0, none⟩), .pointer (some ⟨Bs, 0, none⟩), .pointer (some ⟨Bv, 0, none⟩)])
    (s : List UInt8) (hs : s.length ≤ 1000000) (hb : SeqB Bs Be Bv s w) (hne1 : Be ≠ Bs) (hne2 : Bv ≠ Bs) (I Ix : List (List UInt8) → World → Prop) (hI : ∀ pre, Turned Bs w.heap.size (I pre)) (hIx : ∀ pre, Turned Bs w.heap.size (Ix pre)) (hIe : ∀ pre W, I pre W → Env W) (h0 : I [] w) (a₁ : List UInt8 → Act)
    (hassign : ∀ (l : Nat) (x : List UInt8) (W : World) (K : Act → World → Prop), K (a₁ x) W → assign.wpIn (Fence.wide.inRound l) 1 Tryd.prog (Exit.then K (fun _ _ _ => False)) { tmps := a.tmps.setIfInBounds t (strV x), defers := [] } W)
    (hbody : ∀ (l : Nat) (pre : List (List UInt8)) (x : List UInt8) (post : List (List UInt8)) (W : World), T.psplit s = pre ++ x :: post → I pre W → w.heap.size ≤ W.heap.size → body.wpIn (Fence.wide.inRound l) 1 Tryd.prog (seqPost Bs Be Bv w.heap.size (I (pre ++ [x])) (Ix (pre ++ [x])) W) (a₁ x) W)
    (hdone : ∀ (D : Nat) (W : World), w.heap.size ≤ D → I (T.psplit s) W → W.heap[D]? = some (.deferred (some [])) → Q .normal { a with defers := { target := .collected D, args := #[] } :: a.defers } W)
    (hstop : ∀ (D : Nat) (pre : List (List UInt8)) (x : List UInt8) (post : List (List UInt8)) (W : World), w.heap.size ≤ D → T.psplit s = pre ++ x :: post → Ix (pre ++ [x]) W → W.heap[D]? = some (.deferred (some [])) →
      Code.ret.wpIn Fence.wide 3 Tryd.prog Q { a with defers := { target := .collected D, args := #[] } :: a.defers } W) :
    (Code.rangeFunc g #[t] assign body).wpIn Fence.wide 3 Tryd.prog Q a w := by
  obtain ⟨B, hB⟩ : ∃ B, B = w.heap.size := ⟨_, rfl⟩
  have hBs : Bs < B := by rw [hB]; exact hb.s.lt
  have hBe : Be < B := by rw [hB]; exact hb.e.lt
  have hBv : Bv < B := by rw [hB]; exact hb.v.lt
  refine wpIn_rangeFunc ?_
  intro fn _
  obtain ⟨rec, hrec⟩ : ∃ rec : LoopState → Option Code → Loop, rec = fun st pe => { state := st, pending := pe, fn, tmps := a.tmps, params := #[t], assign, body, defers := B } := ⟨_, rfl⟩
  obtain ⟨W1, hW1⟩ : ∃ W1, (w.alloc (.deferred (some []))).alloc (.loop (rec .ready none)) = W1 := ⟨_, rfl⟩
  have hk1 : Books B (rec .ready none) W1 := by
    rw [← hW1, hB]
    refine ⟨(Below.heap_alloc _ _ _ (by simp)).trans (World.alloc_heap_new w _), ?_⟩
    have := World.alloc_heap_new (w.alloc (.deferred (some []))) (.loop (rec .ready none))
    rwa [World.size_alloc] at this
  have hI1 : I [] W1 := by rw [← hW1]; exact (hI []).alloc ((hI []).alloc h0 _) _
  have hb1 : SeqB Bs Be Bv s W1 := by rw [← hW1]; exact ⟨(hb.s.alloc _).alloc _, (hb.e.alloc _).alloc _, (hb.v.alloc _).alloc _⟩
  have henter : (Instr.enterLoop fn a.tmps #[t] assign body Fence.wide.round).run Tryd.prog w = .ok (B + 1, [{ target := .collected B, args := #[] }]) W1 := by
    rw [← hW1, hrec, hB]; exact run_enterLoop_outer _ _ _ _ _
  refine ⟨B + 1, [{ target := .collected B, args := #[] }], W1, { target := .fn (.func 96) #[.pointer (some ⟨Be, 0, none⟩), .pointer (some ⟨Bs, 0, none⟩), .pointer (some ⟨Bv, 0, none⟩)], args := #[.func (.yield (B + 1)) #[] #[]] }, W1, 96,
    #[.func (.yield (B + 1)) #[] #[], .pointer (some ⟨Be, 0, none⟩), .pointer (some ⟨Bs, 0, none⟩), .pointer (some ⟨Bv, 0, none⟩)], W1, henter, ?_, fun _ _ => trivial, ?_, fun h => (by cases h), ?_⟩
  · simp only [resolve, hg]
    simp [go_sem]
  · have e1 := enters_of (P := Tryd.prog) (f := 96) Tryd.func96 (by kernel_rfl) rfl
    simp [invoke, go_sem, e1]
  rw [← hB] at hI hIx hbody hdone hstop
  clear henter hW1
  refine (seq1_in 2 (B + 1) Bs Be Bv hne1 hne2 s hs (fun pre W => I pre W ∧ Books B (rec .ready none) W) (fun pre W => Ix pre W ∧ Books B (rec .done (some .ret)) W)
    (fun pre W W' hj hgr => ⟨hI pre W W' _ hj.1 hgr (fun r e => by cases e; exact .inl rfl), hj.2.turned hBs hgr⟩) (fun pre W hj => hIe pre W hj.1) ?_ W1 hb1 ⟨hI1, hk1⟩).mono ?_
  · rintro pre x W ⟨hi, hk⟩ ⟨post, hsp⟩
    have hy := run_yield (P := Tryd.prog) (args := #[strV x]) hk.two (by rw [hrec]; rfl)
    rw [hrec] at hy
    have hy' : (Instr.yield (B + 1) #[strV x]).run Tryd.prog W = .ok (.round (B + 1) fn (a.tmps.setIfInBounds t (strV x)) assign body) W := by rw [hy]; simp
    refine ⟨fn, _, assign, body, hy', roundIn_of_wpIn trivial (hassign _ x W _ ⟨_, run_beginRound hk.two (by rw [hrec]), ?_⟩)⟩
    have hk2 := hk.put (rec' := { rec .ready none with state := .busy })
    have hlt := (Array.getElem?_eq_some_iff.1 hk.two).1
    refine wpIn_mono (hbody _ pre x post _ hsp ((hI pre).put hi hk.two (by omega) rfl _) (by simp; omega)) ?_
    rintro e a3 W3 hp
    have hse : (W.putObj (B + 1) (.loop { rec .ready none with state := .busy })).heap[Bs]? = W.heap[Bs]? := World.putObj_heap_other (by omega)
    have hse2 : (W.putObj (B + 1) (.loop { rec .ready none with state := .busy })).heap[Be]? = W.heap[Be]? := World.putObj_heap_other (by omega)
    have hse3 : (W.putObj (B + 1) (.loop { rec .ready none with state := .busy })).heap[Bv]? = W.heap[Bv]? := World.putObj_heap_other (by omega)
    cases e with
    | normal =>
      obtain ⟨hk3, hs3, hs4, hs5, hi3⟩ := hp
      have hk4 := hk2.kept hk3
      have hr := run_endRound (P := Tryd.prog) none hk4.two
      rw [hrec] at hr hk4
      refine ⟨_, _, hr, .inl ⟨rfl, ⟨(hI _).put hi3 hk4.two (by omega) rfl _, ?_⟩, ?_, ?_, ?_⟩⟩
      · rw [hrec]; exact hk4.put
      · exact (World.putObj_heap_other (by omega)).trans (hs3.trans hse)
      · exact (World.putObj_heap_other (by omega)).trans (hs4.trans hse2)
      · exact (World.putObj_heap_other (by omega)).trans (hs5.trans hse3)
    | ret =>
      obtain ⟨hk3, hi3⟩ := hp
      have hk4 := hk2.kept hk3
      have hr := run_endRound (P := Tryd.prog) (some .ret) hk4.two
      rw [hrec] at hr hk4
      refine ⟨_, _, hr, .inr ⟨rfl, (hIx _).put hi3 hk4.two (by omega) rfl _, ?_⟩⟩
      rw [hrec]; exact hk4.put
    | exit id => exact hp.elim
    | goto t => exact hp.elim
    | panic ch => exact hp.elim
    | outgrown => exact hp.elim
  · rintro e W2 ⟨⟨v, rfl⟩, (⟨hi, hk⟩ | ⟨pre, x, post, hsp, hi, hk⟩)⟩
    · have hend := run_endLoop (P := Tryd.prog) hk.two (by rw [hrec]; simp)
      rw [hrec] at hend hk
      exact ⟨none, _, hend, hdone _ _ (Nat.le_refl _) ((hI _).put hi hk.two (by omega) rfl _) ((World.putObj_heap_other (by omega)).trans hk.one)⟩
    · have hend := run_endLoop (P := Tryd.prog) hk.two (by rw [hrec]; simp)
      rw [hrec] at hend hk
      exact ⟨some .ret, _, hend, hstop _ pre x post _ (Nat.le_refl _) hsp ((hIx _).put hi hk.two (by omega) rfl _) ((World.putObj_heap_other (by omega)).trans hk.one)⟩
end Go.Proofs.YtpgdgboobnmjiaaDoor
