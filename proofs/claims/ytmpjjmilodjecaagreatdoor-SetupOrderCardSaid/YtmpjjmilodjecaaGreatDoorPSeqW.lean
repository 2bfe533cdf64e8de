/- strings.SplitSeq's closure at "; ": it yields the parts, one after the other. -/
import Derived.Test.YtmpjjmilodjecaaGreatDoorPSplit
import Derived.Test.YtmpjjmilodjecaaGreatDoorLinesK
import Derived.Test.YtmpjjmilodjecaaGreatDoorRLines
import Derived.Test.YtmpjjmilodjecaaGreatDoorLinesL
namespace Go.Proofs.YtmpjjmilodjecaaGreatDoor
open Go.RowKit Go.Shelf
set_option linter.unusedVariables false
set_option linter.unusedSimpArgs false
/-- The closure's three boxes. -/
structure SeqB (Bs Be Bv : Nat) (s : List UInt8) (W : World) : Prop where
  s : Boxed W Bs 9 (strV s)
  e : Boxed W Be 9 (strV [59, 32])
  v : Boxed W Bv 3 (.int .i64 0)
set_option maxRecDepth 100000 in
set_option maxHeartbeats 4000000 in
theorem seq1_in (n : Nat) (l Bs Be Bv : Nat) (hne1 : Be ≠ Bs) (hne2 : Bv ≠ Bs) (s : List UInt8) (hs : s.length ≤ 1000000) (J Jx : List (List UInt8) → World → Prop) (hJ : ∀ pre W W', J pre W → W.grownBy W' (some Bs) → J pre W') (hJe : ∀ pre W, J pre W → Env W)
    (hY : ∀ pre x W, J pre W → (∃ post, T.psplit s = pre ++ x :: post) → YieldAt Fence.wide (n - 1) Tryz.prog l #[strV x] W fun e W' =>
      (e = .returned (.bool true) ∧ J (pre ++ [x]) W' ∧ W'.heap[Bs]? = W.heap[Bs]? ∧ W'.heap[Be]? = W.heap[Be]? ∧ W'.heap[Bv]? = W.heap[Bv]?) ∨ (e = .returned (.bool false) ∧ Jx (pre ++ [x]) W'))
    (W : World) (hB : SeqB Bs Be Bv s W) (h0 : J [] W) :
    CallsIn Fence.wide n Tryz.prog 363 #[.func (.yield l) #[] #[], .pointer (some ⟨Be, 0, none⟩), .pointer (some ⟨Bs, 0, none⟩), .pointer (some ⟨Bv, 0, none⟩)] W fun e W' => (∃ v, e = .returned v) ∧
      (J (T.psplit s) W' ∨ (∃ pre x post, T.psplit s = pre ++ x :: post ∧ Jx (pre ++ [x]) W')) := by
  refine callsIn_of_wp Tryz.func363 rfl trivial ?_ rfl
  simp only [Tryz.ntmps363, List.size_toArray, List.length_cons, List.length_nil, Nat.reduceAdd, Nat.reduceSub, Array.replicate_succ, Array.replicate_zero, List.push_toArray, List.append_toArray, List.nil_append, List.cons_append]
  have ce := hB.e.cell
  gi_wp2
  gi_loopw [7, 8] (fun i f wr => ∃ pre rest, T.psplit s = pre ++ T.psplit rest ∧ SeqB Bs Be Bv rest wr ∧ J pre wr ∧ rest.length ≤ s.length) (fun _ _ wr => T.boxLen wr Bs)
  case atStart => exact ⟨[], s, rfl, hB, h0, Nat.le_refl _⟩
  case round =>
    obtain ⟨pre, rest, he, hb, hj, hl⟩ := hrel
    have hlen := T.boxLen_of hb.s
    have cs := hb.s.cell
    have fs := hb.s.frozen
    have ce := hb.e.cell
    have cv := hb.v.cell
    have henv := hJe pre wr hj
    obtain ⟨m, hm⟩ := henv.max
    have hix := Tryz.strings_Index ⟨rest.toArray⟩ ⟨#[59, 32]⟩ m wr (by show rest.length < _; omega) hm
    rcases T.psplit_cases rest with hx | ⟨i, hx⟩
    · have hx1 : Lib.index rest [59, 32] = -1 := by have := Lib.index_ge rest [59, 32]; omega
      have hnext := T.psplit_none rest hx
      rw [show Lib.index (ByteArray.mk rest.toArray).data.toList (ByteArray.mk #[59, 32]).data.toList = -1 from hx1] at hix
      obtain ⟨fn, tmps, assign, body, hy, hR⟩ := hY pre rest wr hj ⟨[], by rw [he, hnext]⟩
      have HE := Lib.hid (he.trans (by rw [hnext]))
      clear hx hx1 hnext he
      gi_wp2_with (refine ⟨trivial, fun h => (by cases h), ?_⟩; gi_at_call 365; refine (callsIn_wide.2 hix).mono ?_; rintro r w2 ⟨rfl, rfl⟩)
      refine ⟨fun h => (by cases h), hR.mono ?_⟩
      rintro e W3 (⟨rfl, hJ3, _, _, _⟩ | ⟨rfl, hJx3⟩)
      · gi_wp2
        go_end0
        exact ⟨⟨_, rfl⟩, .inl (by rw [HE.out]; exact hJ3)⟩
      · gi_wp2
        go_end0
        exact ⟨⟨_, rfl⟩, .inr ⟨pre, rest, [], HE.out, hJx3⟩⟩
    · obtain ⟨hi2, hcut⟩ := T.psplit_cut rest i hx
      rw [show Lib.index (ByteArray.mk rest.toArray).data.toList (ByteArray.mk #[59, 32]).data.toList = (i : Int) from hx] at hix
      obtain ⟨fn, tmps, assign, body, hy, hR⟩ := hY pre (rest.take i) wr hj ⟨_, by rw [he, hcut]⟩
      have HE := Lib.hid (he.trans (by rw [hcut]))
      have h1 := bytes_take rest i
      have h2 := bytes_drop rest (i + 2) rest.length (Nat.le_refl _)
      have hw1 : IntKind.i64.wrap ((i : Int) + 2) = (i : Int) + 2 := IntWalk.i64_in _ (by omega)
      have hw2 : (i : Int) + 2 ≤ (rest.length : Int) := by omega
      have hw3 : (0 : Int) ≤ (i : Int) + 2 := by omega
      have hw4 : ((i : Int) + 2).toNat = i + 2 := by omega
      have hw5 : (i : Int) ≤ (rest.length : Int) := by omega
      clear hx hcut he
      gi_wp2_with (refine ⟨trivial, fun h => (by cases h), ?_⟩; gi_at_call 365; refine (callsIn_wide.2 hix).mono ?_; rintro r w2 ⟨rfl, rfl⟩)
      refine ⟨fun h => (by cases h), hR.mono ?_⟩
      rintro e W3 (⟨rfl, hJ3, hk1, hk2, hk3⟩ | ⟨rfl, hJx3⟩)
      · have hb3 : Boxed W3 Bs 9 (strV rest) := by unfold Boxed; rw [hk1]; exact hb.s
        have hbe : Boxed W3 Be 9 (strV [59, 32]) := by unfold Boxed; rw [hk2]; exact hb.e
        have hbv : Boxed W3 Bv 3 (.int .i64 0) := by unfold Boxed; rw [hk3]; exact hb.v
        have cs3 := hb3.cell
        have fs3 := hb3.frozen
        have ce3 := hbe.cell
        have g3 := grownBy_setCell' W3 Bs (strV (rest.drop (i + 2)))
        have hb9 := hb3.set (strV (rest.drop (i + 2)))
        gi_wp2
        go_roundw
        case rel => exact ⟨pre ++ [rest.take i], rest.drop (i + 2), by rw [HE.out]; simp, ⟨hb9, hbe.kept g3 (by simpa using hne1), hbv.kept g3 (by simpa using hne2)⟩, hJ _ _ _ hJ3 g3, by simp; omega⟩
        case measure => rw [hlen, T.boxLen_of hb9]; simp; omega
      · gi_wp2
        refine bodyPost_ret (results_none rfl _ _ _) rfl ?_
        exact ⟨⟨_, rfl⟩, .inr ⟨_, _, _, HE.out, hJx3⟩⟩
end Go.Proofs.YtmpjjmilodjecaaGreatDoor
namespace Go.Proofs.YtmpjjmilodjecaaGreatDoor
open Go.RowKit Go.Shelf
set_option linter.unusedVariables false
set_option linter.unusedSimpArgs false
abbrev seqW (s : List UInt8) (w : World) : World := ((w.alloc (.cells #[strV s] 9)).alloc (.cells #[strV [59, 32]] 9)).alloc (.cells #[.int .i64 0] 3)
abbrev seqV (w : World) : Value := .func (.func 363) #[] #[.pointer (some ⟨w.heap.size + 1, 0, none⟩), .pointer (some ⟨w.heap.size, 0, none⟩), .pointer (some ⟨w.heap.size + 1 + 1, 0, none⟩)]
set_option maxRecDepth 100000 in
theorem splitSeq0_in (n : Nat) (s : List UInt8) (w : World) :
    CallsIn Fence.wide n Tryz.prog 314 #[strV s, strV [59, 32], .int .i64 0] w fun e w' => e = .returned (seqV w) ∧ w' = seqW s w := by
  refine callsIn_of_wp Tryz.func314 rfl trivial ?_ rfl
  simp only [Tryz.ntmps314, List.size_toArray, List.length_cons, List.length_nil, Nat.reduceAdd, Nat.reduceSub, Array.replicate_succ, Array.replicate_zero, List.push_toArray, List.append_toArray, List.nil_append, List.cons_append]
  gi_wp2
  go_ret
  exact ⟨rfl, rfl⟩
set_option maxRecDepth 100000 in
theorem splitSeq_in (n : Nat) (s : List UInt8) (w : World) :
    CallsIn Fence.wide n Tryz.prog 218 #[strV s, strV [59, 32]] w fun e w' => e = .returned (seqV w) ∧ w' = seqW s w := by
  refine callsIn_of_wp Tryz.func218 rfl trivial ?_ rfl
  simp only [Tryz.ntmps218, List.size_toArray, List.length_cons, List.length_nil, Nat.reduceAdd, Nat.reduceSub, Array.replicate_succ, Array.replicate_zero, List.push_toArray, List.append_toArray, List.nil_append, List.cons_append]
  gi_wp2_with (refine ⟨trivial, fun h => (by cases h), ?_⟩; gi_at_call 314; refine (splitSeq0_in _ _ _).mono ?_; rintro r w2 ⟨rfl, rfl⟩)
  go_ret
  exact ⟨rfl, rfl⟩
theorem seqW_boxes (s : List UInt8) (w : World) : SeqB w.heap.size (w.heap.size + 1) (w.heap.size + 1 + 1) s (seqW s w) := by
  unfold seqW
  have e (X : World) (t : TypeId) (v : Value) (k : Nat) (h : X.heap.size = k) : Boxed (X.alloc (.cells #[v] t)) k t v := by subst h; exact Boxed.new X t v
  exact ⟨((e _ _ _ _ rfl).alloc _).alloc _, (e _ _ _ _ (by simp)).alloc _, e _ _ _ _ (by simp)⟩
end Go.Proofs.YtmpjjmilodjecaaGreatDoor
namespace Go.Proofs.YtmpjjmilodjecaaGreatDoor
open Go.RowKit Go.Shelf
set_option linter.unusedVariables false
set_option linter.unusedSimpArgs false
/-- How a round's body may be left. -/
def seqPost (Bs Be Bv B : Nat) (I Ix : World → Prop) (W : World) : Exit → Act → World → Prop
  | .normal, _, W' => KeepsFrom B W W' ∧ W'.heap[Bs]? = W.heap[Bs]? ∧ W'.heap[Be]? = W.heap[Be]? ∧ W'.heap[Bv]? = W.heap[Bv]? ∧ I W'
  | .ret, _, W' => KeepsFrom B W W' ∧ Ix W'
  | _, _, _ => False
theorem range_seq {g : Operand} {t : Tmp} {assign body : Code} {Q : Exit → Act → World → Prop} {a : Act} {w : World} {Bs Be Bv : Nat} (hg : a.eval g = .func (.func 363) #[] #[.pointer (some ⟨Be, 0, none⟩), .pointer (some ⟨Bs, 0, none⟩), .pointer (some ⟨Bv, 0, none⟩)])
    (s : List UInt8) (hs : s.length ≤ 1000000) (hb : SeqB Bs Be Bv s w) (hne1 : Be ≠ Bs) (hne2 : Bv ≠ Bs) (I Ix : List (List UInt8) → World → Prop) (hI : ∀ pre, Turned Bs w.heap.size (I pre)) (hIx : ∀ pre, Turned Bs w.heap.size (Ix pre)) (hIe : ∀ pre W, I pre W → Env W) (h0 : I [] w) (a₁ : List UInt8 → Act)
    (hassign : ∀ (l : Nat) (x : List UInt8) (W : World) (K : Act → World → Prop), K (a₁ x) W → assign.wpIn (Fence.wide.inRound l) 1 Tryz.prog (Exit.then K (fun _ _ _ => False)) { tmps := a.tmps.setIfInBounds t (strV x), defers := [] } W)
    (hbody : ∀ (l : Nat) (pre : List (List UInt8)) (x : List UInt8) (post : List (List UInt8)) (W : World), T.psplit s = pre ++ x :: post → I pre W → w.heap.size ≤ W.heap.size → body.wpIn (Fence.wide.inRound l) 1 Tryz.prog (seqPost Bs Be Bv w.heap.size (I (pre ++ [x])) (Ix (pre ++ [x])) W) (a₁ x) W)
    (hdone : ∀ (D : Nat) (W : World), w.heap.size ≤ D → I (T.psplit s) W → W.heap[D]? = some (.deferred (some [])) → Q .normal { a with defers := { target := .collected D, args := #[] } :: a.defers } W)
    (hstop : ∀ (D : Nat) (pre : List (List UInt8)) (x : List UInt8) (post : List (List UInt8)) (W : World), w.heap.size ≤ D → T.psplit s = pre ++ x :: post → Ix (pre ++ [x]) W → W.heap[D]? = some (.deferred (some [])) →
      Code.ret.wpIn Fence.wide 3 Tryz.prog Q { a with defers := { target := .collected D, args := #[] } :: a.defers } W) :
    (Code.rangeFunc g #[t] assign body).wpIn Fence.wide 3 Tryz.prog Q a w := by
  obtain ⟨B, hB⟩ : ∃ B, B = w.heap.size := ⟨_, rfl⟩
  have hBs : Bs < B := by rw [hB]; exact hb.s.lt
  have hBe : Be < B := by rw [hB]; exact hb.e.lt
  have hBv : Bv < B := by rw [hB]; exact hb.v.lt
  refine wpIn_rangeFunc ?_
  intro fn _
  obtain ⟨rec, hrec⟩ : ∃ rec : LoopState → Option Code → Loop, rec = fun st pe => { state := st, pending := pe, fn, tmps := a.tmps, params := #[t], assign, body, defers := B } := ⟨_, rfl⟩
  obtain ⟨W1, hW1⟩ : ∃ W1, (w.alloc (.deferred (some []))).alloc (.loop (rec .ready none)) = W1 := ⟨_, rfl⟩
  have hk1 : Books B (rec .ready none) W1 := by
    rw [← hW1, hB]
    refine ⟨(Below.heap_alloc _ _ _ (by simp)).trans (World.alloc_heap_new w _), ?_⟩
    have := World.alloc_heap_new (w.alloc (.deferred (some []))) (.loop (rec .ready none))
    rwa [World.size_alloc] at this
  have hI1 : I [] W1 := by rw [← hW1]; exact (hI []).alloc ((hI []).alloc h0 _) _
  have hb1 : SeqB Bs Be Bv s W1 := by rw [← hW1]; exact ⟨(hb.s.alloc _).alloc _, (hb.e.alloc _).alloc _, (hb.v.alloc _).alloc _⟩
  have henter : (Instr.enterLoop fn a.tmps #[t] assign body Fence.wide.round).run Tryz.prog w = .ok (B + 1, [{ target := .collected B, args := #[] }]) W1 := by
    rw [← hW1, hrec, hB]; exact run_enterLoop_outer _ _ _ _ _
  refine ⟨B + 1, [{ target := .collected B, args := #[] }], W1, { target := .fn (.func 363) #[.pointer (some ⟨Be, 0, none⟩), .pointer (some ⟨Bs, 0, none⟩), .pointer (some ⟨Bv, 0, none⟩)], args := #[.func (.yield (B + 1)) #[] #[]] }, W1, 363,
    #[.func (.yield (B + 1)) #[] #[], .pointer (some ⟨Be, 0, none⟩), .pointer (some ⟨Bs, 0, none⟩), .pointer (some ⟨Bv, 0, none⟩)], W1, henter, ?_, fun _ _ => trivial, ?_, fun h => (by cases h), ?_⟩
  · simp only [resolve, hg]
    simp [go_sem]
  · have e1 := enters_of (P := Tryz.prog) (f := 363) Tryz.func363 (by kernel_rfl) rfl
    simp [invoke, go_sem, e1]
  rw [← hB] at hI hIx hbody hdone hstop
  clear henter hW1
  refine (seq1_in 2 (B + 1) Bs Be Bv hne1 hne2 s hs (fun pre W => I pre W ∧ Books B (rec .ready none) W) (fun pre W => Ix pre W ∧ Books B (rec .done (some .ret)) W)
    (fun pre W W' hj hgr => ⟨hI pre W W' _ hj.1 hgr (fun r e => by cases e; exact .inl rfl), hj.2.turned hBs hgr⟩) (fun pre W hj => hIe pre W hj.1) ?_ W1 hb1 ⟨hI1, hk1⟩).mono ?_
  · rintro pre x W ⟨hi, hk⟩ ⟨post, hsp⟩
    have hy := run_yield (P := Tryz.prog) (args := #[strV x]) hk.two (by rw [hrec]; rfl)
    rw [hrec] at hy
    have hy' : (Instr.yield (B + 1) #[strV x]).run Tryz.prog W = .ok (.round (B + 1) fn (a.tmps.setIfInBounds t (strV x)) assign body) W := by rw [hy]; simp
    refine ⟨fn, _, assign, body, hy', roundIn_of_wpIn trivial (hassign _ x W _ ⟨_, run_beginRound hk.two (by rw [hrec]), ?_⟩)⟩
    have hk2 := hk.put (rec' := { rec .ready none with state := .busy })
    have hlt := (Array.getElem?_eq_some_iff.1 hk.two).1
    refine wpIn_mono (hbody _ pre x post _ hsp ((hI pre).put hi hk.two (by omega) rfl _) (by simp; omega)) ?_
    rintro e a3 W3 hp
    have hse : (W.putObj (B + 1) (.loop { rec .ready none with state := .busy })).heap[Bs]? = W.heap[Bs]? := World.putObj_heap_other (by omega)
    have hse2 : (W.putObj (B + 1) (.loop { rec .ready none with state := .busy })).heap[Be]? = W.heap[Be]? := World.putObj_heap_other (by omega)
    have hse3 : (W.putObj (B + 1) (.loop { rec .ready none with state := .busy })).heap[Bv]? = W.heap[Bv]? := World.putObj_heap_other (by omega)
    cases e with
    | normal =>
      obtain ⟨hk3, hs3, hs4, hs5, hi3⟩ := hp
      have hk4 := hk2.kept hk3
      have hr := run_endRound (P := Tryz.prog) none hk4.two
      rw [hrec] at hr hk4
      refine ⟨_, _, hr, .inl ⟨rfl, ⟨(hI _).put hi3 hk4.two (by omega) rfl _, ?_⟩, ?_, ?_, ?_⟩⟩
      · rw [hrec]; exact hk4.put
      · exact (World.putObj_heap_other (by omega)).trans (hs3.trans hse)
      · exact (World.putObj_heap_other (by omega)).trans (hs4.trans hse2)
      · exact (World.putObj_heap_other (by omega)).trans (hs5.trans hse3)
    | ret =>
      obtain ⟨hk3, hi3⟩ := hp
      have hk4 := hk2.kept hk3
      have hr := run_endRound (P := Tryz.prog) (some .ret) hk4.two
      rw [hrec] at hr hk4
      refine ⟨_, _, hr, .inr ⟨rfl, (hIx _).put hi3 hk4.two (by omega) rfl _, ?_⟩⟩
      rw [hrec]; exact hk4.put
    | exit id => exact hp.elim
    | goto t => exact hp.elim
    | panic ch => exact hp.elim
    | outgrown => exact hp.elim
  · rintro e W2 ⟨⟨v, rfl⟩, (⟨hi, hk⟩ | ⟨pre, x, post, hsp, hi, hk⟩)⟩
    · have hend := run_endLoop (P := Tryz.prog) hk.two (by rw [hrec]; simp)
      rw [hrec] at hend hk
      exact ⟨none, _, hend, hdone _ _ (Nat.le_refl _) ((hI _).put hi hk.two (by omega) rfl _) ((World.putObj_heap_other (by omega)).trans hk.one)⟩
    · have hend := run_endLoop (P := Tryz.prog) hk.two (by rw [hrec]; simp)
      rw [hrec] at hend hk
      exact ⟨some .ret, _, hend, hstop _ pre x post _ (Nat.le_refl _) hsp ((hIx _).put hi hk.two (by omega) rfl _) ((World.putObj_heap_other (by omega)).trans hk.one)⟩
end Go.Proofs.YtmpjjmilodjecaaGreatDoor
