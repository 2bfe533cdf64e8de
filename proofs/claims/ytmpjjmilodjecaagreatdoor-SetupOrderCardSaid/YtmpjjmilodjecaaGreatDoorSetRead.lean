/- Reading settings: the program's walk. -/
import Derived.Test.YtmpjjmilodjecaaGreatDoorSetLine
import Derived.Test.YtmpjjmilodjecaaGreatDoorPAll
import Derived.Test.YtmpjjmilodjecaaGreatDoorCfgs
import Derived.Test.YtmpjjmilodjecaaGreatDoorRight
import Derived.Test.YtmpjjmilodjecaaGreatDoorLinesL
import Derived.Test.YtmpjjmilodjecaaGreatDoorRoundW
import Derived.Sort.CutIn
namespace Go.Proofs.YtmpjjmilodjecaaGreatDoor
open Go.RowKit Go.Shelf
set_option linter.unusedVariables false
set_option linter.unusedSimpArgs false
attribute [local go_sem] Config.sz bw_cell
/-! Plain: lines of settings. -/
inductive SLine where
  | mute
  | prog (xs : List GoOp)
  | set (k n : Nat)
def SLine.is : SLine → List UInt8 → Prop
  | .mute, s => s = [] ∨ s.head? = some 35
  | .prog xs, s => s = T.progLine xs ∧ T.pright xs 64 16 = true ∧ ∀ o ∈ xs, GoOp.ok o
  | .set k n, s => s = T.setLine k (n : Int) ∧ k < 13 ∧ n < 10000000
def SLine.all : List SLine → List (List UInt8) → Prop
  | [], [] => True
  | x :: xs, l :: ls => x.is l ∧ SLine.all xs ls
  | _, _ => False
abbrev SS := List Int × List (List GoOp) × List Int
def T.sstep : SLine → SS → Option SS
  | .mute, s => some s
  | .prog xs, s => some (s.1, s.2.1 ++ [xs], s.2.2)
  | .set k n, s => if s.2.2.contains (k : Int) = true then none else some (s.1.set k (n : Int), s.2.1, s.2.2 ++ [(k : Int)])
def T.srun : List SLine → Nat → SS → Except Nat SS
  | [], _, s => .ok s
  | x :: xs, i, s => match T.sstep x s with
    | some s' => T.srun xs (i + 1) s'
    | none => .error (i + 1)
def T.s0 : SS := (T.firstC.ints, [], [])
/-- The reader holds a state. -/
def SAt (R B : Nat) (s : SS) (W : World) : Prop := ∃ c sv ps, RS R B c sv ps s.2.2 W ∧ c.ints = s.1 ∧ ps.map PV.xs = s.2.1
theorem SAt.turned {R B : Nat} {s : SS} {W W' : World} (h : SAt R B s W) {Bs : Nat} (hBs : Bs < B) (hR : Bs ≠ R) {row : Option Nat} (hg : W.grownBy W' row) (hr : ∀ r, row = some r → r = Bs ∨ (B ≤ r ∧ ∃ o : Obj, W.heap[r]? = some o ∧ o.isCells = false)) : SAt R B s W' := by
  obtain ⟨c, sv, ps, h1, h2, h3⟩ := h
  exact ⟨c, sv, ps, h1.turned hBs hR hg hr, h2, h3⟩
theorem SAt.below {R B : Nat} {s : SS} {W W' : World} (h : SAt R B s W) (hb : Below W.heap.size W W') : SAt R B s W' := by
  obtain ⟨c, sv, ps, h1, h2, h3⟩ := h
  exact ⟨c, sv, ps, h1.below hb, h2, h3⟩
/-- A line, whatever good line it is. -/
theorem line_c (x : SLine) (l : List UInt8) (hx : x.is l) (R B : Nat) (s : SS) (W : World) (h : SAt R B s W) (hB : B ≤ W.heap.size) (hps : s.2.1.length ≤ 100) (hst : s.2.2.length ≤ 100) (he : Env W) :
    Calls Tryz.prog 71 #[.pointer (some ⟨R, 0, none⟩), strV l] W fun r w' => RKept R B W w' ∧ match T.sstep x s with
      | some s' => r = .returned (.int .i64 0) ∧ SAt R B s' w'
      | none => r = .returned (.int .i64 8) ∧ SAt R B s w' := by
  obtain ⟨c, sv, ps, h1, h2, h3⟩ := h
  have hpl : ps.length = s.2.1.length := by rw [← h3, List.length_map]
  have hRW : R < W.heap.size := (Array.getElem?_eq_some_iff.1 h1.box).1
  cases x with
  | mute =>
    refine (line_mute l hx R W).mono ?_
    rintro r w' ⟨rfl, rfl⟩
    exact ⟨RKept.refl _ _ _, rfl, c, sv, ps, h1, h2, h3⟩
  | prog xs =>
    obtain ⟨rfl, hr, hok⟩ := hx
    refine (line_prog xs hok hr R B c sv ps s.2.2 W h1 hB (by omega) he).mono ?_
    rintro r w' ⟨rfl, hk, v, pv, h4⟩
    exact ⟨hk, rfl, _, sv, _, h4, h2, by simp [h3]⟩
  | set k n =>
    obtain ⟨rfl, hk13, hn⟩ := hx
    refine (line_set k hk13 n hn R B c sv ps s.2.2 W h1 hB hst he).mono ?_
    rintro r w' ⟨ha, hb⟩
    cases hc : s.2.2.contains (k : Int) with
    | true =>
      obtain ⟨rfl, hk, h4⟩ := ha hc
      rw [show T.sstep (.set k n) s = none from if_pos hc]
      exact ⟨hk, rfl, c, sv, ps, h4, h2, h3⟩
    | false =>
      obtain ⟨rfl, hk, sv', h4⟩ := hb hc
      rw [show T.sstep (.set k n) s = some (s.1.set k (n : Int), s.2.1, s.2.2 ++ [(k : Int)]) from if_neg (by rw [hc]; simp)]
      refine ⟨hk, rfl, _, sv', ps, h4, ?_, h3⟩
      show (T.set c (k : Int) (n : Int)).ints = s.1.set k (n : Int)
      rw [← h2]
      unfold T.set
      rw [if_pos (by omega), Int.toNat_natCast, Config.setK_ints c n k hk13]
theorem SLine.all_len : ∀ (xs : List SLine) (ls : List (List UInt8)), SLine.all xs ls → xs.length = ls.length
  | [], [], _ => rfl
  | x :: xs, l :: ls, h => by simp [SLine.all_len xs ls h.2]
  | [], _ :: _, h => h.elim
  | _ :: _, [], h => h.elim
theorem T.sstep_len (y : SLine) (S S' : SS) {k : Nat} (h : T.sstep y S = some S') (h1 : S.2.1.length ≤ k) (h2 : S.2.2.length ≤ k) : S'.2.1.length ≤ k + 1 ∧ S'.2.2.length ≤ k + 1 := by
  cases y with
  | mute => injection h with h; subst h; exact ⟨by omega, by omega⟩
  | prog xs => injection h with h; subst h; exact ⟨by simp; omega, by simp; omega⟩
  | set k n =>
    by_cases hc : S.2.2.contains (k : Int) = true
    · rw [show T.sstep (.set k n) S = none from if_pos hc] at h; cases h
    · rw [show T.sstep (.set k n) S = some (S.1.set k (n : Int), S.2.1, S.2.2 ++ [(k : Int)]) from if_neg hc] at h
      injection h with h; subst h; exact ⟨by simp; omega, by simp; omega⟩
theorem trimNL_c (x : List UInt8) (hx : x.length ≤ 100000) (X : World) : Calls Tryz.prog 64 #[strV x, strV [10]] X fun e w' => e = .returned (strV (T.trimNL x)) ∧ w' = X := by
  have hh := Tryz.strings_TrimSuffix ⟨x.toArray⟩ ⟨#[10]⟩ X (by show x.length ≤ _; omega)
  rw [show Lib.trimSuffix (ByteArray.mk x.toArray).data.toList (ByteArray.mk #[10]).data.toList = T.trimNL x from rfl] at hh
  exact hh
theorem builtRdr : Tryz.prog.built 133 [(0, .agg (Config.arr T.firstC))] = some (rdrArr T.firstC (.slice none 0 0)) := by kernel_rfl
theorem zeroCV_one : zeroCV.all (·.oneCell') = true := by simp [zeroCV, Value.oneCell']
theorem builtZero : Tryz.prog.built 29 [] = some zeroCV := by kernel_rfl
/-- The results' cells. -/
structure Res (n : Nat) (cs : Array Value) (a e : Int) (W : World) : Prop where
  r0 : W.heap[n]? = some (.cells cs 29 (0, 0))
  r1 : Boxed W (n + 1) 3 (.int .i64 a)
  r2 : Boxed W (n + 2) 35 (.int .i64 e)
theorem Res.kept {n : Nat} {cs : Array Value} {a e : Int} {W W' : World} (h : Res n cs a e W) (h0 : W'.heap[n]? = W.heap[n]?) (h1 : W'.heap[n + 1]? = W.heap[n + 1]?) (h2 : W'.heap[n + 2]? = W.heap[n + 2]?) : Res n cs a e W' :=
  ⟨h0.trans h.r0, h1.trans h.r1, h2.trans h.r2⟩
theorem setRow_other (w : World) (g : Nat) (cs : Array Value) (q : Nat) (h : q ≠ g) : (w.setRow g cs).heap[q]? = w.heap[q]? := by
  unfold World.setRow
  simp only [Array.getElem?_modify]
  rw [if_neg (Ne.symm h)]
theorem Res.row {n : Nat} {cs : Array Value} {a e : Int} {W : World} (h : Res n cs a e W) (cs' : Array Value) : Res n cs' a e (W.setRow n cs') :=
  ⟨setRow_heap W n _ cs' _ _ h.r0, (setRow_other W n cs' _ (by omega)).trans h.r1, (setRow_other W n cs' _ (by omega)).trans h.r2⟩
theorem Res.cells {n : Nat} {cs : Array Value} {a e : Int} {W : World} (h : Res n cs a e W) (a' e' : Int) : Res n cs a' e' ((W.setCell ⟨n + 1, 0, none⟩ (.int .i64 a')).setCell ⟨n + 2, 0, none⟩ (.int .i64 e')) := by
  have g1 := grownBy_setCell' W (n + 1) (.int .i64 a')
  have g2 := grownBy_setCell' (W.setCell ⟨n + 1, 0, none⟩ (.int .i64 a')) (n + 2) (.int .i64 e')
  refine ⟨?_, (h.r1.set _).kept g2 (by simp), (h.r2.kept g1 (by simp)).set _⟩
  rw [heap_setCell_other _ _ _ _ (by show n ≠ n + 2; omega), heap_setCell_other _ _ _ _ (by show n ≠ n + 1; omega)]
  exact h.r0
theorem own_keep {α : Type} {arr : α → Array Value} {sz base : Nat} {e : TypeId} {W w' : World} {v : Value} {xs : List α} (h : Own arr sz base e W v xs) (hk : ∀ q c t fr, base ≤ q → W.heap[q]? = some (.cells c t fr) → w'.heap[q]? = some (.cells c t fr)) : Own arr sz base e w' v xs := by
  obtain ⟨hl, h0 | ⟨g, cap, cur, hv, hbg, hh, r⟩⟩ := h
  · exact ⟨hl, .inl h0⟩
  · exact ⟨hl, .inr ⟨g, cap, cur, hv, hbg, hk g _ _ _ hbg hh, r⟩⟩
/-- What the loop keeps. -/
def RI29 (s : List UInt8) (ls : List SLine) (w0 : World) (n R : Nat) (pre : List (List UInt8)) (W : World) : Prop :=
  ∃ post xs S, T.linesK s = pre ++ post ∧ SLine.all xs (post.map T.trimNL) ∧ T.srun xs pre.length S = T.srun ls 0 T.s0 ∧ S.2.1.length ≤ pre.length ∧ S.2.2.length ≤ pre.length ∧ SAt R (R + 4) S W ∧
    Boxed W (R + 1) 131 (.pointer (some ⟨R, 0, none⟩)) ∧ Boxed W (R + 2) 3 (.int .i64 (pre.length : Nat)) ∧ Res n zeroCV 0 0 W ∧ Below n w0 W
def RX29 (ls : List SLine) (w0 : World) (n : Nat) (W : World) : Prop := ∃ k : Nat, T.srun ls 0 T.s0 = .error k ∧ Res n zeroCV (k : Int) 8 W ∧ Below n w0 W
theorem Res.turned {n : Nat} {cs : Array Value} {a e : Int} {Bs B : Nat} (h : n + 2 < Bs) : Turned Bs B fun W => Res n cs a e W := by
  intro W W' row hr hg hrow
  have hne (k : Nat) (o : Obj) (hk : W.heap[k]? = some o) (hc : o.isCells = true) (hl : k ≤ n + 2) : W'.heap[k]? = W.heap[k]? :=
    hg.block k (Array.getElem?_eq_some_iff.1 hk).1 fun q => by
      rcases hrow k q.symm with h1 | ⟨_, o', ho, hc'⟩
      · omega
      · rw [hk] at ho; cases ho; rw [hc] at hc'; cases hc'
  exact hr.kept (hne n _ hr.r0 rfl (by omega)) (hne _ _ hr.r1 rfl (by omega)) (hne _ _ hr.r2 rfl (by omega))
theorem RI29.turned (s : List UInt8) (ls : List SLine) (w0 : World) (n R : Nat) (hn : n = w0.heap.size) (hR : n + 3 ≤ R) (pre : List (List UInt8)) : Turned (R + 3) (R + 4) (RI29 s ls w0 n R pre) := by
  rintro W W' row ⟨post, xs, S, h1, h2, h3, h4, h5, h6, h7, h8, h9, h10⟩ hg hr
  exact ⟨post, xs, S, h1, h2, h3, h4, h5, h6.turned (by omega) (by omega) hg hr, Turned.boxed _ _ (by omega) W W' row h7 hg hr, Turned.boxed _ _ (by omega) W W' row h8 hg hr, Res.turned (by omega) W W' row h9 hg hr, Turned.below (by omega) (by omega) (by omega) W W' row h10 hg hr⟩
theorem RX29.turned (ls : List SLine) (w0 : World) (n R : Nat) (hn : n = w0.heap.size) (hR : n + 3 ≤ R) : Turned (R + 3) (R + 4) (RX29 ls w0 n) := by
  rintro W W' row ⟨k, h1, h9, h10⟩ hg hr
  exact ⟨k, h1, Res.turned (by omega) W W' row h9 hg hr, Turned.below (by omega) (by omega) (by omega) W W' row h10 hg hr⟩
/-- What Read answers. -/
def SReadPost (ls : List SLine) (w : World) (r : Ending) (w' : World) : Prop :=
  Below w.heap.size w w' ∧ match T.srun ls 0 T.s0 with
  | .error k => r = .returned (.tuple #[.agg zeroCV, .int .i64 (k : Nat), .int .i64 8])
  | .ok S => ∃ c ps, c.ints = S.1 ∧ ps.map PV.xs = S.2.1 ∧ Sl PV.arr 1 w'.heap.size w' c.progs ps ∧ (∀ p ∈ ps, PV.ok w' p) ∧
      ((T.right c ps.length && T.pall ps c.nodes) = true → r = .returned (.tuple #[.agg (Config.arr c), .int .i64 0, .int .i64 0])) ∧
      ((T.right c ps.length && T.pall ps c.nodes) = false → r = .returned (.tuple #[.agg zeroCV, .int .i64 0, .int .i64 2]))
theorem sread_ret (ls : List SLine) (w : World) (n D : Nat) (hn : n = w.heap.size) (hD : n + 4 ≤ D) (tmps : Array Value) (cs : Array Value) (a e : Int) (W : World) (hc : cs.size = 14)
    (h2 : tmps.getD 2 undef = .pointer (some ⟨n, 0, none⟩)) (h3 : tmps.getD 3 undef = .pointer (some ⟨n + 1, 0, none⟩)) (h4 : tmps.getD 4 undef = .pointer (some ⟨n + 2, 0, none⟩))
    (hr : Res n cs a e W) (hb : Below n w W) (hK : W.heap[D]? = some (.deferred (some [])))
    (hP : ∀ w', Below n w w' → W.grownBy w' (some D) → SReadPost ls w (.returned (.tuple #[.agg cs, .int .i64 a, .int .i64 e])) w') :
    bodyPostM Fence.wide 3 Tryz.prog Tryz.f22 (SReadPost ls w) Exit.ret { tmps := tmps, defers := [{ target := .collected D, args := #[] }] } W := by
  have g : W.grownBy (W.putObj D (.deferred none)) (some D) := grownBy_putObj' W D _
  have hr2 : Res n cs a e (W.putObj D (.deferred none)) := hr.kept (World.putObj_heap_other (by omega)) (World.putObj_heap_other (by omega)) (World.putObj_heap_other (by omega))
  have hl := run_loadVar_at (P := Tryz.prog) (W.putObj D (.deferred none)) 29 n 0 14 cs _ (by have := rowAt_rowI hr2.r0; rwa [hc] at this) Tryz.underlying29 rfl (by kernel_rfl)
  have c1 := hr2.r1.cell
  have c2 := hr2.r2.cell
  have h2' : tmps[2]?.getD undef = .pointer (some ⟨n, 0, none⟩) := by simpa using h2
  have h3' : tmps[3]?.getD undef = .pointer (some ⟨n + 1, 0, none⟩) := by simpa using h3
  have h4' : tmps[4]?.getD undef = .pointer (some ⟨n + 2, 0, none⟩) := by simpa using h4
  refine ⟨by simp, .inl ⟨_, _, rfl, run_takeDeferred hK, ?_⟩⟩
  refine ⟨.tuple #[.agg cs, .int .i64 a, .int .i64 e], ?_, hP _ ?_ g⟩
  · have l1 : (loadVar 3 ⟨n + 1, 0, none⟩).run Tryz.prog (W.putObj D (.deferred none)) = .ok (.int .i64 a) (W.putObj D (.deferred none)) := by simp [go_sem, c1]
    have l2 : (loadVar 35 ⟨n + 2, 0, none⟩).run Tryz.prog (W.putObj D (.deferred none)) = .ok (.int .i64 e) (W.putObj D (.deferred none)) := by simp [go_sem, c2]
    simp [results, Tryz.f22, asAddr, h2', h3', h4', hl, l1, l2]
  · exact hb.grown g (by have := hb.size; omega) (fun r q => by cases q; omega)
def sreadA (n R : Nat) (s x : List UInt8) : Act := { tmps := #[strV s, undef, .pointer (some ⟨n, 0, none⟩), .pointer (some ⟨n + 1, 0, none⟩), .pointer (some ⟨n + 2, 0, none⟩), .pointer (some ⟨R + 1, 0, none⟩), .pointer (some ⟨R + 2, 0, none⟩), strV x, undef, .agg (Config.arr T.firstC), .agg (rdrArr T.firstC (.slice none 0 0)), .pointer (some ⟨R, 0, none⟩), strV s, .func (.func 132) #[] #[.pointer (some ⟨R + 3, 0, none⟩)], strV x, undef, undef, undef, undef, undef, undef, undef, undef, undef, undef, undef, undef, undef, undef, undef, undef, undef, undef, undef, undef, undef, undef, undef, undef, undef, undef, undef, undef, undef, undef], defers := [] }
attribute [local go_sem] Oper.semAt_some
set_option maxRecDepth 100000 in
set_option maxHeartbeats 8000000 in
theorem sread_c (s : List UInt8) (hs : s.length ≤ 100000) (ls : List SLine) (hls : SLine.all ls (T.lines s)) (hll : ls.length ≤ 100) (w : World) (he : Env w) : Calls Tryz.prog 22 #[strV s] w (SReadPost ls w) := by
  refine (callsIn_wide (n := 3)).1 ?_
  refine callsIn_of_wp_marks Tryz.func22 rfl trivial ?_ rfl
  simp only [Tryz.ntmps22, List.size_toArray, List.length_cons, List.length_nil, Nat.reduceAdd, Nat.reduceSub, Array.replicate_succ, Array.replicate_zero, List.push_toArray, List.append_toArray, List.nil_append, List.cons_append]
  refine wpIn_wide.2 ?_
  go_upto_region 1 with (fail)
  obtain ⟨n, hn⟩ : ∃ n, n = w.heap.size := ⟨_, rfl⟩
  obtain ⟨W0, hW0⟩ : ∃ W0, W0 = ((w.alloc (.cells zeroCV 29)).alloc (.cells #[.int .i64 0] 3)).alloc (.cells #[.int .i64 0] 35) := ⟨_, rfl⟩
  rw [← hW0]
  simp only [← hn]
  have hz0 : W0.heap.size = n + 3 := by rw [hW0, hn]; simp
  have hB0 : Below n w W0 := by rw [hW0, hn]; exact ((((Below.refl _ w).alloc (Nat.le_refl _) _).alloc (by simp) _).alloc (by simp <;> omega) _)
  have hres : W0.heap[n]? = some (.cells zeroCV 29 (0, 0)) ∧ Boxed W0 (n + 1) 3 (.int .i64 0) ∧ Boxed W0 (n + 2) 35 (.int .i64 0) := by
    have e (X : World) (t : TypeId) (v : Value) (k : Nat) (h : X.heap.size = k) : Boxed (X.alloc (.cells #[v] t)) k t v := by subst h; exact Boxed.new X t v
    subst hW0
    subst hn
    exact ⟨(Below.heap_alloc _ _ _ (by simp; omega)).trans ((Below.heap_alloc _ _ _ (by simp)).trans (heap_alloc_new _ _)), (e _ _ _ _ (by simp)).alloc _, e _ _ _ _ (by simp)⟩
  have hfc := first_c W0
  have HW := Lib.hid hW0
  have HN := Lib.hid hn
  clear hW0 hn
  go_wp2_with (first | (go_at_call 70; refine (callsIn_wide.1 (lines_in 0 s _)).mono ?_; rintro e w' ⟨rfl, hw'⟩; rw [hw']; clear hw') | (go_at_call 19; (with_reducible refine hfc.mono ?_); rintro r w2 ⟨rfl, hb2⟩) | (refine wpList_build_w (by rfl) _ _ rfl _ ?_ _ builtRdr ?_; rfl))
  obtain ⟨R, hR⟩ : ∃ R, R = w2.heap.size := ⟨_, rfl⟩
  have hB2 : Below n w w2 := hB0.trans (hb2.mono (by omega))
  have hRn : n + 3 ≤ R := by have := hb2.size; omega
  obtain ⟨W1, hW1⟩ : ∃ W1, W1 = (((w2.alloc (Obj.cells (rdrArr T.firstC (Value.slice none 0 0)) 133)).alloc (Obj.cells #[Value.pointer (some { block := w2.heap.size, off := 0 })] 131)).alloc (Obj.cells #[Value.int IntKind.i64 0] 3)).alloc (Obj.cells #[strV s] 9) := ⟨_, rfl⟩
  have hB1 : Below n w W1 := by rw [hW1]; exact ((((hB2.alloc (by omega) _).alloc (by simp; omega) _).alloc (by simp; omega) _).alloc (by simp; omega) _)
  have hz1 : W1.heap.size = R + 4 := by rw [hW1, hR]; simp
  have e (X : World) (t : TypeId) (v : Value) (k : Nat) (h : X.heap.size = k) : Boxed (X.alloc (.cells #[v] t)) k t v := by subst h; exact Boxed.new X t v
  have hbs : Boxed W1 (R + 3) 9 (strV s) := by rw [hW1]; exact e _ _ _ _ (by simp; omega)
  have hb1 : Boxed W1 (R + 1) 131 (.pointer (some ⟨R, 0, none⟩)) := by rw [hW1, hR]; exact ((e _ _ _ _ (by simp)).alloc _).alloc _
  have hbat : Boxed W1 (R + 2) 3 (.int .i64 0) := by rw [hW1, hR]; exact (e _ _ _ _ (by simp)).alloc _
  have hbx : W1.heap[R]? = some (.cells (rdrArr T.firstC (.slice none 0 0)) 133 (0, 0)) := by
    rw [hW1, hR]
    exact (Below.heap_alloc _ _ _ (by simp; omega)).trans ((Below.heap_alloc _ _ _ (by simp; omega)).trans ((Below.heap_alloc _ _ _ (by simp)).trans (heap_alloc_new _ _)))
  have hb21 : Below W0.heap.size W0 W1 := by rw [hW1]; exact ((((hb2.alloc (by omega) _).alloc (by simp; omega) _).alloc (by simp; omega) _).alloc (by simp; omega) _)
  have hres1 : Res n zeroCV 0 0 W1 := ⟨(hb21.block n (by omega)).trans hres.1, (hb21.block _ (by omega)).trans hres.2.1, (hb21.block _ (by omega)).trans hres.2.2⟩
  have hsat : SAt R (R + 4) T.s0 W1 := ⟨T.firstC, .slice none 0 0, [], ⟨hbx, Own.nil, by simp, Own.nil, by omega⟩, rfl, rfl⟩
  have HR2 := Lib.hid hR
  rw [← hW1, ← hR]
  simp only [World.size_alloc, ← hR, Nat.add_assoc, Nat.reduceAdd]
  have HZ := Lib.hid hz1
  have HE := Lib.hid (fun (X : World) (h : Below n w X) => he.below (by rw [← HN.out]; exact h))
  clear hW1 hR hres hfc hb2 hz0 hB0 hb21 e hbx hB2
  refine (wpIn_wide (n := 3)).1 ?_
  refine range_lines (Bs := R + 3) rfl s (by omega) hbs (RI29 s ls w n R) (fun _ => RX29 ls w n) (by rw [hz1]; exact RI29.turned s ls w n R HN.out hRn) (by rw [hz1]; exact fun _ => RX29.turned ls w n R HN.out hRn)
    ⟨T.linesK s, ls, T.s0, rfl, hls, rfl, by simp [T.s0], by simp [T.s0], hsat, hb1, hbat, hres1, hB1⟩ (sreadA n R s) ?assign ?body ?done ?stop
  case assign =>
    intro l x W K hK
    gi_wp2
    exact hK
  case body =>
    intro l pre x post W hsp hI hzW
    rw [hz1] at hzW ⊢
    clear hz1
    simp only [sreadA]
    obtain ⟨post1, xs, S, h1, h2, h3, h4, h5, h6, h7, h8, h9, h10⟩ := hI
    obtain rfl : post1 = x :: post := List.append_cancel_left (h1.symm.trans hsp)
    rw [List.map_cons] at h2
    obtain ⟨y, ys, rfl⟩ : ∃ y ys, xs = y :: ys := by
      cases xs with
      | nil => exact h2.elim
      | cons y ys => exact ⟨y, ys, rfl⟩
    obtain ⟨hy, hys⟩ : y.is (T.trimNL x) ∧ SLine.all ys (post.map T.trimNL) := h2
    have hpl : pre.length ≤ 100 := by
      have hq := SLine.all_len ls _ hls
      unfold T.lines at hq
      rw [List.length_map, hsp] at hq
      simp at hq
      omega
    have hxl : x.length ≤ 100000 := Nat.le_trans (T.linesK_le s x (by rw [hsp]; simp)) hs
    have hts := fun X : World => trimNL_c x hxl X
    obtain ⟨k, hk⟩ : ∃ k, k = pre.length := ⟨_, rfl⟩
    rw [← hk] at h3 h4 h5 h8 hpl
    have c8 := h8.cell
    have f8 := h8.frozen
    have wr4 : IntKind.i64.wrap ((k : Int) + 1) = (k : Int) + 1 := IntWalk.i64_in _ (by omega)
    have g4 := grownBy_setCell' W (R + 2) (.int .i64 ((k : Int) + 1))
    obtain ⟨W2, hW2⟩ : ∃ W2, W2 = W.setCell ⟨R + 2, 0, none⟩ (.int .i64 ((k : Int) + 1)) := ⟨_, rfl⟩
    have s6 : SAt R (R + 4) S W2 := by rw [hW2]; exact h6.turned (Bs := R + 2) (by omega) (by omega) g4 (fun r q => by cases q; exact .inl rfl)
    have s7 : Boxed W2 (R + 1) 131 (.pointer (some ⟨R, 0, none⟩)) := by rw [hW2]; exact h7.kept g4 (by simp)
    have s8 : Boxed W2 (R + 2) 3 (.int .i64 ((k : Int) + 1)) := by rw [hW2]; exact h8.set _
    have s9 : Res n zeroCV 0 0 W2 := by
      rw [hW2]
      exact h9.kept (g4.block _ (by omega) (by simp; omega)) (g4.block _ (by omega) (by simp; omega)) (g4.block _ (by omega) (by simp; omega))
    have s10 : Below n w W2 := by rw [hW2]; exact h10.setCell (p := ⟨R + 2, 0, none⟩) (by show n ≤ R + 2; omega) _
    have skf : KeepsFrom (R + 4) W W2 := by rw [hW2]; exact (KeepsOthers.setCell _ _ _).from _
    have sBs : W2.heap[R + 3]? = W.heap[R + 3]? := by rw [hW2]; exact g4.block _ (by omega) (by simp)
    have sz : R + 4 ≤ W2.heap.size := by have := skf.size; omega
    have HSP := Lib.hid hsp
    have HYS := Lib.hid hys
    have HK := Lib.hid hk
    have HW2 := Lib.hid hW2
    have d7 := s7.cell
    have d8 := s8.cell
    have hln := line_c y (T.trimNL x) hy R (R + 4) S W2.drew (s6.below (Below.refl _ _).drew) sz (by omega) (by omega) (HE.out _ s10.drew)
    have hrun3 : T.srun (y :: ys) k S = match T.sstep y S with
      | some s' => T.srun ys (k + 1) s'
      | none => .error (k + 1) := rfl
    rw [hrun3] at h3
    generalize T.trimNL x = tl at *
    cases hss : T.sstep y S with
    | some S' =>
      rw [hss] at hln h3
      have hlen : S'.2.1.length ≤ k + 1 ∧ S'.2.2.length ≤ k + 1 := T.sstep_len y S S' hss (by omega) (by omega)
      have HH3 := Lib.hid h3
      have hss2 : ∀ W' : World, RKept R (R + 4) W2.drew W' → (RI29 s ls w n R (pre ++ [x]) W' ↔ RI29 s ls w n R (pre ++ [x]) W') := fun _ _ => Iff.rfl
      clear hss2
      have hfin : ∀ (W4 : World) (a : Act), RKept R (R + 4) W2.drew W4 → SAt R (R + 4) S' W4 → linePost (R + 3) (R + 4) (RI29 s ls w n R (pre ++ [x])) (RX29 ls w n) W Exit.normal a W4 := by
        intro W4 a hk4 hs4
        refine ⟨skf.trans (show KeepsFrom (R + 4) W2 W4 from ⟨hk4.others.size, hk4.others.same⟩), (hk4.same (R + 3) (by omega) (by omega)).trans sBs, post, ys, S', by rw [hsp]; simp, hys, ?_, ?_, ?_, hs4, (hk4.same (R + 1) (by omega) (by omega)).trans s7, ?_, s9.kept (hk4.same _ (by omega) (by omega)) (hk4.same _ (by omega) (by omega)) (hk4.same _ (by omega) (by omega)), s10.drew.trans (hk4.below.mono (by omega))⟩
        · rw [List.length_append, ← hk]; exact h3
        · rw [List.length_append, ← hk]; exact hlen.1
        · rw [List.length_append, ← hk]; exact hlen.2
        · rw [List.length_append, ← hk]; exact (hk4.same (R + 2) (by omega) (by omega)).trans s8
      have HF := Lib.hid hfin
      clear h6 h7 h8 h9 h10 h1 hy hys hss hrun3 h3 hW2 hk hsp hlen hfin s6 s7 s8 s9 s10 skf sBs HH3
      gi_wp2
      rw [← HW2.out]
      refine wpIn_region_P 3 [2, 3, 4] [0, 1, 2, 3, 4] (fun X => X.cell? ⟨R + 1, 0, none⟩ = some (.pointer (some ⟨R, 0, none⟩))) (by kernel_rfl) (by kernel_rfl) (by kernel_rfl) (by kernel_rfl) (by decide) (by simp only [ordOps, List.map_cons, List.map_nil, List.getElem?_cons_succ, List.getElem?_cons_zero, Option.getD_some]; repeat (first | exact trivial | refine ⟨.inl rfl, ?_⟩ | refine ⟨.inr fun _ _ _ _ h => h, ?_⟩)) ?_ ?_
      rotate_left; simp only [ordOps, List.map_cons, List.map_nil, List.getElem?_cons_succ, List.getElem?_cons_zero, Option.getD_some]; rotate_left
      · exact d7
      iterate 2 ((first | (refine wpP_q (by rfl) (by rfl) ?_ ?_ ?_; rotate_left; focus (rintro W hX; have s0 := hX; go_simp; try (with_reducible rfl); done)) | refine wpP_skip (by rfl) (by rfl) ?_); try simp only [Act.put, List.setIfInBounds_toArray, List.set_cons_succ, List.set_cons_zero])
      refine wpP_a (by rfl) (by rfl) fun K hK => ?_
      go_simp
      refine (hts _).mono ?_
      rintro r w3 ⟨rfl, hw3⟩
      rw [hw3]
      clear hw3
      refine hK _ _ (fun _ => d7) ?_; clear hK K; try simp only [Act.put, List.setIfInBounds_toArray, List.set_cons_succ, List.set_cons_zero]
      refine wpP_a (by rfl) (by rfl) fun K hK => ?_
      go_simp
      refine hln.mono ?_
      rintro r w4 ⟨hk4, rfl, hs4⟩
      have HG := Lib.hid (fun a => HF.out w4 a hk4 hs4)
      clear hk4 hs4 hln hts d7 d8
      refine hK _ _ (fun h => absurd h (by omega)) ?_; clear hK K; try simp only [Act.put, List.setIfInBounds_toArray, List.set_cons_succ, List.set_cons_zero]
      refine wpP_a (by rfl) (by rfl) fun K hK => ?_
      go_simp
      refine hK _ _ (fun h => absurd h (by omega)) ?_; clear hK K; try simp only [Act.put, List.setIfInBounds_toArray, List.set_cons_succ, List.set_cons_zero]
      refine wpP_nil ?_
      rw [noOut_normal]
      gi_wp2
      exact HG.out _
    | none =>
      rw [hss] at hln h3
      have hfin : ∀ (W4 : World) (a : Act), RKept R (R + 4) W2.drew W4 → linePost (R + 3) (R + 4) (RI29 s ls w n R (pre ++ [x])) (RX29 ls w n) W Exit.ret a (((W4.drew.setRow n zeroCV).setCell ⟨n + 1, 0, none⟩ (.int .i64 ((k : Int) + 1))).setCell ⟨n + 2, 0, none⟩ (.int .i64 8)) := by
        intro W4 a hk4
        have s9' : Res n zeroCV 0 0 W4.drew := s9.kept (hk4.same _ (by omega) (by omega)) (hk4.same _ (by omega) (by omega)) (hk4.same _ (by omega) (by omega))
        have r1 := setRow_heap W4.drew n _ zeroCV _ _ s9'.r0
        have o1 (q : Nat) (hq : q ≠ n) : (W4.drew.setRow n zeroCV).heap[q]? = W4.drew.heap[q]? := setRow_other _ n zeroCV q hq
        have b1 : Boxed (W4.drew.setRow n zeroCV) (n + 1) 3 (.int .i64 0) := (o1 _ (by omega)).trans s9'.r1
        have b2 : Boxed (W4.drew.setRow n zeroCV) (n + 2) 35 (.int .i64 0) := (o1 _ (by omega)).trans s9'.r2
        have g1 := grownBy_setCell' (W4.drew.setRow n zeroCV) (n + 1) (.int .i64 ((k : Int) + 1))
        have g2 := grownBy_setCell' ((W4.drew.setRow n zeroCV).setCell ⟨n + 1, 0, none⟩ (.int .i64 ((k : Int) + 1))) (n + 2) (.int .i64 8)
        have kf : KeepsFrom (R + 4) W4 (((W4.drew.setRow n zeroCV).setCell ⟨n + 1, 0, none⟩ (.int .i64 ((k : Int) + 1))).setCell ⟨n + 2, 0, none⟩ (.int .i64 8)) := by
          refine ⟨by simp, fun q o hq ho _ => ?_⟩
          rw [heap_setCell_other _ _ _ _ (by show q ≠ n + 2; omega), heap_setCell_other _ _ _ _ (by show q ≠ n + 1; omega), o1 q (by omega)]
          exact ho
        refine ⟨(skf.trans (show KeepsFrom (R + 4) W2 W4 from ⟨hk4.others.size, hk4.others.same⟩)).trans kf, k + 1, h3.symm, ⟨?_, ?_, ?_⟩, ?_⟩
        · rw [heap_setCell_other _ _ _ _ (by show n ≠ n + 2; omega), heap_setCell_other _ _ _ _ (by show n ≠ n + 1; omega)]
          exact r1
        · have := (b1.set (.int .i64 ((k : Int) + 1))).kept g2 (by simp)
          simpa using this
        · exact (b2.kept g1 (by simp)).set _
        · exact ((below_setRowI (s10.drew.trans (hk4.below.mono (by omega))).drew (Nat.le_refl _) _).setCell (p := ⟨n + 1, 0, none⟩) (by show n ≤ n + 1; omega) _).setCell (p := ⟨n + 2, 0, none⟩) (by show n ≤ n + 2; omega) _
      have hr0 : ∀ W4, RKept R (R + 4) W2.drew W4 → Res n zeroCV 0 0 W4 ∧ W4.cell? ⟨R + 2, 0, none⟩ = some (.int .i64 ((k : Int) + 1)) := fun W4 hk4 =>
        ⟨s9.kept (hk4.same _ (by omega) (by omega)) (hk4.same _ (by omega) (by omega)) (hk4.same _ (by omega) (by omega)), (show Boxed W4 (R + 2) _ _ from (hk4.same (R + 2) (by omega) (by omega)).trans s8).cell⟩
      have HF := Lib.hid hfin
      have HR0 := Lib.hid hr0
      clear h6 h7 h8 h9 h10 h1 hy hys hss hrun3 h3 hW2 hk hsp hfin hr0 s6 s7 s8 s9 s10 skf sBs
      gi_wp2
      rw [← HW2.out]
      refine wpIn_region_P 3 [2, 3, 4] [0, 1, 2, 3, 4] (fun X => X.cell? ⟨R + 1, 0, none⟩ = some (.pointer (some ⟨R, 0, none⟩))) (by kernel_rfl) (by kernel_rfl) (by kernel_rfl) (by kernel_rfl) (by decide) (by simp only [ordOps, List.map_cons, List.map_nil, List.getElem?_cons_succ, List.getElem?_cons_zero, Option.getD_some]; repeat (first | exact trivial | refine ⟨.inl rfl, ?_⟩ | refine ⟨.inr fun _ _ _ _ h => h, ?_⟩)) ?_ ?_
      rotate_left; simp only [ordOps, List.map_cons, List.map_nil, List.getElem?_cons_succ, List.getElem?_cons_zero, Option.getD_some]; rotate_left
      · exact d7
      iterate 2 ((first | (refine wpP_q (by rfl) (by rfl) ?_ ?_ ?_; rotate_left; focus (rintro W hX; have s0 := hX; go_simp; try (with_reducible rfl); done)) | refine wpP_skip (by rfl) (by rfl) ?_); try simp only [Act.put, List.setIfInBounds_toArray, List.set_cons_succ, List.set_cons_zero])
      refine wpP_a (by rfl) (by rfl) fun K hK => ?_
      go_simp
      refine (hts _).mono ?_
      rintro r w3 ⟨rfl, hw3⟩
      rw [hw3]
      clear hw3
      refine hK _ _ (fun _ => d7) ?_; clear hK K; try simp only [Act.put, List.setIfInBounds_toArray, List.set_cons_succ, List.set_cons_zero]
      refine wpP_a (by rfl) (by rfl) fun K hK => ?_
      go_simp
      refine hln.mono ?_
      rintro r w4 ⟨hk4, rfl, hs4⟩
      obtain ⟨q9, q8⟩ := HR0.out w4 hk4
      have HG := Lib.hid (fun a => HF.out w4 a hk4)
      clear hk4 hs4 hln hts d7 d8
      refine hK _ _ (fun h => absurd h (by omega)) ?_; clear hK K; try simp only [Act.put, List.setIfInBounds_toArray, List.set_cons_succ, List.set_cons_zero]
      refine wpP_a (by rfl) (by rfl) fun K hK => ?_
      go_simp
      refine hK _ _ (fun h => absurd h (by omega)) ?_; clear hK K; try simp only [Act.put, List.setIfInBounds_toArray, List.set_cons_succ, List.set_cons_zero]
      refine wpP_nil ?_
      rw [noOut_normal]
      gi_wp2
      have q9d : Res n zeroCV 0 0 w4.drew := ⟨q9.r0, q9.r1, q9.r2⟩
      have q9r := q9d.row zeroCV
      obtain ⟨W5, hW5⟩ : ∃ W5, W5 = w4.drew.setRow n zeroCV := ⟨_, rfl⟩
      have k8 : W5.cell? ⟨R + 2, 0, none⟩ = some (.int .i64 ((k : Int) + 1)) := by rw [hW5]; exact (cell_block (setRow_other _ n zeroCV _ (by omega))).trans q8
      rw [← hW5] at HG q9r
      have HW5 := Lib.hid hW5
      have c1 := q9r.r1.cell
      have f1 := q9r.r1.frozen
      have c2 := q9r.r2.cell
      have f2 := q9r.r2.frozen
      have hr00 := q9d.r0
      clear hW5 q9r q9 q9d
      refine wpIn_region_P 5 [0, 3, 4, 5] [1, 2, 0, 3, 4, 5] (fun X => X.cell? ⟨R + 2, 0, none⟩ = some (.int .i64 ((k : Int) + 1))) (by kernel_rfl) (by kernel_rfl) (by kernel_rfl) (by kernel_rfl) (by decide) (by simp only [ordOps, List.map_cons, List.map_nil, List.getElem?_cons_succ, List.getElem?_cons_zero, Option.getD_some]; repeat (first | exact trivial | refine ⟨.inl rfl, ?_⟩ | refine ⟨.inr fun _ _ _ _ h => h, ?_⟩)) ?_ ?_
      rotate_left; simp only [ordOps, List.map_cons, List.map_nil, List.getElem?_cons_succ, List.getElem?_cons_zero, Option.getD_some]; rotate_left
      · exact q8
      iterate 2 ((first | (refine wpP_q (by rfl) (by rfl) ?_ ?_ ?_; rotate_left; focus (rintro W hX; have s0 := hX; go_simp; try (with_reducible rfl); done)) | refine wpP_skip (by rfl) (by rfl) ?_); try simp only [Act.put, List.setIfInBounds_toArray, List.set_cons_succ, List.set_cons_zero])
      refine wpP_a (by rfl) (by rfl) fun K hK => ?_
      refine wp_buildC 29 _ rfl [] (by simp) _ builtZero ?_
      refine hK _ _ (fun _ => q8) ?_; clear hK K; try simp only [Act.put, List.setIfInBounds_toArray, List.set_cons_succ, List.set_cons_zero]
      refine wpP_a (by rfl) (by rfl) fun K hK => ?_
      refine wp_store_row 29 _ _ rfl n zeroCV rfl rfl _ _ hr00 rfl rfl zeroCV_one ?_
      rw [← HW5.out]
      refine hK _ _ (fun _ => k8) ?_; clear hK K; try simp only [Act.put, List.setIfInBounds_toArray, List.set_cons_succ, List.set_cons_zero]
      clear hr00
      refine wpP_a (by rfl) (by rfl) fun K hK => ?_
      go_simp
      refine hK _ _ (fun _ => by simpa [go_sem] using k8) ?_; clear hK K; try simp only [Act.put, List.setIfInBounds_toArray, List.set_cons_succ, List.set_cons_zero]
      refine wpP_a (by rfl) (by rfl) fun K hK => ?_
      go_simp
      refine hK _ _ (fun h => absurd h (by omega)) ?_; clear hK K; try simp only [Act.put, List.setIfInBounds_toArray, List.set_cons_succ, List.set_cons_zero]
      refine wpP_nil ?_
      rw [noOut_normal]
      gi_wp2
      exact HG.out _
  case done =>
    rintro D W hD ⟨post, xs, S, h1, h2, h3, h4, h5, h6, h7, h8, h9, h10⟩ hK
    obtain rfl : post = [] := by
      have := congrArg List.length h1
      simp at this
      exact this
    obtain rfl : xs = [] := by
      cases xs with
      | nil => rfl
      | cons x xs => exact h2.elim
    have hrun : T.srun ls 0 T.s0 = .ok S := h3.symm
    obtain ⟨c, sv, ps, h6, hci, hpx⟩ := h6
    have hDW := (Array.getElem?_eq_some_iff.1 hK).1
    have hnW := (Array.getElem?_eq_some_iff.1 h9.r0).1
    have hRW := (Array.getElem?_eq_some_iff.1 h6.box).1
    obtain ⟨Ag, ng, capg, hpg⟩ := h6.progs.shape
    have hown := h6.progs
    rw [hpg] at hown
    obtain rfl : ng = ps.length := own_cntG hown
    have hsl := h6.progs.sl PV.sz
    have hpo : ∀ p ∈ ps, PV.ok W p := fun p hp => ⟨(h6.elem p hp).1.sl GoOp.sz, (h6.elem p hp).2⟩
    have hrc := right_c c Ag ps.length capg hpg W
    have hal := fun (X : World) (hX : Below W.heap.size W X) => pall_c c ps X ((hsl.below hX).mono hX.size) fun p hp => PV.below (hpo p hp) hX
    have c5 := h7.cell
    have rrow := rdr_row h6.box
    have HPG := Lib.hid hpg
    have fin (b : Bool) (hb : (T.right c ps.length && T.pall ps c.nodes) = b) (cs : Array Value) (e : Int) (h0 : b = true → cs = Config.arr c ∧ e = 0) (h0' : b = false → cs = zeroCV ∧ e = 2) (w' : World) (hb' : Below n w w')
        (hkp : ∀ q c t fr, R + 4 ≤ q → W.heap[q]? = some (.cells c t fr) → w'.heap[q]? = some (.cells c t fr)) : SReadPost ls w (.returned (.tuple #[.agg cs, .int .i64 0, .int .i64 e])) w' := by
      refine ⟨by rw [← HN.out]; exact hb', ?_⟩
      rw [hrun]
      refine ⟨c, ps, hci, hpx, (own_keep h6.progs hkp).sl PV.sz, fun p hp => ⟨(own_keep (h6.elem p hp).1 hkp).sl GoOp.sz, (h6.elem p hp).2⟩, fun q => ?_, fun q => ?_⟩
      · rw [hb] at q
        obtain ⟨r1, r2⟩ := h0 q
        rw [r1, r2]
      · rw [hb] at q
        obtain ⟨r1, r2⟩ := h0' q
        rw [r1, r2]
    have ks (X : World) (hX : Below W.heap.size W X) (cs : Array Value) (v1 v2 : Value) (w' : World) (hg : (((X.setRow n cs).setCell ⟨n + 1, 0, none⟩ v1).setCell ⟨n + 2, 0, none⟩ v2).grownBy w' (some D)) :
        ∀ q c t fr, R + 4 ≤ q → W.heap[q]? = some (.cells c t fr) → w'.heap[q]? = some (.cells c t fr) := by
      intro q c t fr hq hh
      have hqW := (Array.getElem?_eq_some_iff.1 hh).1
      have hqD : q ≠ D := by rintro rfl; rw [hK] at hh; cases hh
      have hXs := hX.size
      have hsz : (((X.setRow n cs).setCell ⟨n + 1, 0, none⟩ v1).setCell ⟨n + 2, 0, none⟩ v2).heap.size = X.heap.size := by simp [World.setRow]
      rw [hg.block q (by rw [hsz]; omega) (by intro e; cases e; exact hqD rfl), heap_setCell_other _ _ _ _ (by show q ≠ n + 2; omega), heap_setCell_other _ _ _ _ (by show q ≠ n + 1; omega), setRow_other X n cs q (by omega), hX.block q hqW]
      exact hh
    have ret (X : World) (hX : Below W.heap.size W X) (b : Bool) (hb : (T.right c ps.length && T.pall ps c.nodes) = b) (cs : Array Value) (hcs : cs.size = 14) (e : Int) (h0 : b = true → cs = Config.arr c ∧ e = 0) (h0' : b = false → cs = zeroCV ∧ e = 2) (tmps : Array Value)
        (t2 : tmps.getD 2 undef = .pointer (some ⟨n, 0, none⟩)) (t3 : tmps.getD 3 undef = .pointer (some ⟨n + 1, 0, none⟩)) (t4 : tmps.getD 4 undef = .pointer (some ⟨n + 2, 0, none⟩)) :
        bodyPostM Fence.wide 3 Tryz.prog Tryz.f22 (SReadPost ls w) Exit.ret { tmps := tmps, defers := [{ target := .collected D, args := #[] }] } (((X.setRow n cs).setCell ⟨n + 1, 0, none⟩ (.int .i64 0)).setCell ⟨n + 2, 0, none⟩ (.int .i64 e)) := by
      have hr9 : Res n zeroCV 0 0 X := h9.kept (hX.block _ hnW) (hX.block _ (by omega)) (hX.block _ (by omega))
      refine sread_ret ls w n D HN.out (by omega) tmps cs 0 e _ hcs t2 t3 t4 ((hr9.row cs).cells 0 e) ?_ ?_ (fun w' hb' hg => fin b hb cs e h0 h0' w' hb' (ks X hX cs _ _ w' hg))
      · exact ((below_setRowI (h10.trans (hX.mono (by omega))) (Nat.le_refl _) _).setCell (p := ⟨n + 1, 0, none⟩) (by show n ≤ n + 1; omega) _).setCell (p := ⟨n + 2, 0, none⟩) (by show n ≤ n + 2; omega) _
      · rw [heap_setCell_other _ _ _ _ (by show D ≠ n + 2; omega), heap_setCell_other _ _ _ _ (by show D ≠ n + 1; omega), setRow_other X n cs D (by omega), hX.block D hDW]
        exact hK
    have nx (X : World) (hX : Below W.heap.size W X) : Res n zeroCV 0 0 X ∧ X.cell? ⟨R + 1, 0, none⟩ = some (.pointer (some ⟨R, 0, none⟩)) ∧ rowAt X R 0 14 = some (Config.arr c) :=
      ⟨h9.kept (hX.block _ hnW) (hX.block _ (by omega)) (hX.block _ (by omega)), (cell_block (hX.block _ (by omega))).trans c5, (rowAt_block (hX.block R hRW)).trans rrow⟩
    have nr (X : World) (hX : Res n zeroCV 0 0 X) (cs : Array Value) : (X.setRow n cs).cell? ⟨n + 1, 0, none⟩ = some (.int .i64 0) ∧ (X.setRow n cs).frozen? ⟨n + 1, 0, none⟩ = false ∧ (X.setRow n cs).cell? ⟨n + 2, 0, none⟩ = some (.int .i64 0) ∧ (X.setRow n cs).frozen? ⟨n + 2, 0, none⟩ = false :=
      ⟨(hX.row cs).r1.cell, (hX.row cs).r1.frozen, (hX.row cs).r2.cell, (hX.row cs).r2.frozen⟩
    have HRET := Lib.hid ret
    have HNX := Lib.hid nx
    have HNR := Lib.hid nr
    have hsh : ∃ A n cap, c.progs = .slice A n cap := ⟨_, _, _, HPG.out⟩
    clear fin ks ret nx nr h6 h7 h8 h9 h10 h1 h3 h4 h5 hpo hsl hown hci hpx hpg
    rcases hr1 : T.right c ps.length with _ | _
    · rw [hr1] at hrc
      have HB := Lib.hid (show (T.right c ps.length && T.pall ps c.nodes) = false by rw [hr1]; rfl)
      clear hr1
      go_upto_region 10 with (first | (refine wpList_load_at_v 29 _ rfl rfl _ (0) 14 rfl _ _ rrow rfl rfl rfl ?_) | (go_at_call 72; (with_reducible refine hrc.mono ?_); rintro r W3 ⟨rfl, hb3⟩))
      obtain ⟨q9, q5, qr⟩ := HNX.out W3 hb3
      obtain ⟨c1, f1, c2, f2⟩ := HNR.out W3 q9 zeroCV
      have hr0 := q9.r0
      obtain ⟨W8, hW8⟩ : ∃ W8, W8 = W3.setRow n zeroCV := ⟨_, rfl⟩
      rw [← hW8] at c1 f1 c2 f2
      have HW8 := Lib.hid hW8
      clear hW8
      go_wp2_with (first | (refine wpList_build_w (by rfl) _ _ rfl _ ?_ _ builtZero ?_; rfl) | (refine wpList_store_row rfl _ _ _ rfl n zeroCV rfl rfl _ _ hr0 rfl rfl zeroCV_one ?_; rw [← HW8.out]))
      rw [HW8.out]
      exact HRET.out W3 hb3 false HB.out zeroCV rfl 2 (fun q => by cases q) (fun _ => ⟨rfl, rfl⟩) _ rfl rfl rfl
    · rw [hr1] at hrc
      rcases hr2 : T.pall ps c.nodes with _ | _
      · have HB := Lib.hid (show (T.right c ps.length && T.pall ps c.nodes) = false by rw [hr1, hr2]; rfl)
        rw [hr2] at hal
        have HAL := Lib.hid hal
        clear hr1 hr2 hal
        go_upto_region 10 with (first | (refine wpList_load_at_v 29 _ rfl rfl _ (0) 14 rfl _ _ rrow rfl rfl rfl ?_) | (go_at_call 72; (with_reducible refine hrc.mono ?_); rintro r W3 ⟨rfl, hb3⟩; obtain ⟨p9, p5, pr⟩ := HNX.out W3 hb3) | (refine wpList_load_at_v 29 _ rfl rfl _ (0) 14 rfl _ _ pr rfl rfl rfl ?_) | (go_at_call 73; (with_reducible refine (HAL.out _ hb3).mono ?_); rintro r W4 ⟨rfl, hb4⟩))
        have hb34 := bthen hb3 hb4
        obtain ⟨q9, q5, qr⟩ := HNX.out W4 hb34
        obtain ⟨c1, f1, c2, f2⟩ := HNR.out W4 q9 zeroCV
        have hr0 := q9.r0
        obtain ⟨W8, hW8⟩ : ∃ W8, W8 = W4.setRow n zeroCV := ⟨_, rfl⟩
        rw [← hW8] at c1 f1 c2 f2
        have HW8 := Lib.hid hW8
        clear hW8
        go_wp2_with (first | (refine wpList_build_w (by rfl) _ _ rfl _ ?_ _ builtZero ?_; rfl) | (refine wpList_store_row rfl _ _ _ rfl n zeroCV rfl rfl _ _ hr0 rfl rfl zeroCV_one ?_; rw [← HW8.out]))
        rw [HW8.out]
        exact HRET.out W4 hb34 false HB.out zeroCV rfl 2 (fun q => by cases q) (fun _ => ⟨rfl, rfl⟩) _ rfl rfl rfl
      · have HB := Lib.hid (show (T.right c ps.length && T.pall ps c.nodes) = true by rw [hr1, hr2]; rfl)
        rw [hr2] at hal
        have HAL := Lib.hid hal
        clear hr1 hr2 hal
        go_upto_region 11 with (first | (refine wpList_load_at_v 29 _ rfl rfl _ (0) 14 rfl _ _ rrow rfl rfl rfl ?_) | (go_at_call 72; (with_reducible refine hrc.mono ?_); rintro r W3 ⟨rfl, hb3⟩; obtain ⟨p9, p5, pr⟩ := HNX.out W3 hb3) | (refine wpList_load_at_v 29 _ rfl rfl _ (0) 14 rfl _ _ pr rfl rfl rfl ?_) | (go_at_call 73; (with_reducible refine (HAL.out _ hb3).mono ?_); rintro r W4 ⟨rfl, hb4⟩))
        have hb34 := bthen hb3 hb4
        obtain ⟨q9, q5, qr⟩ := HNX.out W4 hb34
        obtain ⟨c1, f1, c2, f2⟩ := HNR.out W4 q9 (Config.arr c)
        have hr0 := q9.r0
        obtain ⟨W8, hW8⟩ : ∃ W8, W8 = W4.setRow n (Config.arr c) := ⟨_, rfl⟩
        rw [← hW8] at c1 f1 c2 f2
        have HW8 := Lib.hid hW8
        clear hW8
        go_wp2_with (first | (refine wpList_load_at_v 29 _ rfl rfl _ (0) 14 rfl _ _ qr rfl rfl rfl ?_) | (refine wpList_store_row rfl _ _ _ rfl n (Config.arr c) rfl rfl _ _ hr0 rfl rfl (Config.one c hsh) ?_; rw [← HW8.out]))
        rw [HW8.out]
        exact HRET.out W4 hb34 true HB.out (Config.arr c) rfl 0 (fun _ => ⟨rfl, rfl⟩) (fun q => by cases q) _ rfl rfl rfl
  case stop =>
    rintro D pre x post W hD hsp ⟨k, h1, h2, h3⟩ hK
    refine wpIn_wide.2 ?_
    go_wp2
    refine sread_ret ls w n D HN.out (by omega) _ zeroCV _ _ W rfl rfl rfl rfl h2 h3 hK ?_
    intro w' hb _
    refine ⟨by rw [← HN.out]; exact hb, ?_⟩
    rw [h1]
end Go.Proofs.YtmpjjmilodjecaaGreatDoor
namespace Go.Proofs.YtmpjjmilodjecaaGreatDoor
open Go.RowKit Go.Shelf
set_option linter.unusedVariables false
set_option linter.unusedSimpArgs false
def T.e29a : List UInt8 := [110, 111, 100, 101, 115, 32, 50, 10, 115, 107, 101, 119, 32, 51, 10, 112, 114, 111, 103, 114, 97, 109, 32, 97, 110, 115, 119, 101, 114, 32, 53, 10]
def T.e29b : List UInt8 := [110, 111, 100, 101, 115, 32, 50, 10, 110, 111, 100, 101, 115, 32, 50, 10]
def T.l29a : List SLine := [.set 0 2, .set 1 3, .prog [⟨5, 5, 0⟩]]
def T.l29b : List SLine := [.set 0 2, .set 0 2]
theorem T.e29a_lines : T.lines T.e29a = [[110, 111, 100, 101, 115, 32, 50], [115, 107, 101, 119, 32, 51], [112, 114, 111, 103, 114, 97, 109, 32, 97, 110, 115, 119, 101, 114, 32, 53]] := by decide +kernel
theorem T.e29b_lines : T.lines T.e29b = [[110, 111, 100, 101, 115, 32, 50], [110, 111, 100, 101, 115, 32, 50]] := by decide +kernel
theorem T.l29a_all : SLine.all T.l29a (T.lines T.e29a) := by
  rw [T.e29a_lines]
  refine ⟨⟨by decide +kernel, by decide, by decide⟩, ⟨by decide +kernel, by decide, by decide⟩, ⟨by decide +kernel, by decide +kernel, ?_⟩, trivial⟩
  intro o ho
  rw [List.mem_singleton] at ho
  subst ho
  unfold GoOp.ok i64
  simp
theorem T.l29b_all : SLine.all T.l29b (T.lines T.e29b) := by
  rw [T.e29b_lines]
  exact ⟨⟨by decide +kernel, by decide, by decide⟩, ⟨by decide +kernel, by decide, by decide⟩, trivial⟩
theorem read_a (w : World) (he : Env w) : Calls Tryz.prog 22 #[strV T.e29a] w fun r w' => Below w.heap.size w w' ∧ ∃ c A cap, r = .returned (.tuple #[.agg (Config.arr c), .int .i64 0, .int .i64 0]) ∧ c.nodes = 2 ∧ c.skew = 3 ∧ c.lease = 1000 ∧ c.progs = .slice A 1 cap := by
  refine (sread_c T.e29a (by decide) T.l29a T.l29a_all (by decide) w he).mono ?_
  rintro r w' ⟨hb, h⟩
  rw [show T.srun T.l29a 0 T.s0 = .ok ([2, 3, 1000, 0, 1, 4, 8, 4, 1, 10, 100, 500, 10], [[⟨5, 5, 0⟩]], [0, 1]) from rfl] at h
  obtain ⟨c, ps, hi, hp, hs, _, hr, _⟩ := h
  obtain ⟨A, cap, hv, _⟩ := hs
  have hl : ps.length = 1 := by simpa using congrArg List.length hp
  obtain ⟨p, rfl⟩ := List.length_eq_one_iff.1 hl
  have hpx : p.xs = [⟨5, 5, 0⟩] := by simpa using hp
  unfold Config.ints at hi
  simp only [List.cons.injEq, and_true] at hi
  obtain ⟨i0, i1, i2, i3, i4, i5, i6, i7, i8, i9, i10, i11, i12⟩ := hi
  refine ⟨hb, c, A, cap, hr ?_, i0, i1, i2, hv⟩
  unfold T.right T.pall
  rw [i0, i1, i2, i3, i4, i5, i6, i7, i8, i9, i10, i11, i12]
  simp [hpx, T.pright, T.opOk]
theorem read_b (w : World) (he : Env w) : Calls Tryz.prog 22 #[strV T.e29b] w fun r w' => Below w.heap.size w w' ∧ r = .returned (.tuple #[.agg zeroCV, .int .i64 2, .int .i64 8]) := by
  refine (sread_c T.e29b (by decide) T.l29b T.l29b_all (by decide) w he).mono ?_
  rintro r w' ⟨hb, h⟩
  rw [show T.srun T.l29b 0 T.s0 = .error 2 from rfl] at h
  exact ⟨hb, h⟩
attribute [local go_sem] Config.sz bw_cell
set_option maxRecDepth 100000 in
set_option maxHeartbeats 4000000 in
theorem awake29_c (w : World) (he : Env w) : Calls Tryz.prog 16 #[] w fun e w' => e = .returned (.bool true) ∧ Below w.heap.size w w' := by
  have ha := read_a w he
  have hb := fun (X : World) (hX : Below w.heap.size w X) => read_b X (he.below hX)
  unfold T.e29a at ha
  unfold T.e29b at hb
  go_enter Tryz.func16, Tryz.ntmps16
  go_upto_region 1 with (fail)
  go_upto_region 2 with (first | (go_at_call 22; (with_reducible refine ha.mono ?_); rintro r w2 ⟨hb2, c, A, cap, rfl, i0, i1, i2, hv⟩; have HI := Lib.hid (show c.nodes = 2 ∧ c.skew = 3 ∧ c.lease = 1000 ∧ c.progs = .slice A 1 cap from ⟨i0, i1, i2, hv⟩); have hone := Config.one c ⟨A, 1, cap, hv⟩; clear i0 i1 i2 hv) | (refine wpList_store_new rfl _ _ _ rfl w2.heap.size (Config.arr c) _ _ rfl rfl rfl rfl rfl hone ?_))
  obtain ⟨W3, hW3⟩ : ∃ W3, W3 = w2.alloc (.cells (Config.arr c) 29) := ⟨_, rfl⟩
  have hb3 : Below w.heap.size w W3 := by rw [hW3]; exact hb2.alloc hb2.size _
  have r3 : rowAt W3 w2.heap.size 0 14 = some (Config.arr c) := by rw [hW3]; exact rowAt_new _ _ _ _ _ rfl
  have hz3 : w2.heap.size < W3.heap.size := by rw [hW3]; simp
  rw [← hW3]
  have hbb := hb W3 hb3
  clear hW3 ha hb
  go_upto_region 3 with (first | (go_at_call 22; (with_reducible refine hbb.mono ?_); rintro r w4 ⟨hb4, rfl⟩) | (refine wpList_store_new rfl _ _ _ rfl w4.heap.size zeroCV _ _ rfl rfl rfl rfl rfl zeroCV_one ?_))
  obtain ⟨W5, hW5⟩ : ∃ W5, W5 = w4.alloc (.cells zeroCV 29) := ⟨_, rfl⟩
  have hb45 : Below W3.heap.size W3 W5 := by rw [hW5]; exact hb4.alloc hb4.size _
  rw [← hW5]
  obtain ⟨i0, i1, i2, hv⟩ := HI.out
  have r5 := (rowAt_block (hb45.block _ hz3)).trans r3
  have c0 : W5.cell? ⟨w2.heap.size, 0, none⟩ = some (.int .i64 c.nodes) := rowAt_cell r5 0 (by omega)
  have c1 : W5.cell? ⟨w2.heap.size, 1, none⟩ = some (.int .i64 c.skew) := rowAt_cell r5 1 (by omega)
  have c2 : W5.cell? ⟨w2.heap.size, 2, none⟩ = some (.int .i64 c.lease) := rowAt_cell r5 2 (by omega)
  have c13 : W5.cell? ⟨w2.heap.size, 13, none⟩ = some c.progs := rowAt_cell r5 13 (by omega)
  rw [i0] at c0
  rw [i1] at c1
  rw [i2] at c2
  rw [hv] at c13
  clear hW5 i0 i1 i2 hv r5 r3 hbb
  go_wp2
  go_ret
  exact ⟨rfl, bthen hb3 hb45⟩
end Go.Proofs.YtmpjjmilodjecaaGreatDoor
