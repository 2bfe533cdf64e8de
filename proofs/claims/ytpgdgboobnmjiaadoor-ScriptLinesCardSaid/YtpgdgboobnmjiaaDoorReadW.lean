/- Reading a script: the program's walk. -/
import Derived.Test.YtpgdgboobnmjiaaDoorReadP
import Derived.Test.YtpgdgboobnmjiaaDoorLinesL
import Derived.Test.YtpgdgboobnmjiaaDoorRoundW
import Derived.Test.YtpgdgboobnmjiaaDoorHeadP
import Derived.Sort.CutIn
namespace Go.Proofs.YtpgdgboobnmjiaaDoor
open Go.RowKit Go.Shelf
set_option linter.unusedVariables false
set_option linter.unusedSimpArgs false
theorem own_turned {α : Type} {arr : α → Array Value} {sz base : Nat} {e : TypeId} {v : Value} {xs : List α} {Bs B : Nat} (h1 : Bs < base) (h2 : base ≤ B) : Turned Bs B fun W => Own arr sz base e W v xs := by
  intro W W' row h hg hr
  refine h.kept hg ?_
  obtain ⟨_, ⟨rfl, _⟩ | ⟨g, cap, cur, rfl, hb, hgb, _⟩⟩ := h
  · exact .inl rfl
  · refine .inr fun e' => ?_
    have e'' : row = some g := by simpa [Value.ownBlock] using e'.symm
    rcases hr g e'' with rfl | ⟨_, o, ho, hc⟩
    · omega
    · rw [hgb] at ho; cases ho; cases hc
theorem Own.cnt {α : Type} {arr : α → Array Value} {sz base : Nat} {e : TypeId} {w : World} {xs : List α} {A : Option Addr} {n cap : Nat} (h : Own arr sz base e w (.slice A n cap) xs) : n = xs.length := by
  rcases h.2 with ⟨hv, h0⟩ | ⟨g, cap, cur, hv, _⟩
  · injection hv with _ e2 _; omega
  · injection hv
/-- The cells of a reading. -/
structure RD (n : Nat) (v : Value) (k : Int) (W : World) : Prop where
  r0 : Boxed W n 35 (.slice none 0 0)
  r1 : Boxed W (n + 1) 3 (.int .i64 0)
  r2 : Boxed W (n + 2) 25 (.int .i64 0)
  ou : Boxed W (n + 3) 35 v
  nr : Boxed W (n + 4) 3 (.int .i64 k)
theorem RD.turned {n Bs B : Nat} {v : Value} {k : Int} (h : n + 4 < Bs) : Turned Bs B (RD n v k) := fun W W' row hd hg hr =>
  ⟨Turned.boxed _ _ (by omega) W W' row hd.r0 hg hr, Turned.boxed _ _ (by omega) W W' row hd.r1 hg hr, Turned.boxed _ _ (by omega) W W' row hd.r2 hg hr, Turned.boxed _ _ (by omega) W W' row hd.ou hg hr, Turned.boxed _ _ (by omega) W W' row hd.nr hg hr⟩
theorem RD.below {n : Nat} {v : Value} {k : Int} {W W' : World} (h : RD n v k W) (hb : Below W.heap.size W W') : RD n v k W' :=
  ⟨(hb.block n h.r0.lt).trans h.r0, (hb.block _ h.r1.lt).trans h.r1, (hb.block _ h.r2.lt).trans h.r2, (hb.block _ h.ou.lt).trans h.ou, (hb.block _ h.nr.lt).trans h.nr⟩
/-- What the loop keeps. -/
def RI (s : List UInt8) (w0 : World) (n B : Nat) (pre : List (List UInt8)) (W : World) : Prop :=
  ∃ post out v, T.linesK s = pre ++ post ∧ T.readGo (post.map T.trimNL) out pre.length = T.read s ∧ out.length ≤ 400 ∧ RD n v pre.length W ∧ Own Step.arr 5 B 24 W v out ∧ Below n w0 W
def RX (s : List UInt8) (w0 : World) (n : Nat) (W : World) : Prop :=
  ∃ k e, T.read s = ([], k, e) ∧ Boxed W n 35 (.slice none 0 0) ∧ Boxed W (n + 1) 3 (.int .i64 k) ∧ Boxed W (n + 2) 25 (.int .i64 e) ∧ Below n w0 W
theorem RI.turned (s : List UInt8) (w0 : World) (n : Nat) (hn : n = w0.heap.size) (pre : List (List UInt8)) : Turned (n + 5) (n + 6) (RI s w0 n (n + 6) pre) := by
  rintro W W' row ⟨post, out, v, h1, h2, h3, h4, h5, h6⟩ hg hr
  exact ⟨post, out, v, h1, h2, h3, RD.turned (by omega) W W' row h4 hg hr, own_turned (by omega) (Nat.le_refl _) W W' row h5 hg hr, Turned.below (by omega) (by omega) (by omega) W W' row h6 hg hr⟩
theorem RX.turned (s : List UInt8) (w0 : World) (n : Nat) (hn : n = w0.heap.size) : Turned (n + 5) (n + 6) (RX s w0 n) := by
  rintro W W' row ⟨k, e, h1, h2, h3, h4, h5⟩ hg hr
  exact ⟨k, e, h1, Turned.boxed _ _ (by omega) W W' row h2 hg hr, Turned.boxed _ _ (by omega) W W' row h3 hg hr, Turned.boxed _ _ (by omega) W W' row h4 hg hr, Turned.below (by omega) (by omega) (by omega) W W' row h5 hg hr⟩
def ReadPost (s : List UInt8) (w : World) (r : Ending) (w' : World) : Prop :=
  ∃ v, r = .returned (.tuple #[v, .int .i64 (T.read s).2.1, .int .i64 (T.read s).2.2]) ∧ Own Step.arr 5 w.heap.size 24 w' v (T.read s).1 ∧ Below w.heap.size w w'
def rdA (n : Nat) (s : List UInt8) (x : List UInt8) : Act := { tmps := #[strV s, undef, .pointer (some ⟨n, 0, none⟩), .pointer (some ⟨n + 1, 0, none⟩), .pointer (some ⟨n + 2, 0, none⟩), .pointer (some ⟨n + 3, 0, none⟩), .pointer (some ⟨n + 4, 0, none⟩), strV x, undef, undef, strV s, .func (.func 74) #[] #[.pointer (some ⟨n + 5, 0, none⟩)], strV x, undef, undef, undef, undef, undef, undef, undef, undef, undef, undef, undef, undef, undef, undef, undef, undef, undef, undef, undef, undef, undef, undef, undef, undef, undef, undef, undef, undef, undef], defers := [] }
theorem read_boxes (w : World) (s : List UInt8) (n : Nat) (hn : n = w.heap.size) : Boxed ((((((w.alloc (Obj.cells #[Value.slice none 0 0] 35)).alloc (Obj.cells #[Value.int IntKind.i64 0] 3)).alloc (Obj.cells #[Value.int IntKind.i64 0] 25)).alloc (Obj.cells #[Value.slice none 0 0] 35)).alloc (Obj.cells #[Value.int IntKind.i64 0] 3)).alloc (Obj.cells #[strV s] 9)) (n + 5) 9 (strV s) ∧ RD n (.slice none 0 0) 0 ((((((w.alloc (Obj.cells #[Value.slice none 0 0] 35)).alloc (Obj.cells #[Value.int IntKind.i64 0] 3)).alloc (Obj.cells #[Value.int IntKind.i64 0] 25)).alloc (Obj.cells #[Value.slice none 0 0] 35)).alloc (Obj.cells #[Value.int IntKind.i64 0] 3)).alloc (Obj.cells #[strV s] 9)) := by
  subst hn
  have e (X : World) (t : TypeId) (v : Value) (k : Nat) (h : X.heap.size = k) : Boxed (X.alloc (.cells #[v] t)) k t v := by subst h; exact Boxed.new X t v
  refine ⟨e _ _ _ _ (by simp), ?_, ?_, ?_, ?_, ?_⟩
  · exact (((((e _ _ _ _ rfl).alloc _).alloc _).alloc _).alloc _).alloc _
  · exact ((((e _ _ _ _ (by simp)).alloc _).alloc _).alloc _).alloc _
  · exact (((e _ _ _ _ (by simp)).alloc _).alloc _).alloc _
  · exact ((e _ _ _ _ (by simp)).alloc _).alloc _
  · exact (e _ _ _ _ (by simp)).alloc _
attribute [local go_sem] Oper.semAt_some Step.sz
theorem rx_end (s : List UInt8) (w : World) (n : Nat) (hn : n = w.heap.size) (I : World → Prop) (j e : Int) (W W2 : World) {u1 u2 : Int} (b0 : Boxed W2 n 35 (.slice none 0 0)) (b1 : Boxed W2 (n + 1) 3 (.int .i64 u1)) (b2 : Boxed W2 (n + 2) 25 (.int .i64 u2))
    (hb : Below n w W2) (hk : KeepsFrom (n + 6) W W2) (hr : T.read s = ([], j, e)) (a : Act) :
    linePost (n + 5) (n + 6) I (RX s w n) W Exit.ret a (((W2.setCell ⟨n, 0, none⟩ (.slice none 0 0)).setCell ⟨n + 1, 0, none⟩ (.int .i64 j)).setCell ⟨n + 2, 0, none⟩ (.int .i64 e)).drew := by
  have g0 := grownBy_setCell' W2 n (.slice none 0 0)
  have g1 := grownBy_setCell' (W2.setCell ⟨n, 0, none⟩ (.slice none 0 0)) (n + 1) (.int .i64 j)
  have g2 := grownBy_setCell' ((W2.setCell ⟨n, 0, none⟩ (.slice none 0 0)).setCell ⟨n + 1, 0, none⟩ (.int .i64 j)) (n + 2) (.int .i64 e)
  have kk := ((KeepsOthers.setCell W2 ⟨n, 0, none⟩ (.slice none 0 0)).trans (KeepsOthers.setCell _ ⟨n + 1, 0, none⟩ (.int .i64 j))).trans (KeepsOthers.setCell _ ⟨n + 2, 0, none⟩ (.int .i64 e))
  refine ⟨(hk.trans (kk.from _)).trans ⟨Nat.le_refl _, fun _ _ _ h _ => h⟩, j, e, hr, ?_, ?_, ?_, ?_⟩
  · have := ((b0.set (.slice none 0 0)).kept g1 (by simp)).kept g2 (by simp)
    exact this
  · have := ((b1.kept g0 (by simp)).set (.int .i64 j)).kept g2 (by simp)
    exact this
  · have := ((b2.kept g0 (by simp)).kept g1 (by simp)).set (.int .i64 e)
    exact this
  · exact (((hb.setCell (p := ⟨n, 0, none⟩) (Nat.le_refl _) _).setCell (p := ⟨n + 1, 0, none⟩) (by show n ≤ n + 1; omega) _).setCell (p := ⟨n + 2, 0, none⟩) (by show n ≤ n + 2; omega) _).drew
theorem read_ret (s : List UInt8) (w : World) (n D : Nat) (hn : n = w.heap.size) (hD : n + 6 ≤ D) (tmps : Array Value) (A : Option Addr) (m cap : Nat) (k e : Int) (out : List Step) (W : World)
    (h2 : tmps.getD 2 undef = .pointer (some ⟨n, 0, none⟩)) (h3 : tmps.getD 3 undef = .pointer (some ⟨n + 1, 0, none⟩)) (h4 : tmps.getD 4 undef = .pointer (some ⟨n + 2, 0, none⟩))
    (b0 : Boxed W n 35 (.slice A m cap)) (b1 : Boxed W (n + 1) 3 (.int .i64 k)) (b2 : Boxed W (n + 2) 25 (.int .i64 e)) (hb : Below n w W) (hK : W.heap[D]? = some (.deferred (some [])))
    (ho : Own Step.arr 5 (n + 6) 24 W (.slice A m cap) out) (hr : T.read s = (out, k, e)) :
    bodyPostM Fence.wide 3 Tryd.prog Tryd.f18 (ReadPost s w) Exit.ret { tmps := tmps, defers := [{ target := .collected D, args := #[] }] } W := by
  have g : W.grownBy (W.putObj D (.deferred none)) (some D) := grownBy_putObj' W D _
  have c0 := (b0.kept g (fun e => by cases e; omega)).cell
  have c1 := (b1.kept g (fun e => by cases e; omega)).cell
  have c2 := (b2.kept g (fun e => by cases e; omega)).cell
  have h2' : tmps[2]?.getD undef = .pointer (some ⟨n, 0, none⟩) := by simpa using h2
  have h3' : tmps[3]?.getD undef = .pointer (some ⟨n + 1, 0, none⟩) := by simpa using h3
  have h4' : tmps[4]?.getD undef = .pointer (some ⟨n + 2, 0, none⟩) := by simpa using h4
  refine ⟨by simp, .inl ⟨_, _, rfl, run_takeDeferred hK, ?_⟩⟩
  refine ⟨.tuple #[.slice A m cap, .int .i64 k, .int .i64 e], ?_, ⟨_, by rw [hr], ?_, ?_⟩⟩
  · simp [results, Tryd.f18, go_sem, asAddr, h2', h3', h4', c0, c1, c2]
  · rw [hr, ← hn]
    refine Own.lower (base := n + 6) ?_ (by omega)
    exact own_turned (Bs := n + 5) (B := n + 6) (by omega) (Nat.le_refl _) W _ _ ho g (fun r e => by cases e; exact .inr ⟨hD, _, hK, rfl⟩)
  · rw [← hn]
    exact hb.grown g (by have := hb.size; omega) (fun r e => by cases e; omega)
set_option maxRecDepth 100000 in
set_option maxHeartbeats 4000000 in
theorem read_c (s : List UInt8) (hs : s.length ≤ 1000000) (w : World) (he : Env w) : Calls Tryd.prog 18 #[strV s] w (ReadPost s w) := by
  refine (callsIn_wide (n := 3)).1 ?_
  refine callsIn_of_wp_marks Tryd.func18 rfl trivial ?_ rfl
  simp only [Tryd.ntmps18, List.size_toArray, List.length_cons, List.length_nil, Nat.reduceAdd, Nat.reduceSub, Array.replicate_succ, Array.replicate_zero, List.push_toArray, List.append_toArray, List.nil_append, List.cons_append]
  gi_wp2_with (refine ⟨trivial, ?_⟩; gi_at_call 50; refine (lines_in _ _ _).mono ?_; rintro e w' ⟨rfl, rfl⟩)
  obtain ⟨n, hn⟩ : ∃ n, n = w.heap.size := ⟨_, rfl⟩
  obtain ⟨W0, hW0⟩ : ∃ W0, ((((((w.alloc (Obj.cells #[Value.slice none 0 0] 35)).alloc (Obj.cells #[Value.int IntKind.i64 0] 3)).alloc (Obj.cells #[Value.int IntKind.i64 0] 25)).alloc (Obj.cells #[Value.slice none 0 0] 35)).alloc (Obj.cells #[Value.int IntKind.i64 0] 3)).alloc (Obj.cells #[strV s] 9)) = W0 := ⟨_, rfl⟩
  have hz0 : W0.heap.size = n + 6 := by rw [← hW0, hn]; simp
  have hB0 : Below n w W0 := by rw [← hW0, hn]; exact (((((((Below.refl _ w).alloc (Nat.le_refl _) _).alloc (by simp) _).alloc (by simp <;> omega) _).alloc (by simp <;> omega) _).alloc (by simp <;> omega) _).alloc (by simp <;> omega) _)
  have hr0 := read_boxes w s n hn
  rw [hW0] at hr0 ⊢
  clear hW0
  obtain ⟨hbs, hrd⟩ := hr0
  rw [← hn]
  simp only [Nat.add_assoc, Nat.reduceAdd]
  have HN := Lib.hid hn
  have HZ := Lib.hid hz0
  clear hn
  refine range_lines (Bs := n + 5) rfl s hs hbs (RI s w n (n + 6)) (fun _ => RX s w n) (by rw [hz0]; exact RI.turned s w n HN.out) (by rw [hz0]; exact fun _ => RX.turned s w n HN.out)
    ⟨T.linesK s, [], .slice none 0 0, rfl, rfl, by simp, hrd, Own.nil, hB0⟩ (rdA n s) ?assign ?body ?done ?stop
  case assign =>
    intro l x W K hK
    gi_wp2
    exact hK
  case body =>
    intro l pre x post W hsp hI hzW
    rw [hz0] at hzW ⊢
    clear hz0
    simp only [rdA]
    obtain ⟨post1, out, v, h1, h2, h3, h4, h5, h6⟩ := hI
    obtain rfl : post1 = x :: post := List.append_cancel_left (h1.symm.trans hsp)
    rw [List.map_cons] at h2
    have hxl : (T.trimNL x).length ≤ 1000000 := by
      have q1 := T.trimNL_le x
      have q2 := T.linesK_le s x (by rw [hsp]; simp)
      omega
    have hts := fun X => Tryd.strings_TrimSuffix ⟨x.toArray⟩ ⟨#[10]⟩ X (by have := T.linesK_le s x (by rw [hsp]; simp); simp [ByteArray.size]; omega)
    have htr : Lib.trimSuffix (ByteArray.mk x.toArray).data.toList (ByteArray.mk #[10]).data.toList = T.trimNL x := rfl
    rw [htr] at hts
    clear htr
    obtain ⟨tl, hl⟩ : ∃ tl, tl = T.trimNL x := ⟨_, rfl⟩
    rw [← hl] at h2 hxl hts
    have hpl : pre.length ≤ 1000000 := by
      have := T.linesK_len s
      rw [hsp] at this
      simp at this
      omega
    obtain ⟨k, hk⟩ : ∃ k, k = pre.length := ⟨_, rfl⟩
    rw [← hk] at h2 h4 hpl
    have c4 := h4.nr.cell
    have f4 := h4.nr.frozen
    have wr4 : IntKind.i64.wrap ((k : Int) + 1) = (k : Int) + 1 := IntWalk.i64_in _ (by omega)
    have HL := Lib.hid hl
    have HK := Lib.hid hk
    clear hl hk
    by_cases hb : tl = [] ∨ tl.head? = some 35
    · have hnext := T.readGo_skip tl (post.map T.trimNL) out k hb
      have h2' := h2
      rw [hnext] at h2'
      clear hnext h2
      have hfin : linePost (n + 5) (n + 6) (RI s w n (n + 6) (pre ++ [x])) (RX s w n) W Exit.normal { tmps := #[], defers := [] } (W.setCell ⟨n + 4, 0, none⟩ (.int .i64 ((k : Int) + 1))) := by
        have g := grownBy_setCell' W (n + 4) (.int .i64 ((k : Int) + 1))
        refine ⟨(KeepsOthers.setCell _ _ _).from _, g.block _ (by omega) (by simp), post, out, v, by rw [hsp]; simp, ?_, h3, ⟨h4.r0.kept g (by simp), h4.r1.kept g (by simp), h4.r2.kept g (by simp), h4.ou.kept g (by simp), ?_⟩, ?_, h6.setCell (p := ⟨n + 4, 0, none⟩) (by show n ≤ n + 4; omega) _⟩
        · rw [List.length_append, ← HK.out]; exact h2'
        · have := h4.nr.set (.int .i64 ((k : Int) + 1))
          rw [List.length_append, ← HK.out]; exact this
        · refine h5.kept g (.inr fun e => ?_)
          have := (h5.lt _ e).1
          omega
      have HF := Lib.hid hfin
      clear hfin h2' h3 h4 h5 h6
      rcases hb with rfl | hb
      · gi_wp2_with (refine ⟨trivial, ?_⟩; gi_at_call 51; refine (CallsIn.inRound l (callsIn_wide.2 (hts _))).mono ?_; rintro e w' ⟨rfl, rfl⟩)
        exact HF.out
      · obtain ⟨ts, rfl⟩ : ∃ ts, tl = 35 :: ts := by
          cases tl with
          | nil => simp at hb
          | cons b ts => simp at hb; exact ⟨ts, by rw [hb]⟩
        gi_wp2_with (refine ⟨trivial, ?_⟩; gi_at_call 51; refine (CallsIn.inRound l (callsIn_wide.2 (hts _))).mono ?_; rintro e w' ⟨rfl, rfl⟩)
        exact HF.out
    · obtain ⟨b, ts, rfl, hb35⟩ : ∃ b ts, tl = b :: ts ∧ b ≠ 35 := by
        cases tl with
        | nil => simp at hb
        | cons b ts => simp at hb; exact ⟨b, ts, rfl, hb⟩
      obtain ⟨A, m, cap, rfl⟩ := h5.shape
      obtain rfl : m = out.length := h5.cnt
      have HO := Lib.hid h5
      have HD := Lib.hid h4
      have HR := Lib.hid h2
      have c3 := h4.ou.cell
      have h0 : (((ByteArray.mk (b :: ts).toArray)[0]'(by simp [ByteArray.size])).toNat : Int) ≠ 35 := by
        intro e
        have h35 : b.toNat = 35 := by exact_mod_cast e
        exact hb35 (UInt8.toNat_inj.1 h35)
      have h0' : ((((ByteArray.mk (b :: ts).toArray)[0]'(by simp [ByteArray.size])).toNat : Int) == 35) = false := by simpa using h0
      clear h2 h4 h5 h0 hb35
      by_cases hf : 400 ≤ out.length
      · have hf' : (400 : Int) ≤ (out.length : Int) := by omega
        gi_wp2_with (refine ⟨trivial, ?_⟩; gi_at_call 51; refine (CallsIn.inRound l (callsIn_wide.2 (hts _))).mono ?_; rintro e w' ⟨rfl, rfl⟩)
        have HX := Lib.hid (T.readGo_full _ (post.map T.trimNL) out k hb hf)
        have s4 := World.cell?_setCell_same' W ⟨n + 4, 0, none⟩ (.int .i64 ((k : Int) + 1)) (by rw [c4]; rfl)
        have hd := HD.out
        have g4 := grownBy_setCell' W (n + 4) (.int .i64 ((k : Int) + 1))
        obtain ⟨W2, hW2⟩ : ∃ W2, W2 = W.setCell ⟨n + 4, 0, none⟩ (.int .i64 ((k : Int) + 1)) := ⟨_, rfl⟩
        have b0 := hd.r0.kept g4 (by simp)
        have b1 := hd.r1.kept g4 (by simp)
        have b2 := hd.r2.kept g4 (by simp)
        have hb2 : Below n w (W.setCell ⟨n + 4, 0, none⟩ (.int .i64 ((k : Int) + 1))) := h6.setCell (p := ⟨n + 4, 0, none⟩) (by show n ≤ n + 4; omega) _
        have hkf : KeepsFrom (n + 6) W (W.setCell ⟨n + 4, 0, none⟩ (.int .i64 ((k : Int) + 1))) := (KeepsOthers.setCell _ _ _).from _
        rw [← hW2] at b0 b1 b2 hb2 hkf s4 ⊢
        have hrx := rx_end s w n HN.out (RI s w n (n + 6) (pre ++ [x])) ((k : Int) + 1) 6 W W2 b0 b1 b2 hb2 hkf (HR.out.symm.trans HX.out)
        have c0 := b0.cell
        have f0 := b0.frozen
        have c1 := b1.cell
        have f1 := b1.frozen
        have c2 := b2.cell
        have f2 := b2.frozen
        clear hW2 b0 b1 b2 hb2 hkf
        refine wpIn_region_P 3 [1, 2, 3] [0, 1, 2, 3] (fun X => X.cell? ⟨n + 4, 0, none⟩ = some (.int .i64 ((k : Int) + 1))) (by kernel_rfl) (by kernel_rfl) (by kernel_rfl) (by kernel_rfl) (by decide) (by simp only [ordOps, List.map_cons, List.map_nil, List.getElem?_cons_succ, List.getElem?_cons_zero, Option.getD_some]; repeat (first | exact trivial | refine ⟨.inl rfl, ?_⟩ | refine ⟨.inr fun _ _ _ _ h => h, ?_⟩)) ?_ ?_
        rotate_left; simp only [ordOps, List.map_cons, List.map_nil, List.getElem?_cons_succ, List.getElem?_cons_zero, Option.getD_some]; rotate_left
        · exact s4
        repeat ((first | (refine wpP_q (by rfl) (by rfl) ?_ ?_ ?_; rotate_left; focus (rintro W hX; have s0 := hX; go_simp; try (with_reducible rfl); done)) | refine wpP_skip (by rfl) (by rfl) ?_); try simp only [Act.put, List.setIfInBounds_toArray, List.set_cons_succ, List.set_cons_zero])
        refine wpP_a (by rfl) (by rfl) fun K hK => ?_
        go_simp
        refine hK _ _ (fun _ => by simpa [go_sem] using s4) ?_; clear hK K; try simp only [Act.put, List.setIfInBounds_toArray, List.set_cons_succ, List.set_cons_zero]
        refine wpP_a (by rfl) (by rfl) fun K hK => ?_
        go_simp
        refine hK _ _ (fun _ => by simpa [go_sem] using s4) ?_; clear hK K; try simp only [Act.put, List.setIfInBounds_toArray, List.set_cons_succ, List.set_cons_zero]
        refine wpP_a (by rfl) (by rfl) fun K hK => ?_
        go_simp
        refine hK _ _ (fun h => absurd h (by omega)) ?_; clear hK K; try simp only [Act.put, List.setIfInBounds_toArray, List.set_cons_succ, List.set_cons_zero]
        refine wpP_nil ?_
        rw [noOut_normal]
        gi_wp2
        exact hrx _
      · have hf' : (out.length : Int) < 400 := by omega
        have g4 := grownBy_setCell' W (n + 4) (.int .i64 ((k : Int) + 1))
        have rd2 : RD n (.slice A out.length cap) ((k : Int) + 1) (W.setCell ⟨n + 4, 0, none⟩ (.int .i64 ((k : Int) + 1))) := by
          have hd := HD.out
          exact ⟨hd.r0.kept g4 (by simp), hd.r1.kept g4 (by simp), hd.r2.kept g4 (by simp), hd.ou.kept g4 (by simp), hd.nr.set _⟩
        have ho2 : Own Step.arr 5 (n + 6) 24 (W.setCell ⟨n + 4, 0, none⟩ (.int .i64 ((k : Int) + 1))) (.slice A out.length cap) out := by
          refine HO.out.kept g4 (.inr fun e => ?_)
          have := (HO.out.lt _ e).1
          omega
        have hb2 : Below n w (W.setCell ⟨n + 4, 0, none⟩ (.int .i64 ((k : Int) + 1))) := h6.setCell (p := ⟨n + 4, 0, none⟩) (by show n ≤ n + 4; omega) _
        have hkf : KeepsFrom (n + 6) W (W.setCell ⟨n + 4, 0, none⟩ (.int .i64 ((k : Int) + 1))) := (KeepsOthers.setCell _ _ _).from _
        have hBs2 : (W.setCell ⟨n + 4, 0, none⟩ (.int .i64 ((k : Int) + 1))).heap[n + 5]? = W.heap[n + 5]? := g4.block _ (by omega) (by simp)
        gi_wp2
        obtain ⟨W2, hW2⟩ : ∃ W2, W2 = W.setCell ⟨n + 4, 0, none⟩ (.int .i64 ((k : Int) + 1)) := ⟨_, rfl⟩
        rw [← hW2] at rd2 ho2 hb2 hkf hBs2 ⊢
        clear hW2 g4 c3 c4 f4
        refine ⟨trivial, (CallsIn.inRound l (callsIn_wide.2 (hts _))).mono ?_⟩
        rintro e w' ⟨rfl, hw'⟩
        rw [hw']
        clear hw'
        have c3 := rd2.ou.cell
        have hpr := sparse_c (b :: ts) hxl W2 (he.below (by rw [← HN.out]; exact hb2))
        obtain ⟨d, ok, hsp2⟩ : ∃ d ok, T.sparse (b :: ts) = (d, ok) := ⟨_, _, rfl⟩
        rw [hsp2] at hpr
        have hz2 : n + 6 ≤ W2.heap.size := by have := hkf.size; omega
        cases ok with
        | false =>
          have HX := Lib.hid (T.readGo_bad _ (post.map T.trimNL) out k hb hf (by rw [hsp2]))
          rw [show T.perr false = 10 from rfl] at hpr
          gi_wp2_with (first | (refine ⟨trivial, ?_⟩; gi_at_call 13; refine (CallsIn.inRound l (callsIn_wide.2 hpr)).mono ?_; rintro e w3 ⟨rfl, hb3⟩) | (refine wpListIn_store_new rfl _ _ _ rfl _ (Step.arr d) _ _ rfl rfl rfl rfl rfl (Step.one _) ?_))
          obtain ⟨W5, hW5⟩ : ∃ W5, W5 = w3.alloc (.cells (Step.arr d) 24) := ⟨_, rfl⟩
          have hb5 : Below W2.heap.size W2 W5 := by rw [hW5]; exact hb3.alloc hb3.size _
          have hx5 : rowAt W5 w3.heap.size 0 5 = some (Step.arr d) := by rw [hW5]; exact rowAt_new _ _ _ _ _ rfl
          have rd5 := rd2.below hb5
          have ho5 := ho2.below hb5
          have hbn5 : Below n w W5 := hb2.trans (hb5.mono (by omega))
          have hkf5 : KeepsFrom (n + 6) W W5 := hkf.trans ⟨hb5.size, fun q o _ hq _ => (hb5.block q (Array.getElem?_eq_some_iff.1 hq).1).trans hq⟩
          have hBs5 : W5.heap[n + 5]? = W.heap[n + 5]? := (hb5.block _ (by omega)).trans hBs2
          have hz56 : n + 6 ≤ W5.heap.size := by have := hb5.size; omega
          rw [← hW5]
          clear hW5 hb3 hpr rd2 ho2 hb2 hkf hBs2 c3 hb5
          have hrx := rx_end s w n HN.out (RI s w n (n + 6) (pre ++ [x])) ((k : Int) + 1) 10 W W5 rd5.r0 rd5.r1 rd5.r2 hbn5 hkf5 (HR.out.symm.trans HX.out)
          have s4 := rd5.nr.cell
          have c0 := rd5.r0.cell
          have f0 := rd5.r0.frozen
          have c1 := rd5.r1.cell
          have f1 := rd5.r1.frozen
          have c2 := rd5.r2.cell
          have f2 := rd5.r2.frozen
          clear rd5 ho5 hbn5 hkf5 hBs5
          refine wpIn_region_P 4 [2, 3, 4] [0, 1, 2, 3, 4] (fun X => X.cell? ⟨n + 4, 0, none⟩ = some (.int .i64 ((k : Int) + 1))) (by kernel_rfl) (by kernel_rfl) (by kernel_rfl) (by kernel_rfl) (by decide) (by simp only [ordOps, List.map_cons, List.map_nil, List.getElem?_cons_succ, List.getElem?_cons_zero, Option.getD_some]; repeat (first | exact trivial | refine ⟨.inl rfl, ?_⟩ | refine ⟨.inr fun _ _ _ _ h => h, ?_⟩)) ?_ ?_
          rotate_left; simp only [ordOps, List.map_cons, List.map_nil, List.getElem?_cons_succ, List.getElem?_cons_zero, Option.getD_some]; rotate_left
          · exact s4
          repeat ((first | (refine wpP_q (by rfl) (by rfl) ?_ ?_ ?_; rotate_left; focus (rintro W hX; have s0 := hX; go_simp; try (with_reducible rfl); done)) | refine wpP_skip (by rfl) (by rfl) ?_); try simp only [Act.put, List.setIfInBounds_toArray, List.set_cons_succ, List.set_cons_zero])
          refine wpP_a (by rfl) (by rfl) fun K hK => ?_
          go_simp
          refine hK _ _ (fun _ => by simpa [go_sem] using s4) ?_; clear hK K; try simp only [Act.put, List.setIfInBounds_toArray, List.set_cons_succ, List.set_cons_zero]
          refine wpP_a (by rfl) (by rfl) fun K hK => ?_
          go_simp
          refine hK _ _ (fun _ => by simpa [go_sem] using s4) ?_; clear hK K; try simp only [Act.put, List.setIfInBounds_toArray, List.set_cons_succ, List.set_cons_zero]
          refine wpP_a (by rfl) (by rfl) fun K hK => ?_
          go_simp
          refine hK _ _ (fun h => absurd h (by omega)) ?_; clear hK K; try simp only [Act.put, List.setIfInBounds_toArray, List.set_cons_succ, List.set_cons_zero]
          refine wpP_nil ?_
          rw [noOut_normal]
          gi_wp2
          exact hrx _
        | true =>
          have HX := Lib.hid (T.readGo_one _ (post.map T.trimNL) out k hb hf (by rw [hsp2]))
          rw [show T.perr true = 0 from rfl] at hpr
          gi_upto_region 13 with (first | (refine ⟨trivial, ?_⟩; gi_at_call 13; refine (CallsIn.inRound l (callsIn_wide.2 hpr)).mono ?_; rintro e w3 ⟨rfl, hb3⟩) | (refine wpListIn_store_new rfl _ _ _ rfl _ (Step.arr d) _ _ rfl rfl rfl rfl rfl (Step.one _) ?_))
          obtain ⟨W5, hW5⟩ : ∃ W5, W5 = w3.alloc (.cells (Step.arr d) 24) := ⟨_, rfl⟩
          have hb5 : Below W2.heap.size W2 W5 := by rw [hW5]; exact hb3.alloc hb3.size _
          have hx5 : rowAt W5 w3.heap.size 0 5 = some (Step.arr d) := by rw [hW5]; exact rowAt_new _ _ _ _ _ rfl
          have rd5 := rd2.below hb5
          have ho5 := ho2.below hb5
          have hbn5 : Below n w W5 := hb2.trans (hb5.mono (by omega))
          have hkf5 : KeepsFrom (n + 6) W W5 := hkf.trans ⟨hb5.size, fun q o _ hq _ => (hb5.block q (Array.getElem?_eq_some_iff.1 hq).1).trans hq⟩
          have hBs5 : W5.heap[n + 5]? = W.heap[n + 5]? := (hb5.block _ (by omega)).trans hBs2
          have hz56 : n + 6 ≤ W5.heap.size := by have := hb5.size; omega
          rw [← hW5]
          clear hW5 hb3 hpr rd2 ho2 hb2 hkf hBs2 c3 hb5
          have c3 := rd5.ou.cell
          have f3 := rd5.ou.frozen
          have HB := Lib.hid rd5
          have hz5 := rd5.nr.lt
          clear rd5
          refine wpIn_list_W (by kernel_rfl) ?_
          have p5 : rowAt (W5.alloc (.cells (Step.arr d) 24)) W5.heap.size 0 5 = some (Step.arr d) := rowAt_new _ _ _ _ _ rfl
          go_wp2_with (first | (refine wpList_load_at_v 24 _ rfl rfl _ (0) 5 rfl _ _ hx5 rfl rfl rfl ?_) | (refine wpList_slice1 rfl _ 24 _ rfl (Step.arr d) 5 40 Tryd.underlying35 (by kernel_rfl) (by decide) rfl rfl (W5.heap.size) (by simp) ?_) | (at_builtin; refine wpList_append1 Step.arr 5 rfl _ _ _ rfl (n + 6) 24 40 Tryd.underlying35 (by kernel_rfl) (by decide) _ out d rfl (ho5.alloc _) (W5.heap.size) rfl p5 (Step.one d) (by omega) (by omega) (by simp <;> omega) ?_; intro v' w' hown' hgr' hbel'; obtain ⟨A2, m2, cap2, rfl⟩ := hown'.shape; have hap := Boxed.appended HB.out.ou (by decide) (ho5.lower (b := n) (by omega)) (by omega) (by omega) (hown'.lower (b := n) (by omega)) hgr'; have c3' := hap.1.cell; have f3' := hap.1.frozen))
          rw [noOut_normal]
          obtain ⟨q1, q2, q3, q4, q5⟩ := hap
          have g3 := grownBy_setCell' w' (n + 3) (.slice A2 m2 cap2)
          have hblk : ∀ j, (Value.slice A out.length cap).ownBlock = some j → n + 6 ≤ j := fun j e => (ho5.lt j e).1
          have hblk2 : ∀ j, (Value.slice A2 m2 cap2).ownBlock = some j → n + 6 ≤ j := fun j e => (hown'.lt j e).1
          have hkp : ∀ j, j < n + 6 → j ≠ n + 3 → (w'.setCell ⟨n + 3, 0, none⟩ (.slice A2 m2 cap2)).heap[j]? = W5.heap[j]? := by
            intro j hj hj3
            have hlt : j < W5.heap.size := by omega
            rw [g3.block j (by have := hbel'.size; simp at this; omega) (by simp; omega), hbel'.block j hj]
            exact Below.heap_alloc _ _ _ hlt
          have hrx : linePost (n + 5) (n + 6) (RI s w n (n + 6) (pre ++ [x])) (RX s w n) W Exit.normal { tmps := #[], defers := [] } (w'.setCell ⟨n + 3, 0, none⟩ (.slice A2 m2 cap2)) := by
            refine ⟨hkf5.trans (q4.from _), (hkp (n + 5) (by omega) (by omega)).trans hBs5, post, out ++ [d], _, by rw [hsp]; simp, ?_, by simp; omega, ⟨(hkp n (by omega) (by omega)).trans HB.out.r0, (hkp _ (by omega) (by omega)).trans HB.out.r1, (hkp _ (by omega) (by omega)).trans HB.out.r2, q2, ?_⟩, ?_, hbn5.trans q5⟩
            · rw [List.length_append, ← HK.out]
              have hx2 := HX.out
              rw [hsp2] at hx2
              exact hx2.symm.trans HR.out
            · rw [List.length_append, ← HK.out]
              exact (hkp _ (by omega) (by omega)).trans HB.out.nr
            · exact hown'.kept g3 (.inr fun e => by have := hblk2 _ e; omega)
          exact hrx
  case done =>
    rintro D W hD ⟨post, out, v, h1, h2, h3, h4, h5, h6⟩ hK
    obtain rfl : post = [] := by
      have := congrArg List.length h1
      simp at this
      exact this
    have hout : T.read s = (out, 0, 0) := h2.symm
    have c3 := h4.ou.cell
    have f3 := h4.ou.frozen
    have c0 := h4.r0.cell
    have f0 := h4.r0.frozen
    have c1 := h4.r1.cell
    have f1 := h4.r1.frozen
    have c2 := h4.r2.cell
    have f2 := h4.r2.frozen
    obtain ⟨A, m, cap, rfl⟩ := h5.shape
    gi_wp2
    have g0 := grownBy_setCell' W n (.slice A m cap)
    have g1 := grownBy_setCell' (W.setCell ⟨n, 0, none⟩ (.slice A m cap)) (n + 1) (.int .i64 0)
    have g2 := grownBy_setCell' ((W.setCell ⟨n, 0, none⟩ (.slice A m cap)).setCell ⟨n + 1, 0, none⟩ (.int .i64 0)) (n + 2) (.int .i64 0)
    have hD6 : n + 6 ≤ D := by omega
    have hKs := (KeepsOthers.setCell _ ⟨n + 2, 0, none⟩ (.int .i64 0)).same D _ ((KeepsOthers.setCell _ ⟨n + 1, 0, none⟩ (.int .i64 0)).same D _ ((KeepsOthers.setCell W ⟨n, 0, none⟩ (.slice A m cap)).same D _ hK rfl) rfl) rfl
    have hblk : ∀ k, (Value.slice A m cap).ownBlock = some k → n + 6 ≤ k := fun k e => (h5.lt k e).1
    refine read_ret s w n D HN.out hD6 _ A m cap 0 0 out _ rfl rfl rfl ?_ ?_ ?_ ?_ hKs ?_ hout
    · exact ((h4.r0.set _).kept g1 (by simp)).kept g2 (by simp)
    · exact ((h4.r1.kept g0 (by simp)).set _).kept g2 (by simp)
    · exact ((h4.r2.kept g0 (by simp)).kept g1 (by simp)).set _
    · exact ((h6.setCell (p := ⟨n, 0, none⟩) (Nat.le_refl _) _).setCell (p := ⟨n + 1, 0, none⟩) (by show n ≤ n + 1; omega) _).setCell (p := ⟨n + 2, 0, none⟩) (by show n ≤ n + 2; omega) _
    · refine ((h5.kept g0 ?_).kept g1 ?_).kept g2 ?_
      all_goals exact .inr fun e => by have := hblk _ e; omega
  case stop =>
    rintro D pre x post W hD hsp ⟨k, e, h1, h2, h3, h4, h5⟩ hK
    gi_wp2
    refine read_ret s w n D HN.out (by omega) _ none 0 0 k e [] W rfl rfl rfl h2 h3 h4 h5 hK Own.nil h1
end Go.Proofs.YtpgdgboobnmjiaaDoor
