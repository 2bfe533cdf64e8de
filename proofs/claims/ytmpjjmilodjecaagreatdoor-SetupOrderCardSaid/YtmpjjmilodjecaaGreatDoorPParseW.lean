/- Reading a program: the program's walk. -/
import Derived.Test.YtmpjjmilodjecaaGreatDoorPBackP
import Derived.Test.YtmpjjmilodjecaaGreatDoorPSeqW
import Derived.Test.YtmpjjmilodjecaaGreatDoorHeadP
namespace Go.Proofs.YtmpjjmilodjecaaGreatDoor
open Go.RowKit Go.Shelf
set_option linter.unusedVariables false
set_option linter.unusedSimpArgs false
theorem T.idxFrom_bd (x : ByteArray) : ∀ (zs : List ByteArray) (i : Nat), -1 ≤ Lib.idxFromS zs x i ∧ Lib.idxFromS zs x i < ((i + zs.length + 1 : Nat) : Int)
  | [], i => by simp only [Lib.idxFromS, List.length_nil]; omega
  | z :: zs, i => by
    rw [Lib.idxFromS]
    split
    · simp only [List.length_cons]; omega
    · have := T.idxFrom_bd x zs (i + 1)
      simp only [List.length_cons]; omega
theorem T.vkind_bd (p : List UInt8) : -1 ≤ T.vkind p ∧ T.vkind p < 9 := by
  have := T.idxFrom_bd ⟨p.toArray⟩ T.verbsB 0
  exact this
theorem T.psplitF_bd : ∀ (f : Nat) (s : List UInt8), (T.psplitF f s).length ≤ f + 1 ∧ ∀ p ∈ T.psplitF f s, p.length ≤ s.length
  | 0, s => by simp [T.psplitF]
  | f + 1, s => by
    rw [T.psplitF]
    split
    · simp
    · have h := T.psplitF_bd f (s.drop ((Lib.index s [59, 32]).toNat + 2))
      refine ⟨by simp only [List.length_cons]; omega, fun p hp => ?_⟩
      rcases List.mem_cons.1 hp with rfl | hp
      · rw [List.length_take]; omega
      · have := h.2 p hp
        rw [List.length_drop] at this; omega
theorem own_turnedP {α : Type} {arr : α → Array Value} {sz base : Nat} {e : TypeId} {v : Value} {xs : List α} {Bs B : Nat} (h1 : Bs < base) (h2 : base ≤ B) : Turned Bs B fun W => Own arr sz base e W v xs := by
  intro W W' row h hg hr
  refine h.kept hg ?_
  obtain ⟨_, ⟨rfl, _⟩ | ⟨g, cap, cur, rfl, hb, hgb, _⟩⟩ := h
  · exact .inl rfl
  · refine .inr fun e' => ?_
    have e'' : row = some g := by simpa [Value.ownBlock] using e'.symm
    rcases hr g e'' with rfl | ⟨_, o, ho, hc⟩
    · omega
    · rw [hgb] at ho; cases ho; cases hc
theorem own_cntG {α : Type} {arr : α → Array Value} {sz base : Nat} {e : TypeId} {w : World} {xs : List α} {A : Option Addr} {n cap : Nat} (h : Own arr sz base e w (.slice A n cap) xs) : n = xs.length := by
  rcases h.2 with ⟨hv, h0⟩ | ⟨g, cap, cur, hv, _⟩
  · injection hv with _ e2 _; omega
  · injection hv
theorem T.rawOp_ok (l : List UInt8) : GoOp.ok (T.rawOp l) := by
  have h1 : -1 ≤ T.vkind ((T.parts 32 l).headD []) ∧ T.vkind ((T.parts 32 l).headD []) < 9 := T.vkind_bd _
  have h2 (k : Nat) : i64 (T.onum l k) := by
    unfold T.onum
    split
    · exact T.atoi_i64 _
    · unfold i64; omega
  refine ⟨?_, h2 0, h2 1⟩
  show i64 (max _ 0)
  unfold i64; omega
/-- What the loop keeps. -/
def PI (s : List UInt8) (w0 : World) (n : Nat) (pre : List (List UInt8)) (W : World) : Prop :=
  ∃ v, Boxed W n 23 v ∧ Own GoOp.arr 3 (n + 4) 110 W v (pre.map T.rawOp) ∧ Below n w0 W
theorem PI.turned (s : List UInt8) (w0 : World) (n : Nat) (hn : n = w0.heap.size) (pre : List (List UInt8)) : Turned (n + 1) (n + 4) (PI s w0 n pre) := by
  rintro W W' row ⟨v, h4, h5, h6⟩ hg hr
  exact ⟨v, Turned.boxed _ _ (by omega) W W' row h4 hg hr, own_turnedP (by omega) (Nat.le_refl _) W W' row h5 hg hr, Turned.below (by omega) (by omega) (by omega) W W' row h6 hg hr⟩
def PParsePost (s : List UInt8) (n m : Int) (w : World) (r : Ending) (w' : World) : Prop :=
  ∃ v, r = .returned (.tuple #[v, .int .i64 (T.perr (T.pgood s n m))]) ∧ Own GoOp.arr 3 w.heap.size 110 w' v (if T.pgood s n m = true then T.pout s else []) ∧ Below w.heap.size w w'
theorem pparse_results (tmps : Array Value) (w : World) (v : Value) (e : Int) (h6 : tmps.getD 6 undef = v) (h7 : tmps.getD 7 undef = .int .i64 e) :
    (results Tryz.f135 tmps).run Tryz.prog w = .ok (.tuple #[v, .int .i64 e]) w := by
  have h6' : tmps[6]?.getD undef = v := by simpa using h6
  have h7' : tmps[7]?.getD undef = .int .i64 e := by simpa using h7
  simp [results, Tryz.f135, go_sem, h6', h7']
theorem pparse_ret (s : List UInt8) (n m : Int) (w : World) (b D : Nat) (hb : b = w.heap.size) (hD : b + 4 ≤ D) (tmps : Array Value) (A : Option Addr) (k cap : Nat) (e : Int) (out : List GoOp) (W : World)
    (h6 : tmps.getD 6 undef = .slice A k cap) (h7 : tmps.getD 7 undef = .int .i64 e) (hB : Below b w W) (hK : W.heap[D]? = some (.deferred (some [])))
    (ho : Own GoOp.arr 3 (b + 4) 110 W (.slice A k cap) out) (he : e = T.perr (T.pgood s n m)) (hr : out = if T.pgood s n m = true then T.pout s else []) :
    bodyPostM Fence.wide 3 Tryz.prog Tryz.f135 (PParsePost s n m w) Exit.ret { tmps := tmps, defers := [{ target := .collected D, args := #[] }] } W := by
  have g : W.grownBy (W.putObj D (.deferred none)) (some D) := grownBy_putObj' W D _
  have h6' : tmps[6]?.getD undef = .slice A k cap := by simpa using h6
  have h7' : tmps[7]?.getD undef = .int .i64 e := by simpa using h7
  refine ⟨by simp, .inl ⟨_, _, rfl, run_takeDeferred hK, ?_⟩⟩
  refine ⟨.tuple #[.slice A k cap, .int .i64 e], ?_, ⟨_, by rw [he], ?_, ?_⟩⟩
  · simp [results, Tryz.f135, go_sem, h6', h7']
  · rw [← hr, ← hb]
    refine Own.lower (base := b + 4) ?_ (by omega)
    exact own_turnedP (Bs := b + 1) (B := b + 4) (by omega) (Nat.le_refl _) W _ _ ho g (fun r e => by cases e; exact .inr ⟨hD, _, hK, rfl⟩)
  · rw [← hb]
    exact hB.grown g (by have := hB.size; omega) (fun r e => by cases e; omega)
def ppA (n : Nat) (s : List UInt8) (a b : Int) (x : List UInt8) : Act := { tmps := #[strV s, .int .i64 a, .int .i64 b, undef, undef, undef, .slice none 0 0, .int .i64 0, .pointer (some ⟨n, 0, none⟩), strV x, strV s, .bool true, strV s, .func (.func 363) #[] #[.pointer (some ⟨n + 2, 0, none⟩), .pointer (some ⟨n + 1, 0, none⟩), .pointer (some ⟨n + 3, 0, none⟩)], strV x, undef, undef, undef, undef, undef, undef, undef, undef, undef, undef, undef, undef, undef, undef, undef, undef, undef], defers := [] }
theorem pp_boxes (w : World) (s : List UInt8) (n : Nat) (hn : n = w.heap.size) (W0 : World) (hW : W0 = seqW s (w.alloc (.cells #[.slice none 0 0] 23))) :
    SeqB (n + 1) (n + 2) (n + 3) s W0 ∧ Boxed W0 n 23 (.slice none 0 0) ∧ W0.heap.size = n + 4 ∧ Below n w W0 := by
  subst hn
  have h := seqW_boxes s (w.alloc (.cells #[.slice none 0 0] 23))
  simp only [World.size_alloc] at h
  subst hW
  refine ⟨h, ?_, by simp [seqW], ?_⟩
  · exact (((Boxed.new w _ _).alloc _).alloc _).alloc _
  · exact ((((Below.refl _ w).alloc (Nat.le_refl _) _).alloc (by simp) _).alloc (by simp <;> omega) _).alloc (by simp <;> omega) _
attribute [local go_sem] GoOp.sz Oper.semAt_some
set_option maxRecDepth 100000 in
set_option maxHeartbeats 4000000 in
theorem pparse_c (s : List UInt8) (hs : s.length ≤ 9000) (a b : Int) (w : World) (he : Env w) : Calls Tryz.prog 135 #[strV s, .int .i64 a, .int .i64 b] w (PParsePost s a b w) := by
  by_cases h0 : s = []
  · subst h0
    have HG := Lib.hid (show T.pgood [] a b = true by
      unfold T.pgood
      rw [show T.pout [] = [] from rfl]
      simp [T.pright, T.progText, T.joinS])
    have hpr := fun X : World => pright_c (.slice none 0 0) [] a b X ((Own.nil : Own GoOp.arr 3 X.heap.size 110 X (.slice none 0 0) []).sl GoOp.sz) (by simp)
    rw [show T.pright [] a b = true from rfl] at hpr
    have htx := fun (X : World) (hX : Below w.heap.size w X) => ptext_c (.slice none 0 0) [] X ((Own.nil : Own GoOp.arr 3 X.heap.size 110 X (.slice none 0 0) []).sl GoOp.sz) (by simp) (by simp) (he.below hX).tab
    rw [show T.progText [] = [] from rfl] at htx
    go_enter Tryz.func135, Tryz.ntmps135
    have hB0 : Below w.heap.size w (w.alloc (.cells #[.slice none 0 0] 23)) := (Below.refl _ w).alloc (Nat.le_refl _) _
    have hbx : Boxed (w.alloc (.cells #[.slice none 0 0] 23)) w.heap.size 23 (.slice none 0 0) := Boxed.new w _ _
    have hlt := hbx.lt
    go_wp2_with (first | (go_at_call 15; (with_reducible refine (hpr _).mono ?_); rintro r W5 ⟨rfl, hb5⟩; have hb05 := bthen hB0 hb5; have bx5 := (hb5.block _ hlt).trans hbx; have c5 := Boxed.cell bx5) | (go_at_call 21; (with_reducible refine (htx _ hb05).mono ?_); rintro r W6 ⟨rfl, hb6⟩; have hlt5 := Boxed.lt bx5; have bx6 := (hb6.block _ hlt5).trans bx5; have c6 := Boxed.cell bx6))
    refine bodyPost_ret (pparse_results _ _ _ 0 rfl rfl) rfl ?_
    exact ⟨_, by rw [HG.out] <;> rfl, by rw [HG.out] <;> exact Own.nil, bthen hb05 hb6⟩
  · have hne : (s == []) = false := beq_eq_false_iff_ne.2 h0
    have hne2 : (s != []) = true := by simp [hne, bne]
    refine (callsIn_wide (n := 3)).1 ?_
    refine callsIn_of_wp_marks Tryz.func135 rfl trivial ?_ rfl
    simp only [Tryz.ntmps135, List.size_toArray, List.length_cons, List.length_nil, Nat.reduceAdd, Nat.reduceSub, Array.replicate_succ, Array.replicate_zero, List.push_toArray, List.append_toArray, List.nil_append, List.cons_append]
    gi_wp2_with (refine ⟨trivial, ?_⟩; gi_at_call 218; refine (splitSeq_in _ _ _).mono ?_; rintro e w' ⟨rfl, rfl⟩)
    obtain ⟨n, hn⟩ : ∃ n, n = w.heap.size := ⟨_, rfl⟩
    obtain ⟨W0, hW0⟩ : ∃ W0, W0 = seqW s (w.alloc (Obj.cells #[Value.slice none 0 0] 23)) := ⟨_, rfl⟩
    obtain ⟨hsq, hbx, hz0, hB0⟩ := pp_boxes w s n hn W0 hW0
    have hv : seqV (w.alloc (Obj.cells #[Value.slice none 0 0] 23)) = .func (.func 363) #[] #[.pointer (some ⟨n + 2, 0, none⟩), .pointer (some ⟨n + 1, 0, none⟩), .pointer (some ⟨n + 3, 0, none⟩)] := by
      rw [hn]; simp [seqV]
    rw [hv, ← hW0, ← hn]
    clear hv hW0
    have HN := Lib.hid hn
    have HZ := Lib.hid hz0
    have HE := Lib.hid (fun (X : World) (h : Below n w X) => he.below (by rw [← hn]; exact h))
    have hbd := T.psplitF_bd s.length s
    clear hn
    refine range_seq (Bs := n + 1) (Be := n + 2) (Bv := n + 3) rfl s (by omega) hsq (by omega) (by omega) (PI s w n) (fun _ _ => False) (by rw [hz0]; exact PI.turned s w n HN.out) (fun _ _ _ _ h _ _ => h) (fun pre W hI => by obtain ⟨_, _, _, h6⟩ := hI; exact HE.out W h6)
      ⟨.slice none 0 0, hbx, Own.nil, hB0⟩ (ppA n s a b) ?assign ?body ?done ?stop
    case assign =>
      intro l x W K hK
      gi_wp2
      exact hK
    case body =>
      intro l pre x post W hsp hI hzW
      rw [hz0] at hzW ⊢
      clear hz0
      simp only [ppA]
      obtain ⟨v, h4, h5, h6⟩ := hI
      obtain ⟨A, m, cap, rfl⟩ := h5.shape
      obtain rfl : m = (pre.map T.rawOp).length := own_cntG h5
      have hxl : x.length ≤ 9000 := Nat.le_trans (hbd.2 x (by show x ∈ T.psplit s; rw [hsp]; simp)) hs
      have hpl : (pre.map T.rawOp).length ≤ 9000 := by
        have := hbd.1
        rw [show T.psplitF s.length s = pre ++ x :: post from hsp] at this
        simp at this ⊢; omega
      obtain ⟨out, hout⟩ : ∃ out, out = pre.map T.rawOp := ⟨_, rfl⟩
      have hnext : (pre ++ [x]).map T.rawOp = out ++ [T.rawOp x] := by rw [hout]; simp
      rw [← hout] at h5 hpl h4
      have c3 := h4.cell
      have f3 := h4.frozen
      have hst := step_c x (by omega) W.drew (HE.out _ h6.drew)
      obtain ⟨d, hd⟩ : ∃ d, d = T.rawOp x := ⟨_, rfl⟩
      rw [← hd] at hst hnext
      have HNX := Lib.hid hnext
      clear hnext hd hout hsq hbx hB0
      gi_wp2
      refine wpIn_region_P 4 [2, 3, 4, 5] [0, 1, 2, 3, 4, 5] (fun X => X.cell? ⟨n, 0, none⟩ = some (.slice A out.length cap)) (by kernel_rfl) (by kernel_rfl) (by kernel_rfl) (by kernel_rfl) (by decide) (by simp only [ordOps, List.map_cons, List.map_nil, List.getElem?_cons_succ, List.getElem?_cons_zero, Option.getD_some]; repeat (first | exact trivial | refine ⟨.inl rfl, ?_⟩ | refine ⟨.inr fun _ _ _ _ h => h, ?_⟩)) ?_ ?_
      rotate_left; simp only [ordOps, List.map_cons, List.map_nil, List.getElem?_cons_succ, List.getElem?_cons_zero, Option.getD_some]; rotate_left
      · exact c3
      iterate 2 ((first | (refine wpP_q (by rfl) (by rfl) ?_ ?_ ?_; rotate_left; focus (rintro W hX; have s0 := hX; go_simp; try (with_reducible rfl); done)) | refine wpP_skip (by rfl) (by rfl) ?_); try simp only [Act.put, List.setIfInBounds_toArray, List.set_cons_succ, List.set_cons_zero])
      refine wpP_a (by rfl) (by rfl) fun K hK => ?_
      go_simp
      refine hst.mono ?_
      rintro r W4 ⟨rfl, hb4⟩
      have hnW : n < W.drew.heap.size := h4.lt
      have b4 : Boxed W4 n 23 (.slice A out.length cap) := (hb4.block n hnW).trans h4
      refine hK _ _ (fun _ => b4.cell) ?_; clear hK K; try simp only [Act.put, List.setIfInBounds_toArray, List.set_cons_succ, List.set_cons_zero]
      refine wpP_a (by rfl) (by rfl) fun K hK => ?_
      refine wp_slice1 23 110 _ rfl (GoOp.arr d) 3 24 Tryz.underlying23 (by kernel_rfl) (by decide) rfl rfl W4.heap.size rfl ?_
      refine hK _ _ (fun _ => (b4.alloc _).cell) ?_; clear hK K; try simp only [Act.put, List.setIfInBounds_toArray, List.set_cons_succ, List.set_cons_zero]
      refine wpP_a (by rfl) (by rfl) fun K hK => ?_
      have ho4 : Own GoOp.arr 3 (n + 4) 110 W4 (.slice A out.length cap) out := h5.drew.below hb4
      have p5 : rowAt (W4.alloc (.cells (GoOp.arr d) 110)) W4.heap.size 0 3 = some (GoOp.arr d) := rowAt_new _ _ _ _ _ rfl
      have hz4 : n + 4 ≤ W4.heap.size := by have := hb4.size; have e : W.drew.heap.size = W.heap.size := rfl; omega
      refine wp_append1 GoOp.arr 3 _ _ _ rfl (n + 4) 110 24 Tryz.underlying23 (by kernel_rfl) (by decide) (.slice A out.length cap) out d rfl (ho4.alloc _) W4.heap.size rfl p5 (GoOp.one _) (by omega) (by omega) (by simp; omega) ?_
      intro v' w' hown' hgr' hbel' hloc'
      obtain ⟨A2, m2, cap2, rfl⟩ := hown'.shape
      have hap := Boxed.appended b4 (by decide) (ho4.lower (b := n) (by omega)) (by omega) (by omega) (hown'.lower (b := n) (by omega)) hgr'
      have c3' := hap.1.cell
      have f3' := hap.1.frozen
      refine hK _ _ (fun h => absurd h (by omega)) ?_; clear hK K; try simp only [Act.put, List.setIfInBounds_toArray, List.set_cons_succ, List.set_cons_zero]
      refine wpP_a (by rfl) (by rfl) fun K hK => ?_
      go_simp
      refine hK _ _ (fun h => absurd h (by omega)) ?_; clear hK K; try simp only [Act.put, List.setIfInBounds_toArray, List.set_cons_succ, List.set_cons_zero]
      refine wpP_nil ?_
      rw [noOut_normal]
      obtain ⟨q1, q2, q3, q4, q5⟩ := hap
      have g3 := grownBy_setCell' w' n (.slice A2 m2 cap2)
      have hblk2 : ∀ j, (Value.slice A2 m2 cap2).ownBlock = some j → n + 4 ≤ j := fun j e => (hown'.lt j e).1
      have hkp : ∀ j, j < n + 4 → j ≠ n → (w'.setCell ⟨n, 0, none⟩ (.slice A2 m2 cap2)).heap[j]? = W.heap[j]? := by
        intro j hj hj3
        have hlt : j < W4.heap.size := by omega
        rw [g3.block j (by have := hbel'.size; simp at this; omega) (by simp; omega), hbel'.block j hj]
        exact (Below.heap_alloc _ _ _ hlt).trans (hb4.block j (by show j < W.heap.size; omega))
      refine ⟨?_, hkp _ (by omega) (by omega), hkp _ (by omega) (by omega), hkp _ (by omega) (by omega), _, q2, ?_, ?_⟩
      · have hk4 : KeepsFrom (n + 4) W W4 := ⟨hb4.size, fun q o _ hq _ => (hb4.block q (Array.getElem?_eq_some_iff.1 hq).1).trans hq⟩
        exact hk4.trans (q4.from _)
      · rw [HNX.out]
        exact hown'.kept g3 (.inr fun e => by have := hblk2 _ e; omega)
      · exact (h6.drew.trans (hb4.mono (by show n ≤ W.heap.size; omega))).trans q5
    case done =>
      rintro D W hD ⟨v, h4, h5, h6⟩ hK
      rw [show (T.psplit s).map T.rawOp = T.pout s by rw [T.pout, if_neg h0]] at h5
      obtain ⟨A, m, cap, rfl⟩ := h5.shape
      obtain rfl : m = (T.pout s).length := own_cntG h5
      have hol : (T.pout s).length ≤ 9001 := by
        have := hbd.1
        rw [T.pout, if_neg h0, List.length_map]
        show (T.psplitF s.length s).length ≤ 9001
        omega
      have hoo : ∀ o ∈ T.pout s, GoOp.ok o := by
        rw [T.pout, if_neg h0]
        intro o ho
        obtain ⟨p, _, rfl⟩ := List.mem_map.1 ho
        exact T.rawOp_ok p
      have HG := Lib.hid (show T.pgood s a b = (T.pright (T.pout s) a b && decide (T.progText (T.pout s) = s)) from rfl)
      obtain ⟨out, hout⟩ : ∃ out, out = T.pout s := ⟨_, rfl⟩
      have HO := Lib.hid hout
      rw [← hout] at h5 h4 hol hoo HG
      clear hout
      have c3 := h4.cell
      have f3 := h4.frozen
      have hnW := h4.lt
      have hSl := h5.sl GoOp.sz
      have hDW := (Array.getElem?_eq_some_iff.1 hK).1
      have hpr := pright_c (.slice A out.length cap) out a b W hSl (by omega)
      rcases hr : T.pright out a b with _ | _
      · rw [hr] at hpr
        rw [hr, Bool.false_and] at HG
        clear hr
        gi_wp2_with (first | (refine ⟨trivial, ?_⟩; gi_at_call 15; refine (callsIn_wide.2 hpr).mono ?_; rintro r W5 ⟨rfl, hb5⟩) | (refine ⟨trivial, ?_⟩))
        refine pparse_ret s a b w n D HN.out (by omega) _ none 0 0 10 [] _ rfl rfl (h6.trans (hb5.mono (by omega))) ((hb5.block D hDW).trans hK) Own.nil (by rw [HG.out] <;> rfl) (by rw [HG.out] <;> rfl)
      · rw [hr] at hpr
        rw [hr, Bool.true_and] at HG
        clear hr
        have htx := fun (X : World) (hX : Below W.heap.size W X) => ptext_c (.slice A out.length cap) out X ((hSl.below hX).mono hX.size) hoo (by omega) (HE.out X (h6.trans (hX.mono (by omega)))).tab
        rcases hq : decide (T.progText out = s) with _ | _
        · have hne3 : (T.progText out == s) = false := beq_eq_false_iff_ne.2 (by simpa using hq)
          rw [hq] at HG
          clear hq
          gi_wp2_with (first | (refine ⟨trivial, ?_⟩; gi_at_call 15; refine (callsIn_wide.2 hpr).mono ?_; rintro r W5 ⟨rfl, hb5⟩; have b5 : Boxed W5 n 23 (.slice A out.length cap) := (hb5.block n hnW).trans h4; have c5 := b5.cell) | (refine ⟨trivial, ?_⟩; gi_at_call 21; refine (callsIn_wide.2 (htx _ hb5)).mono ?_; rintro r W6 ⟨rfl, hb6⟩))
          have hb6' := bthen hb5 hb6
          refine pparse_ret s a b w n D HN.out (by omega) _ none 0 0 10 [] _ rfl rfl (h6.trans (hb6'.mono (by omega))) ((hb6'.block D hDW).trans hK) Own.nil (by rw [HG.out] <;> rfl) (by rw [HG.out] <;> rfl)
        · have heq : T.progText out = s := by simpa using hq
          rw [hq] at HG
          rw [heq] at htx
          clear hq heq
          gi_wp2_with (first | (refine ⟨trivial, ?_⟩; gi_at_call 15; refine (callsIn_wide.2 hpr).mono ?_; rintro r W5 ⟨rfl, hb5⟩; have b5 : Boxed W5 n 23 (.slice A out.length cap) := (hb5.block n hnW).trans h4; have c5 := b5.cell) | (refine ⟨trivial, ?_⟩; gi_at_call 21; refine (callsIn_wide.2 (htx _ hb5)).mono ?_; rintro r W6 ⟨rfl, hb6⟩; have hb6' := bthen hb5 hb6; have b6 : Boxed W6 n 23 (.slice A out.length cap) := (hb6'.block n hnW).trans h4; have c6 := b6.cell))
          refine pparse_ret s a b w n D HN.out (by omega) _ A out.length cap 0 out _ rfl rfl (h6.trans (hb6'.mono (by omega))) ((hb6'.block D hDW).trans hK) (h5.below hb6') (by rw [HG.out] <;> rfl) (by rw [HG.out, HO.out] <;> rfl)
    case stop =>
      rintro D pre x post W hD hsp h hK
      exact h.elim
end Go.Proofs.YtmpjjmilodjecaaGreatDoor
