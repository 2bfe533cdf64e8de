/- Parsing a step: the program's walk. -/
import Derived.Test.YtpgdgboobnmjiaaDoorStepT
import Derived.Test.YtpgdgboobnmjiaaDoorParseC
namespace Go.Proofs.YtpgdgboobnmjiaaDoor
open Go.RowKit Go.Shelf
set_option linter.unusedVariables false
set_option linter.unusedSimpArgs false
def T.wordsB : List ByteArray := [⟨#[]⟩, ⟨#[116, 105, 99, 107]⟩, ⟨#[115, 104, 105, 102, 116]⟩, ⟨#[116, 105, 109, 101, 114]⟩, ⟨#[114, 117, 110]⟩, ⟨#[100, 101, 108, 105, 118, 101, 114]⟩, ⟨#[100, 114, 111, 112]⟩, ⟨#[116, 119, 105, 99, 101]⟩, ⟨#[104, 117, 114, 116]⟩, ⟨#[105, 115, 115, 117, 101]⟩, ⟨#[99, 97, 110, 99, 101, 108]⟩, ⟨#[99, 114, 97, 115, 104]⟩]
def T.kindOf (p : List UInt8) : Int := Lib.idxOfS T.wordsB ⟨p.toArray⟩
theorem T.kindOf_word (k : Int) (h : 1 ≤ k ∧ k ≤ 11) : T.kindOf (T.word k) = k := by
  rcases T.kinds k h with rfl | rfl | rfl | rfl | rfl | rfl | rfl | rfl | rfl | rfl | rfl <;> decide +kernel
theorem idx_bd (zs : List ByteArray) (x : ByteArray) : -1 ≤ Lib.idxOfS zs x ∧ Lib.idxOfS zs x ≤ zs.length := by
  have key : ∀ (zs : List ByteArray) (i : Nat), -1 ≤ Lib.idxFromS zs x i ∧ Lib.idxFromS zs x i ≤ ((i + zs.length : Nat) : Int) := by
    intro zs
    induction zs with
    | nil => intro i; simp only [Lib.idxFromS]; omega
    | cons z zs ih =>
      intro i
      have := ih (i + 1)
      simp only [Lib.idxFromS, List.length_cons]
      split <;> omega
  have := key zs 0
  simpa [Lib.idxOfS] using this
def T.snum (l : List UInt8) (i : Nat) : Int := match (T.parts 32 l)[i + 1]? with
  | some p => T.atoi p
  | none => 0
theorem T.snum_i64 (l : List UInt8) (i : Nat) : i64 (T.snum l i) := by
  unfold T.snum
  split
  · exact T.atoi_i64 _
  · unfold i64; omega
def T.head (l : List UInt8) : List UInt8 := (T.parts 32 l).headD []
def T.rawStep (l : List UInt8) : Step := ⟨T.kindOf (T.head l), T.snum l 0, T.snum l 1, T.snum l 2, T.snum l 3⟩
def T.zeroS : Step := ⟨0, 0, 0, 0, 0⟩
def T.sparse (l : List UInt8) : Step × Bool := if T.stepRight (T.rawStep l) = true ∧ T.stepText (T.rawStep l) = l then (T.rawStep l, true) else (T.zeroS, false)
theorem T.kindOf_i64 (p : List UInt8) : i64 (T.kindOf p) := by
  have := idx_bd T.wordsB ⟨p.toArray⟩
  have h12 : T.wordsB.length = 12 := rfl
  unfold i64 T.kindOf; omega
theorem T.rawStep_ok (l : List UInt8) : Step.ok (T.rawStep l) := ⟨T.kindOf_i64 _, T.snum_i64 l 0, T.snum_i64 l 1, T.snum_i64 l 2, T.snum_i64 l 3⟩
theorem sparse_results (tmps : Array Value) (w : World) (bR : Nat) (cs : Array Value) (b : Value) (h2 : tmps.getD 2 undef = .pointer (some ⟨bR, 0, none⟩)) (h3 : tmps.getD 3 undef = b) (hr : rowAt w bR 0 5 = some cs) :
    (results Tryd.f13 tmps).run Tryd.prog w = .ok (.tuple #[.agg cs, b]) w := by
  have hl := run_loadVar_at (P := Tryd.prog) w 24 bR 0 5 cs _ hr Tryd.underlying24 rfl (by kernel_rfl)
  have h2' : tmps[2]?.getD undef = .pointer (some ⟨bR, 0, none⟩) := by simpa using h2
  have h3' : tmps[3]?.getD undef = b := by simpa using h3
  simp [results, Tryd.results13, asAddr, h2', h3', hl]
/-- The world of a step's parse: the result, the parts. -/
structure SW (n : Nat) (ps : List (List UInt8)) (w : World) : Prop where
  res : w.heap[n]? = some (.cells #[.int .i64 0, .int .i64 0, .int .i64 0, .int .i64 0, .int .i64 0] 24 (0, 0))
  par : w.heap[n + 1]? = some (.cells (ps.map strV).toArray 9 (0, 0))
theorem SW.lt {n : Nat} {ps : List (List UInt8)} {w : World} (h : SW n ps w) : n + 1 < w.heap.size := (Array.getElem?_eq_some_iff.1 h.par).1
theorem SW.below {n : Nat} {ps : List (List UInt8)} {w w' : World} (h : SW n ps w) (hb : Below w.heap.size w w') : SW n ps w' where
  res := (hb.block _ (by have := h.lt; omega)).trans h.res
  par := (hb.block _ h.lt).trans h.par
theorem SW.set {n : Nat} {ps : List (List UInt8)} {w : World} (h : SW n ps w) (g k : Nat) (v : Value) (hg : n + 1 < g) : SW n ps (w.setCell ⟨g, k, none⟩ v) where
  res := (heap_setCell_other w ⟨g, k, none⟩ n _ (by show n ≠ g; omega)).trans h.res
  par := (heap_setCell_other w ⟨g, k, none⟩ (n + 1) _ (by show n + 1 ≠ g; omega)).trans h.par
/-- The numbers so far. -/
def NW (g : Nat) (a b c d : Int) (w : World) : Prop := w.heap[g]? = some (.cells #[.int .i64 a, .int .i64 b, .int .i64 c, .int .i64 d] 70 (0, 0))
theorem NW.below {g : Nat} {a b c d : Int} {w w' : World} (h : NW g a b c d w) (hb : Below w.heap.size w w') : NW g a b c d w' := (hb.block g (Array.getElem?_eq_some_iff.1 h).1).trans h
theorem NW.set {g : Nat} {a b c d : Int} {w : World} (h : NW g a b c d w) (k : Nat) (v a' b' c' d' : Int) (hk : (k = 0 ∧ a' = v ∧ b' = b ∧ c' = c ∧ d' = d) ∨ (k = 1 ∧ a' = a ∧ b' = v ∧ c' = c ∧ d' = d) ∨ (k = 2 ∧ a' = a ∧ b' = b ∧ c' = v ∧ d' = d) ∨ (k = 3 ∧ a' = a ∧ b' = b ∧ c' = c ∧ d' = v)) :
    NW g a' b' c' d' (w.setCell ⟨g, k, none⟩ (.int .i64 v)) := by
  have := heap_setCell_same w g k _ _ (.int .i64 v) h
  unfold NW
  rw [this]
  rcases hk with ⟨rfl, rfl, rfl, rfl, rfl⟩ | ⟨rfl, rfl, rfl, rfl, rfl⟩ | ⟨rfl, rfl, rfl, rfl, rfl⟩ | ⟨rfl, rfl, rfl, rfl, rfl⟩ <;> rfl
theorem T.snum_at (l : List UInt8) (ps : List (List UInt8)) (h : ps = T.parts 32 l) (k : Nat) (hk : k + 1 < ps.length) : T.snum l k = T.atoi ps[k + 1] := by
  subst h
  unfold T.snum
  rw [List.getElem?_eq_getElem hk]
theorem T.snum_out (l : List UInt8) (ps : List (List UInt8)) (h : ps = T.parts 32 l) (k : Nat) (hk : ¬ k + 1 < ps.length) : T.snum l k = 0 := by
  subst h
  unfold T.snum
  rw [List.getElem?_eq_none (by omega)]
theorem index_c (X : World) (g : Nat) (p : List UInt8) (W : World) (hg : ∀ j v, (X.alloc (.cells #[.string ⟨#[]⟩, .string ⟨#[116, 105, 99, 107]⟩, .string ⟨#[115, 104, 105, 102, 116]⟩, .string ⟨#[116, 105, 109, 101, 114]⟩, .string ⟨#[114, 117, 110]⟩, .string ⟨#[100, 101, 108, 105, 118, 101, 114]⟩, .string ⟨#[100, 114, 111, 112]⟩, .string ⟨#[116, 119, 105, 99, 101]⟩, .string ⟨#[104, 117, 114, 116]⟩, .string ⟨#[105, 115, 115, 117, 101]⟩, .string ⟨#[99, 97, 110, 99, 101, 108]⟩, .string ⟨#[99, 114, 97, 115, 104]⟩] 9)).cell? ⟨X.heap.size, j, none⟩ = some v → W.cell? ⟨X.heap.size, j, none⟩ = some v) (hgg : g = X.heap.size) :
    Calls Tryd.prog 40 #[.slice (some ⟨g, 0, none⟩) 12 12, strV p] W fun r w' => r = .returned (.int .i64 (T.kindOf p)) ∧ w' = W := by
  subst hgg
  have h := Tryd.slices_Index_string X.heap.size 0 12 12 T.wordsB ⟨p.toArray⟩ W (by decide) (by omega) (fun j hj => ?_)
  · exact h
  · have hj12 : j < 12 := hj
    rw [Nat.zero_add]
    refine hg j _ ?_
    rw [World.cell?_alloc_mark]
    obtain rfl | rfl | rfl | rfl | rfl | rfl | rfl | rfl | rfl | rfl | rfl | rfl : j = 0 ∨ j = 1 ∨ j = 2 ∨ j = 3 ∨ j = 4 ∨ j = 5 ∨ j = 6 ∨ j = 7 ∨ j = 8 ∨ j = 9 ∨ j = 10 ∨ j = 11 := by omega
    all_goals rfl
attribute [local go_sem] Step.sz
set_option maxRecDepth 100000 in
set_option maxHeartbeats 4000000 in
theorem sparse_c (l : List UInt8) (hl : l.length ≤ 1000000) (w : World) (he : Env w) :
    Calls Tryd.prog 13 #[strV l] w fun r w' => r = .returned (.tuple #[.agg (Step.arr (T.sparse l).1), .int .i64 (T.perr (T.sparse l).2)]) ∧ Below w.heap.size w w' := by
  obtain ⟨n, hn⟩ : ∃ n, n = w.heap.size := ⟨_, rfl⟩
  obtain ⟨ps, hps⟩ : ∃ ps, ps = T.parts 32 l := ⟨_, rfl⟩
  obtain ⟨W0, hW0⟩ : ∃ W0, W0 = w.alloc (Obj.cells #[.int .i64 0, .int .i64 0, .int .i64 0, .int .i64 0, .int .i64 0] 24) := ⟨_, rfl⟩
  have hB0 : Below w.heap.size w W0 := by rw [hW0]; exact (Below.refl _ w).alloc (Nat.le_refl _) _
  have hz0 : W0.heap.size = n + 1 := by rw [hW0, hn]; simp
  obtain ⟨W1, hW1⟩ : ∃ W1, W1 = W0.alloc (Obj.cells (ps.map strV).toArray 9) := ⟨_, rfl⟩
  have hB1 : Below w.heap.size w W1 := by rw [hW1]; exact hB0.alloc hB0.size _
  have hP1 : SW n ps W1 := by
    refine ⟨?_, ?_⟩
    · rw [hW1, Below.heap_alloc _ _ _ (by omega), hW0, hn]; exact heap_alloc_new _ _
    · rw [hW1, ← hz0]; exact heap_alloc_new _ _
  have hsp := split_c 32 l (by omega) W0 (he.below hB0)
  rw [← hps, hz0, ← hW1] at hsp
  have hpl : ps.length ≤ 1000001 := by rw [hps, T.parts_len]; have := List.count_le_length (a := (32 : UInt8)) (l := l); omega
  have hp1 : 1 ≤ ps.length := by rw [hps, T.parts_len]; omega
  have HN := Lib.hid hn
  have HS := Lib.hid hps
  have HW0 := Lib.hid hW0
  have hz1 : W1.heap.size = n + 2 := by rw [hW1]; simp; omega
  have HZ1 := Lib.hid hz1
  clear hn hps hW0 hW1 hz0 hB0 hz1
  have hpar0 : W1.cell? ⟨n + 1, 0, none⟩ = some (strV (T.head l)) := by
    rw [(cell_of hP1.par 0).1, T.head, ← HS.out]
    cases hq : ps with
    | nil => rw [hq] at hp1; simp at hp1
    | cons q qs => simp
  have he1 := he.below hB1
  go_enter Tryd.func13, Tryd.ntmps13
  go_upto_region 1 with (fail)
  rw [← HW0.out, ← HN.out]
  go_upto_region 2 with (go_at_call 39; (with_reducible refine hsp.mono ?_); rintro r w3 ⟨rfl, hw3⟩; rw [hw3]; clear hw3)
  have hn1 : n + 1 < W1.heap.size := hP1.lt
  have hps0 : 0 < ps.length := by omega
  refine wp_region_P 5 [0, 4, 5] [1, 2, 3, 0, 4, 5] (fun X => Below W1.heap.size W1 X) (by kernel_rfl) (by kernel_rfl) (by kernel_rfl) (by decide) (by simp only [ordOps, List.map_cons, List.map_nil, List.getElem?_cons_succ, List.getElem?_cons_zero, Option.getD_some]; repeat (first | exact trivial | refine ⟨.inl rfl, ?_⟩ | refine ⟨.inr fun _ _ _ _ h => h, ?_⟩)) ?_ ?_
  rotate_left; simp only [ordOps, List.map_cons, List.map_nil, List.getElem?_cons_succ, List.getElem?_cons_zero, Option.getD_some]; rotate_left
  · exact (Below.refl _ W1).drew
  repeat ((first | (refine wpP_q (by rfl) (by rfl) ?_ ?_ ?_; rotate_left; focus (rintro W hX; have s0 := (hX.cell (p := ⟨n + 1, 0, none⟩) hn1).trans hpar0; go_simp; try (with_reducible rfl); done)) | refine wpP_skip (by rfl) (by rfl) ?_); try simp only [Act.put, List.setIfInBounds_toArray, List.set_cons_succ, List.set_cons_zero])
  refine wpP_a (by rfl) (by rfl) fun K hK => ?_
  go_simp
  refine (words_c _).mono ?_
  rintro r w4 ⟨rfl, hw4⟩
  have hb4 : Below W1.heap.size W1 w4 := by rw [hw4]; exact (Below.refl _ W1).drew.alloc (Nat.le_refl _) _
  have hix := index_c W1.drew W1.heap.size (T.head l) w4 (fun j v h => by rw [hw4]; exact h) rfl
  clear hw4
  refine hK _ _ (fun _ => hb4) ?_; clear hK K; try simp only [Act.put, List.setIfInBounds_toArray, List.set_cons_succ, List.set_cons_zero]
  refine wpP_a (by rfl) (by rfl) fun K hK => ?_
  go_simp
  refine hix.mono ?_
  rintro r w5 ⟨rfl, hw5⟩
  rw [hw5]
  clear hw5
  refine hK _ _ (fun _ => hb4) ?_; clear hK K; try simp only [Act.put, List.setIfInBounds_toArray, List.set_cons_succ, List.set_cons_zero]
  refine wpP_a (by rfl) (by rfl) fun K hK => ?_
  go_simp
  refine hK _ _ (fun h => absurd h (by omega)) ?_; clear hK K; try simp only [Act.put, List.setIfInBounds_toArray, List.set_cons_succ, List.set_cons_zero]
  refine wpP_nil ?_
  have hP4 := hP1.below hb4
  have hB4 := bthen hB1 hb4
  have he4 := he1.below hb4
  clear hix hpar0 hP1 hB1 hsp hn1
  --TAIL
  obtain ⟨kd, hkd⟩ : ∃ kd, kd = T.kindOf (T.head l) := ⟨_, rfl⟩
  rw [← hkd]
  by_cases hk1 : kd < 1
  · have HR := Lib.hid (show T.sparse l = (T.zeroS, false) by
      rw [T.sparse, if_neg]
      rintro ⟨h1, _⟩
      simp only [T.stepRight, T.stepIs, Bool.and_eq_true, decide_eq_true_eq] at h1
      have : (T.rawStep l).kind = kd := by rw [hkd]; rfl
      omega)
    have hR4 := hP4.res
    have hnn : w.heap.size ≤ n := by have := HN.out; omega
    clear hkd
    go_wp2_with (refine wpList_store_row rfl _ _ _ rfl n (Step.arr T.zeroS) rfl rfl _ _ hR4 rfl rfl (Step.one _) ?_)
    have hR5 := setRow_heap _ n _ (Step.arr T.zeroS) _ _ hR4
    exact bodyPost_ret (sparse_results _ _ n _ _ rfl rfl (rowAt_rowI hR5)) rfl ⟨by rw [HR.out]; rfl, below_setRowI hB4 hnn _⟩
  obtain ⟨g, hgg⟩ : ∃ g, g = w4.heap.size := ⟨_, rfl⟩
  obtain ⟨W5, hW5⟩ : ∃ W5, W5 = w4.alloc (Obj.cells #[.int .i64 0, .int .i64 0, .int .i64 0, .int .i64 0] 70) := ⟨_, rfl⟩
  have hb5 : Below w4.heap.size w4 W5 := by rw [hW5]; exact (Below.refl _ _).alloc (Nat.le_refl _) _
  have HN5 : Hid (NW g 0 0 0 0 W5) := Lib.hid (by rw [hW5, hgg]; exact heap_alloc_new _ _)
  have HP5 := Lib.hid (hP4.below hb5)
  have HB5 := Lib.hid (bthen hB4 hb5)
  have hng : n + 1 < g := by rw [hgg]; exact hP4.lt
  have HGG := Lib.hid hgg
  have HW5 := Lib.hid hW5
  have hps5 : 1 ≤ (ps.length : Int) := by omega
  have HKD := Lib.hid hkd
  clear hkd
  clear hgg hW5 hb5 hP4 hB4 he4
  by_cases h5 : ps.length ≤ 5
  · obtain ⟨q, hq⟩ : ∃ q : Nat, ps.length = q + 1 := ⟨ps.length - 1, by omega⟩
    have hlt4 : ¬ (4 : Int) < (q : Int) := by omega
    have hle4 : (q : Int) ≤ 4 := by omega
    go_wp2
    rw [← HW5.out, ← HGG.out]
    go_loopw [23] (fun i wr => ∃ k : Nat, k ≤ q ∧ i = .int .i64 (k : Int) ∧ SW n ps wr ∧ NW g (if 0 < k then T.snum l 0 else 0) (if 1 < k then T.snum l 1 else 0) (if 2 < k then T.snum l 2 else 0) (if 3 < k then T.snum l 3 else 0) wr ∧ Below w.heap.size w wr) (fun i _ => q - (intOf i).toNat)
    case atStart => exact ⟨0, Nat.zero_le _, rfl, HP5.out, HN5.out, HB5.out⟩
    case round =>
      obtain ⟨k, hk, rfl, hP, hQ, hB⟩ := hrel
      have henv := he.below hB
      by_cases hkm : k < q
      · have hlt : k + 1 < ps.length := by omega
        obtain ⟨p, hp⟩ : ∃ p, p = ps[k + 1] := ⟨_, rfl⟩
        have hpar : wr.cell? ⟨n + 1, k + 1, none⟩ = some (strV p) := by rw [(cell_of hP.par (k + 1)).1, hp]; simp [hlt]
        have hpn := T.snum_at l ps HS.out k hlt
        rw [← hp] at hpn
        have hpl2 : p.length ≤ 100000000 := by
          have hm : p ∈ T.parts 32 l := by rw [← HS.out, hp]; exact List.getElem_mem _
          have := T.parts_sub 32 l p hm
          omega
        have hat := atoi_c p hpl2 wr henv
        have HPN := Lib.hid hpn
        have HP := Lib.hid hP
        have HQ := Lib.hid hQ
        have hgz := (Array.getElem?_eq_some_iff.1 hQ).1
        clear hp hpn hpl2 henv hP hQ
        have hk3 : k = 0 ∨ k = 1 ∨ k = 2 ∨ k = 3 := by omega
        rcases hk3 with rfl | rfl | rfl | rfl
        · go_wp2_with (go_at_call 42; (with_reducible refine hat.mono ?_); rintro r w6 ⟨ev, rfl, hb6⟩; have hQ6 := HQ.out.below hb6; have hout := (cell_of hQ6 0).1; have hfr := (cell_of hQ6 0).2; have HB6 := Lib.hid hb6; have HQ6 := Lib.hid hQ6; have HP6 := Lib.hid (HP.out.below hb6); clear hb6 hQ6)
          go_roundw
          case rel => exact ⟨1, by omega, by go_num, HP6.out.set g 0 _ (by omega), HQ6.out.set 0 (T.atoi p) _ _ _ _ (.inl ⟨rfl, by simp [HPN.out], by simp [HPN.out], by simp [HPN.out], by simp [HPN.out]⟩), (bthen hB HB6.out).setCell (p := ⟨g, 0, none⟩) (by show w.heap.size ≤ g; have := HN.out; omega) _⟩
          case measure => simp [intOf] <;> omega
        · go_wp2_with (go_at_call 42; (with_reducible refine hat.mono ?_); rintro r w6 ⟨ev, rfl, hb6⟩; have hQ6 := HQ.out.below hb6; have hout := (cell_of hQ6 1).1; have hfr := (cell_of hQ6 1).2; have HB6 := Lib.hid hb6; have HQ6 := Lib.hid hQ6; have HP6 := Lib.hid (HP.out.below hb6); clear hb6 hQ6)
          go_roundw
          case rel => exact ⟨2, by omega, by go_num, HP6.out.set g 1 _ (by omega), HQ6.out.set 1 (T.atoi p) _ _ _ _ (.inr (.inl ⟨rfl, by simp [HPN.out], by simp [HPN.out], by simp [HPN.out], by simp [HPN.out]⟩)), (bthen hB HB6.out).setCell (p := ⟨g, 1, none⟩) (by show w.heap.size ≤ g; have := HN.out; omega) _⟩
          case measure => simp [intOf] <;> omega
        · go_wp2_with (go_at_call 42; (with_reducible refine hat.mono ?_); rintro r w6 ⟨ev, rfl, hb6⟩; have hQ6 := HQ.out.below hb6; have hout := (cell_of hQ6 2).1; have hfr := (cell_of hQ6 2).2; have HB6 := Lib.hid hb6; have HQ6 := Lib.hid hQ6; have HP6 := Lib.hid (HP.out.below hb6); clear hb6 hQ6)
          go_roundw
          case rel => exact ⟨3, by omega, by go_num, HP6.out.set g 2 _ (by omega), HQ6.out.set 2 (T.atoi p) _ _ _ _ (.inr (.inr (.inl ⟨rfl, by simp [HPN.out], by simp [HPN.out], by simp [HPN.out], by simp [HPN.out]⟩))), (bthen hB HB6.out).setCell (p := ⟨g, 2, none⟩) (by show w.heap.size ≤ g; have := HN.out; omega) _⟩
          case measure => simp [intOf] <;> omega
        · go_wp2_with (go_at_call 42; (with_reducible refine hat.mono ?_); rintro r w6 ⟨ev, rfl, hb6⟩; have hQ6 := HQ.out.below hb6; have hout := (cell_of hQ6 3).1; have hfr := (cell_of hQ6 3).2; have HB6 := Lib.hid hb6; have HQ6 := Lib.hid hQ6; have HP6 := Lib.hid (HP.out.below hb6); clear hb6 hQ6)
          go_roundw
          case rel => exact ⟨4, by omega, by go_num, HP6.out.set g 3 _ (by omega), HQ6.out.set 3 (T.atoi p) _ _ _ _ (.inr (.inr (.inr ⟨rfl, by simp [HPN.out], by simp [HPN.out], by simp [HPN.out], by simp [HPN.out]⟩))), (bthen hB HB6.out).setCell (p := ⟨g, 3, none⟩) (by show w.heap.size ≤ g; have := HN.out; omega) _⟩
          case measure => simp [intOf] <;> omega
      · have hQ' : NW g (T.rawStep l).a (T.rawStep l).b (T.rawStep l).c (T.rawStep l).d wr := by
          have e : ∀ j : Nat, j < 4 → (if j < k then T.snum l j else 0) = T.snum l j := by
            intro j hj
            split
            · rfl
            · exact (T.snum_out l ps HS.out j (by omega)).symm
          rw [e 0 (by omega), e 1 (by omega), e 2 (by omega), e 3 (by omega)] at hQ
          exact hQ
        clear hQ
        obtain ⟨d, hd⟩ : ∃ d, d = T.rawStep l := ⟨_, rfl⟩
        have hkind : kd = d.kind := by rw [HKD.out, hd]; rfl
        have hdo : Step.ok d := by rw [hd]; exact T.rawStep_ok l
        have HPR := Lib.hid (show T.sparse l = if T.stepRight d = true ∧ T.stepText d = l then (d, true) else (T.zeroS, false) by rw [hd]; rfl)
        rw [← hd] at hQ'
        obtain ⟨k0, k1, k2, k3⟩ : wr.cell? ⟨g, 0, none⟩ = some (.int .i64 d.a) ∧ wr.cell? ⟨g, 1, none⟩ = some (.int .i64 d.b) ∧ wr.cell? ⟨g, 2, none⟩ = some (.int .i64 d.c) ∧ wr.cell? ⟨g, 3, none⟩ = some (.int .i64 d.d) := ⟨(cell_of hQ' 0).1, (cell_of hQ' 1).1, (cell_of hQ' 2).1, (cell_of hQ' 3).1⟩
        have HKK := Lib.hid hkind
        have HP := Lib.hid hP
        rw [hkind]
        clear hkind hd hQ' hP
        obtain ⟨W7, hW7⟩ : ∃ W7, W7 = wr.alloc (Obj.cells (Step.arr d) 24) := ⟨_, rfl⟩
        have hb7 : Below wr.heap.size wr W7 := by rw [hW7]; exact (Below.refl _ _).alloc (Nat.le_refl _) _
        have hz7 : wr.heap.size < W7.heap.size := by rw [hW7]; simp
        have r7 : rowAt W7 wr.heap.size 0 5 = some (Step.arr d) := by rw [hW7]; exact rowAt_new _ _ _ _ _ rfl
        have hri := stepRight_c d W7
        have htx := fun (X : World) (hX : Below W7.heap.size W7 X) => stepText_c d hdo X ((henv.below hb7).below hX).tab
        have HW7 := Lib.hid hW7
        have hnn : w.heap.size ≤ n := by have := HN.out; omega
        clear hW7
        rcases h0 : T.stepRight d with _ | _
        · have HR := Lib.hid (show T.sparse l = (T.zeroS, false) by rw [HPR.out, if_neg (by rw [h0]; simp)])
          rw [h0] at hri
          clear h0 HPR htx
          go_wp2_with (first | (refine wpList_build_at rfl 24 _ rfl _ ?_ (Step.arr d) (builtStep d) ?_; rfl) | (refine wpList_store_new rfl _ _ _ rfl wr.heap.size (Step.arr d) _ _ rfl rfl rfl rfl rfl (Step.one _) ?_; rw [← HW7.out]) | (refine wpList_load_at_v 24 _ rfl rfl _ (0) 5 rfl _ _ r7 rfl rfl rfl ?_) | (go_at_call 16; (with_reducible refine hri.mono ?_); rintro r w8 ⟨rfl, hb8⟩; have hb78 := bthen hb7 hb8; have hR8 := (HP.out.below hb78).res) | (refine wpList_store_row rfl _ _ _ rfl n (Step.arr T.zeroS) rfl rfl _ _ hR8 rfl rfl (Step.one _) ?_))
          have hR9 := setRow_heap _ n _ (Step.arr T.zeroS) _ _ hR8
          refine bodyPost_ret (sparse_results _ _ n _ _ rfl rfl (rowAt_rowI hR9)) rfl ⟨by rw [HR.out]; rfl, below_setRowI (bthen hB hb78) hnn _⟩
        · rw [h0] at hri
          by_cases ht : T.stepText d = l
          · have HR := Lib.hid (show T.sparse l = (d, true) by rw [HPR.out, if_pos ⟨h0, ht⟩])
            rw [ht] at htx
            clear h0 HPR ht
            go_wp2_with (first | (refine wpList_build_at rfl 24 _ rfl _ ?_ (Step.arr d) (builtStep d) ?_; rfl) | (refine wpList_store_new rfl _ _ _ rfl wr.heap.size (Step.arr d) _ _ rfl rfl rfl rfl rfl (Step.one _) ?_; rw [← HW7.out]) | (refine wpList_load_at_v 24 _ rfl rfl _ (0) 5 rfl _ _ r7 rfl rfl rfl ?_) | (go_at_call 16; (with_reducible refine hri.mono ?_); rintro r w8 ⟨rfl, hb8⟩; have r8 := (rowAt_block (hb8.block wr.heap.size hz7)).trans r7; have htx8 := htx _ hb8) | (refine wpList_load_at_v 24 _ rfl rfl _ (0) 5 rfl _ _ r8 rfl rfl rfl ?_) | (go_at_call 17; (with_reducible refine htx8.mono ?_); rintro r w9 ⟨rfl, hb9⟩; have hb79 := bthen hb7 (bthen hb8 hb9); have r9 := (rowAt_block (hb9.block wr.heap.size (Nat.lt_of_lt_of_le hz7 hb8.size))).trans r8; have hR8 := (HP.out.below hb79).res) | (refine wpList_load_at_v 24 _ rfl rfl _ (0) 5 rfl _ _ r9 rfl rfl rfl ?_) | (refine wpList_store_row rfl _ _ _ rfl n (Step.arr d) rfl rfl _ _ hR8 rfl rfl (Step.one _) ?_))
            have hR9 := setRow_heap _ n _ (Step.arr d) _ _ hR8
            refine bodyPost_ret (sparse_results _ _ n _ _ rfl rfl (rowAt_rowI hR9)) rfl ⟨by rw [HR.out]; rfl, below_setRowI (bthen hB hb79) hnn _⟩
          · have HR := Lib.hid (show T.sparse l = (T.zeroS, false) by rw [HPR.out, if_neg fun hh => ht hh.2])
            have hne : (T.stepText d == l) = false := beq_eq_false_iff_ne.2 ht
            clear h0 HPR ht
            go_wp2_with (first | (refine wpList_build_at rfl 24 _ rfl _ ?_ (Step.arr d) (builtStep d) ?_; rfl) | (refine wpList_store_new rfl _ _ _ rfl wr.heap.size (Step.arr d) _ _ rfl rfl rfl rfl rfl (Step.one _) ?_; rw [← HW7.out]) | (refine wpList_load_at_v 24 _ rfl rfl _ (0) 5 rfl _ _ r7 rfl rfl rfl ?_) | (go_at_call 16; (with_reducible refine hri.mono ?_); rintro r w8 ⟨rfl, hb8⟩; have r8 := (rowAt_block (hb8.block wr.heap.size hz7)).trans r7; have htx8 := htx _ hb8) | (refine wpList_load_at_v 24 _ rfl rfl _ (0) 5 rfl _ _ r8 rfl rfl rfl ?_) | (go_at_call 17; (with_reducible refine htx8.mono ?_); rintro r w9 ⟨rfl, hb9⟩; have hb79 := bthen hb7 (bthen hb8 hb9); have hR8 := (HP.out.below hb79).res) | (refine wpList_store_row rfl _ _ _ rfl n (Step.arr T.zeroS) rfl rfl _ _ hR8 rfl rfl (Step.one _) ?_))
            have hR9 := setRow_heap _ n _ (Step.arr T.zeroS) _ _ hR8
            refine bodyPost_ret (sparse_results _ _ n _ _ rfl rfl (rowAt_rowI hR9)) rfl ⟨by rw [HR.out]; rfl, below_setRowI (bthen hB hb79) hnn _⟩
  · have h6 : (4 : Int) < (ps.length : Int) - 1 := by omega
    have h7 : ¬ (ps.length : Int) - 1 < 4 := by omega
    have h8 : ¬ (ps.length : Int) - 1 ≤ 4 := by omega
    go_wp2
    rw [← HW5.out, ← HGG.out]
    go_loopw [23] (fun i wr => ∃ k : Nat, k ≤ 4 ∧ i = .int .i64 (k : Int) ∧ SW n ps wr ∧ NW g (if 0 < k then T.snum l 0 else 0) (if 1 < k then T.snum l 1 else 0) (if 2 < k then T.snum l 2 else 0) (if 3 < k then T.snum l 3 else 0) wr ∧ Below w.heap.size w wr) (fun i _ => 4 - (intOf i).toNat)
    case atStart => exact ⟨0, Nat.zero_le _, rfl, HP5.out, HN5.out, HB5.out⟩
    case round =>
      obtain ⟨k, hk, rfl, hP, hQ, hB⟩ := hrel
      have henv := he.below hB
      by_cases hkm : k < 4
      · have hlt : k + 1 < ps.length := by omega
        obtain ⟨p, hp⟩ : ∃ p, p = ps[k + 1] := ⟨_, rfl⟩
        have hpar : wr.cell? ⟨n + 1, k + 1, none⟩ = some (strV p) := by rw [(cell_of hP.par (k + 1)).1, hp]; simp [hlt]
        have hpn := T.snum_at l ps HS.out k hlt
        rw [← hp] at hpn
        have hpl2 : p.length ≤ 100000000 := by
          have hm : p ∈ T.parts 32 l := by rw [← HS.out, hp]; exact List.getElem_mem _
          have := T.parts_sub 32 l p hm
          omega
        have hat := atoi_c p hpl2 wr henv
        have HPN := Lib.hid hpn
        have HP := Lib.hid hP
        have HQ := Lib.hid hQ
        have hgz := (Array.getElem?_eq_some_iff.1 hQ).1
        clear hp hpn hpl2 henv hP hQ
        have hk3 : k = 0 ∨ k = 1 ∨ k = 2 ∨ k = 3 := by omega
        rcases hk3 with rfl | rfl | rfl | rfl
        · go_wp2_with (go_at_call 42; (with_reducible refine hat.mono ?_); rintro r w6 ⟨ev, rfl, hb6⟩; have hQ6 := HQ.out.below hb6; have hout := (cell_of hQ6 0).1; have hfr := (cell_of hQ6 0).2; have HB6 := Lib.hid hb6; have HQ6 := Lib.hid hQ6; have HP6 := Lib.hid (HP.out.below hb6); clear hb6 hQ6)
          go_roundw
          case rel => exact ⟨1, by omega, by go_num, HP6.out.set g 0 _ (by omega), HQ6.out.set 0 (T.atoi p) _ _ _ _ (.inl ⟨rfl, by simp [HPN.out], by simp [HPN.out], by simp [HPN.out], by simp [HPN.out]⟩), (bthen hB HB6.out).setCell (p := ⟨g, 0, none⟩) (by show w.heap.size ≤ g; have := HN.out; omega) _⟩
          case measure => simp [intOf] <;> omega
        · go_wp2_with (go_at_call 42; (with_reducible refine hat.mono ?_); rintro r w6 ⟨ev, rfl, hb6⟩; have hQ6 := HQ.out.below hb6; have hout := (cell_of hQ6 1).1; have hfr := (cell_of hQ6 1).2; have HB6 := Lib.hid hb6; have HQ6 := Lib.hid hQ6; have HP6 := Lib.hid (HP.out.below hb6); clear hb6 hQ6)
          go_roundw
          case rel => exact ⟨2, by omega, by go_num, HP6.out.set g 1 _ (by omega), HQ6.out.set 1 (T.atoi p) _ _ _ _ (.inr (.inl ⟨rfl, by simp [HPN.out], by simp [HPN.out], by simp [HPN.out], by simp [HPN.out]⟩)), (bthen hB HB6.out).setCell (p := ⟨g, 1, none⟩) (by show w.heap.size ≤ g; have := HN.out; omega) _⟩
          case measure => simp [intOf] <;> omega
        · go_wp2_with (go_at_call 42; (with_reducible refine hat.mono ?_); rintro r w6 ⟨ev, rfl, hb6⟩; have hQ6 := HQ.out.below hb6; have hout := (cell_of hQ6 2).1; have hfr := (cell_of hQ6 2).2; have HB6 := Lib.hid hb6; have HQ6 := Lib.hid hQ6; have HP6 := Lib.hid (HP.out.below hb6); clear hb6 hQ6)
          go_roundw
          case rel => exact ⟨3, by omega, by go_num, HP6.out.set g 2 _ (by omega), HQ6.out.set 2 (T.atoi p) _ _ _ _ (.inr (.inr (.inl ⟨rfl, by simp [HPN.out], by simp [HPN.out], by simp [HPN.out], by simp [HPN.out]⟩))), (bthen hB HB6.out).setCell (p := ⟨g, 2, none⟩) (by show w.heap.size ≤ g; have := HN.out; omega) _⟩
          case measure => simp [intOf] <;> omega
        · go_wp2_with (go_at_call 42; (with_reducible refine hat.mono ?_); rintro r w6 ⟨ev, rfl, hb6⟩; have hQ6 := HQ.out.below hb6; have hout := (cell_of hQ6 3).1; have hfr := (cell_of hQ6 3).2; have HB6 := Lib.hid hb6; have HQ6 := Lib.hid hQ6; have HP6 := Lib.hid (HP.out.below hb6); clear hb6 hQ6)
          go_roundw
          case rel => exact ⟨4, by omega, by go_num, HP6.out.set g 3 _ (by omega), HQ6.out.set 3 (T.atoi p) _ _ _ _ (.inr (.inr (.inr ⟨rfl, by simp [HPN.out], by simp [HPN.out], by simp [HPN.out], by simp [HPN.out]⟩))), (bthen hB HB6.out).setCell (p := ⟨g, 3, none⟩) (by show w.heap.size ≤ g; have := HN.out; omega) _⟩
          case measure => simp [intOf] <;> omega
      · have hQ' : NW g (T.rawStep l).a (T.rawStep l).b (T.rawStep l).c (T.rawStep l).d wr := by
          have e : ∀ j : Nat, j < 4 → (if j < k then T.snum l j else 0) = T.snum l j := by
            intro j hj
            split
            · rfl
            · exact (T.snum_out l ps HS.out j (by omega)).symm
          rw [e 0 (by omega), e 1 (by omega), e 2 (by omega), e 3 (by omega)] at hQ
          exact hQ
        clear hQ
        obtain ⟨d, hd⟩ : ∃ d, d = T.rawStep l := ⟨_, rfl⟩
        have hkind : kd = d.kind := by rw [HKD.out, hd]; rfl
        have hdo : Step.ok d := by rw [hd]; exact T.rawStep_ok l
        have HPR := Lib.hid (show T.sparse l = if T.stepRight d = true ∧ T.stepText d = l then (d, true) else (T.zeroS, false) by rw [hd]; rfl)
        rw [← hd] at hQ'
        obtain ⟨k0, k1, k2, k3⟩ : wr.cell? ⟨g, 0, none⟩ = some (.int .i64 d.a) ∧ wr.cell? ⟨g, 1, none⟩ = some (.int .i64 d.b) ∧ wr.cell? ⟨g, 2, none⟩ = some (.int .i64 d.c) ∧ wr.cell? ⟨g, 3, none⟩ = some (.int .i64 d.d) := ⟨(cell_of hQ' 0).1, (cell_of hQ' 1).1, (cell_of hQ' 2).1, (cell_of hQ' 3).1⟩
        have HKK := Lib.hid hkind
        have HP := Lib.hid hP
        rw [hkind]
        clear hkind hd hQ' hP
        obtain ⟨W7, hW7⟩ : ∃ W7, W7 = wr.alloc (Obj.cells (Step.arr d) 24) := ⟨_, rfl⟩
        have hb7 : Below wr.heap.size wr W7 := by rw [hW7]; exact (Below.refl _ _).alloc (Nat.le_refl _) _
        have hz7 : wr.heap.size < W7.heap.size := by rw [hW7]; simp
        have r7 : rowAt W7 wr.heap.size 0 5 = some (Step.arr d) := by rw [hW7]; exact rowAt_new _ _ _ _ _ rfl
        have hri := stepRight_c d W7
        have htx := fun (X : World) (hX : Below W7.heap.size W7 X) => stepText_c d hdo X ((henv.below hb7).below hX).tab
        have HW7 := Lib.hid hW7
        have hnn : w.heap.size ≤ n := by have := HN.out; omega
        clear hW7
        rcases h0 : T.stepRight d with _ | _
        · have HR := Lib.hid (show T.sparse l = (T.zeroS, false) by rw [HPR.out, if_neg (by rw [h0]; simp)])
          rw [h0] at hri
          clear h0 HPR htx
          go_wp2_with (first | (refine wpList_build_at rfl 24 _ rfl _ ?_ (Step.arr d) (builtStep d) ?_; rfl) | (refine wpList_store_new rfl _ _ _ rfl wr.heap.size (Step.arr d) _ _ rfl rfl rfl rfl rfl (Step.one _) ?_; rw [← HW7.out]) | (refine wpList_load_at_v 24 _ rfl rfl _ (0) 5 rfl _ _ r7 rfl rfl rfl ?_) | (go_at_call 16; (with_reducible refine hri.mono ?_); rintro r w8 ⟨rfl, hb8⟩; have hb78 := bthen hb7 hb8; have hR8 := (HP.out.below hb78).res) | (refine wpList_store_row rfl _ _ _ rfl n (Step.arr T.zeroS) rfl rfl _ _ hR8 rfl rfl (Step.one _) ?_))
          have hR9 := setRow_heap _ n _ (Step.arr T.zeroS) _ _ hR8
          refine bodyPost_ret (sparse_results _ _ n _ _ rfl rfl (rowAt_rowI hR9)) rfl ⟨by rw [HR.out]; rfl, below_setRowI (bthen hB hb78) hnn _⟩
        · rw [h0] at hri
          by_cases ht : T.stepText d = l
          · have HR := Lib.hid (show T.sparse l = (d, true) by rw [HPR.out, if_pos ⟨h0, ht⟩])
            rw [ht] at htx
            clear h0 HPR ht
            go_wp2_with (first | (refine wpList_build_at rfl 24 _ rfl _ ?_ (Step.arr d) (builtStep d) ?_; rfl) | (refine wpList_store_new rfl _ _ _ rfl wr.heap.size (Step.arr d) _ _ rfl rfl rfl rfl rfl (Step.one _) ?_; rw [← HW7.out]) | (refine wpList_load_at_v 24 _ rfl rfl _ (0) 5 rfl _ _ r7 rfl rfl rfl ?_) | (go_at_call 16; (with_reducible refine hri.mono ?_); rintro r w8 ⟨rfl, hb8⟩; have r8 := (rowAt_block (hb8.block wr.heap.size hz7)).trans r7; have htx8 := htx _ hb8) | (refine wpList_load_at_v 24 _ rfl rfl _ (0) 5 rfl _ _ r8 rfl rfl rfl ?_) | (go_at_call 17; (with_reducible refine htx8.mono ?_); rintro r w9 ⟨rfl, hb9⟩; have hb79 := bthen hb7 (bthen hb8 hb9); have r9 := (rowAt_block (hb9.block wr.heap.size (Nat.lt_of_lt_of_le hz7 hb8.size))).trans r8; have hR8 := (HP.out.below hb79).res) | (refine wpList_load_at_v 24 _ rfl rfl _ (0) 5 rfl _ _ r9 rfl rfl rfl ?_) | (refine wpList_store_row rfl _ _ _ rfl n (Step.arr d) rfl rfl _ _ hR8 rfl rfl (Step.one _) ?_))
            have hR9 := setRow_heap _ n _ (Step.arr d) _ _ hR8
            refine bodyPost_ret (sparse_results _ _ n _ _ rfl rfl (rowAt_rowI hR9)) rfl ⟨by rw [HR.out]; rfl, below_setRowI (bthen hB hb79) hnn _⟩
          · have HR := Lib.hid (show T.sparse l = (T.zeroS, false) by rw [HPR.out, if_neg fun hh => ht hh.2])
            have hne : (T.stepText d == l) = false := beq_eq_false_iff_ne.2 ht
            clear h0 HPR ht
            go_wp2_with (first | (refine wpList_build_at rfl 24 _ rfl _ ?_ (Step.arr d) (builtStep d) ?_; rfl) | (refine wpList_store_new rfl _ _ _ rfl wr.heap.size (Step.arr d) _ _ rfl rfl rfl rfl rfl (Step.one _) ?_; rw [← HW7.out]) | (refine wpList_load_at_v 24 _ rfl rfl _ (0) 5 rfl _ _ r7 rfl rfl rfl ?_) | (go_at_call 16; (with_reducible refine hri.mono ?_); rintro r w8 ⟨rfl, hb8⟩; have r8 := (rowAt_block (hb8.block wr.heap.size hz7)).trans r7; have htx8 := htx _ hb8) | (refine wpList_load_at_v 24 _ rfl rfl _ (0) 5 rfl _ _ r8 rfl rfl rfl ?_) | (go_at_call 17; (with_reducible refine htx8.mono ?_); rintro r w9 ⟨rfl, hb9⟩; have hb79 := bthen hb7 (bthen hb8 hb9); have hR8 := (HP.out.below hb79).res) | (refine wpList_store_row rfl _ _ _ rfl n (Step.arr T.zeroS) rfl rfl _ _ hR8 rfl rfl (Step.one _) ?_))
            have hR9 := setRow_heap _ n _ (Step.arr T.zeroS) _ _ hR8
            refine bodyPost_ret (sparse_results _ _ n _ _ rfl rfl (rowAt_rowI hR9)) rfl ⟨by rw [HR.out]; rfl, below_setRowI (bthen hB hb79) hnn _⟩
end Go.Proofs.YtpgdgboobnmjiaaDoor
