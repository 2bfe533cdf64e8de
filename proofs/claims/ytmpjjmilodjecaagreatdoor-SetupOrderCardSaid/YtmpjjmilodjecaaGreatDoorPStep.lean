/- Reading one step of a program: the program's walk. -/
import Derived.Test.YtmpjjmilodjecaaGreatDoorPTextW
import Derived.Test.YtmpjjmilodjecaaGreatDoorAtoi
import Derived.Test.YtmpjjmilodjecaaGreatDoorParseC
namespace Go.Proofs.YtmpjjmilodjecaaGreatDoor
open Go.RowKit Go.Shelf
set_option linter.unusedVariables false
set_option linter.unusedSimpArgs false
def T.verbsB : List ByteArray := ⟨#[]⟩ :: T.verbs.map fun l => ⟨l.toArray⟩
def T.vkind (p : List UInt8) : Int := Lib.idxOfS T.verbsB ⟨p.toArray⟩
def T.onum (l : List UInt8) (i : Nat) : Int := match (T.parts 32 l)[i + 1]? with
  | some p => T.atoi p
  | none => 0
def T.rawOp (l : List UInt8) : GoOp := ⟨max (T.vkind ((T.parts 32 l).headD [])) 0, T.onum l 0, T.onum l 1⟩
abbrev verbsV : Array Value := #[.string ⟨#[]⟩, .string ⟨#[119, 111, 114, 107]⟩, .string ⟨#[115, 112, 97, 119, 110]⟩, .string ⟨#[106, 111, 105, 110]⟩, .string ⟨#[104, 101, 97, 100]⟩, .string ⟨#[97, 110, 115, 119, 101, 114]⟩, .string ⟨#[102, 97, 105, 108]⟩, .string ⟨#[114, 101, 102, 117, 115, 101]⟩]
def VerbsAt (g : Nat) (w : World) : Prop := w.heap[g]? = some (.cells verbsV 9 (0, 0))
theorem verbsAt_new (W : World) (g : Nat) (hg : g = W.heap.size) : VerbsAt g (W.alloc (.cells verbsV 9)) := by
  subst hg; exact heap_alloc_new _ _
theorem VerbsAt.drew {g : Nat} {W : World} (h : VerbsAt g W) : VerbsAt g W.drew := h
theorem VerbsAt.alloc {g : Nat} {W : World} (h : VerbsAt g W) (o : Obj) : VerbsAt g (W.alloc o) :=
  (Below.heap_alloc W o g (Array.getElem?_eq_some_iff.1 h).1).trans h
set_option maxRecDepth 100000 in
theorem verbsV_c (w : World) : Calls Tryz.prog 67 #[] w fun r w' => r = .returned (.slice (some ⟨w.heap.size, 0, none⟩) 8 8) ∧ w.alloc (.cells verbsV 9) = w' := by
  go_enter Tryz.func67, Tryz.ntmps67
  go_wp2
  go_ret
  exact ⟨rfl, rfl⟩
theorem vidx_c (g : Nat) (p : List UInt8) (W : World) (h : VerbsAt g W) :
    Calls Tryz.prog 136 #[.slice (some ⟨g, 0, none⟩) 8 8, strV p] W fun r w' => r = .returned (.int .i64 (T.vkind p)) ∧ W = w' := by
  have hh := Tryz.slices_Index_string g 0 8 8 T.verbsB ⟨p.toArray⟩ W (by decide) (by omega) (fun j hj => ?_)
  · exact hh.mono fun r w' ⟨h1, h2⟩ => ⟨h1, h2.symm⟩
  · have hj8 : j < 8 := hj
    rw [Nat.zero_add, (cell_of h j).1]
    obtain rfl | rfl | rfl | rfl | rfl | rfl | rfl | rfl : j = 0 ∨ j = 1 ∨ j = 2 ∨ j = 3 ∨ j = 4 ∨ j = 5 ∨ j = 6 ∨ j = 7 := by omega
    all_goals rfl
def OpAt (g : Nat) (k a b : Int) (w : World) : Prop := w.heap[g]? = some (.cells #[.int .i64 k, .int .i64 a, .int .i64 b] 110 (0, 0))
theorem opAt_new (W : World) (g : Nat) (k a b : Int) (hg : g = W.heap.size) : OpAt g k a b (W.alloc (.cells #[.int .i64 k, .int .i64 a, .int .i64 b] 110)) := by
  subst hg; exact heap_alloc_new _ _
theorem OpAt.drew {g : Nat} {k a b : Int} {W : World} (h : OpAt g k a b W) : OpAt g k a b W.drew := h
theorem OpAt.alloc {g : Nat} {k a b : Int} {W : World} (h : OpAt g k a b W) (o : Obj) : OpAt g k a b (W.alloc o) :=
  (Below.heap_alloc W o g (Array.getElem?_eq_some_iff.1 h).1).trans h
theorem pstep_results (tmps : Array Value) (w : World) (bR : Nat) (cs : Array Value) (h2 : tmps.getD 2 undef = .pointer (some ⟨bR, 0, none⟩)) (hr : rowAt w bR 0 3 = some cs) :
    (results Tryz.f219 tmps).run Tryz.prog w = .ok (.agg cs) w := by
  have hl := run_loadVar_at (P := Tryz.prog) w 110 bR 0 3 cs _ hr Tryz.underlying110 rfl (by kernel_rfl)
  have h2' : tmps[2]?.getD undef = .pointer (some ⟨bR, 0, none⟩) := by simpa using h2
  simp [results, Tryz.results219, asAddr, h2', hl]
theorem T.onum_at (l : List UInt8) (ps : List (List UInt8)) (h : ps = T.parts 32 l) (k : Nat) (hk : k + 1 < ps.length) : T.onum l k = T.atoi ps[k + 1] := by
  subst h
  unfold T.onum
  rw [List.getElem?_eq_getElem hk]
theorem T.onum_out (l : List UInt8) (ps : List (List UInt8)) (h : ps = T.parts 32 l) (k : Nat) (hk : ¬ k + 1 < ps.length) : T.onum l k = 0 := by
  subst h
  unfold T.onum
  rw [List.getElem?_eq_none (by omega)]
attribute [local go_sem] GoOp.sz
set_option maxRecDepth 100000 in
set_option maxHeartbeats 8000000 in
theorem step_c (l : List UInt8) (hl : l.length ≤ 1000000) (w : World) (he : Env w) :
    Calls Tryz.prog 219 #[strV l] w fun r w' => r = .returned (.agg (GoOp.arr (T.rawOp l))) ∧ Below w.heap.size w w' := by
  obtain ⟨n, hn⟩ : ∃ n, n = w.heap.size := ⟨_, rfl⟩
  obtain ⟨ps, hps⟩ : ∃ ps, ps = T.parts 32 l := ⟨_, rfl⟩
  obtain ⟨W0, hW0⟩ : ∃ W0, W0 = w.alloc (Obj.cells #[.int .i64 0, .int .i64 0, .int .i64 0] 110) := ⟨_, rfl⟩
  have hB0 : Below w.heap.size w W0 := by rw [hW0]; exact (Below.refl _ w).alloc (Nat.le_refl _) _
  have hz0 : W0.heap.size = n + 1 := by rw [hW0, hn]; simp
  obtain ⟨W1, hW1⟩ : ∃ W1, W1 = W0.alloc (Obj.cells (ps.map strV).toArray 9) := ⟨_, rfl⟩
  have hB1 : Below w.heap.size w W1 := by rw [hW1]; exact hB0.alloc hB0.size _
  have hpar : W1.heap[n + 1]? = some (.cells (ps.map strV).toArray 9 (0, 0)) := by rw [hW1, ← hz0]; exact heap_alloc_new _ _
  have hsp := split_c 32 l (by omega) W0 (he.below hB0)
  rw [← hps, hz0, ← hW1] at hsp
  have hpl : ps.length ≤ 1000001 := by rw [hps, T.parts_len]; have := List.count_le_length (a := (32 : UInt8)) (l := l); omega
  have hp1 : 1 ≤ ps.length := by rw [hps, T.parts_len]; omega
  have hz1 : W1.heap.size = n + 2 := by rw [hW1]; simp; omega
  obtain ⟨hd, hhd⟩ : ∃ hd, hd = ps.headD [] := ⟨_, rfl⟩
  have hc0 : W1.cell? ⟨n + 1, 0, none⟩ = some (strV hd) := by
    rw [(cell_of hpar 0).1, hhd]
    cases hq : ps with
    | nil => rw [hq] at hp1; simp at hp1
    | cons q qs => simp
  have hn1 : n + 1 < W1.heap.size := by omega
  have HN := Lib.hid hn
  have HS := Lib.hid hps
  have HW0 := Lib.hid hW0
  have HZ1 := Lib.hid hz1
  have HHD := Lib.hid hhd
  have hps0 : 0 < ps.length := by omega
  have HRES := Lib.hid (show W1.heap[n]? = some (.cells #[.int .i64 0, .int .i64 0, .int .i64 0] 110 (0, 0)) by rw [hW1, Below.heap_alloc _ _ _ (by omega), hW0, hn]; exact heap_alloc_new _ _)
  have HNW := Lib.hid (show w.heap.size ≤ n by omega)
  have HPAR := Lib.hid hpar
  have HLE := Lib.hid (show ∀ p ∈ ps, p.length ≤ 1000000 from fun p hp => by have := T.parts_sub 32 l p (by rw [← hps]; exact hp); omega)
  clear hn hps hW0 hW1 hz0 hz1 hhd
  go_enter Tryz.func219, Tryz.ntmps219
  go_upto_region 1 with (fail)
  rw [← HW0.out, ← HN.out]
  go_upto_region 2 with (go_at_call 315; (with_reducible refine hsp.mono ?_); rintro r w3 ⟨rfl, hw3⟩; rw [hw3]; clear hw3)
  clear hsp hpar hpl hp1 hps0
  have hps0 : 0 < ps.length := by have := T.parts_len 32 l; rw [← HS.out] at this; omega
  refine wp_mono (Q := fun e a' w' => e = .normal ∧ ∃ g gv : Nat, a' = ⟨#[strV l, undef, .pointer (some ⟨n, 0, none⟩), .slice (some ⟨n + 1, 0, none⟩) ps.length ps.length, .pointer (some ⟨g, 0, none⟩), undef, undef, strV l, .slice (some ⟨n + 1, 0, none⟩) ps.length ps.length, .slice (some ⟨gv, 0, none⟩) 8 8, .slice (some ⟨n + 1, 0, none⟩) ps.length ps.length, .pointer (some ⟨n + 1, 0, none⟩), strV hd, .int .i64 (T.vkind hd), .int .i64 (max (T.vkind hd) 0), .agg #[.int .i64 (max (T.vkind hd) 0), .int .i64 0, .int .i64 0], undef, undef, undef, undef, undef, undef, undef, undef, undef, undef, undef, undef, undef, undef, undef, undef, undef, undef, undef, undef, undef, undef, undef, undef, undef, undef, undef], []⟩ ∧ OpAt g (max (T.vkind hd) 0) 0 0 w' ∧ Below W1.heap.size W1 w' ∧ W1.heap.size ≤ g) ?_ ?_
  · go_region_held3 (fun w' => w'.cell? ⟨n + 1, 0, none⟩ = some (strV hd)) (go_keep) ((first | (go_at_call 67; (with_reducible refine (verbsV_c _).mono ?_); rintro r w' ⟨rfl, rfl⟩) | (go_at_call 136; refine (vidx_c _ _ _ ?_).mono ?_; (first | exact (verbsAt_new _ _ (by simp)).drew | exact (VerbsAt.alloc (verbsAt_new _ _ (by simp)) _).drew | exact verbsAt_new _ _ (by simp) | exact VerbsAt.alloc (verbsAt_new _ _ (by simp)) _); rintro r w' ⟨rfl, rfl⟩)))
    all_goals refine ⟨rfl, _, _, rfl, ?_, ?_, ?_⟩
    all_goals first | exact (opAt_new _ _ _ _ _ (by simp)).drew | exact (OpAt.alloc (opAt_new _ _ _ _ _ (by simp)) _).drew | exact (((Below.refl _ W1).alloc (Nat.le_refl _) _).alloc (by simp) _).drew | omega | simp
  · rintro _ _ w4 ⟨rfl, g, gv, rfl, hop, hb4, hg⟩
    have hgl : g < w4.heap.size := (Array.getElem?_eq_some_iff.1 hop).1
    obtain ⟨W5, hW5⟩ : ∃ W5, W5 = w4.alloc (Obj.cells #[.pointer (some ⟨g, 1, none⟩), .pointer (some ⟨g, 2, none⟩)] 129) := ⟨_, rfl⟩
    have hb5 : Below w4.heap.size w4 W5 := by rw [hW5]; exact (Below.refl _ w4).alloc (Nat.le_refl _) _
    have hB5 : Below W1.heap.size W1 W5 := bthen hb4 hb5
    have p0 : W5.cell? ⟨w4.heap.size, 0, none⟩ = some (.pointer (some ⟨g, 1, none⟩)) := by rw [hW5]; exact (cell_of (heap_alloc_new _ _) 0).1
    have p1 : W5.cell? ⟨w4.heap.size, 1, none⟩ = some (.pointer (some ⟨g, 2, none⟩)) := by rw [hW5]; exact (cell_of (heap_alloc_new _ _) 1).1
    have hz5 : w4.heap.size < W5.heap.size := by rw [hW5]; simp
    have hop5 : OpAt g (max (T.vkind hd) 0) 0 0 W5 := (hb5.block g hgl).trans hop
    have HW5 := Lib.hid hW5
    have hng : n + 1 < g := by have := hg; omega
    clear hW5 hop hb5 hc0
    go_wp2
    rw [← HW5.out]
    refine wp_loop_rounds 3 ?_
    rw [rounds_succ]
    by_cases h2 : ps.length ≤ 1
    · have h2I : ¬ (1 : Int) < (ps.length : Int) := by omega
      have h2d : decide ((1 : Int) < (ps.length : Int)) = false := decide_eq_false h2I
      have h3I : ¬ (2 : Int) < (ps.length : Int) := by omega
      have h3d : decide ((2 : Int) < (ps.length : Int)) = false := decide_eq_false h3I
      go_wp2
      rw [rounds_succ]
      go_wp2
      rw [rounds_succ]
      have HX := Lib.hid (show T.rawOp l = ⟨max (T.vkind hd) 0, 0, 0⟩ by rw [T.rawOp, T.onum_out l ps HS.out 0 (by omega), T.onum_out l ps HS.out 1 (by omega), ← HS.out, ← HHD.out])
      have hres := (hB5.block n (by omega)).trans HRES.out
      have xr : rowAt W5 g 0 3 = some (GoOp.arr ⟨max (T.vkind hd) 0, 0, 0⟩) := rowAt_rowI (cs := GoOp.arr ⟨max (T.vkind hd) 0, 0, 0⟩) hop5
      clear hop5
      go_wp2_with (first | (refine wpList_load_at_v 110 _ rfl rfl _ (0) 3 rfl _ _ xr rfl rfl rfl ?_) | (refine wpList_store_row rfl _ _ _ rfl n (GoOp.arr ⟨max (T.vkind hd) 0, 0, 0⟩) rfl rfl _ _ hres rfl rfl (GoOp.one _) ?_))
      have hR9 := setRow_heap _ n _ (GoOp.arr ⟨max (T.vkind hd) 0, 0, 0⟩) _ _ hres
      exact bodyPost_ret (pstep_results _ _ n _ rfl (rowAt_rowI hR9)) rfl ⟨by rw [HX.out], below_setRowI (bthen hB1 hB5) HNW.out _⟩
    · have hl2 : 1 < ps.length := by omega
      have h2I : (1 : Int) < (ps.length : Int) := by omega
      obtain ⟨q1, hq1⟩ : ∃ q1, q1 = ps[1] := ⟨_, rfl⟩
      have hq1l : q1.length ≤ 100000000 := by have := HLE.out q1 (by rw [hq1]; exact List.getElem_mem _); omega
      have hpar5 : W5.heap[n + 1]? = some (.cells (ps.map strV).toArray 9 (0, 0)) := (hB5.block (n + 1) hn1).trans HPAR.out
      have hs1 : W5.cell? ⟨n + 1, 1, none⟩ = some (strV q1) := by rw [(cell_of hpar5 1).1, hq1]; simp [hl2]
      have hat1 := atoi_c q1 hq1l W5 (he.below (bthen hB1 hB5))
      have HA1 := Lib.hid (show T.onum l 0 = T.atoi q1 by rw [T.onum_at l ps HS.out 0 hl2, hq1])
      have hg5 : g < W5.heap.size := by omega
      clear hq1
      go_wp2_with (go_at_call 316; (with_reducible refine hat1.mono ?_); rintro r w6 ⟨ev, rfl, hb6⟩; have hop6 : OpAt g (max (T.vkind hd) 0) 0 0 w6 := (hb6.block g hg5).trans hop5; have oc1 := (cell_of hop6 1).1; have of1 := (cell_of hop6 1).2)
      obtain ⟨a1, ha1⟩ : ∃ a1, a1 = T.atoi q1 := ⟨_, rfl⟩
      rw [← ha1]
      obtain ⟨X7, hX7⟩ : ∃ X7, X7 = w6.setCell ⟨g, 1, none⟩ (.int .i64 a1) := ⟨_, rfl⟩
      have hop7 : OpAt g (max (T.vkind hd) 0) a1 0 X7 := by
        rw [hX7]
        have := heap_setCell_same w6 g 1 _ _ (.int .i64 a1) hop6
        unfold OpAt; rw [this]; rfl
      have hB7 : Below W1.heap.size W1 X7 := by rw [hX7]; exact (bthen hB5 hb6).setCell (p := ⟨g, 1, none⟩) hg _
      have hk7 : ∀ j o, j < W5.heap.size → j ≠ g → X7.cell? ⟨j, o, none⟩ = W5.cell? ⟨j, o, none⟩ := fun j o hj hne => by
        rw [hX7]
        exact cell_block ((Below.heap_setCell w6 ⟨g, 1, none⟩ _ j hne).trans (hb6.block j hj))
      have p17 := (hk7 w4.heap.size 1 hz5 (by omega)).trans p1
      have hz7 : W5.heap.size ≤ X7.heap.size := by rw [hX7]; have := hb6.size; simpa using this
      rw [← hX7]
      have HA7 := Lib.hid ha1
      have HX7 := Lib.hid hX7
      clear hat1 ha1 hX7 oc1 of1 hop6 hs1 p0 p1
      rw [rounds_succ]
      by_cases h3 : ps.length ≤ 2
      · have h3I : ¬ (2 : Int) < (ps.length : Int) := by omega
        have h3d : decide ((2 : Int) < (ps.length : Int)) = false := decide_eq_false h3I
        clear hk7
        go_wp2
        rw [rounds_succ]
        have HX := Lib.hid (show T.rawOp l = ⟨max (T.vkind hd) 0, a1, 0⟩ by rw [T.rawOp, HA1.out, ← HA7.out, T.onum_out l ps HS.out 1 (by omega), ← HS.out, ← HHD.out])
        have hres := (hB7.block n (by omega)).trans HRES.out
        have xr : rowAt X7 g 0 3 = some (GoOp.arr ⟨max (T.vkind hd) 0, a1, 0⟩) := rowAt_rowI (cs := GoOp.arr ⟨max (T.vkind hd) 0, a1, 0⟩) hop7
        clear hop7 hop5
        go_wp2_with (first | (refine wpList_load_at_v 110 _ rfl rfl _ (0) 3 rfl _ _ xr rfl rfl rfl ?_) | (refine wpList_store_row rfl _ _ _ rfl n (GoOp.arr ⟨max (T.vkind hd) 0, a1, 0⟩) rfl rfl _ _ hres rfl rfl (GoOp.one _) ?_))
        have hR9 := setRow_heap _ n _ (GoOp.arr ⟨max (T.vkind hd) 0, a1, 0⟩) _ _ hres
        exact bodyPost_ret (pstep_results _ _ n _ rfl (rowAt_rowI hR9)) rfl ⟨by rw [HX.out], below_setRowI (bthen hB1 hB7) HNW.out _⟩
      · have hl3 : 2 < ps.length := by omega
        have h3I : (2 : Int) < (ps.length : Int) := by omega
        obtain ⟨q2, hq2⟩ : ∃ q2, q2 = ps[2] := ⟨_, rfl⟩
        have hq2l : q2.length ≤ 100000000 := by have := HLE.out q2 (by rw [hq2]; exact List.getElem_mem _); omega
        have hs2 : X7.cell? ⟨n + 1, 2, none⟩ = some (strV q2) := by
          rw [hk7 (n + 1) 2 (by have := hB5.size; omega) (by omega), (cell_of hpar5 2).1, hq2]; simp [hl3]
        have hat2 := atoi_c q2 hq2l X7 (he.below (bthen hB1 hB7))
        have HA2 := Lib.hid (show T.onum l 1 = T.atoi q2 by rw [T.onum_at l ps HS.out 1 hl3, hq2])
        have hg7 : g < X7.heap.size := by omega
        clear hq2 hk7
        go_wp2_with (go_at_call 316; (with_reducible refine hat2.mono ?_); rintro r w8 ⟨ev2, rfl, hb8⟩; have hop8 : OpAt g (max (T.vkind hd) 0) a1 0 w8 := (hb8.block g hg7).trans hop7; have oc2 := (cell_of hop8 2).1; have of2 := (cell_of hop8 2).2)
        obtain ⟨a2, ha2⟩ : ∃ a2, a2 = T.atoi q2 := ⟨_, rfl⟩
        rw [← ha2]
        obtain ⟨X9, hX9⟩ : ∃ X9, X9 = w8.setCell ⟨g, 2, none⟩ (.int .i64 a2) := ⟨_, rfl⟩
        have hop9 : OpAt g (max (T.vkind hd) 0) a1 a2 X9 := by
          rw [hX9]
          have := heap_setCell_same w8 g 2 _ _ (.int .i64 a2) hop8
          unfold OpAt; rw [this]; rfl
        have hB9 : Below W1.heap.size W1 X9 := by rw [hX9]; exact (bthen hB7 hb8).setCell (p := ⟨g, 2, none⟩) hg _
        rw [← hX9]
        have HA9 := Lib.hid ha2
        clear hat2 ha2 hX9 oc2 of2 hop8 hs2
        rw [rounds_succ]
        have HX := Lib.hid (show T.rawOp l = ⟨max (T.vkind hd) 0, a1, a2⟩ by rw [T.rawOp, HA1.out, ← HA7.out, HA2.out, ← HA9.out, ← HS.out, ← HHD.out])
        have hres := (hB9.block n (by omega)).trans HRES.out
        have xr : rowAt X9 g 0 3 = some (GoOp.arr ⟨max (T.vkind hd) 0, a1, a2⟩) := rowAt_rowI (cs := GoOp.arr ⟨max (T.vkind hd) 0, a1, a2⟩) hop9
        clear hop9 hop7 hop5
        go_wp2_with (first | (refine wpList_load_at_v 110 _ rfl rfl _ (0) 3 rfl _ _ xr rfl rfl rfl ?_) | (refine wpList_store_row rfl _ _ _ rfl n (GoOp.arr ⟨max (T.vkind hd) 0, a1, a2⟩) rfl rfl _ _ hres rfl rfl (GoOp.one _) ?_))
        have hR9 := setRow_heap _ n _ (GoOp.arr ⟨max (T.vkind hd) 0, a1, a2⟩) _ _ hres
        exact bodyPost_ret (pstep_results _ _ n _ rfl (rowAt_rowI hR9)) rfl ⟨by rw [HX.out], below_setRowI (bthen hB1 hB9) HNW.out _⟩
end Go.Proofs.YtmpjjmilodjecaaGreatDoor
