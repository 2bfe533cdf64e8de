/- Settings: first, words, get, set; the document's list of settings, a configuration of a list. -/
import Derived.Test.YtmpjjmilodjecaaGreatDoorMany
import Derived.Test.YtmpjjmilodjecaaGreatDoorTypes
import Derived.Test.YtmpjjmilodjecaaGreatDoorLoadV
import Derived.Test.YtmpjjmilodjecaaGreatDoorText
import Derived.Test.YtmpjjmilodjecaaGreatDoorParseC
import Derived.Test.YtmpjjmilodjecaaGreatDoorLits
import Derived.Test.YtmpjjmilodjecaaGreatDoorHeadP
import Derived.Test.YtmpjjmilodjecaaGreatDoorPV
import Derived.Test.YtmpjjmilodjecaaGreatDoorPSame
namespace Go.Proofs.YtmpjjmilodjecaaGreatDoor
open Go.RowKit Go.Shelf
set_option linter.unusedVariables false
set_option linter.unusedSimpArgs false
def Config.ints (c : Config) : List Int := [c.nodes, c.skew, c.lease, c.grain, c.least, c.hops, c.cap, c.fan, c.attempts, c.base, c.most, c.wait, c.tokens]
def Config.ofInts (l : List Int) (v : Value) : Config := ⟨l.getD 0 0, l.getD 1 0, l.getD 2 0, l.getD 3 0, l.getD 4 0, l.getD 5 0, l.getD 6 0, l.getD 7 0, l.getD 8 0, l.getD 9 0, l.getD 10 0, l.getD 11 0, l.getD 12 0, v⟩
def Config.setK (c : Config) (k : Nat) (n : Int) : Config := Config.ofInts (c.ints.set k n) c.progs
theorem Config.ints_len (c : Config) : c.ints.length = 13 := rfl
theorem Config.of_ints (c : Config) : Config.ofInts c.ints c.progs = c := rfl
theorem T.cases13 {P : Nat → Prop} (h : P 0 ∧ P 1 ∧ P 2 ∧ P 3 ∧ P 4 ∧ P 5 ∧ P 6 ∧ P 7 ∧ P 8 ∧ P 9 ∧ P 10 ∧ P 11 ∧ P 12) : ∀ k, k < 13 → P k := by
  intro k hk
  obtain ⟨h0, h1, h2, h3, h4, h5, h6, h7, h8, h9, h10, h11, h12⟩ := h
  match k, hk with
  | 0, _ => exact h0
  | 1, _ => exact h1
  | 2, _ => exact h2
  | 3, _ => exact h3
  | 4, _ => exact h4
  | 5, _ => exact h5
  | 6, _ => exact h6
  | 7, _ => exact h7
  | 8, _ => exact h8
  | 9, _ => exact h9
  | 10, _ => exact h10
  | 11, _ => exact h11
  | 12, _ => exact h12
theorem Config.set_arr (c : Config) (n : Int) : ∀ k, k < 13 → (Config.arr c).setIfInBounds k (.int .i64 n) = Config.arr (Config.setK c k n) := T.cases13 ⟨rfl, rfl, rfl, rfl, rfl, rfl, rfl, rfl, rfl, rfl, rfl, rfl, rfl⟩
theorem Config.arr_at (c : Config) : ∀ k, k < 13 → (Config.arr c)[k]? = some (.int .i64 (c.ints.getD k 0)) := T.cases13 ⟨rfl, rfl, rfl, rfl, rfl, rfl, rfl, rfl, rfl, rfl, rfl, rfl, rfl⟩
theorem Config.setK_ints (c : Config) (n : Int) : ∀ k, k < 13 → (Config.setK c k n).ints = c.ints.set k n := T.cases13 ⟨rfl, rfl, rfl, rfl, rfl, rfl, rfl, rfl, rfl, rfl, rfl, rfl, rfl⟩
theorem Config.setK_progs (c : Config) (k : Nat) (n : Int) : (Config.setK c k n).progs = c.progs := rfl
theorem Config.one (c : Config) (h : ∃ A n cap, c.progs = .slice A n cap) : (Config.arr c).all (·.oneCell') = true := by
  obtain ⟨A, n, cap, h⟩ := h
  simp [Config.arr, h, Value.oneCell']
def T.firstC : Config := ⟨1, 0, 1000, 0, 1, 4, 8, 4, 1, 10, 100, 500, 10, .slice none 0 0⟩
def T.words29 : List (List UInt8) := [[110, 111, 100, 101, 115], [115, 107, 101, 119], [108, 101, 97, 115, 101], [103, 114, 97, 105, 110], [108, 101, 97, 115, 116], [104, 111, 112, 115], [99, 97, 112], [102, 97, 110], [97, 116, 116, 101, 109, 112, 116, 115], [98, 97, 115, 101], [109, 111, 115, 116], [119, 97, 105, 116], [116, 111, 107, 101, 110, 115]]
abbrev words29V : Array Value := #[.string ⟨#[110, 111, 100, 101, 115]⟩, .string ⟨#[115, 107, 101, 119]⟩, .string ⟨#[108, 101, 97, 115, 101]⟩, .string ⟨#[103, 114, 97, 105, 110]⟩, .string ⟨#[108, 101, 97, 115, 116]⟩, .string ⟨#[104, 111, 112, 115]⟩, .string ⟨#[99, 97, 112]⟩, .string ⟨#[102, 97, 110]⟩, .string ⟨#[97, 116, 116, 101, 109, 112, 116, 115]⟩, .string ⟨#[98, 97, 115, 101]⟩, .string ⟨#[109, 111, 115, 116]⟩, .string ⟨#[119, 97, 105, 116]⟩, .string ⟨#[116, 111, 107, 101, 110, 115]⟩]
theorem words29_at : ∀ k, k < 13 → words29V[k]? = some (strV (T.words29.getD k [])) := T.cases13 ⟨rfl, rfl, rfl, rfl, rfl, rfl, rfl, rfl, rfl, rfl, rfl, rfl, rfl⟩
abbrev placesV (b : Nat) : Array Value := #[.pointer (some ⟨b, 0, none⟩), .pointer (some ⟨b, 1, none⟩), .pointer (some ⟨b, 2, none⟩), .pointer (some ⟨b, 3, none⟩), .pointer (some ⟨b, 4, none⟩), .pointer (some ⟨b, 5, none⟩), .pointer (some ⟨b, 6, none⟩), .pointer (some ⟨b, 7, none⟩), .pointer (some ⟨b, 8, none⟩), .pointer (some ⟨b, 9, none⟩), .pointer (some ⟨b, 10, none⟩), .pointer (some ⟨b, 11, none⟩), .pointer (some ⟨b, 12, none⟩)]
theorem places_at (b : Nat) : ∀ k, k < 13 → (placesV b)[k]? = some (.pointer (some ⟨b, k, none⟩)) := T.cases13 ⟨rfl, rfl, rfl, rfl, rfl, rfl, rfl, rfl, rfl, rfl, rfl, rfl, rfl⟩
abbrev intsV (c : Config) : Array Value := #[.int .i64 c.nodes, .int .i64 c.skew, .int .i64 c.lease, .int .i64 c.grain, .int .i64 c.least, .int .i64 c.hops, .int .i64 c.cap, .int .i64 c.fan, .int .i64 c.attempts, .int .i64 c.base, .int .i64 c.most, .int .i64 c.wait, .int .i64 c.tokens]
theorem Own.ints13 (w : World) (base : Nat) (hb : base ≤ w.heap.size) (c : Config) : Own intArr 1 base 3 (w.alloc (.cells (intsV c) 3)) (.slice (some ⟨w.heap.size, 0, none⟩) 13 13) c.ints := by
  have := World.ownsRow_lit (base := base) (e := 3) (size := 1) w (intsV c) 13 hb (by unfold maxLen; omega) rfl
  exact this
theorem first_results (tmps : Array Value) (w : World) (bR : Nat) (cs : Array Value) (h2 : tmps.getD 0 undef = .pointer (some ⟨bR, 0, none⟩)) (hr : rowAt w bR 0 14 = some cs) :
    (results Tryz.f19 tmps).run Tryz.prog w = .ok (.agg cs) w := by
  have hl := run_loadVar_at (P := Tryz.prog) w 29 bR 0 14 cs _ hr Tryz.underlying29 rfl (by kernel_rfl)
  have h2' : tmps[0]?.getD undef = .pointer (some ⟨bR, 0, none⟩) := by simpa using h2
  simp [results, Tryz.f19, asAddr, h2', hl]
theorem builtFirst : Tryz.prog.built 29 [(0, .int .i64 1), (2, .int .i64 1000), (4, .int .i64 1), (5, .int .i64 4), (6, .int .i64 8), (7, .int .i64 4), (8, .int .i64 1), (9, .int .i64 10), (10, .int .i64 100), (11, .int .i64 500), (12, .int .i64 10)] = some (Config.arr T.firstC) := by kernel_rfl
abbrev zeroCV : Array Value := #[.int .i64 0, .int .i64 0, .int .i64 0, .int .i64 0, .int .i64 0, .int .i64 0, .int .i64 0, .int .i64 0, .int .i64 0, .int .i64 0, .int .i64 0, .int .i64 0, .int .i64 0, .slice none 0 0]
set_option maxRecDepth 100000 in
theorem first_c (w : World) : Calls Tryz.prog 19 #[] w fun r w' => r = .returned (.agg (Config.arr T.firstC)) ∧ Below w.heap.size w w' := by
  go_enter Tryz.func19, Tryz.ntmps19
  go_upto_region 1 with (fail)
  obtain ⟨W0, hW0⟩ : ∃ W0, W0 = w.alloc (Obj.cells zeroCV 29) := ⟨_, rfl⟩
  have hB0 : Below w.heap.size w W0 := by rw [hW0]; exact (Below.refl _ w).alloc (Nat.le_refl _) _
  have hres : W0.heap[w.heap.size]? = some (.cells zeroCV 29 (0, 0)) := by rw [hW0]; exact heap_alloc_new _ _
  rw [← hW0]
  clear hW0
  go_wp2_with (first | (refine wpList_build_w (by rfl) _ _ rfl _ ?_ _ builtFirst ?_; rfl) | (refine wpList_store_row rfl _ _ _ rfl w.heap.size (Config.arr T.firstC) rfl rfl _ _ hres rfl rfl (Config.one _ ⟨_, _, _, rfl⟩) ?_))
  have hR9 := setRow_heap _ _ _ (Config.arr T.firstC) _ _ hres
  exact bodyPost_ret (first_results _ _ _ _ rfl (rowAt_rowI hR9)) rfl ⟨rfl, below_setRowI hB0 (Nat.le_refl _) _⟩
set_option maxRecDepth 100000 in
theorem words_c (w : World) : Calls Tryz.prog 60 #[] w fun r w' => r = .returned (.slice (some ⟨w.heap.size, 0, none⟩) 13 13) ∧ w' = w.alloc (.cells words29V 9) := by
  go_enter Tryz.func60, Tryz.ntmps60
  go_wp2
  go_ret
  exact ⟨rfl, rfl⟩
set_option maxRecDepth 100000 in
set_option maxHeartbeats 4000000 in
theorem places_c (b : Nat) (w : World) : Calls Tryz.prog 66 #[.pointer (some ⟨b, 0, none⟩)] w fun r w' => ∃ g, r = .returned (.slice (some ⟨g, 0, none⟩) 13 13) ∧ w.heap.size ≤ g ∧ w'.heap[g]? = some (.cells (placesV b) 129 (0, 0)) ∧ Below w.heap.size w w' := by
  go_enter Tryz.func66, Tryz.ntmps66
  go_wp2
  refine wp_region_T 39 [39, 40] (fun X => X = w.drew) (by kernel_rfl) (by kernel_rfl) (by repeat (first | exact trivial | refine ⟨.inl rfl, ?_⟩ | refine ⟨.inr fun _ _ _ _ h => h, ?_⟩)) ?_ ?_
  · rfl
  repeat ((first | (refine wpT_q (by rfl) (by rfl) ?_ ?_ ?_; rotate_left; focus (rintro W hX; go_simp; try (with_reducible rfl); done)) | refine wpT_skip (by rfl) (by rfl) ?_); try simp only [Act.put, List.setIfInBounds_toArray, List.set_cons_succ, List.set_cons_zero])
  refine wpT_a (by rfl) (by rfl) fun K hK => ?_
  go_simp
  refine hK _ _ (fun h => absurd h (by omega)) ?_; clear hK K; try simp only [Act.put, List.setIfInBounds_toArray, List.set_cons_succ, List.set_cons_zero]
  refine wpT_a (by rfl) (by rfl) fun K hK => ?_
  go_simp
  refine hK _ _ (fun h => absurd h (by omega)) ?_; clear hK K; try simp only [Act.put, List.setIfInBounds_toArray, List.set_cons_succ, List.set_cons_zero]
  refine wpT_nil ?_
  go_wp2
  go_ret
  exact ⟨_, rfl, Nat.le_refl _, heap_alloc_new _ _, (Below.refl _ w).drew.alloc (Nat.le_refl _) _⟩
end Go.Proofs.YtmpjjmilodjecaaGreatDoor
namespace Go.Proofs.YtmpjjmilodjecaaGreatDoor
open Go.RowKit Go.Shelf
set_option linter.unusedVariables false
set_option linter.unusedSimpArgs false
def T.get (c : Config) (k : Int) : Int := if 0 ≤ k ∧ k < 13 then c.ints.getD k.toNat 0 else 0
def T.set (c : Config) (k n : Int) : Config := if 0 ≤ k ∧ k < 13 then Config.setK c k.toNat n else c
theorem cfg_box (w : World) (c : Config) (W0 : World) (h : W0 = w.alloc (.cells (Config.arr c) 29)) :
    Below w.heap.size w W0 ∧ W0.heap[w.heap.size]? = some (.cells (Config.arr c) 29 (0, 0)) ∧ W0.heap.size = w.heap.size + 1 := by
  subst h
  exact ⟨(Below.refl _ w).alloc (Nat.le_refl _) _, heap_alloc_new _ _, by simp⟩
set_option maxRecDepth 100000 in
set_option maxHeartbeats 4000000 in
theorem get_c (c : Config) (k : Int) (w : World) : Calls Tryz.prog 63 #[.agg (Config.arr c), .int .i64 k] w fun r w' => r = .returned (.int .i64 (T.get c k)) ∧ Below w.heap.size w w' := by
  obtain ⟨W0, hW0⟩ : ∃ W0, W0 = w.alloc (.cells (Config.arr c) 29) := ⟨_, rfl⟩
  obtain ⟨hB0, hb0, hz0⟩ := cfg_box w c W0 hW0
  have hpl := places_c w.heap.size W0
  have HW := Lib.hid hW0
  have HT := Lib.hid (show T.get c k = if 0 ≤ k ∧ k < 13 then c.ints.getD k.toNat 0 else 0 from rfl)
  clear hW0
  by_cases hk : 0 ≤ k ∧ k < 13
  · obtain ⟨kn, rfl⟩ : ∃ kn : Nat, k = (kn : Int) := ⟨k.toNat, by omega⟩
    have hk13 : kn < 13 := by omega
    rw [if_pos hk, Int.toNat_natCast] at HT
    have hkI : (kn : Int) < 13 := by omega
    clear hk
    obtain ⟨z, hz⟩ : ∃ z, z = c.ints.getD kn 0 := ⟨_, rfl⟩
    have ha := Config.arr_at c kn hk13
    rw [← hz] at HT ha
    clear hz
    go_enter Tryz.func63, Tryz.ntmps63
    go_upto_region 1 with (fail)
    rw [← HW.out]
    go_upto_region 2 with (go_at_call 66; (with_reducible refine hpl.mono ?_); rintro r w2 ⟨g, rfl, hg, hpg, hb2⟩)
    have c1 : w2.cell? ⟨g, kn, none⟩ = some (.pointer (some ⟨w.heap.size, kn, none⟩)) := (cell_of hpg kn).1.trans (places_at _ kn hk13)
    have c2 : w2.cell? ⟨w.heap.size, kn, none⟩ = some (.int .i64 z) := (cell_of ((hb2.block w.heap.size (by omega)).trans hb0) kn).1.trans ha
    clear hpg hb0 hpl ha
    go_wp2
    go_ret
    exact ⟨by rw [HT.out]; rfl, bthen hB0 hb2⟩
  · rw [if_neg hk] at HT
    by_cases hneg : k < 0
    · clear hk
      go_enter Tryz.func63, Tryz.ntmps63
      go_upto_region 1 with (fail)
      rw [← HW.out]
      go_wp2_with (go_at_call 66; (with_reducible refine hpl.mono ?_); rintro r w2 ⟨g, rfl, hg, hpg, hb2⟩)
      go_ret
      exact ⟨by rw [HT.out]; rfl, bthen hB0 hb2⟩
    · have h13 : 13 ≤ k := by omega
      clear hk
      go_enter Tryz.func63, Tryz.ntmps63
      go_upto_region 1 with (fail)
      rw [← HW.out]
      go_wp2_with (go_at_call 66; (with_reducible refine hpl.mono ?_); rintro r w2 ⟨g, rfl, hg, hpg, hb2⟩)
      go_ret
      exact ⟨by rw [HT.out]; rfl, bthen hB0 hb2⟩
theorem set_results (tmps : Array Value) (w : World) (bR : Nat) (cs : Array Value) (h2 : tmps.getD 6 undef = .pointer (some ⟨bR, 0, none⟩)) (hr : rowAt w bR 0 14 = some cs) :
    (results Tryz.f18 tmps).run Tryz.prog w = .ok (.agg cs) w := by
  have hl := run_loadVar_at (P := Tryz.prog) w 29 bR 0 14 cs _ hr Tryz.underlying29 rfl (by kernel_rfl)
  have h2' : tmps[6]?.getD undef = .pointer (some ⟨bR, 0, none⟩) := by simpa using h2
  simp [results, Tryz.f18, asAddr, h2', hl]
set_option maxRecDepth 100000 in
set_option maxHeartbeats 4000000 in
theorem set_c (c : Config) (hsh : ∃ A n cap, c.progs = .slice A n cap) (k n : Int) (w : World) : Calls Tryz.prog 18 #[.agg (Config.arr c), .int .i64 k, .int .i64 n] w fun r w' => r = .returned (.agg (Config.arr (T.set c k n))) ∧ Below w.heap.size w w' := by
  obtain ⟨W0, hW0⟩ : ∃ W0, W0 = (w.alloc (.cells (Config.arr c) 29)).alloc (.cells zeroCV 29) := ⟨_, rfl⟩
  have hB0 : Below w.heap.size w W0 := by rw [hW0]; exact ((Below.refl _ w).alloc (Nat.le_refl _) _).alloc (by simp) _
  have hb0 : W0.heap[w.heap.size]? = some (.cells (Config.arr c) 29 (0, 0)) := by rw [hW0]; exact (Below.heap_alloc _ _ _ (by simp)).trans (heap_alloc_new _ _)
  have hr0 : W0.heap[w.heap.size + 1]? = some (.cells zeroCV 29 (0, 0)) := by
    have := heap_alloc_new (w.alloc (.cells (Config.arr c) 29)) (.cells zeroCV 29)
    rw [World.size_alloc] at this
    rw [hW0]; exact this
  have hz0 : W0.heap.size = w.heap.size + 2 := by rw [hW0]; simp
  have hpl := places_c w.heap.size W0
  have HW := Lib.hid hW0
  have HT := Lib.hid (show T.set c k n = if 0 ≤ k ∧ k < 13 then Config.setK c k.toNat n else c from rfl)
  clear hW0
  by_cases hk : 0 ≤ k ∧ k < 13
  · obtain ⟨kn, rfl⟩ : ∃ kn : Nat, k = (kn : Int) := ⟨k.toNat, by omega⟩
    have hk13 : kn < 13 := by omega
    rw [if_pos hk, Int.toNat_natCast] at HT
    have hkI : (kn : Int) < 13 := by omega
    have hk0 : (0 : Int) ≤ (kn : Int) := by omega
    clear hk
    have ha := Config.arr_at c kn hk13
    have hs := Config.set_arr c n kn hk13
    go_enter Tryz.func18, Tryz.ntmps18
    go_upto_region 1 with (fail)
    rw [← HW.out]
    go_upto_region 2 with (go_at_call 66; (with_reducible refine hpl.mono ?_); rintro r w2 ⟨g, rfl, hg, hpg, hb2⟩)
    have hbw : w2.heap[w.heap.size]? = some (.cells (Config.arr c) 29 (0, 0)) := (hb2.block w.heap.size (by omega)).trans hb0
    have hrw : w2.heap[w.heap.size + 1]? = some (.cells zeroCV 29 (0, 0)) := (hb2.block _ (by omega)).trans hr0
    have c1 : w2.cell? ⟨g, kn, none⟩ = some (.pointer (some ⟨w.heap.size, kn, none⟩)) := (cell_of hpg kn).1.trans (places_at _ kn hk13)
    have c2 : w2.cell? ⟨w.heap.size, kn, none⟩ = some (.int .i64 (c.ints.getD kn 0)) := (cell_of hbw kn).1.trans ha
    have f2 := (cell_of hbw kn).2
    clear hpg hb0 hr0 hpl ha
    go_upto_region 4 with (fail)
    have g4 := grownBy_setCell' w2 w.heap.size (.int .i64 n)
    obtain ⟨W4, hW4⟩ : ∃ W4, W4 = w2.setCell ⟨w.heap.size, kn, none⟩ (.int .i64 n) := ⟨_, rfl⟩
    have hB2 := bthen hB0 hb2
    have hB4 : Below w.heap.size w W4 := by rw [hW4]; exact hB2.setCell (p := ⟨w.heap.size, kn, none⟩) (Nat.le_refl _) _
    have hb4 : W4.heap[w.heap.size]? = some (.cells (Config.arr (Config.setK c kn n)) 29 (0, 0)) := by
      rw [hW4, ← hs]; exact heap_setCell_same w2 w.heap.size kn _ _ _ hbw
    have hr4 : W4.heap[w.heap.size + 1]? = some (.cells zeroCV 29 (0, 0)) := by
      rw [hW4]; exact (heap_setCell_other _ _ _ _ (by simp)).trans hrw
    rw [← hW4]
    have r4 : rowAt W4 w.heap.size 0 14 = some (Config.arr (Config.setK c kn n)) := rowAt_rowI (cs := Config.arr (Config.setK c kn n)) hb4
    clear hW4 g4 c1 c2 f2 hbw hrw hb4 hs
    go_wp2_with (first | (refine wpList_load_at_v 29 _ rfl rfl _ (0) 14 rfl _ _ r4 rfl rfl rfl ?_) | (refine wpList_store_row rfl _ _ _ rfl (w.heap.size + 1) (Config.arr (Config.setK c kn n)) rfl rfl _ _ hr4 rfl rfl (Config.one _ hsh) ?_))
    have hR9 := setRow_heap _ _ _ (Config.arr (Config.setK c kn n)) _ _ hr4
    exact bodyPost_ret (set_results _ _ _ _ rfl (rowAt_rowI hR9)) rfl ⟨by rw [HT.out], below_setRowI hB4 (by omega) _⟩
  · rw [if_neg hk] at HT
    have fin (w2 : World) (hb2 : Below W0.heap.size W0 w2) : w2.heap[w.heap.size]? = some (.cells (Config.arr c) 29 (0, 0)) ∧ w2.heap[w.heap.size + 1]? = some (.cells zeroCV 29 (0, 0)) :=
      ⟨(hb2.block w.heap.size (by omega)).trans hb0, (hb2.block _ (by omega)).trans hr0⟩
    have ho : k < 0 ∨ 13 ≤ k := by omega
    clear hk
    rcases ho with hneg | h13
    · have hneg' : ¬ (0 : Int) ≤ k := by omega
      go_enter Tryz.func18, Tryz.ntmps18
      go_upto_region 1 with (fail)
      rw [← HW.out]
      go_upto_region 2 with (go_at_call 66; (with_reducible refine hpl.mono ?_); rintro r w2 ⟨g, rfl, hg, hpg, hb2⟩)
      obtain ⟨hbw, hr4⟩ := fin w2 hb2
      have r4 : rowAt w2 w.heap.size 0 14 = some (Config.arr c) := rowAt_rowI (cs := Config.arr c) hbw
      go_wp2_with (first | (refine wpList_load_at_v 29 _ rfl rfl _ (0) 14 rfl _ _ r4 rfl rfl rfl ?_) | (refine wpList_store_row rfl _ _ _ rfl (w.heap.size + 1) (Config.arr c) rfl rfl _ _ hr4 rfl rfl (Config.one _ hsh) ?_))
      have hR9 := setRow_heap _ _ _ (Config.arr c) _ _ hr4
      exact bodyPost_ret (set_results _ _ _ _ rfl (rowAt_rowI hR9)) rfl ⟨by rw [HT.out], below_setRowI (bthen hB0 hb2) (by omega) _⟩
    · have h13' : ¬ k < 13 := by omega
      have hneg' : (0 : Int) ≤ k := by omega
      go_enter Tryz.func18, Tryz.ntmps18
      go_upto_region 1 with (fail)
      rw [← HW.out]
      go_upto_region 2 with (go_at_call 66; (with_reducible refine hpl.mono ?_); rintro r w2 ⟨g, rfl, hg, hpg, hb2⟩)
      obtain ⟨hbw, hr4⟩ := fin w2 hb2
      have r4 : rowAt w2 w.heap.size 0 14 = some (Config.arr c) := rowAt_rowI (cs := Config.arr c) hbw
      go_wp2_with (first | (refine wpList_load_at_v 29 _ rfl rfl _ (0) 14 rfl _ _ r4 rfl rfl rfl ?_) | (refine wpList_store_row rfl _ _ _ rfl (w.heap.size + 1) (Config.arr c) rfl rfl _ _ hr4 rfl rfl (Config.one _ hsh) ?_))
      have hR9 := setRow_heap _ _ _ (Config.arr c) _ _ hr4
      exact bodyPost_ret (set_results _ _ _ _ rfl (rowAt_rowI hR9)) rfl ⟨by rw [HT.out], below_setRowI (bthen hB0 hb2) (by omega) _⟩
end Go.Proofs.YtmpjjmilodjecaaGreatDoor
namespace Go.Proofs.YtmpjjmilodjecaaGreatDoor
open Go.RowKit Go.Shelf
set_option linter.unusedVariables false
set_option linter.unusedSimpArgs false
attribute [local go_sem] Config.sz bw_cell
set_option maxRecDepth 100000 in
set_option maxHeartbeats 4000000 in
theorem rall29_c (c : Config) (w : World) : Calls Tryz.prog 74 #[.agg (Config.arr c)] w fun r w' => ∃ g, r = .returned (.slice (some ⟨g, 0, none⟩) 13 13) ∧ Own intArr 1 w.heap.size 3 w' (.slice (some ⟨g, 0, none⟩) 13 13) c.ints ∧ Below w.heap.size w w' := by
  obtain ⟨W0, hW0⟩ : ∃ W0, W0 = w.alloc (.cells (Config.arr c) 29) := ⟨_, rfl⟩
  have hB0 : Below w.heap.size w W0 := by rw [hW0]; exact (Below.refl _ w).alloc (Nat.le_refl _) _
  have hr : rowAt W0 w.heap.size 0 14 = some (Config.arr c) := by rw [hW0]; exact rowAt_new _ _ _ _ _ rfl
  have c0 : W0.cell? ⟨w.heap.size, 0, none⟩ = some (.int .i64 c.nodes) := rowAt_cell hr 0 (by omega)
  have c1 : W0.cell? ⟨w.heap.size, 1, none⟩ = some (.int .i64 c.skew) := rowAt_cell hr 1 (by omega)
  have c2 : W0.cell? ⟨w.heap.size, 2, none⟩ = some (.int .i64 c.lease) := rowAt_cell hr 2 (by omega)
  have c3 : W0.cell? ⟨w.heap.size, 3, none⟩ = some (.int .i64 c.grain) := rowAt_cell hr 3 (by omega)
  have c4 : W0.cell? ⟨w.heap.size, 4, none⟩ = some (.int .i64 c.least) := rowAt_cell hr 4 (by omega)
  have c5 : W0.cell? ⟨w.heap.size, 5, none⟩ = some (.int .i64 c.hops) := rowAt_cell hr 5 (by omega)
  have c6 : W0.cell? ⟨w.heap.size, 6, none⟩ = some (.int .i64 c.cap) := rowAt_cell hr 6 (by omega)
  have c7 : W0.cell? ⟨w.heap.size, 7, none⟩ = some (.int .i64 c.fan) := rowAt_cell hr 7 (by omega)
  have c8 : W0.cell? ⟨w.heap.size, 8, none⟩ = some (.int .i64 c.attempts) := rowAt_cell hr 8 (by omega)
  have c9 : W0.cell? ⟨w.heap.size, 9, none⟩ = some (.int .i64 c.base) := rowAt_cell hr 9 (by omega)
  have c10 : W0.cell? ⟨w.heap.size, 10, none⟩ = some (.int .i64 c.most) := rowAt_cell hr 10 (by omega)
  have c11 : W0.cell? ⟨w.heap.size, 11, none⟩ = some (.int .i64 c.wait) := rowAt_cell hr 11 (by omega)
  have c12 : W0.cell? ⟨w.heap.size, 12, none⟩ = some (.int .i64 c.tokens) := rowAt_cell hr 12 (by omega)
  have HW := Lib.hid hW0
  have HO := Lib.hid (Own.ints13 W0 w.heap.size hB0.size c)
  unfold intsV at HO
  generalize c.nodes = z0 at c0 HO
  generalize c.skew = z1 at c1 HO
  generalize c.lease = z2 at c2 HO
  generalize c.grain = z3 at c3 HO
  generalize c.least = z4 at c4 HO
  generalize c.hops = z5 at c5 HO
  generalize c.cap = z6 at c6 HO
  generalize c.fan = z7 at c7 HO
  generalize c.attempts = z8 at c8 HO
  generalize c.base = z9 at c9 HO
  generalize c.most = z10 at c10 HO
  generalize c.wait = z11 at c11 HO
  generalize c.tokens = z12 at c12 HO
  clear hW0 hr
  go_enter Tryz.func74, Tryz.ntmps74
  go_upto_region 1 with (fail)
  rw [← HW.out]
  go_wp2
  go_ret
  exact ⟨_, rfl, HO.out, hB0.alloc hB0.size _⟩
end Go.Proofs.YtmpjjmilodjecaaGreatDoor
namespace Go.Proofs.YtmpjjmilodjecaaGreatDoor
open Go.RowKit Go.Shelf
set_option linter.unusedVariables false
set_option linter.unusedSimpArgs false
theorem wp_buildC {P : Program} {o : Oper} {a : Act} {w : World} {K : Act → World → Prop} {Q : Exit → Act → World → Prop} (t : TypeId) (parts : Array (Nat × Operand)) (ho : o.op = .build t parts) (vs : List (Nat × Value)) (hv : (parts.map fun (i, x) => (i, a.eval x)).toList = vs)
    (cells : Array Value) (hf : P.built t vs = some cells) (h : K (a.put o.dst (.agg cells)) w) : o.wp P a w K Q := by
  subst hv
  exact wp_build t parts ho (by rw [hf]; rfl) (by rw [hf]; exact h)
end Go.Proofs.YtmpjjmilodjecaaGreatDoor
namespace Go.Proofs.YtmpjjmilodjecaaGreatDoor
open Go.RowKit Go.Shelf
set_option linter.unusedVariables false
set_option linter.unusedSimpArgs false
/-! Small configurations. -/
def T.small (ps : List PV) : Bool := decide (ps.length ≤ 20) && ps.all fun p => decide (p.xs.length ≤ 20)
attribute [local go_sem] Config.sz bw_cell
end Go.Proofs.YtmpjjmilodjecaaGreatDoor
namespace Go.Proofs.YtmpjjmilodjecaaGreatDoor
open Go.RowKit Go.Shelf
set_option linter.unusedVariables false
set_option linter.unusedSimpArgs false
attribute [local go_sem] Config.sz bw_cell
theorem ints_cells {w : World} {B g : Nat} {l : List Int} (hl : l.length = 13) (h : Own intArr 1 B 3 w (.slice (some ⟨g, 0, none⟩) 13 13) l) (k : Nat) (hk : k < 13) : g < w.heap.size ∧ w.cell? ⟨g, k, none⟩ = some (.int .i64 (l.getD k 0)) := by
  obtain ⟨_, _, cur, hc, h1, h2⟩ := h.at
  have hr := Own.row (arr := intArr) (sz := 1) (fun _ => rfl) h k (l.getD k 0) (by rw [List.getD_eq_getElem?_getD, List.getElem?_eq_getElem (by omega)]; rfl)
  have := rowAt_cell hr 0 (by omega)
  exact ⟨(Array.getElem?_eq_some_iff.1 hc).1, by simpa [intArr] using this⟩
set_option maxRecDepth 100000 in
set_option maxHeartbeats 4000000 in
theorem rsame29_c (a b : Config) (ps qs : List PV) (w : World) (hp : Sl PV.arr 1 w.heap.size w a.progs ps) (hpo : ∀ p ∈ ps, PV.ok w p) (hq : Sl PV.arr 1 w.heap.size w b.progs qs) (hqo : ∀ q ∈ qs, PV.ok w q)
    (hi : b.ints = a.ints) (hx : qs.map PV.xs = ps.map PV.xs) (hs : ∀ p ∈ ps, p.xs.length ≤ 1000000) :
    Calls Tryz.prog 23 #[.agg (Config.arr a), .agg (Config.arr b)] w fun r w' => r = .returned (.bool true) ∧ Below w.heap.size w w' := by
  obtain ⟨A, cap, hv, hcap, hl1, hl2⟩ := hp.view
  obtain ⟨A', cap', hv', hcap', hl1', hl2'⟩ := hq.view
  have hlen : qs.length = ps.length := by simpa using congrArg List.length hx
  obtain ⟨W1, hW1⟩ : ∃ W1, W1 = (w.alloc (.cells (Config.arr a) 29)).alloc (.cells (Config.arr b) 29) := ⟨_, rfl⟩
  have hB1 : Below w.heap.size w W1 := by rw [hW1]; exact ((Below.refl _ w).alloc (Nat.le_refl _) _).alloc (by simp) _
  have hz1 : W1.heap.size = w.heap.size + 2 := by rw [hW1]; simp
  have hra : rowAt W1 w.heap.size 0 14 = some (Config.arr a) := rowAt_rowI (cs := Config.arr a) (t := 29) (fr := (0, 0)) (by rw [hW1]; exact (Below.heap_alloc _ _ _ (by simp)).trans (heap_alloc_new _ _))
  have hrb : rowAt W1 (w.heap.size + 1) 0 14 = some (Config.arr b) := rowAt_rowI (cs := Config.arr b) (t := 29) (fr := (0, 0)) (by
    have := heap_alloc_new (w.alloc (.cells (Config.arr a) 29)) (.cells (Config.arr b) 29)
    rw [World.size_alloc] at this
    rw [hW1]; exact this)
  have ca : W1.cell? ⟨w.heap.size, 13, none⟩ = some a.progs := rowAt_cell hra 13 (by omega)
  have cb : W1.cell? ⟨w.heap.size + 1, 13, none⟩ = some b.progs := rowAt_cell hrb 13 (by omega)
  rw [hv] at ca hp
  rw [hv', hlen] at cb hq
  have hla := Config.ints_len a
  have RA := fun X : World => rall29_c a X
  have RB := fun X : World => rall29_c b X
  rw [hi] at RB
  obtain ⟨l, hl⟩ : ∃ l, l = a.ints := ⟨_, rfl⟩
  rw [← hl] at RA RB hla
  have HW := Lib.hid hW1
  have HPO := Lib.hid hpo
  have HQO := Lib.hid hqo
  have HX := Lib.hid hx
  have HS := Lib.hid hs
  have HLEN := Lib.hid hlen
  clear hW1 hv hv' hpo hqo hx hs hi hl hlen
  go_enter Tryz.func23, Tryz.ntmps23
  go_upto_region 1 with (fail)
  rw [← HW.out]
  refine wp_region_P 3 [1, 3, 4, 5] [0, 2, 1, 3, 4, 5] (fun X => Below W1.heap.size W1 X) (by kernel_rfl) (by kernel_rfl) (by kernel_rfl) (by decide) (by simp only [ordOps, List.map_cons, List.map_nil, List.getElem?_cons_succ, List.getElem?_cons_zero, Option.getD_some]; repeat (first | exact trivial | refine ⟨.inl rfl, ?_⟩ | refine ⟨.inr fun _ _ _ _ h => h, ?_⟩)) ?_ ?_
  rotate_left; simp only [ordOps, List.map_cons, List.map_nil, List.getElem?_cons_succ, List.getElem?_cons_zero, Option.getD_some]; rotate_left
  · exact (Below.refl _ W1).drew
  refine wpP_q (by rfl) (by rfl) (.agg (Config.arr a)) ?_ ?_
  · intro X hX; exact yields_load_at 29 _ rfl w.heap.size (0) 14 rfl (Config.arr a) _ Tryz.underlying29 rfl (by kernel_rfl) ((rowAt_block (hX.block w.heap.size (by omega))).trans hra)
  simp only [Act.put, List.setIfInBounds_toArray, List.set_cons_succ, List.set_cons_zero]
  refine wpP_q (by rfl) (by rfl) (.agg (Config.arr b)) ?_ ?_
  · intro X hX; exact yields_load_at 29 _ rfl (w.heap.size + 1) (0) 14 rfl (Config.arr b) _ Tryz.underlying29 rfl (by kernel_rfl) ((rowAt_block (hX.block (w.heap.size + 1) (by omega))).trans hrb)
  simp only [Act.put, List.setIfInBounds_toArray, List.set_cons_succ, List.set_cons_zero]
  refine wpP_a (by rfl) (by rfl) fun K hK => ?_
  go_simp
  refine (RA _).mono ?_
  rintro r w2 ⟨g, rfl, hown, hb2⟩
  have hX2 : Below W1.heap.size W1 w2 := (Below.refl _ W1).drew.trans hb2
  refine hK _ _ (fun _ => hX2) ?_; clear hK K; try simp only [Act.put, List.setIfInBounds_toArray, List.set_cons_succ, List.set_cons_zero]
  refine wpP_a (by rfl) (by rfl) fun K hK => ?_
  go_simp
  refine (RB _).mono ?_
  rintro r w3 ⟨g', rfl, hown', hb3⟩
  have hX3 := bthen hX2 hb3
  refine hK _ _ (fun h => absurd h (by omega)) ?_; clear hK K; try simp only [Act.put, List.setIfInBounds_toArray, List.set_cons_succ, List.set_cons_zero]
  refine wpP_a (by rfl) (by rfl) fun K hK => ?_
  go_simp
  refine hK _ _ (fun h => absurd h (by omega)) ?_; clear hK K; try simp only [Act.put, List.setIfInBounds_toArray, List.set_cons_succ, List.set_cons_zero]
  refine wpP_a (by rfl) (by rfl) fun K hK => ?_
  go_simp
  refine hK _ _ (fun h => absurd h (by omega)) ?_; clear hK K; try simp only [Act.put, List.setIfInBounds_toArray, List.set_cons_succ, List.set_cons_zero]
  refine wpP_nil ?_
  have ce (k : Nat) (hk : k < 13) := ints_cells hla (hown.below hb3) k hk
  have ce' (k : Nat) (hk : k < 13) := ints_cells hla hown' k hk
  clear RA RB hown hown'
  have hB3 := bthen hB1 hX3
  have hra3 := (hX3.cell (p := ⟨w.heap.size, 13, none⟩) (by show w.heap.size < W1.heap.size; omega)).trans ca
  have hrb3 := (hX3.cell (p := ⟨w.heap.size + 1, 13, none⟩) (by show w.heap.size + 1 < W1.heap.size; omega)).trans cb
  have hz3 := hX3.size
  have gl := (ce 0 (by omega)).1
  have gl' := (ce' 0 (by omega)).1
  clear hra hrb ca cb
  go_wp2
  go_loopw [7] (fun i wr => ∃ k : Nat, k ≤ 13 ∧ i = .int .i64 (k : Int) ∧ Below w3.heap.size w3 wr) (fun i _ => 13 - (intOf i).toNat)
  case atStart => exact ⟨0, Nat.zero_le _, rfl, Below.refl _ _⟩
  case round =>
    obtain ⟨k, hk, rfl, hB⟩ := hrel
    have hBz := hB.size
    by_cases hkl : k < 13
    · have hkI : (k : Int) < 13 := by omega
      have e1 := (hB.cell (p := ⟨g, k, none⟩) gl).trans (ce k hkl).2
      have e2 := (hB.cell (p := ⟨g', k, none⟩) gl').trans (ce' k hkl).2
      have ggl : g < wr.heap.size := by omega
      have ggl' : g' < wr.heap.size := by omega
      have hwk : IntKind.i64.wrap ((k : Int) + 1) = (k : Int) + 1 := IntWalk.i64_in _ (by omega)
      generalize l.getD k 0 = z at *
      clear ce ce'
      go_wp2
      refine wp_region_calm (by kernel_rfl) (by kernel_rfl) ?_
      repeat ((fail_if_success (with_reducible refine wpQuiet_nil ?_)); (first | go_big_quiet_skip | go_big_quiet_step (fail)))
      refine wpQuiet_nil ?_
      rintro _ ⟨⟨X, hX⟩, rfl⟩
      go_wp2
      go_roundw
      case rel => exact ⟨k + 1, by omega, by go_num, bthen hB hX⟩
      case measure => simp [intOf] <;> omega
    · have hkI : ¬ (k : Int) < 13 := by omega
      have fa := (hB.cell (p := ⟨w.heap.size, 13, none⟩) (by show w.heap.size < w3.heap.size; omega)).trans hra3
      have fb := (hB.cell (p := ⟨w.heap.size + 1, 13, none⟩) (by show w.heap.size + 1 < w3.heap.size; omega)).trans hrb3
      have hza0 : w.heap.size < wr.heap.size := by omega
      have hzb0 : w.heap.size + 1 < wr.heap.size := by omega
      clear ce ce'
      go_wp2
      go_loopw [8] (fun i wr2 => ∃ k : Nat, k ≤ ps.length ∧ i = .int .i64 (k : Int) ∧ Below wr.heap.size wr wr2) (fun i _ => ps.length - (intOf i).toNat)
      case atStart => exact ⟨0, Nat.zero_le _, rfl, Below.refl _ _⟩
      case round =>
        obtain ⟨j, hj, rfl, hB4⟩ := hrel
        have hBz4 := hB4.size
        have ga := (hB4.cell (p := ⟨w.heap.size, 13, none⟩) hza0).trans fa
        have gb := (hB4.cell (p := ⟨w.heap.size + 1, 13, none⟩) hzb0).trans fb
        have hza : w.heap.size < wr.heap.size := by omega
        have hzb : w.heap.size + 1 < wr.heap.size := by omega
        have hBt := bthen hB3 (bthen hB hB4)
        by_cases hjl : j < ps.length
        · have hjI : (j : Int) < (ps.length : Int) := by omega
          have hjl' : j < qs.length := by have := HLEN.out; omega
          have hSp := (hp.below hBt).mono hBt.size
          obtain ⟨bb, off, hA, hb, hrow, _⟩ := hSp.at hjl
          subst hA
          have hSq : Sl PV.arr 1 wr.heap.size wr (.slice A' ps.length cap') qs := (hq.below hBt).mono hBt.size
          obtain ⟨bb', off', hA', hb', hrow', _⟩ := hSq.at hjl'
          subst hA'
          have hxx : qs[j].xs = ps[j].xs := by
            have h1 := congrArg (fun l => l[j]?) HX.out
            simpa [hjl, hjl'] using h1
          obtain ⟨x, hxe⟩ : ∃ x, x = ps[j] := ⟨_, rfl⟩
          obtain ⟨y, hye⟩ : ∃ y, y = qs[j] := ⟨_, rfl⟩
          rw [← hxe, ← hye] at hxx
          rw [← hxe] at hrow
          rw [← hye] at hrow'
          have hox := PV.below (HPO.out x (by rw [hxe]; exact List.getElem_mem _)) hBt
          have hoy := PV.below (HQO.out y (by rw [hye]; exact List.getElem_mem _)) hBt
          have hxs := HS.out x (by rw [hxe]; exact List.getElem_mem _)
          obtain ⟨A2, cap2, hxv, _, _, _⟩ := hox.1.view
          obtain ⟨A3, cap3, hyv, _, _, _⟩ := hoy.1.view
          have e0 : wr.cell? ⟨bb, off + j * 1, none⟩ = some x.v := rowAt_cell hrow 0 (by omega)
          have e1 : wr.cell? ⟨bb', off' + j * 1, none⟩ = some y.v := rowAt_cell hrow' 0 (by omega)
          rw [Nat.mul_one, hxv] at e0
          rw [Nat.mul_one, hyv, hxx] at e1
          have hsm := fun (X : World) (hX : Below wr.heap.size wr X) => rsame22_c x.v y.v x.xs X (PV.below hox hX).1 (by have := (PV.below hoy hX).1; rwa [hxx] at this) hxs
          rw [hxv, hyv, hxx] at hsm
          have HSM := Lib.hid (fun X : BW wr => hsm X.1 X.2)
          have hwk : IntKind.i64.wrap ((j : Int) + 1) = (j : Int) + 1 := IntWalk.i64_in _ (by omega)
          generalize x.xs.length = xl at *
          clear hxe hye hxx hrow hrow' hox hoy hxv hyv hsm hSp hSq hxs
          go_wp2
          refine wp_region_calm (by kernel_rfl) (by kernel_rfl) ?_
          repeat ((fail_if_success (with_reducible refine wpQuiet_nil ?_)); (first | go_big_quiet_skip | go_big_quiet_step ((go_at_call 75; exact calm_of (HSM.out _)))))
          refine wpQuiet_nil ?_
          rintro _ ⟨⟨X, hX⟩, rfl⟩
          go_wp2
          go_roundw
          case rel => exact ⟨j + 1, by omega, by go_num, bthen hB4 hX⟩
          case measure => simp [intOf] <;> omega
        · have hjI : ¬ (j : Int) < (ps.length : Int) := by omega
          go_wp2
          go_ret
          exact ⟨rfl, hBt⟩
end Go.Proofs.YtmpjjmilodjecaaGreatDoor
