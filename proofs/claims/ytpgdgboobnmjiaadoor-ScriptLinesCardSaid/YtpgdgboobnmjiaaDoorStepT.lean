/- The text of a step: the program's, the document's. -/
import Derived.Test.YtpgdgboobnmjiaaDoorStepR
import Derived.Test.YtpgdgboobnmjiaaDoorHeadP
namespace Go.Proofs.YtpgdgboobnmjiaaDoor
open Go.RowKit Go.Shelf
set_option linter.unusedVariables false
set_option linter.unusedSimpArgs false
def T.numsText (l : List Int) : List UInt8 := l.flatMap fun n => 32 :: Lib.itoa n
def T.stepText (s : Step) : List UInt8 := if T.stepIs s.kind = true then T.word s.kind ++ T.numsText (s.nums.take (T.has s.kind).toNat) else []
theorem Step.nums_ok {s : Step} (h : Step.ok s) : ∀ n ∈ s.nums, i64 n := by
  obtain ⟨_, h1, h2, h3, h4⟩ := h
  intro n hn
  simp only [Step.nums, List.mem_cons, List.mem_nil_iff, or_false] at hn
  rcases hn with rfl | rfl | rfl | rfl <;> assumption
theorem T.numsText_len (l : List Int) (h : ∀ n ∈ l, i64 n) : (T.numsText l).length ≤ 22 * l.length := by
  induction l with
  | nil => simp [T.numsText]
  | cons n l ih =>
    have h1 := T.itoa_i64 (h n List.mem_cons_self)
    have h2 := ih fun m hm => h m (List.mem_cons_of_mem _ hm)
    simp only [T.numsText, List.flatMap_cons, List.length_append, List.length_cons] at h2 ⊢
    omega
theorem T.numsText_snoc (l : List Int) (n : Int) : T.numsText (l ++ [n]) = T.numsText l ++ (32 :: Lib.itoa n) := by simp [T.numsText]
theorem Step.nums_len (s : Step) : s.nums.length = 4 := rfl
/-- The cells of the numbers. -/
theorem nums_cell {w : World} {g : Nat} {s : Step} {t : TypeId} (h : w.heap[g]? = some (.cells #[.int .i64 s.a, .int .i64 s.b, .int .i64 s.c, .int .i64 s.d] t (0, 0))) (k : Nat) (hk : k < s.nums.length) : w.cell? ⟨g, k, none⟩ = some (.int .i64 (s.nums[k]'hk)) := by
  have h4 : k < 4 := hk
  simp only [World.cell?, h]
  match k, h4 with
  | 0, _ | 1, _ | 2, _ | 3, _ => rfl
attribute [local go_sem] Step.sz
set_option maxRecDepth 100000 in
set_option maxHeartbeats 4000000 in
theorem rstepText_c (s : Step) (hok : Step.ok s) (w : World) : Calls Tryd.prog 21 #[.agg (Step.arr s)] w fun r w' => r = .returned (strV (T.stepText s)) ∧ Below w.heap.size w w' := by
  obtain ⟨W0, hW0⟩ : ∃ W0, W0 = w.alloc (Obj.cells (Step.arr s) 28) := ⟨_, rfl⟩
  have hB0 : Below w.heap.size w W0 := by rw [hW0]; exact (Below.refl _ w).alloc (Nat.le_refl _) _
  have hz0 : w.heap.size < W0.heap.size := by rw [hW0]; simp
  have rS : rowAt W0 w.heap.size 0 5 = some (Step.arr s) := by rw [hW0]; exact rowAt_new _ _ _ _ _ rfl
  have c0 := (stepCells rS).1
  have HW := Lib.hid hW0
  have HI := Lib.hid (show T.stepIs s.kind = decide (1 ≤ s.kind ∧ s.kind ≤ 11) from rfl)
  have HD := Lib.hid (show T.stepText s = if T.stepIs s.kind = true then T.word s.kind ++ T.numsText (s.nums.take (T.has s.kind).toNat) else [] from rfl)
  have hc : s.kind < 1 ∨ (1 ≤ s.kind ∧ 11 < s.kind) ∨ (1 ≤ s.kind ∧ s.kind ≤ 11) := by omega
  have HOK := Lib.hid hok
  clear hW0 hok
  rcases hc with h0 | ⟨h0, h1⟩ | ⟨h0, h1⟩
  iterate 2
    · have hf : T.stepIs s.kind = false := by rw [HI.out]; simp <;> omega
      have HR := Lib.hid (show T.stepText s = [] by rw [HD.out, hf]; rfl)
      clear hf
      go_enter Tryd.func21, Tryd.ntmps21
      go_upto_region 1 with (fail)
      rw [← HW.out]
      go_wp2
      go_ret
      exact ⟨by rw [HR.out]; rfl, hB0⟩
  · have hf : T.stepIs s.kind = true := by rw [HI.out]; simp <;> omega
    have hb := T.has_bd s.kind
    obtain ⟨h, hh⟩ : ∃ h : Nat, T.has s.kind = (h : Int) := ⟨(T.has s.kind).toNat, by omega⟩
    have hcnt := fun X : World => count_c s.kind ⟨h0, h1⟩ X
    have hwd := word_c s.kind ⟨h0, h1⟩ W0
    rw [hh] at hcnt hb
    have HR := Lib.hid (show T.stepText s = T.word s.kind ++ T.numsText (s.nums.take h) by rw [HD.out, hf, hh]; rfl)
    have hwl := T.word_len s.kind
    have hnm := numbers_c s
    obtain ⟨wd, hwdd⟩ : ∃ wd, wd = T.word s.kind := ⟨_, rfl⟩
    rw [← hwdd] at hwd HR hwl
    have HC := Lib.hid hcnt
    have HNM := Lib.hid hnm
    clear hh hf HI HD hwdd hcnt hnm
    go_enter Tryd.func21, Tryd.ntmps21
    go_upto_region 1 with (fail)
    rw [← HW.out]
    go_wp2_with (first | (go_at_call 43; (with_reducible refine hwd.mono ?_); rintro r w1 ⟨rfl, hb1⟩; have rS1 := (rowAt_block (hb1.block w.heap.size hz0)).trans rS) | (refine wpList_load_at_v 28 _ rfl rfl _ (0) 5 rfl _ _ rS1 rfl rfl rfl ?_) | (go_at_call 52; (with_reducible refine (HNM.out _).mono ?_); rintro r W1 ⟨g, rfl, hg, hgz, hb2⟩))
    have hb12 := bthen hb1 hb2
    have d0 := (hb12.cell (p := ⟨w.heap.size, 0, none⟩) hz0).trans c0
    have hg1 := (Array.getElem?_eq_some_iff.1 hg).1
    have hwz1 : w.heap.size < W1.heap.size := Nat.lt_of_lt_of_le hz0 hb12.size
    have HB1 := Lib.hid (bthen hB0 hb12)
    have HG := Lib.hid hg
    clear hg hb1 hb2 hb12 c0 rS rS1 hwd
    go_loopw [3, 5] (fun t i wr => ∃ k : Nat, k ≤ h ∧ t = strV (wd ++ T.numsText (s.nums.take k)) ∧ i = .int .i64 (k : Int) ∧ Below W1.heap.size W1 wr) (fun _ i _ => h - (intOf i).toNat)
    case atStart => exact ⟨0, Nat.zero_le _, by simp [T.numsText], rfl, Below.refl _ _⟩
    case round =>
      obtain ⟨k, hk, rfl, rfl, hB⟩ := hrel
      have e0 := (hB.cell (p := ⟨w.heap.size, 0, none⟩) hwz1).trans d0
      have hgw := (hB.block g hg1).trans HG.out
      have hgz2 : g < wr.heap.size := Nat.lt_of_lt_of_le hg1 hB.size
      by_cases hkh : k < h
      · have hk4 : k < s.nums.length := by rw [Step.nums_len]; omega
        have lk := nums_cell hgw k hk4
        obtain ⟨n, hn⟩ : ∃ n, n = s.nums[k] := ⟨_, rfl⟩
        rw [← hn] at lk
        have hni : i64 n := Step.nums_ok HOK.out n (by rw [hn]; exact List.getElem_mem _)
        have hst := Lib.hid (show T.numsText (s.nums.take (k + 1)) = T.numsText (s.nums.take k) ++ (32 :: Lib.itoa n) by rw [show s.nums.take (k + 1) = s.nums.take k ++ [n] by rw [hn]; simp, T.numsText_snoc])
        have hlen := T.numsText_len (s.nums.take k) (fun m hm => Step.nums_ok HOK.out m (List.mem_of_mem_take hm))
        rw [List.length_take, Step.nums_len] at hlen
        have hll : (wd ++ T.numsText (s.nums.take k)).length ≤ 200 := by rw [List.length_append]; omega
        obtain ⟨L, hL⟩ : ∃ L, L = wd ++ T.numsText (s.nums.take k) := ⟨_, rfl⟩
        rw [← hL] at hll ⊢
        have HL := Lib.hid hL
        have hil := T.itoa_i64 hni
        have hdg := Lib.hid (fun X : World => digits_c n hni.1 hni.2 X)
        clear hn hL hgw hlen hni
        go_wp2_with (first | (go_at_call 44; (with_reducible refine (HC.out _).mono ?_); rintro r w3 ⟨rfl, hb3⟩; have l3 := (hb3.cell (p := ⟨g, k, none⟩) hgz2).trans lk; have hB3 := bthen hB hb3) | (go_at_call 53; (with_reducible refine (hdg.out _).mono ?_); rintro r w4 ⟨rfl, hb4⟩; have hB4 := bthen hB3 hb4))
        go_roundw
        case rel => exact ⟨k + 1, by omega, by simp only [ByteArray.mk_append_mk]; rw [hst.out, HL.out]; simp only [List.append_assoc, List.cons_append, List.nil_append], by go_num, hB4⟩
        case measure => simp [intOf]; omega
      · obtain rfl : k = h := by omega
        clear hgw
        go_wp2_with (go_at_call 44; (with_reducible refine (HC.out _).mono ?_); rintro r w3 ⟨rfl, hb3⟩; have hB3 := bthen hB hb3)
        go_ret
        exact ⟨by rw [HR.out]; rfl, HB1.out.trans (hB3.mono HB1.out.size)⟩
theorem words_cell (X : World) (t : TypeId) (k : Nat) (h1 : 1 ≤ k) (h2 : k ≤ 11) : (X.alloc (.cells #[.string ⟨#[]⟩, .string ⟨#[116, 105, 99, 107]⟩, .string ⟨#[115, 104, 105, 102, 116]⟩, .string ⟨#[116, 105, 109, 101, 114]⟩, .string ⟨#[114, 117, 110]⟩, .string ⟨#[100, 101, 108, 105, 118, 101, 114]⟩, .string ⟨#[100, 114, 111, 112]⟩, .string ⟨#[116, 119, 105, 99, 101]⟩, .string ⟨#[104, 117, 114, 116]⟩, .string ⟨#[105, 115, 115, 117, 101]⟩, .string ⟨#[99, 97, 110, 99, 101, 108]⟩, .string ⟨#[99, 114, 97, 115, 104]⟩] t)).cell? ⟨X.heap.size, k, none⟩ = some (strV (T.word (k : Int))) := by
  rw [World.cell?_alloc_mark]
  obtain rfl | rfl | rfl | rfl | rfl | rfl | rfl | rfl | rfl | rfl | rfl : k = 1 ∨ k = 2 ∨ k = 3 ∨ k = 4 ∨ k = 5 ∨ k = 6 ∨ k = 7 ∨ k = 8 ∨ k = 9 ∨ k = 10 ∨ k = 11 := by omega
  all_goals rfl
set_option maxRecDepth 100000 in
set_option maxHeartbeats 4000000 in
theorem stepText_c (s : Step) (hok : Step.ok s) (w : World) (ht : Tab w) : Calls Tryd.prog 17 #[.agg (Step.arr s)] w fun r w' => r = .returned (strV (T.stepText s)) ∧ Below w.heap.size w w' := by
  obtain ⟨W0, hW0⟩ : ∃ W0, W0 = w.alloc (Obj.cells (Step.arr s) 24) := ⟨_, rfl⟩
  have hB0 : Below w.heap.size w W0 := by rw [hW0]; exact (Below.refl _ w).alloc (Nat.le_refl _) _
  have hz0 : w.heap.size < W0.heap.size := by rw [hW0]; simp
  have rS : rowAt W0 w.heap.size 0 5 = some (Step.arr s) := by rw [hW0]; exact rowAt_new _ _ _ _ _ rfl
  obtain ⟨c0, c1, c2, c3, c4⟩ := stepCells rS
  have HW := Lib.hid hW0
  have HD := Lib.hid (show T.stepText s = if T.stepIs s.kind = true then T.word s.kind ++ T.numsText (s.nums.take (T.has s.kind).toNat) else [] from rfl)
  have HIS := Lib.hid (show T.stepIs s.kind = decide (1 ≤ s.kind ∧ s.kind ≤ 11) from rfl)
  have hi := is_c s.kind W0
  have HOK := Lib.hid hok
  have ht0 := ht.below hB0
  clear hW0 hok ht
  rcases h0 : T.stepIs s.kind with _ | _
  · rw [h0] at hi
    have HR := Lib.hid (show T.stepText s = [] by rw [HD.out, h0]; rfl)
    clear h0
    go_enter Tryd.func17, Tryd.ntmps17
    go_upto_region 1 with (fail)
    rw [← HW.out]
    go_wp2_with (go_at_call 47; (with_reducible refine hi.mono ?_); rintro r w1 ⟨rfl, hw1⟩; rw [hw1]; clear hw1)
    go_ret
    exact ⟨by rw [HR.out]; rfl, hB0⟩
  · rw [h0] at hi
    have hkk : 1 ≤ s.kind ∧ s.kind ≤ 11 := by have := HIS.out; rw [h0] at this; simpa using this.symm
    have hb := T.has_bd s.kind
    obtain ⟨h, hh⟩ : ∃ h : Nat, T.has s.kind = (h : Int) := ⟨(T.has s.kind).toNat, by omega⟩
    have HH := Lib.hid (fun X : World => has_c s.kind X)
    rw [hh] at HH hb
    have HR := Lib.hid (show T.stepText s = T.word s.kind ++ T.numsText (s.nums.take h) by rw [HD.out, h0, hh]; rfl)
    obtain ⟨kk, hkd⟩ : ∃ kk : Nat, s.kind = (kk : Int) := ⟨s.kind.toNat, by omega⟩
    rw [hkd] at c0 hi HH HR hkk
    have hwl := T.word_len (kk : Int)
    have HWC := Lib.hid (fun (X : World) (t : TypeId) => words_cell X t kk (by omega) (by omega))
    obtain ⟨wd, hwdd⟩ : ∃ wd, wd = T.word (kk : Int) := ⟨_, rfl⟩
    rw [← hwdd] at HR hwl HWC
    clear hh h0 HD HIS hkd hwdd rS
    go_enter Tryd.func17, Tryd.ntmps17
    go_upto_region 1 with (fail)
    rw [← HW.out]
    go_wp2_with (go_at_call 47; (with_reducible refine hi.mono ?_); rintro r w1 ⟨rfl, hw1⟩; rw [hw1]; clear hw1)
    obtain ⟨g, hgg⟩ : ∃ g, g = W0.heap.size := ⟨_, rfl⟩
    obtain ⟨W2, hW2⟩ : ∃ W2, W2 = W0.alloc (Obj.cells #[.int .i64 s.a, .int .i64 s.b, .int .i64 s.c, .int .i64 s.d] 70) := ⟨_, rfl⟩
    have hb2 : Below W0.heap.size W0 W2 := by rw [hW2]; exact (Below.refl _ _).alloc (Nat.le_refl _) _
    have hG : W2.heap[g]? = some (.cells #[.int .i64 s.a, .int .i64 s.b, .int .i64 s.c, .int .i64 s.d] 70 (0, 0)) := by rw [hW2, hgg]; exact heap_alloc_new _ _
    rw [← hW2, ← hgg]
    have d0 := (hb2.cell (p := ⟨w.heap.size, 0, none⟩) hz0).trans c0
    have hz2 : w.heap.size < W2.heap.size := Nat.lt_of_lt_of_le hz0 hb2.size
    have hg2 := (Array.getElem?_eq_some_iff.1 hG).1
    have ht2 := ht0.below hb2
    have HB2 := Lib.hid (bthen hB0 hb2)
    have HG2 := Lib.hid hG
    clear hgg hW2 hG hb2 c0 c1 c2 c3 c4 hB0 hi ht0
    refine wp_region_P 5 [0, 3, 4, 5] [1, 2, 0, 3, 4, 5] (fun X => Below W2.heap.size W2 X) (by kernel_rfl) (by kernel_rfl) (by kernel_rfl) (by decide) (by simp only [ordOps, List.map_cons, List.map_nil, List.getElem?_cons_succ, List.getElem?_cons_zero, Option.getD_some]; repeat (first | exact trivial | refine ⟨.inl rfl, ?_⟩ | refine ⟨.inr fun _ _ _ _ h => h, ?_⟩)) ?_ ?_
    rotate_left; simp only [ordOps, List.map_cons, List.map_nil, List.getElem?_cons_succ, List.getElem?_cons_zero, Option.getD_some]; rotate_left
    · exact (Below.refl _ W2).drew
    repeat ((first | (refine wpP_q (by rfl) (by rfl) ?_ ?_ ?_; rotate_left; focus (rintro W hX; have s0 := (hX.cell (p := ⟨w.heap.size, 0, none⟩) hz2).trans d0; go_simp; try (with_reducible rfl); done)) | refine wpP_skip (by rfl) (by rfl) ?_); try simp only [Act.put, List.setIfInBounds_toArray, List.set_cons_succ, List.set_cons_zero])
    refine wpP_a (by rfl) (by rfl) fun K hK => ?_
    go_simp
    refine (words_c _).mono ?_
    rintro r w3 ⟨rfl, hw3⟩
    have hb3 : Below W2.heap.size W2 w3 := by rw [hw3]; exact (Below.refl _ W2).drew.alloc (Nat.le_refl _) _
    have h12 : (kk : Int) < 12 := by omega
    have hcell : w3.cell? ⟨W2.heap.size, kk, none⟩ = some (strV wd) := by rw [hw3]; exact HWC.out W2.drew _
    clear hw3
    refine hK _ _ (fun _ => hb3) ?_; clear hK K; try simp only [Act.put, List.setIfInBounds_toArray, List.set_cons_succ, List.set_cons_zero]
    refine wpP_a (by rfl) (by rfl) fun K hK => ?_
    go_simp
    refine hK _ _ (fun _ => hb3) ?_; clear hK K; try simp only [Act.put, List.setIfInBounds_toArray, List.set_cons_succ, List.set_cons_zero]
    refine wpP_a (by rfl) (by rfl) fun K hK => ?_
    go_simp
    refine hK _ _ (fun _ => hb3) ?_; clear hK K; try simp only [Act.put, List.setIfInBounds_toArray, List.set_cons_succ, List.set_cons_zero]
    refine wpP_a (by rfl) (by rfl) fun K hK => ?_
    go_simp
    refine hK _ _ (fun h => absurd h (by omega)) ?_; clear hK K; try simp only [Act.put, List.setIfInBounds_toArray, List.set_cons_succ, List.set_cons_zero]
    refine wpP_nil ?_
    have d3 := (hb3.cell (p := ⟨w.heap.size, 0, none⟩) hz2).trans d0
    have HG3 := Lib.hid ((hb3.block g hg2).trans HG2.out)
    have hg3 := Nat.lt_of_lt_of_le hg2 hb3.size
    have ht3 := ht2.below hb3
    have HB3 := Lib.hid (bthen HB2.out hb3)
    clear hcell d0 hb3
    obtain ⟨hb1, hb4⟩ := hb
    go_wp2_with (go_at_call 48; (with_reducible refine (HH.out _).mono ?_); rintro r w4 ⟨rfl, hw4⟩; rw [hw4]; clear hw4)
    go_loopw [4, 30] (fun t i wr => ∃ k : Nat, k ≤ h ∧ t = strV (wd ++ T.numsText (s.nums.take k)) ∧ i = .int .i64 (k : Int) ∧ Below w3.heap.size w3 wr) (fun _ i _ => h - (intOf i).toNat)
    case atStart => exact ⟨0, Nat.zero_le _, by simp [T.numsText], rfl, Below.refl _ _⟩
    case round =>
      obtain ⟨k, hk, rfl, rfl, hB⟩ := hrel
      have hgw := (hB.block g hg3).trans HG3.out
      by_cases hkh : k < h
      · have hk4 : k < s.nums.length := by rw [Step.nums_len]; omega
        have lk := nums_cell hgw k hk4
        obtain ⟨n, hn⟩ : ∃ n, n = s.nums[k] := ⟨_, rfl⟩
        rw [← hn] at lk
        have hni : i64 n := Step.nums_ok HOK.out n (by rw [hn]; exact List.getElem_mem _)
        have hst := Lib.hid (show T.numsText (s.nums.take (k + 1)) = T.numsText (s.nums.take k) ++ (32 :: Lib.itoa n) by rw [show s.nums.take (k + 1) = s.nums.take k ++ [n] by rw [hn]; simp, T.numsText_snoc])
        have hlen := T.numsText_len (s.nums.take k) (fun m hm => Step.nums_ok HOK.out m (List.mem_of_mem_take hm))
        rw [List.length_take, Step.nums_len] at hlen
        have hll : (wd ++ T.numsText (s.nums.take k)).length ≤ 200 := by rw [List.length_append]; omega
        obtain ⟨L, hL⟩ : ∃ L, L = wd ++ T.numsText (s.nums.take k) := ⟨_, rfl⟩
        rw [← hL] at hll ⊢
        have HL := Lib.hid hL
        have hil := T.itoa_i64 hni
        have hdg := itoa_c n hni.1 hni.2 wr (ht3.below hB)
        clear hn hL hgw hlen hni
        go_wp2_with (go_at_call 49; (with_reducible refine hdg.mono ?_); rintro r w5 ⟨rfl, hb5⟩)
        go_roundw
        case rel => exact ⟨k + 1, by omega, by simp only [ByteArray.mk_append_mk]; rw [hst.out, HL.out]; simp only [List.append_assoc, List.cons_append, List.nil_append], by go_num, bthen hB hb5⟩
        case measure => simp [intOf]; omega
      · obtain rfl : k = h := by omega
        go_wp2
        go_ret
        exact ⟨by rw [HR.out]; rfl, HB3.out.trans (hB.mono HB3.out.size)⟩
end Go.Proofs.YtpgdgboobnmjiaaDoor
