/- Steps told line by line: the program's walk. -/
import Derived.Test.YtpgdgboobnmjiaaDoorStepT
import Derived.Test.YtpgdgboobnmjiaaDoorBuild
import Derived.Test.YtpgdgboobnmjiaaDoorMany
import Derived.Test.YtpgdgboobnmjiaaDoorAtoi
namespace Go.Proofs.YtpgdgboobnmjiaaDoor
open Go.RowKit Go.Shelf
set_option linter.unusedVariables false
set_option linter.unusedSimpArgs false
theorem T.stepText_len (s : Step) (h : Step.ok s) : (T.stepText s).length ≤ 100 := by
  unfold T.stepText
  split
  · rw [List.length_append]
    have h1 := T.word_len s.kind
    have h2 := T.numsText_len (s.nums.take (T.has s.kind).toNat) (fun n hn => Step.nums_ok h n (List.mem_of_mem_take hn))
    have h3 : (s.nums.take (T.has s.kind).toNat).length ≤ 4 := by rw [List.length_take, Step.nums_len]; omega
    omega
  · simp
def T.scriptText (xs : List Step) : List UInt8 := xs.flatMap fun s => T.stepText s ++ [10]
theorem T.scriptText_snoc (xs : List Step) (s : Step) : T.scriptText (xs ++ [s]) = T.scriptText xs ++ (T.stepText s ++ [10]) := by simp [T.scriptText]
theorem T.scriptText_len (xs : List Step) (h : ∀ x ∈ xs, Step.ok x) : (T.scriptText xs).length ≤ 101 * xs.length := by
  induction xs with
  | nil => simp [T.scriptText]
  | cons x xs ih =>
    have h1 := T.stepText_len x (h x List.mem_cons_self)
    have h2 := ih fun y hy => h y (List.mem_cons_of_mem _ hy)
    simp only [T.scriptText, List.flatMap_cons, List.length_append, List.length_cons, List.length_nil] at h2 ⊢
    omega
attribute [local go_sem] Step.sz
set_option maxRecDepth 100000 in
set_option maxHeartbeats 4000000 in
theorem slines_c (v : Value) (xs : List Step) (w : World) (h : Sl Step.arr 5 w.heap.size w v xs) (hok : ∀ x ∈ xs, Step.ok x) (hn : xs.length ≤ 100000) (he : Env w) :
    Calls Tryd.prog 22 #[v] w fun r w' => r = .returned (strV (T.scriptText xs)) ∧ Below w.heap.size w w' := by
  obtain ⟨A, cap, rfl, hcap, hl1, hl2⟩ := h.view
  obtain ⟨W0, hW0⟩ : ∃ W0, W0 = w.alloc (.cells #[.pointer none, .slice none 0 0] 90) := ⟨_, rfl⟩
  have hI0 : Bld w.heap.size w.heap.size [] W0 := by rw [hW0]; exact Lib.IsBuilderF.of (Lib.fresh_isBuilder 90 5 w)
  have hB0 : Below w.heap.size w W0 := by rw [hW0]; exact (Below.refl _ w).alloc (Nat.le_refl _) _
  have HW := Lib.hid hW0
  have HOK := Lib.hid hok
  clear hW0 hok
  go_enter Tryd.func22, Tryd.ntmps22
  go_wp2_with fail
  rw [← HW.out]
  go_loopw [8] (fun i wr => ∃ k : Nat, k ≤ xs.length ∧ i = .int .i64 (k : Int) ∧ Bld w.heap.size w.heap.size (T.scriptText (xs.take k)) wr ∧ Below w.heap.size w wr) (fun i _ => xs.length - (intOf i).toNat)
  case atStart => exact ⟨0, Nat.zero_le _, rfl, hI0, hB0⟩
  case round =>
    obtain ⟨k, hk, rfl, hI, hB⟩ := hrel
    have hBz := hB.size
    by_cases hkl : k < xs.length
    · have hkI : (k : Int) < (xs.length : Int) := by omega
      have hS := h.below hB
      obtain ⟨b, off, hA, hb, hrow, _⟩ := hS.at hkl
      subst hA
      obtain ⟨x, hx⟩ : ∃ x, x = xs[k] := ⟨_, rfl⟩
      rw [← hx] at hrow
      have hxo := HOK.out x (by rw [hx]; exact List.getElem_mem _)
      have hxl := T.stepText_len x hxo
      have HN := Lib.hid (show T.scriptText (xs.take (k + 1)) = T.scriptText (xs.take k) ++ (T.stepText x ++ [10]) by
        rw [List.take_succ_eq_append_getElem hkl, T.scriptText_snoc, ← hx])
      have hlen := T.scriptText_len (xs.take k) (fun y hy => HOK.out y (List.mem_of_mem_take hy))
      rw [List.length_take] at hlen
      have hwk : IntKind.i64.wrap ((k : Int) + 1) = (k : Int) + 1 := IntWalk.i64_in _ (by omega)
      obtain ⟨L, hL⟩ : ∃ L, L = T.scriptText (xs.take k) := ⟨_, rfl⟩
      rw [← hL] at hI HN hlen
      replace hlen : L.length ≤ 10100000 := by omega
      obtain ⟨tx, htx⟩ : ∃ tx, tx = T.stepText x := ⟨_, rfl⟩
      have hst := fun (X : World) (hX : Below wr.heap.size wr X) => stepText_c x hxo X ((he.below hB).below hX).tab
      rw [← htx] at hst HN hxl
      obtain ⟨W3, hW3⟩ : ∃ W3, W3 = wr.alloc (.cells (Step.arr x) 24) := ⟨_, rfl⟩
      have hb3 : Below wr.heap.size wr W3 := by rw [hW3]; exact (Below.refl _ wr).alloc (Nat.le_refl _) _
      have r3 : rowAt W3 wr.heap.size 0 5 = some (Step.arr x) := by rw [hW3]; exact rowAt_new _ _ _ _ _ rfl
      have HW3 := Lib.hid hW3
      clear hL hx hxo htx hW3
      go_wp2_with (first | (refine wpList_load_at_v 24 _ rfl rfl _ (off + k * 5) 5 rfl _ _ hrow rfl rfl rfl ?_) | (refine wpList_store_new rfl _ _ _ rfl _ (Step.arr x) _ _ rfl rfl rfl rfl rfl (Step.one _) ?_; rw [← HW3.out]) | (refine wpList_load_at_v 24 _ rfl rfl _ (0) 5 rfl _ _ r3 rfl rfl rfl ?_) | (go_at_call 17; (with_reducible refine (hst _ hb3).mono ?_); rintro r w4 ⟨rfl, hb4⟩; have hb34 := bthen hb3 hb4; have hI4 := hI.below hb34; have hB4 := bthen hB hb34))
      rw [ByteArray.mk_append_mk]
      have hI5 := writeString_k w.heap.size w.heap.size L (tx ++ [10]) w4 hI4 (by simp only [List.length_append, List.length_cons, List.length_nil]; omega) hB4.size
      refine hI5.mono ?_
      rintro r w5 ⟨rfl, hI6, hb5, _⟩
      clear hI hI4 hI5 hst
      go_wp2
      go_roundw
      case rel => exact ⟨k + 1, by omega, by go_num, by rw [HN.out]; exact hI6, hB4.trans hb5⟩
      case measure => simp [intOf] <;> omega
    · have hkI : ¬ (k : Int) < (xs.length : Int) := by omega
      rw [List.take_of_length_le (by omega)] at hI
      go_wp2_with (go_at_call 55; refine (Tryd.Builder_String_any_k w.heap.size w.heap.size _ _ hI hB.size).mono ?_; rintro r w4 ⟨rfl, _, hb4, _⟩)
      go_ret
      exact ⟨rfl, hB.trans hb4⟩
end Go.Proofs.YtpgdgboobnmjiaaDoor
