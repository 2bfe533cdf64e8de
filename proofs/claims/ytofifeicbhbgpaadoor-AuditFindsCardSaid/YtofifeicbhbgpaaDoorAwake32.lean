/- Layer 32, the example. -/
import Derived.Test.YtofifeicbhbgpaaDoorCheck
import Derived.Test.YtofifeicbhbgpaaDoorLits
namespace Go.Proofs.YtofifeicbhbgpaaDoor
open Go.RowKit Go.Shelf
set_option linter.unusedVariables false
set_option linter.unusedSimpArgs false
attribute [local go_sem] Event.sz Config.sz Find.sz Find.at0 Find.at1
attribute [local go_sem high] eqTFind
theorem Own.len {α : Type} {arr : α → Array Value} {sz base : Nat} {e : TypeId} {w : World} {xs : List α} {A : Option Addr} {n cap : Nat} (h : Own arr sz base e w (.slice A n cap) xs) : n = xs.length := by
  rcases h.2 with ⟨hv, h0⟩ | ⟨g, cap, cur, hv, _⟩
  · injection hv with _ e2 _; omega
  · injection hv
theorem Own.blk {α : Type} {arr : α → Array Value} {sz base : Nat} {e : TypeId} {w : World} {v : Value} {xs : List α} (h : Own arr sz base e w v xs) (hn : 0 < xs.length) : ∃ g cap, v = .slice (some ⟨g, 0, none⟩) xs.length cap ∧ base ≤ g ∧ g < w.heap.size := by
  rcases h.2 with ⟨_, h0⟩ | ⟨g, cap, cur, hv, hb, hg, hnc, hcm, _⟩
  · omega
  · exact ⟨g, cap, hv, hb, (Array.getElem?_eq_some_iff.1 hg).1⟩
set_option maxRecDepth 100000 in
set_option maxHeartbeats 1000000 in
theorem name4_c (w : World) : Calls Tryd.prog 11 #[.int .i64 4] w fun e w' => e = .returned (.string ⟨#[108, 97, 116, 101]⟩) ∧ Below w.heap.size w w' := by
  go_enter Tryd.func11, Tryd.ntmps11
  go_wp2
  go_ret
  exact ⟨rfl, (Below.refl _ w).alloc (Nat.le_refl _) _⟩
def T.ex32 : Config := ⟨0, 0, 0, 0, 0, 1, 0, 0, 0, 0, 0, 0, 0, .slice none 0 0⟩
def T.ev32 : Event := ⟨3, 0, 0, 0, ⟨⟨0, 0, 0⟩, 0⟩, ⟨⟨0, 0, 0⟩, 0⟩, ⟨0, 0, 0⟩, 0, 0, 0⟩
theorem built32 : Tryd.prog.built 24 [(5, .int .i64 1)] = some (Config.arr T.ex32) := by kernel_rfl
theorem builtE32 : Tryd.prog.built 55 [(0, .int .i64 3)] = some (Event.arr T.ev32) := by kernel_rfl
theorem builtF32 : Tryd.prog.built 57 [(0, .int .i64 1)] = some (Find.arr ⟨1, 0⟩) := by kernel_rfl
theorem T.ex32_chk : T.chk T.ex32 [T.ev32] 1 = [⟨1, 0⟩, ⟨4, 0⟩] := by decide +kernel
set_option maxRecDepth 100000 in
set_option maxHeartbeats 1000000 in
theorem awake32_c (w : World) : Calls Tryd.prog 5 #[] w fun e w' => e = .returned (.bool true) ∧ Below w.heap.size w w' := by
  obtain ⟨w1, hw1⟩ : ∃ w1, w1 = w.alloc (Obj.cells (Event.arr T.ev32) 55) := ⟨_, rfl⟩
  have hs1 : w1.heap.size = w.heap.size + 1 := by rw [hw1]; simp
  have hB : Below w.heap.size w w1 := by rw [hw1]; exact (Below.refl _ w).alloc (Nat.le_refl _) _
  have hr1 : rowAt w1 w.heap.size 0 18 = some (Event.arr T.ev32) := by rw [hw1]; exact rowAt_new _ _ _ _ _ rfl
  have hS : Sl Event.arr 18 w1.heap.size w1 (.slice (some ⟨w.heap.size, 0, none⟩) 1 1) [T.ev32] := by
    refine ⟨some ⟨w.heap.size, 0, none⟩, 1, rfl, Nat.le_refl _, by decide, fun _ => ⟨_, _, rfl, by omega, fun k x hk => ?_⟩⟩
    cases k with
    | zero => obtain rfl : T.ev32 = x := by simpa using hk
              simpa using hr1
    | succ k => simp at hk
  have hck := check_c _ [T.ev32] T.ex32 w1 hS (by decide) (by intro e he; rw [show e = T.ev32 from (by simpa using he)]; decide)
  rw [show [T.ev32].length = 1 from rfl, T.ex32_chk] at hck
  have HW1 := Lib.hid hw1
  clear hw1 hS hr1
  go_enter Tryd.func5, Tryd.ntmps5
  go_wp2_with (first | (refine wpList_build_at rfl 24 _ rfl _ ?_ _ built32 ?_; rfl) | (refine wpList_build_at rfl 55 _ rfl _ ?_ _ builtE32 ?_; rfl) | (refine wpList_slice1 rfl 25 55 _ rfl (Event.arr T.ev32) 18 144 Tryd.underlying25 (by kernel_rfl) (by decide) rfl rfl w.heap.size rfl ?_; rw [← HW1.out]) | (go_at_call 6; (with_reducible refine hck.mono ?_); rintro e w2 ⟨u, rfl, hown2, hb2⟩; obtain ⟨g, cap, rfl, hg1, hg2⟩ := hown2.blk (by decide); have r0 := hown2.row Find.sz 0 _ rfl; have r1 := hown2.row Find.sz 1 _ rfl; have c1 := rowAt_cell r1 0 (by omega); simp only [Find.at0, Nat.zero_mul, Nat.one_mul, Nat.add_zero] at r0 r1 c1) | (refine wpList_load_at_v 57 _ rfl rfl _ 0 2 rfl _ _ r0 rfl rfl rfl ?_) | (refine wpList_build_w (by rfl) 57 _ rfl _ ?_ _ builtF32 ?_; rfl) | (go_at_call 11; (with_reducible refine (name4_c _).mono ?_); rintro e w3 ⟨rfl, hb3⟩))
  go_ret
  exact ⟨rfl, bthen (bthen hB hb2) hb3⟩
end Go.Proofs.YtofifeicbhbgpaaDoor
