/- Scripts: the example. -/
import Derived.Test.YtpgdgboobnmjiaaDoorReadW
import Derived.Test.YtpgdgboobnmjiaaDoorSBack
namespace Go.Proofs.YtpgdgboobnmjiaaDoor
open Go.RowKit Go.Shelf
set_option linter.unusedVariables false
set_option linter.unusedSimpArgs false
def T.s30 : Step := ⟨9, 0, 1, 2, 100⟩
def T.s30a : Step := ⟨1, 5, 0, 0, 0⟩
def T.s30b : Step := ⟨4, 1, 0, 0, 0⟩
theorem T.s30_ok : Step.ok T.s30 := by unfold Step.ok i64 T.s30; simp
theorem T.s30_text : T.stepText T.s30 = [105, 115, 115, 117, 101, 32, 48, 32, 49, 32, 50, 32, 49, 48, 48] := by decide +kernel
theorem T.s30a_text : T.stepText T.s30a = [116, 105, 99, 107, 32, 53] := by decide +kernel
theorem T.s30b_text : T.stepText T.s30b = [114, 117, 110, 32, 49, 32, 48] := by decide +kernel
theorem T.s30_parse : T.sparse [105, 115, 115, 117, 101, 32, 48, 32, 49, 32, 50, 32, 49, 48, 48] = (T.s30, true) := by rw [← T.s30_text]; exact T.sparse_text (by decide)
theorem T.s30a_parse : T.sparse [116, 105, 99, 107, 32, 53] = (T.s30a, true) := by rw [← T.s30a_text]; exact T.sparse_text (by decide)
theorem T.s30b_parse : T.sparse [114, 117, 110, 32, 49, 32, 48] = (T.s30b, true) := by rw [← T.s30b_text]; exact T.sparse_text (by decide)
def T.t30 : List UInt8 := [116, 105, 99, 107, 32, 53, 10, 35, 32, 119, 97, 105, 116, 10, 114, 117, 110, 32, 49, 32, 48]
theorem T.t30_lines : T.lines T.t30 = [[116, 105, 99, 107, 32, 53], [35, 32, 119, 97, 105, 116], [114, 117, 110, 32, 49, 32, 48]] := by decide +kernel
theorem T.t30_read : T.read T.t30 = ([T.s30a, T.s30b], 0, 0) := by
  rw [T.read, T.t30_lines, T.readGo_one _ _ _ _ (by simp) (by simp) (by rw [T.s30a_parse]), T.readGo_skip _ _ _ _ (by simp), T.readGo_one _ _ _ _ (by simp) (by simp) (by rw [T.s30b_parse]), T.s30a_parse, T.s30b_parse]
  rfl
theorem built30 : Tryd.prog.built 24 [(0, .int .i64 9), (2, .int .i64 1), (3, .int .i64 2), (4, .int .i64 100)] = some (Step.arr T.s30) := by kernel_rfl
attribute [local go_sem high] eqTStep
attribute [local go_sem] Step.sz
set_option maxRecDepth 100000 in
set_option maxHeartbeats 4000000 in
theorem awake30_c (w : World) (he : Env w) : Calls Tryd.prog 12 #[] w fun e w' => e = .returned (.bool true) ∧ Below w.heap.size w w' := by
  have hp := sparse_c [105, 115, 115, 117, 101, 32, 48, 32, 49, 32, 50, 32, 49, 48, 48] (by decide) w he
  rw [T.s30_parse, show T.perr true = 0 from rfl] at hp
  go_enter Tryd.func12, Tryd.ntmps12
  go_upto_region 2 with (first | (go_at_call 13; (with_reducible refine hp.mono ?_); rintro r w2 ⟨rfl, hb2⟩) | (refine wpList_store_new rfl _ _ _ rfl _ (Step.arr T.s30) _ _ rfl rfl rfl rfl rfl (Step.one _) ?_))
  obtain ⟨W3, hW3⟩ : ∃ W3, W3 = w2.alloc (Obj.cells (Step.arr T.s30) 24) := ⟨_, rfl⟩
  rw [← hW3]
  have hb3 : Below w.heap.size w W3 := by rw [hW3]; exact hb2.alloc hb2.size _
  have hgz : w2.heap.size < W3.heap.size := by rw [hW3]; simp
  have r3 : rowAt W3 w2.heap.size 0 5 = some (Step.arr T.s30) := by rw [hW3]; exact rowAt_new _ _ _ _ _ rfl
  have hr := read_c T.t30 (by decide) W3 (he.below hb3)
  unfold ReadPost at hr
  rw [T.t30_read] at hr
  unfold T.t30 at hr
  clear hW3 hp hb2
  go_upto_region 3 with (go_at_call 18; (with_reducible refine hr.mono ?_); rintro r w4 ⟨v, rfl, hown, hb4⟩)
  obtain ⟨A, m, cap, rfl⟩ := hown.shape
  obtain rfl : m = 2 := hown.cnt
  have r4 := (rowAt_block (hb4.block w2.heap.size hgz)).trans r3
  have hB4 := bthen hb3 hb4
  have hx := stepText_c T.s30 T.s30_ok w4 (he.below hB4).tab
  rw [T.s30_text] at hx

  clear hown hr r3
  go_wp2_with (first | (refine wpList_load_at_v 24 _ rfl rfl _ (0) 5 rfl _ _ r4 rfl rfl rfl ?_) | (refine wpList_build_w (by rfl) _ _ rfl _ ?_ _ built30 ?_; rfl) | (go_at_call 17; (with_reducible refine hx.mono ?_); rintro r w5 ⟨rfl, hb5⟩))
  go_ret
  exact ⟨rfl, bthen hB4 hb5⟩
end Go.Proofs.YtpgdgboobnmjiaaDoor
