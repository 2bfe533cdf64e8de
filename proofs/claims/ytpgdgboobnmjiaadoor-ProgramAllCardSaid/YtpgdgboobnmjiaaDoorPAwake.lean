/- Programs: the example. -/
import Derived.Test.YtpgdgboobnmjiaaDoorPParseW
import Derived.Test.YtpgdgboobnmjiaaDoorPUnitsR
namespace Go.Proofs.YtpgdgboobnmjiaaDoor
open Go.RowKit Go.Shelf
set_option linter.unusedVariables false
set_option linter.unusedSimpArgs false
def T.p22 : List GoOp := [⟨1, 3, 0⟩, ⟨2, 1, 2⟩, ⟨3, 0, 0⟩, ⟨5, 5, 0⟩]
theorem T.p22_ok : ∀ o ∈ T.p22, GoOp.ok o := by
  intro o ho
  simp only [T.p22, List.mem_cons, List.not_mem_nil, or_false] at ho
  rcases ho with rfl | rfl | rfl | rfl <;> (unfold GoOp.ok i64; simp)
theorem T.p22_text : T.progText T.p22 = [119, 111, 114, 107, 32, 51, 59, 32, 115, 112, 97, 119, 110, 32, 49, 32, 50, 59, 32, 106, 111, 105, 110, 59, 32, 97, 110, 115, 119, 101, 114, 32, 53] := by decide +kernel
theorem T.p22_right : T.pright T.p22 2 3 = true := by decide +kernel
theorem T.p22_good : T.pgood [119, 111, 114, 107, 32, 51, 59, 32, 115, 112, 97, 119, 110, 32, 49, 32, 50, 59, 32, 106, 111, 105, 110, 59, 32, 97, 110, 115, 119, 101, 114, 32, 53] 2 3 = true := by rw [← T.p22_text]; exact T.pgood_text _ T.p22_ok 2 3 T.p22_right
theorem T.p22_out : T.pout [119, 111, 114, 107, 32, 51, 59, 32, 115, 112, 97, 119, 110, 32, 49, 32, 50, 59, 32, 106, 111, 105, 110, 59, 32, 97, 110, 115, 119, 101, 114, 32, 53] = T.p22 := by rw [← T.p22_text]; exact T.pout_text _ T.p22_ok 2 3 T.p22_right
set_option maxRecDepth 100000 in
set_option maxHeartbeats 4000000 in
theorem awake22_c (w : World) (he : Env w) : Calls Tryd.prog 24 #[] w fun e w' => e = .returned (.bool true) ∧ Below w.heap.size w w' := by
  have hp := pparse_c [119, 111, 114, 107, 32, 51, 59, 32, 115, 112, 97, 119, 110, 32, 49, 32, 50, 59, 32, 106, 111, 105, 110, 59, 32, 97, 110, 115, 119, 101, 114, 32, 53] (by decide) 2 3 w he
  unfold PParsePost at hp
  rw [T.p22_good, T.p22_out, if_pos rfl, show T.perr true = 0 from rfl] at hp
  go_enter Tryd.func24, Tryd.ntmps24
  go_upto_region 2 with (go_at_call 33; (with_reducible refine hp.mono ?_); rintro r w2 ⟨v, rfl, hown, hb2⟩)
  obtain ⟨A, m, cap, rfl⟩ := hown.shape
  obtain rfl : m = 4 := own_cntG hown
  have hSl := hown.sl GoOp.sz
  have hu := units_c _ T.p22 w2 hSl (by decide)
  rw [show T.units T.p22 = 6 from by decide +kernel] at hu
  have ht := fun (X : World) (hX : Below w2.heap.size w2 X) => ptext_c _ T.p22 X ((hSl.below hX).mono hX.size) T.p22_ok (by decide) ((he.below hb2).below hX).tab
  rw [T.p22_text] at ht
  clear hp hown hSl
  go_wp2_with (first | (go_at_call 29; (with_reducible refine hu.mono ?_); rintro r w3 ⟨rfl, hb3⟩) | (go_at_call 31; (with_reducible refine (ht _ hb3).mono ?_); rintro r w5 ⟨rfl, hb5⟩))
  go_ret
  exact ⟨rfl, bthen (bthen hb2 hb3) hb5⟩
end Go.Proofs.YtpgdgboobnmjiaaDoor
