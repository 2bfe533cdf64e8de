/- ScriptReads: its walk. -/
import Derived.Test.YtpgdgboobnmjiaaDoorRRead
import Derived.Test.YtpgdgboobnmjiaaDoorSame30
import Derived.Test.YtpgdgboobnmjiaaDoorAwake30
import Derived.Test.YtpgdgboobnmjiaaDoorRow
namespace Go.Proofs.YtpgdgboobnmjiaaDoor
open Go.RowKit Go.Shelf
set_option linter.unusedVariables false
set_option linter.unusedSimpArgs false
set_option maxRecDepth 100000 in
set_option maxHeartbeats 8000000 in
theorem scriptReads_w (s : ByteArray) (w : World) (he : Env w) : Calls Tryd.prog 4 #[.string s] w fun e w' => e = .returned (.bool true) ∧ Below w.heap.size w w' := by
  obtain ⟨⟨M⟩⟩ := s
  have hs : (ByteArray.mk M.toArray).size = M.length := by simp [ByteArray.size]
  have HEV := Lib.hid (fun (X : World) (hX : Below w.heap.size w X) => awake30_c X (he.below hX))
  by_cases h4 : M.length ≤ 4000
  · have hp := read_c M (by omega) w he
    have hq := fun X : World => rread_c M (by omega) X
    obtain ⟨⟨xs, a, e⟩, hr⟩ : ∃ t : List Step × Int × Int, t = T.read M := ⟨_, rfl⟩
    have hxl : xs.length ≤ 400 := by
      have := T.readGo_len (T.lines M) [] 0 (by simp)
      rw [← T.read, ← hr] at this
      exact this
    unfold ReadPost at hp
    unfold RReadPost at hq
    rw [← hr] at hp hq
    dsimp only at hp hq
    have h1 : ¬ (4000 : Int) < M.length := by omega
    clear hr h4
    go_enter Tryd.func4, Tryd.ntmps4
    go_wp2_with (first | (go_at_call 18; (with_reducible refine hp.mono ?_); rintro r w2 ⟨u, rfl, hu, hb2⟩; have hSu := hu.sl Step.sz) | (go_at_call 19; (with_reducible refine (hq _).mono ?_); rintro r w4 ⟨v, rfl, hv, hb4⟩; have hSv := hv.sl Step.sz; have hb24 := bthen hb2 hb4; have hsm := same30_c u v xs w4 ((hSu.below hb4).mono hb4.size) hSv (by omega)) | (go_at_call 20; (with_reducible refine hsm.mono ?_); rintro r w5 ⟨rfl, hb5⟩; have haw := HEV.out w5 (bthen hb24 hb5)) | (go_at_call 12; (with_reducible refine haw.mono ?_); rintro r w6 ⟨rfl, hb6⟩))
    go_ret
    exact ⟨rfl, bthen (bthen hb24 hb5) hb6⟩
  · have h1 : (4000 : Int) < M.length := by omega
    have haw := HEV.out w (Below.refl _ _)
    go_enter Tryd.func4, Tryd.ntmps4
    go_wp2_with (go_at_call 12; (with_reducible refine haw.mono ?_); rintro r w6 ⟨rfl, hb6⟩)
    go_ret
    exact ⟨rfl, hb6⟩
theorem scriptReads_g (s : ByteArray) (W : World) (he : Env W) (_ : s.size ≤ 140737488351232) :
    Calls Tryd.prog 4 #[.string s] W fun e w' => e = .returned (.bool true) ∧ Below W.heap.size W w' := scriptReads_w s W he
end Go.Proofs.YtpgdgboobnmjiaaDoor
