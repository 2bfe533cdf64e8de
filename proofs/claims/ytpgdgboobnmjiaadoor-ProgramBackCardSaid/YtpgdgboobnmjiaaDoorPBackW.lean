/- ProgramBack: its walk. -/
import Derived.Test.YtpgdgboobnmjiaaDoorPAwake
import Derived.Test.YtpgdgboobnmjiaaDoorPSame
import Derived.Test.YtpgdgboobnmjiaaDoorRow
namespace Go.Proofs.YtpgdgboobnmjiaaDoor
open Go.RowKit Go.Shelf
set_option linter.unusedVariables false
set_option linter.unusedSimpArgs false
set_option maxRecDepth 100000 in
set_option maxHeartbeats 8000000 in
theorem programBack_g (v : Value) (xs : List GoOp) (a b : Int) (w : World) (he : Env w) (h : Sl GoOp.arr 3 w.heap.size w v xs) (hok : ∀ x ∈ xs, GoOp.ok x) (hz : xs.length * 24 ≤ 140737488351232) (_ : i64 a) (_ : i64 b) :
    Calls Tryd.prog 9 #[v, .int .i64 a, .int .i64 b] w fun e w' => e = .returned (.bool true) ∧ Below w.heap.size w w' := by
  have HEV := Lib.hid (fun (X : World) (hX : Below w.heap.size w X) => awake22_c X (he.below hX))
  have hrr := rpright_c v xs a b w h (by omega)
  rcases hr : T.pright xs a b with _ | _
  · rw [hr] at hrr
    clear hr
    go_enter Tryd.func9, Tryd.ntmps9
    go_wp2_with (first | (go_at_call 28; (with_reducible refine hrr.mono ?_); rintro r w2 ⟨rfl, hb2⟩; have haw := HEV.out w2 hb2) | (go_at_call 24; (with_reducible refine haw.mono ?_); rintro r w6 ⟨rfl, hb6⟩))
    go_ret
    exact ⟨rfl, bthen hb2 hb6⟩
  · rw [hr] at hrr
    obtain ⟨h16, hkn, hall⟩ := T.pright_known xs a b hr
    have hgood := T.pgood_text xs hok a b hr
    have hout := T.pout_text xs hok a b hr
    have hlen := T.joinS_len xs hok hkn
    have hlen2 : (T.progText xs).length ≤ 900 := by rw [T.progText, if_pos hkn]; omega
    have htx := fun (X : World) (hX : Below w.heap.size w X) => ptext_c v xs X ((h.below hX).mono hX.size) hok (by omega) (he.below hX).tab
    have hpp := fun (X : World) (hX : Below w.heap.size w X) => pparse_c (T.progText xs) (by omega) a b X (he.below hX)
    unfold PParsePost at hpp
    rw [hgood, hout, if_pos rfl, show T.perr true = 0 from rfl] at hpp
    obtain ⟨tx, htxe⟩ : ∃ tx, tx = T.progText xs := ⟨_, rfl⟩
    rw [← htxe] at htx hpp
    clear hr hgood hout hlen hlen2 htxe hall hkn
    go_enter Tryd.func9, Tryd.ntmps9
    go_upto_region 4 with (first | (go_at_call 28; (with_reducible refine hrr.mono ?_); rintro r w2 ⟨rfl, hb2⟩) | (go_at_call 31; (with_reducible refine (htx _ hb2).mono ?_); rintro r w3 ⟨rfl, hb3⟩; have hB3 := bthen hb2 hb3) | (go_at_call 33; (with_reducible refine (hpp _ hB3).mono ?_); rintro r w4 ⟨u, rfl, hown, hb4⟩))
    have hB4 := bthen hB3 hb4
    obtain ⟨A, m, cap, rfl⟩ := hown.shape
    obtain rfl : m = xs.length := own_cntG hown
    have hsm := rsame22_c v _ xs w4 ((h.below hB4).mono hB4.size) (hown.sl GoOp.sz) (by omega)
    clear htx hpp hrr hown
    go_wp2_with (first | (go_at_call 35; (with_reducible refine hsm.mono ?_); rintro r w5 ⟨rfl, hb5⟩; have haw := HEV.out w5 (bthen hB4 hb5)) | (go_at_call 24; (with_reducible refine haw.mono ?_); rintro r w6 ⟨rfl, hb6⟩))
    go_ret
    exact ⟨rfl, bthen (bthen hB4 hb5) hb6⟩
end Go.Proofs.YtpgdgboobnmjiaaDoor
