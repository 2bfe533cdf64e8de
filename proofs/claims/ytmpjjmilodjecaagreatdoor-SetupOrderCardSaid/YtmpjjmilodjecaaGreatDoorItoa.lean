/- strconv.Itoa at the listed table; texts of ids and keys. -/
import Derived.Test.YtmpjjmilodjecaaGreatDoorBuild
import Derived.Test.YtmpjjmilodjecaaGreatDoorOpen
import Derived.Lib.AppendIntMem
namespace Go.Proofs.YtmpjjmilodjecaaGreatDoor
open Go.RowKit Go.Shelf
set_option linter.unusedVariables false
set_option linter.unusedSimpArgs false
/-- The listed table reads as the card's tie says. -/
abbrev Tab (w : World) : Prop := Lib.TabIs Tryz.prog w "internal/strconv.uint64pow10" .u64 Lib.pow10Tab
theorem Tab.below {w w' : World} (h : Tab w) (hb : Below w.heap.size w w') : Tab w' := Lib.tabBelow_of_tabIs h w' hb
theorem itoa_c (n : Int) (h0 : -9223372036854775808 ≤ n) (h1 : n ≤ 9223372036854775807) (w : World) (ht : Tab w) :
    Calls Tryz.prog 62 #[.int .i64 n] w fun r w' => r = .returned (strV (Lib.itoa n)) ∧ Below w.heap.size w w' := by
  refine (Tryz.strconv_Itoa n h0 h1 w ht).mono ?_
  rintro r w' ⟨rfl, k, os, rfl⟩
  exact ⟨rfl, Lib.below_grow _ w (Nat.le_refl _) k os⟩
def T.idText (d : Id) : List UInt8 := Lib.itoa d.node ++ [46] ++ Lib.itoa d.inc ++ [46] ++ Lib.itoa d.seq
def T.keyText (k : Key) : List UInt8 := T.idText k.id ++ [47] ++ Lib.itoa k.att
theorem T.idText_len (d : Id) (h : Id.ok d) : (T.idText d).length ≤ 65 := by
  obtain ⟨⟨a0, a1⟩, ⟨b0, b1⟩, c0, c1⟩ := h
  have := Lib.itoa_length_le d.node (by omega) (by omega)
  have := Lib.itoa_length_le d.inc (by omega) (by omega)
  have := Lib.itoa_length_le d.seq (by omega) (by omega)
  simp [T.idText]; omega
theorem T.keyText_len (k : Key) (h : Key.ok k) : (T.keyText k).length ≤ 87 := by
  have := T.idText_len k.id h.1
  have h2 := h.2
  unfold i64 at h2
  have := Lib.itoa_length_le k.att (by omega) (by omega)
  simp [T.keyText]; omega
end Go.Proofs.YtmpjjmilodjecaaGreatDoor
namespace Go.Proofs.YtmpjjmilodjecaaGreatDoor
open Go.RowKit Go.Shelf
set_option linter.unusedVariables false
set_option linter.unusedSimpArgs false
theorem T.itoa_i64 {n : Int} (h : i64 n) : (Lib.itoa n).length ≤ 21 := Lib.itoa_length_le n h.1 h.2
section
attribute [local go_sem] Id.sz Key.sz bw_cell
end
end Go.Proofs.YtmpjjmilodjecaaGreatDoor
