/- The document's reader of programs: what stands at a place; numbers. -/
import Derived.Test.YtpgdgboobnmjiaaDoorPText
import Derived.Test.YtpgdgboobnmjiaaDoorRLines
import Derived.Test.YtpgdgboobnmjiaaDoorParseC
import Derived.RangeFuncBox
namespace Go.Proofs.YtpgdgboobnmjiaaDoor
open Go.RowKit Go.Shelf
set_option linter.unusedVariables false
set_option linter.unusedSimpArgs false
theorem grown_belowP {w w1 : World} (hb : Below w.heap.size w w1) (row : Option Nat) : w.grownBy w1 row := ⟨hb.os, hb.tape, hb.output, hb.size, fun k hk _ => hb.block k hk⟩
theorem grown_setCellP (w : World) (b o : Nat) (v : Value) : w.grownBy (w.setCell ⟨b, o, none⟩ v) (some b) :=
  ⟨rfl, rfl, rfl, by simp, fun k hk hne => Below.heap_setCell w ⟨b, o, none⟩ v k (by intro e; exact hne (by rw [e]))⟩
/-- The reader: the text, the place, still good? -/
def Rdr (g : Nat) (s : List UInt8) (k : Nat) (ok : Bool) (w : World) : Prop := w.heap[g]? = some (.cells #[strV s, .int .i64 (k : Int), .bool ok] 99 (0, 0))
theorem Rdr.lt {g k : Nat} {s : List UInt8} {ok : Bool} {w : World} (h : Rdr g s k ok w) : g < w.heap.size := (Array.getElem?_eq_some_iff.1 h).1
theorem Rdr.cells {g k : Nat} {s : List UInt8} {ok : Bool} {w : World} (h : Rdr g s k ok w) : w.cell? ⟨g, 0, none⟩ = some (strV s) ∧ w.cell? ⟨g, 1, none⟩ = some (.int .i64 (k : Int)) ∧ w.cell? ⟨g, 2, none⟩ = some (.bool ok) ∧ w.frozen? ⟨g, 1, none⟩ = false ∧ w.frozen? ⟨g, 2, none⟩ = false :=
  ⟨(cell_of h 0).1, (cell_of h 1).1, (cell_of h 2).1, (cell_of h 1).2, (cell_of h 2).2⟩
theorem Rdr.below {g k : Nat} {s : List UInt8} {ok : Bool} {w w' : World} (h : Rdr g s k ok w) (hb : Below w.heap.size w w') : Rdr g s k ok w' := (hb.block g h.lt).trans h
theorem Rdr.setAt {g k : Nat} {s : List UInt8} {ok : Bool} {w : World} (h : Rdr g s k ok w) (n : Nat) : Rdr g s n ok (w.setCell ⟨g, 1, none⟩ (.int .i64 (n : Int))) := by
  have := heap_setCell_same w g 1 _ _ (.int .i64 (n : Int)) h
  unfold Rdr; rw [this]; rfl
theorem Rdr.setOk {g k : Nat} {s : List UInt8} {ok : Bool} {w : World} (h : Rdr g s k ok w) (b : Bool) : Rdr g s k b (w.setCell ⟨g, 2, none⟩ (.bool b)) := by
  have := heap_setCell_same w g 2 _ _ (.bool b) h
  unfold Rdr; rw [this]; rfl
def T.hasAt (s : List UInt8) (k : Nat) (t : List UInt8) : Bool := decide (k + t.length ≤ s.length) && ((s.drop k).take t.length == t)
def T.hasTo (s : List UInt8) (k : Nat) (t : List UInt8) : Nat := if T.hasAt s k t = true then k + t.length else k
def HasPost (g : Nat) (s : List UInt8) (k : Nat) (ok : Bool) (t : List UInt8) (w : World) (r : Ending) (w' : World) : Prop :=
  r = .returned (.bool (T.hasAt s k t)) ∧ Rdr g s (T.hasTo s k t) ok w' ∧ w.grownBy w' (some g)
attribute [local go_sem] bw_cell
set_option maxRecDepth 100000 in
set_option maxHeartbeats 8000000 in
theorem rhas_c (g : Nat) (s : List UInt8) (k : Nat) (ok : Bool) (t : List UInt8) (w : World) (h : Rdr g s k ok w) (hs : s.length ≤ 1000000) (hk : k ≤ s.length) (htl : t.length ≤ 1000) :
    Calls Tryd.prog 66 #[.pointer (some ⟨g, 0, none⟩), strV t] w (HasPost g s k ok t w) := by
  obtain ⟨c0, c1, c2, f1, f2⟩ := h.cells
  have hg := h.lt
  obtain ⟨e, he⟩ : ∃ e : Nat, e = k + t.length := ⟨_, rfl⟩
  have hw : IntKind.i64.wrap ((k : Int) + (t.length : Int)) = (e : Int) := (IntWalk.i64_in _ (by omega)).trans (by omega)
  have hsum : (k : Int) + (t.length : Int) = (e : Int) := by omega
  have HR := Lib.hid h
  clear h
  by_cases hle : e ≤ s.length
  · have hleI : (e : Int) ≤ (s.length : Int) := by omega
    have hkeI : (k : Int) ≤ (e : Int) := by omega
    have hke : k ≤ e := by omega
    have hcut := bytes_part s k e
    rw [show e - k = t.length by omega] at hcut
    obtain ⟨cs, hcs⟩ : ∃ cs, cs = (s.drop k).take t.length := ⟨_, rfl⟩
    rw [← hcs] at hcut
    by_cases hc : cs = t
    · have HH := Lib.hid (show T.hasAt s k t = true by rw [T.hasAt, ← hcs, hc, ← he, decide_eq_true hle]; simp)
      have HTo := Lib.hid (show T.hasTo s k t = e by rw [T.hasTo, if_pos HH.out, he])
      rw [hc] at hcut
      clear hcs hc he
      go_enter Tryd.func66, Tryd.ntmps66
      go_wp2
      refine wp_region_calm (by kernel_rfl) (by kernel_rfl) ?_
      repeat ((fail_if_success (with_reducible refine wpQuiet_nil ?_)); (first | go_big_quiet_skip | go_big_quiet_step (fail)))
      refine wpQuiet_nil ?_
      rintro _ ⟨⟨X, hX⟩, rfl⟩
      obtain ⟨d0, d1, d2, f1', f2'⟩ := (HR.out.below hX).cells
      clear c0 c1 c2 f1 f2
      go_wp2
      go_ret
      exact ⟨by rw [HH.out] <;> rfl, by rw [HTo.out]; exact (HR.out.below hX).setAt e, (grown_belowP hX _).trans (grown_setCellP _ _ _ _)⟩
    · have HH := Lib.hid (show T.hasAt s k t = false by rw [T.hasAt, ← hcs, ← he, decide_eq_true hle, Bool.true_and]; exact beq_eq_false_iff_ne.2 hc)
      have HTo := Lib.hid (show T.hasTo s k t = k by rw [T.hasTo, if_neg (by rw [HH.out]; exact Bool.false_ne_true)])
      have hne : (cs == t) = false := beq_eq_false_iff_ne.2 hc
      clear hcs he
      go_enter Tryd.func66, Tryd.ntmps66
      go_wp2
      refine wp_region_calm (by kernel_rfl) (by kernel_rfl) ?_
      repeat ((fail_if_success (with_reducible refine wpQuiet_nil ?_)); (first | go_big_quiet_skip | go_big_quiet_step (fail)))
      refine wpQuiet_nil ?_
      rintro _ ⟨⟨X, hX⟩, rfl⟩
      go_wp2
      go_ret
      exact ⟨by rw [HH.out] <;> rfl, by rw [HTo.out]; exact HR.out.below hX, grown_belowP hX _⟩
  · have hleI : ¬ (e : Int) ≤ (s.length : Int) := by omega
    have hled : decide ((e : Int) ≤ (s.length : Int)) = false := decide_eq_false hleI
    have hleN : decide (e ≤ s.length) = false := decide_eq_false hle
    have HH := Lib.hid (show T.hasAt s k t = false by rw [T.hasAt, ← he, decide_eq_false hle, Bool.false_and])
    have HTo := Lib.hid (show T.hasTo s k t = k by rw [T.hasTo, if_neg (by rw [HH.out]; exact Bool.false_ne_true)])
    clear he
    go_enter Tryd.func66, Tryd.ntmps66
    go_wp2
    refine wp_region_calm (by kernel_rfl) (by kernel_rfl) ?_
    repeat ((fail_if_success (with_reducible refine wpQuiet_nil ?_)); (first | go_big_quiet_skip | go_big_quiet_step (fail)))
    refine wpQuiet_nil ?_
    rintro _ ⟨⟨X, hX⟩, rfl⟩
    go_wp2
    go_ret
    exact ⟨by rw [HH.out] <;> rfl, by rw [HTo.out]; exact HR.out.below hX, grown_belowP hX _⟩
end Go.Proofs.YtpgdgboobnmjiaaDoor
