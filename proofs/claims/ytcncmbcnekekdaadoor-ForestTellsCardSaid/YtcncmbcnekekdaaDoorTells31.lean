/- ForestTells: its walk. -/
import Derived.Test.YtcncmbcnekekdaaDoorRText31
import Derived.Test.YtcncmbcnekekdaaDoorMine
import Derived.Test.YtcncmbcnekekdaaDoorAwake31
import Derived.Test.YtcncmbcnekekdaaDoorRow
namespace Go.Proofs.YtcncmbcnekekdaaDoor
open Go.RowKit Go.Shelf
set_option linter.unusedVariables false
set_option linter.unusedSimpArgs false
set_option maxRecDepth 100000 in
set_option maxHeartbeats 4000000 in
theorem tells31_w (v : Value) (xs : List Item) (i : Int) (w : World) (h : Sl Item.arr 17 w.heap.size w v xs) (hok : ∀ x ∈ xs, Item.ok x) (ht : Tab w) :
    Calls Tryd.prog 3 #[v, .int .i64 i] w fun e w' => e = .returned (.bool true) ∧ Below w.heap.size w w' := by
  obtain ⟨A, cap, rfl, hcap, hl1, hl2⟩ := h.view
  by_cases h40 : xs.length ≤ 40
  · have g1 : decide ((xs.length : Int) > 40) = false := by simp; omega
    have hm := mine31_c _ xs w h (by omega)
    have HS := Lib.hid h
    have HT := Lib.hid ht
    have HOK := Lib.hid hok
    clear h ht hok
    go_enter Tryd.func3, Tryd.ntmps3
    go_wp2_with (first | (go_at_call 14; (with_reducible refine hm.mono ?_); rintro e w1 ⟨um, rfl, hownM, hb1⟩; obtain ⟨Am, nm, cm, rfl⟩ := hownM.shape; have hSm := Lib.hid (hownM.sl Item.sz); have hSl := Lib.hid ((HS.out.below hb1).mono hb1.size); have ht1 := Lib.hid (HT.out.below hb1); have K1 := above_c _ xs i w1 hSm.out; clear hownM hm) | (go_at_call 15; (with_reducible refine K1.mono ?_); rintro e w2 ⟨rfl, hb2⟩; have K2 := rabove_c _ xs i w2 ((hSl.out.below hb2).mono hb2.size); clear K1) | (go_at_call 16; (with_reducible refine K2.mono ?_); rintro e w3 ⟨rfl, hb3⟩; have B3 := bthen hb2 hb3; have K3 := above_c_path _ xs i w3 ((hSm.out.below B3).mono B3.size) (by omega); clear K2 hb2 hb3) | (go_at_call 18; (with_reducible refine K3.mono ?_); rintro e w4 ⟨u4, rfl, hown4, hb4⟩; obtain ⟨A4, n4, c4, rfl⟩ := hown4.shape; have B4 := bthen B3 hb4; have s4 := Lib.hid (hown4.sl intArr_sz); have K4 := rabove_c_path _ xs i w4 ((hSl.out.below B4).mono B4.size) (by omega); clear K3 hown4 hb4 B3) | (go_at_call 19; (with_reducible refine K4.mono ?_); rintro e w5 ⟨u5, rfl, hown5, hb5⟩; obtain ⟨A5, n5, c5, rfl⟩ := hown5.shape; have B5 := bthen B4 hb5; have K5 := ints_c _ _ (T.path xs i) w5 ((s4.out.below hb5).mono hb5.size) (hown5.sl intArr_sz); clear K4 hown5 s4 hb5 B4) | (go_at_call 17; (with_reducible refine K5.mono ?_); rintro e w6 ⟨rfl, hb6⟩; have B6 := bthen B5 hb6; have K6 := order_c _ xs w6 ((hSm.out.below B6).mono B6.size) (by omega); clear K5 B5 hb6) | (go_at_call 20; (with_reducible refine K6.mono ?_); rintro e w7 ⟨u7, rfl, hown7, hb7⟩; obtain ⟨A7, n7, c7, rfl⟩ := hown7.shape; have B7 := bthen B6 hb7; have s7 := Lib.hid (hown7.sl intArr_sz); have K7 := rorder_c _ xs w7 ((hSl.out.below B7).mono B7.size) (by omega); clear K6 hown7 hb7 B6) | (go_at_call 21; (with_reducible refine K7.mono ?_); rintro e w8 ⟨u8, rfl, hown8, hb8⟩; obtain ⟨A8, n8, c8, rfl⟩ := hown8.shape; have B8 := bthen B7 hb8; have K8 := ints_c _ _ (T.ints (T.order xs)) w8 ((s7.out.below hb8).mono hb8.size) (hown8.sl intArr_sz); clear K7 hown8 s7 hb8 B7) | (go_at_call 17; (with_reducible refine K8.mono ?_); rintro e w9 ⟨rfl, hb9⟩; have B9 := bthen B8 hb9; have K9 := text31_c _ xs w9 ((hSm.out.below B9).mono B9.size) HOK.out (by omega) (ht1.out.below B9); clear K8 B8 hb9) | (go_at_call 22; (with_reducible refine K9.mono ?_); rintro e w10 ⟨rfl, hb10⟩; have B10 := bthen B9 hb10; have K10 := rtext31_c _ xs w10 ((hSl.out.below B10).mono B10.size) HOK.out (by omega) (ht1.out.below B10); clear K9 B9 hb10) | (go_at_call 23; (with_reducible refine K10.mono ?_); rintro e w11 ⟨rfl, hb11⟩; have B11 := bthen B10 hb11; clear K10 B10 hb11) | (go_at_call 13; (with_reducible refine (awake31_c _).mono ?_); rintro e w12 ⟨rfl, hb12⟩))
    go_ret
    exact ⟨rfl, bthen hb1 (bthen B11 hb12)⟩
  · have g1 : decide ((xs.length : Int) > 40) = true := by simp; omega
    clear ht hok
    go_enter Tryd.func3, Tryd.ntmps3
    go_wp2_with (go_at_call 13; (with_reducible refine (awake31_c _).mono ?_); rintro e w1 ⟨rfl, hb1⟩)
    go_ret
    exact ⟨rfl, hb1⟩
theorem forestTells_g (v : Value) (l : List Item) (i : Int) (W : World) (ht : Tab W) (s : Sl Item.arr 17 W.heap.size W v l) (h : ∀ e ∈ l, Item.ok e) (_ : l.length * 136 ≤ 140737488351232) (_ : i64 i) :
    Calls Tryd.prog 3 #[v, .int .i64 i] W fun e w' => e = .returned (.bool true) ∧ Below W.heap.size W w' := tells31_w v l i W s h ht
end Go.Proofs.YtcncmbcnekekdaaDoor
