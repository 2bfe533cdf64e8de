/- IdentParses: its walk. -/
import Derived.Test.YtcncmbcnekekdaaDoorRParse
import Derived.Test.YtcncmbcnekekdaaDoorAwake07
import Derived.Test.YtcncmbcnekekdaaDoorRow
namespace Go.Proofs.YtcncmbcnekekdaaDoor
open Go.RowKit Go.Shelf
set_option linter.unusedVariables false
set_option linter.unusedSimpArgs false
attribute [local go_sem high] eqTId
attribute [local go_sem] Id.sz
theorem bytes_cut (l : List UInt8) (k : Nat) : (ByteArray.mk l.toArray).extract 0 k = ⟨(l.take k).toArray⟩ := by
  rw [ByteArray.ext_iff, ByteArray.data_extract]
  simp
set_option maxRecDepth 100000 in
set_option maxHeartbeats 4000000 in
theorem identParses_w (s : ByteArray) (w : World) (he : Env w) : Calls Tryd.prog 4 #[.string s] w fun e w' => e = .returned (.bool true) ∧ Below w.heap.size w w' := by
  obtain ⟨⟨l⟩⟩ := s
  have hs : (ByteArray.mk l.toArray).size = l.length := by simp [ByteArray.size]
  by_cases h60 : l.length ≤ 60
  · obtain ⟨M, hM⟩ : ∃ M, M = l := ⟨_, rfl⟩
    have hMl : M.length ≤ 60 := by rw [hM]; exact h60
    have hp := parse_c M (by omega) w he
    have hq := fun (X : World) (hX : Below w.heap.size w X) => rparse_c M (by omega) X (he.tab.below hX)
    rw [T.parse_same] at hq
    obtain ⟨d, ok, hdk⟩ : ∃ d ok, T.parse M = (d, ok) := ⟨_, _, rfl⟩
    rw [hdk] at hp hq
    have HQ := Lib.hid hq
    have HEV := Lib.hid (fun (X : World) (hX : Below w.heap.size w X) => awake07_c X (he.below hX))
    clear hdk hq he
    have h1 : ¬ (60 : Int) < l.length := by omega
    rw [← hM] at hs h1 ⊢
    clear hM h60
    go_enter Tryd.func4, Tryd.ntmps4
    go_wp2_with fail
    rcases ok with _ | _
    all_goals
      refine hp.mono ?_
      rintro r w2 ⟨rfl, hb2⟩
      obtain ⟨W3, hW3⟩ : ∃ W3, W3 = w2.alloc (Obj.cells (Id.arr d) 38) := ⟨_, rfl⟩
      have hb3 : Below w.heap.size w W3 := by rw [hW3]; exact hb2.alloc hb2.size _
      have hgz : w2.heap.size < W3.heap.size := by rw [hW3]; simp
      have rD3 : rowAt W3 w2.heap.size 0 3 = some (Id.arr d) := by rw [hW3]; exact rowAt_new _ _ _ _ _ rfl
      have hq := HQ.out W3 hb3
      have HW3 := Lib.hid hW3
      have hp0 : T.perr true = 0 := rfl
      have hp1 : T.perr false = 10 := rfl
      clear hW3
      go_wp2_with (first | (refine wpList_store_new rfl _ _ _ rfl w2.heap.size (Id.arr d) _ _ rfl rfl rfl rfl rfl (Id.one _) ?_; rw [← HW3.out]) | (go_at_call 25; (with_reducible refine hq.mono ?_); rintro r w4 ⟨rfl, hb4⟩; have rD4 := (rowAt_block (hb4.block w2.heap.size hgz)).trans rD3; have hgz4 := Nat.lt_of_lt_of_le hgz hb4.size; have hb34 := bthen hb3 hb4; clear hq) | (refine wpList_store_new rfl _ _ _ rfl w4.heap.size (Id.arr d) _ _ rfl rfl rfl rfl rfl (Id.one _) ?_; have hb5 := hb34.alloc hb34.size (Obj.cells (Id.arr d) 38); have rD5 := (rowAt_alloc_old w4 (Obj.cells (Id.arr d) 38) w2.heap.size 0 3 hgz4).trans rD4; have rE5 : rowAt (w4.alloc (Obj.cells (Id.arr d) 38)) w4.heap.size 0 3 = some (Id.arr d) := rowAt_new _ _ _ _ _ rfl; have haw := HEV.out _ hb5) | (refine wpList_load_at_v 38 _ rfl rfl _ (0) 3 rfl _ _ rD5 rfl rfl rfl ?_) | (refine wpList_load_at_v 38 _ rfl rfl _ (0) 3 rfl _ _ rE5 rfl rfl rfl ?_) | (go_at_call 26; (with_reducible refine haw.mono ?_); rintro r w6 ⟨rfl, hb6⟩))
      go_ret
      exact ⟨rfl, bthen hb5 hb6⟩
  · obtain ⟨M, hM⟩ : ∃ M, M = l.take 60 := ⟨_, rfl⟩
    have hMl : M.length ≤ 60 := by rw [hM, List.length_take]; omega
    have HX := Lib.hid (show (ByteArray.mk l.toArray).extract 0 60 = ⟨M.toArray⟩ by rw [hM]; exact bytes_cut l 60)
    have hp := parse_c M (by omega) w he
    have hq := fun (X : World) (hX : Below w.heap.size w X) => rparse_c M (by omega) X (he.tab.below hX)
    rw [T.parse_same] at hq
    obtain ⟨d, ok, hdk⟩ : ∃ d ok, T.parse M = (d, ok) := ⟨_, _, rfl⟩
    rw [hdk] at hp hq
    have HQ := Lib.hid hq
    have HEV := Lib.hid (fun (X : World) (hX : Below w.heap.size w X) => awake07_c X (he.below hX))
    clear hdk hq he
    have h1 : (60 : Int) < l.length := by omega
    clear hM
    go_enter Tryd.func4, Tryd.ntmps4
    go_upto_region 3 with (fail)
    rw [HX.out]
    go_wp2_with fail
    rcases ok with _ | _
    all_goals
      refine hp.mono ?_
      rintro r w2 ⟨rfl, hb2⟩
      obtain ⟨W3, hW3⟩ : ∃ W3, W3 = w2.alloc (Obj.cells (Id.arr d) 38) := ⟨_, rfl⟩
      have hb3 : Below w.heap.size w W3 := by rw [hW3]; exact hb2.alloc hb2.size _
      have hgz : w2.heap.size < W3.heap.size := by rw [hW3]; simp
      have rD3 : rowAt W3 w2.heap.size 0 3 = some (Id.arr d) := by rw [hW3]; exact rowAt_new _ _ _ _ _ rfl
      have hq := HQ.out W3 hb3
      have HW3 := Lib.hid hW3
      have hp0 : T.perr true = 0 := rfl
      have hp1 : T.perr false = 10 := rfl
      clear hW3
      go_wp2_with (first | (refine wpList_store_new rfl _ _ _ rfl w2.heap.size (Id.arr d) _ _ rfl rfl rfl rfl rfl (Id.one _) ?_; rw [← HW3.out]) | (go_at_call 25; (with_reducible refine hq.mono ?_); rintro r w4 ⟨rfl, hb4⟩; have rD4 := (rowAt_block (hb4.block w2.heap.size hgz)).trans rD3; have hgz4 := Nat.lt_of_lt_of_le hgz hb4.size; have hb34 := bthen hb3 hb4; clear hq) | (refine wpList_store_new rfl _ _ _ rfl w4.heap.size (Id.arr d) _ _ rfl rfl rfl rfl rfl (Id.one _) ?_; have hb5 := hb34.alloc hb34.size (Obj.cells (Id.arr d) 38); have rD5 := (rowAt_alloc_old w4 (Obj.cells (Id.arr d) 38) w2.heap.size 0 3 hgz4).trans rD4; have rE5 : rowAt (w4.alloc (Obj.cells (Id.arr d) 38)) w4.heap.size 0 3 = some (Id.arr d) := rowAt_new _ _ _ _ _ rfl; have haw := HEV.out _ hb5) | (refine wpList_load_at_v 38 _ rfl rfl _ (0) 3 rfl _ _ rD5 rfl rfl rfl ?_) | (refine wpList_load_at_v 38 _ rfl rfl _ (0) 3 rfl _ _ rE5 rfl rfl rfl ?_) | (go_at_call 26; (with_reducible refine haw.mono ?_); rintro r w6 ⟨rfl, hb6⟩))
      go_ret
      exact ⟨rfl, bthen hb5 hb6⟩
theorem identParses_g (s : ByteArray) (W : World) (he : Env W) (_ : s.size ≤ 140737488351232) :
    Calls Tryd.prog 4 #[.string s] W fun e w' => e = .returned (.bool true) ∧ Below W.heap.size W w' := identParses_w s W he
end Go.Proofs.YtcncmbcnekekdaaDoor
