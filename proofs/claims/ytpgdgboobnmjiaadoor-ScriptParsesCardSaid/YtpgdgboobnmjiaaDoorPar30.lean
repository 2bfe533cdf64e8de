/- ScriptParses: its walk. -/
import Derived.Test.YtpgdgboobnmjiaaDoorRSParse
import Derived.Test.YtpgdgboobnmjiaaDoorAwake30
import Derived.Test.YtpgdgboobnmjiaaDoorRow
namespace Go.Proofs.YtpgdgboobnmjiaaDoor
open Go.RowKit Go.Shelf
set_option linter.unusedVariables false
set_option linter.unusedSimpArgs false
theorem eqZero30 (w : World) : (Op.equalIn 10000 24 (.agg (Step.arr T.zeroS)) (.agg #[.int .i64 0, .int .i64 0, .int .i64 0, .int .i64 0, .int .i64 0])).run Tryd.prog w = .ok true w := (eqTStep w T.zeroS T.zeroS).trans (by simp)
attribute [local go_sem high] eqTStep eqTStep' eqZero30
attribute [local go_sem] Step.sz bw_cell
set_option maxRecDepth 100000 in
set_option maxHeartbeats 8000000 in
theorem scriptParses_w (s : ByteArray) (w : World) (he : Env w) : Calls Tryd.prog 3 #[.string s] w fun e w' => e = .returned (.bool true) ∧ Below w.heap.size w w' := by
  obtain ⟨⟨M⟩⟩ := s
  have hs : (ByteArray.mk M.toArray).size = M.length := by simp [ByteArray.size]
  have HEV := Lib.hid (fun (X : World) (hX : Below w.heap.size w X) => awake30_c X (he.below hX))
  by_cases h200 : M.length ≤ 200
  · have hp := sparse_c M (by omega) w he
    have hq := fun (X : World) => rsparse_c M (by omega) X
    obtain ⟨d, ok, hdk⟩ : ∃ d ok, T.sparse M = (d, ok) := ⟨_, _, rfl⟩
    have hgood : ok = true → T.stepRight d = true ∧ T.stepText d = M := fun h => by have := T.sparse_some (l := M) (by rw [hdk]; exact h); rw [hdk] at this; exact this
    have hzero : ok = false → d = T.zeroS := fun h => by have := T.sparse_none (l := M) (by rw [hdk]; exact h); rw [hdk] at this; exact (Prod.mk.inj this).1
    have hdo : Step.ok d := by
      by_cases h : ok = true
      · have := T.sparse_some (l := M) (by rw [hdk]; exact h)
        have e : T.sparse M = (T.rawStep M, true) ∨ T.sparse M = (T.zeroS, false) := by unfold T.sparse; split <;> simp
        rcases e with e | e
        · rw [hdk] at e; rw [(Prod.mk.inj e).1]; exact T.rawStep_ok M
        · rw [hdk] at e; rw [(Prod.mk.inj e).2] at h; cases h
      · rw [hzero (by simpa using h)]; unfold Step.ok i64 T.zeroS; simp
    rw [hdk] at hp hq
    have HQ := Lib.hid hq
    have HG := Lib.hid hgood
    have HZ := Lib.hid hzero
    have h1 : ¬ (200 : Int) < M.length := by omega
    clear hdk hq hgood hzero h200
    go_enter Tryd.func3, Tryd.ntmps3
    go_wp2_with fail
    refine hp.mono ?_
    rintro r w2 ⟨rfl, hb2⟩
    obtain ⟨W3, hW3⟩ : ∃ W3, W3 = w2.alloc (Obj.cells (Step.arr d) 24) := ⟨_, rfl⟩
    have hb3 : Below w.heap.size w W3 := by rw [hW3]; exact hb2.alloc hb2.size _
    have hgz : w2.heap.size < W3.heap.size := by rw [hW3]; simp
    have rD3 : rowAt W3 w2.heap.size 0 5 = some (Step.arr d) := by rw [hW3]; exact rowAt_new _ _ _ _ _ rfl
    have hq := HQ.out W3
    have HW3 := Lib.hid hW3
    clear hW3 hp
    rcases ok with _ | _
    · have hd0 := HZ.out rfl
      subst hd0
      have hp1 : T.perr false = 10 := rfl
      go_wp2_with (first | (refine wpList_store_new rfl _ _ _ rfl w2.heap.size (Step.arr T.zeroS) _ _ rfl rfl rfl rfl rfl (Step.one _) ?_; rw [← HW3.out]) | (go_at_call 14; (with_reducible refine hq.mono ?_); rintro r w4 ⟨rfl, hb4⟩; have rD4 := (rowAt_block (hb4.block w2.heap.size hgz)).trans rD3; have hgz4 := Nat.lt_of_lt_of_le hgz hb4.size; have hb34 := bthen hb3 hb4; clear hq) | (refine wpList_store_new rfl _ _ _ rfl w4.heap.size (Step.arr T.zeroS) _ _ rfl rfl rfl rfl rfl (Step.one _) ?_; have hb5 := hb34.alloc hb34.size (Obj.cells (Step.arr T.zeroS) 28); have rD5 := (rowAt_alloc_old w4 (Obj.cells (Step.arr T.zeroS) 28) w2.heap.size 0 5 hgz4).trans rD4; have haw := HEV.out _ hb5) | (refine wpList_load_at_v 24 _ rfl rfl _ (0) 5 rfl _ _ rD5 rfl rfl rfl ?_) | (go_at_call 12; (with_reducible refine haw.mono ?_); rintro r w6 ⟨rfl, hb6⟩))
      go_ret
      exact ⟨rfl, bthen hb5 hb6⟩
    · obtain ⟨hright, htext⟩ := HG.out rfl
      have hp0 : T.perr true = 0 := rfl
      have R1 := fun X : World => stepRight_c d X
      rw [hright] at R1
      have H1 := Lib.hid R1
      have H5 := Lib.hid (fun X : World => theirs_c d X)
      have HTX := Lib.hid htext
      clear R1 hright htext
      go_upto_region 7 with (first | (refine wpList_store_new rfl _ _ _ rfl w2.heap.size (Step.arr d) _ _ rfl rfl rfl rfl rfl (Step.one _) ?_; rw [← HW3.out]) | (go_at_call 14; (with_reducible refine hq.mono ?_); rintro r w4 ⟨rfl, hb4⟩; have rD4 := (rowAt_block (hb4.block w2.heap.size hgz)).trans rD3; have hgz4 := Nat.lt_of_lt_of_le hgz hb4.size; have hb34 := bthen hb3 hb4; clear hq) | (refine wpList_store_new rfl _ _ _ rfl w4.heap.size (Step.arr d) _ _ rfl rfl rfl rfl rfl (Step.one _) ?_; have hb5 := hb34.alloc hb34.size (Obj.cells (Step.arr d) 28); have rD5 := (rowAt_alloc_old w4 (Obj.cells (Step.arr d) 28) w2.heap.size 0 5 hgz4).trans rD4; have rE5 : rowAt (w4.alloc (Obj.cells (Step.arr d) 28)) w4.heap.size 0 5 = some (Step.arr d) := rowAt_new _ _ _ _ _ rfl))
      obtain ⟨W5, hW5⟩ : ∃ W5, W5 = w4.alloc (Obj.cells (Step.arr d) 28) := ⟨_, rfl⟩
      rw [← hW5] at hb5 rD5 rE5 ⊢
      clear hW5
      have H3 := Lib.hid (fun X : BW W5 => by have := stepText_c d hdo X.1 ((he.below hb5).tab.below X.2); rw [HTX.out] at this; exact this)
      have H6 := Lib.hid (fun X : BW W5 => awake30_c X.1 ((he.below hb5).below X.2))
      refine wp_region_calm (by kernel_rfl) (by kernel_rfl) ?_
      repeat ((fail_if_success (with_reducible refine wpQuiet_nil ?_)); (first | go_big_quiet_skip | (refine wpQuiet_load_at (by rfl) 24 _ rfl _ 0 5 rfl _ _ rD5 rfl rfl rfl ?_; simp only [Act.put, List.setIfInBounds_toArray, List.set_cons_succ, List.set_cons_zero]) | (refine wpQuiet_load_at (by rfl) 28 _ rfl _ 0 5 rfl _ _ rE5 rfl rfl rfl ?_; simp only [Act.put, List.setIfInBounds_toArray, List.set_cons_succ, List.set_cons_zero]) | go_big_quiet_step ((first | (go_at_call 16; exact calm_of (H1.out _)) | (go_at_call 17; exact calm_of (H3.out _)) | (go_at_call 15; exact calm_of (H5.out _)) | (go_at_call 12; exact calm_of (H6.out _))))))
      refine wpQuiet_nil ?_
      rintro _ ⟨⟨X, hX⟩, rfl⟩
      go_wp2
      go_ret
      exact ⟨rfl, bthen hb5 hX⟩
  · have h1 : (200 : Int) < M.length := by omega
    have haw := HEV.out w (Below.refl _ _)
    go_enter Tryd.func3, Tryd.ntmps3
    go_wp2_with (go_at_call 12; (with_reducible refine haw.mono ?_); rintro r w6 ⟨rfl, hb6⟩)
    go_ret
    exact ⟨rfl, hb6⟩
theorem scriptParses_g (s : ByteArray) (W : World) (he : Env W) (_ : s.size ≤ 140737488351232) :
    Calls Tryd.prog 3 #[.string s] W fun e w' => e = .returned (.bool true) ∧ Below W.heap.size W w' := scriptParses_w s W he
end Go.Proofs.YtpgdgboobnmjiaaDoor
