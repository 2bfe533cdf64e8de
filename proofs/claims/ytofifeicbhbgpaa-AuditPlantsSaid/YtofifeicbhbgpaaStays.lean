/- AuditStays: the plain law; its walk. -/
import Derived.Test.YtofifeicbhbgpaaAwake32
import Derived.Test.YtofifeicbhbgpaaHeadP
namespace Go.Proofs.Ytofifeicbhbgpaa
open Go.RowKit Go.Shelf
set_option linter.unusedVariables false
set_option linter.unusedSimpArgs false
attribute [local go_sem] Config.sz Find.sz Find.at0 Find.at1 bw_cell
attribute [local go_sem high] eqTFind

theorem T.found_at (c : Config) (xs : List Event) (at_ : Nat) (e : Event) : ∀ (k : Nat) (f : Find), f ∈ T.found c xs at_ e k → f.at_ = (at_ : Int)
  | 0, f, h => by simp [T.found] at h
  | k + 1, f, h => by
    simp only [T.found, List.mem_append] at h
    rcases h with h | h
    · exact T.found_at c xs at_ e k f h
    · split at h
      · simp at h; rw [h]
      · simp at h
theorem T.chk_take (c : Config) (l : List Event) (n : Nat) : ∀ k, k ≤ n → T.chk c (l.take n) k = T.chk c l k
  | 0, _ => rfl
  | k + 1, h => by
    have h1 : (l.take n)[k]? = l[k]? := by rw [List.getElem?_take, if_pos (by omega)]
    have h2 : (l.take n).take k = l.take k := by rw [List.take_take, Nat.min_eq_left (by omega)]
    simp only [T.chk, h1, h2]
    rw [T.chk_take c l n k (by omega)]
theorem T.chk_low (c : Config) (l : List Event) : ∀ (k : Nat) (f : Find), f ∈ T.chk c l k → 0 ≤ f.at_ ∧ f.at_ < (k : Int)
  | 0, f, h => by simp [T.chk] at h
  | k + 1, f, h => by
    simp only [T.chk, List.mem_append] at h
    rcases h with h | h
    · have := T.chk_low c l k f h; omega
    · cases hl : l[k]? with
      | none => rw [hl] at h; simp at h
      | some e =>
        rw [hl] at h
        have := T.found_at c _ k e 12 f h
        omega
theorem T.chk_stays (c : Config) (l : List Event) (n : Nat) : ∀ m, (T.chk c l (n + m)).filter (fun f => decide (f.at_ < (n : Int))) = T.chk c (l.take n) n
  | 0 => by
    rw [T.chk_take c l n n (Nat.le_refl _), List.filter_eq_self.2]
    · rfl
    · intro f hf
      have := (T.chk_low c l n f hf).2
      simpa using this
  | m + 1 => by
    rw [← Nat.add_assoc]
    simp only [T.chk, List.filter_append]
    rw [T.chk_stays c l n m]
    have key : ∀ z : List Find, (∀ f ∈ z, f.at_ = ((n + m : Nat) : Int)) → z.filter (fun f : Find => decide (f.at_ < (n : Int))) = [] := by
      intro z hz
      rw [List.filter_eq_nil_iff]
      intro f hf
      have := hz f hf
      simp; omega
    rw [key _ (by
      intro f hf
      cases hl : l[n + m]? with
      | none => rw [hl] at hf; simp at hf
      | some e => rw [hl] at hf; exact T.found_at c _ _ e 12 f hf), List.append_nil]
theorem T.filter_at {α : Type} (F : α → Bool) (xs : List α) (i : Nat) (x : α) (hx : xs[i]? = some x) (hF : F x = true) : (xs.filter F)[((xs.take i).filter F).length]? = some x := by
  have hi := (List.getElem?_eq_some_iff.1 hx).1
  have e : xs = xs.take i ++ (x :: xs.drop (i + 1)) := by
    have h1 := List.take_append_drop i xs
    rw [List.drop_eq_getElem_cons hi, (List.getElem?_eq_some_iff.1 hx).2] at h1
    exact h1.symm
  have h2 : xs.filter F = (xs.take i).filter F ++ x :: (xs.drop (i + 1)).filter F := by
    conv => lhs; rw [e]
    rw [List.filter_append, List.filter_cons_of_pos hF]
  rw [h2, List.getElem?_append_right (Nat.le_refl _)]
  simp
set_option maxRecDepth 100000 in
set_option maxHeartbeats 1000000 in
theorem stays_out (c : Config) (v : Value) (l : List Event) (n : Int) (w : World) (h : Sl Event.arr 18 w.heap.size w v l) (hno : 40 < l.length ∨ n < 0 ∨ (l.length : Int) < n) :
    Calls Try.prog 4 #[.agg (Config.arr c), v, .int .i64 n] w fun e w' => e = .returned (.bool true) ∧ Below w.heap.size w w' := by
  obtain ⟨A, cap, rfl, hcap, hl1, hl2⟩ := h.view
  have hB : Below w.heap.size w (w.alloc (Obj.cells (Config.arr c) 40)) := (Below.refl _ w).alloc (Nat.le_refl _) _
  have HB := Lib.hid hB
  clear hB
  by_cases h1 : 40 < l.length
  · clear hno
    go_enter Try.func4, Try.ntmps4
    go_wp2_with (go_at_call 12; (with_reducible refine (awake32_c _).mono ?_); rintro e w1 ⟨rfl, hb1⟩)
    go_ret
    exact ⟨rfl, bthen HB.out hb1⟩
  by_cases h2 : n < 0
  · have h1' : decide (40 < (l.length : Int)) = false := by simp; omega
    have h2' : decide (n < 0) = true := by simpa using h2
    clear hno
    go_enter Try.func4, Try.ntmps4
    go_wp2_with (go_at_call 12; (with_reducible refine (awake32_c _).mono ?_); rintro e w1 ⟨rfl, hb1⟩)
    go_ret
    exact ⟨rfl, bthen HB.out hb1⟩
  · have h1' : decide (40 < (l.length : Int)) = false := by simp; omega
    have h2' : decide (n < 0) = false := by simpa using h2
    have h3' : decide ((l.length : Int) < n) = true := by simp; omega
    clear hno
    go_enter Try.func4, Try.ntmps4
    go_wp2_with (go_at_call 12; (with_reducible refine (awake32_c _).mono ?_); rintro e w1 ⟨rfl, hb1⟩)
    go_ret
    exact ⟨rfl, bthen HB.out hb1⟩
set_option maxRecDepth 100000 in
set_option maxHeartbeats 4000000 in
theorem stays_in (c : Config) (v : Value) (l : List Event) (n : Nat) (w : World) (h : Sl Event.arr 18 w.heap.size w v l) (h40 : l.length ≤ 40) (hnl : n ≤ l.length) (hok : ∀ e ∈ l, e.hop ≤ 9223372036854775807) :
    Calls Try.prog 4 #[.agg (Config.arr c), v, .int .i64 (n : Int)] w fun e w' => e = .returned (.bool true) ∧ Below w.heap.size w w' := by
  obtain ⟨A, cap, rfl, hcap, hl1, hl2⟩ := h.view
  obtain ⟨W0, hW0⟩ : ∃ W0, W0 = w.alloc (Obj.cells (Config.arr c) 40) := ⟨_, rfl⟩
  have hs0 : W0.heap.size = w.heap.size + 1 := by rw [hW0]; simp
  have hB0 : Below w.heap.size w W0 := by rw [hW0]; exact (Below.refl _ w).alloc (Nat.le_refl _) _
  have rC : rowAt W0 w.heap.size 0 14 = some (Config.arr c) := by rw [hW0]; exact rowAt_new _ _ _ _ _ rfl
  have hS0 := (h.below hB0).mono hB0.size
  have hst := hS0.take n hnl
  have hst' : T.chk c (l.take n) (l.take n).length = (T.chk c l l.length).filter (fun f => decide (f.at_ < (n : Int))) := by
    have := T.chk_stays c l n (l.length - n)
    rw [show n + (l.length - n) = l.length by omega] at this
    rw [this, List.length_take, Nat.min_eq_left hnl]
  have HX := fun X (hX : Below W0.heap.size W0 X) => check_c (.slice A l.length cap) l c X ((hS0.below hX).mono hX.size) (by omega) hok
  have HY := fun X (hX : Below W0.heap.size W0 X) => check_c (.slice A n cap) (l.take n) c X ((hst.below hX).mono hX.size) (by rw [List.length_take]; omega) (fun e he => hok e (List.mem_of_mem_take he))
  obtain ⟨xs, hxs⟩ : ∃ xs, xs = T.chk c l l.length := ⟨_, rfl⟩
  have hxl : xs.length ≤ 480 := by rw [hxs]; have := T.chk_len c l l.length; omega
  obtain ⟨ys, hys⟩ : ∃ ys, ys = T.chk c (l.take n) (l.take n).length := ⟨_, rfl⟩
  rw [← hxs] at HX hst'
  rw [← hys] at HY hst'
  have hyl : ys.length ≤ 480 := by rw [hst']; exact Nat.le_trans (List.length_filter_le _ _) hxl
  have HF := Lib.hid hst'
  have h1' : decide (40 < (l.length : Int)) = false := by simp; omega
  have h2' : decide ((n : Int) < 0) = false := by simp
  have h3' : decide ((l.length : Int) < (n : Int)) = false := by simp; omega
  have h3'' : decide (l.length < n) = false := by simp; omega
  have n0 : (0 : Int) ≤ (n : Int) := by omega
  have n1 : (n : Int) ≤ (cap : Int) := by omega
  have HW := Lib.hid hW0
  clear hW0 hst' hxs hys hok hst
  go_enter Try.func4, Try.ntmps4
  go_wp2
  rw [← HW.out]
  refine wp_region_P 9 [2, 7, 8, 9] [0, 3, 1, 4, 5, 6, 2, 7, 8, 9] (fun X => Below W0.heap.size W0 X) (by kernel_rfl) (by kernel_rfl) (by kernel_rfl) (by decide) (by simp only [ordOps, List.map_cons, List.map_nil, List.getElem?_cons_succ, List.getElem?_cons_zero, Option.getD_some]; repeat (first | exact trivial | refine ⟨.inl rfl, ?_⟩ | refine ⟨.inr fun _ _ _ _ h => h, ?_⟩)) ?_ ?_
  rotate_left; simp only [ordOps, List.map_cons, List.map_nil, List.getElem?_cons_succ, List.getElem?_cons_zero, Option.getD_some]; rotate_left
  · exact (Below.refl _ W0).drew
  refine wpP_q (by rfl) (by rfl) (.agg (Config.arr c)) ?_ ?_
  · intro X hX
    exact yields_load_at 40 _ rfl w.heap.size 0 14 rfl (Config.arr c) _ Try.underlying40 rfl (by kernel_rfl) ((rowAt_block (hX.block w.heap.size (by omega))).trans rC)
  simp only [Act.put, List.setIfInBounds_toArray, List.set_cons_succ, List.set_cons_zero]
  refine wpP_q (by rfl) (by rfl) (.agg (Config.arr c)) ?_ ?_
  · intro X hX
    exact yields_load_at 40 _ rfl w.heap.size 0 14 rfl (Config.arr c) _ Try.underlying40 rfl (by kernel_rfl) ((rowAt_block (hX.block w.heap.size (by omega))).trans rC)
  simp only [Act.put, List.setIfInBounds_toArray, List.set_cons_succ, List.set_cons_zero]
  repeat ((first | (refine wpP_q (by rfl) (by rfl) ?_ ?_ ?_; rotate_left; focus (rintro W hX; go_simp; try (with_reducible rfl); done)) | refine wpP_skip (by rfl) (by rfl) ?_); try simp only [Act.put, List.setIfInBounds_toArray, List.set_cons_succ, List.set_cons_zero])
  refine wpP_a (by rfl) (by rfl) fun K hK => ?_
  go_simp
  refine (HX _ (Below.refl _ W0).drew).mono ?_
  rintro r w3 ⟨ux, rfl, hox, hb3⟩
  have hB3 : Below W0.heap.size W0 w3 := (Below.refl _ W0).drew.trans hb3
  refine hK _ _ (fun _ => hB3) ?_; clear hK K; try simp only [Act.put, List.setIfInBounds_toArray, List.set_cons_succ, List.set_cons_zero]
  repeat ((first | (refine wpP_q (by rfl) (by rfl) ?_ ?_ ?_; rotate_left; focus (rintro W hX; go_simp; try (with_reducible rfl); done)) | refine wpP_skip (by rfl) (by rfl) ?_); try simp only [Act.put, List.setIfInBounds_toArray, List.set_cons_succ, List.set_cons_zero])
  refine wpP_a (by rfl) (by rfl) fun K hK => ?_
  go_simp
  refine (HY _ hB3).mono ?_
  rintro r w4 ⟨uy, rfl, hoy, hb4⟩
  have hB4 : Below W0.heap.size W0 w4 := bthen hB3 hb4
  have hox4 := hox.below hb4
  have hSx := hox4.sl Find.sz
  have hSy := hoy.sl Find.sz
  obtain ⟨Ax, nx, cx, rfl⟩ := hox4.shape
  obtain ⟨Ay, ny, cy, rfl⟩ := hoy.shape
  obtain rfl := hox4.len
  obtain rfl := hoy.len
  refine hK _ _ (fun _ => hB4) ?_; clear hK K; try simp only [Act.put, List.setIfInBounds_toArray, List.set_cons_succ, List.set_cons_zero]
  refine wpP_a (by rfl) (by rfl) fun K hK => ?_
  go_simp
  refine hK _ _ (fun _ => hB4) ?_; clear hK K; try simp only [Act.put, List.setIfInBounds_toArray, List.set_cons_succ, List.set_cons_zero]
  refine wpP_a (by rfl) (by rfl) fun K hK => ?_
  go_simp
  refine hK _ _ (fun h => absurd h (by omega)) ?_; clear hK K; try simp only [Act.put, List.setIfInBounds_toArray, List.set_cons_succ, List.set_cons_zero]
  refine wpP_nil ?_
  clear HX HY hox hoy hox4 rC hS0 h hb3 hb4 hB3
  have hBw := bthen hB0 hB4
  go_wp2
  go_loopw [9, 10] (fun kv iv wr => ∃ i : Nat, i ≤ xs.length ∧ iv = .int .i64 (i : Int) ∧ kv = .int .i64 (((xs.take i).filter (fun f => decide (f.at_ < (n : Int)))).length : Int) ∧ Below w4.heap.size w4 wr) (fun _ iv _ => xs.length - (intOf iv).toNat)
  case atStart => exact ⟨0, Nat.zero_le _, rfl, rfl, Below.refl _ _⟩
  case round =>
    obtain ⟨i, hi, rfl, rfl, hB5⟩ := hrel
    by_cases hil : i < xs.length
    · obtain ⟨bx, ox, rfl, hbx, hrx, _⟩ := (hSx.below hB5).at hil
      obtain ⟨x, hx⟩ : ∃ x, x = xs[i] := ⟨_, rfl⟩
      rw [← hx] at hrx
      have hxo : xs[i]? = some x := by rw [hx]; exact List.getElem?_eq_getElem hil
      have hnext : xs.take (i + 1) = xs.take i ++ [x] := by rw [hx]; simp
      have cx := rowAt_cell hrx 1 (by omega)
      have cx : wr.cell? ⟨bx, ox + i * 2 + 1, none⟩ = some (.int .i64 x.at_) := cx
      have hfl := List.length_filter_le (fun f : Find => decide (f.at_ < (n : Int))) (xs.take i)
      have htl : (xs.take i).length ≤ i := List.length_take_le _ _
      obtain ⟨k, hk⟩ : ∃ k, k = ((xs.take i).filter (fun f : Find => decide (f.at_ < (n : Int)))).length := ⟨_, rfl⟩
      rw [← hk] at hfl ⊢
      rcases g : decide ((n : Int) ≤ x.at_) with _ | _
      · have hF : decide (x.at_ < (n : Int)) = true := by simp at g ⊢; omega
        have hyk : ys[k]? = some x := by have := T.filter_at (fun f : Find => decide (f.at_ < (n : Int))) xs i x hxo hF; rw [HF.out, hk]; exact this
        have hkl := (List.getElem?_eq_some_iff.1 hyk).1
        obtain ⟨by_, oy, rfl, hby, hry, _⟩ := (hSy.below hB5).at hkl
        rw [(List.getElem?_eq_some_iff.1 hyk).2] at hry
        have hn2 := Lib.hid (show ((xs.take (i + 1)).filter (fun f : Find => decide (f.at_ < (n : Int)))).length = k + 1 by rw [hnext, List.filter_append, List.length_append, ← hk]; simp [List.filter_cons, hF])
        have hlt1 : decide ((ys.length : Int) ≤ (k : Int)) = false := by simp; omega
        have hlt2 : decide (ys.length ≤ k) = false := by simp; omega
        have hki : (k : Int) < ys.length := by omega
        have hii : (i : Int) < xs.length := by omega
        clear hx hxo hnext hk hF hyk
        go_wp2
        refine wp_region_calm (by kernel_rfl) (by kernel_rfl) ?_
        repeat ((fail_if_success (with_reducible refine wpQuiet_nil ?_)); (first | go_big_quiet_skip | (refine wpQuiet_load_at (by rfl) 45 _ rfl _ (ox+i*2) 2 rfl _ _ hrx rfl rfl rfl ?_; simp only [Act.put, List.setIfInBounds_toArray, List.set_cons_succ, List.set_cons_zero]) | (refine wpQuiet_load_at (by rfl) 45 _ rfl _ (oy+k*2) 2 rfl _ _ hry rfl rfl rfl ?_; simp only [Act.put, List.setIfInBounds_toArray, List.set_cons_succ, List.set_cons_zero]) | go_big_quiet_step (fail)))
        refine wpQuiet_nil ?_
        rintro _ ⟨⟨w6, hb6⟩, rfl⟩
        go_wp2
        go_roundw
        case rel => exact ⟨i + 1, by omega, by go_num, by rw [hn2.out]; go_num, bthen hB5 hb6⟩
        case measure => simp [intOf]; omega
      · have hF : decide (x.at_ < (n : Int)) = false := by simp at g ⊢; omega
        have hn2 := Lib.hid (show ((xs.take (i + 1)).filter (fun f : Find => decide (f.at_ < (n : Int)))).length = k by rw [hnext, List.filter_append, List.length_append, ← hk]; simp [List.filter_cons, hF])
        clear hx hxo hnext hk hF
        go_wp2
        go_roundw
        case rel => exact ⟨i + 1, by omega, by go_num, by rw [hn2.out], hB5⟩
        case measure => simp [intOf]; omega
    · obtain rfl : i = xs.length := by omega
      have hky : ((xs.take xs.length).filter (fun f => decide (f.at_ < (n : Int)))).length = ys.length := by rw [List.take_length, HF.out]
      rw [hky]
      have heq : ((ys.length : Int) == (ys.length : Int)) = true := by simp
      go_wp2_with (go_at_call 12; (with_reducible refine (awake32_c _).mono ?_); rintro e w6 ⟨rfl, hb6⟩)
      go_ret
      exact ⟨rfl, bthen hBw (bthen hB5 hb6)⟩
theorem stays_w (c : Config) (v : Value) (l : List Event) (n : Int) (w : World) (h : Sl Event.arr 18 w.heap.size w v l) (hok : ∀ e ∈ l, e.hop ≤ 9223372036854775807) :
    Calls Try.prog 4 #[.agg (Config.arr c), v, .int .i64 n] w fun e w' => e = .returned (.bool true) ∧ Below w.heap.size w w' := by
  by_cases hno : 40 < l.length ∨ n < 0 ∨ (l.length : Int) < n
  · exact stays_out c v l n w h hno
  · obtain ⟨k, rfl⟩ : ∃ k : Nat, n = k := ⟨n.toNat, by omega⟩
    exact stays_in c v l k w h (by omega) (by omega) hok
end Go.Proofs.Ytofifeicbhbgpaa
