/- SetupTells: its walk. -/
import Derived.Test.YtpgdgboobnmjiaaGreatDoorSetRead
import Derived.Test.YtpgdgboobnmjiaaGreatDoorSetText
import Derived.Test.YtpgdgboobnmjiaaGreatDoorCfgs
import Derived.Test.YtpgdgboobnmjiaaGreatDoorHeadR
namespace Go.Proofs.YtpgdgboobnmjiaaGreatDoor
open Go.RowKit Go.Shelf Go.ChangeShapes Go.WideShapes Go.ChangeAt Go.Deep
set_option linter.unusedVariables false
set_option linter.unusedSimpArgs false
theorem Config.ok_ints {c : Config} (h : Config.ok c) : ∀ z ∈ c.ints, i64 z := by
  obtain ⟨h0, h1, h2, h3, h4, h5, h6, h7, h8, h9, h10, h11, h12⟩ := h
  intro z hz
  simp only [Config.ints, List.mem_cons, List.not_mem_nil, or_false] at hz
  rcases hz with rfl | rfl | rfl | rfl | rfl | rfl | rfl | rfl | rfl | rfl | rfl | rfl | rfl <;> assumption
theorem Config.set_back (c : Config) (n : Int) : ∀ k, k < 13 → Config.setK (Config.setK c k n) k (c.ints.getD k 0) = c := T.cases13 ⟨rfl, rfl, rfl, rfl, rfl, rfl, rfl, rfl, rfl, rfl, rfl, rfl, rfl⟩
theorem Config.set_get (c : Config) (n : Int) : ∀ k, k < 13 → (Config.setK c k n).ints.getD k 0 = n := T.cases13 ⟨rfl, rfl, rfl, rfl, rfl, rfl, rfl, rfl, rfl, rfl, rfl, rfl, rfl⟩
theorem T.set_in (c : Config) (k : Nat) (n : Int) (h : k < 13) : T.set c (k : Int) n = Config.setK c k n := by unfold T.set; rw [if_pos (by omega), Int.toNat_natCast]
theorem T.get_in (c : Config) (k : Nat) (h : k < 13) : T.get c (k : Int) = c.ints.getD k 0 := by unfold T.get; rw [if_pos (by omega), Int.toNat_natCast]
theorem T.small_iff (ps : List PV) (h : T.small ps = true) : ps.length ≤ 20 ∧ ∀ p ∈ ps, p.xs.length ≤ 20 := by
  unfold T.small at h
  rw [Bool.and_eq_true, decide_eq_true_eq, List.all_eq_true] at h
  exact ⟨h.1, fun p hp => by simpa using h.2 p hp⟩
attribute [local go_sem] Config.sz bw_cell
set_option maxRecDepth 100000 in
set_option maxHeartbeats 16000000 in
theorem setupTells_g {H : Type} {enc : TypeId × Value → H} (c : Config) (k n : Int) (w : World) (he : Env w) (hok : Config.ok c) (hg : ∃ fuel y, DataW.trod enc Tryz.prog w 0 (fun _ => true) true fuel 22 [c.progs] = some y) (_ : i64 k) (_ : i64 n) :
    Calls Tryz.prog 3 #[.agg (Config.arr c), .int .i64 k, .int .i64 n] w fun e w' => e = .returned (.bool true) ∧ Below w.heap.size w w' := by
  obtain ⟨ps, h, hpo⟩ := pvs_open hg
  obtain ⟨A, cap, hv, hcap, hl1, hl2⟩ := h.view
  have hci := Config.ok_ints hok
  obtain ⟨W1, hW1⟩ : ∃ W1, W1 = w.alloc (.cells (Config.arr c) 24) := ⟨_, rfl⟩
  have hB1 : Below w.heap.size w W1 := by rw [hW1]; exact (Below.refl _ w).alloc (Nat.le_refl _) _
  have hz1 : w.heap.size < W1.heap.size := by rw [hW1]; simp
  have hr : rowAt W1 w.heap.size 0 14 = some (Config.arr c) := by rw [hW1]; exact rowAt_new _ _ _ _ _ rfl
  have S (X : World) (hX : Below W1.heap.size W1 X) : Sl PV.arr 1 X.heap.size X c.progs ps ∧ ∀ p ∈ ps, PV.ok X p :=
    ⟨(h.below (bthen hB1 hX)).mono (bthen hB1 hX).size, fun p hp => PV.below (hpo p hp) (bthen hB1 hX)⟩
  have HS := Lib.hid S
  have HEV := Lib.hid (fun (X : World) (hX : Below W1.heap.size W1 X) => awake29_c X (he.below (bthen hB1 hX)))
  have HEN := Lib.hid (fun (X : World) (hX : Below W1.heap.size W1 X) => he.below (bthen hB1 hX))
  have hsm := small_c c ps W1 (S W1 (Below.refl _ _)).1 (S W1 (Below.refl _ _)).2
  have HW := Lib.hid hW1
  have HV := Lib.hid hv
  have HCI := Lib.hid hci
  have hsh : ∃ A n cap, c.progs = .slice A n cap := ⟨_, _, _, hv⟩
  clear hW1 hv S hg hci hpo h hok
  rcases hs : T.small ps with _ | _
  · rw [hs] at hsm
    clear hs
    go_enter Tryz.func3, Tryz.ntmps3
    go_upto_region 1 with (fail)
    rw [← HW.out]
    go_wp2_with (first | (refine wpList_load_at_v 24 _ rfl rfl _ (0) 14 rfl _ _ hr rfl rfl rfl ?_) | (go_at_call 6; (with_reducible refine hsm.mono ?_); rintro r w2 ⟨rfl, hb2⟩; have haw := HEV.out w2 hb2) | (go_at_call 7; (with_reducible refine haw.mono ?_); rintro r w6 ⟨rfl, hb6⟩))
    go_ret
    exact ⟨rfl, bthen hB1 (bthen hb2 hb6)⟩
  · rw [hs] at hsm
    obtain ⟨hn20, hs20⟩ := T.small_iff ps hs
    have HST := Lib.hid (fun (X : World) (hX : Below W1.heap.size W1 X) => stext_c c HCI.out ps X (HS.out X hX).1 (HS.out X hX).2 hn20 hs20 (HEN.out X hX))
    have HSR := Lib.hid (fun (X : World) (hX : Below W1.heap.size W1 X) => rstext_c c HCI.out ps X (HS.out X hX).1 (HS.out X hX).2 hn20 hs20)
    have HSAME := Lib.hid (fun (X : World) (hX : Below W1.heap.size W1 X) (a b : Config) (ha : a = b) (hp : b.progs = c.progs) => rsame29_c a b ps ps X (by rw [ha, hp]; exact (HS.out X hX).1) (HS.out X hX).2 (by rw [hp]; exact (HS.out X hX).1) (HS.out X hX).2 (by rw [ha]) rfl (fun p hp => Nat.le_trans (hs20 p hp) (by omega)))
    generalize T.cfgText c ps = tx at HST HSR
    have HS20 := Lib.hid hs20
    clear hs hs20
    go_enter Tryz.func3, Tryz.ntmps3
    go_upto_region 1 with (fail)
    rw [← HW.out]
    go_upto_region 3 with (first | (refine wpList_load_at_v 24 _ rfl rfl _ (0) 14 rfl _ _ hr rfl rfl rfl ?_) | (go_at_call 6; (with_reducible refine hsm.mono ?_); rintro r w2 ⟨rfl, hb2⟩))
    have hr2 := (rowAt_block (hb2.block w.heap.size hz1)).trans hr
    have hz2 : w.heap.size < w2.heap.size := by have := hb2.size; omega
    clear hsm hr
    refine wp_region_P 2 [0, 2, 3, 4] [1, 0, 2, 3, 4] (fun X => Below w2.heap.size w2 X) (by kernel_rfl) (by kernel_rfl) (by kernel_rfl) (by decide) (by simp only [ordOps, List.map_cons, List.map_nil, List.getElem?_cons_succ, List.getElem?_cons_zero, Option.getD_some]; repeat (first | exact trivial | refine ⟨.inl rfl, ?_⟩ | refine ⟨.inr fun _ _ _ _ h => h, ?_⟩)) ?_ ?_
    rotate_left; simp only [ordOps, List.map_cons, List.map_nil, List.getElem?_cons_succ, List.getElem?_cons_zero, Option.getD_some]; rotate_left
    · exact (Below.refl _ w2).drew
    refine wpP_q (by rfl) (by rfl) (.agg (Config.arr c)) ?_ ?_
    · intro X hX; exact yields_load_at 24 _ rfl w.heap.size (0) 14 rfl (Config.arr c) _ Tryz.underlying24 rfl (by kernel_rfl) ((rowAt_block (hX.block w.heap.size hz2)).trans hr2)
    simp only [Act.put, List.setIfInBounds_toArray, List.set_cons_succ, List.set_cons_zero]
    refine wpP_a (by rfl) (by rfl) fun K hK => ?_
    go_simp
    refine (words_c _).mono ?_
    rintro r w3 ⟨rfl, hw3⟩
    obtain ⟨gw, hgw⟩ : ∃ gw, gw = w2.drew.heap.size := ⟨_, rfl⟩
    have hX3 : Below w2.heap.size w2 w3 := by rw [hw3]; exact (Below.refl _ w2).drew.alloc (Nat.le_refl _) _
    have hwh : w3.heap[gw]? = some (.cells words29V 9 (0, 0)) := by rw [hw3, hgw]; exact heap_alloc_new _ _
    rw [← hgw]
    clear hw3 hgw
    refine hK _ _ (fun _ => hX3) ?_; clear hK K; try simp only [Act.put, List.setIfInBounds_toArray, List.set_cons_succ, List.set_cons_zero]
    refine wpP_a (by rfl) (by rfl) fun K hK => ?_
    go_simp
    refine (rall29_c c _).mono ?_
    rintro r w4 ⟨g, rfl, hown, hb4⟩
    have hX4 := bthen hX3 hb4
    refine hK _ _ (fun h => absurd h (by omega)) ?_; clear hK K; try simp only [Act.put, List.setIfInBounds_toArray, List.set_cons_succ, List.set_cons_zero]
    refine wpP_a (by rfl) (by rfl) fun K hK => ?_
    go_simp
    refine hK _ _ (fun h => absurd h (by omega)) ?_; clear hK K; try simp only [Act.put, List.setIfInBounds_toArray, List.set_cons_succ, List.set_cons_zero]
    refine wpP_a (by rfl) (by rfl) fun K hK => ?_
    go_simp
    refine hK _ _ (fun h => absurd h (by omega)) ?_; clear hK K; try simp only [Act.put, List.setIfInBounds_toArray, List.set_cons_succ, List.set_cons_zero]
    refine wpP_nil ?_
    have hwh4 := (hb4.block gw (Array.getElem?_eq_some_iff.1 hwh).1).trans hwh
    have hB4 : Below W1.heap.size W1 w4 := bthen hb2 hX4
    have hown4 := hown.lower (b := 0) (by omega)
    have hgB := (hown.lt g rfl).1
    have hgw3 := (Array.getElem?_eq_some_iff.1 hwh).1
    have hwz3 : w.heap.size < w3.heap.size := by have := hX3.size; omega
    have hW13 : W1.heap.size ≤ w3.heap.size := by have := hb2.size; have := hX3.size; omega
    have hr4 := (rowAt_block (hX4.block w.heap.size hz2)).trans hr2
    have hz4 : w.heap.size < w4.heap.size := by have := hX4.size; omega
    clear hown hwh hX3 hr2 hb4
    go_wp2
    refine wp_region_PG 13 [5, 7, 13, 14, 15, 16] [0, 1, 2, 3, 4, 6, 5, 7, 8, 9, 10] 11 12 [13, 14, 15, 16] (fun X => Below w4.heap.size w4 X) (by kernel_rfl) (by kernel_rfl) (by kernel_rfl) (by decide) rfl rfl (by simp only [ordOps, List.map_cons, List.map_nil, List.getElem?_cons_succ, List.getElem?_cons_zero, Option.getD_some]; repeat (first | exact trivial | refine ⟨.inl rfl, ?_⟩ | refine ⟨.inr fun _ _ _ _ h => h, ?_⟩)) (by simp only [ordOps, List.map_cons, List.map_nil, List.getElem?_cons_succ, List.getElem?_cons_zero, Option.getD_some]; repeat (first | exact trivial | refine ⟨.inl rfl, ?_⟩ | refine ⟨.inr fun _ _ _ _ h => h, ?_⟩)) ?_ ?_
    rotate_left; simp only [ordOps, List.map_cons, List.map_nil, List.getElem?_cons_succ, List.getElem?_cons_zero, Option.getD_some]; rotate_left
    · exact (Below.refl _ w4).drew
    iterate 4 ((refine wpPre_q (by rfl) (by rfl) ?_ ?_ ?_; rotate_left; focus (rintro W hX; go_simp; try (with_reducible rfl); done)); try simp only [Act.put, List.setIfInBounds_toArray, List.set_cons_succ, List.set_cons_zero])
    refine wpPre_q (by rfl) (by rfl) (.agg (Config.arr c)) ?_ ?_
    · intro X hX; exact yields_load_at 24 _ rfl w.heap.size (0) 14 rfl (Config.arr c) _ Tryz.underlying24 rfl (by kernel_rfl) ((rowAt_block (hX.block w.heap.size hz4)).trans hr4)
    simp only [Act.put, List.setIfInBounds_toArray, List.set_cons_succ, List.set_cons_zero]
    refine wpPre_q (by rfl) (by rfl) (.agg (Config.arr c)) ?_ ?_
    · intro X hX; exact yields_load_at 24 _ rfl w.heap.size (0) 14 rfl (Config.arr c) _ Tryz.underlying24 rfl (by kernel_rfl) ((rowAt_block (hX.block w.heap.size hz4)).trans hr4)
    simp only [Act.put, List.setIfInBounds_toArray, List.set_cons_succ, List.set_cons_zero]
    refine wpPre_a (by rfl) (by rfl) fun K hK => ?_
    go_simp
    refine (HST.out _ (bthen hB4 (Below.refl _ w4).drew)).mono ?_
    rintro r w5 ⟨rfl, hb5⟩
    have hX5 : Below w4.heap.size w4 w5 := (Below.refl _ w4).drew.trans hb5
    refine hK _ _ hX5 ?_; clear hK K; try simp only [Act.put, List.setIfInBounds_toArray, List.set_cons_succ, List.set_cons_zero]
    refine wpPre_a (by rfl) (by rfl) fun K hK => ?_
    go_simp
    refine (HSR.out _ (bthen hB4 hX5)).mono ?_
    rintro r w6 ⟨rfl, hb6⟩
    have hX6 := bthen hX5 hb6
    refine hK _ _ hX6 ?_; clear hK K; try simp only [Act.put, List.setIfInBounds_toArray, List.set_cons_succ, List.set_cons_zero]
    iterate 3 ((refine wpPre_q (by rfl) (by rfl) ?_ ?_ ?_; rotate_left; focus (rintro W hX; go_simp; try (with_reducible rfl); done)); try simp only [Act.put, List.setIfInBounds_toArray, List.set_cons_succ, List.set_cons_zero])
    refine wpPre_nil ?_
    intro K hK
    refine ⟨⟨by rfl, ?_⟩, ⟨by rfl, ?_⟩⟩
    · go_simp
      refine (first_c _).mono ?_
      rintro r w7 ⟨rfl, hb7⟩
      have hX70 := bthen hX6 hb7
      refine ⟨hX70, ?_⟩
      have hX7 : Below w4.heap.size w4 (w7.alloc (.cells (intsV T.firstC) 3)) := hX70.alloc hX70.size _
      have hsl5 := (Own.ints13 w7 0 (Nat.zero_le _) T.firstC).sl (arr := intArr) (sz := 1) (fun _ => rfl)
      show K _ (w7.alloc (.cells (intsV T.firstC) 3))
      refine hK _ _ hX7 ?_; clear hK K; try simp only [Act.put, List.setIfInBounds_toArray, List.set_cons_succ, List.set_cons_zero]
      refine wpP_a (by rfl) (by rfl) fun K hK => ?_
      go_simp
      refine (rof_c _ T.firstC.ints rfl _ _ hsl5 (Nat.le_refl _) none 0 0).mono ?_
      rintro r w8 ⟨rfl, hb8⟩
      have hX8 := bthen hX7 hb8
      refine hK _ _ (fun h => absurd h (by omega)) ?_; clear hK K; try simp only [Act.put, List.setIfInBounds_toArray, List.set_cons_succ, List.set_cons_zero]
      refine wpP_a (by rfl) (by rfl) fun K hK => ?_
      go_simp
      refine (rsame29_c T.firstC T.firstC [] [] w8 ((Own.nil : Own PV.arr 1 w8.heap.size 42 w8 (.slice none 0 0) []).sl PV.sz) (by simp) ((Own.nil : Own PV.arr 1 w8.heap.size 42 w8 (.slice none 0 0) []).sl PV.sz) (by simp) rfl rfl (by simp)).mono ?_
      rintro r w9 ⟨rfl, hb9⟩
      have hX9 := bthen hX8 hb9
      refine hK _ _ (fun h => absurd h (by omega)) ?_; clear hK K; try simp only [Act.put, List.setIfInBounds_toArray, List.set_cons_succ, List.set_cons_zero]
      clear hX7 hX8 hb8 hb9 hsl5
      refine wpP_a (by rfl) (by rfl) fun K hK => ?_
      go_simp
      refine hK _ _ (fun h => absurd h (by omega)) ?_; clear hK K; try simp only [Act.put, List.setIfInBounds_toArray, List.set_cons_succ, List.set_cons_zero]
      refine wpP_a (by rfl) (by rfl) fun K hK => ?_
      go_simp
      refine hK _ _ (fun h => absurd h (by omega)) ?_; clear hK K; try simp only [Act.put, List.setIfInBounds_toArray, List.set_cons_succ, List.set_cons_zero]
      refine wpP_nil ?_
      have hB9 : Below W1.heap.size W1 w9 := bthen hB4 hX9
      have hr9 := (rowAt_block (hX9.block w.heap.size hz4)).trans hr4
      have hz9 : w.heap.size < w9.heap.size := by have := hX9.size; omega
      have hwh9 := (hX9.block gw (Array.getElem?_eq_some_iff.1 hwh4).1).trans hwh4
      have hown9 := hown4.below hX9
      clear hr4 hwh4 hown4 hB4 hX9
      by_cases hk : 0 ≤ k ∧ k < 13
      · obtain ⟨kn, rfl⟩ : ∃ kn : Nat, k = (kn : Int) := ⟨k.toNat, by omega⟩
        have hk13 : kn < 13 := by omega
        have hkI : (kn : Int) < 13 := by omega
        have hkn : ¬ (kn : Int) < 0 := by omega
        have hk13' : ¬ (13 : Int) ≤ (kn : Int) := by omega
        clear hk
        obtain ⟨z, hz⟩ : ∃ z, z = c.ints.getD kn 0 := ⟨_, rfl⟩
        have hset := fun X : World => set_c c hsh (kn : Int) n X
        rw [T.set_in c kn n hk13] at hset
        have hget := fun X : World => get_c c (kn : Int) X
        rw [T.get_in c kn hk13, ← hz] at hget
        obtain ⟨dd, hdd⟩ : ∃ dd, dd = Config.setK c kn n := ⟨_, rfl⟩
        have hgetd := fun X : World => get_c dd (kn : Int) X
        rw [T.get_in dd kn hk13, hdd, Config.set_get c n kn hk13, ← hdd] at hgetd
        have hshd : ∃ A n cap, dd.progs = .slice A n cap := by rw [hdd]; exact hsh
        have hsetd := fun X : World => set_c dd hshd (kn : Int) z X
        rw [T.set_in dd kn z hk13, hdd, hz, Config.set_back c n kn hk13, ← hdd, ← hz] at hsetd
        have hdo : Config.ofInts (c.ints.set kn n) c.progs = dd := by rw [hdd]; rfl
        have hdp : dd.progs = c.progs := by rw [hdd]; rfl
        rw [← hdd] at hset
        have hce := (ints_cells (Config.ints_len c) hown9 kn hk13)
        rw [← hz] at hce
        obtain ⟨hgl, hce⟩ := hce
        have hone := Config.one dd hshd
        have HDO := Lib.hid hdo
        have HDP := Lib.hid hdp
        clear hdd hz hdo hdp
        go_upto_region 9 with (first | (refine wpList_load_at_v 24 _ rfl rfl _ (0) 14 rfl _ _ hr9 rfl rfl rfl ?_) | (go_at_call 16; (with_reducible refine (hset _).mono ?_); rintro r wa ⟨rfl, hba⟩) | (refine wpList_store_new rfl _ _ _ rfl wa.heap.size (Config.arr dd) _ _ rfl rfl rfl rfl rfl hone ?_))
        obtain ⟨Wb, hWb⟩ : ∃ Wb, Wb = wa.alloc (.cells (Config.arr dd) 24) := ⟨_, rfl⟩
        have hbb : Below w9.heap.size w9 Wb := by rw [hWb]; exact hba.alloc hba.size _
        have rd : rowAt Wb wa.heap.size 0 14 = some (Config.arr dd) := by rw [hWb]; exact rowAt_new _ _ _ _ _ rfl
        have hzd : wa.heap.size < Wb.heap.size := by rw [hWb]; simp
        have hrb := (rowAt_block (hbb.block w.heap.size hz9)).trans hr9
        rw [← hWb]
        have hr9' := hr9
        clear hWb hset hr9
        go_upto_region 10 with (first | (refine wpList_load_at_v 24 _ rfl rfl _ (0) 14 rfl _ _ hrb rfl rfl rfl ?_) | (go_at_call 15; (with_reducible refine (hget _).mono ?_); rintro r wc ⟨rfl, hbc⟩))
        have hbbc := bthen hbb hbc
        have cec := (hbbc.cell (p := ⟨g, kn, none⟩) hgl).trans hce
        have hoc := hown9.below hbbc
        have hoat := hoc.at
        obtain ⟨h13x, _, cur, hcur, _, _⟩ := hoat
        clear h13x
        have fec := (cell_of hcur kn).2
        clear hget hrb hce hown9 hcur
        go_upto_region 12 with (fail)
        have hsa := Own.setAt (arr := intArr) (sz := 1) (fun _ => rfl) (by omega) hoc kn (by rw [Config.ints_len]; exact hk13) n
        rw [Nat.mul_one] at hsa
        obtain ⟨We, hWe⟩ : ∃ We, We = wc.setCell ⟨g, kn, none⟩ (.int .i64 n) := ⟨_, rfl⟩
        have hoe : Own intArr 1 0 3 We (.slice (some ⟨g, 0, none⟩) 13 13) (c.ints.set kn n) := by rw [hWe]; exact hsa
        have hz9a := hba.size
        have oth (q : Nat) (hq : q ≠ g) : We.heap[q]? = wc.heap[q]? := by rw [hWe]; exact heap_setCell_other _ _ _ _ hq
        have hzbc := hbc.size
        have rC : rowAt We w.heap.size 0 14 = some (Config.arr c) := (rowAt_block (oth _ (by omega))).trans ((rowAt_block (hbbc.block w.heap.size hz9)).trans hr9')
        have rD : rowAt We wa.heap.size 0 14 = some (Config.arr dd) := (rowAt_block (oth _ (by omega))).trans ((rowAt_block (hbc.block _ hzd)).trans rd)
        have ch := Array.getElem?_eq_some_iff.1 hwh9
        have cw : We.cell? ⟨gw, kn, none⟩ = some (strV (T.words29.getD kn [])) := (cell_block ((oth _ (by omega)).trans (hbbc.block gw ch.1))).trans ((cell_of hwh9 kn).1.trans (words29_at kn hk13))
        have hBe : Below W1.heap.size W1 We := by rw [hWe]; exact (bthen hB9 hbbc).setCell (p := ⟨g, kn, none⟩) (by show W1.heap.size ≤ g; omega) _
        have c13 : We.cell? ⟨w.heap.size, 13, none⟩ = some (.slice A ps.length cap) := by
          have := rowAt_cell rC 13 (by omega)
          rw [show (Config.arr c)[13]? = some c.progs from rfl, HV.out] at this
          exact this
        have zs : We.heap.size = wc.heap.size := by rw [hWe]; simp
        have zC : w.heap.size < We.heap.size := by omega
        have zD : wa.heap.size < We.heap.size := by omega
        have zW : gw < We.heap.size := by have := ch.1; omega
        have K1 := Lib.hid (fun X : BW We => rword_c kn hk13 X.1)
        have K2 := Lib.hid (fun X : BW We => hgetd X.1)
        have hofv : Config.ofInts (c.ints.set kn n) (.slice A ps.length cap) = dd := by rw [← HV.out]; exact HDO.out
        have K3 := Lib.hid (fun X : BW We => by
          have := rof_c _ (c.ints.set kn n) (by rw [List.length_set]; rfl) _ X.1 ((hoe.below X.2).sl (arr := intArr) (sz := 1) (fun _ => rfl)) (Nat.le_refl _) A ps.length cap
          rw [hofv] at this
          have e : (c.ints.set kn n).length = 13 := by rw [List.length_set]; rfl
          exact this)
        have K4 := Lib.hid (fun X : BW We => HSAME.out X.1 (bthen hBe X.2) dd dd rfl HDP.out)
        have K5 := Lib.hid (fun X : BW We => hsetd X.1)
        have K6 := Lib.hid (fun X : BW We => HSAME.out X.1 (bthen hBe X.2) c c rfl rfl)
        have K7 := Lib.hid (fun X : BW We => HEV.out X.1 (bthen hBe X.2))
        rw [← hWe]
        generalize T.words29.getD kn [] = wd at *
        clear zs hsa hWe hoe oth rd hr9' hgetd hsetd hoc hbc hba hbbc hofv ch hB9 hwh9
        refine wp_region_calm (by kernel_rfl) (by kernel_rfl) ?_
        iterate 26 ((fail_if_success (with_reducible refine wpQuiet_nil ?_)); (first | go_big_quiet_skip | (refine wpQuiet_load_at (by rfl) 24 _ rfl _ 0 14 rfl _ _ rD rfl rfl rfl ?_; simp only [Act.put, List.setIfInBounds_toArray, List.set_cons_succ, List.set_cons_zero]) | (refine wpQuiet_load_at (by rfl) 24 _ rfl _ 0 14 rfl _ _ rC rfl rfl rfl ?_; simp only [Act.put, List.setIfInBounds_toArray, List.set_cons_succ, List.set_cons_zero]) | go_big_quiet_step ((first | (go_at_call 17; exact calm_of (K1.out _)) | (go_at_call 15; exact calm_of (K2.out _)) | (go_at_call 14; exact calm_of (K3.out _)) | (go_at_call 12; exact calm_of (K4.out _)) | (go_at_call 16; exact calm_of (K5.out _)) | (go_at_call 7; exact calm_of (K7.out _)))) | (go_big_quiet_want; go_big_quiet_op; refine ⟨.pointer (some ⟨w.heap.size, 13, none⟩), ?_, ?_⟩; (focus (intro a; exact And.intro rfl rfl)); go_big_quiet_on)))
        repeat ((fail_if_success (with_reducible refine wpQuiet_nil ?_)); (first | go_big_quiet_skip | (refine wpQuiet_load_at (by rfl) 24 _ rfl _ 0 14 rfl _ _ rD rfl rfl rfl ?_; simp only [Act.put, List.setIfInBounds_toArray, List.set_cons_succ, List.set_cons_zero]) | (refine wpQuiet_load_at (by rfl) 24 _ rfl _ 0 14 rfl _ _ rC rfl rfl rfl ?_; simp only [Act.put, List.setIfInBounds_toArray, List.set_cons_succ, List.set_cons_zero]) | go_big_quiet_step ((first | (go_at_call 17; exact calm_of (K1.out _)) | (go_at_call 15; exact calm_of (K2.out _)) | (go_at_call 14; exact calm_of (K3.out _)) | (go_at_call 12; exact calm_of (K6.out _)) | (go_at_call 16; exact calm_of (K5.out _)) | (go_at_call 7; exact calm_of (K7.out _)))) | (go_big_quiet_want; go_big_quiet_op; refine ⟨.pointer (some ⟨w.heap.size, 13, none⟩), ?_, ?_⟩; (focus (intro a; exact And.intro rfl rfl)); go_big_quiet_on)))
        refine wpQuiet_nil ?_
        rintro _ ⟨⟨X, hX⟩, rfl⟩
        go_wp2
        go_ret
        exact ⟨rfl, bthen hB1 (bthen hBe hX)⟩
      · have ho : k < 0 ∨ 13 ≤ k := by omega
        have hset := fun X : World => set_c c hsh k n X
        rw [show T.set c k n = c from if_neg hk] at hset
        have hget := fun X : World => get_c c k X
        rw [show T.get c k = 0 from if_neg hk] at hget
        have K2 := Lib.hid (fun X : BW w9 => hget X.1)
        have K5 := Lib.hid (fun X : BW w9 => hset X.1)
        have K6 := Lib.hid (fun X : BW w9 => HSAME.out X.1 (bthen hB9 X.2) c c rfl rfl)
        have K7 := Lib.hid (fun X : BW w9 => HEV.out X.1 (bthen hB9 X.2))
        have HB9 := Lib.hid hB9
        clear hk hset hget hwh9 hown9 hB9
        rcases ho with ho | ho
        · go_wp2
          refine wp_region_calm (by kernel_rfl) (by kernel_rfl) ?_
          repeat ((fail_if_success (with_reducible refine wpQuiet_nil ?_)); (first | go_big_quiet_skip | (refine wpQuiet_load_at (by rfl) 24 _ rfl _ 0 14 rfl _ _ hr9 rfl rfl rfl ?_; simp only [Act.put, List.setIfInBounds_toArray, List.set_cons_succ, List.set_cons_zero]) | go_big_quiet_step ((first | (go_at_call 15; exact calm_of (K2.out _)) | (go_at_call 12; exact calm_of (K6.out _)) | (go_at_call 16; exact calm_of (K5.out _)) | (go_at_call 7; exact calm_of (K7.out _))))))
          refine wpQuiet_nil ?_
          rintro _ ⟨⟨X, hX⟩, rfl⟩
          go_wp2
          go_ret
          exact ⟨rfl, bthen hB1 (bthen HB9.out hX)⟩
        · have ho2 : ¬ k < 0 := by omega
          go_wp2
          refine wp_region_calm (by kernel_rfl) (by kernel_rfl) ?_
          repeat ((fail_if_success (with_reducible refine wpQuiet_nil ?_)); (first | go_big_quiet_skip | (refine wpQuiet_load_at (by rfl) 24 _ rfl _ 0 14 rfl _ _ hr9 rfl rfl rfl ?_; simp only [Act.put, List.setIfInBounds_toArray, List.set_cons_succ, List.set_cons_zero]) | go_big_quiet_step ((first | (go_at_call 15; exact calm_of (K2.out _)) | (go_at_call 12; exact calm_of (K6.out _)) | (go_at_call 16; exact calm_of (K5.out _)) | (go_at_call 7; exact calm_of (K7.out _))))))
          refine wpQuiet_nil ?_
          rintro _ ⟨⟨X, hX⟩, rfl⟩
          go_wp2
          go_ret
          exact ⟨rfl, bthen hB1 (bthen HB9.out hX)⟩
    · go_simp
      have hX70 : Below w4.heap.size w4 (w6.alloc (.cells (intsV T.firstC) 3)) := hX6.alloc hX6.size _
      refine ⟨hX70, ?_⟩
      refine (first_c _).mono ?_
      rintro r w7 ⟨rfl, hb7⟩
      have hX7 := bthen hX70 hb7
      have hsl5 := ((Own.ints13 w6 0 (Nat.zero_le _) T.firstC).below hb7).sl (arr := intArr) (sz := 1) (fun _ => rfl)
      refine hK _ _ hX7 ?_; clear hK K; try simp only [Act.put, List.setIfInBounds_toArray, List.set_cons_succ, List.set_cons_zero]
      refine wpP_a (by rfl) (by rfl) fun K hK => ?_
      go_simp
      refine (rof_c _ T.firstC.ints rfl _ _ hsl5 (Nat.le_refl _) none 0 0).mono ?_
      rintro r w8 ⟨rfl, hb8⟩
      have hX8 := bthen hX7 hb8
      refine hK _ _ (fun h => absurd h (by omega)) ?_; clear hK K; try simp only [Act.put, List.setIfInBounds_toArray, List.set_cons_succ, List.set_cons_zero]
      refine wpP_a (by rfl) (by rfl) fun K hK => ?_
      go_simp
      refine (rsame29_c T.firstC T.firstC [] [] w8 ((Own.nil : Own PV.arr 1 w8.heap.size 42 w8 (.slice none 0 0) []).sl PV.sz) (by simp) ((Own.nil : Own PV.arr 1 w8.heap.size 42 w8 (.slice none 0 0) []).sl PV.sz) (by simp) rfl rfl (by simp)).mono ?_
      rintro r w9 ⟨rfl, hb9⟩
      have hX9 := bthen hX8 hb9
      refine hK _ _ (fun h => absurd h (by omega)) ?_; clear hK K; try simp only [Act.put, List.setIfInBounds_toArray, List.set_cons_succ, List.set_cons_zero]
      clear hX7 hX8 hb8 hb9 hsl5
      refine wpP_a (by rfl) (by rfl) fun K hK => ?_
      go_simp
      refine hK _ _ (fun h => absurd h (by omega)) ?_; clear hK K; try simp only [Act.put, List.setIfInBounds_toArray, List.set_cons_succ, List.set_cons_zero]
      refine wpP_a (by rfl) (by rfl) fun K hK => ?_
      go_simp
      refine hK _ _ (fun h => absurd h (by omega)) ?_; clear hK K; try simp only [Act.put, List.setIfInBounds_toArray, List.set_cons_succ, List.set_cons_zero]
      refine wpP_nil ?_
      have hB9 : Below W1.heap.size W1 w9 := bthen hB4 hX9
      have hr9 := (rowAt_block (hX9.block w.heap.size hz4)).trans hr4
      have hz9 : w.heap.size < w9.heap.size := by have := hX9.size; omega
      have hwh9 := (hX9.block gw (Array.getElem?_eq_some_iff.1 hwh4).1).trans hwh4
      have hown9 := hown4.below hX9
      clear hr4 hwh4 hown4 hB4 hX9
      by_cases hk : 0 ≤ k ∧ k < 13
      · obtain ⟨kn, rfl⟩ : ∃ kn : Nat, k = (kn : Int) := ⟨k.toNat, by omega⟩
        have hk13 : kn < 13 := by omega
        have hkI : (kn : Int) < 13 := by omega
        have hkn : ¬ (kn : Int) < 0 := by omega
        have hk13' : ¬ (13 : Int) ≤ (kn : Int) := by omega
        clear hk
        obtain ⟨z, hz⟩ : ∃ z, z = c.ints.getD kn 0 := ⟨_, rfl⟩
        have hset := fun X : World => set_c c hsh (kn : Int) n X
        rw [T.set_in c kn n hk13] at hset
        have hget := fun X : World => get_c c (kn : Int) X
        rw [T.get_in c kn hk13, ← hz] at hget
        obtain ⟨dd, hdd⟩ : ∃ dd, dd = Config.setK c kn n := ⟨_, rfl⟩
        have hgetd := fun X : World => get_c dd (kn : Int) X
        rw [T.get_in dd kn hk13, hdd, Config.set_get c n kn hk13, ← hdd] at hgetd
        have hshd : ∃ A n cap, dd.progs = .slice A n cap := by rw [hdd]; exact hsh
        have hsetd := fun X : World => set_c dd hshd (kn : Int) z X
        rw [T.set_in dd kn z hk13, hdd, hz, Config.set_back c n kn hk13, ← hdd, ← hz] at hsetd
        have hdo : Config.ofInts (c.ints.set kn n) c.progs = dd := by rw [hdd]; rfl
        have hdp : dd.progs = c.progs := by rw [hdd]; rfl
        rw [← hdd] at hset
        have hce := (ints_cells (Config.ints_len c) hown9 kn hk13)
        rw [← hz] at hce
        obtain ⟨hgl, hce⟩ := hce
        have hone := Config.one dd hshd
        have HDO := Lib.hid hdo
        have HDP := Lib.hid hdp
        clear hdd hz hdo hdp
        go_upto_region 9 with (first | (refine wpList_load_at_v 24 _ rfl rfl _ (0) 14 rfl _ _ hr9 rfl rfl rfl ?_) | (go_at_call 16; (with_reducible refine (hset _).mono ?_); rintro r wa ⟨rfl, hba⟩) | (refine wpList_store_new rfl _ _ _ rfl wa.heap.size (Config.arr dd) _ _ rfl rfl rfl rfl rfl hone ?_))
        obtain ⟨Wb, hWb⟩ : ∃ Wb, Wb = wa.alloc (.cells (Config.arr dd) 24) := ⟨_, rfl⟩
        have hbb : Below w9.heap.size w9 Wb := by rw [hWb]; exact hba.alloc hba.size _
        have rd : rowAt Wb wa.heap.size 0 14 = some (Config.arr dd) := by rw [hWb]; exact rowAt_new _ _ _ _ _ rfl
        have hzd : wa.heap.size < Wb.heap.size := by rw [hWb]; simp
        have hrb := (rowAt_block (hbb.block w.heap.size hz9)).trans hr9
        rw [← hWb]
        have hr9' := hr9
        clear hWb hset hr9
        go_upto_region 10 with (first | (refine wpList_load_at_v 24 _ rfl rfl _ (0) 14 rfl _ _ hrb rfl rfl rfl ?_) | (go_at_call 15; (with_reducible refine (hget _).mono ?_); rintro r wc ⟨rfl, hbc⟩))
        have hbbc := bthen hbb hbc
        have cec := (hbbc.cell (p := ⟨g, kn, none⟩) hgl).trans hce
        have hoc := hown9.below hbbc
        have hoat := hoc.at
        obtain ⟨h13x, _, cur, hcur, _, _⟩ := hoat
        clear h13x
        have fec := (cell_of hcur kn).2
        clear hget hrb hce hown9 hcur
        go_upto_region 12 with (fail)
        have hsa := Own.setAt (arr := intArr) (sz := 1) (fun _ => rfl) (by omega) hoc kn (by rw [Config.ints_len]; exact hk13) n
        rw [Nat.mul_one] at hsa
        obtain ⟨We, hWe⟩ : ∃ We, We = wc.setCell ⟨g, kn, none⟩ (.int .i64 n) := ⟨_, rfl⟩
        have hoe : Own intArr 1 0 3 We (.slice (some ⟨g, 0, none⟩) 13 13) (c.ints.set kn n) := by rw [hWe]; exact hsa
        have hz9a := hba.size
        have oth (q : Nat) (hq : q ≠ g) : We.heap[q]? = wc.heap[q]? := by rw [hWe]; exact heap_setCell_other _ _ _ _ hq
        have hzbc := hbc.size
        have rC : rowAt We w.heap.size 0 14 = some (Config.arr c) := (rowAt_block (oth _ (by omega))).trans ((rowAt_block (hbbc.block w.heap.size hz9)).trans hr9')
        have rD : rowAt We wa.heap.size 0 14 = some (Config.arr dd) := (rowAt_block (oth _ (by omega))).trans ((rowAt_block (hbc.block _ hzd)).trans rd)
        have ch := Array.getElem?_eq_some_iff.1 hwh9
        have cw : We.cell? ⟨gw, kn, none⟩ = some (strV (T.words29.getD kn [])) := (cell_block ((oth _ (by omega)).trans (hbbc.block gw ch.1))).trans ((cell_of hwh9 kn).1.trans (words29_at kn hk13))
        have hBe : Below W1.heap.size W1 We := by rw [hWe]; exact (bthen hB9 hbbc).setCell (p := ⟨g, kn, none⟩) (by show W1.heap.size ≤ g; omega) _
        have c13 : We.cell? ⟨w.heap.size, 13, none⟩ = some (.slice A ps.length cap) := by
          have := rowAt_cell rC 13 (by omega)
          rw [show (Config.arr c)[13]? = some c.progs from rfl, HV.out] at this
          exact this
        have zs : We.heap.size = wc.heap.size := by rw [hWe]; simp
        have zC : w.heap.size < We.heap.size := by omega
        have zD : wa.heap.size < We.heap.size := by omega
        have zW : gw < We.heap.size := by have := ch.1; omega
        have K1 := Lib.hid (fun X : BW We => rword_c kn hk13 X.1)
        have K2 := Lib.hid (fun X : BW We => hgetd X.1)
        have hofv : Config.ofInts (c.ints.set kn n) (.slice A ps.length cap) = dd := by rw [← HV.out]; exact HDO.out
        have K3 := Lib.hid (fun X : BW We => by
          have := rof_c _ (c.ints.set kn n) (by rw [List.length_set]; rfl) _ X.1 ((hoe.below X.2).sl (arr := intArr) (sz := 1) (fun _ => rfl)) (Nat.le_refl _) A ps.length cap
          rw [hofv] at this
          have e : (c.ints.set kn n).length = 13 := by rw [List.length_set]; rfl
          exact this)
        have K4 := Lib.hid (fun X : BW We => HSAME.out X.1 (bthen hBe X.2) dd dd rfl HDP.out)
        have K5 := Lib.hid (fun X : BW We => hsetd X.1)
        have K6 := Lib.hid (fun X : BW We => HSAME.out X.1 (bthen hBe X.2) c c rfl rfl)
        have K7 := Lib.hid (fun X : BW We => HEV.out X.1 (bthen hBe X.2))
        rw [← hWe]
        generalize T.words29.getD kn [] = wd at *
        clear zs hsa hWe hoe oth rd hr9' hgetd hsetd hoc hbc hba hbbc hofv ch hB9 hwh9
        refine wp_region_calm (by kernel_rfl) (by kernel_rfl) ?_
        iterate 26 ((fail_if_success (with_reducible refine wpQuiet_nil ?_)); (first | go_big_quiet_skip | (refine wpQuiet_load_at (by rfl) 24 _ rfl _ 0 14 rfl _ _ rD rfl rfl rfl ?_; simp only [Act.put, List.setIfInBounds_toArray, List.set_cons_succ, List.set_cons_zero]) | (refine wpQuiet_load_at (by rfl) 24 _ rfl _ 0 14 rfl _ _ rC rfl rfl rfl ?_; simp only [Act.put, List.setIfInBounds_toArray, List.set_cons_succ, List.set_cons_zero]) | go_big_quiet_step ((first | (go_at_call 17; exact calm_of (K1.out _)) | (go_at_call 15; exact calm_of (K2.out _)) | (go_at_call 14; exact calm_of (K3.out _)) | (go_at_call 12; exact calm_of (K4.out _)) | (go_at_call 16; exact calm_of (K5.out _)) | (go_at_call 7; exact calm_of (K7.out _)))) | (go_big_quiet_want; go_big_quiet_op; refine ⟨.pointer (some ⟨w.heap.size, 13, none⟩), ?_, ?_⟩; (focus (intro a; exact And.intro rfl rfl)); go_big_quiet_on)))
        repeat ((fail_if_success (with_reducible refine wpQuiet_nil ?_)); (first | go_big_quiet_skip | (refine wpQuiet_load_at (by rfl) 24 _ rfl _ 0 14 rfl _ _ rD rfl rfl rfl ?_; simp only [Act.put, List.setIfInBounds_toArray, List.set_cons_succ, List.set_cons_zero]) | (refine wpQuiet_load_at (by rfl) 24 _ rfl _ 0 14 rfl _ _ rC rfl rfl rfl ?_; simp only [Act.put, List.setIfInBounds_toArray, List.set_cons_succ, List.set_cons_zero]) | go_big_quiet_step ((first | (go_at_call 17; exact calm_of (K1.out _)) | (go_at_call 15; exact calm_of (K2.out _)) | (go_at_call 14; exact calm_of (K3.out _)) | (go_at_call 12; exact calm_of (K6.out _)) | (go_at_call 16; exact calm_of (K5.out _)) | (go_at_call 7; exact calm_of (K7.out _)))) | (go_big_quiet_want; go_big_quiet_op; refine ⟨.pointer (some ⟨w.heap.size, 13, none⟩), ?_, ?_⟩; (focus (intro a; exact And.intro rfl rfl)); go_big_quiet_on)))
        refine wpQuiet_nil ?_
        rintro _ ⟨⟨X, hX⟩, rfl⟩
        go_wp2
        go_ret
        exact ⟨rfl, bthen hB1 (bthen hBe hX)⟩
      · have ho : k < 0 ∨ 13 ≤ k := by omega
        have hset := fun X : World => set_c c hsh k n X
        rw [show T.set c k n = c from if_neg hk] at hset
        have hget := fun X : World => get_c c k X
        rw [show T.get c k = 0 from if_neg hk] at hget
        have K2 := Lib.hid (fun X : BW w9 => hget X.1)
        have K5 := Lib.hid (fun X : BW w9 => hset X.1)
        have K6 := Lib.hid (fun X : BW w9 => HSAME.out X.1 (bthen hB9 X.2) c c rfl rfl)
        have K7 := Lib.hid (fun X : BW w9 => HEV.out X.1 (bthen hB9 X.2))
        have HB9 := Lib.hid hB9
        clear hk hset hget hwh9 hown9 hB9
        rcases ho with ho | ho
        · go_wp2
          refine wp_region_calm (by kernel_rfl) (by kernel_rfl) ?_
          repeat ((fail_if_success (with_reducible refine wpQuiet_nil ?_)); (first | go_big_quiet_skip | (refine wpQuiet_load_at (by rfl) 24 _ rfl _ 0 14 rfl _ _ hr9 rfl rfl rfl ?_; simp only [Act.put, List.setIfInBounds_toArray, List.set_cons_succ, List.set_cons_zero]) | go_big_quiet_step ((first | (go_at_call 15; exact calm_of (K2.out _)) | (go_at_call 12; exact calm_of (K6.out _)) | (go_at_call 16; exact calm_of (K5.out _)) | (go_at_call 7; exact calm_of (K7.out _))))))
          refine wpQuiet_nil ?_
          rintro _ ⟨⟨X, hX⟩, rfl⟩
          go_wp2
          go_ret
          exact ⟨rfl, bthen hB1 (bthen HB9.out hX)⟩
        · have ho2 : ¬ k < 0 := by omega
          go_wp2
          refine wp_region_calm (by kernel_rfl) (by kernel_rfl) ?_
          repeat ((fail_if_success (with_reducible refine wpQuiet_nil ?_)); (first | go_big_quiet_skip | (refine wpQuiet_load_at (by rfl) 24 _ rfl _ 0 14 rfl _ _ hr9 rfl rfl rfl ?_; simp only [Act.put, List.setIfInBounds_toArray, List.set_cons_succ, List.set_cons_zero]) | go_big_quiet_step ((first | (go_at_call 15; exact calm_of (K2.out _)) | (go_at_call 12; exact calm_of (K6.out _)) | (go_at_call 16; exact calm_of (K5.out _)) | (go_at_call 7; exact calm_of (K7.out _))))))
          refine wpQuiet_nil ?_
          rintro _ ⟨⟨X, hX⟩, rfl⟩
          go_wp2
          go_ret
          exact ⟨rfl, bthen hB1 (bthen HB9.out hX)⟩
end Go.Proofs.YtpgdgboobnmjiaaGreatDoor
