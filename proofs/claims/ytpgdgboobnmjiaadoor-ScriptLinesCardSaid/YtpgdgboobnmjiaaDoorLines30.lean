/- ScriptLines: its walk. -/
import Derived.Test.YtpgdgboobnmjiaaDoorSBackP
import Derived.Test.YtpgdgboobnmjiaaDoorRSParse
import Derived.Test.YtpgdgboobnmjiaaDoorAwake30
import Derived.Test.YtpgdgboobnmjiaaDoorHeadP
import Derived.Test.YtpgdgboobnmjiaaDoorRow
namespace Go.Proofs.YtpgdgboobnmjiaaDoor
open Go.RowKit Go.Shelf Go.ChangeShapes Go.WideShapes Go.ChangeAt
set_option linter.unusedVariables false
set_option linter.unusedSimpArgs false
theorem str_open {H : Type} {enc : TypeId × Value → H} {W : World} {base : Nat} {spare : Nat → Bool} {held : Bool} {fuel : Nat} {cs : List Value} {y : DataW H × List MemPlace}
    (h : DataW.trod enc Tryd.prog W base spare held fuel 9 cs = some y) : ∃ x : List UInt8, cs = (strL x).toList ∧ True := by
  obtain ⟨s, rfl, _, _⟩ := DataW.trod_string Tryd.underlying9 h
  exact ⟨s.data.toList, by simp [strL], trivial⟩
theorem T.sparse_ok (l : List UInt8) : Step.ok (T.sparse l).1 := by
  unfold T.sparse
  split
  · exact T.rawStep_ok l
  · show Step.ok T.zeroS
    unfold Step.ok i64 T.zeroS; simp
theorem T.readGo_ok (ls : List (List UInt8)) (out : List Step) (k : Nat) (h : ∀ x ∈ out, Step.ok x) : ∀ x ∈ (T.readGo ls out k).1, Step.ok x := by
  induction ls generalizing out k with
  | nil => exact h
  | cons l ls ih =>
    rw [T.readGo]
    split
    · exact ih _ _ h
    · split
      · simp
      · split
        · refine ih _ _ ?_
          intro x hx
          rcases List.mem_append.1 hx with hx | hx
          · exact h x hx
          · rw [List.mem_singleton] at hx; rw [hx]; exact T.sparse_ok l
        · simp
theorem T.first10 (l : List UInt8) (h : ¬ ∀ b ∈ l, b ≠ 10) : ∃ p r, l = p ++ 10 :: r ∧ ∀ b ∈ p, b ≠ 10 := by
  induction l with
  | nil => exact absurd (by simp) h
  | cons c l ih =>
    by_cases hc : c = 10
    · exact ⟨[], l, by rw [hc]; rfl, by simp⟩
    · obtain ⟨p, r, rfl, hp⟩ := ih (fun h' => h (by intro b hb; rcases List.mem_cons.1 hb with rfl | hb; exact hc; exact h' b hb))
      exact ⟨c :: p, r, rfl, by intro b hb; rcases List.mem_cons.1 hb with rfl | hb; exact hc; exact hp b hb⟩
theorem T.no10_of (l : List UInt8) (h1 : ¬ 1 < (T.lines l).length) (h2 : ∀ q (hq : q < l.length), q + 1 = l.length → l[q] ≠ 10) : ∀ b ∈ l, b ≠ 10 := by
  refine Classical.byContradiction fun h => ?_
  obtain ⟨p, r, rfl, hp⟩ := T.first10 l h
  rw [T.lines_line p r hp] at h1
  have hr : r = [] := by
    cases r with
    | nil => rfl
    | cons c r =>
      exfalso
      have : T.linesK (c :: r) ≠ [] := fun e => by have := (T.linesK_nil (c :: r)).1 e; cases this
      have : 0 < (T.lines (c :: r)).length := by unfold T.lines; rw [List.length_map]; exact List.length_pos_iff.2 this
      simp only [List.length_cons] at h1; omega
  subst hr
  exact h2 p.length (by simp) (by simp) (by simp)
theorem u8_of (x : UInt8) (n : Nat) (hn : n < 256) (h : x.toNat = n) : x = UInt8.ofNat n := UInt8.toNat_inj.1 (by rw [h, UInt8.toNat_ofNat']; omega)
theorem no10_last (l : List UInt8) (q : Nat) (hq : l.length = q + 1) (h : l[q] ≠ 10) : ∀ q2 (hq2 : q2 < l.length), q2 + 1 = l.length → l[q2] ≠ 10 := by
  intro q2 hq2 e
  obtain rfl : q2 = q := by omega
  exact h
theorem T.allOf_len (ls : List (List UInt8)) (h : ∀ l ∈ ls, l.length ≤ 60) : (T.allOf ls).length ≤ 61 * ls.length := by
  induction ls with
  | nil => simp [T.allOf]
  | cons l ls ih =>
    have h1 := h l List.mem_cons_self
    have h2 := ih fun y hy => h y (List.mem_cons_of_mem _ hy)
    simp only [T.allOf, List.flatMap_cons, List.length_append, List.length_cons, List.length_nil] at h2 ⊢
    omega
theorem T.wantOf_len (ls : List (List UInt8)) (h : ∀ l ∈ ls, l.length ≤ 60) : (T.wantOf ls).length ≤ 61 * ls.length := by
  have h1 := T.allOf_len (ls.filter fun l => !T.mute l) (fun l hl => h l (List.mem_filter.1 hl).1)
  have h2 := List.length_filter_le (fun l => !T.mute l) ls
  unfold T.wantOf
  omega
attribute [local go_sem] Step.sz bw_cell
set_option maxRecDepth 100000 in
set_option maxHeartbeats 16000000 in
theorem scriptLines_g (v : Value) (ls : List (List UInt8)) (w : World) (he : Env w) (h : Sl strL 1 w.heap.size w v ls) (_ : ∀ x ∈ ls, True) (_ : ls.length * 16 ≤ 140737488351232) :
    Calls Tryd.prog 6 #[v] w fun e w' => e = .returned (.bool true) ∧ Below w.heap.size w w' := by
  obtain ⟨A, cap, rfl, hcap, hl1, hl2⟩ := h.view
  have HEV := Lib.hid (fun (X : World) (hX : Below w.heap.size w X) => awake30_c X (he.below hX))
  by_cases h100 : ls.length ≤ 100
  · have h1 : ¬ (100 : Int) < ls.length := by omega
    go_enter Tryd.func6, Tryd.ntmps6
    go_wp2
    go_loopw [3, 4, 5, 6] (fun a t r i wr => ∃ k : Nat, k ≤ ls.length ∧ a = strV (T.allOf (ls.take k)) ∧ t = strV (T.wantOf (ls.take k)) ∧ r = .int .i64 ((T.wrongOf (ls.take k) : Nat) : Int) ∧ i = .int .i64 (k : Int) ∧ Hid (∀ l ∈ ls.take k, ∀ b ∈ l, b ≠ 10) ∧ Hid (∀ l ∈ ls.take k, l.length ≤ 60) ∧ Below w.heap.size w wr) (fun _ _ _ i _ => ls.length - (intOf i).toNat)
    case atStart => exact ⟨0, Nat.zero_le _, rfl, rfl, rfl, rfl, Lib.hid (by simp), Lib.hid (by simp), Below.refl _ _⟩
    case round =>
      obtain ⟨k, hk, rfl, rfl, rfl, rfl, hfr, hsx, hB⟩ := hrel
      have hBz := hB.size
      by_cases hkl : k < ls.length
      · have hkI : (k : Int) < (ls.length : Int) := by omega
        have hS := (h.below hB).mono hBz
        obtain ⟨b, off, hA, hb, hcell⟩ : ∃ b off, A = some ⟨b, off, none⟩ ∧ b < wr.heap.size ∧ wr.cell? ⟨b, off + k, none⟩ = some (strV (ls[k]'hkl)) := by
          obtain ⟨b, off, hA, hb, hr, _⟩ := hS.at hkl
          exact ⟨b, off, hA, hb, by have := rowAt_cell hr 0 (by omega); simpa [strL] using this⟩
        subst hA
        obtain ⟨l, hl⟩ : ∃ l, l = ls[k] := ⟨_, rfl⟩
        rw [← hl] at hcell
        have hwk : IntKind.i64.wrap ((k : Int) + 1) = (k : Int) + 1 := IntWalk.i64_in _ (by omega)
        have htk : ls.take (k + 1) = ls.take k ++ [l] := by rw [List.take_succ_eq_append_getElem hkl, ← hl]
        have hw1 := T.allOf_len (ls.take k) hsx.out
        have hw2 := T.wantOf_len (ls.take k) hsx.out
        rw [List.length_take] at hw1 hw2
        have hlk : (ls.take k).length = k := by rw [List.length_take]; omega
        have HN1 := Lib.hid (show T.allOf (ls.take (k + 1)) = T.allOf (ls.take k) ++ (l ++ [10]) by rw [htk, T.allOf_snoc])
        have HNW0 := T.wantOf_snoc (ls.take k) l
        have HNR0 := T.wrongOf_snoc (ls.take k) l
        rw [← htk] at HNW0 HNR0
        rw [hlk] at HNR0
        have hfr2of : (∀ b ∈ l, b ≠ 10) → Hid (∀ l ∈ ls.take (k + 1), ∀ b ∈ l, b ≠ 10) := fun hh => Lib.hid (by
          rw [htk]; intro y hy
          rcases List.mem_append.1 hy with hy | hy
          · exact hfr.out y hy
          · rw [List.mem_singleton] at hy; rw [hy]; exact hh)
        obtain ⟨L1, hL1⟩ : ∃ L1, L1 = T.allOf (ls.take k) := ⟨_, rfl⟩
        obtain ⟨L2, hL2⟩ : ∃ L2, L2 = T.wantOf (ls.take k) := ⟨_, rfl⟩
        obtain ⟨R, hR⟩ : ∃ R, R = T.wrongOf (ls.take k) := ⟨_, rfl⟩
        rw [← hL1] at HN1 hw1 ⊢
        rw [← hL2] at HNW0 hw2 ⊢
        rw [← hR] at HNR0 ⊢
        replace hw1 : L1.length ≤ 6100 := by omega
        replace hw2 : L2.length ≤ 6100 := by omega
        have hsx2of : l.length ≤ 60 → Hid (∀ l ∈ ls.take (k + 1), l.length ≤ 60) := fun hh => Lib.hid (by
          rw [htk]; intro y hy
          rcases List.mem_append.1 hy with hy | hy
          · exact hsx.out y hy
          · rw [List.mem_singleton] at hy; rw [hy]; exact hh)
        clear hl htk hlk hL1 hL2 hR
        by_cases h60 : 60 < l.length
        · have h60I : (60 : Int) < (l.length : Int) := by omega
          clear hsx2of hfr2of HNW0 HNR0
          have hB3 := hB.trans ((Below.refl _ wr).drew.mono hBz)
          go_wp2
          refine wp_region_P 36 [11, 36] [0, 1, 2, 3, 4, 5, 6, 7, 8, 9, 10, 11, 12, 13, 14, 15, 16, 17, 18, 19, 20, 21, 22, 23, 24, 25, 26, 27, 28, 29, 30, 31, 32, 33, 34, 35, 36] (fun X => Below wr.heap.size wr X) (by kernel_rfl) (by kernel_rfl) (by kernel_rfl) (by decide) (by simp only [ordOps, List.map_cons, List.map_nil, List.getElem?_cons_succ, List.getElem?_cons_zero, Option.getD_some]; repeat (first | exact trivial | refine ⟨.inl rfl, ?_⟩ | refine ⟨.inr fun _ _ _ _ h => h, ?_⟩)) ?_ ?_
          rotate_left; simp only [ordOps, List.map_cons, List.map_nil, List.getElem?_cons_succ, List.getElem?_cons_zero, Option.getD_some]; rotate_left
          · exact (Below.refl _ wr).drew
          iterate 11 ((first | (refine wpP_q (by rfl) (by rfl) ?_ ?_ ?_; rotate_left; focus (rintro W hX; have s0 := (hX.cell (p := ⟨b, off + k, none⟩) hb).trans hcell; go_simp; try (with_reducible rfl); done)) | refine wpP_skip (by rfl) (by rfl) ?_); try simp only [Act.put, List.setIfInBounds_toArray, List.set_cons_succ, List.set_cons_zero])
          refine wpP_askip (by rfl) (by rfl) (fun _ => ((Below.refl _ wr).drew)) ?_; try simp only [Act.put, List.setIfInBounds_toArray, List.set_cons_succ, List.set_cons_zero]
          iterate 24 ((first | (refine wpP_q (by rfl) (by rfl) ?_ ?_ ?_; rotate_left; focus (rintro W hX; have s0 := (hX.cell (p := ⟨b, off + k, none⟩) hb).trans hcell; go_simp; try (with_reducible rfl); done)) | refine wpP_skip (by rfl) (by rfl) ?_); try simp only [Act.put, List.setIfInBounds_toArray, List.set_cons_succ, List.set_cons_zero])
          refine wpP_a (by rfl) (by rfl) fun K hK => ?_
          go_simp
          refine hK _ _ (fun h => absurd h (by omega)) ?_; clear hK K; try simp only [Act.put, List.setIfInBounds_toArray, List.set_cons_succ, List.set_cons_zero]
          refine wpP_nil ?_
          have haw := HEV.out _ hB3
          go_wp2_with (go_at_call 12; (with_reducible refine haw.mono ?_); rintro r w6 ⟨rfl, hb6⟩)
          go_ret
          exact ⟨rfl, bthen hB3 hb6⟩
        · have h60I : ¬ (60 : Int) < (l.length : Int) := by omega
          have h60d : decide ((60 : Int) < (l.length : Int)) = false := decide_eq_false h60I
          have hsx2 := hsx2of (by omega)
          clear hsx2of hsx hfr
          have hlc := fun X : World => rlines_c l (by omega) X
          unfold RLinesPost at hlc
          by_cases hm : 1 < (T.lines l).length
          · have hmI : (1 : Int) < ((T.lines l).length : Int) := by omega
            clear hfr2of HNW0 HNR0
            go_wp2
            refine wp_region_P 36 [11, 36] [0, 1, 2, 3, 4, 5, 6, 7, 8, 9, 10, 11, 12, 13, 14, 15, 16, 17, 18, 19, 20, 21, 22, 23, 24, 25, 26, 27, 28, 29, 30, 31, 32, 33, 34, 35, 36] (fun X => Below wr.heap.size wr X) (by kernel_rfl) (by kernel_rfl) (by kernel_rfl) (by decide) (by simp only [ordOps, List.map_cons, List.map_nil, List.getElem?_cons_succ, List.getElem?_cons_zero, Option.getD_some]; repeat (first | exact trivial | refine ⟨.inl rfl, ?_⟩ | refine ⟨.inr fun _ _ _ _ h => h, ?_⟩)) ?_ ?_
            rotate_left; simp only [ordOps, List.map_cons, List.map_nil, List.getElem?_cons_succ, List.getElem?_cons_zero, Option.getD_some]; rotate_left
            · exact (Below.refl _ wr).drew
            iterate 11 ((first | (refine wpP_q (by rfl) (by rfl) ?_ ?_ ?_; rotate_left; focus (rintro W hX; have s0 := (hX.cell (p := ⟨b, off + k, none⟩) hb).trans hcell; go_simp; try (with_reducible rfl); done)) | refine wpP_skip (by rfl) (by rfl) ?_); try simp only [Act.put, List.setIfInBounds_toArray, List.set_cons_succ, List.set_cons_zero])
            refine wpP_a (by rfl) (by rfl) fun K hK => ?_
            go_simp
            refine (hlc _).mono ?_
            rintro r w3 ⟨u, rfl, hu, hb3⟩
            have hX3 : Below wr.heap.size wr w3 := (Below.refl _ wr).drew.trans hb3
            obtain ⟨A3, m3, cap3, rfl⟩ := hu.shape
            obtain rfl : m3 = (T.lines l).length := hu.cnt
            refine hK _ _ (fun _ => hX3) ?_; clear hK K; try simp only [Act.put, List.setIfInBounds_toArray, List.set_cons_succ, List.set_cons_zero]
            iterate 24 ((first | (refine wpP_q (by rfl) (by rfl) ?_ ?_ ?_; rotate_left; focus (rintro W hX; have s0 := (hX.cell (p := ⟨b, off + k, none⟩) hb).trans hcell; go_simp; try (with_reducible rfl); done)) | refine wpP_skip (by rfl) (by rfl) ?_); try simp only [Act.put, List.setIfInBounds_toArray, List.set_cons_succ, List.set_cons_zero])
            refine wpP_a (by rfl) (by rfl) fun K hK => ?_
            go_simp
            refine hK _ _ (fun h => absurd h (by omega)) ?_; clear hK K; try simp only [Act.put, List.setIfInBounds_toArray, List.set_cons_succ, List.set_cons_zero]
            refine wpP_nil ?_
            have hB3 := hB.trans (hX3.mono hBz)
            have haw := HEV.out _ hB3
            go_wp2_with (go_at_call 12; (with_reducible refine haw.mono ?_); rintro r w6 ⟨rfl, hb6⟩)
            go_ret
            exact ⟨rfl, bthen hB3 hb6⟩
          · have hmI : ¬ (1 : Int) < ((T.lines l).length : Int) := by omega
            have hmd : decide ((1 : Int) < ((T.lines l).length : Int)) = false := decide_eq_false hmI
            have HM := Lib.hid hm
            clear hm
            rcases l with _ | ⟨c, ts⟩
            · have hfr2 := hfr2of (by simp)
              have hmu : T.mute ([] : List UInt8) = true := rfl
              rw [if_pos hmu] at HNW0
              have hbad : T.badLine ([] : List UInt8) = false := rfl
              have HN2 := Lib.hid (HNW0)
              have HN3 := Lib.hid (HNR0.trans (by rw [if_neg (by rw [hbad]; simp)]))
              clear HNW0 HNR0 hfr2of hmu hbad
              go_wp2
              refine wp_region_P 36 [11, 36] [0, 1, 2, 3, 4, 5, 6, 7, 8, 9, 10, 11, 12, 13, 14, 15, 16, 17, 18, 19, 20, 21, 22, 23, 24, 25, 26, 27, 28, 29, 30, 31, 32, 33, 34, 35, 36] (fun X => Below wr.heap.size wr X) (by kernel_rfl) (by kernel_rfl) (by kernel_rfl) (by decide) (by simp only [ordOps, List.map_cons, List.map_nil, List.getElem?_cons_succ, List.getElem?_cons_zero, Option.getD_some]; repeat (first | exact trivial | refine ⟨.inl rfl, ?_⟩ | refine ⟨.inr fun _ _ _ _ h => h, ?_⟩)) ?_ ?_
              rotate_left; simp only [ordOps, List.map_cons, List.map_nil, List.getElem?_cons_succ, List.getElem?_cons_zero, Option.getD_some]; rotate_left
              · exact (Below.refl _ wr).drew
              iterate 11 ((first | (refine wpP_q (by rfl) (by rfl) ?_ ?_ ?_; rotate_left; focus (rintro W hX; have s0 := (hX.cell (p := ⟨b, off + k, none⟩) hb).trans hcell; go_simp; try (with_reducible rfl); done)) | refine wpP_skip (by rfl) (by rfl) ?_); try simp only [Act.put, List.setIfInBounds_toArray, List.set_cons_succ, List.set_cons_zero])
              refine wpP_a (by rfl) (by rfl) fun K hK => ?_
              go_simp
              refine (hlc _).mono ?_
              rintro r w3 ⟨u, rfl, hu, hb3⟩
              have hX3 : Below wr.heap.size wr w3 := (Below.refl _ wr).drew.trans hb3
              obtain ⟨A3, m3, cap3, rfl⟩ := hu.shape
              obtain rfl : m3 = (T.lines []).length := hu.cnt
              refine hK _ _ (fun _ => hX3) ?_; clear hK K; try simp only [Act.put, List.setIfInBounds_toArray, List.set_cons_succ, List.set_cons_zero]
              iterate 24 ((first | (refine wpP_q (by rfl) (by rfl) ?_ ?_ ?_; rotate_left; focus (rintro W hX; have s0 := (hX.cell (p := ⟨b, off + k, none⟩) hb).trans hcell; go_simp; try (with_reducible rfl); done)) | refine wpP_skip (by rfl) (by rfl) ?_); try simp only [Act.put, List.setIfInBounds_toArray, List.set_cons_succ, List.set_cons_zero])
              refine wpP_a (by rfl) (by rfl) fun K hK => ?_
              go_simp
              refine hK _ _ (fun h => absurd h (by omega)) ?_; clear hK K; try simp only [Act.put, List.setIfInBounds_toArray, List.set_cons_succ, List.set_cons_zero]
              refine wpP_nil ?_
              have hB3 := hB.trans (hX3.mono hBz)
              have hcell3 := (hX3.cell (p := ⟨b, off + k, none⟩) hb).trans hcell
              have hb3' := Nat.lt_of_lt_of_le hb hX3.size
              clear hlc hu hcell
              go_wp2
              go_roundw
              case rel => exact ⟨k + 1, by omega, (by rw [HN1.out]; simp only [ByteArray.mk_append_mk, List.append_assoc]), (by rw [HN2.out]), (by rw [HN3.out]), by go_num, hfr2, hsx2, hB3⟩
              case measure => simp [intOf] <;> omega
            · obtain ⟨q, hq⟩ : ∃ q, (c :: ts).length = q + 1 := ⟨ts.length, rfl⟩
              obtain ⟨l, hcl⟩ : ∃ l, l = c :: ts := ⟨_, rfl⟩
              rw [← hcl] at hlc hmI hmd HM hq hcell h60 h60I h60d HN1 HNW0 HNR0 hfr2of
              have hqN : q < l.length := by omega
              have h0N : 0 < l.length := by omega
              have h0I : (0 : Int) < (l.length : Int) := by omega
              have h0d : decide ((0 : Int) < (l.length : Int)) = true := decide_eq_true h0I
              have hne : ¬ l = [] := by rw [hcl]; simp
              have hqI : (q : Int) < (l.length : Int) := by omega
              have hsub : IntKind.i64.wrap (q : Int) = (q : Int) := IntWalk.i64_in _ (by omega)
              have hsub2 : (l.length : Int) - 1 = (q : Int) := by omega
              by_cases h10 : l[q] = 10
              · have hbb : ((((ByteArray.mk l.toArray)[q]'(by simpa [ByteArray.size] using hqN)).toNat : Int) == 10) = true := by
                  show ((l[q].toNat : Int) == 10) = true
                  rw [h10]; rfl
                clear h10 hcl hq hne
                go_wp2
                refine wp_region_P 36 [11, 36] [0, 1, 2, 3, 4, 5, 6, 7, 8, 9, 10, 11, 12, 13, 14, 15, 16, 17, 18, 19, 20, 21, 22, 23, 24, 25, 26, 27, 28, 29, 30, 31, 32, 33, 34, 35, 36] (fun X => Below wr.heap.size wr X) (by kernel_rfl) (by kernel_rfl) (by kernel_rfl) (by decide) (by simp only [ordOps, List.map_cons, List.map_nil, List.getElem?_cons_succ, List.getElem?_cons_zero, Option.getD_some]; repeat (first | exact trivial | refine ⟨.inl rfl, ?_⟩ | refine ⟨.inr fun _ _ _ _ h => h, ?_⟩)) ?_ ?_
                rotate_left; simp only [ordOps, List.map_cons, List.map_nil, List.getElem?_cons_succ, List.getElem?_cons_zero, Option.getD_some]; rotate_left
                · exact (Below.refl _ wr).drew
                iterate 11 ((first | (refine wpP_q (by rfl) (by rfl) ?_ ?_ ?_; rotate_left; focus (rintro W hX; have s0 := (hX.cell (p := ⟨b, off + k, none⟩) hb).trans hcell; go_simp; try (with_reducible rfl); done)) | refine wpP_skip (by rfl) (by rfl) ?_); try simp only [Act.put, List.setIfInBounds_toArray, List.set_cons_succ, List.set_cons_zero])
                refine wpP_a (by rfl) (by rfl) fun K hK => ?_
                go_simp
                refine (hlc _).mono ?_
                rintro r w3 ⟨u, rfl, hu, hb3⟩
                have hX3 : Below wr.heap.size wr w3 := (Below.refl _ wr).drew.trans hb3
                obtain ⟨A3, m3, cap3, rfl⟩ := hu.shape
                obtain rfl : m3 = (T.lines l).length := hu.cnt
                refine hK _ _ (fun _ => hX3) ?_; clear hK K; try simp only [Act.put, List.setIfInBounds_toArray, List.set_cons_succ, List.set_cons_zero]
                iterate 24 ((first | (refine wpP_q (by rfl) (by rfl) ?_ ?_ ?_; rotate_left; focus (rintro W hX; have s0 := (hX.cell (p := ⟨b, off + k, none⟩) hb).trans hcell; go_simp; try (with_reducible rfl); done)) | refine wpP_skip (by rfl) (by rfl) ?_); try simp only [Act.put, List.setIfInBounds_toArray, List.set_cons_succ, List.set_cons_zero])
                refine wpP_a (by rfl) (by rfl) fun K hK => ?_
                go_simp
                refine hK _ _ (fun h => absurd h (by omega)) ?_; clear hK K; try simp only [Act.put, List.setIfInBounds_toArray, List.set_cons_succ, List.set_cons_zero]
                refine wpP_nil ?_
                have hB3 := hB.trans (hX3.mono hBz)
                clear hlc hu
                have haw := HEV.out _ hB3
                go_wp2_with (go_at_call 12; (with_reducible refine haw.mono ?_); rintro r w6 ⟨rfl, hb6⟩)
                go_ret
                exact ⟨rfl, bthen hB3 hb6⟩
              · have hbb : ((((ByteArray.mk l.toArray)[q]'(by simpa [ByteArray.size] using hqN)).toNat : Int) == 10) = false := by
                  show ((l[q].toNat : Int) == 10) = false
                  rw [beq_eq_false_iff_ne]; intro e; exact h10 (u8_of l[q] 10 (by decide) (by omega))
                have hfr2 := hfr2of (T.no10_of l HM.out (no10_last l q hq h10))
                have HCL := Lib.hid hcl
                clear h10 hcl hq hfr2of
                go_wp2
                refine wp_region_P 36 [11, 36] [0, 1, 2, 3, 4, 5, 6, 7, 8, 9, 10, 11, 12, 13, 14, 15, 16, 17, 18, 19, 20, 21, 22, 23, 24, 25, 26, 27, 28, 29, 30, 31, 32, 33, 34, 35, 36] (fun X => Below wr.heap.size wr X) (by kernel_rfl) (by kernel_rfl) (by kernel_rfl) (by decide) (by simp only [ordOps, List.map_cons, List.map_nil, List.getElem?_cons_succ, List.getElem?_cons_zero, Option.getD_some]; repeat (first | exact trivial | refine ⟨.inl rfl, ?_⟩ | refine ⟨.inr fun _ _ _ _ h => h, ?_⟩)) ?_ ?_
                rotate_left; simp only [ordOps, List.map_cons, List.map_nil, List.getElem?_cons_succ, List.getElem?_cons_zero, Option.getD_some]; rotate_left
                · exact (Below.refl _ wr).drew
                iterate 11 ((first | (refine wpP_q (by rfl) (by rfl) ?_ ?_ ?_; rotate_left; focus (rintro W hX; have s0 := (hX.cell (p := ⟨b, off + k, none⟩) hb).trans hcell; go_simp; try (with_reducible rfl); done)) | refine wpP_skip (by rfl) (by rfl) ?_); try simp only [Act.put, List.setIfInBounds_toArray, List.set_cons_succ, List.set_cons_zero])
                refine wpP_a (by rfl) (by rfl) fun K hK => ?_
                go_simp
                refine (hlc _).mono ?_
                rintro r w3 ⟨u, rfl, hu, hb3⟩
                have hX3 : Below wr.heap.size wr w3 := (Below.refl _ wr).drew.trans hb3
                obtain ⟨A3, m3, cap3, rfl⟩ := hu.shape
                obtain rfl : m3 = (T.lines l).length := hu.cnt
                refine hK _ _ (fun _ => hX3) ?_; clear hK K; try simp only [Act.put, List.setIfInBounds_toArray, List.set_cons_succ, List.set_cons_zero]
                iterate 24 ((first | (refine wpP_q (by rfl) (by rfl) ?_ ?_ ?_; rotate_left; focus (rintro W hX; have s0 := (hX.cell (p := ⟨b, off + k, none⟩) hb).trans hcell; go_simp; try (with_reducible rfl); done)) | refine wpP_skip (by rfl) (by rfl) ?_); try simp only [Act.put, List.setIfInBounds_toArray, List.set_cons_succ, List.set_cons_zero])
                refine wpP_a (by rfl) (by rfl) fun K hK => ?_
                go_simp
                refine hK _ _ (fun h => absurd h (by omega)) ?_; clear hK K; try simp only [Act.put, List.setIfInBounds_toArray, List.set_cons_succ, List.set_cons_zero]
                refine wpP_nil ?_
                have hB3 := hB.trans (hX3.mono hBz)
                have hcell3 := (hX3.cell (p := ⟨b, off + k, none⟩) hb).trans hcell
                have hb3' := Nat.lt_of_lt_of_le hb hX3.size
                clear hlc hu hbb hsub hsub2 h0d h0I hX3 hcell
                have e := HCL.out
                subst e
                have hts : ts.length ≤ 59 := by simp only [List.length_cons] at h60; omega
                clear HCL
                by_cases hc35 : c = 35
                · have hmu : T.mute (c :: ts) = true := by simp [T.mute, hc35]
                  have hbad : T.badLine (c :: ts) = false := by simp [T.badLine, hmu]
                  rw [if_pos hmu] at HNW0
                  have HN2 := Lib.hid HNW0
                  have HN3 := Lib.hid (HNR0.trans (by rw [if_neg (by rw [hbad]; simp)]))
                  have h0' : ((((ByteArray.mk (c :: ts).toArray)[0]'(by simp [ByteArray.size])).toNat : Int) == 35) = true := by
                    show ((c.toNat : Int) == 35) = true
                    rw [hc35]; rfl
                  clear HNW0 HNR0 hmu hbad hc35
                  go_wp2
                  go_roundw
                  case rel => exact ⟨k + 1, by omega, (by rw [HN1.out]; simp only [ByteArray.mk_append_mk, List.append_assoc]), (by rw [HN2.out]), (by rw [HN3.out]), by go_num, hfr2, hsx2, hB3⟩
                  case measure => simp [intOf] <;> omega
                · have hmu : T.mute (c :: ts) = false := by simp [T.mute, hc35]
                  rw [if_neg (by rw [hmu]; exact Bool.false_ne_true)] at HNW0
                  have HN2 := Lib.hid HNW0
                  have h0' : ((((ByteArray.mk (c :: ts).toArray)[0]'(by simp [ByteArray.size])).toNat : Int) == 35) = false := by
                    show ((c.toNat : Int) == 35) = false
                    rw [beq_eq_false_iff_ne]; intro e; exact hc35 (u8_of c 35 (by decide) (by omega))
                  obtain ⟨d, ok, hsp⟩ : ∃ d ok, T.sparse (c :: ts) = (d, ok) := ⟨_, _, rfl⟩
                  have hpr := fun X : World => rsparse_c (c :: ts) (by omega) X
                  rw [hsp] at hpr
                  have hbad : T.badLine (c :: ts) = !ok := by simp [T.badLine, hmu, hsp]
                  rw [hbad] at HNR0
                  clear hsp hbad hmu hc35 HNW0
                  rcases ok with _ | _
                  · by_cases hR : R = 0
                    · have HN3 := Lib.hid (HNR0.trans (by rw [if_pos ⟨hR, rfl⟩]))
                      have hRb : ((R : Int) == 0) = true := by rw [beq_iff_eq]; omega
                      have hRd : decide ((R : Int) = 0) = true := decide_eq_true (by omega)
                      clear HNR0 hR
                      go_wp2_with fail
                      refine (hpr _).mono ?_
                      rintro r w4 ⟨rfl, hb4⟩
                      clear hpr
                      go_upto_region 14 with (refine wpList_store_new rfl _ _ _ rfl _ (Step.arr d) _ _ rfl rfl rfl rfl rfl (Step.one _) ?_)
                      go_wp2
                      go_roundw
                      case rel => exact ⟨k + 1, by omega, (by rw [HN1.out]; simp only [ByteArray.mk_append_mk, List.append_assoc]), (by rw [HN2.out]; simp only [ByteArray.mk_append_mk, List.append_assoc]), (by rw [HN3.out]; go_num), by go_num, hfr2, hsx2, (bthen hB3 hb4).alloc (bthen hB3 hb4).size _⟩
                      case measure => simp [intOf] <;> omega
                    · have HN3 := Lib.hid (HNR0.trans (by rw [if_neg (fun h => hR h.1)]))
                      have hRb : ((R : Int) == 0) = false := by rw [beq_eq_false_iff_ne]; omega
                      clear HNR0
                      go_wp2_with fail
                      refine (hpr _).mono ?_
                      rintro r w4 ⟨rfl, hb4⟩
                      clear hpr
                      go_upto_region 14 with (refine wpList_store_new rfl _ _ _ rfl _ (Step.arr d) _ _ rfl rfl rfl rfl rfl (Step.one _) ?_)
                      go_wp2
                      go_roundw
                      case rel => exact ⟨k + 1, by omega, (by rw [HN1.out]; simp only [ByteArray.mk_append_mk, List.append_assoc]), (by rw [HN2.out]; simp only [ByteArray.mk_append_mk, List.append_assoc]), (by rw [HN3.out]), by go_num, hfr2, hsx2, (bthen hB3 hb4).alloc (bthen hB3 hb4).size _⟩
                      case measure => simp [intOf] <;> omega
                  · have HN3 := Lib.hid (HNR0.trans (by rw [if_neg (by simp)]))
                    clear HNR0
                    go_wp2_with fail
                    refine (hpr _).mono ?_
                    rintro r w4 ⟨rfl, hb4⟩
                    clear hpr
                    go_upto_region 14 with (refine wpList_store_new rfl _ _ _ rfl _ (Step.arr d) _ _ rfl rfl rfl rfl rfl (Step.one _) ?_)
                    go_wp2
                    go_roundw
                    case rel => exact ⟨k + 1, by omega, (by rw [HN1.out]; simp only [ByteArray.mk_append_mk, List.append_assoc]), (by rw [HN2.out]; simp only [ByteArray.mk_append_mk, List.append_assoc]), (by rw [HN3.out]), by go_num, hfr2, hsx2, (bthen hB3 hb4).alloc (bthen hB3 hb4).size _⟩
                    case measure => simp [intOf] <;> omega
      · have hkI : ¬ (k : Int) < (ls.length : Int) := by omega
        have hke : ls.take k = ls := List.take_of_length_le (by omega)
        rw [hke] at hfr hsx ⊢
        have hal := T.allOf_len ls hsx.out
        obtain ⟨hz, hw⟩ := T.read_lines ls (by omega) hfr.out
        have hrd := read_c (T.allOf ls) (by omega) wr (he.below hB)
        have hokx : ∀ x ∈ (T.read (T.allOf ls)).1, Step.ok x := T.readGo_ok (T.lines (T.allOf ls)) [] 0 (by simp)
        unfold ReadPost at hrd
        obtain ⟨L1, hL1⟩ : ∃ L1, L1 = T.allOf ls := ⟨_, rfl⟩
        obtain ⟨L2, hL2⟩ : ∃ L2, L2 = T.wantOf ls := ⟨_, rfl⟩
        obtain ⟨R, hR⟩ : ∃ R, R = T.wrongOf ls := ⟨_, rfl⟩
        rw [← hL1] at hz hw hrd hokx ⊢
        rw [← hL2] at hz ⊢
        rw [← hR] at hz hw ⊢
        clear hL1 hL2 hR hke hfr hsx hal
        by_cases hR0 : R = 0
        · obtain ⟨xs, e1, e2, e3⟩ := hz hR0
          rw [e1] at hrd hokx
          dsimp only at hrd hokx
          have hRI : ¬ (0 : Int) < (R : Int) := by omega
          have hRd : decide ((0 : Int) < (R : Int)) = false := decide_eq_false hRI
          have HE2 := Lib.hid e2
          clear e1 e2 hz hw hR0
          go_upto_region 17 with (go_at_call 18; (with_reducible refine hrd.mono ?_); rintro r w3 ⟨u, rfl, hu, hb3⟩)
          have hB3 := bthen hB hb3
          have hln := slines_c u xs w3 (hu.sl Step.sz) hokx (by omega) (he.below hB3)
          rw [HE2.out] at hln
          clear hrd hu hokx
          go_wp2_with (first | (go_at_call 22; (with_reducible refine hln.mono ?_); rintro r w4 ⟨rfl, hb4⟩; have hB4 := bthen hB3 hb4; have haw := HEV.out _ hB4) | (go_at_call 12; (with_reducible refine haw.mono ?_); rintro r w6 ⟨rfl, hb6⟩))
          go_ret
          exact ⟨rfl, bthen hB4 hb6⟩
        · have e1 := hw hR0
          rw [e1] at hrd
          dsimp only at hrd
          have hRI : (0 : Int) < (R : Int) := by omega
          clear e1 hz hw hR0 hokx
          go_upto_region 17 with (go_at_call 18; (with_reducible refine hrd.mono ?_); rintro r w3 ⟨u, rfl, hu, hb3⟩)
          have hB3 := bthen hB hb3
          obtain ⟨A2, m, cap2, rfl⟩ := hu.shape
          obtain rfl : m = 0 := hu.cnt
          have haw := HEV.out _ hB3
          clear hrd hu
          go_wp2_with (go_at_call 12; (with_reducible refine haw.mono ?_); rintro r w6 ⟨rfl, hb6⟩)
          go_ret
          exact ⟨rfl, bthen hB3 hb6⟩
  · have h1 : (100 : Int) < ls.length := by omega
    have haw := HEV.out w (Below.refl _ _)
    go_enter Tryd.func6, Tryd.ntmps6
    go_wp2_with (go_at_call 12; (with_reducible refine haw.mono ?_); rintro r w6 ⟨rfl, hb6⟩)
    go_ret
    exact ⟨rfl, hb6⟩
end Go.Proofs.YtpgdgboobnmjiaaDoor
