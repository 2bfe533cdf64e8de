/- The text of a program: the plain words; the document's walk; the document's units. -/
import Derived.Test.YtpgdgboobnmjiaaGreatDoorPRightR
import Derived.Test.YtpgdgboobnmjiaaGreatDoorText
import Derived.Test.YtpgdgboobnmjiaaGreatDoorKeyT
namespace Go.Proofs.YtpgdgboobnmjiaaGreatDoor
open Go.RowKit Go.Shelf
set_option linter.unusedVariables false
set_option linter.unusedSimpArgs false
def T.verbs : List (List UInt8) := [[119, 111, 114, 107], [115, 112, 97, 119, 110], [106, 111, 105, 110], [104, 101, 97, 100], [97, 110, 115, 119, 101, 114], [102, 97, 105, 108], [114, 101, 102, 117, 115, 101]]
def T.verb (k : Int) : List UInt8 := T.verbs.getD (k - 1).toNat []
theorem T.kinds7 (k : Int) (h : 1 ≤ k ∧ k ≤ 7) : k = 1 ∨ k = 2 ∨ k = 3 ∨ k = 4 ∨ k = 5 ∨ k = 6 ∨ k = 7 := by omega
theorem T.verb_len (k : Int) (h : 1 ≤ k ∧ k ≤ 7) : (T.verb k).length ≤ 6 := by
  rcases T.kinds7 k h with rfl | rfl | rfl | rfl | rfl | rfl | rfl <;> decide
def T.opNum1 (o : GoOp) : List UInt8 := if T.pcount o.kind = 0 then [] else 32 :: Lib.itoa o.a
def T.opNum2 (o : GoOp) : List UInt8 := if T.pcount o.kind = 2 then 32 :: Lib.itoa o.b else []
def T.opText (o : GoOp) : List UInt8 := T.verb o.kind ++ T.opNum1 o ++ T.opNum2 o
def T.known (o : GoOp) : Bool := decide (1 ≤ o.kind ∧ o.kind ≤ 7)
def T.joinS : List (List UInt8) → List UInt8
  | [] => []
  | p :: ps => if ps = [] then p else p ++ ([59, 32] ++ T.joinS ps)
theorem T.joinS_snoc (ps : List (List UInt8)) (p : List UInt8) : T.joinS (ps ++ [p]) = if ps = [] then p else T.joinS ps ++ ([59, 32] ++ p) := by
  induction ps with
  | nil => simp [T.joinS]
  | cons q ps ih =>
    rw [List.cons_append, T.joinS, if_neg (by simp), if_neg (by simp), ih, T.joinS]
    by_cases h : ps = []
    · rw [if_pos h, if_pos h]
    · rw [if_neg h, if_neg h]; simp
def T.progText (xs : List GoOp) : List UInt8 := if xs.all T.known = true then T.joinS (xs.map T.opText) else []
theorem T.itoa21 {n : Int} (h : i64 n) : (Lib.itoa n).length ≤ 21 := by
  have := T.itoa_i64 h
  omega
theorem T.opText_len (o : GoOp) (h : GoOp.ok o) (hk : T.known o = true) : (T.opText o).length ≤ 50 := by
  have hk' : 1 ≤ o.kind ∧ o.kind ≤ 7 := by simpa [T.known] using hk
  have h1 := T.verb_len o.kind hk'
  have h2 := T.itoa21 h.2.1
  have h3 := T.itoa21 h.2.2
  unfold T.opText T.opNum1 T.opNum2
  split <;> split <;> simp <;> omega
theorem T.joinS_len (xs : List GoOp) (h : ∀ x ∈ xs, GoOp.ok x) (hk : xs.all T.known = true) : (T.joinS (xs.map T.opText)).length ≤ 52 * xs.length := by
  induction xs with
  | nil => simp [T.joinS]
  | cons x xs ih =>
    rw [List.all_cons, Bool.and_eq_true] at hk
    have h1 := T.opText_len x (h x List.mem_cons_self) hk.1
    have h2 := ih (fun y hy => h y (List.mem_cons_of_mem _ hy)) hk.2
    rw [List.map_cons, T.joinS, List.length_cons]
    split
    · omega
    · simp only [List.length_append, List.length_cons, List.length_nil]; omega
theorem T.joinS_step (xs : List GoOp) (k : Nat) (hk : k < xs.length) : T.joinS ((xs.take (k + 1)).map T.opText) = if k = 0 then T.opText xs[k] else T.joinS ((xs.take k).map T.opText) ++ ([59, 32] ++ T.opText xs[k]) := by
  rw [List.take_succ_eq_append_getElem hk, List.map_append, List.map_cons, List.map_nil, T.joinS_snoc]
  by_cases h0 : k = 0
  · subst h0; simp
  · rw [if_neg h0, if_neg]
    intro e
    have : ((xs.take k).map T.opText).length = 0 := by rw [e]; rfl
    rw [List.length_map, List.length_take] at this
    omega
set_option maxRecDepth 100000 in
set_option maxHeartbeats 4000000 in
theorem rverb_c (k : Int) (h : 1 ≤ k ∧ k ≤ 7) (w : World) : Calls Tryz.prog 45 #[.int .i64 k] w fun r w' => r = .returned (strV (T.verb k)) ∧ Below w.heap.size w w' := by
  rcases T.kinds7 k h with rfl | rfl | rfl | rfl | rfl | rfl | rfl
  all_goals
    clear h
    go_enter Tryz.func45, Tryz.ntmps45
    go_wp2
    go_ret
    exact ⟨rfl, (Below.refl _ w).alloc (Nat.le_refl _) _⟩
theorem rnumbers_c (k : Int) (h : 1 ≤ k ∧ k ≤ 7) (w : World) : Calls Tryz.prog 46 #[.int .i64 k] w fun r w' => r = .returned (.int .i64 (T.pcount k)) ∧ w' = w := by
  rcases T.kinds7 k h with rfl | rfl | rfl | rfl | rfl | rfl | rfl
  all_goals
    clear h
    go_enter Tryz.func46, Tryz.ntmps46
    go_wp2
    go_ret
    exact ⟨rfl, rfl⟩
attribute [local go_sem] GoOp.sz
set_option maxRecDepth 100000 in
set_option maxHeartbeats 8000000 in
theorem rtext_c (v : Value) (xs : List GoOp) (w : World) (h : Sl GoOp.arr 3 w.heap.size w v xs) (hok : ∀ x ∈ xs, GoOp.ok x) (hn : xs.length ≤ 10000) :
    Calls Tryz.prog 29 #[v] w fun r w' => r = .returned (strV (T.progText xs)) ∧ Below w.heap.size w w' := by
  obtain ⟨A, cap, rfl, hcap, hl1, hl2⟩ := h.view
  have HOK := Lib.hid hok
  clear hok
  go_enter Tryz.func29, Tryz.ntmps29
  go_wp2
  go_loopw [3, 4] (fun t i wr => ∃ k : Nat, k ≤ xs.length ∧ i = .int .i64 (k : Int) ∧ t = strV (T.joinS ((xs.take k).map T.opText)) ∧ Hid ((xs.take k).all T.known = true) ∧ Below w.heap.size w wr) (fun _ i _ => xs.length - (intOf i).toNat)
  case atStart => exact ⟨0, Nat.zero_le _, rfl, rfl, Lib.hid rfl, Below.refl _ _⟩
  case round =>
    obtain ⟨k, hk, rfl, rfl, hkn, hB⟩ := hrel
    have hBz := hB.size
    by_cases hkl : k < xs.length
    · have hkI : (k : Int) < (xs.length : Int) := by omega
      have hS := (h.below hB).mono hBz
      obtain ⟨bb, off, hA, hb, hrow, _⟩ := hS.at hkl
      subst hA
      have hlen := T.joinS_len (xs.take k) (fun y hy => HOK.out y (List.mem_of_mem_take hy)) hkn.out
      rw [List.length_take] at hlen
      have HN := Lib.hid (T.joinS_step xs k hkl)
      obtain ⟨x, hx⟩ : ∃ x, x = xs[k] := ⟨_, rfl⟩
      rw [← hx] at hrow HN
      have hxo := HOK.out x (by rw [hx]; exact List.getElem_mem _)
      have hknx : (xs.take (k + 1)).all T.known = ((xs.take k).all T.known && T.known x) := by rw [List.take_succ_eq_append_getElem hkl, List.all_append, ← hx]; simp
      have hmem : x ∈ xs := by rw [hx]; exact List.getElem_mem _
      have HM := Lib.hid hmem
      obtain ⟨L, hL⟩ : ∃ L, L = T.joinS ((xs.take k).map T.opText) := ⟨_, rfl⟩
      have HL0 := Lib.hid hL
      rw [← hL] at hlen HN ⊢
      replace hlen : L.length ≤ 520000 := by omega
      have c0 : wr.cell? ⟨bb, off + k * 3, none⟩ = some (.int .i64 x.kind) := rowAt_cell hrow 0 (by omega)
      have c1 : wr.cell? ⟨bb, off + k * 3 + 1, none⟩ = some (.int .i64 x.a) := rowAt_cell hrow 1 (by omega)
      have c2 : wr.cell? ⟨bb, off + k * 3 + 2, none⟩ = some (.int .i64 x.b) := rowAt_cell hrow 2 (by omega)
      have hwk : IntKind.i64.wrap ((k : Int) + 1) = (k : Int) + 1 := IntWalk.i64_in _ (by omega)
      have HKN := Lib.hid hknx
      clear hL hx hS hrow hmem hknx
      obtain ⟨kd, hkd⟩ : ∃ kd, kd = x.kind := ⟨_, rfl⟩
      rw [← hkd] at c0
      by_cases hlow : kd < 1
      · have HR := Lib.hid (show T.progText xs = [] by
          rw [T.progText, if_neg]
          intro e
          have := List.all_eq_true.1 e x HM.out
          simp only [T.known, decide_eq_true_eq] at this; omega)
        clear hkd HKN hkn HN
        go_wp2
        go_ret
        exact ⟨by rw [HR.out] <;> rfl, hB⟩
      · by_cases hhi : 7 < kd
        · have HR := Lib.hid (show T.progText xs = [] by
            rw [T.progText, if_neg]
            intro e
            have := List.all_eq_true.1 e x HM.out
            simp only [T.known, decide_eq_true_eq] at this; omega)
          clear hkd HKN hkn HN
          go_wp2
          go_ret
          exact ⟨by rw [HR.out] <;> rfl, hB⟩
        · have hkk : 1 ≤ kd ∧ kd ≤ 7 := by omega
          have hkx : T.known x = true := by simp only [T.known, decide_eq_true_eq]; omega
          have hkn2 := Lib.hid (show (xs.take (k + 1)).all T.known = true by rw [HKN.out, hkn.out, hkx]; rfl)
          have ha := T.itoa21 hxo.2.1
          have hbn := T.itoa21 hxo.2.2
          have hvl := T.verb_len kd hkk
          have HV := fun X : World => rverb_c kd hkk X
          have HNU := fun X : World => rnumbers_c kd hkk X
          have HDA := fun X : World => digits_c x.a hxo.2.1.1 hxo.2.1.2 X
          have HDB := fun X : World => digits_c x.b hxo.2.2.1 hxo.2.2.2 X
          obtain ⟨vb, hvb⟩ : ∃ vb, vb = T.verb kd := ⟨_, rfl⟩
          obtain ⟨ta, hta⟩ : ∃ ta, ta = Lib.itoa x.a := ⟨_, rfl⟩
          obtain ⟨tb, htb⟩ : ∃ tb, tb = Lib.itoa x.b := ⟨_, rfl⟩
          rw [← hta] at ha HDA
          rw [← htb] at hbn HDB
          rw [← hvb] at hvl HV
          have HTX := Lib.hid (show T.opText x = vb ++ (if T.pcount kd = 0 then [] else 32 :: ta) ++ (if T.pcount kd = 2 then 32 :: tb else []) by rw [T.opText, T.opNum1, T.opNum2, hvb, hta, htb, hkd])
          have hcum := Below.refl wr.heap.size wr
          have hpc : T.pcount kd = 0 ∨ T.pcount kd = 1 ∨ T.pcount kd = 2 := by unfold T.pcount; split <;> (try split) <;> omega
          have h0 : k = 0 ∨ 0 < k := by omega
          have HH := Lib.hid HDA
          have HI := Lib.hid HDB
          have HJ := Lib.hid HV
          have HK := Lib.hid HNU
          have C0 := Lib.hid c0
          have C1 := Lib.hid c1
          have C2 := Lib.hid c2
          have HNX := HN.out
          clear hkd hta htb hvb hkn HKN hkx hxo HDA HDB HV HNU hkk HN
          rcases Nat.eq_zero_or_pos k with hk0 | hk0
          · rw [if_pos hk0] at HNX
            have HN2 := Lib.hid HNX
            have HLN := Lib.hid (show L = [] by rw [HL0.out, hk0]; rfl)
            have h0I : ¬ (0 : Int) < (k : Int) := by omega
            have h0d : decide ((0 : Int) < (k : Int)) = false := decide_eq_false h0I
            have h0N : decide (0 < k) = false := decide_eq_false (by omega)
            clear hk0
            clear HNX
            rcases hpc with hpc | hpc | hpc
            all_goals
              have hnum := HK.out
              rw [hpc] at hnum HTX
              clear hpc HK
              go_wp2_with (first | (go_at_call 45; (with_reducible refine (HJ.out _).mono ?_); rintro r X ⟨rfl, hbX⟩; have hcum := bthen hcum hbX; have d0 := (hcum.cell (p := ⟨bb, off + k * 3, none⟩) hb).trans C0.out; have d1 := (hcum.cell (p := ⟨bb, off + k * 3 + 1, none⟩) hb).trans C1.out; have d2 := (hcum.cell (p := ⟨bb, off + k * 3 + 2, none⟩) hb).trans C2.out) | (go_at_call 46; (with_reducible refine (hnum _).mono ?_); rintro r X ⟨rfl, hX⟩; rw [hX]; clear hX) | (go_at_call 28; (with_reducible refine (HH.out _).mono ?_); rintro r X ⟨rfl, hbX⟩; have hcum := bthen hcum hbX; have d0 := (hcum.cell (p := ⟨bb, off + k * 3, none⟩) hb).trans C0.out; have d1 := (hcum.cell (p := ⟨bb, off + k * 3 + 1, none⟩) hb).trans C1.out; have d2 := (hcum.cell (p := ⟨bb, off + k * 3 + 2, none⟩) hb).trans C2.out) | (go_at_call 28; (with_reducible refine (HI.out _).mono ?_); rintro r X ⟨rfl, hbX⟩; have hcum := bthen hcum hbX; have d0 := (hcum.cell (p := ⟨bb, off + k * 3, none⟩) hb).trans C0.out; have d1 := (hcum.cell (p := ⟨bb, off + k * 3 + 1, none⟩) hb).trans C1.out; have d2 := (hcum.cell (p := ⟨bb, off + k * 3 + 2, none⟩) hb).trans C2.out))
              go_roundw
              case rel => exact ⟨k + 1, by omega, by go_num, (by rw [HN2.out, HTX.out, HLN.out]; simp [ByteArray.mk_append_mk]), hkn2, bthen hB hcum⟩
              case measure => simp [intOf] <;> omega
          · rw [if_neg (by omega)] at HNX
            have HN2 := Lib.hid HNX
            have h0I : (0 : Int) < (k : Int) := by omega
            clear HNX
            rcases hpc with hpc | hpc | hpc
            all_goals
              have hnum := HK.out
              rw [hpc] at hnum HTX
              clear hpc HK
              go_wp2_with (first | (go_at_call 45; (with_reducible refine (HJ.out _).mono ?_); rintro r X ⟨rfl, hbX⟩; have hcum := bthen hcum hbX; have d0 := (hcum.cell (p := ⟨bb, off + k * 3, none⟩) hb).trans C0.out; have d1 := (hcum.cell (p := ⟨bb, off + k * 3 + 1, none⟩) hb).trans C1.out; have d2 := (hcum.cell (p := ⟨bb, off + k * 3 + 2, none⟩) hb).trans C2.out) | (go_at_call 46; (with_reducible refine (hnum _).mono ?_); rintro r X ⟨rfl, hX⟩; rw [hX]; clear hX) | (go_at_call 28; (with_reducible refine (HH.out _).mono ?_); rintro r X ⟨rfl, hbX⟩; have hcum := bthen hcum hbX; have d0 := (hcum.cell (p := ⟨bb, off + k * 3, none⟩) hb).trans C0.out; have d1 := (hcum.cell (p := ⟨bb, off + k * 3 + 1, none⟩) hb).trans C1.out; have d2 := (hcum.cell (p := ⟨bb, off + k * 3 + 2, none⟩) hb).trans C2.out) | (go_at_call 28; (with_reducible refine (HI.out _).mono ?_); rintro r X ⟨rfl, hbX⟩; have hcum := bthen hcum hbX; have d0 := (hcum.cell (p := ⟨bb, off + k * 3, none⟩) hb).trans C0.out; have d1 := (hcum.cell (p := ⟨bb, off + k * 3 + 1, none⟩) hb).trans C1.out; have d2 := (hcum.cell (p := ⟨bb, off + k * 3 + 2, none⟩) hb).trans C2.out))
              go_roundw
              case rel => exact ⟨k + 1, by omega, by go_num, (by rw [HN2.out, HTX.out]; simp [ByteArray.mk_append_mk]), hkn2, bthen hB hcum⟩
              case measure => simp [intOf] <;> omega
    · have hkI : ¬ (k : Int) < (xs.length : Int) := by omega
      have hke : xs.take k = xs := List.take_of_length_le (by omega)
      have hall := hkn.out
      rw [hke] at hall ⊢
      have HR := Lib.hid (show T.progText xs = T.joinS (xs.map T.opText) by rw [T.progText, if_pos hall])
      clear hke hall hkn
      go_wp2
      go_ret
      exact ⟨by rw [HR.out] <;> rfl, hB⟩
end Go.Proofs.YtpgdgboobnmjiaaGreatDoor
