/- A number of a step's text: the document's walk. -/
import Derived.Test.YtpgdgboobnmjiaaDoorRSP
import Derived.Test.YtpgdgboobnmjiaaDoorHeadP
import Derived.Test.YtpgdgboobnmjiaaDoorLinesW
namespace Go.Proofs.YtpgdgboobnmjiaaDoor
open Go.RowKit Go.Shelf
set_option linter.unusedVariables false
set_option linter.unusedSimpArgs false
theorem bytes_mid (l : List UInt8) (i j : Nat) (h : i ≤ j) : (ByteArray.mk l.toArray).extract i j = ⟨((l.drop i).take (j - i)).toArray⟩ := by
  rw [ByteArray.ext_iff, ByteArray.data_extract]
  simp
theorem T.digs_end (l : List UInt8) (j m : Nat) (h : l.length ≤ j) : T.digs (l.drop j) m = (m, l.drop j) := by
  rw [List.drop_eq_nil_of_le h]; rfl
theorem T.digs_stop (l : List UInt8) (j m : Nat) (h : j < l.length) (hs : ¬ (48 ≤ l[j].toNat ∧ l[j].toNat ≤ 57 ∧ m < 10000000000000000)) : T.digs (l.drop j) m = (m, l.drop j) := by
  rw [List.drop_eq_getElem_cons h, T.digs, if_neg hs]
theorem T.digs_go (l : List UInt8) (j m : Nat) (h : j < l.length) (hs : 48 ≤ l[j].toNat ∧ l[j].toNat ≤ 57 ∧ m < 10000000000000000) : T.digs (l.drop j) m = T.digs (l.drop (j + 1)) (10 * m + (l[j].toNat - 48)) := by
  rw [List.drop_eq_getElem_cons h, T.digs, if_pos hs]
theorem T.digs_cases (l : List UInt8) (j m : Nat) (hjl : j ≤ l.length) : ((j = l.length ∨ ∃ h : j < l.length, (l[j].toNat < 48 ∨ (48 ≤ l[j].toNat ∧ 57 < l[j].toNat) ∨ (48 ≤ l[j].toNat ∧ l[j].toNat ≤ 57 ∧ 10000000000000000 ≤ m))) ∧ T.digs (l.drop j) m = (m, l.drop j))
    ∨ (∃ h : j < l.length, (48 ≤ l[j].toNat ∧ l[j].toNat ≤ 57 ∧ m < 10000000000000000) ∧ T.digs (l.drop j) m = T.digs (l.drop (j + 1)) (10 * m + (l[j].toNat - 48))) := by
  by_cases h1 : j < l.length
  · by_cases h2 : 48 ≤ l[j].toNat ∧ l[j].toNat ≤ 57 ∧ m < 10000000000000000
    · exact .inr ⟨h1, h2, T.digs_go l j m h1 h2⟩
    · exact .inl ⟨.inr ⟨h1, by omega⟩, T.digs_stop l j m h1 h2⟩
  · exact .inl ⟨.inl (by omega), T.digs_end l j m (by omega)⟩
theorem T.rnum_at (l : List UInt8) (k j m j0 : Nat) (v : Int) (hk : j0 = (if (l.drop k).head? = some 45 then k + 1 else k)) (hv : v = (if (l.drop k).head? = some 45 then -(m : Int) else m))
    (hd : T.digs (l.drop j0) 0 = (m, l.drop j)) (h1 : k ≤ j) (h2 : j ≤ l.length) : T.rnum (l.drop k) = (v, l.drop j, decide (Lib.itoa v = (l.drop k).take (j - k))) := by
  have hsplit : l.drop k = (l.drop k).take (j - k) ++ l.drop j :=
    (List.take_append_drop (j - k) (l.drop k)).symm.trans (by rw [List.drop_drop, show k + (j - k) = j by omega])
  have hiff : (l.drop k = Lib.itoa v ++ l.drop j) = (Lib.itoa v = (l.drop k).take (j - k)) := by
    apply propext
    constructor
    · intro h
      rw [hsplit] at h
      exact (List.append_cancel_right h).symm
    · intro h
      rw [h]
      exact hsplit
  unfold T.rnum
  by_cases hc : (l.drop k).head? = some 45
  · rw [if_pos hc] at hk hv
    rw [hk] at hd
    have ht : (l.drop k).tail = l.drop (k + 1) := by rw [List.tail_drop]
    rw [if_pos hc, ht, hd]
    simp only
    rw [← hv]
    congr 2
    exact decide_eq_decide.2 (iff_of_eq hiff)
  · rw [if_neg hc] at hk hv
    rw [hk] at hd
    rw [if_neg hc, hd]
    simp only
    rw [← hv]
    congr 2
    exact decide_eq_decide.2 (iff_of_eq hiff)
theorem T.head_drop (l : List UInt8) (k : Nat) (h : k < l.length) : (l.drop k).head? = some l[k] := by
  rw [List.drop_eq_getElem_cons h]; rfl
theorem rnum_results (tmps : Array Value) (w : World) (a b c : Value) (h4 : tmps.getD 4 undef = a) (h5 : tmps.getD 5 undef = b) (h6 : tmps.getD 6 undef = c) : (results Tryd.f45 tmps).run Tryd.prog w = .ok (.tuple #[a, b, c]) w := by
  have h4' : tmps[4]?.getD undef = a := by simpa using h4
  have h5' : tmps[5]?.getD undef = b := by simpa using h5
  have h6' : tmps[6]?.getD undef = c := by simpa using h6
  simp [results, Tryd.results45, h4', h5', h6', go_sem]
set_option maxRecDepth 100000 in
set_option maxHeartbeats 8000000 in
theorem rnumber_c (l : List UInt8) (hl : l.length ≤ 1000000) (k : Nat) (hk : k ≤ l.length) (w : World) :
    Calls Tryd.prog 45 #[strV l, .int .i64 k] w fun r w' => r = .returned (.tuple #[.int .i64 (T.rnum (l.drop k)).1, .int .i64 ((l.length : Int) - ((T.rnum (l.drop k)).2.1.length : Int)), .bool (T.rnum (l.drop k)).2.2]) ∧ Below w.heap.size w w' := by
  obtain ⟨ng, hng⟩ : ∃ ng : Bool, ng = decide ((l.drop k).head? = some 45) := ⟨_, rfl⟩
  obtain ⟨j0, hj0⟩ : ∃ j0, j0 = (if (l.drop k).head? = some 45 then k + 1 else k) := ⟨_, rfl⟩
  have hend : ∀ j m : Nat, T.digs (l.drop j0) 0 = (m, l.drop j) → k ≤ j → j ≤ l.length → T.rnum (l.drop k) = (if ng = true then -(m : Int) else m, l.drop j, decide (Lib.itoa (if ng = true then -(m : Int) else m) = (l.drop k).take (j - k))) :=
    fun j m hd h1 h2 => T.rnum_at l k j m j0 _ hj0 (by rw [hng]; simp) hd h1 h2
  have HE := Lib.hid hend
  clear hend
  have hc : (k = l.length ∧ ng = false ∧ j0 = k) ∨ (∃ h : k < l.length, l[k].toNat ≠ 45 ∧ ng = false ∧ j0 = k) ∨ (∃ h : k < l.length, l[k].toNat = 45 ∧ ng = true ∧ j0 = k + 1) := by
    by_cases h : k < l.length
    · rw [T.head_drop l k h] at hng hj0
      by_cases h45 : l[k].toNat = 45
      · have : l[k] = 45 := UInt8.toNat_inj.1 h45
        rw [this] at hng hj0
        exact .inr (.inr ⟨h, h45, by rw [hng]; simp, by rw [hj0]; simp⟩)
      · have : l[k] ≠ 45 := fun e => h45 (by rw [e]; rfl)
        exact .inr (.inl ⟨h, h45, by rw [hng]; simp [this], by rw [hj0]; simp [this]⟩)
    · have hke : k = l.length := by omega
      rw [List.drop_eq_nil_of_le (by omega)] at hng hj0
      exact .inl ⟨hke, by rw [hng]; simp, by rw [hj0]; simp⟩
  have hwk : IntKind.i64.wrap ((k : Int) + 1) = (k : Int) + 1 := IntWalk.i64_in _ (by omega)
  have HJ := Lib.hid hj0
  clear hng hj0
  rcases hc with ⟨hke, hn, hj⟩ | ⟨hkl, hb, hn, hj⟩ | ⟨hkl, hb, hn, hj⟩
  · have hlt : ¬ (k : Int) < (l.length : Int) := by omega
    clear hke
    subst hn
    have hj' := hj.symm
    subst hj'
    clear hj
    go_enter Tryd.func45, Tryd.ntmps45
    go_wp2
    go_loopw [1, 8] (fun a n wr => ∃ j m : Nat, k ≤ j ∧ j ≤ l.length ∧ a = .int .i64 (j : Int) ∧ n = .int .i64 (m : Int) ∧ Hid (T.digs (l.drop (k)) 0 = T.digs (l.drop j) m) ∧ m ≤ 100000000000000000 ∧ Below w.heap.size w wr) (fun a _ _ => l.length - (intOf a).toNat)
    case atStart => exact ⟨k, 0, Nat.le_refl _, by omega, by go_num, by go_num, Lib.hid rfl, by omega, Below.refl _ _⟩
    case round =>
      obtain ⟨j, m, hj0, hjl, rfl, rfl, hd, hm, hB⟩ := hrel
      rcases T.digs_cases l j m hjl with ⟨h1, he⟩ | ⟨h1, h2, he⟩
      · have hres := HE.out j m (hd.out.trans he) (by omega) hjl
        have HR := Lib.hid hres
        clear hd he HE hres
        have hx : (j = l.length) ∨ (∃ b : Nat, ∃ h : j < l.length, b < 256 ∧ ((ByteArray.mk l.toArray)[j]'(by simpa [ByteArray.size] using h)).toNat = b ∧ (b < 48 ∨ (48 ≤ b ∧ 57 < b) ∨ (48 ≤ b ∧ b ≤ 57 ∧ 10000000000000000 ≤ m))) := by
          rcases h1 with h1 | ⟨h1, h2⟩
          · exact .inl h1
          · exact .inr ⟨l[j].toNat, h1, UInt8.toNat_lt _, rfl, h2⟩
        clear h1
        rcases hx with h1 | ⟨b, h1, hb8, hbb, h2⟩
        · have hI : ¬ (j : Int) < (l.length : Int) := by omega
          clear h1
          go_wp2
          have HV := Lib.hid (show T.rnum (l.drop k) = ((m : Int), l.drop j, decide (Lib.itoa ((m : Int)) = (l.drop k).take (j - k))) from HR.out)
          clear HR
          have hmid := bytes_mid l k j (by omega)
          obtain ⟨cs, hcs⟩ : ∃ cs, cs = (l.drop k).take (j - k) := ⟨_, rfl⟩
          rw [← hcs] at hmid
          have HC := Lib.hid hcs
          clear hcs
          have hs2 : (k : Int) ≤ (j : Int) := by omega
          have hjj : (l.length : Int) - ((l.drop j).length : Int) = (j : Int) := by rw [List.length_drop]; omega
          have hs3 : (j : Int) ≤ (l.length : Int) := by omega
          have hs4 : (0 : Int) ≤ (k : Int) := by omega
          have hdg := fun X : World => digits_c ((m : Int)) (by omega) (by omega) X
          by_cases ht : Lib.itoa ((m : Int)) = cs
          · have HT := Lib.hid ht
            rw [ht] at hdg
            clear ht
            refine wp_region_calm (by kernel_rfl) (by kernel_rfl) ?_
            repeat ((fail_if_success (with_reducible refine wpQuiet_nil ?_)); (first | go_big_quiet_skip | go_big_quiet_step ((go_at_call 53; exact calm_of (hdg _)))))
            refine wpQuiet_nil ?_
            rintro _ ⟨⟨X, hX⟩, rfl⟩
            go_wp2
            refine bodyPost_ret (rnum_results _ _ _ _ _ rfl rfl rfl) rfl ?_
            exact ⟨by rw [HV.out, ← HC.out]; simp only [hjj]; simp [HT.out], bthen hB hX⟩
          · have HT := Lib.hid ht
            have hne : (Lib.itoa ((m : Int)) == cs) = false := beq_eq_false_iff_ne.2 ht
            clear ht
            refine wp_region_calm (by kernel_rfl) (by kernel_rfl) ?_
            repeat ((fail_if_success (with_reducible refine wpQuiet_nil ?_)); (first | go_big_quiet_skip | go_big_quiet_step ((go_at_call 53; exact calm_of (hdg _)))))
            refine wpQuiet_nil ?_
            rintro _ ⟨⟨X, hX⟩, rfl⟩
            go_wp2
            refine bodyPost_ret (rnum_results _ _ _ _ _ rfl rfl rfl) rfl ?_
            exact ⟨by rw [HV.out, ← HC.out]; simp only [hjj]; simp [HT.out], bthen hB hX⟩
        · have hI : (j : Int) < (l.length : Int) := by omega
          exfalso; omega
      · obtain ⟨b, hb8, hbb, hb1⟩ : ∃ b : Nat, b < 256 ∧ ((ByteArray.mk l.toArray)[j]'(by simpa [ByteArray.size] using h1)).toNat = b ∧ b = l[j].toNat := ⟨l[j].toNat, UInt8.toNat_lt _, rfl, rfl⟩
        rw [← hb1] at h2 he
        exfalso; omega
  · have hlt : (k : Int) < (l.length : Int) := by omega
    have hbb0 : ((((ByteArray.mk l.toArray)[k]'(by simpa [ByteArray.size] using hkl)).toNat : Int) == 45) = false := by
      rw [beq_eq_false_iff_ne]
      intro e
      exact hb (by exact_mod_cast e)
    subst hn
    have hj' := hj.symm
    subst hj'
    clear hj hb
    go_enter Tryd.func45, Tryd.ntmps45
    go_wp2
    go_loopw [1, 8] (fun a n wr => ∃ j m : Nat, k ≤ j ∧ j ≤ l.length ∧ a = .int .i64 (j : Int) ∧ n = .int .i64 (m : Int) ∧ Hid (T.digs (l.drop (k)) 0 = T.digs (l.drop j) m) ∧ m ≤ 100000000000000000 ∧ Below w.heap.size w wr) (fun a _ _ => l.length - (intOf a).toNat)
    case atStart => exact ⟨k, 0, Nat.le_refl _, by omega, by go_num, by go_num, Lib.hid rfl, by omega, Below.refl _ _⟩
    case round =>
      obtain ⟨j, m, hj0, hjl, rfl, rfl, hd, hm, hB⟩ := hrel
      rcases T.digs_cases l j m hjl with ⟨h1, he⟩ | ⟨h1, h2, he⟩
      · have hres := HE.out j m (hd.out.trans he) (by omega) hjl
        have HR := Lib.hid hres
        clear hd he HE hres
        have hx : (j = l.length) ∨ (∃ b : Nat, ∃ h : j < l.length, b < 256 ∧ ((ByteArray.mk l.toArray)[j]'(by simpa [ByteArray.size] using h)).toNat = b ∧ (b < 48 ∨ (48 ≤ b ∧ 57 < b) ∨ (48 ≤ b ∧ b ≤ 57 ∧ 10000000000000000 ≤ m))) := by
          rcases h1 with h1 | ⟨h1, h2⟩
          · exact .inl h1
          · exact .inr ⟨l[j].toNat, h1, UInt8.toNat_lt _, rfl, h2⟩
        clear h1
        rcases hx with h1 | ⟨b, h1, hb8, hbb, h2⟩
        · have hI : ¬ (j : Int) < (l.length : Int) := by omega
          clear h1
          go_wp2
          have HV := Lib.hid (show T.rnum (l.drop k) = ((m : Int), l.drop j, decide (Lib.itoa ((m : Int)) = (l.drop k).take (j - k))) from HR.out)
          clear HR
          have hmid := bytes_mid l k j (by omega)
          obtain ⟨cs, hcs⟩ : ∃ cs, cs = (l.drop k).take (j - k) := ⟨_, rfl⟩
          rw [← hcs] at hmid
          have HC := Lib.hid hcs
          clear hcs
          have hs2 : (k : Int) ≤ (j : Int) := by omega
          have hjj : (l.length : Int) - ((l.drop j).length : Int) = (j : Int) := by rw [List.length_drop]; omega
          have hs3 : (j : Int) ≤ (l.length : Int) := by omega
          have hs4 : (0 : Int) ≤ (k : Int) := by omega
          have hdg := fun X : World => digits_c ((m : Int)) (by omega) (by omega) X
          by_cases ht : Lib.itoa ((m : Int)) = cs
          · have HT := Lib.hid ht
            rw [ht] at hdg
            clear ht
            refine wp_region_calm (by kernel_rfl) (by kernel_rfl) ?_
            repeat ((fail_if_success (with_reducible refine wpQuiet_nil ?_)); (first | go_big_quiet_skip | go_big_quiet_step ((go_at_call 53; exact calm_of (hdg _)))))
            refine wpQuiet_nil ?_
            rintro _ ⟨⟨X, hX⟩, rfl⟩
            go_wp2
            refine bodyPost_ret (rnum_results _ _ _ _ _ rfl rfl rfl) rfl ?_
            exact ⟨by rw [HV.out, ← HC.out]; simp only [hjj]; simp [HT.out], bthen hB hX⟩
          · have HT := Lib.hid ht
            have hne : (Lib.itoa ((m : Int)) == cs) = false := beq_eq_false_iff_ne.2 ht
            clear ht
            refine wp_region_calm (by kernel_rfl) (by kernel_rfl) ?_
            repeat ((fail_if_success (with_reducible refine wpQuiet_nil ?_)); (first | go_big_quiet_skip | go_big_quiet_step ((go_at_call 53; exact calm_of (hdg _)))))
            refine wpQuiet_nil ?_
            rintro _ ⟨⟨X, hX⟩, rfl⟩
            go_wp2
            refine bodyPost_ret (rnum_results _ _ _ _ _ rfl rfl rfl) rfl ?_
            exact ⟨by rw [HV.out, ← HC.out]; simp only [hjj]; simp [HT.out], bthen hB hX⟩
        · have hI : (j : Int) < (l.length : Int) := by omega
          rcases h2 with h2 | ⟨h2, h3⟩ | ⟨h2, h3, h4⟩
          · have i2 : (b : Int) < 48 := by omega
            go_wp2
            have HV := Lib.hid (show T.rnum (l.drop k) = ((m : Int), l.drop j, decide (Lib.itoa ((m : Int)) = (l.drop k).take (j - k))) from HR.out)
            clear HR
            have hmid := bytes_mid l k j (by omega)
            obtain ⟨cs, hcs⟩ : ∃ cs, cs = (l.drop k).take (j - k) := ⟨_, rfl⟩
            rw [← hcs] at hmid
            have HC := Lib.hid hcs
            clear hcs
            have hs2 : (k : Int) ≤ (j : Int) := by omega
            have hjj : (l.length : Int) - ((l.drop j).length : Int) = (j : Int) := by rw [List.length_drop]; omega
            have hs3 : (j : Int) ≤ (l.length : Int) := by omega
            have hs4 : (0 : Int) ≤ (k : Int) := by omega
            have hdg := fun X : World => digits_c ((m : Int)) (by omega) (by omega) X
            by_cases ht : Lib.itoa ((m : Int)) = cs
            · have HT := Lib.hid ht
              rw [ht] at hdg
              clear ht
              refine wp_region_calm (by kernel_rfl) (by kernel_rfl) ?_
              repeat ((fail_if_success (with_reducible refine wpQuiet_nil ?_)); (first | go_big_quiet_skip | go_big_quiet_step ((go_at_call 53; exact calm_of (hdg _)))))
              refine wpQuiet_nil ?_
              rintro _ ⟨⟨X, hX⟩, rfl⟩
              go_wp2
              refine bodyPost_ret (rnum_results _ _ _ _ _ rfl rfl rfl) rfl ?_
              exact ⟨by rw [HV.out, ← HC.out]; simp only [hjj]; simp [HT.out], bthen hB hX⟩
            · have HT := Lib.hid ht
              have hne : (Lib.itoa ((m : Int)) == cs) = false := beq_eq_false_iff_ne.2 ht
              clear ht
              refine wp_region_calm (by kernel_rfl) (by kernel_rfl) ?_
              repeat ((fail_if_success (with_reducible refine wpQuiet_nil ?_)); (first | go_big_quiet_skip | go_big_quiet_step ((go_at_call 53; exact calm_of (hdg _)))))
              refine wpQuiet_nil ?_
              rintro _ ⟨⟨X, hX⟩, rfl⟩
              go_wp2
              refine bodyPost_ret (rnum_results _ _ _ _ _ rfl rfl rfl) rfl ?_
              exact ⟨by rw [HV.out, ← HC.out]; simp only [hjj]; simp [HT.out], bthen hB hX⟩
          · have i2 : (48 : Int) ≤ (b : Int) := by omega
            have i3 : (57 : Int) < (b : Int) := by omega
            go_wp2
            have HV := Lib.hid (show T.rnum (l.drop k) = ((m : Int), l.drop j, decide (Lib.itoa ((m : Int)) = (l.drop k).take (j - k))) from HR.out)
            clear HR
            have hmid := bytes_mid l k j (by omega)
            obtain ⟨cs, hcs⟩ : ∃ cs, cs = (l.drop k).take (j - k) := ⟨_, rfl⟩
            rw [← hcs] at hmid
            have HC := Lib.hid hcs
            clear hcs
            have hs2 : (k : Int) ≤ (j : Int) := by omega
            have hjj : (l.length : Int) - ((l.drop j).length : Int) = (j : Int) := by rw [List.length_drop]; omega
            have hs3 : (j : Int) ≤ (l.length : Int) := by omega
            have hs4 : (0 : Int) ≤ (k : Int) := by omega
            have hdg := fun X : World => digits_c ((m : Int)) (by omega) (by omega) X
            by_cases ht : Lib.itoa ((m : Int)) = cs
            · have HT := Lib.hid ht
              rw [ht] at hdg
              clear ht
              refine wp_region_calm (by kernel_rfl) (by kernel_rfl) ?_
              repeat ((fail_if_success (with_reducible refine wpQuiet_nil ?_)); (first | go_big_quiet_skip | go_big_quiet_step ((go_at_call 53; exact calm_of (hdg _)))))
              refine wpQuiet_nil ?_
              rintro _ ⟨⟨X, hX⟩, rfl⟩
              go_wp2
              refine bodyPost_ret (rnum_results _ _ _ _ _ rfl rfl rfl) rfl ?_
              exact ⟨by rw [HV.out, ← HC.out]; simp only [hjj]; simp [HT.out], bthen hB hX⟩
            · have HT := Lib.hid ht
              have hne : (Lib.itoa ((m : Int)) == cs) = false := beq_eq_false_iff_ne.2 ht
              clear ht
              refine wp_region_calm (by kernel_rfl) (by kernel_rfl) ?_
              repeat ((fail_if_success (with_reducible refine wpQuiet_nil ?_)); (first | go_big_quiet_skip | go_big_quiet_step ((go_at_call 53; exact calm_of (hdg _)))))
              refine wpQuiet_nil ?_
              rintro _ ⟨⟨X, hX⟩, rfl⟩
              go_wp2
              refine bodyPost_ret (rnum_results _ _ _ _ _ rfl rfl rfl) rfl ?_
              exact ⟨by rw [HV.out, ← HC.out]; simp only [hjj]; simp [HT.out], bthen hB hX⟩
          · have i2 : (48 : Int) ≤ (b : Int) := by omega
            have i3 : (b : Int) ≤ 57 := by omega
            have i4 : ((m : Int) < 10000000000000000) = False := eq_false (by omega)
            clear h2 h3 h4
            go_wp2
            have HV := Lib.hid (show T.rnum (l.drop k) = ((m : Int), l.drop j, decide (Lib.itoa ((m : Int)) = (l.drop k).take (j - k))) from HR.out)
            clear HR
            have hmid := bytes_mid l k j (by omega)
            obtain ⟨cs, hcs⟩ : ∃ cs, cs = (l.drop k).take (j - k) := ⟨_, rfl⟩
            rw [← hcs] at hmid
            have HC := Lib.hid hcs
            clear hcs
            have hs2 : (k : Int) ≤ (j : Int) := by omega
            have hjj : (l.length : Int) - ((l.drop j).length : Int) = (j : Int) := by rw [List.length_drop]; omega
            have hs3 : (j : Int) ≤ (l.length : Int) := by omega
            have hs4 : (0 : Int) ≤ (k : Int) := by omega
            have hdg := fun X : World => digits_c ((m : Int)) (by omega) (by omega) X
            by_cases ht : Lib.itoa ((m : Int)) = cs
            · have HT := Lib.hid ht
              rw [ht] at hdg
              clear ht
              refine wp_region_calm (by kernel_rfl) (by kernel_rfl) ?_
              repeat ((fail_if_success (with_reducible refine wpQuiet_nil ?_)); (first | go_big_quiet_skip | go_big_quiet_step ((go_at_call 53; exact calm_of (hdg _)))))
              refine wpQuiet_nil ?_
              rintro _ ⟨⟨X, hX⟩, rfl⟩
              go_wp2
              refine bodyPost_ret (rnum_results _ _ _ _ _ rfl rfl rfl) rfl ?_
              exact ⟨by rw [HV.out, ← HC.out]; simp only [hjj]; simp [HT.out], bthen hB hX⟩
            · have HT := Lib.hid ht
              have hne : (Lib.itoa ((m : Int)) == cs) = false := beq_eq_false_iff_ne.2 ht
              clear ht
              refine wp_region_calm (by kernel_rfl) (by kernel_rfl) ?_
              repeat ((fail_if_success (with_reducible refine wpQuiet_nil ?_)); (first | go_big_quiet_skip | go_big_quiet_step ((go_at_call 53; exact calm_of (hdg _)))))
              refine wpQuiet_nil ?_
              rintro _ ⟨⟨X, hX⟩, rfl⟩
              go_wp2
              refine bodyPost_ret (rnum_results _ _ _ _ _ rfl rfl rfl) rfl ?_
              exact ⟨by rw [HV.out, ← HC.out]; simp only [hjj]; simp [HT.out], bthen hB hX⟩
      · obtain ⟨b, hb8, hbb, hb1⟩ : ∃ b : Nat, b < 256 ∧ ((ByteArray.mk l.toArray)[j]'(by simpa [ByteArray.size] using h1)).toNat = b ∧ b = l[j].toNat := ⟨l[j].toNat, UInt8.toNat_lt _, rfl, rfl⟩
        rw [← hb1] at h2 he
        have HN := Lib.hid (hd.out.trans he)
        clear hb1 hd he
        have hI : (j : Int) < (l.length : Int) := by omega
        have i2 : (48 : Int) ≤ (b : Int) := by omega
        have i3 : (b : Int) ≤ 57 := by omega
        have i4 : (m : Int) < 10000000000000000 := by omega
        have w1 : IntKind.i64.wrap (10 * (m : Int)) = 10 * (m : Int) := IntWalk.i64_in _ (by omega)
        have w0 : IntKind.i64.wrap (b : Int) = (b : Int) := IntWalk.i64_in _ (by omega)
        have w2 : IntKind.i64.wrap (10 * (m : Int) + (b : Int)) = 10 * (m : Int) + (b : Int) := IntWalk.i64_in _ (by omega)
        have w3 : IntKind.i64.wrap (10 * (m : Int) + (b : Int) - 48) = 10 * (m : Int) + (b : Int) - 48 := IntWalk.i64_in _ (by omega)
        have w4 : IntKind.i64.wrap ((j : Int) + 1) = (j : Int) + 1 := IntWalk.i64_in _ (by omega)
        go_wp2
        go_roundw
        case rel => exact ⟨j + 1, 10 * m + (b - 48), by omega, by omega, by go_num, by go_num, HN, by omega, hB⟩
        case measure => simp [intOf] <;> omega
  · have hlt : (k : Int) < (l.length : Int) := by omega
    have hbb0 : ((((ByteArray.mk l.toArray)[k]'(by simpa [ByteArray.size] using hkl)).toNat : Int) == 45) = true := by
      rw [beq_iff_eq]
      exact_mod_cast hb
    subst hn
    have hj' := hj.symm
    subst hj'
    clear hj hb
    go_enter Tryd.func45, Tryd.ntmps45
    go_wp2
    go_loopw [1, 8] (fun a n wr => ∃ j m : Nat, k + 1 ≤ j ∧ j ≤ l.length ∧ a = .int .i64 (j : Int) ∧ n = .int .i64 (m : Int) ∧ Hid (T.digs (l.drop (k + 1)) 0 = T.digs (l.drop j) m) ∧ m ≤ 100000000000000000 ∧ Below w.heap.size w wr) (fun a _ _ => l.length - (intOf a).toNat)
    case atStart => exact ⟨k + 1, 0, Nat.le_refl _, by omega, by go_num, by go_num, Lib.hid rfl, by omega, Below.refl _ _⟩
    case round =>
      obtain ⟨j, m, hj0, hjl, rfl, rfl, hd, hm, hB⟩ := hrel
      rcases T.digs_cases l j m hjl with ⟨h1, he⟩ | ⟨h1, h2, he⟩
      · have hres := HE.out j m (hd.out.trans he) (by omega) hjl
        have HR := Lib.hid hres
        clear hd he HE hres
        have hwm : IntKind.i64.wrap (0 - (m : Int)) = -(m : Int) := by rw [IntWalk.i64_in _ (by omega)]; omega
        have hwm' : IntKind.i64.wrap (-(m : Int)) = -(m : Int) := IntWalk.i64_in _ (by omega)
        have hx : (j = l.length) ∨ (∃ b : Nat, ∃ h : j < l.length, b < 256 ∧ ((ByteArray.mk l.toArray)[j]'(by simpa [ByteArray.size] using h)).toNat = b ∧ (b < 48 ∨ (48 ≤ b ∧ 57 < b) ∨ (48 ≤ b ∧ b ≤ 57 ∧ 10000000000000000 ≤ m))) := by
          rcases h1 with h1 | ⟨h1, h2⟩
          · exact .inl h1
          · exact .inr ⟨l[j].toNat, h1, UInt8.toNat_lt _, rfl, h2⟩
        clear h1
        rcases hx with h1 | ⟨b, h1, hb8, hbb, h2⟩
        · have hI : ¬ (j : Int) < (l.length : Int) := by omega
          clear h1
          go_wp2
          have HV := Lib.hid (show T.rnum (l.drop k) = (-(m : Int), l.drop j, decide (Lib.itoa (-(m : Int)) = (l.drop k).take (j - k))) from HR.out)
          clear HR
          have hmid := bytes_mid l k j (by omega)
          obtain ⟨cs, hcs⟩ : ∃ cs, cs = (l.drop k).take (j - k) := ⟨_, rfl⟩
          rw [← hcs] at hmid
          have HC := Lib.hid hcs
          clear hcs
          have hs2 : (k : Int) ≤ (j : Int) := by omega
          have hjj : (l.length : Int) - ((l.drop j).length : Int) = (j : Int) := by rw [List.length_drop]; omega
          have hs3 : (j : Int) ≤ (l.length : Int) := by omega
          have hs4 : (0 : Int) ≤ (k : Int) := by omega
          have hdg := fun X : World => digits_c (-(m : Int)) (by omega) (by omega) X
          by_cases ht : Lib.itoa (-(m : Int)) = cs
          · have HT := Lib.hid ht
            rw [ht] at hdg
            clear ht
            refine wp_region_calm (by kernel_rfl) (by kernel_rfl) ?_
            repeat ((fail_if_success (with_reducible refine wpQuiet_nil ?_)); (first | go_big_quiet_skip | go_big_quiet_step ((go_at_call 53; exact calm_of (hdg _)))))
            refine wpQuiet_nil ?_
            rintro _ ⟨⟨X, hX⟩, rfl⟩
            go_wp2
            refine bodyPost_ret (rnum_results _ _ _ _ _ rfl rfl rfl) rfl ?_
            exact ⟨by rw [HV.out, ← HC.out]; simp only [hjj]; simp [HT.out], bthen hB hX⟩
          · have HT := Lib.hid ht
            have hne : (Lib.itoa (-(m : Int)) == cs) = false := beq_eq_false_iff_ne.2 ht
            clear ht
            refine wp_region_calm (by kernel_rfl) (by kernel_rfl) ?_
            repeat ((fail_if_success (with_reducible refine wpQuiet_nil ?_)); (first | go_big_quiet_skip | go_big_quiet_step ((go_at_call 53; exact calm_of (hdg _)))))
            refine wpQuiet_nil ?_
            rintro _ ⟨⟨X, hX⟩, rfl⟩
            go_wp2
            refine bodyPost_ret (rnum_results _ _ _ _ _ rfl rfl rfl) rfl ?_
            exact ⟨by rw [HV.out, ← HC.out]; simp only [hjj]; simp [HT.out], bthen hB hX⟩
        · have hI : (j : Int) < (l.length : Int) := by omega
          rcases h2 with h2 | ⟨h2, h3⟩ | ⟨h2, h3, h4⟩
          · have i2 : (b : Int) < 48 := by omega
            go_wp2
            have HV := Lib.hid (show T.rnum (l.drop k) = (-(m : Int), l.drop j, decide (Lib.itoa (-(m : Int)) = (l.drop k).take (j - k))) from HR.out)
            clear HR
            have hmid := bytes_mid l k j (by omega)
            obtain ⟨cs, hcs⟩ : ∃ cs, cs = (l.drop k).take (j - k) := ⟨_, rfl⟩
            rw [← hcs] at hmid
            have HC := Lib.hid hcs
            clear hcs
            have hs2 : (k : Int) ≤ (j : Int) := by omega
            have hjj : (l.length : Int) - ((l.drop j).length : Int) = (j : Int) := by rw [List.length_drop]; omega
            have hs3 : (j : Int) ≤ (l.length : Int) := by omega
            have hs4 : (0 : Int) ≤ (k : Int) := by omega
            have hdg := fun X : World => digits_c (-(m : Int)) (by omega) (by omega) X
            by_cases ht : Lib.itoa (-(m : Int)) = cs
            · have HT := Lib.hid ht
              rw [ht] at hdg
              clear ht
              refine wp_region_calm (by kernel_rfl) (by kernel_rfl) ?_
              repeat ((fail_if_success (with_reducible refine wpQuiet_nil ?_)); (first | go_big_quiet_skip | go_big_quiet_step ((go_at_call 53; exact calm_of (hdg _)))))
              refine wpQuiet_nil ?_
              rintro _ ⟨⟨X, hX⟩, rfl⟩
              go_wp2
              refine bodyPost_ret (rnum_results _ _ _ _ _ rfl rfl rfl) rfl ?_
              exact ⟨by rw [HV.out, ← HC.out]; simp only [hjj]; simp [HT.out], bthen hB hX⟩
            · have HT := Lib.hid ht
              have hne : (Lib.itoa (-(m : Int)) == cs) = false := beq_eq_false_iff_ne.2 ht
              clear ht
              refine wp_region_calm (by kernel_rfl) (by kernel_rfl) ?_
              repeat ((fail_if_success (with_reducible refine wpQuiet_nil ?_)); (first | go_big_quiet_skip | go_big_quiet_step ((go_at_call 53; exact calm_of (hdg _)))))
              refine wpQuiet_nil ?_
              rintro _ ⟨⟨X, hX⟩, rfl⟩
              go_wp2
              refine bodyPost_ret (rnum_results _ _ _ _ _ rfl rfl rfl) rfl ?_
              exact ⟨by rw [HV.out, ← HC.out]; simp only [hjj]; simp [HT.out], bthen hB hX⟩
          · have i2 : (48 : Int) ≤ (b : Int) := by omega
            have i3 : (57 : Int) < (b : Int) := by omega
            go_wp2
            have HV := Lib.hid (show T.rnum (l.drop k) = (-(m : Int), l.drop j, decide (Lib.itoa (-(m : Int)) = (l.drop k).take (j - k))) from HR.out)
            clear HR
            have hmid := bytes_mid l k j (by omega)
            obtain ⟨cs, hcs⟩ : ∃ cs, cs = (l.drop k).take (j - k) := ⟨_, rfl⟩
            rw [← hcs] at hmid
            have HC := Lib.hid hcs
            clear hcs
            have hs2 : (k : Int) ≤ (j : Int) := by omega
            have hjj : (l.length : Int) - ((l.drop j).length : Int) = (j : Int) := by rw [List.length_drop]; omega
            have hs3 : (j : Int) ≤ (l.length : Int) := by omega
            have hs4 : (0 : Int) ≤ (k : Int) := by omega
            have hdg := fun X : World => digits_c (-(m : Int)) (by omega) (by omega) X
            by_cases ht : Lib.itoa (-(m : Int)) = cs
            · have HT := Lib.hid ht
              rw [ht] at hdg
              clear ht
              refine wp_region_calm (by kernel_rfl) (by kernel_rfl) ?_
              repeat ((fail_if_success (with_reducible refine wpQuiet_nil ?_)); (first | go_big_quiet_skip | go_big_quiet_step ((go_at_call 53; exact calm_of (hdg _)))))
              refine wpQuiet_nil ?_
              rintro _ ⟨⟨X, hX⟩, rfl⟩
              go_wp2
              refine bodyPost_ret (rnum_results _ _ _ _ _ rfl rfl rfl) rfl ?_
              exact ⟨by rw [HV.out, ← HC.out]; simp only [hjj]; simp [HT.out], bthen hB hX⟩
            · have HT := Lib.hid ht
              have hne : (Lib.itoa (-(m : Int)) == cs) = false := beq_eq_false_iff_ne.2 ht
              clear ht
              refine wp_region_calm (by kernel_rfl) (by kernel_rfl) ?_
              repeat ((fail_if_success (with_reducible refine wpQuiet_nil ?_)); (first | go_big_quiet_skip | go_big_quiet_step ((go_at_call 53; exact calm_of (hdg _)))))
              refine wpQuiet_nil ?_
              rintro _ ⟨⟨X, hX⟩, rfl⟩
              go_wp2
              refine bodyPost_ret (rnum_results _ _ _ _ _ rfl rfl rfl) rfl ?_
              exact ⟨by rw [HV.out, ← HC.out]; simp only [hjj]; simp [HT.out], bthen hB hX⟩
          · have i2 : (48 : Int) ≤ (b : Int) := by omega
            have i3 : (b : Int) ≤ 57 := by omega
            have i4 : ((m : Int) < 10000000000000000) = False := eq_false (by omega)
            clear h2 h3 h4
            go_wp2
            have HV := Lib.hid (show T.rnum (l.drop k) = (-(m : Int), l.drop j, decide (Lib.itoa (-(m : Int)) = (l.drop k).take (j - k))) from HR.out)
            clear HR
            have hmid := bytes_mid l k j (by omega)
            obtain ⟨cs, hcs⟩ : ∃ cs, cs = (l.drop k).take (j - k) := ⟨_, rfl⟩
            rw [← hcs] at hmid
            have HC := Lib.hid hcs
            clear hcs
            have hs2 : (k : Int) ≤ (j : Int) := by omega
            have hjj : (l.length : Int) - ((l.drop j).length : Int) = (j : Int) := by rw [List.length_drop]; omega
            have hs3 : (j : Int) ≤ (l.length : Int) := by omega
            have hs4 : (0 : Int) ≤ (k : Int) := by omega
            have hdg := fun X : World => digits_c (-(m : Int)) (by omega) (by omega) X
            by_cases ht : Lib.itoa (-(m : Int)) = cs
            · have HT := Lib.hid ht
              rw [ht] at hdg
              clear ht
              refine wp_region_calm (by kernel_rfl) (by kernel_rfl) ?_
              repeat ((fail_if_success (with_reducible refine wpQuiet_nil ?_)); (first | go_big_quiet_skip | go_big_quiet_step ((go_at_call 53; exact calm_of (hdg _)))))
              refine wpQuiet_nil ?_
              rintro _ ⟨⟨X, hX⟩, rfl⟩
              go_wp2
              refine bodyPost_ret (rnum_results _ _ _ _ _ rfl rfl rfl) rfl ?_
              exact ⟨by rw [HV.out, ← HC.out]; simp only [hjj]; simp [HT.out], bthen hB hX⟩
            · have HT := Lib.hid ht
              have hne : (Lib.itoa (-(m : Int)) == cs) = false := beq_eq_false_iff_ne.2 ht
              clear ht
              refine wp_region_calm (by kernel_rfl) (by kernel_rfl) ?_
              repeat ((fail_if_success (with_reducible refine wpQuiet_nil ?_)); (first | go_big_quiet_skip | go_big_quiet_step ((go_at_call 53; exact calm_of (hdg _)))))
              refine wpQuiet_nil ?_
              rintro _ ⟨⟨X, hX⟩, rfl⟩
              go_wp2
              refine bodyPost_ret (rnum_results _ _ _ _ _ rfl rfl rfl) rfl ?_
              exact ⟨by rw [HV.out, ← HC.out]; simp only [hjj]; simp [HT.out], bthen hB hX⟩
      · obtain ⟨b, hb8, hbb, hb1⟩ : ∃ b : Nat, b < 256 ∧ ((ByteArray.mk l.toArray)[j]'(by simpa [ByteArray.size] using h1)).toNat = b ∧ b = l[j].toNat := ⟨l[j].toNat, UInt8.toNat_lt _, rfl, rfl⟩
        rw [← hb1] at h2 he
        have HN := Lib.hid (hd.out.trans he)
        clear hb1 hd he
        have hI : (j : Int) < (l.length : Int) := by omega
        have i2 : (48 : Int) ≤ (b : Int) := by omega
        have i3 : (b : Int) ≤ 57 := by omega
        have i4 : (m : Int) < 10000000000000000 := by omega
        have w1 : IntKind.i64.wrap (10 * (m : Int)) = 10 * (m : Int) := IntWalk.i64_in _ (by omega)
        have w0 : IntKind.i64.wrap (b : Int) = (b : Int) := IntWalk.i64_in _ (by omega)
        have w2 : IntKind.i64.wrap (10 * (m : Int) + (b : Int)) = 10 * (m : Int) + (b : Int) := IntWalk.i64_in _ (by omega)
        have w3 : IntKind.i64.wrap (10 * (m : Int) + (b : Int) - 48) = 10 * (m : Int) + (b : Int) - 48 := IntWalk.i64_in _ (by omega)
        have w4 : IntKind.i64.wrap ((j : Int) + 1) = (j : Int) + 1 := IntWalk.i64_in _ (by omega)
        go_wp2
        go_roundw
        case rel => exact ⟨j + 1, 10 * m + (b - 48), by omega, by omega, by go_num, by go_num, HN, by omega, hB⟩
        case measure => simp [intOf] <;> omega
end Go.Proofs.YtpgdgboobnmjiaaDoor
