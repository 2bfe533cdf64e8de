/- Reading a script as the document does: its walk. -/
import Derived.Test.YtpgdgboobnmjiaaDoorRLines
import Derived.Test.YtpgdgboobnmjiaaDoorRSParse
import Derived.Test.YtpgdgboobnmjiaaDoorReadW
import Derived.Test.YtpgdgboobnmjiaaDoorMany
namespace Go.Proofs.YtpgdgboobnmjiaaDoor
open Go.RowKit Go.Shelf
set_option linter.unusedVariables false
set_option linter.unusedSimpArgs false
theorem T.lines_len (l : List UInt8) : (T.lines l).length ≤ l.length := by
  unfold T.lines; rw [List.length_map]; exact T.linesK_len l
theorem T.lines_le (l x : List UInt8) (h : x ∈ T.lines l) : x.length ≤ l.length := by
  unfold T.lines at h
  obtain ⟨y, hy, rfl⟩ := List.mem_map.1 h
  exact Nat.le_trans (T.trimNL_le y) (T.linesK_le l y hy)
/-- An element of a list of texts, as it lies. -/
theorem Sl.strAt {B : Nat} {w : World} {A : Option Addr} {n cap : Nat} {xs : List (List UInt8)} (h : Sl strL 1 B w (.slice A n cap) xs) {k : Nat} (hk : k < xs.length) :
    ∃ b off, A = some ⟨b, off, none⟩ ∧ b < B ∧ w.cell? ⟨b, off + k, none⟩ = some (strV (xs[k]'hk)) := by
  obtain ⟨b, off, hA, hb, hr, _⟩ := h.at hk
  refine ⟨b, off, hA, hb, ?_⟩
  have := rowAt_cell hr 0 (by omega)
  simpa [strL] using this
def RReadPost (s : List UInt8) (w : World) (r : Ending) (w' : World) : Prop :=
  ∃ v, r = .returned (.tuple #[v, .int .i64 (T.read s).2.1, .int .i64 (T.read s).2.2]) ∧ Own Step.arr 5 w.heap.size 28 w' v (T.read s).1 ∧ Below w.heap.size w w'
theorem byte_at0 (c : UInt8) (l : List UInt8) (h : 0 < (ByteArray.mk (c :: l).toArray).size) : (ByteArray.mk (c :: l).toArray)[0] = c := rfl
attribute [local go_sem] Step.sz
set_option maxRecDepth 100000 in
set_option maxHeartbeats 8000000 in
theorem rread_c (s : List UInt8) (hs : s.length ≤ 1000000) (w : World) : Calls Tryd.prog 19 #[strV s] w (RReadPost s w) := by
  obtain ⟨ls, hls⟩ : ∃ ls, ls = T.lines s := ⟨_, rfl⟩
  have hlen : ls.length ≤ 1000000 := by have := T.lines_len s; rw [hls]; omega
  have hle : ∀ x ∈ ls, x.length ≤ 1000000 := fun x hx => by have := T.lines_le s x (by rw [← hls]; exact hx); omega
  have HR := Lib.hid (show T.read s = T.readGo ls [] 0 by rw [T.read, hls])
  have HLE := Lib.hid hle
  have hlc := rlines_c s hs w
  unfold RLinesPost at hlc
  rw [← hls] at hlc
  clear hls hle
  go_enter Tryd.func19, Tryd.ntmps19
  go_wp2_with (go_at_call 23; (with_reducible refine hlc.mono ?_); rintro r w1 ⟨v1, rfl, hown1, hb1⟩)
  have hS1 := hown1.sl strL_sz
  obtain ⟨A, cap, rfl, hcap, hl1, hl2⟩ := hS1.view
  obtain ⟨B, hBdef⟩ : ∃ B, B = w1.heap.size := ⟨_, rfl⟩
  rw [← hBdef] at hS1
  have HB := Lib.hid hBdef
  have hwB : w.heap.size ≤ B := by rw [hBdef]; exact hb1.size
  have hb11 : Below B w1 w1 := Below.refl _ _
  have hB1 : B ≤ w1.heap.size := by rw [hBdef]; exact Nat.le_refl _
  clear hown1 hlc hBdef
  go_loopw [5, 7, 8] (fun v i x wr => ∃ (k : Nat) (out : List Step), i = .int .i64 (k : Int) ∧ k ≤ ls.length ∧ out.length ≤ k ∧ Hid (T.read s = T.readGo (ls.drop k) out k) ∧ out.length ≤ 400 ∧ Own Step.arr 5 B 28 wr v out ∧ Below B w1 wr) (fun _ i _ _ => ls.length - (intOf i).toNat)
  case atStart => exact ⟨0, [], rfl, Nat.zero_le _, Nat.le_refl _, Lib.hid HR.out, Nat.zero_le _, Own.nil, hb11⟩
  case round =>
    obtain ⟨k, out, rfl, hk, hok, hrd, ho4, hown, hB⟩ := hrel
    have hBr : B ≤ wr.heap.size := Nat.le_trans hB1 hB.size
    have hBW := hb1.trans (hB.mono hwB)
    have hwk : IntKind.i64.wrap ((k : Int) + 1) = (k : Int) + 1 := IntWalk.i64_in _ (by omega)
    by_cases hkl : k < ls.length
    · have hkI : (k : Int) < (ls.length : Int) := by omega
      have hSr := hS1.below hB
      obtain ⟨b, off, hA, hbB, hcell⟩ := hSr.strAt hkl
      subst hA
      obtain ⟨l, hl⟩ : ∃ l, l = ls[k] := ⟨_, rfl⟩
      rw [← hl] at hcell
      have hll : l.length ≤ 1000000 := by rw [hl]; exact HLE.out _ (List.getElem_mem _)
      have hnext := Lib.hid (show T.read s = T.readGo (l :: ls.drop (k + 1)) out k by rw [hrd.out, List.drop_eq_getElem_cons hkl, ← hl])
      clear hl hrd hS1 HLE HR
      by_cases hb : l = [] ∨ l.head? = some 35
      · have HX := Lib.hid (hnext.out.trans (T.readGo_skip l (ls.drop (k + 1)) out k hb))
        clear hnext
        rcases hb with rfl | hb
        · go_wp2
          go_roundw
          case rel => exact ⟨k + 1, out, by go_num, by omega, by omega, HX, ho4, hown, hB⟩
          case measure => simp [intOf] <;> omega
        · obtain ⟨ts, rfl⟩ : ∃ ts, l = 35 :: ts := by
            cases l with
            | nil => simp at hb
            | cons b ts => simp at hb; exact ⟨ts, by rw [hb]⟩
          clear hb
          go_wp2
          go_roundw
          case rel => exact ⟨k + 1, out, by go_num, by omega, by omega, HX, ho4, hown, hB⟩
          case measure => simp [intOf] <;> omega
      · obtain ⟨c, ts, rfl, hb35⟩ : ∃ b ts, l = b :: ts ∧ b ≠ 35 := by
          cases l with
          | nil => simp at hb
          | cons b ts => simp at hb; exact ⟨b, ts, rfl, hb⟩
        obtain ⟨A2, m, cap2, rfl⟩ := hown.shape
        obtain rfl : m = out.length := hown.cnt
        have h0 : (((ByteArray.mk (c :: ts).toArray)[0]'(by simp [ByteArray.size])).toNat : Int) ≠ 35 := by
          intro e
          have h35 : c.toNat = 35 := by exact_mod_cast e
          exact hb35 (UInt8.toNat_inj.1 h35)
        have h0' : ((((ByteArray.mk (c :: ts).toArray)[0]'(by simp [ByteArray.size])).toNat : Int) == 35) = false := by simpa using h0
        clear h0 hb35
        by_cases hf : 400 ≤ out.length
        · have HX := Lib.hid (hnext.out.trans (T.readGo_full _ (ls.drop (k + 1)) out k hb hf))
          have hfe : ((out.length : Int) == 400) = true := by rw [beq_iff_eq]; omega
          clear hnext hb
          go_wp2
          go_ret3
          exact ⟨.slice none 0 0, by (rw [HX.out]) <;> rfl, by rw [HX.out]; exact Own.nil, hBW⟩
        · have hfe : ((out.length : Int) == 400) = false := by rw [beq_eq_false_iff_ne]; omega
          have hpr := fun X : World => rsparse_c (c :: ts) hll X
          obtain ⟨d, ok, hsp2⟩ : ∃ d ok, T.sparse (c :: ts) = (d, ok) := ⟨_, _, rfl⟩
          rw [hsp2] at hpr
          cases ok with
          | false =>
            have HX := Lib.hid (hnext.out.trans (T.readGo_bad _ (ls.drop (k + 1)) out k hb hf (by rw [hsp2])))
            clear hsp2 hb hnext hf
            go_wp2_with (first | (go_at_call 14; (with_reducible refine (hpr _).mono ?_); rintro r w3 ⟨rfl, hb3⟩) | (refine wpList_store_new rfl _ _ _ rfl _ (Step.arr d) _ _ rfl rfl rfl rfl rfl (Step.one _) ?_))
            go_ret3
            exact ⟨.slice none 0 0, by (rw [HX.out]) <;> rfl, by rw [HX.out]; exact Own.nil, (hBW.trans (hb3.mono (Nat.le_trans hwB hBr))).alloc (by have := hb3.size; omega) _⟩
          | true =>
            have HX := Lib.hid (hnext.out.trans (T.readGo_one _ (ls.drop (k + 1)) out k hb hf (by rw [hsp2])))
            have HD := Lib.hid (show (T.sparse (c :: ts)).1 = d by rw [hsp2])
            clear hsp2 hb hnext
            go_upto_region 10 with (first | (go_at_call 14; (with_reducible refine (hpr _).mono ?_); rintro r w3 ⟨rfl, hb3⟩) | (refine wpList_store_new rfl _ _ _ rfl _ (Step.arr d) _ _ rfl rfl rfl rfl rfl (Step.one _) ?_))
            obtain ⟨W5, hW5⟩ : ∃ W5, W5 = w3.alloc (.cells (Step.arr d) 28) := ⟨_, rfl⟩
            have hb5 : Below wr.heap.size wr W5 := by rw [hW5]; exact hb3.alloc hb3.size _
            have hx5 : rowAt W5 w3.heap.size 0 5 = some (Step.arr d) := by rw [hW5]; exact rowAt_new _ _ _ _ _ rfl
            have ho5 := hown.below hb5
            have hz5 : B ≤ W5.heap.size := by have := hb5.size; omega
            have hB5 := hB.trans (hb5.mono hBr)
            rw [← hW5]
            clear hW5 hb3 hpr hb5 hcell
            have p5 : rowAt (W5.alloc (.cells (Step.arr d) 28)) W5.heap.size 0 5 = some (Step.arr d) := rowAt_new _ _ _ _ _ rfl
            go_wp2_with (first | (refine wpList_load_at_v 28 _ rfl rfl _ (0) 5 rfl _ _ hx5 rfl rfl rfl ?_) | (refine wpList_slice1 rfl _ 28 _ rfl (Step.arr d) 5 40 Tryd.underlying38 (by kernel_rfl) (by decide) rfl rfl (W5.heap.size) (by simp) ?_) | (at_builtin; refine wpList_append1 Step.arr 5 rfl _ _ _ rfl B 28 40 Tryd.underlying38 (by kernel_rfl) (by decide) _ out d rfl (ho5.alloc _) (W5.heap.size) rfl p5 (Step.one d) (by omega) (by omega) (by simp <;> omega) ?_; intro v' w' hown' hgr' hbel'))
            go_roundw
            case rel => exact ⟨k + 1, out ++ [d], by go_num, by omega, by simp; omega, Lib.hid (by rw [HX.out, HD.out]), by simp; omega, hown', (hB5.alloc hz5 _).trans hbel'⟩
            case measure => simp [intOf] <;> omega
    · have hkI : ¬ (k : Int) < (ls.length : Int) := by omega
      have HX := Lib.hid (show T.read s = (out, 0, 0) by rw [hrd.out, List.drop_eq_nil_of_le (by omega)]; rfl)
      obtain ⟨A2, m, cap2, rfl⟩ := hown.shape
      go_wp2
      go_ret3
      exact ⟨_, by (rw [HX.out]) <;> rfl, by rw [HX.out]; exact hown.lower hwB, hBW⟩
end Go.Proofs.YtpgdgboobnmjiaaDoor
