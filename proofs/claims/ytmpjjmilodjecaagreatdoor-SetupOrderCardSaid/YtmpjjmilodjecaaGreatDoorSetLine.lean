/- A line of settings: the program's walk. -/
import Derived.Test.YtmpjjmilodjecaaGreatDoorSetPs
import Derived.Test.YtmpjjmilodjecaaGreatDoorPParseW
import Derived.Test.YtmpjjmilodjecaaGreatDoorHeadR
namespace Go.Proofs.YtmpjjmilodjecaaGreatDoor
open Go.RowKit Go.Shelf
set_option linter.unusedVariables false
set_option linter.unusedSimpArgs false
attribute [local go_sem] Config.sz bw_cell
theorem line_mute (s : List UInt8) (h : s = [] ∨ s.head? = some 35) (R : Nat) (W : World) :
    Calls Tryz.prog 71 #[.pointer (some ⟨R, 0, none⟩), strV s] W fun r w' => r = .returned (.int .i64 0) ∧ w' = W := by
  rcases h with rfl | h
  · go_enter Tryz.func71, Tryz.ntmps71
    go_wp2
    go_ret
    exact ⟨rfl, rfl⟩
  · obtain ⟨ts, rfl⟩ : ∃ ts, s = 35 :: ts := by
      cases s with
      | nil => simp at h
      | cons b ts => simp at h; exact ⟨ts, by rw [h]⟩
    go_enter Tryz.func71, Tryz.ntmps71
    go_wp2
    go_ret
    exact ⟨rfl, rfl⟩
/-- Cut at the blank. -/
theorem cut_c (s a r : List UInt8) (more : Bool) (hc : Lib.cut s [32] = (a, r, more)) (hs : s.length ≤ 1000000) (W : World) (he : Env W) :
    Calls Tryz.prog 134 #[strV s, strV [32]] W fun e w' => e = .returned (.tuple #[strV a, strV r, .bool more]) ∧ Below W.heap.size W w' := by
  obtain ⟨m, hm⟩ := he.max
  have hh := Tryz.strings_Cut ⟨s.toArray⟩ ⟨#[32]⟩ m W (by show s.length < _; omega) hm
  refine hh.mono ?_
  rintro e w' ⟨rfl, n, rfl⟩
  have hc' : Lib.cut (ByteArray.mk s.toArray).data.toList (ByteArray.mk #[32]).data.toList = (a, r, more) := hc
  refine ⟨by rw [hc'], ⟨rfl, rfl, rfl, Nat.le_refl _, fun _ _ => rfl⟩⟩
theorem grown_setAny (w : World) (b o : Nat) (v : Value) : w.grownBy (w.setCell ⟨b, o, none⟩ v) (some b) :=
  ⟨rfl, rfl, rfl, by simp, fun k hk hne => Below.heap_setCell w ⟨b, o, none⟩ v k (by intro e; exact hne (by rw [e]))⟩
theorem own_setR {α : Type} {arr : α → Array Value} {sz B R : Nat} {e : TypeId} {w : World} {v : Value} {xs : List α} (h : Own arr sz B e w v xs) (hRB : R < B) (o : Nat) (u : Value) : Own arr sz B e (w.setCell ⟨R, o, none⟩ u) v xs := by
  have g := grown_setAny w R o u
  refine h.kept g (.inr fun q => ?_)
  have := (h.lt _ q).1
  omega
theorem RS.addProg {R B : Nat} {c : Config} {sv : Value} {ps : List PV} {st : List Int} {w3 w' : World} (h : RS R B c sv ps st w3) (hBz : B ≤ w3.heap.size) {Ag : Option Addr} {capg : Nat} (hpg : c.progs = .slice Ag ps.length capg) (p : PV) (hp : Own GoOp.arr 3 B 110 w3 p.v p.xs) (hok : ∀ o ∈ p.xs, GoOp.ok o)
    {v' : Value} (hown' : Own PV.arr 1 B 23 w' v' (ps ++ [p])) (hgr' : (w3.alloc (.cells (PV.arr p) 23)).grownBy w' (Value.slice Ag ps.length capg).ownBlock) (hbel' : Below B (w3.alloc (.cells (PV.arr p) 23)) w') :
    RKept R B w3 (w'.setCell ⟨R, 13, none⟩ v') ∧ RS R B { c with progs := v' } sv (ps ++ [p]) st (w'.setCell ⟨R, 13, none⟩ v') := by
  have hpr := h.progs
  rw [hpg] at hpr
  have hRB := h.lt
  have hRW : R < w3.heap.size := by omega
  have hbx : w'.heap[R]? = some (.cells (rdrArr c sv) 133 (0, 0)) := (hbel'.block R hRB).trans ((Below.heap_alloc _ _ _ hRW).trans h.box)
  have keep {α : Type} {arr : α → Array Value} {sz : Nat} {e : TypeId} {v : Value} {xs : List α} (ho : Own arr sz B e w3 v xs) (hne : e ≠ 23) : Own arr sz B e (w'.setCell ⟨R, 13, none⟩ v') v xs :=
    own_setR ((ho.alloc _).kept hgr' (own_apart ho hpr hne)) hRB 13 v'
  refine ⟨(RKept.append hRB hBz hpr hgr' hbel').trans (RKept.setCell w' 13 v'), ?_, own_setR hown' hRB 13 v', fun q hq => ?_, keep h.set (by decide), hRB⟩
  · have := heap_setCell_same w' R 13 _ _ v' hbx
    rw [rdr_set13] at this
    exact this
  · rcases List.mem_append.1 hq with hq | hq
    · exact ⟨keep (h.elem q hq).1 (by decide), (h.elem q hq).2⟩
    · rw [List.mem_singleton] at hq
      subst hq
      exact ⟨keep hp (by decide), hok⟩
set_option maxRecDepth 100000 in
set_option maxHeartbeats 8000000 in
theorem line_prog (xs : List GoOp) (hok : ∀ o ∈ xs, GoOp.ok o) (hr : T.pright xs 64 16 = true) (R B : Nat) (c : Config) (sv : Value) (ps : List PV) (st : List Int) (W : World) (h : RS R B c sv ps st W) (hB : B ≤ W.heap.size) (hps : ps.length ≤ 1000) (he : Env W) :
    Calls Tryz.prog 71 #[.pointer (some ⟨R, 0, none⟩), strV (T.progLine xs)] W fun r w' => r = .returned (.int .i64 0) ∧ RKept R B W w' ∧ ∃ v pv, RS R B { c with progs := v } sv (ps ++ [⟨pv, xs⟩]) st w' := by
  obtain ⟨h16, hkn, hall⟩ := T.pright_known xs 64 16 hr
  have hgood := T.pgood_text xs hok 64 16 hr
  have hout := T.pout_text xs hok 64 16 hr
  have htl := T.progText_len xs hok
  have hRW : R < W.heap.size := (Array.getElem?_eq_some_iff.1 h.box).1
  obtain ⟨more, hcut, hmr⟩ : ∃ more : Bool, Lib.cut (T.progLine xs) [32] = ([112, 114, 111, 103, 114, 97, 109], T.progText xs, more) ∧ (more = true → T.progText xs ≠ []) := by
    unfold T.progLine
    by_cases e : T.progText xs = []
    · rw [if_pos e, T.cut_free _ (by decide), e]
      exact ⟨false, rfl, by simp⟩
    · rw [if_neg e]
      exact ⟨true, T.cut_at [112, 114, 111, 103, 114, 97, 109] _ (by decide), fun _ => e⟩
  have hll := T.progLine_len xs hok
  have hct := cut_c (T.progLine xs) _ _ _ hcut (by omega) W he
  have hpp := fun (X : World) (hX : Below W.heap.size W X) => pparse_c (T.progText xs) (by omega) 64 16 X (he.below hX)
  unfold PParsePost at hpp
  rw [hgood, hout, if_pos rfl, show T.perr true = 0 from rfl] at hpp
  obtain ⟨ts, hts⟩ : ∃ ts, T.progLine xs = 112 :: ts := by
    unfold T.progLine
    split
    · exact ⟨_, rfl⟩
    · exact ⟨_, rfl⟩
  rw [hts] at hct ⊢
  obtain ⟨tx, htx⟩ : ∃ tx, tx = T.progText xs := ⟨_, rfl⟩
  rw [← htx] at hct hpp hmr
  have HRS := Lib.hid h
  have HMR := Lib.hid hmr
  clear hcut hgood hout htl hll hts hall hkn htx hr hmr
  go_enter Tryz.func71, Tryz.ntmps71
  go_upto_region 6 with (first | (go_at_call 134; (with_reducible refine hct.mono ?_); rintro r w2 ⟨rfl, hb2⟩) | (go_at_call 135; (with_reducible refine (hpp _ hb2).mono ?_); rintro r w3 ⟨pv, rfl, hown, hb3⟩))
  obtain ⟨Ap, np, capp, rfl⟩ := hown.shape
  have hb23 := bthen hb2 hb3
  have hk3 : RKept R B W w3 := RKept.of (by omega) hB hb23
  have h3 := HRS.out.below hb23
  have hownB := hown.lower (b := B) (by have := hb2.size; omega)
  obtain ⟨Ag, ng, capg, hpg⟩ := h3.progs.shape
  have hown3 := h3.progs
  rw [hpg] at hown3
  obtain rfl : ng = ps.length := own_cntG hown3
  have c13 : w3.cell? ⟨R, 13, none⟩ = some (.slice Ag ps.length capg) := (cell_of h3.box 13).1.trans (by rw [rdr_13, hpg])
  have f13 := (cell_of h3.box 13).2
  have H3 := Lib.hid h3
  have HPG := Lib.hid hpg
  have hBz : B ≤ w3.heap.size := by have := hb23.size; omega
  have hRB := h3.lt
  clear hct hpp hown h h3 hpg
  have p5 : rowAt (w3.alloc (.cells (PV.arr ⟨.slice Ap np capp, xs⟩) 23)) w3.heap.size 0 1 = some (PV.arr ⟨.slice Ap np capp, xs⟩) := rowAt_new _ _ _ _ _ rfl
  have hRW3 : R < w3.heap.size := by omega
  have hone : (PV.arr ⟨.slice Ap np capp, xs⟩).all (·.oneCell') = true := by simp [PV.arr, Value.oneCell']
  rcases more with _ | _
  · go_wp2_with (first | (refine wpList_slice1 rfl _ 23 _ rfl (PV.arr ⟨.slice Ap np capp, xs⟩) 1 24 Tryz.underlying27 (by kernel_rfl) (by decide) rfl rfl w3.heap.size rfl ?_) | (at_builtin; refine wpList_append1 PV.arr 1 rfl _ _ _ rfl B 23 24 Tryz.underlying27 (by kernel_rfl) (by decide) _ ps ⟨.slice Ap np capp, xs⟩ rfl (hown3.alloc _) w3.heap.size rfl p5 hone (by omega) (by omega) (by simp <;> omega) ?_; intro v' w' hown' hgr' hbel'; obtain ⟨A2, n2, cap2, rfl⟩ := hown'.shape; have hfin := RS.addProg H3.out hBz HPG.out ⟨.slice Ap np capp, xs⟩ hownB hok hown' hgr' hbel'; have HF := Lib.hid hfin; have k13 : w'.cell? ⟨R, 13, none⟩ = some (.slice Ag ps.length capg) := (cell_block (hbel'.block R hRB)).trans ((cell_block (Below.heap_alloc _ _ _ hRW3)).trans c13); have g13 : w'.frozen? ⟨R, 13, none⟩ = false := (cell_of ((hbel'.block R hRB).trans ((Below.heap_alloc _ _ _ hRW3).trans H3.out.box)) 13).2; clear hfin hown' hgr' hbel'))
    go_ret
    exact ⟨rfl, hk3.trans HF.out.1, _, _, HF.out.2⟩
  · have hne := HMR.out rfl
    have hne1 : (tx == []) = false := beq_eq_false_iff_ne.2 hne
    clear hne
    go_wp2_with (first | (refine wpList_slice1 rfl _ 23 _ rfl (PV.arr ⟨.slice Ap np capp, xs⟩) 1 24 Tryz.underlying27 (by kernel_rfl) (by decide) rfl rfl w3.heap.size rfl ?_) | (at_builtin; refine wpList_append1 PV.arr 1 rfl _ _ _ rfl B 23 24 Tryz.underlying27 (by kernel_rfl) (by decide) _ ps ⟨.slice Ap np capp, xs⟩ rfl (hown3.alloc _) w3.heap.size rfl p5 hone (by omega) (by omega) (by simp <;> omega) ?_; intro v' w' hown' hgr' hbel'; obtain ⟨A2, n2, cap2, rfl⟩ := hown'.shape; have hfin := RS.addProg H3.out hBz HPG.out ⟨.slice Ap np capp, xs⟩ hownB hok hown' hgr' hbel'; have HF := Lib.hid hfin; have k13 : w'.cell? ⟨R, 13, none⟩ = some (.slice Ag ps.length capg) := (cell_block (hbel'.block R hRB)).trans ((cell_block (Below.heap_alloc _ _ _ hRW3)).trans c13); have g13 : w'.frozen? ⟨R, 13, none⟩ = false := (cell_of ((hbel'.block R hRB).trans ((Below.heap_alloc _ _ _ hRW3).trans H3.out.box)) 13).2; clear hfin hown' hgr' hbel'))
    go_ret
    exact ⟨rfl, hk3.trans HF.out.1, _, _, HF.out.2⟩
end Go.Proofs.YtmpjjmilodjecaaGreatDoor
namespace Go.Proofs.YtmpjjmilodjecaaGreatDoor
open Go.RowKit Go.Shelf
set_option linter.unusedVariables false
set_option linter.unusedSimpArgs false
attribute [local go_sem] Config.sz bw_cell
theorem own_setRs {α : Type} {arr : α → Array Value} {sz B R : Nat} {e : TypeId} {v : Value} {xs : List α} (hRB : R < B) (vs : List Value) (o : Nat) (w : World) (h : Own arr sz B e w v xs) : Own arr sz B e (w.setCells R o vs) v xs := by
  induction vs generalizing o w with
  | nil => exact h
  | cons u vs ih => exact ih (o + 1) _ (own_setR h hRB o u)
theorem RS.addSet {R B : Nat} {c : Config} {sv : Value} {ps : List PV} {st : List Int} {w5 w' : World} (h : RS R B c sv ps st w5) (hBz : B ≤ w5.heap.size) (k : Int) {v' : Value} (hown' : Own intArr 1 B 3 w' v' (st ++ [k]))
    (hgr' : w5.grownBy w' sv.ownBlock) (hbel' : Below B w5 w') (c' : Config) (hc' : c'.progs = c.progs) :
    RKept R B w5 ((w'.setCells R 0 (Config.arr c').toList).setCell ⟨R, 14, none⟩ v') ∧ RS R B c' v' ps (st ++ [k]) ((w'.setCells R 0 (Config.arr c').toList).setCell ⟨R, 14, none⟩ v') := by
  have hRB := h.lt
  have hbx : w'.heap[R]? = some (.cells (rdrArr c sv) 133 (0, 0)) := (hbel'.block R hRB).trans h.box
  have keep {α : Type} {arr : α → Array Value} {sz : Nat} {e : TypeId} {v : Value} {xs : List α} (ho : Own arr sz B e w5 v xs) (hne : e ≠ 3) : Own arr sz B e ((w'.setCells R 0 (Config.arr c').toList).setCell ⟨R, 14, none⟩ v') v xs :=
    own_setR (own_setRs hRB _ 0 _ (ho.kept hgr' (own_apart ho h.set hne))) hRB 14 v'
  have hk1 : RKept R B w5 w' := by
    refine ⟨hbel'.mono (by omega), fun k hk _ => hbel'.block k hk, ?_⟩
    refine (KeepsOthers.of_grownBy hgr' fun j ob ej hj => ?_).from B
    rcases h.set.2 with ⟨hn, _⟩ | ⟨g, cap, cur, hn, _, hgb, _⟩
    · rw [hn] at ej; simp [Value.ownBlock] at ej
    · rw [hn] at ej
      obtain rfl : g = j := by simpa [Value.ownBlock] using ej
      rw [hgb] at hj; cases hj; rfl
  refine ⟨(hk1.trans (RKept.setCells w' 0 _)).trans (RKept.setCell _ 14 v'), ?_, ?_, fun q hq => ⟨keep (h.elem q hq).1 (by decide), (h.elem q hq).2⟩, own_setR (own_setRs hRB _ 0 _ hown') hRB 14 v', hRB⟩
  · have := heap_setCell_same _ R 14 _ _ v' (rdr_store hbx c')
    rw [rdr_set14] at this
    exact this
  · rw [hc']; exact keep h.progs (by decide)
theorem widx_c (g : Nat) (p : List UInt8) (W : World) (h : W.heap[g]? = some (.cells words29V 9 (0, 0))) :
    Calls Tryz.prog 136 #[.slice (some ⟨g, 0, none⟩) 13 13, strV p] W fun r w' => r = .returned (.int .i64 (Lib.idxOfS T.words29B ⟨p.toArray⟩)) ∧ w' = W := by
  refine Tryz.slices_Index_string g 0 13 13 T.words29B ⟨p.toArray⟩ W (by decide) (by omega) (fun j hj => ?_)
  have hj8 : j < 13 := hj
  rw [Nat.zero_add, (cell_of h j).1, words29_at j hj8]
  revert hj8
  revert j
  exact fun j _ hj => T.cases13 (P := fun j => some (strV (T.words29.getD j [])) = some (Value.string (T.words29B.getD j ByteArray.empty))) ⟨rfl, rfl, rfl, rfl, rfl, rfl, rfl, rfl, rfl, rfl, rfl, rfl, rfl⟩ j hj
theorem contains_c {B : Nat} (sv : Value) (st : List Int) (x : Int) (W : World) (h : Own intArr 1 B 3 W sv st) (hl : st.length ≤ 1000) :
    Calls Tryz.prog 138 #[sv, .int .i64 x] W fun r w' => r = .returned (.bool (st.contains x)) ∧ w' = W := by
  obtain ⟨A, cap, rfl, hcap, _, h3⟩ := h.sl (arr := intArr) (sz := 1) (fun _ => rfl)
  by_cases hs : st = []
  · subst hs
    exact Tryz.slices_Contains_int_empty A cap x W
  · obtain ⟨b, off, rfl, hb, hr⟩ := h3 hs
    have hh := Tryz.slices_Contains_int b off st.length cap st x W (Nat.le_refl _) (by omega) (fun j hj => by
      have h1 := hr j (st.getD j 0) (by rw [List.getD_eq_getElem?_getD, List.getElem?_eq_getElem hj]; rfl)
      have := rowAt_cell h1 0 (by omega)
      simpa [intArr] using this)
    rw [List.take_length] at hh
    exact hh
theorem Config.setK_prog (c : Config) (k : Int) (n : Int) : (T.set c k n).progs = c.progs := by unfold T.set; split <;> rfl
set_option maxRecDepth 100000 in
set_option maxHeartbeats 8000000 in
theorem line_set (k : Nat) (hk : k < 13) (n : Nat) (hn : n < 10000000) (R B : Nat) (c : Config) (sv : Value) (ps : List PV) (st : List Int) (W : World) (h : RS R B c sv ps st W) (hB : B ≤ W.heap.size) (hst : st.length ≤ 100) (he : Env W) :
    Calls Tryz.prog 71 #[.pointer (some ⟨R, 0, none⟩), strV (T.setLine k (n : Int))] W fun r w' =>
      (st.contains (k : Int) = true → r = .returned (.int .i64 8) ∧ RKept R B W w' ∧ RS R B c sv ps st w') ∧
      (st.contains (k : Int) = false → r = .returned (.int .i64 0) ∧ RKept R B W w' ∧ ∃ sv', RS R B (T.set c (k : Int) (n : Int)) sv' ps (st ++ [(k : Int)]) w') := by
  obtain ⟨b0, il, hit, hdg, hl6, hz0, hdec⟩ := T.num_text n hn
  have hwb := T.word29_byte k hk
  obtain ⟨hwp, hwn⟩ := T.word29_prog k hk
  have hwl := T.word29_len k hk
  have hwi := T.word29_idx k hk
  have hcut := T.cut_at (T.words29.getD k []) (Lib.itoa (n : Int)) (fun b hb => (hwb b hb).1)
  rw [show T.words29.getD k [] ++ 32 :: Lib.itoa (n : Int) = T.setLine k (n : Int) from rfl, hit] at hcut
  have hsl : (T.setLine k (n : Int)).length ≤ 30 := by
    unfold T.setLine
    rw [hit]
    simp only [List.length_append, List.length_cons]; omega
  have hnum := fun X : World => number_c b0 il hdg hl6 hz0 X
  rw [hdec] at hnum
  obtain ⟨c0, ts, hts, hc35⟩ : ∃ c0 ts, T.setLine k (n : Int) = c0 :: ts ∧ c0 ≠ 35 := by
    unfold T.setLine
    cases hw : T.words29.getD k [] with
    | nil => exact absurd hw hwn
    | cons x l => exact ⟨x, _, rfl, (hwb x (by rw [hw]; simp)).2.2⟩
  have hct := cut_c (T.setLine k (n : Int)) _ _ _ hcut (by omega) W he
  rw [hts] at hct ⊢
  have h0 : (((ByteArray.mk (c0 :: ts).toArray)[0]'(by simp [ByteArray.size])).toNat : Int) ≠ 35 := by
    intro e
    have h35 : c0.toNat = 35 := by exact_mod_cast e
    exact hc35 (UInt8.toNat_inj.1 h35)
  have h0' : ((((ByteArray.mk (c0 :: ts).toArray)[0]'(by simp [ByteArray.size])).toNat : Int) == 35) = false := by simpa using h0
  obtain ⟨wd, hwd⟩ : ∃ wd, wd = T.words29.getD k [] := ⟨_, rfl⟩
  rw [← hwd] at hct hwp hwi
  have hwp1 : (wd == [112, 114, 111, 103, 114, 97, 109]) = false := beq_eq_false_iff_ne.2 hwp
  have hRW : R < W.heap.size := (Array.getElem?_eq_some_iff.1 h.box).1
  have HRS := Lib.hid h
  have HRB := h.lt
  have hk13 : (k : Int) < 13 := by omega
  have hkn : ¬ (k : Int) < 0 := by omega
  clear hwd hwp hwb hwn hwl hcut hsl hts hc35 hit hdg hl6 hz0 hdec h h0
  go_enter Tryz.func71, Tryz.ntmps71
  go_upto_region 10 with (go_at_call 134; (with_reducible refine hct.mono ?_); rintro r w2 ⟨rfl, hb2⟩)
  obtain ⟨W3, hW3⟩ : ∃ W3, W3 = w2.alloc (.cells words29V 9) := ⟨_, rfl⟩
  have hwh : W3.heap[w2.heap.size]? = some (.cells words29V 9 (0, 0)) := by rw [hW3]; exact heap_alloc_new _ _
  have hb3 : Below W.heap.size W W3 := by rw [hW3]; exact hb2.alloc hb2.size _
  have hwds := words_c w2
  rw [← hW3] at hwds
  have hix := widx_c w2.heap.size wd W3 hwh
  rw [hwi] at hix
  clear hW3 hwi hct hwh
  go_upto_region 14 with (first | (go_at_call 60; (with_reducible refine hwds.mono ?_); rintro r w ⟨rfl, hw⟩; rw [hw]; clear hw) | (go_at_call 136; (with_reducible refine hix.mono ?_); rintro r w ⟨rfl, hw⟩; rw [hw]; clear hw) | (go_at_call 137; (with_reducible refine (hnum _).mono ?_); rintro r w4 ⟨rfl, hb4⟩))
  have hb34 := bthen hb3 hb4
  have h4 := HRS.out.below hb34
  obtain ⟨As, ns, caps, hsv⟩ := h4.set.shape
  have hset := h4.set
  rw [hsv] at hset
  obtain rfl : ns = st.length := own_cntG hset
  have c14 : w4.cell? ⟨R, 14, none⟩ = some (.slice As st.length caps) := (cell_of h4.box 14).1.trans (by rw [rdr_14, hsv])
  have hcn := contains_c _ st (k : Int) w4 hset (by omega)
  have hBz : B ≤ w4.heap.size := by have := hb34.size; omega
  have hk4 : RKept R B W w4 := RKept.of (by omega) hB hb34
  have H4 := Lib.hid h4
  have HSV := Lib.hid hsv
  clear hwds hix hnum hb2 hb3 hb4 h4 hsv
  rcases hcc : st.contains (k : Int) with _ | _
  · rw [hcc] at hcn
    have HCC := Lib.hid hcc
    clear hcc
    go_upto_region 16 with (go_at_call 138; (with_reducible refine hcn.mono ?_); rintro r w ⟨rfl, hw⟩; rw [hw]; clear hw)
    have HSH := Lib.hid (show ∃ A n cap, c.progs = .slice A n cap from H4.out.progs.shape)
    have hsc := fun X : World => set_c c HSH.out (k : Int) (n : Int) X
    have hbx4 := H4.out.box
    have hlst : w4.drew.heap.size = w4.heap.size := rfl
    refine wp_region_M 19 18 [5, 12] [0, 1, 2, 3, 4, 6, 7, 9, 10, 11, 13, 5, 12] 8 14 [15, 16, 17, 18, 19, 20, 21] (fun X => X.heap[R]? = some (.cells (rdrArr c sv) 133 (0, 0))) (by kernel_rfl) (by kernel_rfl) (by kernel_rfl) rfl rfl rfl rfl (by kernel_rfl) (by simp only [ordOps, List.map_cons, List.map_nil, List.getElem?_cons_succ, List.getElem?_cons_zero, Option.getD_some]; repeat (first | exact trivial | refine ⟨fun _ _ _ _ h => h, ?_⟩)) ?_ ?_
    rotate_left; simp only [ordOps, List.map_cons, List.map_nil, List.getElem?_cons_succ, List.getElem?_cons_zero, Option.getD_some]; rotate_left
    · exact hbx4
    iterate 11 ((refine wpPreM_q (by rfl) ?_ ?_ ?_; rotate_left; focus (rintro W _; go_simp; try (with_reducible rfl); done)); try simp only [Act.put, List.setIfInBounds_toArray, List.set_cons_succ, List.set_cons_zero])
    refine wpPreM_q (by rfl) (.agg (Config.arr c)) ?_ ?_
    · intro X hX0
      have hX := hX0 rfl
      exact yields_load_at 29 _ rfl R 0 14 rfl (Config.arr c) _ Tryz.underlying29 rfl (by kernel_rfl) (rdr_row hX)
    simp only [Act.put, List.setIfInBounds_toArray, List.set_cons_succ, List.set_cons_zero]
    refine wpPreM_q (by rfl) (.slice As st.length caps) ?_ ?_
    · intro X hX0
      have hX := hX0 rfl
      have s0 : X.cell? ⟨R, 14, none⟩ = some (.slice As st.length caps) := (cell_of hX 14).1.trans (by rw [rdr_14, HSV.out])
      go_simp
    simp only [Act.put, List.setIfInBounds_toArray, List.set_cons_succ, List.set_cons_zero]
    refine wpPreM_nil ?_
    intro K hK
    refine ⟨?_, ?_⟩
    · go_simp
      refine (hsc _).mono ?_
      rintro r w5 ⟨rfl, hb5⟩
      have hb45 : Below w4.heap.size w4 w5 := (Below.refl _ w4).drew.trans hb5
      have h5 := H4.out.below hb45
      refine ⟨h5.box, ?_⟩
      show K _ (w5.alloc (.cells (intArr (k : Int)) 3))
      have hba : Below w4.heap.size w4 (w5.alloc (.cells (intArr (k : Int)) 3)) := hb45.alloc hb45.size _
      have p5 : rowAt (w5.alloc (.cells (intArr (k : Int)) 3)) w5.heap.size 0 1 = some (intArr (k : Int)) := rowAt_new _ _ _ _ _ rfl
      have h6 := H4.out.below hba
      have H5 := Lib.hid h6
      have hown5 : Own intArr 1 B 3 (w5.alloc (.cells (intArr (k : Int)) 3)) (.slice As st.length caps) st := by have := h6.set; rwa [HSV.out] at this
      have hBz5 : B ≤ (w5.alloc (.cells (intArr (k : Int)) 3)).heap.size := by have := hba.size; omega
      have hk5 : RKept R B w4 (w5.alloc (.cells (intArr (k : Int)) 3)) := RKept.of (by omega) hBz hba
      refine hK _ _ h6.box ?_; clear hK K; try simp only [Act.put, List.setIfInBounds_toArray, List.set_cons_succ, List.set_cons_zero]
      clear h5 h6 hsc
      refine wpPostM_a fun K hK => ?_
      refine wp_append1 intArr 1 _ _ _ rfl B 3 8 Tryz.underlying22 (by kernel_rfl) (by decide) (.slice As st.length caps) st (k : Int) rfl hown5 _ rfl p5 (intArr_one _) (by omega) (by omega) hBz5 ?_
      intro v' w' hown' hgr' hbel' hloc'
      obtain ⟨A2, n2, cap2, rfl⟩ := hown'.shape
      have hfin := RS.addSet H5.out hBz5 (k : Int) hown' (by rw [HSV.out]; exact hgr') hbel' (T.set c (k : Int) (n : Int)) (Config.setK_prog c _ _)
      have HF := Lib.hid hfin
      have hbx : w'.heap[R]? = some (.cells (rdrArr c sv) 133 (0, 0)) := (hbel'.block R HRB).trans H5.out.box
      have HBX := Lib.hid hbx
      have hst2 := rdr_store hbx (T.set c (k : Int) (n : Int))
      have k14 : (w'.setCells R 0 (Config.arr (T.set c (k : Int) (n : Int))).toList).cell? ⟨R, 14, none⟩ = some (.slice As st.length caps) := (cell_of hst2 14).1.trans (by rw [rdr_14, HSV.out])
      have g14 := (cell_of hst2 14).2
      obtain ⟨W7, hW7⟩ : ∃ W7, W7 = w'.setCells R 0 (Config.arr (T.set c (k : Int) (n : Int))).toList := ⟨_, rfl⟩
      rw [← hW7] at k14 g14 HF
      have HW7 := Lib.hid hW7
      refine hK _ _ (fun _ _ => hbx) ?_; clear hK K; try simp only [Act.put, List.setIfInBounds_toArray, List.set_cons_succ, List.set_cons_zero]
      clear hfin hst2 hown' hgr' hbel' hloc' hW7
      refine wpPostM_a fun K hK => ?_
      go_simp
      refine hK _ _ (fun _ _ => HBX.out) ?_; clear hK K; try simp only [Act.put, List.setIfInBounds_toArray, List.set_cons_succ, List.set_cons_zero]
      refine wpPostM_a fun K hK => ?_
      go_simp
      refine hK _ _ (fun _ _ => HBX.out) ?_; clear hK K; try simp only [Act.put, List.setIfInBounds_toArray, List.set_cons_succ, List.set_cons_zero]
      refine wpPostM_a fun K hK => ?_
      refine wp_store_mid 29 _ _ rfl R 0 (Config.arr (T.set c (k : Int) (n : Int))) rfl rfl (rdr_there hbx 0 14 (by omega)) (by kernel_rfl) (Config.one _ (by rw [Config.setK_prog]; exact HSH.out)) ?_
      rw [← HW7.out]
      refine hK _ _ (fun _ q => by cases q) ?_; clear hK K; try simp only [Act.put, List.setIfInBounds_toArray, List.set_cons_succ, List.set_cons_zero]
      clear hbx
      refine wpPostM_a fun K hK => ?_
      go_simp
      refine hK _ _ (fun q _ => by cases q) ?_; clear hK K; try simp only [Act.put, List.setIfInBounds_toArray, List.set_cons_succ, List.set_cons_zero]
      refine wpPostM_a fun K hK => ?_
      go_simp
      refine hK _ _ (fun q _ => by cases q) ?_; clear hK K; try simp only [Act.put, List.setIfInBounds_toArray, List.set_cons_succ, List.set_cons_zero]
      refine wpPostM_a fun K hK => ?_
      go_simp
      refine hK _ _ (fun q _ => by cases q) ?_; clear hK K; try simp only [Act.put, List.setIfInBounds_toArray, List.set_cons_succ, List.set_cons_zero]
      refine wpPostM_nil ?_
      go_wp2
      go_ret
      exact ⟨fun q => (by rw [HCC.out] at q; cases q), fun _ => ⟨rfl, hk4.trans (hk5.trans HF.out.1), _, HF.out.2⟩⟩
    · refine wp_slice1 22 3 _ rfl (intArr (k : Int)) 1 8 Tryz.underlying22 (by kernel_rfl) (by decide) rfl rfl w4.heap.size rfl ?_
      have hba0 : Below w4.heap.size w4 (w4.drew.alloc (.cells (intArr (k : Int)) 3)) := (Below.refl _ w4).drew.alloc (Nat.le_refl _) _
      have p0 : rowAt (w4.drew.alloc (.cells (intArr (k : Int)) 3)) w4.heap.size 0 1 = some (intArr (k : Int)) := rowAt_new _ _ _ _ _ rfl
      refine ⟨(H4.out.below hba0).box, ?_⟩
      go_simp
      refine (hsc _).mono ?_
      rintro r w5 ⟨rfl, hb5⟩
      have hba := bthen hba0 hb5
      have p5 : rowAt w5 w4.heap.size 0 1 = some (intArr (k : Int)) := (rowAt_block (hb5.block _ (by simp))).trans p0
      have h6 := H4.out.below hba
      have H5 := Lib.hid h6
      have hown5 : Own intArr 1 B 3 w5 (.slice As st.length caps) st := by have := h6.set; rwa [HSV.out] at this
      have hBz5 : B ≤ w5.heap.size := by have := hba.size; omega
      have hk5 : RKept R B w4 w5 := RKept.of (by omega) hBz hba
      refine hK _ _ h6.box ?_; clear hK K; try simp only [Act.put, List.setIfInBounds_toArray, List.set_cons_succ, List.set_cons_zero]
      clear h6 hsc
      refine wpPostM_a fun K hK => ?_
      refine wp_append1 intArr 1 _ _ _ rfl B 3 8 Tryz.underlying22 (by kernel_rfl) (by decide) (.slice As st.length caps) st (k : Int) rfl hown5 _ rfl p5 (intArr_one _) (by omega) (by omega) hBz5 ?_
      intro v' w' hown' hgr' hbel' hloc'
      obtain ⟨A2, n2, cap2, rfl⟩ := hown'.shape
      have hfin := RS.addSet H5.out hBz5 (k : Int) hown' (by rw [HSV.out]; exact hgr') hbel' (T.set c (k : Int) (n : Int)) (Config.setK_prog c _ _)
      have HF := Lib.hid hfin
      have hbx : w'.heap[R]? = some (.cells (rdrArr c sv) 133 (0, 0)) := (hbel'.block R HRB).trans H5.out.box
      have HBX := Lib.hid hbx
      have hst2 := rdr_store hbx (T.set c (k : Int) (n : Int))
      have k14 : (w'.setCells R 0 (Config.arr (T.set c (k : Int) (n : Int))).toList).cell? ⟨R, 14, none⟩ = some (.slice As st.length caps) := (cell_of hst2 14).1.trans (by rw [rdr_14, HSV.out])
      have g14 := (cell_of hst2 14).2
      obtain ⟨W7, hW7⟩ : ∃ W7, W7 = w'.setCells R 0 (Config.arr (T.set c (k : Int) (n : Int))).toList := ⟨_, rfl⟩
      rw [← hW7] at k14 g14 HF
      have HW7 := Lib.hid hW7
      refine hK _ _ (fun _ _ => hbx) ?_; clear hK K; try simp only [Act.put, List.setIfInBounds_toArray, List.set_cons_succ, List.set_cons_zero]
      clear hfin hst2 hown' hgr' hbel' hloc' hW7
      refine wpPostM_a fun K hK => ?_
      go_simp
      refine hK _ _ (fun _ _ => HBX.out) ?_; clear hK K; try simp only [Act.put, List.setIfInBounds_toArray, List.set_cons_succ, List.set_cons_zero]
      refine wpPostM_a fun K hK => ?_
      go_simp
      refine hK _ _ (fun _ _ => HBX.out) ?_; clear hK K; try simp only [Act.put, List.setIfInBounds_toArray, List.set_cons_succ, List.set_cons_zero]
      refine wpPostM_a fun K hK => ?_
      refine wp_store_mid 29 _ _ rfl R 0 (Config.arr (T.set c (k : Int) (n : Int))) rfl rfl (rdr_there hbx 0 14 (by omega)) (by kernel_rfl) (Config.one _ (by rw [Config.setK_prog]; exact HSH.out)) ?_
      rw [← HW7.out]
      refine hK _ _ (fun _ q => by cases q) ?_; clear hK K; try simp only [Act.put, List.setIfInBounds_toArray, List.set_cons_succ, List.set_cons_zero]
      clear hbx
      refine wpPostM_a fun K hK => ?_
      go_simp
      refine hK _ _ (fun q _ => by cases q) ?_; clear hK K; try simp only [Act.put, List.setIfInBounds_toArray, List.set_cons_succ, List.set_cons_zero]
      refine wpPostM_a fun K hK => ?_
      go_simp
      refine hK _ _ (fun q _ => by cases q) ?_; clear hK K; try simp only [Act.put, List.setIfInBounds_toArray, List.set_cons_succ, List.set_cons_zero]
      refine wpPostM_a fun K hK => ?_
      go_simp
      refine hK _ _ (fun q _ => by cases q) ?_; clear hK K; try simp only [Act.put, List.setIfInBounds_toArray, List.set_cons_succ, List.set_cons_zero]
      refine wpPostM_nil ?_
      go_wp2
      go_ret
      exact ⟨fun q => (by rw [HCC.out] at q; cases q), fun _ => ⟨rfl, hk4.trans (hk5.trans HF.out.1), _, HF.out.2⟩⟩
  · rw [hcc] at hcn
    have HCC := Lib.hid hcc
    clear hcc
    go_wp2_with (go_at_call 138; (with_reducible refine hcn.mono ?_); rintro r w ⟨rfl, hw⟩; rw [hw]; clear hw)
    go_ret
    exact ⟨fun _ => ⟨rfl, hk4, H4.out⟩, fun q => by rw [HCC.out] at q; cases q⟩
end Go.Proofs.YtmpjjmilodjecaaGreatDoor
