/- Lists of programs: elements that are slices; slices.ContainsFunc over them; program.All, the document's All. -/
import Derived.Test.YtmpjjmilodjecaaGreatDoorPRightR
import Derived.Test.YtmpjjmilodjecaaGreatDoorRow
namespace Go.Proofs.YtmpjjmilodjecaaGreatDoor
open Go.RowKit Go.Shelf Go.ChangeShapes Go.WideShapes Go.ChangeAt Go.Deep
set_option linter.unusedVariables false
set_option linter.unusedSimpArgs false
/-- A program as an element: its slice, its steps. -/
structure PV where
  v : Value
  xs : List GoOp
def PV.arr (p : PV) : Array Value := #[p.v]
theorem PV.sz (p : PV) : (PV.arr p).size = 1 := rfl
def PV.ok (W : World) (p : PV) : Prop := Sl GoOp.arr 3 W.heap.size W p.v p.xs ∧ ∀ o ∈ p.xs, GoOp.ok o
theorem PV.below {W W' : World} {p : PV} (h : PV.ok W p) (hb : Below W.heap.size W W') : PV.ok W' p := ⟨(h.1.below hb).mono hb.size, h.2⟩
theorem PV.shape {W : World} {p : PV} (h : PV.ok W p) : ∃ A cap, p.v = .slice A p.xs.length cap := by
  obtain ⟨A, cap, hv, _⟩ := h.1
  exact ⟨A, cap, hv⟩
theorem PV.one {W : World} {p : PV} (h : PV.ok W p) : (PV.arr p).all (·.oneCell') = true := by
  obtain ⟨A, cap, hv⟩ := PV.shape h
  simp [PV.arr, hv, Value.oneCell']
theorem pv_open {H : Type} {enc : TypeId × Value → H} {W : World} {fuel : Nat} {cs : List Value} {y : DataW H × List MemPlace}
    (h : DataW.trod enc Tryz.prog W 0 (fun _ => true) true fuel 23 cs = some y) : ∃ x : PV, cs = (PV.arr x).toList ∧ PV.ok W x := by
  obtain ⟨d, p⟩ := y
  obtain ⟨v, hcv, hsh⟩ : ∃ v, cs = [v] ∧ ∃ a n c, v = .slice a n c := by
    rcases open_slice Tryz.underlying23 h with ⟨hcs, _⟩ | ⟨a, len, cap, _, _, _, _, hcs, _⟩
    · exact ⟨_, hcs, _, _, _, rfl⟩
    · exact ⟨_, hcs, _, _, _, rfl⟩
  subst hcv
  have ht : DataW.Trod enc Tryz.prog W 0 (fun _ => true) true 23 v d p := ⟨fuel, by
    obtain ⟨a, n, c, rfl⟩ := hsh
    exact h⟩
  obtain ⟨xs, hs, hok, _⟩ := slice_open_form (arr := GoOp.arr) (sz := 3) Tryz.underlying23 (by kernel_rfl) (by omega) (fun fuel cs y h => GoOp.open h) hsh ht
  exact ⟨⟨v, xs⟩, rfl, hs, hok⟩
theorem pvs_open {H : Type} {enc : TypeId × Value → H} {W : World} {v : Value} (h : ∃ fuel y, DataW.trod enc Tryz.prog W 0 (fun _ => true) true fuel 27 [v] = some y) :
    ∃ ps : List PV, Sl PV.arr 1 W.heap.size W v ps ∧ ∀ p ∈ ps, PV.ok W p := by
  have hsh := slice_form Tryz.underlying27 h
  obtain ⟨fuel, ⟨d, p⟩, h⟩ := h
  have ht : DataW.Trod enc Tryz.prog W 0 (fun _ => true) true 27 v d p := ⟨fuel, by
    obtain ⟨a, n, c, rfl⟩ := hsh
    exact h⟩
  obtain ⟨xs, hs, hok, _⟩ := slice_open_form (arr := PV.arr) (sz := 1) Tryz.underlying27 (by kernel_rfl) (by omega) (fun fuel cs y h => pv_open h) hsh ht
  exact ⟨xs, hs, hok⟩
set_option maxRecDepth 100000 in
set_option maxHeartbeats 1000000 in
theorem indexPV_c (B : Nat) (f : FuncId) (eg : ∀ args w, (callFunc f args).run Tryz.prog w = .ok (.enter f args) w) (lb : List Value) (p : PV → Bool) (v : Value) (xs : List PV) (w : World) (hBw : B ≤ w.heap.size) (h : Sl PV.arr 1 w.heap.size w v xs) (hsh : ∀ x ∈ xs, ∃ A cap, x.v = .slice A x.xs.length cap) (hp : Answers (fun x : PV => x.v) f lb p B w xs) :
    Calls Tryz.prog 221 #[v, .func (.func f) #[] lb.toArray] w fun e w' => e = .returned (.int .i64 (T.idx p xs)) ∧ Below w.heap.size w w' := by
  obtain ⟨A, cap, rfl, hcap, hl1, hl2⟩ := h.view
  have HP := Lib.hid hp
  have HSH := Lib.hid hsh
  clear hp hsh
  go_enter Tryz.func221, Tryz.ntmps221
  go_wp2
  go_loopw [8] (fun iv wr => ∃ k : Nat, k ≤ xs.length ∧ iv = .int .i64 (k : Int) ∧ Hid (∀ y ∈ xs.take k, p y = false) ∧ Below w.heap.size w wr) (fun iv _ => xs.length - (intOf iv).toNat)
  case atStart => exact ⟨0, Nat.zero_le _, rfl, Lib.hid (by simp), Below.refl _ _⟩
  case round =>
    obtain ⟨k, hk, rfl, hall, hB⟩ := hrel
    by_cases hkl : k < xs.length
    · obtain ⟨b, off, rfl, hb, hrow, _⟩ := (h.below hB).at hkl
      obtain ⟨x, hx⟩ : ∃ x, x = xs[k] := ⟨_, rfl⟩
      rw [← hx] at hrow
      have hxo : xs[k]? = some x := by rw [hx]; exact List.getElem?_eq_getElem hkl
      have hc := HP.out x (List.mem_of_getElem? hxo) wr (hB.mono hBw)
      obtain ⟨A2, cap2, hxv⟩ := HSH.out x (List.mem_of_getElem? hxo)
      have c0 : wr.cell? ⟨b, off + k * 1, none⟩ = some x.v := rowAt_cell hrow 0 (by omega)
      rw [Nat.mul_one, hxv] at c0
      replace hc : Calls Tryz.prog f (x.v :: lb).toArray wr fun e W' => e = .returned (.bool (p x)) ∧ Below wr.heap.size wr W' := hc
      rw [hxv] at hc
      have hnext : xs.take (k + 1) = xs.take k ++ [x] := by rw [hx]; simp
      have HN := Lib.hid hnext
      have HX := Lib.hid hxo
      have HC := Lib.hid hc
      generalize x.xs.length = xl at *
      clear hx hxo hnext hc hxv hrow
      rcases hpx : p x with _ | _
      · rw [hpx] at HC
        have hz := Lib.hid (show ∀ y ∈ xs.take (k + 1), p y = false by
          rw [HN.out]; intro y hy; rcases List.mem_append.1 hy with hy | hy
          · exact hall.out y hy
          · simp at hy; rw [hy]; exact hpx)
        clear hpx
        go_wp2_with ((with_reducible refine HC.out.mono ?_); rintro e w1 ⟨rfl, hb1⟩)
        go_roundw
        case rel => exact ⟨k + 1, by omega, by go_num, hz, bthen hB hb1⟩
        case measure => simp [intOf]; omega
      · rw [hpx] at HC
        have HI := Lib.hid (T.idx_hit p xs k x HX.out hpx hall.out)
        clear hpx
        go_wp2_with ((with_reducible refine HC.out.mono ?_); rintro e w1 ⟨rfl, hb1⟩)
        go_ret
        exact ⟨ret_int HI.out.symm, bthen hB hb1⟩
    · rw [List.take_of_length_le (by omega)] at hall
      have HI := Lib.hid (T.idx_none p xs hall.out)
      go_wp2
      go_ret
      exact ⟨ret_int HI.out.symm, hB⟩
theorem containsPV_c (B : Nat) (f : FuncId) (eg : ∀ args w, (callFunc f args).run Tryz.prog w = .ok (.enter f args) w) (lb : List Value) (p : PV → Bool) (v : Value) (xs : List PV) (w : World) (hBw : B ≤ w.heap.size) (h : Sl PV.arr 1 w.heap.size w v xs) (hsh : ∀ x ∈ xs, ∃ A cap, x.v = .slice A x.xs.length cap) (hp : Answers (fun x : PV => x.v) f lb p B w xs) :
    Calls Tryz.prog 139 #[v, .func (.func f) #[] lb.toArray] w fun e w' => e = .returned (.bool (xs.any p)) ∧ Below w.heap.size w w' := by
  obtain ⟨A, cap, rfl, hcap, hl1, hl2⟩ := h.view
  have hi := indexPV_c B f eg lb p _ xs w hBw h hsh hp
  have HA := Lib.hid (T.idx_any p xs)
  obtain ⟨i, hii⟩ : ∃ i, i = T.idx p xs := ⟨_, rfl⟩
  rw [← hii] at hi
  have HI := Lib.hid hii
  clear hii hp hsh
  go_enter Tryz.func139, Tryz.ntmps139
  go_wp2_with (go_at_call 221; (with_reducible refine hi.mono ?_); rintro e w1 ⟨rfl, hb1⟩)
  go_ret
  exact ⟨ret_bool (by have := HA.out; rw [← HI.out] at this; simpa using this), hb1⟩
end Go.Proofs.YtmpjjmilodjecaaGreatDoor
