/- Arguments that came in: what reads as a plain struct is the cells of one. Printed by wip/gen_types.py (our own). -/
import Derived.Test.YtmpjjmilodjecaaGreatDoorTypes
import Derived.ProofKit
import Derived.OpenShut
import Derived.ShutString
import Derived.ChangeOld
import Derived.SizedLaws
import Derived.Deep.Slices
namespace Go.Proofs.YtmpjjmilodjecaaGreatDoor
open Go.RowKit Go.ChangeShapes Go.WideShapes Go.Deep
set_option linter.unusedVariables false
set_option linter.unusedSimpArgs false

def i64 (n : Int) : Prop := -9223372036854775808 ≤ n ∧ n ≤ 9223372036854775807
theorem i64_wf {n : Int} (h : (Lit.int .i64 n).wf = true) : i64 n := by
  simp [Lit.wf] at h
  unfold i64
  have h1 := h.1; have h2 := h.2
  simp [IntKind.min, IntKind.max, IntKind.bits, IntKind.signed] at h1 h2
  omega
theorem part_step {l : List Value} (o k : Nat) : l.drop o = (l.drop o).take k ++ l.drop (o + k) := by
  rw [← List.drop_drop, List.take_append_drop]
section
variable {H : Type} {enc : TypeId × Value → H} {W : World} {base : Nat} {spare : Nat → Bool} {held : Bool} {fuel : Nat} {cs : List Value} {y : DataW H × List MemPlace}

def Id.ok (x : Id) : Prop := i64 x.node ∧ i64 x.inc ∧ i64 x.seq
set_option maxRecDepth 100000 in
theorem Id.open (h : DataW.trod enc Tryz.prog W base spare held fuel 54 cs = some y) : ∃ x : Id, cs = (Id.arr x).toList ∧ Id.ok x := by
  obtain ⟨ys, n, _, _, hlen, hyl, hf⟩ := DataW.trod_struct Tryz.underlying54 h
  have hyl : ys.length = 3 := hyl
  have hlen : cs.length = 3 := hlen.trans (by kernel_rfl)
  obtain ⟨y0, hy0⟩ : ∃ q, ys[0]? = some q := ⟨_, List.getElem?_eq_getElem (by omega)⟩
  have e0 := (hf 0 _ rfl).trans hy0
  obtain ⟨v0, c0, _, w0⟩ := DataW.trod_int Tryz.underlying3 e0
  have c0 : (cs.drop 0).take 1 = [Value.int .i64 v0] := (congrArg (fun q => (cs.drop 0).take q) (show 1 = Tryz.prog.cellsOf 3 by kernel_rfl)).trans c0
  have d0 := part_step (l := cs) 0 1
  obtain ⟨y1, hy1⟩ : ∃ q, ys[1]? = some q := ⟨_, List.getElem?_eq_getElem (by omega)⟩
  have e1 := (hf 1 _ rfl).trans hy1
  obtain ⟨v1, c1, _, w1⟩ := DataW.trod_int Tryz.underlying3 e1
  have c1 : (cs.drop 1).take 1 = [Value.int .i64 v1] := (congrArg (fun q => (cs.drop 1).take q) (show 1 = Tryz.prog.cellsOf 3 by kernel_rfl)).trans c1
  have d1 := part_step (l := cs) 1 1
  obtain ⟨y2, hy2⟩ : ∃ q, ys[2]? = some q := ⟨_, List.getElem?_eq_getElem (by omega)⟩
  have e2 := (hf 2 _ rfl).trans hy2
  obtain ⟨v2, c2, _, w2⟩ := DataW.trod_int Tryz.underlying3 e2
  have c2 : (cs.drop 2).take 1 = [Value.int .i64 v2] := (congrArg (fun q => (cs.drop 2).take q) (show 1 = Tryz.prog.cellsOf 3 by kernel_rfl)).trans c2
  have d2 := part_step (l := cs) 2 1
  have dz : cs.drop 3 = [] := List.drop_eq_nil_of_le (by omega)
  refine ⟨⟨v0, v1, v2⟩, ?_, i64_wf w0, i64_wf w1, i64_wf w2⟩
  rw [show cs = cs.drop 0 from rfl, d0, c0, d1, c1, d2, c2, dz]
  rfl

def Key.ok (x : Key) : Prop := Id.ok x.id ∧ i64 x.att
set_option maxRecDepth 100000 in
theorem Key.open (h : DataW.trod enc Tryz.prog W base spare held fuel 56 cs = some y) : ∃ x : Key, cs = (Key.arr x).toList ∧ Key.ok x := by
  obtain ⟨ys, n, _, _, hlen, hyl, hf⟩ := DataW.trod_struct Tryz.underlying56 h
  have hyl : ys.length = 2 := hyl
  have hlen : cs.length = 4 := hlen.trans (by kernel_rfl)
  obtain ⟨y0, hy0⟩ : ∃ q, ys[0]? = some q := ⟨_, List.getElem?_eq_getElem (by omega)⟩
  have e0 := (hf 0 _ rfl).trans hy0
  obtain ⟨v0, c0, w0⟩ := Id.open e0
  have c0 : (cs.drop 0).take 3 = (Id.arr v0).toList := (congrArg (fun q => (cs.drop 0).take q) (show 3 = Tryz.prog.cellsOf 54 by kernel_rfl)).trans c0
  have d0 := part_step (l := cs) 0 3
  obtain ⟨y1, hy1⟩ : ∃ q, ys[1]? = some q := ⟨_, List.getElem?_eq_getElem (by omega)⟩
  have e1 := (hf 1 _ rfl).trans hy1
  obtain ⟨v1, c1, _, w1⟩ := DataW.trod_int Tryz.underlying3 e1
  have c1 : (cs.drop 3).take 1 = [Value.int .i64 v1] := (congrArg (fun q => (cs.drop 3).take q) (show 1 = Tryz.prog.cellsOf 3 by kernel_rfl)).trans c1
  have d1 := part_step (l := cs) 3 1
  have dz : cs.drop 4 = [] := List.drop_eq_nil_of_le (by omega)
  refine ⟨⟨v0, v1⟩, ?_, w0, i64_wf w1⟩
  rw [show cs = cs.drop 0 from rfl, d0, c0, d1, c1, dz]
  rfl

def Item.ok (x : Item) : Prop := Key.ok x.key ∧ Key.ok x.parent ∧ Id.ok x.root ∧ i64 x.hop ∧ i64 x.node ∧ i64 x.from_ ∧ i64 x.to_ ∧ i64 x.how ∧ i64 x.code

def Event.ok (x : Event) : Prop := i64 x.kind ∧ i64 x.real ∧ i64 x.node ∧ i64 x.loc ∧ Key.ok x.key ∧ Key.ok x.parent ∧ Id.ok x.root ∧ i64 x.hop ∧ i64 x.code ∧ i64 x.value
set_option maxRecDepth 100000 in
theorem Event.open (h : DataW.trod enc Tryz.prog W base spare held fuel 73 cs = some y) : ∃ x : Event, cs = (Event.arr x).toList ∧ Event.ok x := by
  obtain ⟨ys, n, _, _, hlen, hyl, hf⟩ := DataW.trod_struct Tryz.underlying73 h
  have hyl : ys.length = 10 := hyl
  have hlen : cs.length = 18 := hlen.trans (by kernel_rfl)
  obtain ⟨y0, hy0⟩ : ∃ q, ys[0]? = some q := ⟨_, List.getElem?_eq_getElem (by omega)⟩
  have e0 := (hf 0 _ rfl).trans hy0
  obtain ⟨v0, c0, _, w0⟩ := DataW.trod_int Tryz.underlying3 e0
  have c0 : (cs.drop 0).take 1 = [Value.int .i64 v0] := (congrArg (fun q => (cs.drop 0).take q) (show 1 = Tryz.prog.cellsOf 3 by kernel_rfl)).trans c0
  have d0 := part_step (l := cs) 0 1
  obtain ⟨y1, hy1⟩ : ∃ q, ys[1]? = some q := ⟨_, List.getElem?_eq_getElem (by omega)⟩
  have e1 := (hf 1 _ rfl).trans hy1
  obtain ⟨v1, c1, _, w1⟩ := DataW.trod_int Tryz.underlying3 e1
  have c1 : (cs.drop 1).take 1 = [Value.int .i64 v1] := (congrArg (fun q => (cs.drop 1).take q) (show 1 = Tryz.prog.cellsOf 3 by kernel_rfl)).trans c1
  have d1 := part_step (l := cs) 1 1
  obtain ⟨y2, hy2⟩ : ∃ q, ys[2]? = some q := ⟨_, List.getElem?_eq_getElem (by omega)⟩
  have e2 := (hf 2 _ rfl).trans hy2
  obtain ⟨v2, c2, _, w2⟩ := DataW.trod_int Tryz.underlying3 e2
  have c2 : (cs.drop 2).take 1 = [Value.int .i64 v2] := (congrArg (fun q => (cs.drop 2).take q) (show 1 = Tryz.prog.cellsOf 3 by kernel_rfl)).trans c2
  have d2 := part_step (l := cs) 2 1
  obtain ⟨y3, hy3⟩ : ∃ q, ys[3]? = some q := ⟨_, List.getElem?_eq_getElem (by omega)⟩
  have e3 := (hf 3 _ rfl).trans hy3
  obtain ⟨v3, c3, _, w3⟩ := DataW.trod_int Tryz.underlying3 e3
  have c3 : (cs.drop 3).take 1 = [Value.int .i64 v3] := (congrArg (fun q => (cs.drop 3).take q) (show 1 = Tryz.prog.cellsOf 3 by kernel_rfl)).trans c3
  have d3 := part_step (l := cs) 3 1
  obtain ⟨y4, hy4⟩ : ∃ q, ys[4]? = some q := ⟨_, List.getElem?_eq_getElem (by omega)⟩
  have e4 := (hf 4 _ rfl).trans hy4
  obtain ⟨v4, c4, w4⟩ := Key.open e4
  have c4 : (cs.drop 4).take 4 = (Key.arr v4).toList := (congrArg (fun q => (cs.drop 4).take q) (show 4 = Tryz.prog.cellsOf 56 by kernel_rfl)).trans c4
  have d4 := part_step (l := cs) 4 4
  obtain ⟨y5, hy5⟩ : ∃ q, ys[5]? = some q := ⟨_, List.getElem?_eq_getElem (by omega)⟩
  have e5 := (hf 5 _ rfl).trans hy5
  obtain ⟨v5, c5, w5⟩ := Key.open e5
  have c5 : (cs.drop 8).take 4 = (Key.arr v5).toList := (congrArg (fun q => (cs.drop 8).take q) (show 4 = Tryz.prog.cellsOf 56 by kernel_rfl)).trans c5
  have d5 := part_step (l := cs) 8 4
  obtain ⟨y6, hy6⟩ : ∃ q, ys[6]? = some q := ⟨_, List.getElem?_eq_getElem (by omega)⟩
  have e6 := (hf 6 _ rfl).trans hy6
  obtain ⟨v6, c6, w6⟩ := Id.open e6
  have c6 : (cs.drop 12).take 3 = (Id.arr v6).toList := (congrArg (fun q => (cs.drop 12).take q) (show 3 = Tryz.prog.cellsOf 54 by kernel_rfl)).trans c6
  have d6 := part_step (l := cs) 12 3
  obtain ⟨y7, hy7⟩ : ∃ q, ys[7]? = some q := ⟨_, List.getElem?_eq_getElem (by omega)⟩
  have e7 := (hf 7 _ rfl).trans hy7
  obtain ⟨v7, c7, _, w7⟩ := DataW.trod_int Tryz.underlying3 e7
  have c7 : (cs.drop 15).take 1 = [Value.int .i64 v7] := (congrArg (fun q => (cs.drop 15).take q) (show 1 = Tryz.prog.cellsOf 3 by kernel_rfl)).trans c7
  have d7 := part_step (l := cs) 15 1
  obtain ⟨y8, hy8⟩ : ∃ q, ys[8]? = some q := ⟨_, List.getElem?_eq_getElem (by omega)⟩
  have e8 := (hf 8 _ rfl).trans hy8
  obtain ⟨v8, c8, _, w8⟩ := DataW.trod_int Tryz.underlying3 e8
  have c8 : (cs.drop 16).take 1 = [Value.int .i64 v8] := (congrArg (fun q => (cs.drop 16).take q) (show 1 = Tryz.prog.cellsOf 3 by kernel_rfl)).trans c8
  have d8 := part_step (l := cs) 16 1
  obtain ⟨y9, hy9⟩ : ∃ q, ys[9]? = some q := ⟨_, List.getElem?_eq_getElem (by omega)⟩
  have e9 := (hf 9 _ rfl).trans hy9
  obtain ⟨v9, c9, _, w9⟩ := DataW.trod_int Tryz.underlying3 e9
  have c9 : (cs.drop 17).take 1 = [Value.int .i64 v9] := (congrArg (fun q => (cs.drop 17).take q) (show 1 = Tryz.prog.cellsOf 3 by kernel_rfl)).trans c9
  have d9 := part_step (l := cs) 17 1
  have dz : cs.drop 18 = [] := List.drop_eq_nil_of_le (by omega)
  refine ⟨⟨v0, v1, v2, v3, v4, v5, v6, v7, v8, v9⟩, ?_, i64_wf w0, i64_wf w1, i64_wf w2, i64_wf w3, w4, w5, w6, i64_wf w7, i64_wf w8, i64_wf w9⟩
  rw [show cs = cs.drop 0 from rfl, d0, c0, d1, c1, d2, c2, d3, c3, d4, c4, d5, c5, d6, c6, d7, c7, d8, c8, d9, c9, dz]
  rfl

def Packet.ok (x : Packet) : Prop := i64 x.kind ∧ i64 x.src ∧ i64 x.dst ∧ Key.ok x.key ∧ i64 x.hop ∧ i64 x.stamp ∧ x.timeout.size ≤ maxLen ∧ i64 x.until_ ∧ i64 x.program ∧ Id.ok x.root ∧ Key.ok x.parent ∧ i64 x.code ∧ i64 x.value ∧ i64 x.delay
set_option maxRecDepth 100000 in
theorem Packet.open (h : DataW.trod enc Tryz.prog W base spare held fuel 58 cs = some y) : ∃ x : Packet, cs = (Packet.arr x).toList ∧ Packet.ok x := by
  obtain ⟨ys, n, _, _, hlen, hyl, hf⟩ := DataW.trod_struct Tryz.underlying58 h
  have hyl : ys.length = 15 := hyl
  have hlen : cs.length = 23 := hlen.trans (by kernel_rfl)
  obtain ⟨y0, hy0⟩ : ∃ q, ys[0]? = some q := ⟨_, List.getElem?_eq_getElem (by omega)⟩
  have e0 := (hf 0 _ rfl).trans hy0
  obtain ⟨v0, c0, _, w0⟩ := DataW.trod_int Tryz.underlying3 e0
  have c0 : (cs.drop 0).take 1 = [Value.int .i64 v0] := (congrArg (fun q => (cs.drop 0).take q) (show 1 = Tryz.prog.cellsOf 3 by kernel_rfl)).trans c0
  have d0 := part_step (l := cs) 0 1
  obtain ⟨y1, hy1⟩ : ∃ q, ys[1]? = some q := ⟨_, List.getElem?_eq_getElem (by omega)⟩
  have e1 := (hf 1 _ rfl).trans hy1
  obtain ⟨v1, c1, _, w1⟩ := DataW.trod_int Tryz.underlying3 e1
  have c1 : (cs.drop 1).take 1 = [Value.int .i64 v1] := (congrArg (fun q => (cs.drop 1).take q) (show 1 = Tryz.prog.cellsOf 3 by kernel_rfl)).trans c1
  have d1 := part_step (l := cs) 1 1
  obtain ⟨y2, hy2⟩ : ∃ q, ys[2]? = some q := ⟨_, List.getElem?_eq_getElem (by omega)⟩
  have e2 := (hf 2 _ rfl).trans hy2
  obtain ⟨v2, c2, _, w2⟩ := DataW.trod_int Tryz.underlying3 e2
  have c2 : (cs.drop 2).take 1 = [Value.int .i64 v2] := (congrArg (fun q => (cs.drop 2).take q) (show 1 = Tryz.prog.cellsOf 3 by kernel_rfl)).trans c2
  have d2 := part_step (l := cs) 2 1
  obtain ⟨y3, hy3⟩ : ∃ q, ys[3]? = some q := ⟨_, List.getElem?_eq_getElem (by omega)⟩
  have e3 := (hf 3 _ rfl).trans hy3
  obtain ⟨v3, c3, w3⟩ := Key.open e3
  have c3 : (cs.drop 3).take 4 = (Key.arr v3).toList := (congrArg (fun q => (cs.drop 3).take q) (show 4 = Tryz.prog.cellsOf 56 by kernel_rfl)).trans c3
  have d3 := part_step (l := cs) 3 4
  obtain ⟨y4, hy4⟩ : ∃ q, ys[4]? = some q := ⟨_, List.getElem?_eq_getElem (by omega)⟩
  have e4 := (hf 4 _ rfl).trans hy4
  obtain ⟨v4, c4, _, w4⟩ := DataW.trod_int Tryz.underlying3 e4
  have c4 : (cs.drop 7).take 1 = [Value.int .i64 v4] := (congrArg (fun q => (cs.drop 7).take q) (show 1 = Tryz.prog.cellsOf 3 by kernel_rfl)).trans c4
  have d4 := part_step (l := cs) 7 1
  obtain ⟨y5, hy5⟩ : ∃ q, ys[5]? = some q := ⟨_, List.getElem?_eq_getElem (by omega)⟩
  have e5 := (hf 5 _ rfl).trans hy5
  obtain ⟨v5, c5, _, w5⟩ := DataW.trod_int Tryz.underlying3 e5
  have c5 : (cs.drop 8).take 1 = [Value.int .i64 v5] := (congrArg (fun q => (cs.drop 8).take q) (show 1 = Tryz.prog.cellsOf 3 by kernel_rfl)).trans c5
  have d5 := part_step (l := cs) 8 1
  obtain ⟨y6, hy6⟩ : ∃ q, ys[6]? = some q := ⟨_, List.getElem?_eq_getElem (by omega)⟩
  have e6 := (hf 6 _ rfl).trans hy6
  obtain ⟨v6, c6, _, w6⟩ := DataW.trod_string Tryz.underlying9 e6
  have c6 : (cs.drop 9).take 1 = [Value.string v6] := (congrArg (fun q => (cs.drop 9).take q) (show 1 = Tryz.prog.cellsOf 9 by kernel_rfl)).trans c6
  have d6 := part_step (l := cs) 9 1
  obtain ⟨y7, hy7⟩ : ∃ q, ys[7]? = some q := ⟨_, List.getElem?_eq_getElem (by omega)⟩
  have e7 := (hf 7 _ rfl).trans hy7
  obtain ⟨v7, c7, _, w7⟩ := DataW.trod_int Tryz.underlying3 e7
  have c7 : (cs.drop 10).take 1 = [Value.int .i64 v7] := (congrArg (fun q => (cs.drop 10).take q) (show 1 = Tryz.prog.cellsOf 3 by kernel_rfl)).trans c7
  have d7 := part_step (l := cs) 10 1
  obtain ⟨y8, hy8⟩ : ∃ q, ys[8]? = some q := ⟨_, List.getElem?_eq_getElem (by omega)⟩
  have e8 := (hf 8 _ rfl).trans hy8
  obtain ⟨v8, c8, _, w8⟩ := DataW.trod_int Tryz.underlying3 e8
  have c8 : (cs.drop 11).take 1 = [Value.int .i64 v8] := (congrArg (fun q => (cs.drop 11).take q) (show 1 = Tryz.prog.cellsOf 3 by kernel_rfl)).trans c8
  have d8 := part_step (l := cs) 11 1
  obtain ⟨y9, hy9⟩ : ∃ q, ys[9]? = some q := ⟨_, List.getElem?_eq_getElem (by omega)⟩
  have e9 := (hf 9 _ rfl).trans hy9
  obtain ⟨v9, c9, w9⟩ := Id.open e9
  have c9 : (cs.drop 12).take 3 = (Id.arr v9).toList := (congrArg (fun q => (cs.drop 12).take q) (show 3 = Tryz.prog.cellsOf 54 by kernel_rfl)).trans c9
  have d9 := part_step (l := cs) 12 3
  obtain ⟨y10, hy10⟩ : ∃ q, ys[10]? = some q := ⟨_, List.getElem?_eq_getElem (by omega)⟩
  have e10 := (hf 10 _ rfl).trans hy10
  obtain ⟨v10, c10, w10⟩ := Key.open e10
  have c10 : (cs.drop 15).take 4 = (Key.arr v10).toList := (congrArg (fun q => (cs.drop 15).take q) (show 4 = Tryz.prog.cellsOf 56 by kernel_rfl)).trans c10
  have d10 := part_step (l := cs) 15 4
  obtain ⟨y11, hy11⟩ : ∃ q, ys[11]? = some q := ⟨_, List.getElem?_eq_getElem (by omega)⟩
  have e11 := (hf 11 _ rfl).trans hy11
  obtain ⟨v11, c11, _, w11⟩ := DataW.trod_int Tryz.underlying3 e11
  have c11 : (cs.drop 19).take 1 = [Value.int .i64 v11] := (congrArg (fun q => (cs.drop 19).take q) (show 1 = Tryz.prog.cellsOf 3 by kernel_rfl)).trans c11
  have d11 := part_step (l := cs) 19 1
  obtain ⟨y12, hy12⟩ : ∃ q, ys[12]? = some q := ⟨_, List.getElem?_eq_getElem (by omega)⟩
  have e12 := (hf 12 _ rfl).trans hy12
  obtain ⟨v12, c12, _, w12⟩ := DataW.trod_int Tryz.underlying3 e12
  have c12 : (cs.drop 20).take 1 = [Value.int .i64 v12] := (congrArg (fun q => (cs.drop 20).take q) (show 1 = Tryz.prog.cellsOf 3 by kernel_rfl)).trans c12
  have d12 := part_step (l := cs) 20 1
  obtain ⟨y13, hy13⟩ : ∃ q, ys[13]? = some q := ⟨_, List.getElem?_eq_getElem (by omega)⟩
  have e13 := (hf 13 _ rfl).trans hy13
  obtain ⟨v13, c13, _⟩ := DataW.trod_bool Tryz.underlying4 e13
  have c13 : (cs.drop 21).take 1 = [Value.bool v13] := (congrArg (fun q => (cs.drop 21).take q) (show 1 = Tryz.prog.cellsOf 4 by kernel_rfl)).trans c13
  have d13 := part_step (l := cs) 21 1
  obtain ⟨y14, hy14⟩ : ∃ q, ys[14]? = some q := ⟨_, List.getElem?_eq_getElem (by omega)⟩
  have e14 := (hf 14 _ rfl).trans hy14
  obtain ⟨v14, c14, _, w14⟩ := DataW.trod_int Tryz.underlying3 e14
  have c14 : (cs.drop 22).take 1 = [Value.int .i64 v14] := (congrArg (fun q => (cs.drop 22).take q) (show 1 = Tryz.prog.cellsOf 3 by kernel_rfl)).trans c14
  have d14 := part_step (l := cs) 22 1
  have dz : cs.drop 23 = [] := List.drop_eq_nil_of_le (by omega)
  refine ⟨⟨v0, v1, v2, v3, v4, v5, v6, v7, v8, v9, v10, v11, v12, v13, v14⟩, ?_, i64_wf w0, i64_wf w1, i64_wf w2, w3, i64_wf w4, i64_wf w5, w6, i64_wf w7, i64_wf w8, w9, w10, i64_wf w11, i64_wf w12, i64_wf w14⟩
  rw [show cs = cs.drop 0 from rfl, d0, c0, d1, c1, d2, c2, d3, c3, d4, c4, d5, c5, d6, c6, d7, c7, d8, c8, d9, c9, d10, c10, d11, c11, d12, c12, d13, c13, d14, c14, dz]
  rfl

def GoOp.ok (x : GoOp) : Prop := i64 x.kind ∧ i64 x.a ∧ i64 x.b
set_option maxRecDepth 100000 in
theorem GoOp.open (h : DataW.trod enc Tryz.prog W base spare held fuel 110 cs = some y) : ∃ x : GoOp, cs = (GoOp.arr x).toList ∧ GoOp.ok x := by
  obtain ⟨ys, n, _, _, hlen, hyl, hf⟩ := DataW.trod_struct Tryz.underlying110 h
  have hyl : ys.length = 3 := hyl
  have hlen : cs.length = 3 := hlen.trans (by kernel_rfl)
  obtain ⟨y0, hy0⟩ : ∃ q, ys[0]? = some q := ⟨_, List.getElem?_eq_getElem (by omega)⟩
  have e0 := (hf 0 _ rfl).trans hy0
  obtain ⟨v0, c0, _, w0⟩ := DataW.trod_int Tryz.underlying3 e0
  have c0 : (cs.drop 0).take 1 = [Value.int .i64 v0] := (congrArg (fun q => (cs.drop 0).take q) (show 1 = Tryz.prog.cellsOf 3 by kernel_rfl)).trans c0
  have d0 := part_step (l := cs) 0 1
  obtain ⟨y1, hy1⟩ : ∃ q, ys[1]? = some q := ⟨_, List.getElem?_eq_getElem (by omega)⟩
  have e1 := (hf 1 _ rfl).trans hy1
  obtain ⟨v1, c1, _, w1⟩ := DataW.trod_int Tryz.underlying3 e1
  have c1 : (cs.drop 1).take 1 = [Value.int .i64 v1] := (congrArg (fun q => (cs.drop 1).take q) (show 1 = Tryz.prog.cellsOf 3 by kernel_rfl)).trans c1
  have d1 := part_step (l := cs) 1 1
  obtain ⟨y2, hy2⟩ : ∃ q, ys[2]? = some q := ⟨_, List.getElem?_eq_getElem (by omega)⟩
  have e2 := (hf 2 _ rfl).trans hy2
  obtain ⟨v2, c2, _, w2⟩ := DataW.trod_int Tryz.underlying3 e2
  have c2 : (cs.drop 2).take 1 = [Value.int .i64 v2] := (congrArg (fun q => (cs.drop 2).take q) (show 1 = Tryz.prog.cellsOf 3 by kernel_rfl)).trans c2
  have d2 := part_step (l := cs) 2 1
  have dz : cs.drop 3 = [] := List.drop_eq_nil_of_le (by omega)
  refine ⟨⟨v0, v1, v2⟩, ?_, i64_wf w0, i64_wf w1, i64_wf w2⟩
  rw [show cs = cs.drop 0 from rfl, d0, c0, d1, c1, d2, c2, dz]
  rfl

def Config.ok (x : Config) : Prop := i64 x.nodes ∧ i64 x.skew ∧ i64 x.lease ∧ i64 x.grain ∧ i64 x.least ∧ i64 x.hops ∧ i64 x.cap ∧ i64 x.fan ∧ i64 x.attempts ∧ i64 x.base ∧ i64 x.most ∧ i64 x.wait ∧ i64 x.tokens
set_option maxRecDepth 100000 in
theorem Config.open (h : DataW.trod enc Tryz.prog W base spare held fuel 29 cs = some y) : ∃ x : Config, cs = (Config.arr x).toList ∧ Config.ok x ∧ ∃ fuel y, DataW.trod enc Tryz.prog W base spare held fuel 27 [x.progs] = some y := by
  obtain ⟨ys, n, _, _, hlen, hyl, hf⟩ := DataW.trod_struct Tryz.underlying29 h
  have hyl : ys.length = 14 := hyl
  have hlen : cs.length = 14 := hlen.trans (by kernel_rfl)
  obtain ⟨y0, hy0⟩ : ∃ q, ys[0]? = some q := ⟨_, List.getElem?_eq_getElem (by omega)⟩
  have e0 := (hf 0 _ rfl).trans hy0
  obtain ⟨v0, c0, _, w0⟩ := DataW.trod_int Tryz.underlying3 e0
  have c0 : (cs.drop 0).take 1 = [Value.int .i64 v0] := (congrArg (fun q => (cs.drop 0).take q) (show 1 = Tryz.prog.cellsOf 3 by kernel_rfl)).trans c0
  have d0 := part_step (l := cs) 0 1
  obtain ⟨y1, hy1⟩ : ∃ q, ys[1]? = some q := ⟨_, List.getElem?_eq_getElem (by omega)⟩
  have e1 := (hf 1 _ rfl).trans hy1
  obtain ⟨v1, c1, _, w1⟩ := DataW.trod_int Tryz.underlying3 e1
  have c1 : (cs.drop 1).take 1 = [Value.int .i64 v1] := (congrArg (fun q => (cs.drop 1).take q) (show 1 = Tryz.prog.cellsOf 3 by kernel_rfl)).trans c1
  have d1 := part_step (l := cs) 1 1
  obtain ⟨y2, hy2⟩ : ∃ q, ys[2]? = some q := ⟨_, List.getElem?_eq_getElem (by omega)⟩
  have e2 := (hf 2 _ rfl).trans hy2
  obtain ⟨v2, c2, _, w2⟩ := DataW.trod_int Tryz.underlying3 e2
  have c2 : (cs.drop 2).take 1 = [Value.int .i64 v2] := (congrArg (fun q => (cs.drop 2).take q) (show 1 = Tryz.prog.cellsOf 3 by kernel_rfl)).trans c2
  have d2 := part_step (l := cs) 2 1
  obtain ⟨y3, hy3⟩ : ∃ q, ys[3]? = some q := ⟨_, List.getElem?_eq_getElem (by omega)⟩
  have e3 := (hf 3 _ rfl).trans hy3
  obtain ⟨v3, c3, _, w3⟩ := DataW.trod_int Tryz.underlying3 e3
  have c3 : (cs.drop 3).take 1 = [Value.int .i64 v3] := (congrArg (fun q => (cs.drop 3).take q) (show 1 = Tryz.prog.cellsOf 3 by kernel_rfl)).trans c3
  have d3 := part_step (l := cs) 3 1
  obtain ⟨y4, hy4⟩ : ∃ q, ys[4]? = some q := ⟨_, List.getElem?_eq_getElem (by omega)⟩
  have e4 := (hf 4 _ rfl).trans hy4
  obtain ⟨v4, c4, _, w4⟩ := DataW.trod_int Tryz.underlying3 e4
  have c4 : (cs.drop 4).take 1 = [Value.int .i64 v4] := (congrArg (fun q => (cs.drop 4).take q) (show 1 = Tryz.prog.cellsOf 3 by kernel_rfl)).trans c4
  have d4 := part_step (l := cs) 4 1
  obtain ⟨y5, hy5⟩ : ∃ q, ys[5]? = some q := ⟨_, List.getElem?_eq_getElem (by omega)⟩
  have e5 := (hf 5 _ rfl).trans hy5
  obtain ⟨v5, c5, _, w5⟩ := DataW.trod_int Tryz.underlying3 e5
  have c5 : (cs.drop 5).take 1 = [Value.int .i64 v5] := (congrArg (fun q => (cs.drop 5).take q) (show 1 = Tryz.prog.cellsOf 3 by kernel_rfl)).trans c5
  have d5 := part_step (l := cs) 5 1
  obtain ⟨y6, hy6⟩ : ∃ q, ys[6]? = some q := ⟨_, List.getElem?_eq_getElem (by omega)⟩
  have e6 := (hf 6 _ rfl).trans hy6
  obtain ⟨v6, c6, _, w6⟩ := DataW.trod_int Tryz.underlying3 e6
  have c6 : (cs.drop 6).take 1 = [Value.int .i64 v6] := (congrArg (fun q => (cs.drop 6).take q) (show 1 = Tryz.prog.cellsOf 3 by kernel_rfl)).trans c6
  have d6 := part_step (l := cs) 6 1
  obtain ⟨y7, hy7⟩ : ∃ q, ys[7]? = some q := ⟨_, List.getElem?_eq_getElem (by omega)⟩
  have e7 := (hf 7 _ rfl).trans hy7
  obtain ⟨v7, c7, _, w7⟩ := DataW.trod_int Tryz.underlying3 e7
  have c7 : (cs.drop 7).take 1 = [Value.int .i64 v7] := (congrArg (fun q => (cs.drop 7).take q) (show 1 = Tryz.prog.cellsOf 3 by kernel_rfl)).trans c7
  have d7 := part_step (l := cs) 7 1
  obtain ⟨y8, hy8⟩ : ∃ q, ys[8]? = some q := ⟨_, List.getElem?_eq_getElem (by omega)⟩
  have e8 := (hf 8 _ rfl).trans hy8
  obtain ⟨v8, c8, _, w8⟩ := DataW.trod_int Tryz.underlying3 e8
  have c8 : (cs.drop 8).take 1 = [Value.int .i64 v8] := (congrArg (fun q => (cs.drop 8).take q) (show 1 = Tryz.prog.cellsOf 3 by kernel_rfl)).trans c8
  have d8 := part_step (l := cs) 8 1
  obtain ⟨y9, hy9⟩ : ∃ q, ys[9]? = some q := ⟨_, List.getElem?_eq_getElem (by omega)⟩
  have e9 := (hf 9 _ rfl).trans hy9
  obtain ⟨v9, c9, _, w9⟩ := DataW.trod_int Tryz.underlying3 e9
  have c9 : (cs.drop 9).take 1 = [Value.int .i64 v9] := (congrArg (fun q => (cs.drop 9).take q) (show 1 = Tryz.prog.cellsOf 3 by kernel_rfl)).trans c9
  have d9 := part_step (l := cs) 9 1
  obtain ⟨y10, hy10⟩ : ∃ q, ys[10]? = some q := ⟨_, List.getElem?_eq_getElem (by omega)⟩
  have e10 := (hf 10 _ rfl).trans hy10
  obtain ⟨v10, c10, _, w10⟩ := DataW.trod_int Tryz.underlying3 e10
  have c10 : (cs.drop 10).take 1 = [Value.int .i64 v10] := (congrArg (fun q => (cs.drop 10).take q) (show 1 = Tryz.prog.cellsOf 3 by kernel_rfl)).trans c10
  have d10 := part_step (l := cs) 10 1
  obtain ⟨y11, hy11⟩ : ∃ q, ys[11]? = some q := ⟨_, List.getElem?_eq_getElem (by omega)⟩
  have e11 := (hf 11 _ rfl).trans hy11
  obtain ⟨v11, c11, _, w11⟩ := DataW.trod_int Tryz.underlying3 e11
  have c11 : (cs.drop 11).take 1 = [Value.int .i64 v11] := (congrArg (fun q => (cs.drop 11).take q) (show 1 = Tryz.prog.cellsOf 3 by kernel_rfl)).trans c11
  have d11 := part_step (l := cs) 11 1
  obtain ⟨y12, hy12⟩ : ∃ q, ys[12]? = some q := ⟨_, List.getElem?_eq_getElem (by omega)⟩
  have e12 := (hf 12 _ rfl).trans hy12
  obtain ⟨v12, c12, _, w12⟩ := DataW.trod_int Tryz.underlying3 e12
  have c12 : (cs.drop 12).take 1 = [Value.int .i64 v12] := (congrArg (fun q => (cs.drop 12).take q) (show 1 = Tryz.prog.cellsOf 3 by kernel_rfl)).trans c12
  have d12 := part_step (l := cs) 12 1
  obtain ⟨y13, hy13⟩ : ∃ q, ys[13]? = some q := ⟨_, List.getElem?_eq_getElem (by omega)⟩
  have e13 := (hf 13 _ rfl).trans hy13
  obtain ⟨v13, c13⟩ : ∃ v, (cs.drop 13).take 1 = [v] := List.length_eq_one_iff.1 (by rw [List.length_take, List.length_drop]; omega)
  have d13 := part_step (l := cs) 13 1
  have dz : cs.drop 14 = [] := List.drop_eq_nil_of_le (by omega)
  refine ⟨⟨v0, v1, v2, v3, v4, v5, v6, v7, v8, v9, v10, v11, v12, v13⟩, ?_, ⟨i64_wf w0, i64_wf w1, i64_wf w2, i64_wf w3, i64_wf w4, i64_wf w5, i64_wf w6, i64_wf w7, i64_wf w8, i64_wf w9, i64_wf w10, i64_wf w11, i64_wf w12⟩, n, y13, (by rw [← c13]; exact e13)⟩
  rw [show cs = cs.drop 0 from rfl, d0, c0, d1, c1, d2, c2, d3, c3, d4, c4, d5, c5, d6, c6, d7, c7, d8, c8, d9, c9, d10, c10, d11, c11, d12, c12, d13, c13, dz]
  rfl

def Room.ok (x : Room) : Prop := i64 x.now ∧ i64 x.running ∧ i64 x.programs
set_option maxRecDepth 100000 in
theorem Room.open (h : DataW.trod enc Tryz.prog W base spare held fuel 260 cs = some y) : ∃ x : Room, cs = (Room.arr x).toList ∧ Room.ok x := by
  obtain ⟨ys, n, _, _, hlen, hyl, hf⟩ := DataW.trod_struct Tryz.underlying260 h
  have hyl : ys.length = 4 := hyl
  have hlen : cs.length = 4 := hlen.trans (by kernel_rfl)
  obtain ⟨y0, hy0⟩ : ∃ q, ys[0]? = some q := ⟨_, List.getElem?_eq_getElem (by omega)⟩
  have e0 := (hf 0 _ rfl).trans hy0
  obtain ⟨v0, c0, _, w0⟩ := DataW.trod_int Tryz.underlying3 e0
  have c0 : (cs.drop 0).take 1 = [Value.int .i64 v0] := (congrArg (fun q => (cs.drop 0).take q) (show 1 = Tryz.prog.cellsOf 3 by kernel_rfl)).trans c0
  have d0 := part_step (l := cs) 0 1
  obtain ⟨y1, hy1⟩ : ∃ q, ys[1]? = some q := ⟨_, List.getElem?_eq_getElem (by omega)⟩
  have e1 := (hf 1 _ rfl).trans hy1
  obtain ⟨v1, c1, _, w1⟩ := DataW.trod_int Tryz.underlying3 e1
  have c1 : (cs.drop 1).take 1 = [Value.int .i64 v1] := (congrArg (fun q => (cs.drop 1).take q) (show 1 = Tryz.prog.cellsOf 3 by kernel_rfl)).trans c1
  have d1 := part_step (l := cs) 1 1
  obtain ⟨y2, hy2⟩ : ∃ q, ys[2]? = some q := ⟨_, List.getElem?_eq_getElem (by omega)⟩
  have e2 := (hf 2 _ rfl).trans hy2
  obtain ⟨v2, c2, _, w2⟩ := DataW.trod_int Tryz.underlying3 e2
  have c2 : (cs.drop 2).take 1 = [Value.int .i64 v2] := (congrArg (fun q => (cs.drop 2).take q) (show 1 = Tryz.prog.cellsOf 3 by kernel_rfl)).trans c2
  have d2 := part_step (l := cs) 2 1
  obtain ⟨y3, hy3⟩ : ∃ q, ys[3]? = some q := ⟨_, List.getElem?_eq_getElem (by omega)⟩
  have e3 := (hf 3 _ rfl).trans hy3
  obtain ⟨v3, c3, _⟩ := DataW.trod_bool Tryz.underlying4 e3
  have c3 : (cs.drop 3).take 1 = [Value.bool v3] := (congrArg (fun q => (cs.drop 3).take q) (show 1 = Tryz.prog.cellsOf 4 by kernel_rfl)).trans c3
  have d3 := part_step (l := cs) 3 1
  have dz : cs.drop 4 = [] := List.drop_eq_nil_of_le (by omega)
  refine ⟨⟨v0, v1, v2, v3⟩, ?_, i64_wf w0, i64_wf w1, i64_wf w2⟩
  rw [show cs = cs.drop 0 from rfl, d0, c0, d1, c1, d2, c2, d3, c3, dz]
  rfl

def Seg.ok (x : Seg) : Prop := i64 x.at_ ∧ i64 x.from_ ∧ i64 x.to_

def Find.ok (x : Find) : Prop := i64 x.kind ∧ i64 x.at_

def Step.ok (x : Step) : Prop := i64 x.kind ∧ i64 x.a ∧ i64 x.b ∧ i64 x.c ∧ i64 x.d

def Plan.ok (x : Plan) : Prop := i64 x.calls ∧ i64 x.rounds ∧ i64 x.value

end
end Go.Proofs.YtmpjjmilodjecaaGreatDoor
