/- Words of our own on the world: rows of cells read whole; small facts. -/
import Derived.Test.YtmpjjmilodjecaaGreatDoorProg
import Derived.WalkKit
import Derived.WalkSpells
import Derived.WalkLawsBesides
import Derived.Lib.Hide
import Derived.KernelRfl
import Derived.Deep.QuietTactic
import Derived.BigQuiet
import Derived.Deep.Draws
import Derived.Maps.AppendAt
namespace Go.Proofs.YtmpjjmilodjecaaGreatDoor
open Go.RowKit

theorem quiet_add_left {P : Program} {f : FuncId} {args : Array Value} {w : World} {a n : Nat} {v : Value}
    (h : Calls P f args (w.drewN (a + n)) fun e w' => e = .returned v ∧ w.drewN (a + n) = w') :
    Calls P f args (w.drewN (a + n)) fun e w'' => e = .returned v ∧ ∃ m, w'' = w.drewN (a + m) :=
  h.mono fun _ _ ⟨he, hm⟩ => ⟨he, n, hm.symm⟩
theorem quiet_left {P : Program} {f : FuncId} {args : Array Value} {w : World} {n : Nat} {v : Value}
    (h : Calls P f args (w.drewN n) fun e w' => e = .returned v ∧ w.drewN n = w') : Calls P f args (w.drewN n) fun e w'' => e = .returned v ∧ ∃ m, w'' = w.drewN m :=
  h.mono fun _ _ ⟨he, hm⟩ => ⟨he, n, hm.symm⟩
theorem below_drewN {B : Nat} {a w : World} (h : Below B a w) (n : Nat) : Below B a (w.drewN n) := ⟨h.os, h.tape, h.output, h.size, h.block⟩
theorem bcell {W w1 : World} (hb : Below W.heap.size W w1) : (∀ b o, b < W.heap.size → w1.cell? ⟨b, o, none⟩ = W.cell? ⟨b, o, none⟩) ∧ (∀ b o, b < W.heap.size → w1.frozen? ⟨b, o, none⟩ = W.frozen? ⟨b, o, none⟩) :=
  ⟨fun b o h => hb.cell (p := ⟨b, o, none⟩) h, fun b o h => hb.frozen (p := ⟨b, o, none⟩) h⟩
theorem bthen {a b c : World} (h : Below a.heap.size a b) (k : Below b.heap.size b c) : Below a.heap.size a c := h.trans (k.mono h.size)
theorem ret_int {k : IntKind} {a b : Int} (h : a = b) : Ending.returned (.int k a) = .returned (.int k b) := by rw [h]
theorem ret_bool {a b : Bool} (h : a = b) : Ending.returned (.bool a) = .returned (.bool b) := by rw [h]
theorem ret_ii {a b : Int} {p : Int × Int} (h : p = (a, b)) : Ending.returned (.tuple #[.int .i64 a, .int .i64 b]) = .returned (.tuple #[.int .i64 p.1, .int .i64 p.2]) := by rw [h]

/-- The n cells from place o of block g on. -/
def rowAt (w : World) (g o n : Nat) : Option (Array Value) :=
  match w.heap[g]? with
  | some (.cells c _ _) => if o + n ≤ c.size then some (c.extract o (o + n)) else none
  | _ => none
theorem rowAt_cell {w : World} {g o n : Nat} {cs : Array Value} (h : rowAt w g o n = some cs) (j : Nat) (hj : j < n) : w.cell? ⟨g, o + j, none⟩ = cs[j]? := by
  unfold rowAt at h
  split at h
  · rename_i c t fr hh
    split at h
    · rename_i hle
      injection h with h
      subst h
      simp only [World.cell?, hh]
      simp [Nat.min_eq_left hle, hj]
    · cases h
  · cases h
theorem rowAt_size {w : World} {g o n : Nat} {cs : Array Value} (h : rowAt w g o n = some cs) : cs.size = n := by
  unfold rowAt at h
  split at h
  · split at h
    · rename_i hle
      injection h with h
      subst h
      simp [Nat.min_eq_left hle]
    · cases h
  · cases h
theorem rowAt_lt {w : World} {g o n : Nat} {cs : Array Value} (h : rowAt w g o n = some cs) : g < w.heap.size := by
  unfold rowAt at h
  split at h
  · rename_i hh; exact (Array.getElem?_eq_some_iff.1 hh).1
  · cases h
theorem rowAt_block {w w1 : World} {g o n : Nat} (h : w1.heap[g]? = w.heap[g]?) : rowAt w1 g o n = rowAt w g o n := by unfold rowAt; rw [h]
theorem rowAt_below {w w1 : World} (hb : Below w.heap.size w w1) (g o n : Nat) (h : g < w.heap.size) : rowAt w1 g o n = rowAt w g o n := rowAt_block (hb.block g h)
theorem rowAt_drew (w : World) (g o n : Nat) : rowAt w.drew g o n = rowAt w g o n := rfl
theorem rowAt_drewN (w : World) (g o n m : Nat) : rowAt (w.drewN m) g o n = rowAt w g o n := rfl
theorem rowAt_alloc_old (w : World) (x : Obj) (g o n : Nat) (h : g < w.heap.size) : rowAt (w.alloc x) g o n = rowAt w g o n := rowAt_block (Below.heap_alloc w x g h)
theorem rowAt_new (w : World) (c : Array Value) (t : TypeId) (fr : Nat × Nat) (g : Nat) (hg : g = w.heap.size) : rowAt (w.alloc (.cells c t fr)) g 0 c.size = some c := by
  subst hg
  unfold rowAt
  rw [heap_alloc_new]
  simp
theorem rowAt_new_part (w : World) (c : Array Value) (t : TypeId) (fr : Nat × Nat) (g o n : Nat) (hg : g = w.heap.size) (h : o + n ≤ c.size) : rowAt (w.alloc (.cells c t fr)) g o n = some (c.extract o (o + n)) := by
  subst hg
  unfold rowAt
  rw [heap_alloc_new]
  simp [h]
theorem rowAt_setCell_other (w : World) (a : Addr) (v : Value) (g o n : Nat) (h : g ≠ a.block) : rowAt (w.setCell a v) g o n = rowAt w g o n := rowAt_block (Below.heap_setCell w a v g h)

theorem rowAt_setCell_same {w : World} {g o n : Nat} {cs : Array Value} (h : rowAt w g o n = some cs) (j : Nat) (v : Value) (hj : j < n) : rowAt (w.setCell ⟨g, o + j, none⟩ v) g o n = some (cs.setIfInBounds j v) := by
  unfold rowAt at h ⊢
  simp only [World.setCell, Array.getElem?_modify]
  cases hh : w.heap[g]? with
  | none => simp [hh] at h
  | some x =>
    cases x with
    | cells c t fr =>
      simp only [hh] at h
      split at h
      · rename_i hle
        injection h with h
        subst h
        simp only [if_true, Option.map_some, Option.isSome_none, Bool.false_eq_true, if_false, Array.size_setIfInBounds, if_pos hle]
        congr 1
        apply Array.ext_getElem?
        intro i
        simp only [Array.getElem?_extract, Array.getElem?_setIfInBounds, Array.size_extract, Nat.min_eq_left hle]
        by_cases hi : i < n
        · by_cases hij : j = i
          · subst hij; simp [hi, show o + j < c.size by omega, Nat.min_eq_left hle]
          · simp [hi, hij, Nat.min_eq_left hle]
        · simp [hi, Nat.min_eq_left hle]; intro hij; omega
      · cases h
    | _ => simp [hh] at h
theorem rowAt_part {w : World} {g o n : Nat} {cs : Array Value} (h : rowAt w g o n = some cs) (j m : Nat) (hj : j + m ≤ n) : rowAt w g (o + j) m = some (cs.extract j (j + m)) := by
  unfold rowAt at h ⊢
  split at h
  · split at h
    · rename_i hle
      injection h with h
      subst h
      rw [if_pos (by omega)]
      congr 1
      rw [Array.extract_extract]
      congr 1 <;> omega
    · cases h
  · cases h
/-- A variable of a struct type, read whole. -/
theorem run_loadVar_at {P : Program} (w : World) (t g o n : Nat) (cs : Array Value) (d : TypeDesc) (h : rowAt w g o n = some cs)
    (hu : P.underlying t = some d) (hd : (match d with | .struct _ | .array _ _ => true | _ => false) = true) (hi : (P.info? t).map (·.size) = some n) :
    (loadVar t ⟨g, o, none⟩).run P w = .ok (.agg cs) w := by
  have hsz := rowAt_size h
  have hl : (loadCells ⟨g, o, none⟩ cs.toList.length).run P w = .ok cs.toList.toArray w :=
    run_loadCells_list (P := P) w ⟨g, o, none⟩ cs.toList (fun j v hv => by
      have hadd : (⟨g, o, none⟩ : Addr).add j = ⟨g, o + j, none⟩ := by unfold Addr.add; split <;> simp_all
      have hj : j < n := by have := (List.getElem?_eq_some_iff.1 hv).1; simp at this; omega
      rw [hadd, rowAt_cell h j hj]
      simpa using hv)
  cases hq : P.info? t with
  | none => simp [hq] at hi
  | some i =>
    have hs : i.size = cs.size := by rw [hsz]; simpa [hq] using hi
    have hagg : (isAgg t).run P w = .ok true w := by
      unfold isAgg
      rw [Sem.run_bind, run_underlying hu w]
      cases d <;> simp_all
    simp only [Array.length_toList, Array.toArray_toList] at hl
    simp [loadVar, Sem.run_bind, hagg, sizeOf, typeInfo, hq, hs, hl]
theorem wpList_load_at {P : Program} {ops : Array Oper} {rest : List Oper} {o : Oper} {a : Act} {w : World} {Q : Exit → Act → World → Prop} (hgd : o.guard = none) (ty : TypeId) (x : Operand) (ho : o.op = .load ty x)
    (g off n : Nat) (hx : a.eval x = .pointer (some ⟨g, off, none⟩)) (cs : Array Value) (d : TypeDesc) (hg : rowAt w g off n = some cs)
    (hu : P.underlying ty = some d) (hd : (match d with | .struct _ | .array _ _ => true | _ => false) = true) (hi : (P.info? ty).map (·.size) = some n)
    (h : wpList P ops Q rest (a.put o.dst (.agg cs)) w) : wpList P ops Q (o :: rest) a w :=
  wpList_plain hgd fun K hK => by
    unfold Oper.wp execOp
    simp only [ho, hx, Instr.loadAt, Instr.sureAddr, Sem.run_bind, Sem.run_pure, Result.andThen_ok, run_loadVar_at w ty g off n cs d hg hu hd hi]
    exact hK _ _ h
/-- The same at an operation that stands under a guard that holds. -/
theorem wpList_load_at_w {P : Program} {ops : Array Oper} {rest : List Oper} {o : Oper} {a : Act} {w : World} {Q : Exit → Act → World → Prop} (hw : Region.wanted o (yielded ops a.tmps) = true) (ty : TypeId) (x : Operand) (ho : o.op = .load ty x)
    (g off n : Nat) (hx : a.eval x = .pointer (some ⟨g, off, none⟩)) (cs : Array Value) (d : TypeDesc) (hg : rowAt w g off n = some cs)
    (hu : P.underlying ty = some d) (hd : (match d with | .struct _ | .array _ _ => true | _ => false) = true) (hi : (P.info? ty).map (·.size) = some n)
    (h : wpList P ops Q rest (a.put o.dst (.agg cs)) w) : wpList P ops Q (o :: rest) a w :=
  wpList_step fun K hK => by
    rw [if_pos hw]
    unfold Oper.wp execOp
    simp only [ho, hx, Instr.loadAt, Instr.sureAddr, Sem.run_bind, Sem.run_pure, Result.andThen_ok, run_loadVar_at w ty g off n cs d hg hu hd hi]
    exact hK _ _ h

/-! Regions that draw their order, whose operations read and whose calls make memory: one walk in the order of the text. -/
/-- A world in which all that lay in w lies as it lay. -/
def BW (w : World) : Type := { W : World // Below w.heap.size w W }
instance (w : World) : Nonempty (BW w) := ⟨⟨w, Below.refl _ w⟩⟩
theorem bw_cell {w : World} (x : BW w) (b o : Nat) (h : b < w.heap.size) : x.1.cell? ⟨b, o, none⟩ = w.cell? ⟨b, o, none⟩ := x.2.cell (p := ⟨b, o, none⟩) h
theorem bw_loadAt {P : Program} {w : World} {ty b o n : Nat} {cs : Array Value} {d : TypeDesc} (hr : rowAt w b o n = some cs)
    (hu : P.underlying ty = some d) (hd : (match d with | .struct _ | .array _ _ => true | _ => false) = true) (hi : (P.info? ty).map (·.size) = some n) (x : BW w) :
    (Instr.loadAt ty (.pointer (some ⟨b, o, none⟩))).run P x.1 = .ok (.agg cs) x.1 := by
  have h := (rowAt_below x.2 b o n (rowAt_lt hr)).trans hr
  simp only [Instr.loadAt, Instr.sureAddr, Sem.run_bind, Sem.run_pure, Result.andThen_ok, run_loadVar_at x.1 ty b o n cs d h hu hd hi]
theorem wp_region_calm {P : Program} {id : Nat} {Q : Exit → Act → World → Prop} {a : Act} {w : World} {l : List Oper} (hm : P.follows .mixedOrders = true) (hB : Region.lexB .any l.toArray = true)
    (h : wpQuiet P l.toArray (fun W => ∃ x : BW w, W = x.1) (fun a' => ∀ W, (∃ x : BW w, W = x.1) → Q .normal a' W) l a) : (Code.region id l.toArray true).wp P Q a w :=
  wp_region_quiet (C := fun W => ∃ x : BW w, W = x.1) hm hB ⟨⟨_, (Below.refl _ w).drew⟩, rfl⟩ (by simpa using h)
/-- A whole struct, read in such a region. -/
theorem wpQuiet_load_at {P : Program} {ops : Array Oper} {Q : Act → Prop} {w : World} {o : Oper} {rest : List Oper} {a : Act} (hw : Region.wanted o (yielded ops a.tmps) = true) (ty : TypeId) (x : Operand) (ho : o.op = .load ty x)
    (b off n : Nat) (hx : a.eval x = .pointer (some ⟨b, off, none⟩)) (cs : Array Value) (d : TypeDesc) (hr : rowAt w b off n = some cs)
    (hu : P.underlying ty = some d) (hd : (match d with | .struct _ | .array _ _ => true | _ => false) = true) (hi : (P.info? ty).map (·.size) = some n)
    (h : wpQuiet P ops (fun W => ∃ x : BW w, W = x.1) Q rest (a.put o.dst (.agg cs))) : wpQuiet P ops (fun W => ∃ x : BW w, W = x.1) Q (o :: rest) a := by
  unfold wpQuiet
  rw [if_pos hw]
  refine ⟨.agg cs, ?_, h⟩
  rintro _ ⟨y, rfl⟩
  unfold Oper.quietAt
  have hl := bw_loadAt (P := P) hr hu hd hi y
  have he : (execOp a.eval o).run P y.1 = .ok (.value (.agg cs)) y.1 := by
    unfold execOp
    simp only [ho, hx, Sem.run_bind, hl, Result.andThen_ok, Sem.run_pure]
  rw [he]
  exact ⟨rfl, rfl⟩
theorem calm_of {P : Program} {f : FuncId} {args : Array Value} {w : World} {x : BW w} {v : Value} (h : Calls P f args x.1 fun e w' => e = .returned v ∧ Below x.1.heap.size x.1 w') :
    Calls P f args x.1 fun e w'' => e = .returned v ∧ ∃ y : BW w, w'' = y.1 := h.mono fun _ _ ⟨he, hb⟩ => ⟨he, ⟨_, bthen x.2 hb⟩, rfl⟩
theorem calm_same {P : Program} {f : FuncId} {args : Array Value} {w : World} {x : BW w} {v : Value} (h : Calls P f args x.1 fun e w' => e = .returned v ∧ x.1 = w') :
    Calls P f args x.1 fun e w'' => e = .returned v ∧ ∃ y : BW w, w'' = y.1 := h.mono fun _ _ ⟨he, hb⟩ => ⟨he, x, hb.symm⟩
end Go.Proofs.YtmpjjmilodjecaaGreatDoor
