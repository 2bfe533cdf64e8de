/- Slices read as lists: what came in (Sl), what the call made itself (Own); laws on a struct laid, built, appended. -/
import Derived.Test.YtmpjjmilodjecaaGreatDoorBase
namespace Go.Proofs.YtmpjjmilodjecaaGreatDoor
open Go.RowKit
set_option linter.unusedVariables false
set_option linter.unusedSimpArgs false

def intArr (x : Int) : Array Value := #[.int .i64 x]
def boolArr (x : Bool) : Array Value := #[.bool x]
def strArr (x : ByteArray) : Array Value := #[.string x]
theorem intArr_one (x : Int) : (intArr x).all (·.oneCell') = true := by simp [intArr, Value.oneCell']
theorem boolArr_one (x : Bool) : (boolArr x).all (·.oneCell') = true := by simp [boolArr, Value.oneCell']
theorem strArr_one (x : ByteArray) : (strArr x).all (·.oneCell') = true := by simp [strArr, Value.oneCell']
/-- The slice value v holds xs (sz cells an element, laid as arr says), in a block below B. -/
def Sl {α : Type} (arr : α → Array Value) (sz : Nat) (B : Nat) (w : World) (v : Value) (xs : List α) : Prop :=
  ∃ A cap, v = .slice A xs.length cap ∧ xs.length ≤ cap ∧ cap ≤ maxLen ∧ (xs ≠ [] → ∃ b off, A = some ⟨b, off, none⟩ ∧ b < B ∧ ∀ i x, xs[i]? = some x → rowAt w b (off + i * sz) sz = some (arr x))
section
variable {α : Type} {arr : α → Array Value} {sz B : Nat} {w w1 : World} {v : Value} {xs : List α}
theorem Sl.below (h : Sl arr sz B w v xs) (hb : Below B w w1) : Sl arr sz B w1 v xs := by
  obtain ⟨A, cap, hv, h1, h2, h3⟩ := h
  refine ⟨A, cap, hv, h1, h2, fun hn => ?_⟩
  obtain ⟨b, off, hA, hb', hr⟩ := h3 hn
  exact ⟨b, off, hA, hb', fun i x hi => (rowAt_block (hb.block b hb')).trans (hr i x hi)⟩
theorem Sl.mono {B' : Nat} (h : Sl arr sz B w v xs) (hB : B ≤ B') : Sl arr sz B' w v xs := by
  obtain ⟨A, cap, hv, h1, h2, h3⟩ := h
  refine ⟨A, cap, hv, h1, h2, fun hn => ?_⟩
  obtain ⟨b, off, hA, hb', hr⟩ := h3 hn
  exact ⟨b, off, hA, by omega, hr⟩
theorem Sl.nil {B : Nat} {w : World} : Sl arr sz B w (.slice none 0 0) [] := ⟨none, 0, rfl, Nat.le_refl _, Nat.zero_le _, fun h => absurd rfl h⟩
theorem Sl.view (h : Sl arr sz B w v xs) : ∃ A cap, v = .slice A xs.length cap ∧ xs.length ≤ cap ∧ xs.length ≤ 9223372036854775807 ∧ cap ≤ 9223372036854775807 := by
  obtain ⟨A, cap, hv, h1, h2, _⟩ := h
  simp only [maxLen] at h2
  exact ⟨A, cap, hv, h1, by omega, by omega⟩
theorem Sl.take {A : Option Addr} {n cap : Nat} (h : Sl arr sz B w (.slice A n cap) xs) (k : Nat) (hk : k ≤ xs.length) : Sl arr sz B w (.slice A k cap) (xs.take k) := by
  obtain ⟨A', cap', hv, h1, h2, h3⟩ := h
  injection hv with e1 e2 e3
  subst e1; subst e3
  have hl : (xs.take k).length = k := by simp; omega
  refine ⟨A, cap, by rw [hl], by omega, h2, fun hn => ?_⟩
  obtain ⟨b, off, hA, hb', hr⟩ := h3 (by intro e; subst e; simp at hn)
  refine ⟨b, off, hA, hb', fun i x hi => hr i x ?_⟩
  rw [List.getElem?_take] at hi
  split at hi
  · exact hi
  · cases hi
/-- Where there is an element, the slice begins at an address. -/
theorem Sl.at {A : Option Addr} {n cap : Nat} (h : Sl arr sz B w (.slice A n cap) xs) {k : Nat} (hk : k < xs.length) : ∃ b off, A = some ⟨b, off, none⟩ ∧ b < B ∧ rowAt w b (off + k * sz) sz = some (arr (xs[k]'hk)) ∧
    ∀ i x, xs[i]? = some x → rowAt w b (off + i * sz) sz = some (arr x) := by
  obtain ⟨A', cap', hv, _, _, h3⟩ := h
  injection hv with h1 h2
  subst h1
  obtain ⟨b, off, hA, hb', hr⟩ := h3 (by intro he; subst he; simp at hk)
  exact ⟨b, off, hA, hb', hr k _ (List.getElem?_eq_getElem hk), hr⟩
end

/-- The slice v, in a block of the call's own (from base on), holds xs. -/
def Own {α : Type} (arr : α → Array Value) (sz base : Nat) (e : TypeId) (w : World) (v : Value) (xs : List α) : Prop :=
  w.ownsRow base e sz v xs.length (xs.flatMap fun x => (arr x).toList)
section
variable {α : Type} {arr : α → Array Value} {sz base : Nat} {e : TypeId} {w w1 : World} {v : Value} {xs : List α}
theorem Own.nil : Own arr sz base e w (.slice none 0 0) [] := World.ownsRow_nil w base e sz
theorem Own.alloc (h : Own arr sz base e w v xs) (o : Obj) : Own arr sz base e (w.alloc o) v xs := World.ownsRow.alloc h o
theorem Own.drew (h : Own arr sz base e w v xs) : Own arr sz base e w.drew v xs := World.ownsRow.drew h
theorem Own.kept {row : Option Nat} (h : Own arr sz base e w v xs) (hg : w.grownBy w1 row) (hne : v.ownBlock = none ∨ v.ownBlock ≠ row) : Own arr sz base e w1 v xs := World.ownsRow.kept h hg hne
theorem Own.below (h : Own arr sz base e w v xs) (hb : Below w.heap.size w w1) : Own arr sz base e w1 v xs := by
  refine ⟨h.1, ?_⟩
  rcases h.2 with hn | ⟨g, cap, cur, hv, hbg, hg, r⟩
  · exact .inl hn
  · exact .inr ⟨g, cap, cur, hv, hbg, (hb.block g (Array.getElem?_eq_some_iff.1 hg).1).trans hg, r⟩
theorem Own.lower {b : Nat} (h : Own arr sz base e w v xs) (hb : b ≤ base) : Own arr sz b e w v xs := by
  refine ⟨h.1, ?_⟩
  rcases h.2 with hn | ⟨g, cap, cur, hv, hbg, r⟩
  · exact .inl hn
  · exact .inr ⟨g, cap, cur, hv, by omega, r⟩
theorem flat_len (hs : ∀ x, (arr x).size = sz) (l : List α) : (l.flatMap fun x => (arr x).toList).length = l.length * sz := by
  induction l with
  | nil => simp
  | cons a l ih => simp [List.flatMap_cons, ih, hs, Nat.add_mul]; omega
theorem flat_part (hs : ∀ x, (arr x).size = sz) (l : List α) (i : Nat) (x : α) (hx : l[i]? = some x) : ((l.flatMap fun x => (arr x).toList).drop (i * sz)).take sz = (arr x).toList := by
  induction l generalizing i with
  | nil => simp at hx
  | cons a l ih =>
    cases i with
    | zero =>
      simp at hx; subst hx
      simp only [List.flatMap_cons, Nat.zero_mul, List.drop_zero]
      rw [List.take_left' (by simp [hs])]
    | succ i =>
      simp at hx
      rw [List.flatMap_cons, show (i + 1) * sz = (arr a).toList.length + i * sz by simp [hs, Nat.add_mul]; omega, List.drop_append, List.drop_eq_nil_of_le (Nat.le_add_right _ _), List.nil_append, Nat.add_sub_cancel_left]
      exact ih i hx
theorem Own.sl (hs : ∀ x, (arr x).size = sz) (h : Own arr sz base e w v xs) : Sl arr sz w.heap.size w v xs := by
  rcases h.2 with ⟨rfl, hn⟩ | ⟨g, cap, cur, rfl, hb, hg, hnc, hcm, hcs, ht⟩
  · have : xs = [] := List.eq_nil_of_length_eq_zero hn
    subst this
    exact Sl.nil
  · refine ⟨_, _, rfl, hnc, hcm, fun hn => ⟨g, 0, rfl, (Array.getElem?_eq_some_iff.1 hg).1, fun i x hx => ?_⟩⟩
    have hi := (List.getElem?_eq_some_iff.1 hx).1
    have hle : 0 + i * sz + sz ≤ cur.size := by
      rw [hcs, Nat.zero_add, ← Nat.succ_mul]
      exact Nat.mul_le_mul_right _ (by omega)
    have hle' : i * sz + sz ≤ xs.length * sz := by rw [← Nat.succ_mul]; exact Nat.mul_le_mul_right _ (by omega)
    unfold rowAt
    simp only [hg, if_pos hle]
    congr 1
    apply Array.toList_inj.mp
    rw [← flat_part hs xs i x hx, ← ht]
    simp [List.drop_take, List.take_take, Nat.min_eq_left (show sz ≤ xs.length * sz - i * sz by omega)]
theorem Own.shape (h : Own arr sz base e w v xs) : ∃ A n cap, v = .slice A n cap := by
  rcases h.2 with ⟨rfl, _⟩ | ⟨g, cap, cur, rfl, _⟩
  · exact ⟨_, _, _, rfl⟩
  · exact ⟨_, _, _, rfl⟩
theorem Own.lt (h : Own arr sz base e w v xs) : ∀ k, v.ownBlock = some k → base ≤ k ∧ k < w.heap.size := World.ownsRow.lt h
end

theorem setRow_new (w : World) (old cs : Array Value) (t : TypeId) (fr : Nat × Nat) : (w.alloc (.cells old t fr)).setRow w.heap.size cs = w.alloc (.cells cs t fr) := by
  unfold World.setRow World.alloc
  simp only
  congr 1
  apply Array.ext
  · simp
  · intro i h1 h2
    simp only [Array.getElem_modify, Array.getElem_push]
    simp at h1 h2
    by_cases hi : i < w.heap.size
    · simp [hi, show w.heap.size ≠ i by omega]
    · have : i = w.heap.size := by omega
      subst this; simp

theorem fill_lit (places : Nat → Option (Nat × Nat)) (n : Nat) (old : Array Value) (v : Value) (cs : Array Value) (hv : v.cells = cs) (hp : places 0 = some (0, n)) (hs : cs.size = n) (ho : old.size = n) :
    Instr.fill places old [(0, v)] = some cs := by
  unfold Instr.fill
  rw [hp]
  simp only [hv, hs, ho, Nat.zero_add, ne_eq, not_true_eq_false, false_or, gt_iff_lt, Nat.lt_irrefl, if_false, Instr.fill]
  congr 1
  have key : ∀ (k : Nat) (l : List Value) (a : Array Value), k + l.length = a.size → (l.zipIdx k).foldl (fun b (x : Value × Nat) => b.setIfInBounds x.2 x.1) a = a.extract 0 k ++ l.toArray := by
    intro k l
    induction l generalizing k with
    | nil => intro a h; simp at h ⊢; simp [h]
    | cons x l ih =>
      intro a h
      simp only [List.zipIdx_cons, List.foldl_cons]
      rw [ih (k + 1) _ (by simp at h ⊢; omega)]
      apply Array.ext_getElem?
      intro i
      simp at h
      by_cases h1 : i < k
      · have e1 : (a.setIfInBounds k x)[i]? = a[i]? := by rw [Array.getElem?_setIfInBounds, if_neg (by omega)]
        rw [Array.getElem?_append_left (by simp; omega), Array.getElem?_append_left (by simp; omega), Array.getElem?_extract, Array.getElem?_extract, if_pos (by simp; omega), if_pos (by simp; omega)]
        simpa using e1
      · by_cases h2 : i = k
        · subst h2
          simp [Array.getElem?_append, Array.getElem?_setIfInBounds, show i ≤ a.size by omega, show i + 1 ≤ a.size by omega, show i < a.size by omega]
        · simp [Array.getElem?_append, h1, show ¬ i < k + 1 by omega, show k ≤ a.size by omega, show k + 1 ≤ a.size by omega]
          rw [show i - k = (i - (k + 1)) + 1 by omega]
          simp
  have := key 0 cs.toList old (by simp [hs, ho])
  rw [← Array.foldl_toList, Array.toList_zipIdx]
  simpa using this

/-- A struct stored into a variable that was just laid. -/
theorem wpList_store_new {P : Program} {ops : Array Oper} {rest : List Oper} {o : Oper} {a : Act} {w : World} {Q : Exit → Act → World → Prop} (hgd : o.guard = none) (ty : TypeId) (x y : Operand) (ho : o.op = .store ty x y)
    (g : Nat) (cells : Array Value) (old : Array Value) (t : TypeId) (hx : a.eval x = .pointer (some ⟨g, 0, none⟩)) (hgw : g = w.heap.size) (hy : a.eval y = .agg cells)
    (hi : (P.info? ty).map (·.size) = some cells.size)
    (hold : old.size = cells.size) (h1 : cells.all (·.oneCell') = true)
    (h : wpList P ops Q rest (a.put o.dst undef) (w.alloc (.cells cells t (0, 0)))) : wpList P ops Q (o :: rest) a (w.alloc (.cells old t (0, 0))) := by
  subst hgw
  refine wpList_store_row hgd ty x y ho w.heap.size cells hx hy t old (heap_alloc_new w _) hi hold h1 ?_
  rw [setRow_new]
  exact h
/-- A struct literal. -/
theorem wpList_build_at {P : Program} {ops : Array Oper} {rest : List Oper} {o : Oper} {a : Act} {w : World} {Q : Exit → Act → World → Prop} (hg : o.guard = none) (t : TypeId) (ps : List (Nat × Operand)) (ho : o.op = .build t ps.toArray)
    (vs : List (Nat × Value)) (hv : ps.map (fun q => (q.1, a.eval q.2)) = vs) (cells : Array Value) (hf : P.built t vs = some cells)
    (h : wpList P ops Q rest (a.put o.dst (.agg cells)) w) : wpList P ops Q (o :: rest) a w := by
  subst hv
  have e : (ps.toArray.map fun (i, x) => (i, a.eval x)).toList = ps.map (fun q => (q.1, a.eval q.2)) := by simp
  exact wpList_build hg t ps.toArray ho (by rw [e, hf]; rfl) (by rw [e, hf]; exact h)
theorem run_slice1 {P : Program} (w : World) (t e : TypeId) (v : Value) (cells : Array Value) (n : Nat) (z : Value) (i : TypeInfo) (ht : P.underlying t = some (.slice e)) (hq : P.info? e = some i) (hi1 : i.zero = some z) (hi2 : i.size = n)
    (hz : z.cells.size = n) (h0 : 0 < n) (h24 : n ≤ 16777216) (hx : v.cells = cells) (hc : cells.size = n) :
    (Instr.buildSlice t 1 #[(0, v)]).run P w = .ok (.slice (some ⟨w.heap.size, 0, none⟩) 1 1) (w.alloc (.cells cells e)) := by
  have hfill := fill_lit (fun i => some (i * n, n)) n ((Array.range n).map (z.cells[· % z.cells.size]!)) v cells hx (by simp) hc (by simp)
  have e1 : ¬ 16777216 < n := by omega
  have e2 : ¬ n = 0 := by omega
  simp [Instr.buildSlice, run_underlying ht, sizeOf, typeInfo, zeroValue, hq, hi1, hi2, e1, e2, newRow] at hfill ⊢
  simp [hfill]
/-- Cells and bytes of a type whose zero value is at hand. -/
def rowInfo (P : Program) (e : TypeId) : Option (Nat × Nat) :=
  match P.info? e with
  | some i => match i.zero with
    | some z => if z.cells.size = i.size then some (i.size, i.bytes) else none
    | none => none
  | none => none
theorem rowInfo_some {P : Program} {e : TypeId} {n b : Nat} (h : rowInfo P e = some (n, b)) : ∃ i z, P.info? e = some i ∧ i.zero = some z ∧ i.size = n ∧ i.bytes = b ∧ z.cells.size = n := by
  unfold rowInfo at h
  split at h
  · rename_i i hq
    split at h
    · rename_i z hz
      split at h
      · rename_i hc
        simp at h
        exact ⟨i, z, hq, hz, h.1, h.2, by omega⟩
      · cases h
    · cases h
  · cases h
/-- A row of one element, laid for an append. -/
theorem wpList_slice1 {P : Program} {ops : Array Oper} {rest : List Oper} {o : Oper} {a : Act} {w : World} {Q : Exit → Act → World → Prop} (hg : o.guard = none) (t e : TypeId) (x : Operand) (ho : o.op = .buildSlice t 1 #[(0, x)])
    (cells : Array Value) (n bytes : Nat) (ht : P.underlying t = some (.slice e)) (hi : rowInfo P e = some (n, bytes)) (hn : 0 < n ∧ n ≤ 16777216) (hx : (a.eval x).cells = cells) (hc : cells.size = n) (g : Nat) (hgw : w.heap.size = g)
    (h : wpList P ops Q rest (a.put o.dst (.slice (some ⟨g, 0, none⟩) 1 1)) (w.alloc (.cells cells e))) : wpList P ops Q (o :: rest) a w :=
  wpList_plain hg fun K hK => by
    subst hgw
    obtain ⟨i, z, hq, hi1, hi2, hi3, hz⟩ := rowInfo_some hi
    unfold Oper.wp execOp
    have hr := run_slice1 w t e (a.eval x) cells n z i ht hq hi1 hi2 hz hn.1 hn.2 hx hc
    have he : (#[(0, x)] : Array (Nat × Operand)).map (fun (i, x) => (i, a.eval x)) = #[(0, a.eval x)] := by simp
    simp only [ho, Sem.run_bind, he, hr, Result.andThen_ok]
    exact hK _ _ h
/-- One element appended to a slice of the call's own. -/
theorem wpList_append1 {P : Program} {ops : Array Oper} {rest : List Oper} {o : Oper} {a : Act} {w : World} {Q : Exit → Act → World → Prop} {α : Type} (arr : α → Array Value) (sz : Nat) (hgd : o.guard = none) (s x : Operand) (t : TypeId)
    (ho : o.op = .call { callee := .builtin .append, args := #[s, x], argTypes := #[t, t] })
    (base : Nat) (e : TypeId) (bytes : Nat) (ht : P.underlying t = some (.slice e)) (hi : rowInfo P e = some (sz, bytes)) (hsz : 0 < sz)
    (v : Value) (xs : List α) (y : α) (hs : a.eval s = v) (hown : Own arr sz base e w v xs)
    (g : Nat) (hx : a.eval x = .slice (some ⟨g, 0, none⟩) 1 1) (hy : rowAt w g 0 sz = some (arr y)) (h1 : (arr y).all (·.oneCell') = true)
    (hbytes : (xs.length + 1) * bytes ≤ 140737488355328) (h63 : xs.length < 9223372036854775807) (hbase : base ≤ w.heap.size)
    (h : ∀ v' w', Own arr sz base e w' v' (xs ++ [y]) → w.grownBy w' v.ownBlock → Below base w w' → wpList P ops Q rest (a.put o.dst v') w') : wpList P ops Q (o :: rest) a w := by
    obtain ⟨i, z, hq, hi1, hi2, hi3, hz⟩ := rowInfo_some hi
    have hsz1 := rowAt_size hy
    refine wpList_append_own _ hgd s x t ho base e i z sz bytes ht hq hi1 hi2 hi3 hz hsz v xs.length _ hs hown ⟨g, 0, none⟩ 1 1 (arr y).toList hx (by simp [hsz1]) (fun j u hu => ?_) (fun u hu => ?_) (by unfold maxLen; omega) hbytes hbase (fun v' w' hown' hgr _ => ?_)
    · have hj : j < sz := by have := (List.getElem?_eq_some_iff.1 hu).1; simp [hsz1] at this; exact this
      have hadd : (⟨g, 0, none⟩ : Addr).add j = ⟨g, 0 + j, none⟩ := by unfold Addr.add; split <;> simp_all
      rw [hadd, rowAt_cell hy j hj]
      simpa using hu
    · exact (Array.all_eq_true_iff_forall_mem.1 h1) u (by simpa using hu)
    · refine h v' w' ?_ hgr ((Below.refl base w).grown hgr hbase fun k hk => (hown.lt k hk).1)
      unfold Own
      simpa using hown'
end Go.Proofs.YtmpjjmilodjecaaGreatDoor
