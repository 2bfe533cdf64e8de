/- SetupOrder: plain laws. -/
import Derived.Test.YtmpjjmilodjecaaGreatDoorSetBack
import Derived.Test.YtmpjjmilodjecaaGreatDoorRLines
namespace Go.Proofs.YtmpjjmilodjecaaGreatDoor
open Go.RowKit Go.Shelf Go.ChangeShapes Go.WideShapes Go.ChangeAt Go.Deep
set_option linter.unusedVariables false
set_option linter.unusedSimpArgs false
/-- A line that says nothing. -/
def T.hashL : List UInt8 := [35, 32, 110, 111, 32, 115, 101, 116, 116, 105, 110, 103]
def T.orderA (l : List (Nat × Nat)) : List UInt8 := l.flatMap fun p => T.setLine p.1 (p.2 : Int) ++ [10]
def T.orderB : List (Nat × Nat) → List UInt8
  | [] => []
  | p :: l => (T.hashL ++ [10, 10]) ++ (T.setLine p.1 (p.2 : Int) ++ ([10] ++ T.orderB l))
theorem T.orderA_snoc (l : List (Nat × Nat)) (p : Nat × Nat) : T.orderA (l ++ [p]) = T.orderA l ++ T.setLine p.1 (p.2 : Int) ++ [10] := by simp [T.orderA]
theorem T.hashL_no10 : ∀ b ∈ T.hashL, b ≠ 10 := by decide
theorem T.lines_orderA (l : List (Nat × Nat)) (r : List UInt8) (h : ∀ p ∈ l, p.1 < 13) : T.lines (T.orderA l ++ r) = (l.map fun p => T.setLine p.1 (p.2 : Int)) ++ T.lines r := by
  induction l with
  | nil => rfl
  | cons p l ih =>
    rw [show T.orderA (p :: l) ++ r = T.setLine p.1 (p.2 : Int) ++ 10 :: (T.orderA l ++ r) by simp [T.orderA], T.lines_line _ _ (T.setLine_no10 _ (h p List.mem_cons_self) _), ih fun q hq => h q (List.mem_cons_of_mem _ hq)]
    rfl
theorem T.lines_orderB (l : List (Nat × Nat)) (h : ∀ p ∈ l, p.1 < 13) : T.lines (T.orderB l) = l.flatMap fun p => [T.hashL, [], T.setLine p.1 (p.2 : Int)] := by
  induction l with
  | nil => rfl
  | cons p l ih =>
    rw [show T.orderB (p :: l) = T.hashL ++ 10 :: ([] ++ 10 :: (T.setLine p.1 (p.2 : Int) ++ 10 :: T.orderB l)) by simp [T.orderB], T.lines_line _ _ T.hashL_no10, T.lines_line _ _ (by simp), T.lines_line _ _ (T.setLine_no10 _ (h p List.mem_cons_self) _), ih fun q hq => h q (List.mem_cons_of_mem _ hq)]
    rfl
theorem T.lines_prog (xs : List GoOp) (r : List UInt8) : T.lines ((T.progLine xs ++ [10]) ++ r) = T.progLine xs :: T.lines r := by
  rw [show (T.progLine xs ++ [10]) ++ r = T.progLine xs ++ 10 :: r by simp, T.lines_line _ _ (T.progLine_no10 xs)]
def T.ordLA (l : List (Nat × Nat)) (xs : List GoOp) : List SLine := (l.map fun p => SLine.set p.1 p.2) ++ [.prog xs]
def T.ordLB (l : List (Nat × Nat)) (xs : List GoOp) : List SLine := .prog xs :: l.flatMap fun p => [SLine.mute, .mute, .set p.1 p.2]
theorem T.all_ordLA (l : List (Nat × Nat)) (xs : List GoOp) (h : ∀ p ∈ l, p.1 < 13 ∧ p.2 < 10000000) (hx : (SLine.prog xs).is (T.progLine xs)) : SLine.all (T.ordLA l xs) ((l.map fun p => T.setLine p.1 (p.2 : Int)) ++ [T.progLine xs]) :=
  SLine.all_app _ _ _ _ (SLine.all_map (fun p : Nat × Nat => SLine.set p.1 p.2) _ l fun p hp => ⟨rfl, h p hp⟩) ⟨hx, trivial⟩
theorem T.all_muted (l : List (Nat × Nat)) (h : ∀ p ∈ l, p.1 < 13 ∧ p.2 < 10000000) : SLine.all (l.flatMap fun p => [SLine.mute, .mute, .set p.1 p.2]) (l.flatMap fun p => [T.hashL, [], T.setLine p.1 (p.2 : Int)]) := by
  induction l with
  | nil => trivial
  | cons p l ih => exact ⟨.inr rfl, .inl rfl, ⟨rfl, h p List.mem_cons_self⟩, ih fun q hq => h q (List.mem_cons_of_mem _ hq)⟩
theorem T.all_ordLB (l : List (Nat × Nat)) (xs : List GoOp) (h : ∀ p ∈ l, p.1 < 13 ∧ p.2 < 10000000) (hx : (SLine.prog xs).is (T.progLine xs)) : SLine.all (T.ordLB l xs) (T.progLine xs :: l.flatMap fun p => [T.hashL, [], T.setLine p.1 (p.2 : Int)]) :=
  ⟨hx, T.all_muted l h⟩
/-- Settings, one behind the other. -/
def T.sets (l : List (Nat × Nat)) (z : List Int) : List Int := l.foldl (fun z p => z.set p.1 (p.2 : Int)) z
theorem T.sstep_set (k n : Nat) (s : SS) (h : (k : Int) ∉ s.2.2) : T.sstep (.set k n) s = some (s.1.set k (n : Int), s.2.1, s.2.2 ++ [(k : Int)]) := if_neg (by rw [List.contains_iff_mem]; exact h)
theorem T.srun_list (l : List (Nat × Nat)) : ∀ (i : Nat) (s : SS), (l.map Prod.fst).Nodup → (∀ p ∈ l, (p.1 : Int) ∉ s.2.2) → T.srun (l.map fun p => SLine.set p.1 p.2) i s = .ok (T.sets l s.1, s.2.1, s.2.2 ++ l.map fun p => (p.1 : Int)) := by
  induction l with
  | nil => intro i s _ _; simp [T.srun, T.sets]
  | cons p l ih =>
    intro i s hn hs
    rw [List.map_cons, List.nodup_cons] at hn
    rw [List.map_cons, T.srun, T.sstep_set _ _ _ (hs p List.mem_cons_self)]
    show T.srun (l.map fun p => SLine.set p.1 p.2) (i + 1) (s.1.set p.1 (p.2 : Int), s.2.1, s.2.2 ++ [(p.1 : Int)]) = _
    rw [ih _ _ hn.2]
    · simp [T.sets]
    · intro q hq hm
      rcases List.mem_append.1 hm with hm | hm
      · exact hs q (List.mem_cons_of_mem _ hq) hm
      · rw [List.mem_singleton] at hm
        exact hn.1 (List.mem_map.2 ⟨q, hq, by omega⟩)
theorem T.srun_muted (l : List (Nat × Nat)) : ∀ (i : Nat) (s : SS), (l.map Prod.fst).Nodup → (∀ p ∈ l, (p.1 : Int) ∉ s.2.2) → T.srun (l.flatMap fun p => [SLine.mute, .mute, .set p.1 p.2]) i s = .ok (T.sets l s.1, s.2.1, s.2.2 ++ l.map fun p => (p.1 : Int)) := by
  induction l with
  | nil => intro i s _ _; simp [T.srun, T.sets]
  | cons p l ih =>
    intro i s hn hs
    rw [List.map_cons, List.nodup_cons] at hn
    show T.srun (SLine.mute :: SLine.mute :: SLine.set p.1 p.2 :: l.flatMap fun p => [SLine.mute, .mute, .set p.1 p.2]) i s = _
    rw [T.srun]
    show T.srun (SLine.mute :: SLine.set p.1 p.2 :: l.flatMap fun p => [SLine.mute, .mute, .set p.1 p.2]) (i + 1) s = _
    rw [T.srun]
    show T.srun (SLine.set p.1 p.2 :: l.flatMap fun p => [SLine.mute, .mute, .set p.1 p.2]) (i + 1 + 1) s = _
    rw [T.srun, T.sstep_set _ _ _ (hs p List.mem_cons_self)]
    show T.srun (l.flatMap fun p => [SLine.mute, .mute, .set p.1 p.2]) (i + 1 + 1 + 1) (s.1.set p.1 (p.2 : Int), s.2.1, s.2.2 ++ [(p.1 : Int)]) = _
    rw [ih _ _ hn.2]
    · simp [T.sets]
    · intro q hq hm
      rcases List.mem_append.1 hm with hm | hm
      · exact hs q (List.mem_cons_of_mem _ hq) hm
      · rw [List.mem_singleton] at hm
        exact hn.1 (List.mem_map.2 ⟨q, hq, by omega⟩)
theorem T.sets_set (l : List (Nat × Nat)) (k n : Nat) (h : k ∉ l.map Prod.fst) : ∀ z, T.sets l (z.set k (n : Int)) = (T.sets l z).set k (n : Int) := by
  induction l with
  | nil => intro z; rfl
  | cons p l ih =>
    intro z
    rw [List.map_cons, List.mem_cons, not_or] at h
    show T.sets l ((z.set k (n : Int)).set p.1 (p.2 : Int)) = (T.sets l (z.set p.1 (p.2 : Int))).set k (n : Int)
    rw [List.set_comm _ _ (by exact h.1), ih h.2]
theorem T.sets_reverse (l : List (Nat × Nat)) (h : (l.map Prod.fst).Nodup) : ∀ z, T.sets l.reverse z = T.sets l z := by
  induction l with
  | nil => intro z; rfl
  | cons p l ih =>
    intro z
    rw [List.map_cons, List.nodup_cons] at h
    have e : T.sets (p :: l).reverse z = (T.sets l.reverse z).set p.1 (p.2 : Int) := by
      rw [List.reverse_cons]; unfold T.sets; rw [List.foldl_append]; rfl
    rw [e, ih h.2]
    exact (T.sets_set l p.1 p.2 h.1 z).symm
theorem T.run_ordLA (l : List (Nat × Nat)) (xs : List GoOp) (h : (l.map Prod.fst).Nodup) : ∃ st, T.srun (T.ordLA l xs) 0 T.s0 = .ok (T.sets l T.firstC.ints, [xs], st) := by
  refine ⟨T.s0.2.2 ++ l.map fun p => (p.1 : Int), ?_⟩
  unfold T.ordLA
  rw [T.srun_app _ _ 0 T.s0 _ (T.srun_list l 0 T.s0 h (fun p _ hm => by cases hm))]
  rfl
theorem T.run_ordLB (l : List (Nat × Nat)) (xs : List GoOp) (h : (l.map Prod.fst).Nodup) : ∃ st, T.srun (T.ordLB l.reverse xs) 0 T.s0 = .ok (T.sets l T.firstC.ints, [xs], st) := by
  refine ⟨[] ++ l.reverse.map fun p => (p.1 : Int), ?_⟩
  have h' : (l.reverse.map Prod.fst).Nodup := by rw [List.map_reverse]; exact List.pairwise_reverse.2 (List.Pairwise.imp Ne.symm h)
  show T.srun (l.reverse.flatMap fun p => [SLine.mute, .mute, .set p.1 p.2]) 1 (T.firstC.ints, [xs], []) = _
  rw [T.srun_muted l.reverse 1 _ h' (fun p _ hm => by cases hm), T.sets_reverse l h]
theorem T.ord_len (l : List (Nat × Nat)) (xs : List GoOp) (hl : l.length ≤ 5) : (T.ordLA l xs).length ≤ 100 ∧ (T.ordLB l.reverse xs).length ≤ 100 := by
  have e (m : List (Nat × Nat)) : (m.flatMap fun p => [SLine.mute, SLine.mute, SLine.set p.1 p.2]).length = 3 * m.length := by
    induction m with
    | nil => rfl
    | cons p m ih => rw [List.flatMap_cons, List.length_append, ih]; simp only [List.length_cons, List.length_nil]; omega
  constructor
  · unfold T.ordLA; rw [List.length_append, List.length_map]; simp only [List.length_cons, List.length_nil]; omega
  · unfold T.ordLB; rw [List.length_cons, e, List.length_reverse]; omega
theorem T.orderA_len (l : List (Nat × Nat)) (h : ∀ p ∈ l, p.1 < 13 ∧ p.2 < 10000000) : (T.orderA l).length ≤ 31 * l.length := by
  induction l with
  | nil => simp [T.orderA]
  | cons p l ih =>
    have h1 := T.setLine_len p.1 (h p List.mem_cons_self).1 (p.2 : Int) (by have := (h p List.mem_cons_self).2; unfold i64; omega)
    have h2 := ih fun q hq => h q (List.mem_cons_of_mem _ hq)
    rw [show T.orderA (p :: l) = T.setLine p.1 (p.2 : Int) ++ [10] ++ T.orderA l by simp [T.orderA]]
    simp only [List.length_append, List.length_cons, List.length_nil]
    omega
theorem T.orderB_len (l : List (Nat × Nat)) (h : ∀ p ∈ l, p.1 < 13 ∧ p.2 < 10000000) : (T.orderB l).length ≤ 45 * l.length := by
  induction l with
  | nil => simp [T.orderB]
  | cons p l ih =>
    have h1 := T.setLine_len p.1 (h p List.mem_cons_self).1 (p.2 : Int) (by have := (h p List.mem_cons_self).2; unfold i64; omega)
    have h2 := ih fun q hq => h q (List.mem_cons_of_mem _ hq)
    rw [T.orderB]
    simp only [List.length_append, List.length_cons, List.length_nil, T.hashL]
    omega
end Go.Proofs.YtmpjjmilodjecaaGreatDoor
namespace Go.Proofs.YtmpjjmilodjecaaGreatDoor
open Go.RowKit Go.Shelf Go.ChangeShapes Go.WideShapes Go.ChangeAt Go.Deep
set_option linter.unusedVariables false
set_option linter.unusedSimpArgs false
def T.zeroC : Config := ⟨0, 0, 0, 0, 0, 0, 0, 0, 0, 0, 0, 0, 0, .slice none 0 0⟩
theorem T.zeroC_arr : zeroCV = Config.arr T.zeroC := rfl
def T.ordG (c : Config) (xs : List GoOp) : Bool := T.right c 1 && T.pright xs c.nodes 1
/-- What is read of settings z and a program. -/
def OrdU (z : List Int) (xs : List GoOp) (c : Config) (ps : List PV) (e : Int) : Prop :=
  ∃ c0 : Config, c0.ints = z ∧ ((T.ordG c0 xs = true ∧ c.ints = z ∧ ps.map PV.xs = [xs] ∧ e = 0) ∨ (T.ordG c0 xs = false ∧ c = T.zeroC ∧ ps = [] ∧ e = 2))
theorem OrdU.two {z : List Int} {xs : List GoOp} {c d : Config} {ps qs : List PV} {e f : Int} (h : OrdU z xs c ps e) (k : OrdU z xs d qs f) : d.ints = c.ints ∧ qs.map PV.xs = ps.map PV.xs ∧ f = e ∧ (e = 0 ∨ e = 2) ∧ (∀ p ∈ ps, p.xs.length ≤ xs.length) := by
  obtain ⟨c0, hc0, h⟩ := h
  obtain ⟨d0, hd0, k⟩ := k
  have hg : T.ordG d0 xs = T.ordG c0 xs := by
    have hi : d0.ints = c0.ints := hd0.trans hc0.symm
    unfold T.ordG
    rw [T.right_ints c0 d0 1 hi, show d0.nodes = c0.nodes from congrArg (fun l => l.getD 0 0) hi]
  rw [hg] at k
  rcases h with ⟨h1, h2, h3, h4⟩ | ⟨h1, h2, h3, h4⟩
  · rcases k with ⟨k1, k2, k3, k4⟩ | ⟨k1, _⟩
    · refine ⟨k2.trans h2.symm, k3.trans h3.symm, k4.trans h4.symm, .inl h4, fun p hp => ?_⟩
      have hm : p.xs ∈ ps.map PV.xs := List.mem_map_of_mem hp
      rw [h3, List.mem_singleton] at hm
      rw [hm]; exact Nat.le_refl _
    · rw [h1] at k1; cases k1
  · rcases k with ⟨k1, _⟩ | ⟨k1, k2, k3, k4⟩
    · rw [h1] at k1; cases k1
    · subst h2 h3 k2 k3
      exact ⟨rfl, rfl, k4.trans h4.symm, .inr h4, fun p hp => by cases hp⟩
def OrdPost (z : List Int) (xs : List GoOp) (w : World) (r : Ending) (w' : World) : Prop :=
  Below w.heap.size w w' ∧ ∃ c ps e, r = .returned (.tuple #[.agg (Config.arr c), .int .i64 0, .int .i64 e]) ∧ OrdU z xs c ps e ∧ Sl PV.arr 1 w'.heap.size w' c.progs ps ∧ ∀ p ∈ ps, PV.ok w' p
theorem ord_read (xs : List GoOp) (s : List UInt8) (hs : s.length ≤ 100000) (ls : List SLine) (hls : SLine.all ls (T.lines s)) (hll : ls.length ≤ 100) (z st : List Int) (hrun : T.srun ls 0 T.s0 = .ok (z, [xs], st)) (w : World) (he : Env w) :
    Calls Tryz.prog 22 #[strV s] w (OrdPost z xs w) := by
  refine (sread_c s hs ls hls hll w he).mono ?_
  rintro r w' ⟨hb, h⟩
  rw [hrun] at h
  obtain ⟨c, ps, hi, hp, hS, hO, hT, hF⟩ := h
  have hp' : ps.map PV.xs = [xs] := hp
  have hi' : c.ints = z := hi
  have hl : ps.length = 1 := by simpa using congrArg List.length hp'
  have hg : (T.right c ps.length && T.pall ps c.nodes) = T.ordG c xs := by
    obtain ⟨p, rfl⟩ := List.length_eq_one_iff.1 hl
    have hpx : p.xs = xs := by simpa using hp'
    unfold T.ordG T.pall
    rw [← hpx]; simp
  rw [hg] at hT hF
  cases hgb : T.ordG c xs with
  | true => exact ⟨hb, c, ps, 0, hT hgb, ⟨c, hi', .inl ⟨hgb, hi', hp', rfl⟩⟩, hS, hO⟩
  | false => exact ⟨hb, T.zeroC, [], 2, hF hgb, ⟨c, hi', .inr ⟨hgb, rfl, rfl, rfl⟩⟩, Sl.nil, fun p hp => by cases hp⟩
attribute [local irreducible] SLine.all
theorem ord_readA (m : List (Nat × Nat)) (xs : List GoOp) (hn : (m.map Prod.fst).Nodup) (hm : ∀ p ∈ m, p.1 < 13 ∧ p.2 < 10000000) (h5 : m.length ≤ 5) (hx : (SLine.prog xs).is (T.progLine xs)) (hxl : xs.length ≤ 16) (w : World) (he : Env w) :
    Calls Tryz.prog 22 #[strV (T.orderA m ++ (T.progLine xs ++ [10]))] w (OrdPost (T.sets m T.firstC.ints) xs w) := by
  obtain ⟨st, hst⟩ := T.run_ordLA m xs hn
  refine ord_read xs _ ?_ (T.ordLA m xs) ?_ (T.ord_len m xs h5).1 _ st hst w he
  · have h1 := T.orderA_len m hm
    have h2 := T.progLine_len xs hx.2.2
    rw [List.length_append, List.length_append, List.length_singleton]
    omega
  · have e : T.lines (T.orderA m ++ (T.progLine xs ++ [10])) = (m.map fun p => T.setLine p.1 (p.2 : Int)) ++ [T.progLine xs] := by
      rw [T.lines_orderA m _ (fun p hp => (hm p hp).1), show T.progLine xs ++ [10] = (T.progLine xs ++ [10]) ++ [] by simp, T.lines_prog]; rfl
    rw [e]
    exact T.all_ordLA m xs hm hx
theorem ord_readB (m : List (Nat × Nat)) (xs : List GoOp) (hn : (m.map Prod.fst).Nodup) (hm : ∀ p ∈ m, p.1 < 13 ∧ p.2 < 10000000) (h5 : m.length ≤ 5) (hx : (SLine.prog xs).is (T.progLine xs)) (hxl : xs.length ≤ 16) (w : World) (he : Env w) :
    Calls Tryz.prog 22 #[strV ((T.progLine xs ++ [10]) ++ T.orderB m.reverse)] w (OrdPost (T.sets m T.firstC.ints) xs w) := by
  obtain ⟨st, hst⟩ := T.run_ordLB m xs hn
  have hm' : ∀ p ∈ m.reverse, p.1 < 13 ∧ p.2 < 10000000 := fun p hp => hm p (List.mem_reverse.1 hp)
  refine ord_read xs _ ?_ (T.ordLB m.reverse xs) ?_ (T.ord_len m xs h5).2 _ st hst w he
  · have h1 := T.orderB_len m.reverse hm'
    have h2 := T.progLine_len xs hx.2.2
    rw [List.length_reverse] at h1
    rw [List.length_append, List.length_append, List.length_singleton]
    omega
  · have e : T.lines ((T.progLine xs ++ [10]) ++ T.orderB m.reverse) = T.progLine xs :: m.reverse.flatMap fun p => [T.hashL, [], T.setLine p.1 (p.2 : Int)] := by
      rw [T.lines_prog, T.lines_orderB _ fun p hp => (hm' p hp).1]
    rw [e]
    exact T.all_ordLB m.reverse xs hm' hx
/-- A setting's line, out of the first configuration's text with it. -/
theorem T.line_at (kk nn : Nat) (hk : kk < 13) : ((T.lines (T.cfgText (Config.setK T.firstC kk (nn : Int)) [])).length = 13) ∧ (T.lines (T.cfgText (Config.setK T.firstC kk (nn : Int)) []))[kk]? = some (T.setLine kk (nn : Int)) := by
  have e : T.lines (T.cfgText (Config.setK T.firstC kk (nn : Int)) []) = (List.range 13).map fun j => T.setLine j ((Config.setK T.firstC kk (nn : Int)).ints.getD j 0) := by
    unfold T.cfgText
    rw [T.lines_sets _ _ 13 (Nat.le_refl _)]
    show _ ++ [] = _
    rw [List.append_nil]
  rw [e, Config.setK_ints T.firstC nn kk hk]
  have hz : (T.firstC.ints.set kk (nn : Int)).getD kk 0 = (nn : Int) := by
    rw [List.getD_eq_getElem?_getD, List.getElem?_set_self (by rw [Config.ints_len]; exact hk), Option.getD_some]
  generalize T.firstC.ints.set kk (nn : Int) = zs at hz
  have key : ∀ (f : Nat → List UInt8), ((List.range 13).map f).length = 13 ∧ ((List.range 13).map f)[kk]? = some (f kk) := fun f => by
    rw [List.length_map, List.length_range, List.getElem?_map, List.getElem?_range hk]
    exact ⟨rfl, rfl⟩
  have h := key fun j => T.setLine j (zs.getD j 0)
  refine ⟨h.1, h.2.trans ?_⟩
  exact congrArg (fun n => some (T.setLine kk n)) hz
theorem T.setK_i64 (kk nn : Nat) (hk : kk < 13) (hn : nn < 10000000) : ∀ z ∈ (Config.setK T.firstC kk (nn : Int)).ints, i64 z := by
  rw [Config.setK_ints T.firstC nn kk hk]
  intro z hz
  rcases List.mem_or_eq_of_mem_set hz with h | h
  · have hf : ∀ z ∈ T.firstC.ints, i64 z := by
      intro z hz
      simp only [T.firstC, Config.ints, List.mem_cons, List.not_mem_nil, or_false] at hz
      unfold i64
      omega
    exact hf z h
  · subst h; unfold i64; omega
end Go.Proofs.YtmpjjmilodjecaaGreatDoor
namespace Go.Proofs.YtmpjjmilodjecaaGreatDoor
open Go.RowKit Go.Shelf Go.ChangeShapes Go.WideShapes Go.ChangeAt Go.Deep
set_option linter.unusedVariables false
set_option linter.unusedSimpArgs false
attribute [local go_sem] Config.sz bw_cell
/-- What the outer loop keeps of the pairs so far. -/
structure OrdM (l n : List Int) (k : Nat) (m : List (Nat × Nat)) : Prop where
  len : m.length = k
  nodup : (m.map Prod.fst).Nodup
  bd : ∀ p ∈ m, p.1 < 13 ∧ p.2 < 10000000
  fst : m.map (fun p => (p.1 : Int)) = l.take k
theorem OrdM.snoc {l n : List Int} {k : Nat} {m : List (Nat × Nat)} (h : OrdM l n k m) (hk : k < l.length) (kk nn : Nat) (hkk : l[k] = (kk : Int)) (h13 : kk < 13) (hn : nn < 10000000) (hne : ∀ z ∈ l.take k, z ≠ (kk : Int)) : OrdM l n (k + 1) (m ++ [(kk, nn)]) := by
  refine ⟨by rw [List.length_append, h.len]; rfl, ?_, ?_, ?_⟩
  · rw [List.map_append, List.nodup_append]
    refine ⟨h.nodup, by simp, ?_⟩
    intro a ha b hb
    simp only [List.map_cons, List.map_nil, List.mem_singleton] at hb
    subst hb
    rintro rfl
    obtain ⟨p, hp, rfl⟩ := List.mem_map.1 ha
    exact hne _ (by rw [← h.fst]; exact List.mem_map.2 ⟨p, hp, rfl⟩) rfl
  · intro p hp
    rcases List.mem_append.1 hp with hp | hp
    · exact h.bd p hp
    · rw [List.mem_singleton] at hp; subst hp; exact ⟨h13, hn⟩
  · rw [List.map_append, h.fst, List.take_succ_eq_append_getElem hk, hkk]; rfl
theorem OrdM.old {l n : List Int} {k : Nat} {m : List (Nat × Nat)} {p : Nat × Nat} (h : OrdM l n (k + 1) (m ++ [p])) : m.length = k ∧ ∀ p ∈ m, p.1 < 13 ∧ p.2 < 10000000 :=
  ⟨by have := h.len; rw [List.length_append, List.length_singleton] at this; omega, fun q hq => h.bd q (List.mem_append_left _ hq)⟩
theorem T.progText_ne' (xs : List GoOp) (hne : xs ≠ []) (h : T.pright xs 1 1 = true) : T.progText xs ≠ [] := by
  unfold T.pright at h
  rw [Bool.and_eq_true, List.all_eq_true] at h
  have hk : ∀ o ∈ xs, 1 ≤ o.kind ∧ o.kind ≤ 7 := fun o ho => T.opOk_known o 1 1 (h.2 o ho)
  unfold T.progText
  rw [if_pos (List.all_eq_true.2 fun o ho => by simpa [T.known] using hk o ho)]
  intro e
  have := T.joinS_nil (xs.map T.opText) (fun p hp => by obtain ⟨o, ho, rfl⟩ := List.mem_map.1 hp; exact T.opText_ne o (hk o ho)) e
  exact hne (List.map_eq_nil_iff.1 this)
set_option maxRecDepth 100000 in
set_option maxHeartbeats 16000000 in
theorem setupOrder_g {p1 p2 : Int → Prop} (lv : Value) (l : List Int) (nv : Value) (n : List Int) (pv : Value) (xs : List GoOp) (w : World) (he : Env w) (hl : Sl (fun x : Int => #[Value.int .i64 x]) 1 w.heap.size w lv l) (_ : ∀ x ∈ l, p1 x) (_ : l.length * 8 ≤ 140737488351232)
    (hn : Sl (fun x : Int => #[Value.int .i64 x]) 1 w.heap.size w nv n) (_ : ∀ x ∈ n, p2 x) (_ : n.length * 8 ≤ 140737488351232) (hx : Sl GoOp.arr 3 w.heap.size w pv xs) (hok : ∀ x ∈ xs, GoOp.ok x) (hz : xs.length * 24 ≤ 140737488351232) :
    Calls Tryz.prog 3 #[lv, nv, pv] w fun e w' => e = .returned (.bool true) ∧ Below w.heap.size w w' := by
  obtain ⟨A1, cap1, rfl, hc1, hl1, hm1⟩ := hl.view
  obtain ⟨A2, cap2, rfl, hc2, hl2, hm2⟩ := hn.view
  obtain ⟨A3, cap3, rfl, hc3, hl3, hm3⟩ := hx.view
  have HEV := Lib.hid (fun (X : World) (hX : Below w.heap.size w X) => awake29_c X (he.below hX))
  have HEN := Lib.hid (fun (X : World) (hX : Below w.heap.size w X) => he.below hX)
  have HSL := Lib.hid (fun (X : World) (hX : Below w.heap.size w X) => (⟨(hl.below hX).mono hX.size, (hn.below hX).mono hX.size, (hx.below hX).mono hX.size⟩ : Sl (fun x : Int => #[Value.int .i64 x]) 1 X.heap.size X (.slice A1 l.length cap1) l ∧ Sl (fun x : Int => #[Value.int .i64 x]) 1 X.heap.size X (.slice A2 n.length cap2) n ∧ Sl GoOp.arr 3 X.heap.size X (.slice A3 xs.length cap3) xs))
  have HOK := Lib.hid hok
  have HPR := Lib.hid (pright_c _ xs 1 1 w hx (by omega))
  have HAW0 := Lib.hid (HEV.out w (Below.refl _ w))
  clear hl hn hx hok
  by_cases h5 : l.length ≤ 5
  · have h5I : ¬ (5 : Int) < l.length := by omega
    by_cases hln : n.length = l.length
    · have hlnI : (n.length : Int) = l.length := by omega
      rcases hpr : T.pright xs 1 1 with _ | _
      · rw [hpr] at HPR
        clear hpr
        go_enter Tryz.func3, Tryz.ntmps3
        go_wp2_with (first | (go_at_call 15; (with_reducible refine HPR.out.mono ?_); rintro r w2 ⟨rfl, hb2⟩; have haw := HEV.out w2 hb2) | (go_at_call 16; (with_reducible refine haw.mono ?_); rintro r w6 ⟨rfl, hb6⟩))
        go_ret
        exact ⟨rfl, bthen hb2 hb6⟩
      · rw [hpr] at HPR
        have h16 : xs.length ≤ 16 := by
          unfold T.pright at hpr
          rw [Bool.and_eq_true] at hpr
          have := of_decide_eq_true hpr.1
          omega
        have HXI := Lib.hid (show (SLine.prog xs).is (T.progLine xs) from by
          refine ⟨rfl, ?_, HOK.out⟩
          unfold T.pright at hpr ⊢
          rw [Bool.and_eq_true, List.all_eq_true] at hpr ⊢
          exact ⟨hpr.1, fun o ho => T.opOk_mono o _ _ _ _ (by omega) (by omega) (hpr.2 o ho)⟩)
        have HPT := Lib.hid hpr
        clear hpr
        go_enter Tryz.func3, Tryz.ntmps3
        go_wp2_with (first | (go_at_call 15; (with_reducible refine HPR.out.mono ?_); rintro r w2 ⟨rfl, hb2⟩))
        go_loopw [7, 8, 9] (fun av bv i wr => ∃ (k : Nat) (m : List (Nat × Nat)), k ≤ l.length ∧ i = .int .i64 (k : Int) ∧ av = strV (T.orderA m) ∧ bv = strV (T.orderB m.reverse) ∧ Hid (OrdM l n k m) ∧ Below w.heap.size w wr) (fun _ _ i _ => l.length - (intOf i).toNat)
        case atStart => exact ⟨0, [], Nat.zero_le _, rfl, rfl, rfl, Lib.hid ⟨rfl, List.nodup_nil, by simp, by simp⟩, hb2⟩
        case round =>
          obtain ⟨k, m, hk, rfl, rfl, rfl, hM, hB⟩ := hrel
          have hBs := hB.size
          clear hb2
          by_cases hkl : k < l.length
          · have hkI : (k : Int) < (l.length : Int) := by omega
            have hkI2 : (k : Int) < (n.length : Int) := by omega
            obtain ⟨sl, sn, sx⟩ := HSL.out wr hB
            obtain ⟨b1, o1, hA1, hb1, hr1, hall1⟩ := sl.at hkl
            subst hA1
            obtain ⟨b2, o2, hA2, hb2, hr2, _⟩ := sn.at (show k < n.length by omega)
            subst hA2
            obtain ⟨z, hz⟩ : ∃ z, z = l[k] := ⟨_, rfl⟩
            obtain ⟨y, hy⟩ : ∃ y, y = n[k] := ⟨_, rfl⟩
            rw [← hz] at hr1
            rw [← hy] at hr2
            have e1 : wr.cell? ⟨b1, o1 + k * 1, none⟩ = some (.int .i64 z) := rowAt_cell hr1 0 (by omega)
            have e2 : wr.cell? ⟨b2, o2 + k * 1, none⟩ = some (.int .i64 y) := rowAt_cell hr2 0 (by omega)
            rw [Nat.mul_one] at e1 e2
            have haw := HEV.out wr hB
            have HALL := Lib.hid hall1
            have HZ := Lib.hid hz
            have hwk : IntKind.i64.wrap ((k : Int) + 1) = (k : Int) + 1 := IntWalk.i64_in _ (by omega)
            clear hall1 hr1 hr2 hy sl sn sx hz
            by_cases z0 : z < 0
            · go_wp2_with (go_at_call 16; (with_reducible refine haw.mono ?_); rintro r w6 ⟨rfl, hb6⟩)
              go_ret
              exact ⟨rfl, bthen hB hb6⟩
            · by_cases z13 : 13 ≤ z
              · go_wp2_with (go_at_call 16; (with_reducible refine haw.mono ?_); rintro r w6 ⟨rfl, hb6⟩)
                go_ret
                exact ⟨rfl, bthen hB hb6⟩
              · by_cases y0 : y < 0
                · go_wp2_with (go_at_call 16; (with_reducible refine haw.mono ?_); rintro r w6 ⟨rfl, hb6⟩)
                  go_ret
                  exact ⟨rfl, bthen hB hb6⟩
                · by_cases y1 : 1000000 < y
                  · go_wp2_with (go_at_call 16; (with_reducible refine haw.mono ?_); rintro r w6 ⟨rfl, hb6⟩)
                    go_ret
                    exact ⟨rfl, bthen hB hb6⟩
                  · obtain ⟨v0, hv0⟩ : ∃ v0, v0 = wr := ⟨_, rfl⟩
                    subst hv0
                    go_wp2
                    go_loopw [10] (fun j X => ∃ q : Nat, q ≤ k ∧ j = .int .i64 (q : Int) ∧ Hid (∀ v ∈ l.take q, v ≠ z) ∧ Below v0.heap.size v0 X) (fun j _ => k - (intOf j).toNat)
                    case atStart => exact ⟨0, Nat.zero_le _, rfl, Lib.hid (by simp), Below.refl _ _⟩
                    case round =>
                      obtain ⟨q, hq, rfl, hne, hX⟩ := hrel
                      have hXs := hX.size
                      by_cases hqk : q < k
                      · have hqI : (q : Int) < (k : Int) := by omega
                        have hqL : (q : Int) < (l.length : Int) := by omega
                        have f1 := (hX.cell (p := ⟨b1, o1 + k, none⟩) (show b1 < v0.heap.size from hb1)).trans e1
                        have fq : wr.cell? ⟨b1, o1 + q, none⟩ = some (.int .i64 l[q]) := by
                          have h0 := HALL.out q l[q] (List.getElem?_eq_getElem (by omega))
                          have h1 : v0.cell? ⟨b1, o1 + q * 1, none⟩ = some (.int .i64 l[q]) := rowAt_cell h0 0 (by omega)
                          rw [Nat.mul_one] at h1
                          exact (hX.cell (p := ⟨b1, o1 + q, none⟩) (show b1 < v0.heap.size from hb1)).trans h1
                        have hb1w : b1 < wr.heap.size := by omega
                        have hwq : IntKind.i64.wrap ((q : Int) + 1) = (q : Int) + 1 := IntWalk.i64_in _ (by omega)
                        have htk := Lib.hid (show l.take (q + 1) = l.take q ++ [l[q]] from List.take_succ_eq_append_getElem (by omega))
                        obtain ⟨u, hu⟩ : ∃ u, u = l[q] := ⟨_, rfl⟩
                        rw [← hu] at fq htk
                        clear hu e1 e2
                        by_cases huz : u = z
                        · subst huz
                          go_wp2
                          refine wp_region_calm (by kernel_rfl) (by kernel_rfl) ?_
                          repeat ((fail_if_success (with_reducible refine wpQuiet_nil ?_)); (first | go_big_quiet_skip | go_big_quiet_step (fail)))
                          refine wpQuiet_nil ?_
                          rintro _ ⟨⟨Y, hY⟩, rfl⟩
                          have hBY := bthen hB (bthen hX hY)
                          have haw2 := HEV.out _ hBY
                          go_wp2_with (go_at_call 16; (with_reducible refine haw2.mono ?_); rintro r w6 ⟨rfl, hb6⟩)
                          go_ret
                          exact ⟨rfl, bthen hBY hb6⟩
                        · have hne2 := Lib.hid (show ∀ v ∈ l.take (q + 1), v ≠ z from by
                            rw [htk.out]; intro v hv
                            rcases List.mem_append.1 hv with hv | hv
                            · exact hne.out v hv
                            · rw [List.mem_singleton] at hv; rw [hv]; exact huz)
                          go_wp2
                          refine wp_region_calm (by kernel_rfl) (by kernel_rfl) ?_
                          repeat ((fail_if_success (with_reducible refine wpQuiet_nil ?_)); (first | go_big_quiet_skip | go_big_quiet_step (fail)))
                          refine wpQuiet_nil ?_
                          rintro _ ⟨⟨Y, hY⟩, rfl⟩
                          go_wp2
                          go_roundw
                          case rel => exact ⟨q + 1, by omega, by go_num, hne2, bthen hX hY⟩
                          case measure => simp [intOf] <;> omega
                      · have hqI : ¬ (q : Int) < (k : Int) := by omega
                        obtain rfl : q = k := by omega
                        have hBX := bthen hB hX
                        have hb1w : b1 < wr.heap.size := by omega
                        have hb2w : b2 < wr.heap.size := by omega
                        have f1 := (hX.cell (p := ⟨b1, o1 + q, none⟩) (show b1 < v0.heap.size from hb1)).trans e1
                        have f2 := (hX.cell (p := ⟨b2, o2 + q, none⟩) (show b2 < v0.heap.size from hb2)).trans e2
                        obtain ⟨kk, rfl⟩ : ∃ kk : Nat, z = (kk : Int) := ⟨z.toNat, by omega⟩
                        obtain ⟨nn, rfl⟩ : ∃ nn : Nat, y = (nn : Int) := ⟨y.toNat, by omega⟩
                        have h13 : kk < 13 := by omega
                        have hnn : nn < 10000000 := by omega
                        have hM2 := hM.out.snoc hkl kk nn HZ.out.symm h13 hnn hne.out
                        have hLA := T.line_at kk nn h13
                        obtain ⟨tx, htx⟩ : ∃ tx, tx = T.cfgText (Config.setK T.firstC kk (nn : Int)) [] := ⟨_, rfl⟩
                        have htl : tx.length ≤ 100000 := by rw [htx]; exact T.cfg_len _ (T.setK_i64 kk nn h13 hnn) [] (fun p hp => by cases hp) (by simp) (fun p hp => by cases hp)
                        have H1 := Lib.hid (fun x : BW wr => first_c x.1)
                        have H2 := Lib.hid (fun x : BW wr => set_c T.firstC ⟨none, 0, 0, rfl⟩ (kk : Int) (nn : Int) x.1)
                        have H3 := Lib.hid (fun x : BW wr => stext_c (Config.setK T.firstC kk (nn : Int)) (T.setK_i64 kk nn h13 hnn) [] x.1 Sl.nil (fun p hp => by cases hp) (by simp) (fun p hp => by cases hp) (HEN.out x.1 (bthen hBX x.2)))
                        rw [show T.set T.firstC (kk : Int) (nn : Int) = Config.setK T.firstC kk (nn : Int) from by unfold T.set; rw [if_pos (by omega), Int.toNat_natCast]] at H2
                        rw [← htx] at H3 hLA
                        generalize Config.setK T.firstC kk (nn : Int) = c2 at H2 H3
                        generalize T.firstC = c1 at H1 H2
                        have HLA := Lib.hid hLA
                        have HM2 := Lib.hid hM2
                        clear e1 e2 hne hM hLA hM2 htx haw HALL HZ
                        go_wp2
                        refine wp_region_calm (by kernel_rfl) (by kernel_rfl) ?_
                        repeat ((fail_if_success (with_reducible refine wpQuiet_nil ?_)); (first | go_big_quiet_skip | go_big_quiet_step (first | (go_at_call 19; exact calm_of (H1.out _)) | (go_at_call 18; exact calm_of (H2.out _)) | (go_at_call 17; exact calm_of (H3.out _)))))
                        refine wpQuiet_nil ?_
                        rintro _ ⟨⟨Y, hY⟩, rfl⟩
                        have hBY := bthen hBX hY
                        go_upto_region 16 with (first | (go_at_call 20; (with_reducible refine (rlines_c tx (by omega) _).mono ?_); rintro r w3 ⟨v3, rfl, hown, hb3⟩))
                        obtain ⟨A5, n5, c5, rfl⟩ := hown.shape
                        obtain rfl : n5 = 13 := (own_cntP hown).trans HLA.out.1
                        have hs5 := hown.sl strL_sz
                        have hl5 : kk < (T.lines tx).length := by have := HLA.out.1; omega
                        obtain ⟨b5, o5, hA5, hb5, hr5, _⟩ := hs5.at hl5
                        subst hA5
                        have hsl5 := T.setLine_len kk h13 (nn : Int) (by unfold i64; omega)
                        rw [show (T.lines tx)[kk] = T.setLine kk (nn : Int) from by have := HLA.out.2; rw [List.getElem?_eq_getElem hl5] at this; exact Option.some.inj this] at hr5
                        have e5 : w3.cell? ⟨b5, o5 + kk * 1, none⟩ = some (strV (T.setLine kk (nn : Int))) := rowAt_cell hr5 0 (by omega)
                        rw [Nat.mul_one] at e5
                        have hbY3 := bthen hBY hb3
                        have g1 : w3.cell? ⟨b1, o1 + q, none⟩ = some (.int .i64 (kk : Int)) := ((bthen hY hb3).cell (p := ⟨b1, o1 + q, none⟩) hb1w).trans f1
                        have hla := T.orderA_len m HM2.out.old.2
                        have hlb := T.orderB_len m.reverse fun p hp => HM2.out.old.2 p (List.mem_reverse.1 hp)
                        rw [List.length_reverse] at hlb
                        rw [HM2.out.old.1] at hla hlb
                        have hA2 := Lib.hid (T.orderA_snoc m (kk, nn))
                        have hB2 := Lib.hid (show T.orderB (m ++ [(kk, nn)]).reverse = (T.hashL ++ [10, 10]) ++ (T.setLine kk (nn : Int) ++ ([10] ++ T.orderB m.reverse)) from by rw [List.reverse_append]; rfl)
                        have hhl : T.hashL ++ [10, 10] = [35, 32, 110, 111, 32, 115, 101, 116, 116, 105, 110, 103, 10, 10] := rfl
                        rw [hhl] at hB2
                        generalize T.orderA m = sa at *
                        generalize T.orderB m.reverse = sb at *
                        generalize T.setLine kk (nn : Int) = sl at *
                        clear hown hs5 hr5 hhl f1 f2
                        go_wp2
                        refine ⟨⟨q + 1, m ++ [(kk, nn)], by omega, by go_num, ?_, ?_, HM2, hbY3⟩, by simp [intOf] <;> omega⟩
                        · rw [hA2.out]; simp only [ByteArray.mk_append_mk]; try simp [List.append_assoc]
                        · rw [hB2.out]; simp only [ByteArray.mk_append_mk]; try simp [List.append_assoc]
          · have hkI : ¬ (k : Int) < (l.length : Int) := by omega
            have hm5 : m.length ≤ 5 := by have := hM.out.len; omega
            have hla := T.orderA_len m hM.out.bd
            have hlb := T.orderB_len m.reverse fun p hp => hM.out.bd p (List.mem_reverse.1 hp)
            rw [List.length_reverse] at hlb
            have HRA := Lib.hid (fun (X : World) (hX : Below w.heap.size w X) => ord_readA m xs hM.out.nodup hM.out.bd hm5 HXI.out h16 X (HEN.out X hX))
            have HRB := Lib.hid (fun (X : World) (hX : Below w.heap.size w X) => ord_readB m xs hM.out.nodup hM.out.bd hm5 HXI.out h16 X (HEN.out X hX))
            have HTX := Lib.hid (fun (X : World) (hX : Below w.heap.size w X) => ptext_c _ xs X (HSL.out X hX).2.2 HOK.out (by omega) (HEN.out X hX).tab)
            have hpt := T.progText_len xs HOK.out
            have HNE := Lib.hid (fun hne : xs ≠ [] => T.progText_ne' xs hne HPT.out)
            generalize T.sets m T.firstC.ints = zz at HRA HRB
            generalize T.orderA m = sa at *
            generalize T.orderB m.reverse = sb at *
            by_cases hx0 : xs = []
            · have hx0I : (xs.length : Int) = 0 := by rw [hx0]; rfl
              have ex : T.progLine xs ++ [10] = [112, 114, 111, 103, 114, 97, 109, 10] := by rw [hx0]; rfl
              have ex2 : T.progText xs = [] := by rw [hx0]; rfl
              rw [ex] at HRA HRB
              rw [ex2, show xs.length = 0 from by rw [hx0]; rfl] at HTX
              rw [show strV (sa ++ [112, 114, 111, 103, 114, 97, 109, 10]) = .string (ByteArray.mk sa.toArray ++ ByteArray.mk #[112, 114, 111, 103, 114, 97, 109, 10]) from by simp [strV, ByteArray.mk_append_mk]] at HRA
              rw [show strV ([112, 114, 111, 103, 114, 97, 109, 10] ++ sb) = .string (ByteArray.mk #[112, 114, 111, 103, 114, 97, 109, 10] ++ ByteArray.mk sb.toArray) from by simp [strV, ByteArray.mk_append_mk]] at HRB
              clear ex ex2
              clear HNE hM HAW0 HPR
              go_upto_region 24 with (first | (go_at_call 21; (with_reducible refine (HTX.out _ hB).mono ?_); rintro r w3 ⟨rfl, hb3'⟩; have hb3 := bthen hB hb3') | (go_at_call 22; (with_reducible refine (HRA.out _ hb3).mono ?_); rintro r w4 ⟨hb4', c, ps, e, rfl, hU, hS, hO⟩; have hone := Config.one c (by obtain ⟨A9, cap9, hv9, _⟩ := hS; exact ⟨_, _, _, hv9⟩); have HD := Lib.hid (And.intro hU (And.intro hS hO)); clear hU hS hO; have hb4 := bthen hb3 hb4') | (refine wpList_store_new rfl _ _ _ rfl w4.heap.size (Config.arr c) _ _ rfl rfl rfl rfl rfl hone ?_))
              obtain ⟨W7, hW7⟩ : ∃ W7, W7 = w4.alloc (.cells (Config.arr c) 29) := ⟨_, rfl⟩
              have hb47 : Below w4.heap.size w4 W7 := by rw [hW7]; exact (Below.refl _ w4).alloc (Nat.le_refl _) _
              have hb7 := bthen hb4 hb47
              have rd7 : rowAt W7 w4.heap.size 0 14 = some (Config.arr c) := by rw [hW7]; exact rowAt_new _ _ _ _ _ rfl
              have hz7 : w4.heap.size < W7.heap.size := by rw [hW7]; simp
              rw [← hW7]
              clear hW7 hone
              go_upto_region 25 with (first | (go_at_call 22; (with_reducible refine (HRB.out _ hb7).mono ?_); rintro r w8 ⟨hb8', d, qs, f, rfl, hU, hS, hO⟩; have hone := Config.one d (by obtain ⟨A9, cap9, hv9, _⟩ := hS; exact ⟨_, _, _, hv9⟩); have HD2 := Lib.hid (And.intro hU (And.intro hS hO)); clear hU hS hO; have hb8 := bthen hb7 hb8') | (refine wpList_store_new rfl _ _ _ rfl w8.heap.size (Config.arr d) _ _ rfl rfl rfl rfl rfl hone ?_))
              obtain ⟨W9, hW9⟩ : ∃ W9, W9 = w8.alloc (.cells (Config.arr d) 29) := ⟨_, rfl⟩
              have hb89 : Below w8.heap.size w8 W9 := by rw [hW9]; exact (Below.refl _ w8).alloc (Nat.le_refl _) _
              have hb79 := bthen hb8' hb89
              have hb9 := bthen hb8 hb89
              have rd9 : rowAt W9 w8.heap.size 0 14 = some (Config.arr d) := by rw [hW9]; exact rowAt_new _ _ _ _ _ rfl
              have rc9 : rowAt W9 w4.heap.size 0 14 = some (Config.arr c) := (rowAt_block (hb79.block w4.heap.size hz7)).trans rd7
              rw [← hW9]
              obtain ⟨hU, hS, hO⟩ := HD.out
              obtain ⟨hU2, hS2, hO2⟩ := HD2.out
              obtain ⟨hdi, hqx, hfe, he02, hpl⟩ := hU.two hU2
              have hb49 := bthen hb47 hb79
              have hsm := rsame29_c c d ps qs W9 ((hS.below hb49).mono hb49.size) (fun p hp => PV.below (hO p hp) hb49) ((hS2.below hb89).mono hb89.size) (fun p hp => PV.below (hO2 p hp) hb89) hdi hqx (fun p hp => Nat.le_trans (hpl p hp) (by omega))
              have haw9 := fun (X : World) (hX : Below W9.heap.size W9 X) => HEV.out X (bthen hb9 hX)
              subst hfe
              clear hW9 hU hS hO hU2 hS2 hO2 hdi hqx hpl HD HD2 rd7 HRA HRB HTX
              rcases he02 with rfl | rfl
              · go_wp2_with (first | (refine wpList_load_at_v 29 _ rfl rfl _ (0) 14 rfl _ _ rc9 rfl rfl rfl ?_) | (refine wpList_load_at_v 29 _ rfl rfl _ (0) 14 rfl _ _ rd9 rfl rfl rfl ?_) | (go_at_call 23; (with_reducible refine hsm.mono ?_); rintro r w10 ⟨rfl, hb10⟩; have haw := haw9 w10 hb10) | (go_at_call 16; (with_reducible refine haw.mono ?_); rintro r w11 ⟨rfl, hb11⟩))
                go_ret
                exact ⟨rfl, bthen (bthen hb9 hb10) hb11⟩
              · go_wp2_with (first | (refine wpList_load_at_v 29 _ rfl rfl _ (0) 14 rfl _ _ rc9 rfl rfl rfl ?_) | (refine wpList_load_at_v 29 _ rfl rfl _ (0) 14 rfl _ _ rd9 rfl rfl rfl ?_) | (go_at_call 23; (with_reducible refine hsm.mono ?_); rintro r w10 ⟨rfl, hb10⟩; have haw := haw9 w10 hb10) | (go_at_call 16; (with_reducible refine haw.mono ?_); rintro r w11 ⟨rfl, hb11⟩))
                go_ret
                exact ⟨rfl, bthen (bthen hb9 hb10) hb11⟩
            · have hx0I : ¬ (xs.length : Int) = 0 := by
                intro hh; exact hx0 (List.length_eq_zero_iff.1 (by omega))
              have ex : T.progLine xs = [112, 114, 111, 103, 114, 97, 109, 32] ++ T.progText xs := by unfold T.progLine; rw [if_neg (HNE.out hx0)]
              rw [ex] at HRA HRB
              generalize T.progText xs = pt at *
              rw [show strV (sa ++ ([112, 114, 111, 103, 114, 97, 109, 32] ++ pt ++ [10])) = .string (ByteArray.mk sa.toArray ++ (ByteArray.mk #[112, 114, 111, 103, 114, 97, 109, 32] ++ ByteArray.mk pt.toArray ++ ByteArray.mk #[10])) from by simp [strV, ByteArray.mk_append_mk]] at HRA
              rw [show strV ([112, 114, 111, 103, 114, 97, 109, 32] ++ pt ++ [10] ++ sb) = .string (ByteArray.mk #[112, 114, 111, 103, 114, 97, 109, 32] ++ ByteArray.mk pt.toArray ++ ByteArray.mk #[10] ++ ByteArray.mk sb.toArray) from by simp [strV, ByteArray.mk_append_mk]] at HRB
              clear ex
              clear HNE hM HAW0 HPR
              go_upto_region 24 with (first | (go_at_call 21; (with_reducible refine (HTX.out _ hB).mono ?_); rintro r w3 ⟨rfl, hb3'⟩; have hb3 := bthen hB hb3') | (go_at_call 22; (with_reducible refine (HRA.out _ hb3).mono ?_); rintro r w4 ⟨hb4', c, ps, e, rfl, hU, hS, hO⟩; have hone := Config.one c (by obtain ⟨A9, cap9, hv9, _⟩ := hS; exact ⟨_, _, _, hv9⟩); have HD := Lib.hid (And.intro hU (And.intro hS hO)); clear hU hS hO; have hb4 := bthen hb3 hb4') | (refine wpList_store_new rfl _ _ _ rfl w4.heap.size (Config.arr c) _ _ rfl rfl rfl rfl rfl hone ?_))
              obtain ⟨W7, hW7⟩ : ∃ W7, W7 = w4.alloc (.cells (Config.arr c) 29) := ⟨_, rfl⟩
              have hb47 : Below w4.heap.size w4 W7 := by rw [hW7]; exact (Below.refl _ w4).alloc (Nat.le_refl _) _
              have hb7 := bthen hb4 hb47
              have rd7 : rowAt W7 w4.heap.size 0 14 = some (Config.arr c) := by rw [hW7]; exact rowAt_new _ _ _ _ _ rfl
              have hz7 : w4.heap.size < W7.heap.size := by rw [hW7]; simp
              rw [← hW7]
              clear hW7 hone
              go_upto_region 25 with (first | (go_at_call 22; (with_reducible refine (HRB.out _ hb7).mono ?_); rintro r w8 ⟨hb8', d, qs, f, rfl, hU, hS, hO⟩; have hone := Config.one d (by obtain ⟨A9, cap9, hv9, _⟩ := hS; exact ⟨_, _, _, hv9⟩); have HD2 := Lib.hid (And.intro hU (And.intro hS hO)); clear hU hS hO; have hb8 := bthen hb7 hb8') | (refine wpList_store_new rfl _ _ _ rfl w8.heap.size (Config.arr d) _ _ rfl rfl rfl rfl rfl hone ?_))
              obtain ⟨W9, hW9⟩ : ∃ W9, W9 = w8.alloc (.cells (Config.arr d) 29) := ⟨_, rfl⟩
              have hb89 : Below w8.heap.size w8 W9 := by rw [hW9]; exact (Below.refl _ w8).alloc (Nat.le_refl _) _
              have hb79 := bthen hb8' hb89
              have hb9 := bthen hb8 hb89
              have rd9 : rowAt W9 w8.heap.size 0 14 = some (Config.arr d) := by rw [hW9]; exact rowAt_new _ _ _ _ _ rfl
              have rc9 : rowAt W9 w4.heap.size 0 14 = some (Config.arr c) := (rowAt_block (hb79.block w4.heap.size hz7)).trans rd7
              rw [← hW9]
              obtain ⟨hU, hS, hO⟩ := HD.out
              obtain ⟨hU2, hS2, hO2⟩ := HD2.out
              obtain ⟨hdi, hqx, hfe, he02, hpl⟩ := hU.two hU2
              have hb49 := bthen hb47 hb79
              have hsm := rsame29_c c d ps qs W9 ((hS.below hb49).mono hb49.size) (fun p hp => PV.below (hO p hp) hb49) ((hS2.below hb89).mono hb89.size) (fun p hp => PV.below (hO2 p hp) hb89) hdi hqx (fun p hp => Nat.le_trans (hpl p hp) (by omega))
              have haw9 := fun (X : World) (hX : Below W9.heap.size W9 X) => HEV.out X (bthen hb9 hX)
              subst hfe
              clear hW9 hU hS hO hU2 hS2 hO2 hdi hqx hpl HD HD2 rd7 HRA HRB HTX
              rcases he02 with rfl | rfl
              · go_wp2_with (first | (refine wpList_load_at_v 29 _ rfl rfl _ (0) 14 rfl _ _ rc9 rfl rfl rfl ?_) | (refine wpList_load_at_v 29 _ rfl rfl _ (0) 14 rfl _ _ rd9 rfl rfl rfl ?_) | (go_at_call 23; (with_reducible refine hsm.mono ?_); rintro r w10 ⟨rfl, hb10⟩; have haw := haw9 w10 hb10) | (go_at_call 16; (with_reducible refine haw.mono ?_); rintro r w11 ⟨rfl, hb11⟩))
                go_ret
                exact ⟨rfl, bthen (bthen hb9 hb10) hb11⟩
              · go_wp2_with (first | (refine wpList_load_at_v 29 _ rfl rfl _ (0) 14 rfl _ _ rc9 rfl rfl rfl ?_) | (refine wpList_load_at_v 29 _ rfl rfl _ (0) 14 rfl _ _ rd9 rfl rfl rfl ?_) | (go_at_call 23; (with_reducible refine hsm.mono ?_); rintro r w10 ⟨rfl, hb10⟩; have haw := haw9 w10 hb10) | (go_at_call 16; (with_reducible refine haw.mono ?_); rintro r w11 ⟨rfl, hb11⟩))
                go_ret
                exact ⟨rfl, bthen (bthen hb9 hb10) hb11⟩
    · have hlnI : ¬ (n.length : Int) = l.length := by omega
      go_enter Tryz.func3, Tryz.ntmps3
      go_wp2_with (go_at_call 16; (with_reducible refine HAW0.out.mono ?_); rintro r w6 ⟨rfl, hb6⟩)
      go_ret
      exact ⟨rfl, hb6⟩
  · have h5I : (5 : Int) < l.length := by omega
    go_enter Tryz.func3, Tryz.ntmps3
    go_wp2_with (go_at_call 16; (with_reducible refine HAW0.out.mono ?_); rintro r w6 ⟨rfl, hb6⟩)
    go_ret
    exact ⟨rfl, hb6⟩
end Go.Proofs.YtmpjjmilodjecaaGreatDoor
