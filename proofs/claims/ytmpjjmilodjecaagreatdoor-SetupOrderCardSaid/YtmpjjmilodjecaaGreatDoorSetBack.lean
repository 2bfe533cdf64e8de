/- SetupBack: plain laws, the walk. -/
import Derived.Test.YtmpjjmilodjecaaGreatDoorSetRead
import Derived.Test.YtmpjjmilodjecaaGreatDoorSetText
namespace Go.Proofs.YtmpjjmilodjecaaGreatDoor
open Go.RowKit Go.Shelf Go.ChangeShapes Go.WideShapes Go.ChangeAt Go.Deep
set_option linter.unusedVariables false
set_option linter.unusedSimpArgs false
theorem T.itoa_no10 (n : Int) : ∀ b ∈ Lib.itoa n, b ≠ 10 := by
  have key (m : Nat) : ∀ b ∈ Lib.decDigits m, b ≠ 10 := by
    intro b hb
    have hd := T.dec_digit m b hb
    rintro rfl; exact absurd hd (by decide)
  by_cases h0 : 0 ≤ n
  · obtain ⟨m, rfl⟩ : ∃ m : Nat, n = (m : Int) := ⟨n.toNat, by omega⟩
    rw [Lib.itoa_nonneg]
    exact key m
  · obtain ⟨m, rfl⟩ : ∃ m : Nat, n = -(m : Int) := ⟨(-n).toNat, by omega⟩
    rw [Lib.itoa_neg m (by omega)]
    intro b hb
    rcases List.mem_cons.1 hb with rfl | hb
    · decide
    · exact key m b hb
theorem T.setLine_no10 (k : Nat) (hk : k < 13) (n : Int) : ∀ b ∈ T.setLine k n, b ≠ 10 := by
  intro b hb
  unfold T.setLine at hb
  rcases List.mem_append.1 hb with hb | hb
  · exact (T.word29_byte k hk b hb).2.1
  · rcases List.mem_cons.1 hb with rfl | hb
    · decide
    · exact T.itoa_no10 n b hb
theorem T.verb_no10 (k : Int) (h : 1 ≤ k ∧ k ≤ 7) : ∀ b ∈ T.verb k, b ≠ 10 := by
  rcases T.kinds7 k h with rfl | rfl | rfl | rfl | rfl | rfl | rfl <;> decide
theorem T.opText_no10 (o : GoOp) (hk : 1 ≤ o.kind ∧ o.kind ≤ 7) : ∀ b ∈ T.opText o, b ≠ 10 := by
  intro b hb
  unfold T.opText T.opNum1 T.opNum2 at hb
  rcases List.mem_append.1 hb with hb | hb
  · rcases List.mem_append.1 hb with hb | hb
    · exact T.verb_no10 _ hk b hb
    · split at hb
      · cases hb
      · rcases List.mem_cons.1 hb with rfl | hb
        · decide
        · exact T.itoa_no10 _ b hb
  · split at hb
    · rcases List.mem_cons.1 hb with rfl | hb
      · decide
      · exact T.itoa_no10 _ b hb
    · cases hb
theorem T.joinS_no10 (ps : List (List UInt8)) (h : ∀ p ∈ ps, ∀ b ∈ p, b ≠ 10) : ∀ b ∈ T.joinS ps, b ≠ 10 := by
  induction ps with
  | nil => simp [T.joinS]
  | cons p ps ih =>
    intro b hb
    rw [T.joinS] at hb
    have hp := h p List.mem_cons_self
    split at hb
    · exact hp b hb
    · rcases List.mem_append.1 hb with hb | hb
      · exact hp b hb
      · rcases List.mem_append.1 hb with hb | hb
        · simp at hb; rcases hb with rfl | rfl <;> decide
        · exact ih (fun q hq => h q (List.mem_cons_of_mem _ hq)) b hb
theorem T.progLine_no10 (xs : List GoOp) : ∀ b ∈ T.progLine xs, b ≠ 10 := by
  have ht : ∀ b ∈ T.progText xs, b ≠ 10 := by
    unfold T.progText
    split
    · rename_i hk
      refine T.joinS_no10 _ fun p hp => ?_
      obtain ⟨o, ho, rfl⟩ := List.mem_map.1 hp
      exact T.opText_no10 o (by simpa [T.known] using List.all_eq_true.1 hk o ho)
    · simp
  intro b hb
  unfold T.progLine at hb
  have hk : ∀ b ∈ ([112, 114, 111, 103, 114, 97, 109, 32] : List UInt8), b ≠ 10 := by decide
  split at hb
  · have hk2 : ∀ b ∈ ([112, 114, 111, 103, 114, 97, 109] : List UInt8), b ≠ 10 := by decide
    exact hk2 b hb
  · rcases List.mem_append.1 hb with hb | hb
    · exact hk b hb
    · exact ht b hb
theorem T.lines_sets (l : List Int) (r : List UInt8) : ∀ k, k ≤ 13 → T.lines (T.setsText l k ++ r) = ((List.range k).map fun j => T.setLine j (l.getD j 0)) ++ T.lines r
  | 0, _ => by simp [T.setsText]
  | k + 1, hk => by
    rw [T.setsText, List.append_assoc, T.lines_sets l _ k (by omega), show T.setLine k (l.getD k 0) ++ [10] ++ r = T.setLine k (l.getD k 0) ++ 10 :: r by simp, T.lines_line _ r (T.setLine_no10 k (by omega) _), List.range_succ, List.map_append, List.append_assoc]
    rfl
theorem T.lines_progs (ps : List PV) : T.lines (T.progsText ps) = ps.map fun p => T.progLine p.xs := by
  induction ps with
  | nil => rfl
  | cons p ps ih =>
    rw [show T.progsText (p :: ps) = T.progLine p.xs ++ 10 :: T.progsText ps by simp [T.progsText], T.lines_line _ _ (T.progLine_no10 _), ih]
    rfl
def T.backL (l : List Int) (ps : List PV) : List SLine := ((List.range 13).map fun j => .set j (l.getD j 0).toNat) ++ ps.map fun p => .prog p.xs
theorem SLine.all_app : ∀ (xs : List SLine) (ls : List (List UInt8)) (ys : List SLine) (ms : List (List UInt8)), SLine.all xs ls → SLine.all ys ms → SLine.all (xs ++ ys) (ls ++ ms)
  | [], [], _, _, _, h => h
  | x :: xs, l :: ls, ys, ms, h, h' => ⟨h.1, SLine.all_app xs ls ys ms h.2 h'⟩
  | [], _ :: _, _, _, h, _ => h.elim
  | _ :: _, [], _, _, h, _ => h.elim
theorem SLine.all_map {α : Type} (f : α → SLine) (g : α → List UInt8) (xs : List α) (h : ∀ a ∈ xs, (f a).is (g a)) : SLine.all (xs.map f) (xs.map g) := by
  induction xs with
  | nil => trivial
  | cons a xs ih => exact ⟨h a List.mem_cons_self, ih fun b hb => h b (List.mem_cons_of_mem _ hb)⟩
theorem T.srun_app : ∀ (xs ys : List SLine) (i : Nat) (s s' : SS), T.srun xs i s = .ok s' → T.srun (xs ++ ys) i s = T.srun ys (i + xs.length) s'
  | [], ys, i, s, s', h => by injection h with h; subst h; rfl
  | x :: xs, ys, i, s, s', h => by
    rw [List.cons_append, T.srun]
    rw [T.srun] at h
    cases hx : T.sstep x s with
    | none => rw [hx] at h; cases h
    | some s2 =>
      rw [hx] at h
      simp only at h ⊢
      rw [T.srun_app xs ys (i + 1) s2 s' h, List.length_cons]
      congr 1; omega
theorem T.srun_progs (ps : List PV) : ∀ (i : Nat) (s : SS), T.srun (ps.map fun p => SLine.prog p.xs) i s = .ok (s.1, s.2.1 ++ ps.map PV.xs, s.2.2) := by
  induction ps with
  | nil => intro i s; simp [T.srun]
  | cons p ps ih =>
    intro i s
    rw [List.map_cons, T.srun]
    show T.srun (ps.map fun p => SLine.prog p.xs) (i + 1) (s.1, s.2.1 ++ [p.xs], s.2.2) = _
    rw [ih]
    simp
theorem T.srun_sets (a0 a1 a2 a3 a4 a5 a6 a7 a8 a9 a10 a11 a12 : Nat) : T.srun [.set 0 a0, .set 1 a1, .set 2 a2, .set 3 a3, .set 4 a4, .set 5 a5, .set 6 a6, .set 7 a7, .set 8 a8, .set 9 a9, .set 10 a10, .set 11 a11, .set 12 a12] 0 T.s0 = .ok ([(a0 : Int), a1, a2, a3, a4, a5, a6, a7, a8, a9, a10, a11, a12], [], [0, 1, 2, 3, 4, 5, 6, 7, 8, 9, 10, 11, 12]) := by kernel_rfl
theorem T.opOk_mono (o : GoOp) (n m n' m' : Int) (hn : n ≤ n') (hm : m ≤ m') (h : T.opOk o n m = true) : T.opOk o n' m' = true := by
  unfold T.opOk at h ⊢
  split at h
  · rename_i e; rw [if_pos e]; exact h
  · rename_i e; rw [if_neg e]
    split at h
    · rename_i e2; rw [if_pos e2]; simp only [decide_eq_true_eq] at h ⊢; omega
    · rename_i e2; rw [if_neg e2]; exact h
set_option maxHeartbeats 4000000 in
theorem T.right_bd (c : Config) (n : Nat) (h : T.right c n = true) : (∀ z ∈ c.ints, 0 ≤ z ∧ z ≤ 1000000) ∧ c.nodes ≤ 64 ∧ n ≤ 16 := by
  simp only [T.right, decide_eq_true_eq] at h
  refine ⟨?_, by omega, by omega⟩
  intro z hz
  simp only [Config.ints, List.mem_cons, List.not_mem_nil, or_false] at hz
  rcases hz with rfl | rfl | rfl | rfl | rfl | rfl | rfl | rfl | rfl | rfl | rfl | rfl | rfl <;> omega
theorem T.back_sets (l : List Int) (hl : l.length = 13) (h1 : ∀ z ∈ l, 0 ≤ z ∧ z ≤ 1000000) : SLine.all ((List.range 13).map fun j => SLine.set j (l.getD j 0).toNat) ((List.range 13).map fun j => T.setLine j (l.getD j 0)) := by
  refine SLine.all_map (fun j => SLine.set j (l.getD j 0).toNat) (fun j => T.setLine j (l.getD j 0)) (List.range 13) fun j hj => ?_
  have hj13 : j < 13 := List.mem_range.1 hj
  have hz := h1 (l.getD j 0) (by rw [List.getD_eq_getElem?_getD, List.getElem?_eq_getElem (by omega)]; exact List.getElem_mem _)
  generalize l.getD j 0 = z at *
  show T.setLine j z = T.setLine j ((z.toNat : Nat) : Int) ∧ j < 13 ∧ z.toNat < 10000000
  refine ⟨?_, hj13, by omega⟩
  rw [show ((z.toNat : Nat) : Int) = z by omega]
theorem T.back_progs (ps : List PV) (n m : Int) (hn : n ≤ 64) (hm : m ≤ 16) (ha : ∀ p ∈ ps, T.pright p.xs n m = true) (hok : ∀ p ∈ ps, ∀ o ∈ p.xs, GoOp.ok o) : SLine.all (ps.map fun p => SLine.prog p.xs) (ps.map fun p => T.progLine p.xs) := by
  refine SLine.all_map (fun p : PV => SLine.prog p.xs) (fun p => T.progLine p.xs) ps fun p hp => ?_
  have h := ha p hp
  have hk := hok p hp
  generalize p.xs = xs at *
  show T.progLine xs = T.progLine xs ∧ T.pright xs 64 16 = true ∧ ∀ o ∈ xs, GoOp.ok o
  refine ⟨rfl, ?_, hk⟩
  unfold T.pright at h ⊢
  rw [Bool.and_eq_true, List.all_eq_true] at h ⊢
  exact ⟨h.1, fun o ho => T.opOk_mono o _ _ _ _ hn hm (h.2 o ho)⟩
attribute [local irreducible] SLine.all
theorem T.back_all (c : Config) (ps : List PV) (hr : T.right c ps.length = true) (ha : T.pall ps c.nodes = true) (hok : ∀ p ∈ ps, ∀ o ∈ p.xs, GoOp.ok o) : SLine.all (T.backL c.ints ps) (T.lines (T.cfgText c ps)) := by
  have hb := T.right_bd c ps.length hr
  have e1 : T.lines (T.cfgText c ps) = ((List.range 13).map fun j => T.setLine j (c.ints.getD j 0)) ++ ps.map fun p => T.progLine p.xs := by
    unfold T.cfgText
    rw [T.lines_sets c.ints _ 13 (Nat.le_refl _), T.lines_progs]
  rw [e1]
  unfold T.backL
  exact SLine.all_app _ _ _ _ (T.back_sets c.ints (Config.ints_len c) hb.1) (T.back_progs ps c.nodes ps.length hb.2.1 (by omega) (fun p hp => List.all_eq_true.1 ha p hp) hok)
set_option maxHeartbeats 4000000 in
theorem T.back_run (c : Config) (ps : List PV) (hr : T.right c ps.length = true) : ∃ st, T.srun (T.backL c.ints ps) 0 T.s0 = .ok (c.ints, ps.map PV.xs, st) := by
  obtain ⟨h1, _, _⟩ := T.right_bd c _ hr
  refine ⟨[0, 1, 2, 3, 4, 5, 6, 7, 8, 9, 10, 11, 12], ?_⟩
  have hs := T.srun_sets c.nodes.toNat c.skew.toNat c.lease.toNat c.grain.toNat c.least.toNat c.hops.toNat c.cap.toNat c.fan.toNat c.attempts.toNat c.base.toNat c.most.toNat c.wait.toNat c.tokens.toNat
  rw [show T.backL c.ints ps = [.set 0 c.nodes.toNat, .set 1 c.skew.toNat, .set 2 c.lease.toNat, .set 3 c.grain.toNat, .set 4 c.least.toNat, .set 5 c.hops.toNat, .set 6 c.cap.toNat, .set 7 c.fan.toNat, .set 8 c.attempts.toNat, .set 9 c.base.toNat, .set 10 c.most.toNat, .set 11 c.wait.toNat, .set 12 c.tokens.toNat] ++ ps.map (fun p => SLine.prog p.xs) from rfl, T.srun_app _ _ 0 T.s0 _ hs, T.srun_progs]
  simp only [Config.ints, List.mem_cons, List.not_mem_nil, or_false, forall_eq_or_imp, forall_eq] at h1
  obtain ⟨i0, i1, i2, i3, i4, i5, i6, i7, i8, i9, i10, i11, i12⟩ := h1
  simp only [Config.ints, List.nil_append]
  congr 2
  simp only [List.cons.injEq, and_true]
  refine ⟨?_, ?_, ?_, ?_, ?_, ?_, ?_, ?_, ?_, ?_, ?_, ?_, ?_⟩ <;> omega
attribute [local go_sem] Config.sz bw_cell
theorem T.small_iff' (ps : List PV) (h : T.small ps = true) : ps.length ≤ 20 ∧ ∀ p ∈ ps, p.xs.length ≤ 20 := by
  unfold T.small at h
  rw [Bool.and_eq_true, decide_eq_true_eq, List.all_eq_true] at h
  exact ⟨h.1, fun p hp => by simpa using h.2 p hp⟩
theorem Config.ok_ints' {c : Config} (h : Config.ok c) : ∀ z ∈ c.ints, i64 z := by
  obtain ⟨h0, h1, h2, h3, h4, h5, h6, h7, h8, h9, h10, h11, h12⟩ := h
  intro z hz
  simp only [Config.ints, List.mem_cons, List.not_mem_nil, or_false] at hz
  rcases hz with rfl | rfl | rfl | rfl | rfl | rfl | rfl | rfl | rfl | rfl | rfl | rfl | rfl <;> assumption
set_option maxHeartbeats 4000000 in
theorem T.right_ints (c d : Config) (n : Nat) (h : d.ints = c.ints) : T.right d n = T.right c n := by
  simp only [Config.ints, List.cons.injEq, and_true] at h
  obtain ⟨h0, h1, h2, h3, h4, h5, h6, h7, h8, h9, h10, h11, h12⟩ := h
  unfold T.right
  rw [h0, h1, h2, h3, h4, h5, h6, h7, h8, h9, h10, h11, h12]
theorem T.pall_map (ps qs : List PV) (n : Int) (h : qs.map PV.xs = ps.map PV.xs) : T.pall qs n = T.pall ps n := by
  have hl : qs.length = ps.length := by simpa using congrArg List.length h
  have e (l : List PV) (m : Int) : (l.all fun p => T.pright p.xs n m) = (l.map PV.xs).all fun x => T.pright x n m := by rw [List.all_map]; rfl
  unfold T.pall
  rw [e, e, h, hl]
theorem T.cfg_len (c : Config) (hci : ∀ n ∈ c.ints, i64 n) (ps : List PV) (hok : ∀ p ∈ ps, ∀ o ∈ p.xs, GoOp.ok o) (hn : ps.length ≤ 20) (hs : ∀ p ∈ ps, p.xs.length ≤ 20) : (T.cfgText c ps).length ≤ 100000 := by
  have h1 := T.setsText_len c.ints hci 13 (Nat.le_refl 13)
  have h2 := T.progsText_len ps hok hs
  rw [show T.cfgText c ps = T.setsText c.ints 13 ++ T.progsText ps from rfl, List.length_append]
  refine Nat.le_trans (Nat.add_le_add h1 h2) ?_
  clear h1 h2
  omega
theorem T.backL_len (l : List Int) (ps : List PV) (hn : ps.length ≤ 20) : (T.backL l ps).length ≤ 100 := by
  have e : (T.backL l ps).length = 13 + ps.length := by unfold T.backL; rw [List.length_append, List.length_map, List.length_map, List.length_range]
  rw [e]
  omega
theorem read_back0 (c : Config) (ps : List PV) (s : List UInt8) (hsl : s.length ≤ 100000) (ls : List SLine) (hall : SLine.all ls (T.lines s)) (hlen : ls.length ≤ 100) (st : List Int) (hst : T.srun ls 0 T.s0 = .ok (c.ints, ps.map PV.xs, st)) (hr : T.right c ps.length = true) (ha : T.pall ps c.nodes = true) (w : World) (he : Env w) :
    Calls Tryz.prog 22 #[strV s] w fun r w' => Below w.heap.size w w' ∧ ∃ d qs, r = .returned (.tuple #[.agg (Config.arr d), .int .i64 0, .int .i64 0]) ∧ d.ints = c.ints ∧ qs.map PV.xs = ps.map PV.xs ∧ Sl PV.arr 1 w'.heap.size w' d.progs qs ∧ ∀ q ∈ qs, PV.ok w' q := by
  refine (sread_c s hsl ls hall hlen w he).mono ?_
  rintro r w' ⟨hb, h⟩
  rw [hst] at h
  obtain ⟨d, qs, hi, hp, hS, hO, hR, _⟩ := h
  have hi' : d.ints = c.ints := hi
  have hp' : qs.map PV.xs = ps.map PV.xs := hp
  have hl : qs.length = ps.length := by simpa using congrArg List.length hp'
  have hnodes : d.nodes = c.nodes := congrArg (fun l => l.getD 0 0) hi'
  refine ⟨hb, d, qs, hR ?_, hi', hp', hS, hO⟩
  rw [hl, T.right_ints c d _ hi', hr, hnodes, T.pall_map ps qs _ hp', ha]
  rfl
theorem read_back (c : Config) (hci : ∀ n ∈ c.ints, i64 n) (ps : List PV) (hok : ∀ p ∈ ps, ∀ o ∈ p.xs, GoOp.ok o) (hr : T.right c ps.length = true) (ha : T.pall ps c.nodes = true) (hn : ps.length ≤ 20) (hs : ∀ p ∈ ps, p.xs.length ≤ 20) (w : World) (he : Env w) :
    Calls Tryz.prog 22 #[strV (T.cfgText c ps)] w fun r w' => Below w.heap.size w w' ∧ ∃ d qs, r = .returned (.tuple #[.agg (Config.arr d), .int .i64 0, .int .i64 0]) ∧ d.ints = c.ints ∧ qs.map PV.xs = ps.map PV.xs ∧ Sl PV.arr 1 w'.heap.size w' d.progs qs ∧ ∀ q ∈ qs, PV.ok w' q :=
  Exists.elim (T.back_run c ps hr) fun st hst => read_back0 c ps (T.cfgText c ps) (T.cfg_len c hci ps hok hn hs) (T.backL c.ints ps) (T.back_all c ps hr ha hok) (T.backL_len c.ints ps hn) st hst hr ha w he
end Go.Proofs.YtmpjjmilodjecaaGreatDoor
