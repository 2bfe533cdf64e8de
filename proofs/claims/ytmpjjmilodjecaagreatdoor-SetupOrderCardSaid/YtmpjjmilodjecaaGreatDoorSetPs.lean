/- The text of a configuration: plain words. -/
import Derived.Test.YtmpjjmilodjecaaGreatDoorCfgs
import Derived.Test.YtmpjjmilodjecaaGreatDoorPBackP
import Derived.Laws.RangeString
import Derived.Laws.RangeAny
import Derived.Test.YtmpjjmilodjecaaGreatDoorLinesL
import Derived.Lib.IndexMore
namespace Go.Proofs.YtmpjjmilodjecaaGreatDoor
open Go.RowKit Go.Shelf
set_option linter.unusedVariables false
set_option linter.unusedSimpArgs false
def T.setLine (k : Nat) (n : Int) : List UInt8 := T.words29.getD k [] ++ (32 :: Lib.itoa n)
def T.setsText (l : List Int) : Nat → List UInt8
  | 0 => []
  | k + 1 => T.setsText l k ++ (T.setLine k (l.getD k 0) ++ [10])
def T.progLine (xs : List GoOp) : List UInt8 := if T.progText xs = [] then [112, 114, 111, 103, 114, 97, 109] else [112, 114, 111, 103, 114, 97, 109, 32] ++ T.progText xs
def T.progsText (ps : List PV) : List UInt8 := ps.flatMap fun p => T.progLine p.xs ++ [10]
def T.cfgText (c : Config) (ps : List PV) : List UInt8 := T.setsText c.ints 13 ++ T.progsText ps
theorem T.progsText_snoc (ps : List PV) (p : PV) : T.progsText (ps ++ [p]) = T.progsText ps ++ (T.progLine p.xs ++ [10]) := by simp [T.progsText]
theorem T.progText_len (xs : List GoOp) (h : ∀ x ∈ xs, GoOp.ok x) : (T.progText xs).length ≤ 52 * xs.length := by
  unfold T.progText
  split
  · rename_i hk; exact T.joinS_len xs h hk
  · simp
theorem T.word29_len : ∀ k, k < 13 → (T.words29.getD k []).length ≤ 8 := T.cases13 (by decide)
theorem T.setLine_len (k : Nat) (hk : k < 13) (n : Int) (h : i64 n) : (T.setLine k n).length ≤ 30 := by
  have h1 := T.word29_len k hk
  have h2 := T.itoa21 h
  unfold T.setLine
  simp only [List.length_append, List.length_cons]; omega
theorem T.setsText_len (l : List Int) (h : ∀ n ∈ l, i64 n) : ∀ k, k ≤ 13 → (T.setsText l k).length ≤ 31 * k
  | 0, _ => by simp [T.setsText]
  | k + 1, hk => by
    have h0 : i64 (l.getD k 0) := by
      rw [List.getD_eq_getElem?_getD]
      cases hh : l[k]? with
      | none => show i64 0; unfold i64; omega
      | some z => exact h z (List.mem_of_getElem? hh)
    have h1 := T.setLine_len k (by omega) _ h0
    have h2 := T.setsText_len l h k (by omega)
    rw [T.setsText]
    simp only [List.length_append, List.length_cons, List.length_nil]; omega
theorem T.progLine_len (xs : List GoOp) (h : ∀ x ∈ xs, GoOp.ok x) : (T.progLine xs).length ≤ 52 * xs.length + 8 := by
  have := T.progText_len xs h
  unfold T.progLine
  split
  · simp
  · simp only [List.length_append, List.length_cons, List.length_nil]; omega
theorem T.progsText_len (ps : List PV) (h : ∀ p ∈ ps, ∀ x ∈ p.xs, GoOp.ok x) (hs : ∀ p ∈ ps, p.xs.length ≤ 20) : (T.progsText ps).length ≤ 1100 * ps.length := by
  induction ps with
  | nil => simp [T.progsText]
  | cons p ps ih =>
    have h1 := T.progLine_len p.xs (h p List.mem_cons_self)
    have h2 := ih (fun q hq => h q (List.mem_cons_of_mem _ hq)) fun q hq => hs q (List.mem_cons_of_mem _ hq)
    have h3 := hs p List.mem_cons_self
    simp only [T.progsText, List.flatMap_cons, List.length_append, List.length_cons, List.length_nil] at h2 ⊢
    omega
/-! A program's text ends in no blank. -/
theorem T.last_app (a b : List UInt8) (hb : b ≠ []) : (a ++ b).getLast? = b.getLast? := by
  rw [List.getLast?_append]
  cases h : b.getLast? with
  | none => rw [List.getLast?_eq_none_iff] at h; exact absurd h hb
  | some x => rfl
theorem T.nolast (l : List UInt8) (h : ∀ b ∈ l, b ≠ 32) : l.getLast? ≠ some 32 := fun e => h 32 (List.mem_of_getLast? e) rfl
theorem T.itoa_ne (n : Int) : Lib.itoa n ≠ [] := by
  by_cases h0 : 0 ≤ n
  · obtain ⟨m, rfl⟩ : ∃ m : Nat, n = (m : Int) := ⟨n.toNat, by omega⟩
    rw [Lib.itoa_nonneg]
    exact T.dec_ne m
  · obtain ⟨m, rfl⟩ : ∃ m : Nat, n = -(m : Int) := ⟨(-n).toNat, by omega⟩
    rw [Lib.itoa_neg m (by omega)]
    exact List.cons_ne_nil _ _
theorem T.opText_last (o : GoOp) (ho : GoOp.ok o) (hk : 1 ≤ o.kind ∧ o.kind ≤ 7) : (T.opText o).getLast? ≠ some 32 := by
  have hv := T.nolast _ fun b hb => (T.verb_byte _ hk b hb).1
  have ha := T.nolast _ fun b hb => (T.itoa_byte _ ho.2.1 b hb).1
  have hb := T.nolast _ fun b hb => (T.itoa_byte _ ho.2.2 b hb).1
  unfold T.opText T.opNum1 T.opNum2
  by_cases h0 : T.pcount o.kind = 0
  · rw [if_pos h0, if_neg (by omega)]
    simpa using hv
  · rw [if_neg h0]
    by_cases h2 : T.pcount o.kind = 2
    · rw [if_pos h2, T.last_app _ _ (by simp), show (32 :: Lib.itoa o.b) = [32] ++ Lib.itoa o.b from rfl, T.last_app _ _ (T.itoa_ne _)]
      exact hb
    · rw [if_neg h2, List.append_nil, T.last_app _ _ (by simp), show (32 :: Lib.itoa o.a) = [32] ++ Lib.itoa o.a from rfl, T.last_app _ _ (T.itoa_ne _)]
      exact ha
theorem T.joinS_last (ps : List (List UInt8)) (h : ∀ p ∈ ps, p ≠ [] ∧ p.getLast? ≠ some 32) : (T.joinS ps).getLast? ≠ some 32 := by
  induction ps with
  | nil => simp [T.joinS]
  | cons p ps ih =>
    rw [T.joinS]
    split
    · exact (h p List.mem_cons_self).2
    · rename_i hne
      have h1 := fun q hq => h q (List.mem_cons_of_mem _ hq)
      have h2 : T.joinS ps ≠ [] := fun e => hne (T.joinS_nil ps (fun q hq => (h1 q hq).1) e)
      rw [T.last_app _ _ (by simp), T.last_app _ _ h2]
      exact ih h1
theorem T.progText_last (xs : List GoOp) (h : ∀ x ∈ xs, GoOp.ok x) : (T.progText xs).getLast? ≠ some 32 := by
  unfold T.progText
  split
  · rename_i hk
    refine T.joinS_last _ fun p hp => ?_
    obtain ⟨o, ho, rfl⟩ := List.mem_map.1 hp
    have hkn : 1 ≤ o.kind ∧ o.kind ≤ 7 := by simpa [T.known] using List.all_eq_true.1 hk o ho
    exact ⟨T.opText_ne o hkn, T.opText_last o (h o ho) hkn⟩
  · simp
theorem T.trim_blank (l : List UInt8) (h : l.getLast? ≠ some 32) : Lib.trimSuffix l [32] = l := by
  unfold Lib.trimSuffix Lib.hasSuffix
  rw [if_neg]
  intro e
  rw [List.isSuffixOf_iff_suffix] at e
  obtain ⟨a, rfl⟩ := e
  exact h (by simp)
theorem T.trim_progLine (xs : List GoOp) (h : ∀ x ∈ xs, GoOp.ok x) : Lib.trimSuffix ([112, 114, 111, 103, 114, 97, 109, 32] ++ T.progText xs) [32] = T.progLine xs := by
  have hl := T.progText_last xs h
  unfold T.progLine
  split
  · rename_i e; rw [e]; decide
  · rename_i e
    exact T.trim_blank _ (by rw [T.last_app _ _ e]; exact hl)
end Go.Proofs.YtmpjjmilodjecaaGreatDoor
namespace Go.Proofs.YtmpjjmilodjecaaGreatDoor
open Go.RowKit Go.Shelf
set_option linter.unusedVariables false
set_option linter.unusedSimpArgs false
/-- The number that digits tell. -/
def T.decOf (l : List UInt8) : Nat := (Lib.decFrom 0 l).getD 0
def T.digits (l : List UInt8) : Prop := ∀ b ∈ l, 48 ≤ b.toNat ∧ b.toNat ≤ 57
theorem T.decFrom_some (l : List UInt8) (h : T.digits l) : ∀ acc, ∃ v, Lib.decFrom acc l = some v := by
  induction l with
  | nil => intro acc; exact ⟨acc, rfl⟩
  | cons b l ih =>
    intro acc
    have hb := h b List.mem_cons_self
    rw [Lib.decFrom, Lib.digitVal, if_pos hb]
    exact ih (fun x hx => h x (List.mem_cons_of_mem _ hx)) _
theorem T.decOf_snoc (l : List UInt8) (b : UInt8) (h : T.digits (l ++ [b])) : T.decOf (l ++ [b]) = T.decOf l * 10 + (b.toNat - 48) := by
  obtain ⟨v, hv⟩ := T.decFrom_some l (fun x hx => h x (List.mem_append_left _ hx)) 0
  have hb := h b (by simp)
  unfold T.decOf
  rw [T.decFrom_snoc, hv, Lib.digitVal, if_pos hb]
  rfl
theorem T.decOf_lt (l : List UInt8) (h : T.digits l) (hl : l.length ≤ 7) : T.decOf l < 10000000 := by
  obtain ⟨v, hv⟩ := T.decFrom_some l h 0
  have h1 := Lib.decFrom_lt l 0 v hv
  have hp : 10 ^ l.length ≤ 10 ^ 7 := Nat.pow_le_pow_right (by decide) hl
  unfold T.decOf
  rw [hv]
  show v < _
  have e7 : (10 : Nat) ^ 7 = 10000000 := by decide
  omega
theorem number_results (tmps : Array Value) (w : World) (a : Int) (b : Bool) (h2 : tmps.getD 2 undef = .int .i64 a) (h3 : tmps.getD 3 undef = .bool b) :
    (results Tryz.f137 tmps).run Tryz.prog w = .ok (.tuple #[.int .i64 a, .bool b]) w := by
  have h2' : tmps[2]?.getD undef = .int .i64 a := by simpa using h2
  have h3' : tmps[3]?.getD undef = .bool b := by simpa using h3
  simp [results, Tryz.f137, go_sem, h2', h3']
set_option maxRecDepth 100000 in
set_option maxHeartbeats 4000000 in
theorem number_c (b : UInt8) (l : List UInt8) (hd : T.digits (b :: l)) (h7 : l.length ≤ 6) (h0 : l ≠ [] → b ≠ 48) (w : World) :
    Calls Tryz.prog 137 #[strV (b :: l)] w fun r w' => r = .returned (.tuple #[.int .i64 (T.decOf (b :: l)), .bool true]) ∧ Below w.heap.size w w' := by
  obtain ⟨s, hs⟩ : ∃ s, s = b :: l := ⟨_, rfl⟩
  have hlen : s.length = l.length + 1 := by rw [hs]; rfl
  have hz : (ByteArray.mk s.toArray).size = s.length := by simp [ByteArray.size]
  rw [← hs] at hd ⊢
  have hb0 : 1 < s.length → (((((ByteArray.mk s.toArray)[0]'(by rw [hz]; omega)).toNat : Int) == 48) = false) := by
    intro h1
    have hbn : b ≠ 48 := h0 (fun e => by rw [e] at hlen; simp at hlen; omega)
    have : (ByteArray.mk s.toArray)[0]'(by rw [hz]; omega) = b := by subst hs; rfl
    rw [this]
    have hne : b.toNat ≠ 48 := fun e => hbn (UInt8.toNat_inj.1 e)
    simpa using (show (b.toNat : Int) ≠ 48 by omega)
  have g1 : ¬ (s.length : Int) < 1 := by omega
  have g7 : ¬ (7 : Int) < (s.length : Int) := by omega
  have HD := Lib.hid hd
  clear hs h0 hd
  have key : ∀ b1 : Bool, decide (1 < s.length) = b1 → Calls Tryz.prog 137 #[strV s] w fun r w' => r = .returned (.tuple #[.int .i64 (T.decOf s), .bool true]) ∧ Below w.heap.size w w' := by
    intro b1 hb1
    rcases b1 with _ | _
    · have h1 : ¬ 1 < s.length := by simpa using hb1
      have h1I : ¬ (1 : Int) < (s.length : Int) := by omega
      have hb1' := hb1
      clear hb0 hb1
      go_enter Tryz.func137, Tryz.ntmps137
      go_wp2
      go_loopw [4] (fun nv wr => ∃ k : Nat, k ≤ s.length ∧ nv = .int .i64 (T.decOf (s.take k) : Nat) ∧ w.iter ⟨s.toArray⟩ k = wr) (fun _ wr => s.length - wr.iterPos w.heap.size)
      case atStart => exact ⟨0, Nat.zero_le _, rfl, rfl⟩
      case round =>
        obtain ⟨k, hk, rfl, rfl⟩ := hrel
        by_cases hkl : k < s.length
        · have hkz : k < (ByteArray.mk s.toArray).size := by rw [hz]; exact hkl
          have hbk := HD.out s[k] (List.getElem_mem _)
          have hnx := fun ty => run_next_ascii (P := Tryz.prog) w ⟨s.toArray⟩ k ty hkz (by show s[k].toNat < 128; omega)
          have htk : s.take (k + 1) = s.take k ++ [s[k]] := List.take_succ_eq_append_getElem hkl
          have hsn := T.decOf_snoc (s.take k) s[k] (by rw [← htk]; exact fun x hx => HD.out x (List.mem_of_mem_take hx))
          rw [← htk] at hsn
          have hlt := T.decOf_lt (s.take k) (fun x hx => HD.out x (List.mem_of_mem_take hx)) (by rw [List.length_take]; omega)
          obtain ⟨z, hzz⟩ : ∃ z : Nat, z = s[k].toNat := ⟨_, rfl⟩
          rw [show ((ByteArray.mk s.toArray)[k]'hkz).toNat = z from hzz.symm] at hnx
          rw [← hzz] at hbk hsn
          generalize T.decOf (s.take k) = N at *
          have HSN := Lib.hid hsn
          have e1 : IntKind.i32.wrap ((z : Int) - 48) = (z : Int) - 48 := IntWalk.i32_in _ (by omega)
          have e2 : IntKind.i64.wrap ((z : Int) - 48) = (z : Int) - 48 := IntWalk.i64_in _ (by omega)
          have e3 : IntKind.i64.wrap (10 * (N : Int)) = 10 * (N : Int) := IntWalk.i64_in _ (by omega)
          have e4 : IntKind.i64.wrap (10 * (N : Int) + ((z : Int) - 48)) = 10 * (N : Int) + ((z : Int) - 48) := IntWalk.i64_in _ (by omega)
          have q1 : ¬ (z : Int) < 48 := by omega
          have q2 : ¬ (57 : Int) < (z : Int) := by omega
          clear hsn hzz htk hkz hz hb1'
          go_wp2
          go_roundw
          case rel => exact ⟨k + 1, by omega, by rw [HSN.out]; congr 1; omega, rfl⟩
          case measure => simp; omega
        · have hnx := fun ty => run_next_end (P := Tryz.prog) w ⟨s.toArray⟩ k ty (by rw [hz]; exact hkl)
          have hall : s.take k = s := List.take_of_length_le (by omega)
          rw [hall]
          clear hb1' hz
          go_wp2
          exact bodyPost_ret (number_results _ _ _ _ rfl rfl) rfl ⟨rfl, (Below.refl _ w).alloc (Nat.le_refl _) _⟩
    · have h1 : 1 < s.length := by simpa using hb1
      have h1I : (1 : Int) < (s.length : Int) := by omega
      have hb1' := hb0 h1
      clear hb0 hb1
      go_enter Tryz.func137, Tryz.ntmps137
      go_wp2
      go_loopw [4] (fun nv wr => ∃ k : Nat, k ≤ s.length ∧ nv = .int .i64 (T.decOf (s.take k) : Nat) ∧ w.iter ⟨s.toArray⟩ k = wr) (fun _ wr => s.length - wr.iterPos w.heap.size)
      case atStart => exact ⟨0, Nat.zero_le _, rfl, rfl⟩
      case round =>
        obtain ⟨k, hk, rfl, rfl⟩ := hrel
        by_cases hkl : k < s.length
        · have hkz : k < (ByteArray.mk s.toArray).size := by rw [hz]; exact hkl
          have hbk := HD.out s[k] (List.getElem_mem _)
          have hnx := fun ty => run_next_ascii (P := Tryz.prog) w ⟨s.toArray⟩ k ty hkz (by show s[k].toNat < 128; omega)
          have htk : s.take (k + 1) = s.take k ++ [s[k]] := List.take_succ_eq_append_getElem hkl
          have hsn := T.decOf_snoc (s.take k) s[k] (by rw [← htk]; exact fun x hx => HD.out x (List.mem_of_mem_take hx))
          rw [← htk] at hsn
          have hlt := T.decOf_lt (s.take k) (fun x hx => HD.out x (List.mem_of_mem_take hx)) (by rw [List.length_take]; omega)
          obtain ⟨z, hzz⟩ : ∃ z : Nat, z = s[k].toNat := ⟨_, rfl⟩
          rw [show ((ByteArray.mk s.toArray)[k]'hkz).toNat = z from hzz.symm] at hnx
          rw [← hzz] at hbk hsn
          generalize T.decOf (s.take k) = N at *
          have HSN := Lib.hid hsn
          have e1 : IntKind.i32.wrap ((z : Int) - 48) = (z : Int) - 48 := IntWalk.i32_in _ (by omega)
          have e2 : IntKind.i64.wrap ((z : Int) - 48) = (z : Int) - 48 := IntWalk.i64_in _ (by omega)
          have e3 : IntKind.i64.wrap (10 * (N : Int)) = 10 * (N : Int) := IntWalk.i64_in _ (by omega)
          have e4 : IntKind.i64.wrap (10 * (N : Int) + ((z : Int) - 48)) = 10 * (N : Int) + ((z : Int) - 48) := IntWalk.i64_in _ (by omega)
          have q1 : ¬ (z : Int) < 48 := by omega
          have q2 : ¬ (57 : Int) < (z : Int) := by omega
          clear hsn hzz htk hb1'
          go_wp2
          go_roundw
          case rel => exact ⟨k + 1, by omega, by rw [HSN.out]; congr 1; omega, rfl⟩
          case measure => simp; omega
        · have hnx := fun ty => run_next_end (P := Tryz.prog) w ⟨s.toArray⟩ k ty (by rw [hz]; exact hkl)
          have hall : s.take k = s := List.take_of_length_le (by omega)
          rw [hall]
          clear hb1'
          go_wp2
          exact bodyPost_ret (number_results _ _ _ _ rfl rfl) rfl ⟨rfl, (Below.refl _ w).alloc (Nat.le_refl _) _⟩
  exact key _ rfl
end Go.Proofs.YtmpjjmilodjecaaGreatDoor
namespace Go.Proofs.YtmpjjmilodjecaaGreatDoor
open Go.RowKit Go.Shelf
set_option linter.unusedVariables false
set_option linter.unusedSimpArgs false
def rdrArr (c : Config) (sv : Value) : Array Value := #[.int .i64 c.nodes, .int .i64 c.skew, .int .i64 c.lease, .int .i64 c.grain, .int .i64 c.least, .int .i64 c.hops, .int .i64 c.cap, .int .i64 c.fan, .int .i64 c.attempts, .int .i64 c.base, .int .i64 c.most, .int .i64 c.wait, .int .i64 c.tokens, c.progs, sv]
theorem rdr_size (c : Config) (sv : Value) : (rdrArr c sv).size = 15 := rfl
theorem rdr_cfg (c : Config) (sv : Value) : (rdrArr c sv).extract 0 (0 + 14) = Config.arr c := by
  unfold rdrArr Config.arr
  simp
theorem rdr_13 (c : Config) (sv : Value) : (rdrArr c sv)[13]? = some c.progs := rfl
theorem rdr_14 (c : Config) (sv : Value) : (rdrArr c sv)[14]? = some sv := rfl
theorem rdr_set13 (c : Config) (sv v : Value) : (rdrArr c sv).setIfInBounds 13 v = rdrArr { c with progs := v } sv := rfl
theorem rdr_set14 (c : Config) (sv v : Value) : (rdrArr c sv).setIfInBounds 14 v = rdrArr c v := rfl
theorem rdr_row {W : World} {R : Nat} {c : Config} {sv : Value} {t : TypeId} (h : W.heap[R]? = some (.cells (rdrArr c sv) t (0, 0))) : rowAt W R 0 14 = some (Config.arr c) := by
  unfold rowAt
  rw [h]
  show (if 0 + 14 ≤ (rdrArr c sv).size then some ((rdrArr c sv).extract 0 (0 + 14)) else none) = _
  rw [if_pos (by rw [rdr_size]; omega), rdr_cfg]
theorem rdr_there {W : World} {R : Nat} {c : Config} {sv : Value} {t : TypeId} (h : W.heap[R]? = some (.cells (rdrArr c sv) t (0, 0))) (k n : Nat) (hk : k + n ≤ 15) : W.there R k n := by
  intro j hj
  have hc := cell_of h (k + j)
  refine ⟨?_, hc.2⟩
  rw [hc.1, Array.getElem?_eq_getElem (by rw [rdr_size]; omega)]
  rfl
theorem wp_store_mid {P : Program} {o : Oper} {a : Act} {w : World} {K : Act → World → Prop} {Q : Exit → Act → World → Prop} (ty : TypeId) (x y : Operand) (ho : o.op = .store ty x y)
    (b off : Nat) (cells : Array Value) (hx : a.eval x = .pointer (some ⟨b, off, none⟩)) (hy : a.eval y = .agg cells) (ht : w.there b off cells.size) (hi : (P.info? ty).map (·.size) = some cells.size) (h1 : cells.all (·.oneCell') = true)
    (h : K (a.put o.dst undef) (w.setCells b off cells.toList)) : o.wp P a w K Q := by
  unfold Oper.wp execOp
  simp only [ho, hx, hy, Instr.storeAt, Instr.sureAddr, Sem.run_bind, Sem.run_pure, Result.andThen_ok, run_storeVar_mid w b off ty cells ht hi h1]
  exact h
theorem rdr_cells (c : Config) (sv : Value) (k : Nat) (hk : k < 14) : (Config.arr c).toList[k]? = (rdrArr c sv)[k]? := by
  match k, hk with
  | 0, _ => rfl
  | 1, _ => rfl
  | 2, _ => rfl
  | 3, _ => rfl
  | 4, _ => rfl
  | 5, _ => rfl
  | 6, _ => rfl
  | 7, _ => rfl
  | 8, _ => rfl
  | 9, _ => rfl
  | 10, _ => rfl
  | 11, _ => rfl
  | 12, _ => rfl
  | 13, _ => rfl
theorem rdr_store {W : World} {R : Nat} {c : Config} {sv : Value} {t : TypeId} (h : W.heap[R]? = some (.cells (rdrArr c sv) t (0, 0))) (c' : Config) : (W.setCells R 0 (Config.arr c').toList).heap[R]? = some (.cells (rdrArr c' sv) t (0, 0)) := by
  obtain ⟨cur', h1, h2, h3⟩ := setCells_block R (Config.arr c').toList 0 W _ t h
  have hc : cur' = rdrArr c' sv := by
    refine Array.ext_getElem? fun j => ?_
    have hj3 := h3 j
    have hs : (rdrArr c sv).size = 15 := rfl
    have hl : (Config.arr c').toList.length = 14 := rfl
    rw [hs, hl, Nat.zero_add, Nat.sub_zero] at hj3
    rw [hj3]
    by_cases hj : j < 14
    · rw [if_pos ⟨Nat.zero_le _, hj, by omega⟩]
      exact rdr_cells c' sv j hj
    · rw [if_neg (by omega)]
      by_cases h14 : j = 14
      · rw [h14]; exact (rdr_14 c sv).trans (rdr_14 c' sv).symm
      · rw [Array.getElem?_eq_none (by rw [rdr_size]; omega), Array.getElem?_eq_none (by rw [rdr_size]; omega)]
  rw [h1, hc]
/-! What is owned by type apart. -/
theorem own_apart {α β : Type} {arr : α → Array Value} {arr' : β → Array Value} {sz sz' base base' : Nat} {e e' : TypeId} {W : World} {v v' : Value} {xs : List α} {ys : List β}
    (h : Own arr sz base e W v xs) (h' : Own arr' sz' base' e' W v' ys) (hne : e ≠ e') : v.ownBlock = none ∨ v.ownBlock ≠ v'.ownBlock := by
  rcases h.2 with ⟨rfl, _⟩ | ⟨g, cap, cur, rfl, _, hg, _⟩
  · exact .inl rfl
  · refine .inr fun q => ?_
    rcases h'.2 with ⟨rfl, _⟩ | ⟨g', cap', cur', rfl, _, hg', _⟩
    · simp [Value.ownBlock] at q
    · have : g = g' := by simpa [Value.ownBlock] using q
      subst this
      rw [hg] at hg'
      injection hg' with q; injection q with _ q
      exact hne q
/-- The reader's state. -/
structure RS (R B : Nat) (c : Config) (sv : Value) (ps : List PV) (st : List Int) (W : World) : Prop where
  box : W.heap[R]? = some (.cells (rdrArr c sv) 133 (0, 0))
  progs : Own PV.arr 1 B 23 W c.progs ps
  elem : ∀ p ∈ ps, Own GoOp.arr 3 B 110 W p.v p.xs ∧ ∀ o ∈ p.xs, GoOp.ok o
  set : Own intArr 1 B 3 W sv st
  lt : R < B
theorem RS.below {R B : Nat} {c : Config} {sv : Value} {ps : List PV} {st : List Int} {W W' : World} (h : RS R B c sv ps st W) (hb : Below W.heap.size W W') : RS R B c sv ps st W' :=
  ⟨(hb.block R (Array.getElem?_eq_some_iff.1 h.box).1).trans h.box, h.progs.below hb, fun p hp => ⟨(h.elem p hp).1.below hb, (h.elem p hp).2⟩, h.set.below hb, h.lt⟩
theorem RS.turned {R B : Nat} {c : Config} {sv : Value} {ps : List PV} {st : List Int} {W W' : World} (h : RS R B c sv ps st W) {Bs : Nat} (hBs : Bs < B) (hR : Bs ≠ R) {row : Option Nat} (hg : W.grownBy W' row) (hr : ∀ r, row = some r → r = Bs ∨ (B ≤ r ∧ ∃ o : Obj, W.heap[r]? = some o ∧ o.isCells = false)) : RS R B c sv ps st W' := by
  have hk {v : Value} {α : Type} {arr : α → Array Value} {sz : Nat} {e : TypeId} {xs : List α} (ho : Own arr sz B e W v xs) : Own arr sz B e W' v xs := by
    refine ho.kept hg ?_
    rcases ho.2 with ⟨rfl, _⟩ | ⟨g, cap, cur, rfl, hb, hgb, _⟩
    · exact .inl rfl
    · refine .inr fun e' => ?_
      have e'' : row = some g := by simpa [Value.ownBlock] using e'.symm
      rcases hr g e'' with rfl | ⟨_, o, ho, hc⟩
      · omega
      · rw [hgb] at ho; cases ho; cases hc
  refine ⟨?_, hk h.progs, fun p hp => ⟨hk (h.elem p hp).1, (h.elem p hp).2⟩, hk h.set, h.lt⟩
  rw [hg.block R (Array.getElem?_eq_some_iff.1 h.box).1 (fun e => ?_)]
  · exact h.box
  · rcases hr R e.symm with q | ⟨q, _⟩
    · exact hR q.symm
    · have := h.lt; omega
/-- What a line's reading leaves. -/
structure RKept (R B : Nat) (W W' : World) : Prop where
  below : Below R W W'
  same : ∀ k, k < B → k ≠ R → W'.heap[k]? = W.heap[k]?
  others : KeepsFrom B W W'
theorem RKept.refl (R B : Nat) (W : World) : RKept R B W W := ⟨Below.refl _ _, fun _ _ _ => rfl, KeepsFrom.refl _ _⟩
theorem RKept.trans {R B : Nat} {a b c : World} (h : RKept R B a b) (k : RKept R B b c) : RKept R B a c := ⟨h.below.trans k.below, fun q h1 h2 => (k.same q h1 h2).trans (h.same q h1 h2), h.others.trans k.others⟩
theorem RKept.of {R B : Nat} {W W' : World} (hR : R ≤ W.heap.size) (hB : B ≤ W.heap.size) (h : Below W.heap.size W W') : RKept R B W W' :=
  ⟨h.mono hR, fun k hk _ => h.block k (by omega), ⟨h.size, fun q o _ hq _ => (h.block q (Array.getElem?_eq_some_iff.1 hq).1).trans hq⟩⟩
theorem RKept.setCell {R B : Nat} (W : World) (o : Nat) (v : Value) : RKept R B W (W.setCell ⟨R, o, none⟩ v) :=
  ⟨(Below.refl _ W).setCell (p := ⟨R, o, none⟩) (Nat.le_refl _) _, fun k _ hk => heap_setCell_other _ _ _ _ hk, (KeepsOthers.setCell _ _ _).from _⟩
theorem setCells_others (g : Nat) : ∀ (vs : List Value) (o : Nat) (w : World), KeepsOthers w (w.setCells g o vs)
  | [], _, w => KeepsOthers.refl w
  | v :: vs, o, w => (KeepsOthers.setCell w ⟨g, o, none⟩ v).trans (setCells_others g vs (o + 1) _)
theorem RKept.setCells {R B : Nat} (W : World) (o : Nat) (vs : List Value) : RKept R B W (W.setCells R o vs) :=
  ⟨Below.setCells (Below.refl _ W) (Nat.le_refl _) vs, fun k _ hk => setCells_other R vs o W k hk, (setCells_others R vs o W).from _⟩
/-- An append onto a row of the reader's own. -/
theorem RKept.append {R B : Nat} {W w' : World} {o : Obj} {v : Value} {α : Type} {arr : α → Array Value} {sz : Nat} {e : TypeId} {xs : List α} (hRB : R < B) (hBW : B ≤ W.heap.size) (hown : Own arr sz B e W v xs) (hg : (W.alloc o).grownBy w' v.ownBlock) (hb : Below B (W.alloc o) w') : RKept R B W w' := by
  have hba : Below B W (W.alloc o) := (Below.refl _ W).alloc hBW _
  refine ⟨(hba.trans hb).mono (by omega), fun k hk _ => (hba.trans hb).block k hk, ?_⟩
  refine ((KeepsOthers.alloc W o).trans (KeepsOthers.of_grownBy hg fun j ob ej hj => ?_)).from B
  rcases (hown.alloc o).2 with ⟨rfl, _⟩ | ⟨g, cap, cur, rfl, _, hgb, _⟩
  · simp [Value.ownBlock] at ej
  · obtain rfl : g = j := by simpa [Value.ownBlock] using ej
    rw [hgb] at hj; cases hj; rfl
/-! Plain: lines cut at the blank. -/
theorem T.cut_free (a : List UInt8) (h : ∀ b ∈ a, b ≠ 32) : Lib.cut a [32] = (a, [], false) := by
  have : Lib.index a [32] = -1 := Lib.index_none fun j hj => by
    unfold Lib.occAt
    rcases Nat.lt_or_ge j a.length with hl | hl
    · rw [List.drop_eq_getElem_cons hl]
      have := h a[j] (List.getElem_mem _)
      simp [List.isPrefixOf]
      intro e; exact this e.symm
    · rw [List.drop_eq_nil_of_le hl]; rfl
  unfold Lib.cut
  rw [if_neg (by omega)]
theorem T.cut_at (a r : List UInt8) (h : ∀ b ∈ a, b ≠ 32) : Lib.cut (a ++ 32 :: r) [32] = (a, r, true) := by
  have hi : Lib.index (a ++ 32 :: r) [32] = (a.length : Int) := Lib.index_first (by simp) (by unfold Lib.occAt; rw [List.drop_left]; simp [List.isPrefixOf]) (fun j hj => by
    unfold Lib.occAt
    rw [List.drop_append_of_le_length (by omega), List.drop_eq_getElem_cons hj, List.cons_append]
    have := h a[j] (List.getElem_mem _)
    simp [List.isPrefixOf]
    intro e; exact this e.symm)
  unfold Lib.cut
  rw [hi, if_pos (by omega), Int.toNat_natCast, List.take_left' rfl]
  have e : (a ++ 32 :: r).drop (a.length + [(32 : UInt8)].length) = r := by
    rw [show a ++ 32 :: r = (a ++ [32]) ++ r by simp, show a.length + [(32 : UInt8)].length = (a ++ [32]).length by simp, List.drop_left]
  rw [e]
theorem T.word29_byte : ∀ k, k < 13 → ∀ b ∈ T.words29.getD k [], b ≠ 32 ∧ b ≠ 10 ∧ b ≠ 35 := T.cases13 ⟨by decide, by decide, by decide, by decide, by decide, by decide, by decide, by decide, by decide, by decide, by decide, by decide, by decide⟩
theorem T.word29_prog : ∀ k, k < 13 → T.words29.getD k [] ≠ [112, 114, 111, 103, 114, 97, 109] ∧ T.words29.getD k [] ≠ [] := T.cases13 ⟨by decide, by decide, by decide, by decide, by decide, by decide, by decide, by decide, by decide, by decide, by decide, by decide, by decide⟩
def T.words29B : List ByteArray := T.words29.map fun l => ⟨l.toArray⟩
theorem T.word29_idx : ∀ k, k < 13 → Lib.idxOfS T.words29B ⟨(T.words29.getD k []).toArray⟩ = (k : Int) := T.cases13 ⟨by decide, by decide, by decide, by decide, by decide, by decide, by decide, by decide, by decide, by decide, by decide, by decide, by decide⟩
/-! Plain: a number's text. -/
theorem T.decDigits_len7 (n k : Nat) (hk : 0 < k) (h : n < 10 ^ k) : (Lib.decDigits n).length ≤ k := by
  induction k generalizing n with
  | zero => omega
  | succ k ih =>
    by_cases h10 : n < 10
    · rw [Lib.decDigits_one h10]; simp
    · rw [decDigits_more n h10, Lib.decDigits_one (show n % 10 < 10 by omega)]
      by_cases hk0 : k = 0
      · subst hk0; simp at h; omega
      · have := ih (n / 10) (by omega) (by rw [Nat.pow_succ] at h; omega)
        simp only [List.length_append, List.length_cons, List.length_nil]; omega
theorem T.decDigits_head (n : Nat) (h : n ≠ 0) : (Lib.decDigits n).head? ≠ some 48 := by
  induction n using Nat.strongRecOn with
  | _ n ih =>
    by_cases h10 : n < 10
    · rw [Lib.decDigits_one h10]
      intro e
      have e1 : UInt8.ofNat (48 + n) = 48 := by simpa using e
      have e2 := congrArg UInt8.toNat e1
      rw [UInt8.toNat_ofNat'] at e2
      have : (48 : UInt8).toNat = 48 := rfl
      omega
    · rw [decDigits_more n h10]
      have hne := T.dec_ne (n / 10)
      have := ih (n / 10) (by omega) (by omega)
      cases hd : Lib.decDigits (n / 10) with
      | nil => exact absurd hd hne
      | cons b l => rw [hd] at this; simpa using this
theorem T.num_text (n : Nat) (h : n < 10000000) : ∃ b l, Lib.itoa (n : Int) = b :: l ∧ T.digits (b :: l) ∧ l.length ≤ 6 ∧ (l ≠ [] → b ≠ 48) ∧ T.decOf (b :: l) = n := by
  rw [Lib.itoa_nonneg]
  have hl := T.decDigits_len7 n 7 (by omega) h
  have hd := T.dec_digit n
  have hv := T.decFrom_dec n
  cases hq : Lib.decDigits n with
  | nil => exact absurd hq (T.dec_ne n)
  | cons b l =>
    rw [hq] at hl hd hv
    refine ⟨b, l, rfl, hd, by simpa using hl, fun hne e => ?_, by unfold T.decOf; rw [hv]; rfl⟩
    by_cases h0 : n = 0
    · subst h0
      rw [Lib.decDigits_one (by omega)] at hq
      injection hq with _ q; exact hne q.symm
    · have := T.decDigits_head n h0
      rw [hq, e] at this; exact this rfl
end Go.Proofs.YtmpjjmilodjecaaGreatDoor
