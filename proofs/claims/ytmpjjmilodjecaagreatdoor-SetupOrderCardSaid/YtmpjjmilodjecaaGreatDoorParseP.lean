/- Parsing an id: the plain laws: the program's way, the document's way, the same. -/
import Derived.Test.YtmpjjmilodjecaaGreatDoorAtoi
import Derived.Test.YtmpjjmilodjecaaGreatDoorIdR
namespace Go.Proofs.YtmpjjmilodjecaaGreatDoor
open Go.RowKit Go.Shelf
set_option linter.unusedVariables false
set_option linter.unusedSimpArgs false
theorem T.dec_len (k n : Nat) (h : n < 10 ^ k) (hk : 1 ≤ k) : (Lib.decDigits n).length ≤ k := by
  induction k generalizing n with
  | zero => omega
  | succ k ih =>
    by_cases h10 : n < 10
    · rw [Lib.decDigits_one h10]; simp
    · have hk1 : 1 ≤ k := by
        rcases Nat.eq_zero_or_pos k with rfl | h0
        · simp at h; omega
        · exact h0
      have := ih (n / 10) (by rw [Nat.pow_succ] at h; omega) hk1
      rw [decDigits_more n h10, Lib.decDigits_one (show n % 10 < 10 by omega)]
      simp; omega
/-- The program's way. -/
def T.partN (l : List UInt8) (i : Nat) : Int := match (T.parts 46 l)[i]? with
  | some p => T.atoi p
  | none => 0
def T.parseId (l : List UInt8) : Id := ⟨T.partN l 0, T.partN l 1, T.partN l 2⟩
theorem T.partN_i64 (l : List UInt8) (i : Nat) : i64 (T.partN l i) := by
  unfold T.partN
  split
  · exact T.atoi_i64 _
  · unfold i64; omega
theorem T.parseId_ok (l : List UInt8) : Id.ok (T.parseId l) := ⟨T.partN_i64 l 0, T.partN_i64 l 1, T.partN_i64 l 2⟩
def T.zeroId : Id := ⟨0, 0, 0⟩
def T.parse (l : List UInt8) : Id × Bool := if T.idRight (T.parseId l) = true ∧ T.idText (T.parseId l) = l then (T.parseId l, true) else (T.zeroId, false)
/-- The document's way. -/
structure Scan where
  p : Nat
  x : Int
  y : Int
  z : Int
def Scan.get (s : Scan) : Int := if s.p = 0 then s.x else if s.p = 1 then s.y else s.z
def Scan.set (s : Scan) (v : Int) : Scan := if s.p = 0 then ⟨s.p, v, s.y, s.z⟩ else if s.p = 1 then ⟨s.p, s.x, v, s.z⟩ else ⟨s.p, s.x, s.y, v⟩
def Scan.next (s : Scan) : Scan := ⟨s.p + 1, s.x, s.y, s.z⟩
theorem Scan.set_p (s : Scan) (v : Int) : (s.set v).p = s.p := by unfold Scan.set; split <;> (try split) <;> rfl
theorem Scan.get_set (s : Scan) (v : Int) : (s.set v).get = v := by
  unfold Scan.get
  rw [Scan.set_p]
  unfold Scan.set
  split
  · rfl
  · split <;> rfl
theorem Scan.set_set (s : Scan) (u v : Int) : (s.set u).set v = s.set v := by
  have h := Scan.set_p s u
  rw [Scan.set, h]
  unfold Scan.set
  by_cases h0 : s.p = 0
  · simp [h0]
  · by_cases h1 : s.p = 1
    · simp [h0, h1]
    · simp [h0, h1]
def T.stepI (s : Scan) (b : Nat) : Option Scan :=
  if b = 46 then (if 2 ≤ s.p then none else some s.next)
  else if b < 48 ∨ 57 < b ∨ 100000000 < s.get then none
  else some (s.set (10 * s.get + (b : Int) - 48))
def T.scan : Scan → List UInt8 → Option Scan
  | s, [] => some s
  | s, b :: l => (T.stepI s b.toNat).bind fun t => T.scan t l
theorem T.scan_append (l m : List UInt8) (s : Scan) : T.scan s (l ++ m) = (T.scan s l).bind fun t => T.scan t m := by
  induction l generalizing s with
  | nil => rfl
  | cons b l ih =>
    simp only [List.cons_append, T.scan]
    cases T.stepI s b.toNat with
    | none => rfl
    | some t => exact ih t
theorem T.scan_snoc (l : List UInt8) (b : UInt8) (s : Scan) : T.scan s (l ++ [b]) = (T.scan s l).bind fun t => T.stepI t b.toNat := by
  rw [T.scan_append]
  congr 1
  funext t
  simp only [T.scan]
  cases T.stepI t b.toNat <;> rfl
def Scan.ok (s : Scan) : Prop := s.p ≤ 2 ∧ 0 ≤ s.x ∧ s.x ≤ 1000000009 ∧ 0 ≤ s.y ∧ s.y ≤ 1000000009 ∧ 0 ≤ s.z ∧ s.z ≤ 1000000009
theorem Scan.get_bd {s : Scan} (h : s.ok) : 0 ≤ s.get ∧ s.get ≤ 1000000009 := by
  obtain ⟨hp, h1, h2, h3, h4, h5, h6⟩ := h
  unfold Scan.get
  split
  · omega
  · split <;> omega
theorem T.stepI_ok {s t : Scan} {b : Nat} (hs : s.ok) (h : T.stepI s b = some t) : t.ok := by
  unfold T.stepI at h
  have hg := Scan.get_bd hs
  obtain ⟨hp, h1, h2, h3, h4, h5, h6⟩ := hs
  split at h
  · split at h
    · cases h
    · injection h with h; subst h; exact ⟨by simp only [Scan.next]; omega, h1, h2, h3, h4, h5, h6⟩
  · split at h
    · cases h
    · injection h with h
      subst h
      unfold Scan.set Scan.ok
      split
      · simp only; omega
      · split <;> simp only <;> omega
theorem T.scan_ok (l : List UInt8) (s t : Scan) (hs : s.ok) (h : T.scan s l = some t) : t.ok := by
  induction l generalizing s with
  | nil => injection h with h; subst h; exact hs
  | cons b l ih =>
    simp only [T.scan] at h
    cases hb : T.stepI s b.toNat with
    | none => rw [hb] at h; cases h
    | some u => rw [hb] at h; exact ih u (T.stepI_ok hs hb) h
def T.scan0 : Scan := ⟨0, 0, 0, 0⟩
theorem T.scan0_ok : T.scan0.ok := by unfold Scan.ok T.scan0; simp
def Scan.id (s : Scan) : Id := ⟨s.x, s.y, s.z⟩
def T.rparse (l : List UInt8) : Id × Bool := match T.scan T.scan0 l with
  | none => (T.zeroId, false)
  | some t => if T.idRight t.id = true ∧ T.idText t.id = l then (t.id, true) else (T.zeroId, false)
theorem T.scan_none (l m : List UInt8) (h : T.scan T.scan0 l = none) : T.rparse (l ++ m) = (T.zeroId, false) := by
  have := T.scan_append l m T.scan0
  rw [h] at this
  simp only [T.rparse, this]
  rfl
theorem T.dg_toNat (n : Nat) (h : n < 10) : (UInt8.ofNat (48 + n)).toNat = 48 + n := by
  match n, h with
  | 0, _ | 1, _ | 2, _ | 3, _ | 4, _ | 5, _ | 6, _ | 7, _ | 8, _ | 9, _ => rfl
theorem T.scan_dec (m : Nat) : m ≤ 999999999 → ∀ s : Scan, s.get = 0 → T.scan s (Lib.decDigits m) = some (s.set (m : Int)) := by
  induction m using Nat.strongRecOn with
  | _ m ih =>
    intro hm s hs
    by_cases h : m < 10
    · rw [Lib.decDigits_one h]
      simp only [T.scan, T.stepI, T.dg_toNat m h, hs]
      rw [if_neg (by omega), if_neg (by omega)]
      simp only [Option.bind_some]
      congr 2
      omega
    · rw [decDigits_more m h, Lib.decDigits_one (show m % 10 < 10 by omega), T.scan_snoc, ih (m / 10) (by omega) (by omega) s hs]
      simp only [Option.bind_some, T.stepI, T.dg_toNat _ (show m % 10 < 10 by omega), Scan.get_set, Scan.set_set]
      rw [if_neg (by omega), if_neg (by omega)]
      congr 2
      omega
theorem T.dec_ne46 (n : Nat) : ∀ b ∈ Lib.decDigits n, b ≠ 46 := by
  intro b hb e
  have := T.dec_digit n b hb
  rw [e] at this
  exact absurd this (by decide)
theorem T.right_nat {d : Id} (h : T.idRight d = true) : ∃ a b c : Nat, d = ⟨a, b, c⟩ ∧ a ≤ 63 ∧ b ≤ 65535 ∧ c ≤ 16777215 := by
  simp only [T.idRight, decide_eq_true_eq] at h
  obtain ⟨x, y, z⟩ := d
  simp only at h
  exact ⟨x.toNat, y.toNat, z.toNat, by congr <;> omega, by omega, by omega, by omega⟩
theorem T.idText_nat (a b c : Nat) : T.idText ⟨a, b, c⟩ = Lib.decDigits a ++ 46 :: (Lib.decDigits b ++ 46 :: Lib.decDigits c) := by
  simp [T.idText, Lib.itoa_nonneg]
theorem T.parse_text {d : Id} (h : T.idRight d = true) : T.parseId (T.idText d) = d := by
  obtain ⟨a, b, c, rfl, ha, hb, hc⟩ := T.right_nat h
  have hp : T.parts 46 (T.idText ⟨a, b, c⟩) = [Lib.decDigits a, Lib.decDigits b, Lib.decDigits c] := by
    rw [T.idText_nat, T.parts_app 46 _ _ (T.dec_ne46 a), T.parts_app 46 _ _ (T.dec_ne46 b), T.parts_free 46 _ (T.dec_ne46 c)]
  have ea := T.dec_len 8 a (by omega) (by omega)
  have eb := T.dec_len 8 b (by omega) (by omega)
  have ec := T.dec_len 8 c (by omega) (by omega)
  simp only [T.parseId, T.partN, hp]
  simp only [List.getElem?_cons_zero, List.getElem?_cons_succ]
  rw [T.atoi_dec a (by omega), T.atoi_dec b (by omega), T.atoi_dec c (by omega)]
theorem T.scan_text {d : Id} (h : T.idRight d = true) : T.scan T.scan0 (T.idText d) = some ⟨2, d.node, d.inc, d.seq⟩ := by
  obtain ⟨a, b, c, rfl, ha, hb, hc⟩ := T.right_nat h
  rw [T.idText_nat, T.scan_append, T.scan_dec a (by omega) T.scan0 rfl]
  simp only [Option.bind_some, T.scan]
  have e1 : T.stepI (T.scan0.set (a : Int)) (46 : UInt8).toNat = some ⟨1, a, 0, 0⟩ := rfl
  rw [e1]
  simp only [Option.bind_some]
  rw [T.scan_append, T.scan_dec b (by omega) ⟨1, a, 0, 0⟩ rfl]
  simp only [Option.bind_some, T.scan]
  have e2 : T.stepI ((⟨1, a, 0, 0⟩ : Scan).set (b : Int)) (46 : UInt8).toNat = some ⟨2, a, b, 0⟩ := rfl
  rw [e2]
  simp only [Option.bind_some]
  rw [T.scan_dec c (by omega) ⟨2, a, b, 0⟩ rfl]
  rfl
/-- Both ways come to the same. -/
theorem T.parse_same (l : List UInt8) : T.rparse l = T.parse l := by
  by_cases h : ∃ d, T.idRight d = true ∧ T.idText d = l
  · obtain ⟨d, hd, rfl⟩ := h
    have h1 : T.parse (T.idText d) = (d, true) := by rw [T.parse, T.parse_text hd, if_pos ⟨hd, rfl⟩]
    have h2 : T.rparse (T.idText d) = (d, true) := by
      rw [T.rparse, T.scan_text hd]
      show (if T.idRight d = true ∧ T.idText d = T.idText d then _ else _) = _
      rw [if_pos ⟨hd, rfl⟩]
      rfl
    rw [h1, h2]
  · have h1 : T.parse l = (T.zeroId, false) := by rw [T.parse, if_neg fun hh => h ⟨_, hh⟩]
    rw [h1, T.rparse]
    split
    · rfl
    · rw [if_neg fun hh => h ⟨_, hh⟩]
theorem T.parse_back {d : Id} (h : T.idRight d = true) : T.parse (T.idText d) = (d, true) := by rw [T.parse, T.parse_text h, if_pos ⟨h, rfl⟩]
end Go.Proofs.YtmpjjmilodjecaaGreatDoor
