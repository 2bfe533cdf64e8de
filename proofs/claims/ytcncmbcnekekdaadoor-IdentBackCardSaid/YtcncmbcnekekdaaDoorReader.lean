/- Reading bytes: the program's reader. -/
import Derived.Test.YtcncmbcnekekdaaDoorCode
import Derived.Test.YtcncmbcnekekdaaDoorParses
import Derived.Laws.BitsAllLaws
namespace Go.Proofs.YtcncmbcnekekdaaDoor
open Go.RowKit Go.Shelf
set_option linter.unusedVariables false
set_option linter.unusedSimpArgs false
theorem bytes_from (l : List UInt8) (k : Nat) : (ByteArray.mk l.toArray).extract k l.length = ⟨(l.drop k).toArray⟩ := by
  rw [ByteArray.ext_iff, ByteArray.data_extract]
  simp
  exact List.take_of_length_le (by simp)
/-- The reader in block g holds the bytes l, and nothing is wrong. -/
def Rd (g : Nat) (l : List UInt8) (w : World) : Prop := w.heap[g]? = some (.cells #[strV l, .int .i64 0] 113 (0, 0))
theorem Rd.cells {g : Nat} {l : List UInt8} {w : World} (h : Rd g l w) : w.cell? ⟨g, 0, none⟩ = some (strV l) ∧ w.cell? ⟨g, 1, none⟩ = some (.int .i64 0) ∧ w.frozen? ⟨g, 0, none⟩ = false ∧ g < w.heap.size := by
  unfold Rd at h
  refine ⟨?_, ?_, ?_, (Array.getElem?_eq_some_iff.1 h).1⟩ <;> simp [World.cell?, World.frozen?, h]
theorem Rd.set {g : Nat} {l m : List UInt8} {w : World} (h : Rd g l w) : Rd g m (w.setCell ⟨g, 0, none⟩ (strV m)) := by
  have := heap_setCell_same w g 0 _ _ (strV m) h
  exact this
theorem Rd.below {g : Nat} {l : List UInt8} {w w' : World} (h : Rd g l w) (hb : Below w.heap.size w w') : Rd g l w' := (hb.block g h.cells.2.2.2).trans h
set_option maxRecDepth 100000 in
set_option maxHeartbeats 2000000 in
theorem take_c (g n : Nat) (l : List UInt8) (w : World) (h : Rd g l w) (hn : n ≤ l.length) (hl : l.length ≤ 1000) :
    Calls Tryd.prog 100 #[.pointer (some ⟨g, 0, none⟩), .int .i64 (n : Int)] w fun r w' => r = .returned (.tuple #[strV (l.take n), .bool true]) ∧ w' = w.setCell ⟨g, 0, none⟩ (strV (l.drop n)) := by
  obtain ⟨c0, c1, f0, _⟩ := h.cells
  have HC := Lib.hid (bytes_cut l n)
  have HD := Lib.hid (bytes_from l n)
  have hs : (ByteArray.mk l.toArray).size = l.length := by simp [ByteArray.size]
  go_enter Tryd.func100, Tryd.ntmps100
  go_wp2
  rw [HC.out, HD.out]
  go_ret2
  exact ⟨rfl, rfl⟩
/-- The number that bytes are, the highest one first. -/
def T.val (l : List UInt8) : Nat := l.foldl (fun n b => n * 256 + b.toNat) 0
theorem T.val_snoc (l : List UInt8) (b : UInt8) : T.val (l ++ [b]) = T.val l * 256 + b.toNat := by simp [T.val]
theorem T.val_lt (l : List UInt8) : T.val l < 256 ^ l.length := by
  have key : ∀ n (l : List UInt8), l.length = n → T.val l < 256 ^ n := by
    intro n
    induction n with
    | zero => intro l h; rw [List.eq_nil_of_length_eq_zero h]; simp [T.val]
    | succ n ih =>
      intro l h
      have hne : l ≠ [] := by intro e; rw [e] at h; simp at h
      rw [← List.dropLast_concat_getLast hne, T.val_snoc, Nat.pow_succ]
      have h1 := ih l.dropLast (by rw [List.length_dropLast]; omega)
      have := UInt8.toNat_lt (l.getLast hne)
      omega
  exact key _ l rfl
theorem i64_or_nat (a b : Nat) (ha : a < 4611686018427387904) (hb : b < 4611686018427387904) : bits .or .i64 (a : Int) (b : Int) = ((a ||| b : Nat) : Int) := by
  have hx : a ||| b < 2 ^ 62 := Nat.or_lt_two_pow (by omega) (by omega)
  show IntKind.i64.wrap ((BitVec.ofInt 64 (a : Int) ||| BitVec.ofInt 64 (b : Int)).toNat : Int) = _
  rw [BitVec.toNat_or, ofInt_u64 a (by omega), ofInt_u64 b (by omega)]
  exact IntWalk.i64_in _ (by omega)
theorem T.or_add (q b : Nat) (hq : q < 65536) (hb : b < 256) : bits .or .i64 ((q : Int) * 256) (b : Int) = ((q * 256 + b : Nat) : Int) := by
  have h := i64_or_nat (q * 256) b (by omega) (by omega)
  rw [show ((q * 256 : Nat) : Int) = (q : Int) * 256 by omega] at h
  rw [h]
  have := Nat.two_pow_add_eq_or_of_lt (b := b) (i := 8) (by omega) q
  rw [show q * 256 = 2 ^ 8 * q by omega, ← this]
theorem T.val_be (n k : Nat) (h : n < 256 ^ k) : T.val (T.be n k) = n := by
  induction k generalizing n with
  | zero => simp at h; subst h; rfl
  | succ k ih =>
    rw [T.be, T.val_snoc, ih (n / 256) (by rw [Nat.pow_succ] at h; omega), UInt8.toNat_ofNat']
    omega
set_option maxRecDepth 100000 in
set_option maxHeartbeats 2000000 in
theorem rdNum_c (g wd : Nat) (p rest : List UInt8) (w : World) (h : Rd g (p ++ rest) w) (hp : p.length = wd) (h1 : 1 ≤ wd) (h3 : wd ≤ 3) (hl : (p ++ rest).length ≤ 1000) :
    Calls Tryd.prog 77 #[.pointer (some ⟨g, 0, none⟩), .int .i64 (wd : Int)] w fun r w' => r = .returned (.int .i64 (T.val p : Int)) ∧ w' = w.setCell ⟨g, 0, none⟩ (strV rest) := by
  have ht := take_c g wd (p ++ rest) w h (by rw [List.length_append]; omega) hl
  rw [show (p ++ rest).take wd = p by rw [← hp]; simp, show (p ++ rest).drop wd = rest by rw [← hp]; simp] at ht
  have HP := Lib.hid hp
  clear h hl
  go_enter Tryd.func77, Tryd.ntmps77
  go_wp2_with (go_at_call 100; (with_reducible refine ht.mono ?_); rintro r w1 ⟨rfl, rfl⟩)
  go_loop [7, 27] (fun n i => ∃ k : Nat, k ≤ wd ∧ n = .int .i64 (T.val (p.take k) : Int) ∧ i = .int .i64 (k : Int)) (fun _ i => wd - (intOf i).toNat)
  case atStart => exact ⟨0, Nat.zero_le _, rfl, rfl⟩
  case round =>
    obtain ⟨k, hk, rfl, rfl⟩ := hrel
    by_cases hkw : k < wd
    · have hkp : k < p.length := by omega
      obtain ⟨b, hb⟩ : ∃ b : Nat, b = p[k].toNat := ⟨_, rfl⟩
      have hb8 : b < 256 := by rw [hb]; exact UInt8.toNat_lt _
      have hbb : ((ByteArray.mk p.toArray)[k]'(by simpa [ByteArray.size] using hkp)).toNat = b := by rw [hb]; rfl
      have hst := Lib.hid (show T.val (p.take (k + 1)) = T.val (p.take k) * 256 + b by rw [show p.take (k + 1) = p.take k ++ [p[k]] by simp, T.val_snoc, hb])
      have hv := T.val_lt (p.take k)
      have hv2 : T.val (p.take k) < 65536 := by
        rw [List.length_take] at hv
        have : min k p.length ≤ 2 := by omega
        have := Nat.pow_le_pow_right (show 0 < 256 by omega) this
        omega
      obtain ⟨q, hq⟩ : ∃ q, q = T.val (p.take k) := ⟨_, rfl⟩
      rw [← hq] at hst hv2
      rw [← hq]
      clear hq hv hb ht
      have hs : (ByteArray.mk p.toArray).size = p.length := by simp [ByteArray.size]
      have hor := Lib.hid (T.or_add q b hv2 hb8)
      go_wp2
      exact ⟨⟨k + 1, by omega, by rw [hor.out, hst.out], by go_num⟩, by simp [intOf]; omega⟩
    · obtain rfl : k = wd := by omega
      have hR := Lib.hid (show p.take k = p by rw [← HP.out]; simp)
      have hs : (ByteArray.mk p.toArray).size = p.length := by simp [ByteArray.size]
      clear ht
      rw [hR.out]
      go_wp2
      go_ret
      exact ⟨rfl, rfl⟩
theorem rdNum1_c (g : Nat) (p rest : List UInt8) (w : World) (h : Rd g (p ++ rest) w) (hp : p.length = 1) (hl : (p ++ rest).length ≤ 1000) :
    Calls Tryd.prog 77 #[.pointer (some ⟨g, 0, none⟩), .int .i64 1] w fun r w' => r = .returned (.int .i64 (T.val p : Int)) ∧ w' = w.setCell ⟨g, 0, none⟩ (strV rest) := rdNum_c g 1 p rest w h hp (by omega) (by omega) hl
theorem rdNum2_c (g : Nat) (p rest : List UInt8) (w : World) (h : Rd g (p ++ rest) w) (hp : p.length = 2) (hl : (p ++ rest).length ≤ 1000) :
    Calls Tryd.prog 77 #[.pointer (some ⟨g, 0, none⟩), .int .i64 2] w fun r w' => r = .returned (.int .i64 (T.val p : Int)) ∧ w' = w.setCell ⟨g, 0, none⟩ (strV rest) := rdNum_c g 2 p rest w h hp (by omega) (by omega) hl
theorem rdNum3_c (g : Nat) (p rest : List UInt8) (w : World) (h : Rd g (p ++ rest) w) (hp : p.length = 3) (hl : (p ++ rest).length ≤ 1000) :
    Calls Tryd.prog 77 #[.pointer (some ⟨g, 0, none⟩), .int .i64 3] w fun r w' => r = .returned (.int .i64 (T.val p : Int)) ∧ w' = w.setCell ⟨g, 0, none⟩ (strV rest) := rdNum_c g 3 p rest w h hp (by omega) (by omega) hl
end Go.Proofs.YtcncmbcnekekdaaDoor
