/- AuditPlants: the plain law; its walk. -/
import Derived.Test.YtofifeicbhbgpaaStays
namespace Go.Proofs.Ytofifeicbhbgpaa
open Go.RowKit Go.Shelf
set_option linter.unusedVariables false
set_option linter.unusedSimpArgs false
attribute [local go_sem] Config.sz Find.sz Event.sz

def T.has (xs : List Find) (k a : Int) : Bool := xs.any fun f => (f.kind == k) && (f.at_ == a)
theorem T.mem_found (c : Config) (xs : List Event) (at_ : Nat) (e : Event) (j : Nat) (h : T.wrong c xs ((j : Int) + 1) e = true) : ∀ k, j < k → (⟨(j : Int) + 1, at_⟩ : Find) ∈ T.found c xs at_ e k
  | 0, hk => by omega
  | k + 1, hk => by
    simp only [T.found, List.mem_append]
    by_cases hjk : j < k
    · exact .inl (T.mem_found c xs at_ e j h k hjk)
    · obtain rfl : j = k := by omega
      right
      rw [if_pos h]
      simp
theorem T.mem_chk (c : Config) (l : List Event) (n : Nat) (e : Event) (he : l[n]? = some e) (f : Find) (hf : f ∈ T.found c (l.take n) n e 12) : ∀ m, n < m → f ∈ T.chk c l m
  | 0, h => by omega
  | m + 1, h => by
    simp only [T.chk, List.mem_append]
    by_cases hnm : n < m
    · exact .inl (T.mem_chk c l n e he f hf m hnm)
    · obtain rfl : n = m := by omega
      right
      rw [he]
      exact hf
theorem T.has_chk (c : Config) (l : List Event) (n : Nat) (e : Event) (j : Nat) (he : l[n]? = some e) (hj : j < 12) (h : T.wrong c (l.take n) ((j : Int) + 1) e = true) : T.has (T.chk c l l.length) ((j : Int) + 1) (n : Int) = true := by
  unfold T.has
  rw [List.any_eq_true]
  exact ⟨_, T.mem_chk c l n e he _ (T.mem_found c _ n e j h 12 hj) l.length (List.getElem?_eq_some_iff.1 he).1, by simp⟩
section
variable (c : Config) (l : List Event) (a : Nat) (e : Event)
def T.dbl (l : List Event) (a : Nat) : List Event := l.take (a + 1) ++ l.drop a
theorem T.dbl_at (he : l[a]? = some e) : (T.dbl l a)[a]? = some e ∧ (T.dbl l a)[a + 1]? = some e ∧ (T.dbl l a).take a = l.take a ∧ (T.dbl l a).take (a + 1) = l.take a ++ [e] := by
  have hl := (List.getElem?_eq_some_iff.1 he).1
  have hlen : (l.take (a + 1)).length = a + 1 := by rw [List.length_take]; omega
  unfold T.dbl
  refine ⟨?_, ?_, ?_, ?_⟩
  · rw [List.getElem?_append_left (by omega), List.getElem?_take, if_pos (by omega)]; exact he
  · rw [List.getElem?_append_right (by omega), hlen, Nat.sub_self, List.getElem?_drop, Nat.add_zero]; exact he
  · rw [List.take_append_of_le_length (by omega), List.take_take, Nat.min_eq_left (by omega)]
  · rw [List.take_append_of_le_length (by omega), List.take_take, Nat.min_self, List.take_add_one, he]; rfl
theorem T.plant3 (he : l[a]? = some e) (hk : e.kind = 3) : T.has (T.chk c (T.dbl l a) (T.dbl l a).length) 3 ((a : Int) + 1) = true := by
  obtain ⟨_, h1, _, h3⟩ := T.dbl_at l a e he
  have := T.has_chk c (T.dbl l a) (a + 1) e 2 h1 (by omega) (by
    rw [h3]
    simp only [T.wrong]
    have hs : T.twice e (l.take a ++ [e]) = true := by
      unfold T.twice
      rw [List.reverse_append, List.reverse_cons, List.reverse_nil, List.nil_append, List.cons_append, List.find?_cons_of_pos (by simp [T.stop, hk])]
      simp [T.hit, hk]
    simp [hk, hs])
  exact this
theorem T.plant7 (he : l[a]? = some e) (hk : e.kind = 7) : T.has (T.chk c (T.dbl l a) (T.dbl l a).length) 6 ((a : Int) + 1) = true := by
  obtain ⟨_, h1, _, h3⟩ := T.dbl_at l a e he
  have := T.has_chk c (T.dbl l a) (a + 1) e 5 h1 (by omega) (by
    rw [h3]
    simp only [T.wrong]
    have hs : T.over e (l.take a ++ [e]) = true := by
      unfold T.over
      rw [List.any_append]
      simp [T.kd, T.p_key, hk]
    simp [hk, hs])
  exact this
theorem T.plant2 (he : l[a]? = some e) (hk : e.kind = 2) : (T.has (T.chk c (T.dbl l a) (T.dbl l a).length) 5 (a : Int) || T.has (T.chk c (T.dbl l a) (T.dbl l a).length) 5 ((a : Int) + 1)) = true := by
  obtain ⟨h0, h1, h2, h3⟩ := T.dbl_at l a e he
  by_cases hb : T.many c e (l.take a) = true
  · have := T.has_chk c (T.dbl l a) a e 4 h0 (by omega) (by
      rw [h2]
      simp only [T.wrong]
      simp [hk, hb])
    have h5 : T.has (T.chk c (T.dbl l a) (T.dbl l a).length) 5 (a : Int) = true := this
    rw [h5]; rfl
  · have hm : T.many c e (l.take a ++ [e]) = true := by
      unfold T.many at hb ⊢
      have hcnt : T.cntE (T.kd 2 (T.pMine e)) (l.take a ++ [e]) = T.cntE (T.kd 2 (T.pMine e)) (l.take a) + 1 := by
        rw [T.cnt_snoc, if_pos (by simp [T.kd, T.pMine, hk])]
      rw [hcnt]
      simp at hb
      simp
      left; left
      omega
    have := T.has_chk c (T.dbl l a) (a + 1) e 4 h1 (by omega) (by
      rw [h3]
      simp only [T.wrong]
      simp [hk, hm])
    have h5 : T.has (T.chk c (T.dbl l a) (T.dbl l a).length) 5 ((a : Int) + 1) = true := this
    rw [h5]; simp
end
theorem T.has_hit (xs : List Find) (k a : Int) (i : Nat) (x : Find) (hx : xs[i]? = some x) (h : ((x.kind == k) && (x.at_ == a)) = true) : T.has xs k a = true := List.any_eq_true.2 ⟨x, List.mem_of_getElem? hx, h⟩
theorem T.has_none (xs : List Find) (k a : Int) (h : ∀ y ∈ xs, ((y.kind == k) && (y.at_ == a)) = false) : T.has xs k a = false := by
  cases hh : T.has xs k a with
  | false => rfl
  | true => obtain ⟨x, hx, h1⟩ := List.any_eq_true.1 hh; rw [h x hx] at h1; cases h1
set_option maxRecDepth 100000 in
set_option maxHeartbeats 1000000 in
theorem has_c (v : Value) (xs : List Find) (k a : Int) (w : World) (h : Sl Find.arr 2 w.heap.size w v xs) :
    Calls Try.prog 14 #[v, .int .i64 k, .int .i64 a] w fun e w' => e = .returned (.bool (T.has xs k a)) ∧ w = w' := by
  obtain ⟨A, cap, rfl, hcap, hl1, hl2⟩ := h.view
  go_enter Try.func14, Try.ntmps14
  go_wp2
  go_loop [7] (fun iv => ∃ i : Nat, i ≤ xs.length ∧ iv = .int .i64 (i : Int) ∧ Hid (∀ y ∈ xs.take i, ((y.kind == k) && (y.at_ == a)) = false)) (fun iv => xs.length - (intOf iv).toNat)
  case atStart => exact ⟨0, Nat.zero_le _, rfl, Lib.hid (by simp)⟩
  case round =>
    obtain ⟨i, hi, rfl, hall⟩ := hrel
    by_cases hil : i < xs.length
    · obtain ⟨b, off, rfl, hb, hrow, _⟩ := h.at hil
      obtain ⟨x, hx⟩ : ∃ x, x = xs[i] := ⟨_, rfl⟩
      rw [← hx] at hrow
      have hxo : xs[i]? = some x := by rw [hx]; exact List.getElem?_eq_getElem hil
      have c0 : w.cell? ⟨b, off + i * 2, none⟩ = some (.int .i64 x.kind) := rowAt_cell hrow 0 (by omega)
      have c1 : w.cell? ⟨b, off + i * 2 + 1, none⟩ = some (.int .i64 x.at_) := rowAt_cell hrow 1 (by omega)
      have hnext : xs.take (i + 1) = xs.take i ++ [x] := by rw [hx]; simp
      have HX := Lib.hid hxo
      have HN := Lib.hid hnext
      clear hx hxo hnext hrow
      rcases and2 (x.kind == k) (x.at_ == a) with ⟨hr, g1⟩ | ⟨hr, g1, g2⟩ | ⟨hr, g1, g2⟩
      · have hz := Lib.hid (show ∀ y ∈ xs.take (i + 1), ((y.kind == k) && (y.at_ == a)) = false by
          rw [HN.out]; intro y hy; rcases List.mem_append.1 hy with hy | hy
          · exact hall.out y hy
          · simp at hy; rw [hy]; exact hr)
        clear hr
        go_wp2
        go_round
        case rel => exact ⟨i + 1, by omega, by go_num, hz⟩
        case measure => simp [intOf]; omega
      · have hz := Lib.hid (show ∀ y ∈ xs.take (i + 1), ((y.kind == k) && (y.at_ == a)) = false by
          rw [HN.out]; intro y hy; rcases List.mem_append.1 hy with hy | hy
          · exact hall.out y hy
          · simp at hy; rw [hy]; exact hr)
        clear hr
        go_wp2
        go_round
        case rel => exact ⟨i + 1, by omega, by go_num, hz⟩
        case measure => simp [intOf]; omega
      · have HR := Lib.hid (T.has_hit xs k a i x HX.out hr)
        clear hr
        go_wp2
        go_ret
        exact ⟨ret_bool HR.out.symm, rfl⟩
    · rw [List.take_of_length_le (by omega)] at hall
      have HR := Lib.hid (T.has_none xs k a hall.out)
      go_wp2
      go_ret
      exact ⟨ret_bool HR.out.symm, rfl⟩
end Go.Proofs.Ytofifeicbhbgpaa
