/- chain: what a program comes to, as a plain function; who waits longer tells no other value. -/
import Derived.Test.YtofifeicbhbgpaaStepsC
namespace Go.Proofs.Ytofifeicbhbgpaa
set_option linter.unusedVariables false
set_option linter.unusedSimpArgs false

/-- While a program's steps are gone through. -/
structure Pst where
  t : Int
  ready : Int
  value : Int
  spawns : Int
  calls : Int
  open_ : Bool
def T.ans (late : Int) (s : Pst) (v : Int) : Int × Option (Int × Int) := if s.open_ = true then (s.calls, none) else (s.calls, some (s.t + 2 + 2 * late, v % 2147483648))
def T.ops (late fan : Int) (rec : Nat → Int → Int × Option (Int × Int)) : List GoOp → Pst → Int × Option (Int × Int)
  | [], s => T.ans late s s.value
  | o :: l, s =>
    if o.kind = 1 then T.ops late fan rec l { s with t := s.t + o.a }
    else if o.kind = 2 then
      match rec o.b.toNat s.calls with
      | (k, some (r, v)) => if fan < s.spawns + 1 then (k, none) else T.ops late fan rec l ⟨s.t + 1, max s.ready (s.t + r), (s.value + v) % 2147483648, s.spawns + 1, k, true⟩
      | (k, none) => (k, none)
    else if o.kind = 3 then T.ops late fan rec l { s with t := max s.t s.ready + 1, open_ := false }
    else if o.kind = 4 then T.ops late fan rec l { s with t := s.t + 1 }
    else if o.kind = 5 then T.ans late s (s.value + o.a)
    else (s.calls, none)
def T.plan (progs : List (List GoOp)) (hops fan late : Int) : Nat → Nat → Int → Int → Int × Option (Int × Int)
  | 0, _, _, calls => (calls + 1, none)
  | f + 1, at_, hop, calls =>
    if hops < hop ∨ 25 < calls + 1 then (calls + 1, none)
    else T.ops late fan (fun b k => T.plan progs hops fan late f b (hop + 1) k) ((progs[at_]?).getD []) ⟨0, 0, 0, 0, calls + 1, false⟩

/-- Behind a wait of late rounds, against none. -/
def T.lateR (late : Int) (x y : Int × Option (Int × Int)) : Prop :=
  x.1 = y.1 ∧ match x.2, y.2 with
    | some (r, v), some (r', v') => v = v' ∧ r' + 2 * late ≤ r
    | none, none => True
    | _, _ => False
def T.lateS (s s' : Pst) : Prop := s'.t ≤ s.t ∧ s'.ready ≤ s.ready ∧ s.value = s'.value ∧ s.spawns = s'.spawns ∧ s.calls = s'.calls ∧ s.open_ = s'.open_
theorem T.ans_late (late : Int) (s s' : Pst) (v : Int) (h : T.lateS s s') : T.lateR late (T.ans late s v) (T.ans 0 s' v) := by
  obtain ⟨h1, h2, h3, h4, h5, h6⟩ := h
  unfold T.ans T.lateR
  rw [h6]
  cases s'.open_
  · simp [h5]; omega
  · simp [h5]
theorem T.ops_late (late fan : Int) (h0 : 0 ≤ late) (rec rec' : Nat → Int → Int × Option (Int × Int)) (hrec : ∀ b k, T.lateR late (rec b k) (rec' b k)) : ∀ (l : List GoOp) (s s' : Pst), T.lateS s s' → T.lateR late (T.ops late fan rec l s) (T.ops 0 fan rec' l s')
  | [], s, s', h => by unfold T.ops; rw [h.2.2.1]; exact T.ans_late late s s' _ h
  | o :: l, s, s', h => by
    have hh := h
    obtain ⟨h1, h2, h3, h4, h5, h6⟩ := h
    unfold T.ops
    by_cases k1 : o.kind = 1
    · rw [if_pos k1, if_pos k1]
      exact T.ops_late late fan h0 rec rec' hrec l _ _ ⟨by show s'.t + o.a ≤ s.t + o.a; omega, h2, h3, h4, h5, h6⟩
    rw [if_neg k1, if_neg k1]
    by_cases k2 : o.kind = 2
    · rw [if_pos k2, if_pos k2, h5]
      have hr := hrec o.b.toNat s'.calls
      unfold T.lateR at hr
      generalize rec o.b.toNat s'.calls = x at *
      generalize rec' o.b.toNat s'.calls = y at *
      obtain ⟨xk, xo⟩ := x
      obtain ⟨yk, yo⟩ := y
      simp only at hr
      obtain ⟨hk, hr⟩ := hr
      subst hk
      cases xo with
      | none =>
        cases yo with
        | none => exact ⟨rfl, trivial⟩
        | some q => exact absurd hr (by simp)
      | some p =>
        cases yo with
        | none => exact absurd hr (by obtain ⟨r, v⟩ := p; simp)
        | some q =>
          obtain ⟨r, v⟩ := p
          obtain ⟨r', v'⟩ := q
          simp only at hr ⊢
          obtain ⟨hv, hr⟩ := hr
          rw [h4]
          by_cases hf : fan < s'.spawns + 1
          · rw [if_pos hf, if_pos hf]; exact ⟨rfl, trivial⟩
          · rw [if_neg hf, if_neg hf]
            refine T.ops_late late fan h0 rec rec' hrec l _ _ ⟨?_, ?_, ?_, rfl, rfl, rfl⟩
            · show s'.t + 1 ≤ s.t + 1; omega
            · show max s'.ready (s'.t + r') ≤ max s.ready (s.t + r); omega
            · show (s.value + v) % 2147483648 = (s'.value + v') % 2147483648; rw [h3, hv]
    rw [if_neg k2, if_neg k2]
    by_cases k3 : o.kind = 3
    · rw [if_pos k3, if_pos k3]
      exact T.ops_late late fan h0 rec rec' hrec l _ _ ⟨by show max s'.t s'.ready + 1 ≤ max s.t s.ready + 1; omega, h2, h3, h4, h5, rfl⟩
    rw [if_neg k3, if_neg k3]
    by_cases k4 : o.kind = 4
    · rw [if_pos k4, if_pos k4]
      exact T.ops_late late fan h0 rec rec' hrec l _ _ ⟨by show s'.t + 1 ≤ s.t + 1; omega, h2, h3, h4, h5, h6⟩
    rw [if_neg k4, if_neg k4]
    by_cases k5 : o.kind = 5
    · rw [if_pos k5, if_pos k5, h3]
      exact T.ans_late late s s' _ hh
    · rw [if_neg k5, if_neg k5]
      exact ⟨h5, trivial⟩
theorem T.plan_late (progs : List (List GoOp)) (hops fan late : Int) (h0 : 0 ≤ late) : ∀ (f at_ : Nat) (hop calls : Int), T.lateR late (T.plan progs hops fan late f at_ hop calls) (T.plan progs hops fan 0 f at_ hop calls)
  | 0, _, _, _ => ⟨rfl, trivial⟩
  | f + 1, at_, hop, calls => by
    unfold T.plan
    split
    · exact ⟨rfl, trivial⟩
    · exact T.ops_late late fan h0 _ _ (fun b k => T.plan_late progs hops fan late h0 f b (hop + 1) k) _ _ _ ⟨by omega, by omega, rfl, rfl, rfl, rfl⟩

/-! Bounds. -/
/-- Of a call that began with k calls: how many there are behind it, how many rounds, which values. -/
def T.planB (late k : Int) (x : Int × Option (Int × Int)) : Prop :=
  k + 1 ≤ x.1 ∧ x.1 ≤ 26 ∧ match x.2 with
    | some (r, v) => x.1 ≤ 25 ∧ 2 + 2 * late ≤ r ∧ r ≤ 16024 * (x.1 - k) ∧ 0 ≤ v ∧ v < 2147483648
    | none => True
/-- Behind j steps of a call that began with k calls. -/
def T.stB (k : Int) (j : Nat) (s : Pst) : Prop :=
  k + 1 ≤ s.calls ∧ s.calls ≤ 25 ∧ 0 ≤ s.t ∧ s.t ≤ 1001 * j + 16024 * (s.calls - (k + 1)) ∧ 0 ≤ s.ready ∧ s.ready ≤ 1001 * j + 16024 * (s.calls - (k + 1)) ∧ 0 ≤ s.value ∧ s.value < 2147483648 ∧ 0 ≤ s.spawns ∧ s.spawns ≤ j
theorem T.ans_b (late k : Int) (h0 : 0 ≤ late) (h3 : late ≤ 3) (s : Pst) (v : Int) (j : Nat) (hj : j ≤ 16) (h : T.stB k j s) (hv : 0 ≤ v) : T.planB late k (T.ans late s v) := by
  obtain ⟨h1, h2, h4, h5, h6, h7, h8, h9, h10, h11⟩ := h
  unfold T.ans T.planB
  split
  · exact ⟨h1, by show s.calls ≤ 26; omega, trivial⟩
  · exact ⟨h1, by show s.calls ≤ 26; omega, h2, by show 2 + 2 * late ≤ s.t + 2 + 2 * late; omega, by show s.t + 2 + 2 * late ≤ 16024 * (s.calls - k); omega, by show 0 ≤ v % 2147483648; omega, by show v % 2147483648 < 2147483648; omega⟩
theorem T.ops_b (late fan k : Int) (h0 : 0 ≤ late) (h3 : late ≤ 3) (rec : Nat → Int → Int × Option (Int × Int)) (hrec : ∀ b q, k + 1 ≤ q → q ≤ 25 → T.planB late q (rec b q)) (n m : Int) :
    ∀ (l : List GoOp) (s : Pst) (j : Nat), j + l.length ≤ 16 → (∀ o ∈ l, T.opOk o n m = true) → T.stB k j s → T.planB late k (T.ops late fan rec l s)
  | [], s, j, hj, _, h => by unfold T.ops; exact T.ans_b late k h0 h3 s _ j (by simpa using hj) h h.2.2.2.2.2.2.1
  | o :: l, s, j, hj, hok, h => by
    have hh := h
    obtain ⟨h1, h2, h4, h5, h6, h7, h8, h9, h10, h11⟩ := h
    have ho := hok o List.mem_cons_self
    have hl : ∀ o ∈ l, T.opOk o n m = true := fun q hq => hok q (List.mem_cons_of_mem _ hq)
    simp only [List.length_cons] at hj
    unfold T.ops
    by_cases k1 : o.kind = 1
    · rw [if_pos k1]
      have hw : 1 ≤ o.a ∧ o.a ≤ 1000 := by unfold T.opOk at ho; rw [if_pos k1] at ho; simp at ho; exact ho.2
      exact T.ops_b late fan k h0 h3 rec hrec n m l _ (j + 1) (by omega) hl ⟨h1, h2, by show 0 ≤ s.t + o.a; omega, by show s.t + o.a ≤ 1001 * ((j + 1 : Nat) : Int) + 16024 * (s.calls - (k + 1)); omega, h6, by show s.ready ≤ 1001 * ((j + 1 : Nat) : Int) + 16024 * (s.calls - (k + 1)); omega, h8, h9, h10, by show s.spawns ≤ ((j + 1 : Nat) : Int); omega⟩
    rw [if_neg k1]
    by_cases k2 : o.kind = 2
    · rw [if_pos k2]
      have hr := hrec o.b.toNat s.calls h1 h2
      generalize rec o.b.toNat s.calls = x at *
      obtain ⟨xk, xo⟩ := x
      unfold T.planB at hr
      obtain ⟨r1, r2, hr⟩ := hr
      simp only at r1 r2
      cases xo with
      | none => exact ⟨by show k + 1 ≤ xk; omega, r2, trivial⟩
      | some p =>
        obtain ⟨r, v⟩ := p
        simp only at hr ⊢
        obtain ⟨q1, q2, q3, q4, q5⟩ := hr
        split
        · exact ⟨by show k + 1 ≤ xk; omega, r2, trivial⟩
        · refine T.ops_b late fan k h0 h3 rec hrec n m l _ (j + 1) (by omega) hl ⟨?_, q1, ?_, ?_, ?_, ?_, ?_, ?_, ?_, ?_⟩
          · show k + 1 ≤ xk; omega
          · show 0 ≤ s.t + 1; omega
          · show s.t + 1 ≤ 1001 * ((j + 1 : Nat) : Int) + 16024 * (xk - (k + 1)); omega
          · show 0 ≤ max s.ready (s.t + r); omega
          · show max s.ready (s.t + r) ≤ 1001 * ((j + 1 : Nat) : Int) + 16024 * (xk - (k + 1)); omega
          · show 0 ≤ (s.value + v) % 2147483648; omega
          · show (s.value + v) % 2147483648 < 2147483648; omega
          · show 0 ≤ s.spawns + 1; omega
          · show s.spawns + 1 ≤ ((j + 1 : Nat) : Int); omega
    rw [if_neg k2]
    by_cases k3 : o.kind = 3
    · rw [if_pos k3]
      exact T.ops_b late fan k h0 h3 rec hrec n m l _ (j + 1) (by omega) hl ⟨h1, h2, by show 0 ≤ max s.t s.ready + 1; omega, by show max s.t s.ready + 1 ≤ 1001 * ((j + 1 : Nat) : Int) + 16024 * (s.calls - (k + 1)); omega, h6, by show s.ready ≤ 1001 * ((j + 1 : Nat) : Int) + 16024 * (s.calls - (k + 1)); omega, h8, h9, h10, by show s.spawns ≤ ((j + 1 : Nat) : Int); omega⟩
    rw [if_neg k3]
    by_cases k4 : o.kind = 4
    · rw [if_pos k4]
      exact T.ops_b late fan k h0 h3 rec hrec n m l _ (j + 1) (by omega) hl ⟨h1, h2, by show 0 ≤ s.t + 1; omega, by show s.t + 1 ≤ 1001 * ((j + 1 : Nat) : Int) + 16024 * (s.calls - (k + 1)); omega, h6, by show s.ready ≤ 1001 * ((j + 1 : Nat) : Int) + 16024 * (s.calls - (k + 1)); omega, h8, h9, h10, by show s.spawns ≤ ((j + 1 : Nat) : Int); omega⟩
    rw [if_neg k4]
    by_cases k5 : o.kind = 5
    · rw [if_pos k5]
      have hw : 0 ≤ o.a := by unfold T.opOk at ho; rw [if_neg k1, if_neg k2, if_pos k5] at ho; simp at ho; exact ho.2.1
      exact T.ans_b late k h0 h3 s _ j (by omega) hh (by omega)
    · rw [if_neg k5]
      exact ⟨h1, by show s.calls ≤ 26; omega, trivial⟩
theorem T.plan_b (progs : List (List GoOp)) (hops fan late n m : Int) (h0 : 0 ≤ late) (h3 : late ≤ 3) (hok : ∀ l ∈ progs, l.length ≤ 16 ∧ ∀ o ∈ l, T.opOk o n m = true) : ∀ (f at_ : Nat) (hop calls : Int), calls ≤ 25 → T.planB late calls (T.plan progs hops fan late f at_ hop calls)
  | 0, _, _, calls, h => ⟨by show calls + 1 ≤ calls + 1; omega, by show calls + 1 ≤ 26; omega, trivial⟩
  | f + 1, at_, hop, calls, h => by
    unfold T.plan
    split
    · exact ⟨by show calls + 1 ≤ calls + 1; omega, by show calls + 1 ≤ 26; omega, trivial⟩
    · rename_i hc
      have hl : ((progs[at_]?).getD []).length ≤ 16 ∧ ∀ o ∈ (progs[at_]?).getD [], T.opOk o n m = true := by
        cases hp : progs[at_]? with
        | none => simp
        | some l => exact hok l (List.mem_of_getElem? hp)
      exact T.ops_b late fan calls h0 h3 _ (fun b q _ hq => T.plan_b progs hops fan late n m h0 h3 hok f b (hop + 1) q hq) n m _ _ 0 (by omega) hl.2 ⟨by show calls + 1 ≤ calls + 1; omega, by show calls + 1 ≤ 25; omega, by show (0 : Int) ≤ 0; omega, by show (0 : Int) ≤ 1001 * ((0 : Nat) : Int) + 16024 * (calls + 1 - (calls + 1)); omega, by show (0 : Int) ≤ 0; omega, by show (0 : Int) ≤ 1001 * ((0 : Nat) : Int) + 16024 * (calls + 1 - (calls + 1)); omega, by show (0 : Int) ≤ 0; omega, by show (0 : Int) < 2147483648; omega, by show (0 : Int) ≤ 0; omega, by show (0 : Int) ≤ ((0 : Nat) : Int); omega⟩
end Go.Proofs.Ytofifeicbhbgpaa
