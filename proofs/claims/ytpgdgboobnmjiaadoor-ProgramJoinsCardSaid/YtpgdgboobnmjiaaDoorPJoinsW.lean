/- ProgramJoins: its walk. -/
import Derived.Test.YtpgdgboobnmjiaaDoorPAwake
import Derived.Test.YtpgdgboobnmjiaaDoorPSame
import Derived.Test.YtpgdgboobnmjiaaDoorRow
namespace Go.Proofs.YtpgdgboobnmjiaaDoor
open Go.RowKit Go.Shelf
set_option linter.unusedVariables false
set_option linter.unusedSimpArgs false
theorem run_append_owned_empty {P : Program} {w : World} (base : Nat) (t ty e : TypeId) (i : TypeInfo) (size : Nat) (ht : P.underlying t = some (.slice e)) (hi : P.info? e = some i)
    (v : Value) (n : Nat) (xs : List Value) (A : Option Addr) (c : Nat) (hown : w.ownsRow base e size v n xs) :
    (Builtin.append_ #[t, t] ty #[v, .slice A 0 c]).run P w = .ok v w := by
  cases A with
  | none => 
    rcases hown.2 with ⟨rfl, rfl⟩ | ⟨g, cap, cur, rfl, _, _, hnc, _⟩
    · simp [Builtin.append_, run_underlying ht, sizeOf, typeInfo, hi, Builtin.lenOf, Builtin.firstCells]
    · simp [Builtin.append_, run_underlying ht, sizeOf, typeInfo, hi, Builtin.lenOf, Builtin.firstCells, hnc, storeCells]
  | some a =>
    rcases hown.2 with ⟨rfl, rfl⟩ | ⟨g, cap, cur, rfl, _, _, hnc, _⟩
    · simp [Builtin.append_, run_underlying ht, sizeOf, typeInfo, hi, Builtin.lenOf, Builtin.firstCells, loadCells, loadCellsFrom]
    · simp [Builtin.append_, run_underlying ht, sizeOf, typeInfo, hi, Builtin.lenOf, Builtin.firstCells, hnc, storeCells, loadCells, loadCellsFrom]
/-- append of a slice, whatever its length. -/
theorem wpList_appendS {P : Program} {ops : Array Oper} {rest : List Oper} {o : Oper} {a : Act} {w : World} {Q : Exit → Act → World → Prop} {α : Type} (arr : α → Array Value) (sz : Nat) (hgd : o.guard = none) (s x : Operand) (t : TypeId)
    (ho : o.op = .call { callee := .builtin .append, args := #[s, x], argTypes := #[t, t] })
    (base : Nat) (e : TypeId) (bytes : Nat) (ht : P.underlying t = some (.slice e)) (hi : rowInfo P e = some (sz, bytes)) (hsz : 0 < sz) (hs : ∀ x, (arr x).size = sz) (h1 : ∀ x, (arr x).all (·.oneCell') = true)
    (v : Value) (xs ys : List α) (hv : a.eval s = v) (hown : Own arr sz base e w v xs) (A : Option Addr) (cap B : Nat) (hu : a.eval x = .slice A ys.length cap) (hsrc : Sl arr sz B w (.slice A ys.length cap) ys)
    (hbytes : (xs.length + ys.length) * bytes ≤ 140737488355328) (h63 : xs.length + ys.length ≤ 9223372036854775807) (hbase : base ≤ w.heap.size)
    (h : ∀ v' w', Own arr sz base e w' v' (xs ++ ys) → Below base w w' → wpList P ops Q rest (a.put o.dst v') w') : wpList P ops Q (o :: rest) a w := by
  by_cases hy : ys = []
  · subst hy
    obtain ⟨i, z, hq, hi1, hi2, hi3, hz⟩ := rowInfo_some hi
    refine wpList_plain hgd fun K hK => ?_
    have hrun := run_append_owned_empty (P := P) (w := w) base t o.type e i sz ht hq v xs.length _ A cap hown
    unfold Oper.wp
    simp only [List.length_nil] at hu
    simp [execOp, ho, resolve, invoke, builtin, hv, hu, hrun, Result.andThen]
    exact hK _ _ (h v w (by simpa using hown) (Below.refl _ _))
  · exact wpList_appendN arr sz hgd s x t ho base e bytes ht hi hsz hs h1 v _ xs ys hv hown hu (hsrc.src hy) hbytes h63 hbase fun v' w' h1 _ h3 => h v' w' h1 h3
/-! Plain: two programs, one behind the other. -/
theorem T.joinS_app (ps qs : List (List UInt8)) : T.joinS (ps ++ qs) = if ps = [] then T.joinS qs else if qs = [] then T.joinS ps else T.joinS ps ++ ([59, 32] ++ T.joinS qs) := by
  induction ps with
  | nil => simp
  | cons p ps ih =>
    rw [List.cons_append, show T.joinS (p :: (ps ++ qs)) = if ps ++ qs = [] then p else p ++ ([59, 32] ++ T.joinS (ps ++ qs)) from rfl, show T.joinS (p :: ps) = if ps = [] then p else p ++ ([59, 32] ++ T.joinS ps) from rfl, ih, if_neg (List.cons_ne_nil p ps)]
    by_cases h1 : ps = []
    · subst h1
      by_cases h2 : qs = []
      · subst h2; rfl
      · simp [h2]
    · by_cases h2 : qs = []
      · subst h2; simp [h1]
      · simp [h1, h2]
theorem T.progText_app (xs ys : List GoOp) (h : (xs ++ ys).all T.known = true) : T.progText (xs ++ ys) = if xs = [] then T.progText ys else if ys = [] then T.progText xs else T.progText xs ++ ([59, 32] ++ T.progText ys) := by
  have h12 := h
  rw [List.all_append, Bool.and_eq_true] at h12
  have e1 : T.progText (xs ++ ys) = T.joinS ((xs ++ ys).map T.opText) := if_pos h
  have e2 : T.progText xs = T.joinS (xs.map T.opText) := if_pos h12.1
  have e3 : T.progText ys = T.joinS (ys.map T.opText) := if_pos h12.2
  rw [e1, e2, e3, List.map_append, T.joinS_app]
  simp only [List.map_eq_nil_iff]
theorem T.pright_app (xs ys : List GoOp) (n m : Int) : T.pright (xs ++ ys) n m = (T.pright xs n m && T.pright ys n m && decide ((xs ++ ys).length ≤ 16)) := by
  unfold T.pright
  rw [List.all_append, List.length_append]
  by_cases h : xs.length + ys.length ≤ 16
  · rw [decide_eq_true h, decide_eq_true (show xs.length ≤ 16 by omega), decide_eq_true (show ys.length ≤ 16 by omega)]
    simp
  · rw [decide_eq_false h]; simp
theorem T.foldl_add (l : List Int) : ∀ s : Int, l.foldl (· + ·) s = s + l.foldl (· + ·) 0 := by
  induction l with
  | nil => intro s; simp
  | cons x l ih => intro s; rw [List.foldl_cons, ih, List.foldl_cons, ih (0 + x)]; omega
theorem T.units_app (xs ys : List GoOp) : T.units (xs ++ ys) = T.units xs + T.units ys := by
  unfold T.units
  rw [List.map_append, List.foldl_append, T.foldl_add]
theorem T.progText_len (xs : List GoOp) (h : ∀ x ∈ xs, GoOp.ok x) : (T.progText xs).length ≤ 52 * xs.length := by
  unfold T.progText
  split
  · rename_i hk; exact T.joinS_len xs h hk
  · simp
theorem bytes_nil_append (b : ByteArray) : ByteArray.mk #[] ++ b = b := by
  apply ByteArray.ext; simp
theorem bytes_append_nil (b : ByteArray) : b ++ ByteArray.mk #[] = b := by
  apply ByteArray.ext; simp
attribute [local go_sem] GoOp.sz bw_cell
set_option maxRecDepth 100000 in
set_option maxHeartbeats 8000000 in
theorem programJoins_g (v : Value) (xs : List GoOp) (u : Value) (ys : List GoOp) (a b : Int) (w : World) (he : Env w) (h : Sl GoOp.arr 3 w.heap.size w v xs) (hok : ∀ x ∈ xs, GoOp.ok x) (hz : xs.length * 24 ≤ 140737488351232)
    (h' : Sl GoOp.arr 3 w.heap.size w u ys) (hok' : ∀ x ∈ ys, GoOp.ok x) (hz' : ys.length * 24 ≤ 140737488351232) (_ : i64 a) (_ : i64 b) :
    Calls Tryd.prog 10 #[v, u, .int .i64 a, .int .i64 b] w fun e w' => e = .returned (.bool true) ∧ Below w.heap.size w w' := by
  obtain ⟨A, cap, rfl, hcap, hl1, hl2⟩ := h.view
  obtain ⟨A', cap', rfl, hcap', hl1', hl2'⟩ := h'.view
  have HEV := Lib.hid (fun (X : World) (hX : Below w.heap.size w X) => awake22_c X (he.below hX))
  have HOK := Lib.hid hok
  have HOK' := Lib.hid hok'
  have HOKS := Lib.hid (show ∀ x ∈ xs ++ ys, GoOp.ok x from fun x hx => (List.mem_append.1 hx).elim (hok x) (hok' x))
  clear hok hok'
  by_cases h20 : xs.length ≤ 20
  · have h1 : ¬ (20 : Int) < xs.length := by omega
    have h1d : decide ((20 : Int) < xs.length) = false := decide_eq_false h1
    by_cases h20' : ys.length ≤ 20
    · have h2 : ¬ (20 : Int) < ys.length := by omega
      have S (X : World) (hX : Below w.heap.size w X) : Sl GoOp.arr 3 X.heap.size X (.slice A xs.length cap) xs := (h.below hX).mono hX.size
      have S' (X : World) (hX : Below w.heap.size w X) : Sl GoOp.arr 3 X.heap.size X (.slice A' ys.length cap') ys := (h'.below hX).mono hX.size
      have hx3 := T.units_bd xs
      have hy3 := T.units_bd ys
      have pl1 := T.progText_len xs HOK.out
      have pl2 := T.progText_len ys HOK'.out
      go_enter Tryd.func10, Tryd.ntmps10
      go_upto_region 6 with (first | (at_builtin; refine wpList_appendS GoOp.arr 3 rfl _ _ _ rfl w.heap.size 51 24 Tryd.underlying48 (by kernel_rfl) (by decide) GoOp.sz GoOp.one _ [] xs rfl Own.nil A cap _ rfl h (by simp; omega) (by simp; omega) (Nat.le_refl _) ?_; intro v1 w1 hown1 hb1; rw [List.nil_append] at hown1; have hS1 := S' w1 hb1; obtain ⟨A1, n1, c1, rfl⟩ := hown1.shape) | (at_builtin; refine wpList_appendS GoOp.arr 3 rfl _ _ _ rfl w.heap.size 51 24 Tryd.underlying48 (by kernel_rfl) (by decide) GoOp.sz GoOp.one _ xs ys rfl hown1 A' cap' _ rfl hS1 (by omega) (by omega) hb1.size ?_; intro v2 w2 hown2 hb2))
      obtain ⟨A2, n2, c2, rfl⟩ := hown2.shape
      obtain rfl : n2 = (xs ++ ys).length := own_cntG hown2
      have hB2 := hb1.trans hb2
      have hSl := hown2.sl GoOp.sz
      clear hown1 hown2 hb1 hb2 hS1
      have hB2s := hB2.size
      have hf (X : World) (hX : Below w2.heap.size w2 X) : Below w.heap.size w X := bthen hB2 hX
      have SL (X : World) (hX : Below w2.heap.size w2 X) : Sl GoOp.arr 3 X.heap.size X (.slice A2 (xs ++ ys).length c2) (xs ++ ys) := (hSl.below hX).mono hX.size
      have HKN := Lib.hid (fun (X : World) (hX : Below w2.heap.size w2 X) => (known_c _ (xs ++ ys) X (SL X hX) (by simp; omega)).mono fun r w' hh => (⟨hh.1, by rw [hh.2]; exact Below.refl _ _⟩ : r = .returned (.bool ((xs ++ ys).all T.known)) ∧ Below X.heap.size X w'))
      have HTA := Lib.hid (fun (X : World) (hX : Below w2.heap.size w2 X) => ptext_c _ xs X (S X (hf X hX)) HOK.out (by omega) (he.below (hf X hX)).tab)
      have HTB := Lib.hid (fun (X : World) (hX : Below w2.heap.size w2 X) => ptext_c _ ys X (S' X (hf X hX)) HOK'.out (by omega) (he.below (hf X hX)).tab)
      have HTL := Lib.hid (fun (X : World) (hX : Below w2.heap.size w2 X) => ptext_c _ (xs ++ ys) X (SL X hX) HOKS.out (by simp; omega) (he.below (hf X hX)).tab)
      have HRA := Lib.hid (fun (X : World) (hX : Below w2.heap.size w2 X) => pright_c _ xs a b X (S X (hf X hX)) (by omega))
      have HRB := Lib.hid (fun (X : World) (hX : Below w2.heap.size w2 X) => pright_c _ ys a b X (S' X (hf X hX)) (by omega))
      have HRL := Lib.hid (fun (X : World) (hX : Below w2.heap.size w2 X) => pright_c _ (xs ++ ys) a b X (SL X hX) (by simp; omega))
      have HUA := Lib.hid (fun (X : World) (hX : Below w2.heap.size w2 X) => units_c _ xs X (S X (hf X hX)) (by omega))
      have HUB := Lib.hid (fun (X : World) (hX : Below w2.heap.size w2 X) => units_c _ ys X (S' X (hf X hX)) (by omega))
      have HUL := Lib.hid (fun (X : World) (hX : Below w2.heap.size w2 X) => units_c _ (xs ++ ys) X (SL X hX) (by simp; omega))
      have HAW := Lib.hid (fun (X : World) (hX : Below w2.heap.size w2 X) => HEV.out X (hf X hX))
      have hcur : Below w2.heap.size w2 w2 := Below.refl _ _
      have HB2 := Lib.hid hB2
      have hx0 : T.progText ([] : List GoOp) = [] := rfl
      have eT := T.progText_app xs ys
      have eN : (xs ++ ys).all T.known = false → T.progText (xs ++ ys) = [] := fun hh => if_neg (by rw [hh]; simp)
      have eR := T.pright_app xs ys a b
      have eU := T.units_app xs ys
      have n3e : (xs ++ ys).length = xs.length + ys.length := List.length_append
      have nx : xs = [] ↔ xs.length = 0 := List.length_eq_zero_iff.symm
      have ny : ys = [] ↔ ys.length = 0 := List.length_eq_zero_iff.symm
      simp only [nx, ny] at eT
      have hxe : xs.length = 0 → T.progText xs = [] := fun hh => by rw [nx.2 hh]; rfl
      have hye : ys.length = 0 → T.progText ys = [] := fun hh => by rw [ny.2 hh]; rfl
      clear nx ny hx0 S S' SL hSl HOK HOK' HOKS h h' hB2s hf HEV hB2 hl1 hl2 hl1' hl2' hz hz'
      generalize (xs ++ ys).all T.known = kb at HKN eT eN
      generalize T.progText (xs ++ ys) = pl at HTL eT eN
      generalize T.pright (xs ++ ys) a b = prl at HRL eR
      generalize T.units (xs ++ ys) = ul at HUL eU
      generalize T.progText xs = pa at HTA eT pl1 hxe
      generalize T.progText ys = pb at HTB eT pl2 hye
      generalize T.pright xs a b = pr1 at HRA eR
      generalize T.pright ys a b = pr2 at HRB eR
      generalize T.units xs = ua at HUA eU hx3
      generalize T.units ys = ub at HUB eU hy3
      have hw1 : IntKind.i64.wrap (ua + ub) = ua + ub := IntWalk.i64_in _ (by omega)
      subst eU
      generalize (xs ++ ys).length = n3 at *
      generalize xs.length = n1 at *
      generalize ys.length = n2 at *
      have pl3 : pa.length ≤ 1040 := by omega
      have pl4 : pb.length ≤ 1040 := by omega
      clear pl1 pl2 hcap hcap' hx3 hy3 n3e
      rcases kb with _ | _
      · obtain rfl := eN rfl
        clear eT eN
        rcases pr1 with _ | _
        · obtain rfl : prl = false := by rw [eR]; rfl
          clear eR
          go_wp2_with (first | (go_at_call 36; (with_reducible refine (HKN.out _ hcur).mono ?_); rintro r wn ⟨rfl, hbn⟩; replace hcur := bthen hcur hbn; clear hbn) | (go_at_call 31; (with_reducible refine (HTA.out _ hcur).mono ?_); rintro r wn ⟨rfl, hbn⟩; replace hcur := bthen hcur hbn; clear hbn) | (go_at_call 31; (with_reducible refine (HTB.out _ hcur).mono ?_); rintro r wn ⟨rfl, hbn⟩; replace hcur := bthen hcur hbn; clear hbn) | (go_at_call 31; (with_reducible refine (HTL.out _ hcur).mono ?_); rintro r wn ⟨rfl, hbn⟩; replace hcur := bthen hcur hbn; clear hbn) | (go_at_call 27; (with_reducible refine (HRA.out _ hcur).mono ?_); rintro r wn ⟨rfl, hbn⟩; replace hcur := bthen hcur hbn; clear hbn) | (go_at_call 27; (with_reducible refine (HRB.out _ hcur).mono ?_); rintro r wn ⟨rfl, hbn⟩; replace hcur := bthen hcur hbn; clear hbn) | (go_at_call 27; (with_reducible refine (HRL.out _ hcur).mono ?_); rintro r wn ⟨rfl, hbn⟩; replace hcur := bthen hcur hbn; clear hbn) | (go_at_call 29; (with_reducible refine (HUA.out _ hcur).mono ?_); rintro r wn ⟨rfl, hbn⟩; replace hcur := bthen hcur hbn; clear hbn) | (go_at_call 29; (with_reducible refine (HUB.out _ hcur).mono ?_); rintro r wn ⟨rfl, hbn⟩; replace hcur := bthen hcur hbn; clear hbn) | (go_at_call 29; (with_reducible refine (HUL.out _ hcur).mono ?_); rintro r wn ⟨rfl, hbn⟩; replace hcur := bthen hcur hbn; clear hbn) | (go_at_call 24; (with_reducible refine (HAW.out _ hcur).mono ?_); rintro r wn ⟨rfl, hbn⟩; replace hcur := bthen hcur hbn; clear hbn))
          go_ret
          exact ⟨rfl, bthen HB2.out hcur⟩
        · rcases pr2 with _ | _
          · obtain rfl : prl = false := by rw [eR]; rfl
            clear eR
            go_wp2_with (first | (go_at_call 36; (with_reducible refine (HKN.out _ hcur).mono ?_); rintro r wn ⟨rfl, hbn⟩; replace hcur := bthen hcur hbn; clear hbn) | (go_at_call 31; (with_reducible refine (HTA.out _ hcur).mono ?_); rintro r wn ⟨rfl, hbn⟩; replace hcur := bthen hcur hbn; clear hbn) | (go_at_call 31; (with_reducible refine (HTB.out _ hcur).mono ?_); rintro r wn ⟨rfl, hbn⟩; replace hcur := bthen hcur hbn; clear hbn) | (go_at_call 31; (with_reducible refine (HTL.out _ hcur).mono ?_); rintro r wn ⟨rfl, hbn⟩; replace hcur := bthen hcur hbn; clear hbn) | (go_at_call 27; (with_reducible refine (HRA.out _ hcur).mono ?_); rintro r wn ⟨rfl, hbn⟩; replace hcur := bthen hcur hbn; clear hbn) | (go_at_call 27; (with_reducible refine (HRB.out _ hcur).mono ?_); rintro r wn ⟨rfl, hbn⟩; replace hcur := bthen hcur hbn; clear hbn) | (go_at_call 27; (with_reducible refine (HRL.out _ hcur).mono ?_); rintro r wn ⟨rfl, hbn⟩; replace hcur := bthen hcur hbn; clear hbn) | (go_at_call 29; (with_reducible refine (HUA.out _ hcur).mono ?_); rintro r wn ⟨rfl, hbn⟩; replace hcur := bthen hcur hbn; clear hbn) | (go_at_call 29; (with_reducible refine (HUB.out _ hcur).mono ?_); rintro r wn ⟨rfl, hbn⟩; replace hcur := bthen hcur hbn; clear hbn) | (go_at_call 29; (with_reducible refine (HUL.out _ hcur).mono ?_); rintro r wn ⟨rfl, hbn⟩; replace hcur := bthen hcur hbn; clear hbn) | (go_at_call 24; (with_reducible refine (HAW.out _ hcur).mono ?_); rintro r wn ⟨rfl, hbn⟩; replace hcur := bthen hcur hbn; clear hbn))
            go_ret
            exact ⟨rfl, bthen HB2.out hcur⟩
          · by_cases h16 : n3 ≤ 16
            · obtain rfl : prl = true := by rw [eR, decide_eq_true h16]; rfl
              clear eR
              have h16I : (n3 : Int) ≤ 16 := by omega
              clear h16
              go_wp2_with (first | (go_at_call 36; (with_reducible refine (HKN.out _ hcur).mono ?_); rintro r wn ⟨rfl, hbn⟩; replace hcur := bthen hcur hbn; clear hbn) | (go_at_call 31; (with_reducible refine (HTA.out _ hcur).mono ?_); rintro r wn ⟨rfl, hbn⟩; replace hcur := bthen hcur hbn; clear hbn) | (go_at_call 31; (with_reducible refine (HTB.out _ hcur).mono ?_); rintro r wn ⟨rfl, hbn⟩; replace hcur := bthen hcur hbn; clear hbn) | (go_at_call 31; (with_reducible refine (HTL.out _ hcur).mono ?_); rintro r wn ⟨rfl, hbn⟩; replace hcur := bthen hcur hbn; clear hbn) | (go_at_call 27; (with_reducible refine (HRA.out _ hcur).mono ?_); rintro r wn ⟨rfl, hbn⟩; replace hcur := bthen hcur hbn; clear hbn) | (go_at_call 27; (with_reducible refine (HRB.out _ hcur).mono ?_); rintro r wn ⟨rfl, hbn⟩; replace hcur := bthen hcur hbn; clear hbn) | (go_at_call 27; (with_reducible refine (HRL.out _ hcur).mono ?_); rintro r wn ⟨rfl, hbn⟩; replace hcur := bthen hcur hbn; clear hbn) | (go_at_call 29; (with_reducible refine (HUA.out _ hcur).mono ?_); rintro r wn ⟨rfl, hbn⟩; replace hcur := bthen hcur hbn; clear hbn) | (go_at_call 29; (with_reducible refine (HUB.out _ hcur).mono ?_); rintro r wn ⟨rfl, hbn⟩; replace hcur := bthen hcur hbn; clear hbn) | (go_at_call 29; (with_reducible refine (HUL.out _ hcur).mono ?_); rintro r wn ⟨rfl, hbn⟩; replace hcur := bthen hcur hbn; clear hbn) | (go_at_call 24; (with_reducible refine (HAW.out _ hcur).mono ?_); rintro r wn ⟨rfl, hbn⟩; replace hcur := bthen hcur hbn; clear hbn))
              go_ret
              exact ⟨rfl, bthen HB2.out hcur⟩
            · obtain rfl : prl = false := by rw [eR, decide_eq_false h16]; rfl
              clear eR
              have h16I : ¬ (n3 : Int) ≤ 16 := by omega
              have h16d : decide ((n3 : Int) ≤ 16) = false := decide_eq_false h16I
              clear h16
              go_wp2_with (first | (go_at_call 36; (with_reducible refine (HKN.out _ hcur).mono ?_); rintro r wn ⟨rfl, hbn⟩; replace hcur := bthen hcur hbn; clear hbn) | (go_at_call 31; (with_reducible refine (HTA.out _ hcur).mono ?_); rintro r wn ⟨rfl, hbn⟩; replace hcur := bthen hcur hbn; clear hbn) | (go_at_call 31; (with_reducible refine (HTB.out _ hcur).mono ?_); rintro r wn ⟨rfl, hbn⟩; replace hcur := bthen hcur hbn; clear hbn) | (go_at_call 31; (with_reducible refine (HTL.out _ hcur).mono ?_); rintro r wn ⟨rfl, hbn⟩; replace hcur := bthen hcur hbn; clear hbn) | (go_at_call 27; (with_reducible refine (HRA.out _ hcur).mono ?_); rintro r wn ⟨rfl, hbn⟩; replace hcur := bthen hcur hbn; clear hbn) | (go_at_call 27; (with_reducible refine (HRB.out _ hcur).mono ?_); rintro r wn ⟨rfl, hbn⟩; replace hcur := bthen hcur hbn; clear hbn) | (go_at_call 27; (with_reducible refine (HRL.out _ hcur).mono ?_); rintro r wn ⟨rfl, hbn⟩; replace hcur := bthen hcur hbn; clear hbn) | (go_at_call 29; (with_reducible refine (HUA.out _ hcur).mono ?_); rintro r wn ⟨rfl, hbn⟩; replace hcur := bthen hcur hbn; clear hbn) | (go_at_call 29; (with_reducible refine (HUB.out _ hcur).mono ?_); rintro r wn ⟨rfl, hbn⟩; replace hcur := bthen hcur hbn; clear hbn) | (go_at_call 29; (with_reducible refine (HUL.out _ hcur).mono ?_); rintro r wn ⟨rfl, hbn⟩; replace hcur := bthen hcur hbn; clear hbn) | (go_at_call 24; (with_reducible refine (HAW.out _ hcur).mono ?_); rintro r wn ⟨rfl, hbn⟩; replace hcur := bthen hcur hbn; clear hbn))
              go_ret
              exact ⟨rfl, bthen HB2.out hcur⟩
      · clear eN
        rcases Nat.eq_zero_or_pos n1 with rfl | hp1
        · have ep := eT rfl
          rw [if_pos rfl] at ep
          obtain rfl := hxe rfl
          subst ep
          have e3 : (ByteArray.mk #[] ++ ByteArray.mk pl.toArray) = ByteArray.mk pl.toArray := bytes_nil_append _
          have HE3 := Lib.hid e3
          clear eT hye hxe e3
          rcases pr1 with _ | _
          · obtain rfl : prl = false := by rw [eR]; rfl
            clear eR
            go_upto_region 12 with (first | (go_at_call 36; (with_reducible refine (HKN.out _ hcur).mono ?_); rintro r wn ⟨rfl, hbn⟩; replace hcur := bthen hcur hbn; clear hbn) | (go_at_call 31; (with_reducible refine (HTA.out _ hcur).mono ?_); rintro r wn ⟨rfl, hbn⟩; replace hcur := bthen hcur hbn; clear hbn) | (go_at_call 31; (with_reducible refine (HTB.out _ hcur).mono ?_); rintro r wn ⟨rfl, hbn⟩; replace hcur := bthen hcur hbn; clear hbn) | (go_at_call 31; (with_reducible refine (HTL.out _ hcur).mono ?_); rintro r wn ⟨rfl, hbn⟩; replace hcur := bthen hcur hbn; clear hbn) | (go_at_call 27; (with_reducible refine (HRA.out _ hcur).mono ?_); rintro r wn ⟨rfl, hbn⟩; replace hcur := bthen hcur hbn; clear hbn) | (go_at_call 27; (with_reducible refine (HRB.out _ hcur).mono ?_); rintro r wn ⟨rfl, hbn⟩; replace hcur := bthen hcur hbn; clear hbn) | (go_at_call 27; (with_reducible refine (HRL.out _ hcur).mono ?_); rintro r wn ⟨rfl, hbn⟩; replace hcur := bthen hcur hbn; clear hbn) | (go_at_call 29; (with_reducible refine (HUA.out _ hcur).mono ?_); rintro r wn ⟨rfl, hbn⟩; replace hcur := bthen hcur hbn; clear hbn) | (go_at_call 29; (with_reducible refine (HUB.out _ hcur).mono ?_); rintro r wn ⟨rfl, hbn⟩; replace hcur := bthen hcur hbn; clear hbn) | (go_at_call 29; (with_reducible refine (HUL.out _ hcur).mono ?_); rintro r wn ⟨rfl, hbn⟩; replace hcur := bthen hcur hbn; clear hbn) | (go_at_call 24; (with_reducible refine (HAW.out _ hcur).mono ?_); rintro r wn ⟨rfl, hbn⟩; replace hcur := bthen hcur hbn; clear hbn))
            rw [HE3.out]
            go_wp2_with (first | (go_at_call 36; (with_reducible refine (HKN.out _ hcur).mono ?_); rintro r wn ⟨rfl, hbn⟩; replace hcur := bthen hcur hbn; clear hbn) | (go_at_call 31; (with_reducible refine (HTA.out _ hcur).mono ?_); rintro r wn ⟨rfl, hbn⟩; replace hcur := bthen hcur hbn; clear hbn) | (go_at_call 31; (with_reducible refine (HTB.out _ hcur).mono ?_); rintro r wn ⟨rfl, hbn⟩; replace hcur := bthen hcur hbn; clear hbn) | (go_at_call 31; (with_reducible refine (HTL.out _ hcur).mono ?_); rintro r wn ⟨rfl, hbn⟩; replace hcur := bthen hcur hbn; clear hbn) | (go_at_call 27; (with_reducible refine (HRA.out _ hcur).mono ?_); rintro r wn ⟨rfl, hbn⟩; replace hcur := bthen hcur hbn; clear hbn) | (go_at_call 27; (with_reducible refine (HRB.out _ hcur).mono ?_); rintro r wn ⟨rfl, hbn⟩; replace hcur := bthen hcur hbn; clear hbn) | (go_at_call 27; (with_reducible refine (HRL.out _ hcur).mono ?_); rintro r wn ⟨rfl, hbn⟩; replace hcur := bthen hcur hbn; clear hbn) | (go_at_call 29; (with_reducible refine (HUA.out _ hcur).mono ?_); rintro r wn ⟨rfl, hbn⟩; replace hcur := bthen hcur hbn; clear hbn) | (go_at_call 29; (with_reducible refine (HUB.out _ hcur).mono ?_); rintro r wn ⟨rfl, hbn⟩; replace hcur := bthen hcur hbn; clear hbn) | (go_at_call 29; (with_reducible refine (HUL.out _ hcur).mono ?_); rintro r wn ⟨rfl, hbn⟩; replace hcur := bthen hcur hbn; clear hbn) | (go_at_call 24; (with_reducible refine (HAW.out _ hcur).mono ?_); rintro r wn ⟨rfl, hbn⟩; replace hcur := bthen hcur hbn; clear hbn))
            go_ret
            exact ⟨rfl, bthen HB2.out hcur⟩
          · rcases pr2 with _ | _
            · obtain rfl : prl = false := by rw [eR]; rfl
              clear eR
              go_upto_region 12 with (first | (go_at_call 36; (with_reducible refine (HKN.out _ hcur).mono ?_); rintro r wn ⟨rfl, hbn⟩; replace hcur := bthen hcur hbn; clear hbn) | (go_at_call 31; (with_reducible refine (HTA.out _ hcur).mono ?_); rintro r wn ⟨rfl, hbn⟩; replace hcur := bthen hcur hbn; clear hbn) | (go_at_call 31; (with_reducible refine (HTB.out _ hcur).mono ?_); rintro r wn ⟨rfl, hbn⟩; replace hcur := bthen hcur hbn; clear hbn) | (go_at_call 31; (with_reducible refine (HTL.out _ hcur).mono ?_); rintro r wn ⟨rfl, hbn⟩; replace hcur := bthen hcur hbn; clear hbn) | (go_at_call 27; (with_reducible refine (HRA.out _ hcur).mono ?_); rintro r wn ⟨rfl, hbn⟩; replace hcur := bthen hcur hbn; clear hbn) | (go_at_call 27; (with_reducible refine (HRB.out _ hcur).mono ?_); rintro r wn ⟨rfl, hbn⟩; replace hcur := bthen hcur hbn; clear hbn) | (go_at_call 27; (with_reducible refine (HRL.out _ hcur).mono ?_); rintro r wn ⟨rfl, hbn⟩; replace hcur := bthen hcur hbn; clear hbn) | (go_at_call 29; (with_reducible refine (HUA.out _ hcur).mono ?_); rintro r wn ⟨rfl, hbn⟩; replace hcur := bthen hcur hbn; clear hbn) | (go_at_call 29; (with_reducible refine (HUB.out _ hcur).mono ?_); rintro r wn ⟨rfl, hbn⟩; replace hcur := bthen hcur hbn; clear hbn) | (go_at_call 29; (with_reducible refine (HUL.out _ hcur).mono ?_); rintro r wn ⟨rfl, hbn⟩; replace hcur := bthen hcur hbn; clear hbn) | (go_at_call 24; (with_reducible refine (HAW.out _ hcur).mono ?_); rintro r wn ⟨rfl, hbn⟩; replace hcur := bthen hcur hbn; clear hbn))
              rw [HE3.out]
              go_wp2_with (first | (go_at_call 36; (with_reducible refine (HKN.out _ hcur).mono ?_); rintro r wn ⟨rfl, hbn⟩; replace hcur := bthen hcur hbn; clear hbn) | (go_at_call 31; (with_reducible refine (HTA.out _ hcur).mono ?_); rintro r wn ⟨rfl, hbn⟩; replace hcur := bthen hcur hbn; clear hbn) | (go_at_call 31; (with_reducible refine (HTB.out _ hcur).mono ?_); rintro r wn ⟨rfl, hbn⟩; replace hcur := bthen hcur hbn; clear hbn) | (go_at_call 31; (with_reducible refine (HTL.out _ hcur).mono ?_); rintro r wn ⟨rfl, hbn⟩; replace hcur := bthen hcur hbn; clear hbn) | (go_at_call 27; (with_reducible refine (HRA.out _ hcur).mono ?_); rintro r wn ⟨rfl, hbn⟩; replace hcur := bthen hcur hbn; clear hbn) | (go_at_call 27; (with_reducible refine (HRB.out _ hcur).mono ?_); rintro r wn ⟨rfl, hbn⟩; replace hcur := bthen hcur hbn; clear hbn) | (go_at_call 27; (with_reducible refine (HRL.out _ hcur).mono ?_); rintro r wn ⟨rfl, hbn⟩; replace hcur := bthen hcur hbn; clear hbn) | (go_at_call 29; (with_reducible refine (HUA.out _ hcur).mono ?_); rintro r wn ⟨rfl, hbn⟩; replace hcur := bthen hcur hbn; clear hbn) | (go_at_call 29; (with_reducible refine (HUB.out _ hcur).mono ?_); rintro r wn ⟨rfl, hbn⟩; replace hcur := bthen hcur hbn; clear hbn) | (go_at_call 29; (with_reducible refine (HUL.out _ hcur).mono ?_); rintro r wn ⟨rfl, hbn⟩; replace hcur := bthen hcur hbn; clear hbn) | (go_at_call 24; (with_reducible refine (HAW.out _ hcur).mono ?_); rintro r wn ⟨rfl, hbn⟩; replace hcur := bthen hcur hbn; clear hbn))
              go_ret
              exact ⟨rfl, bthen HB2.out hcur⟩
            · by_cases h16 : n3 ≤ 16
              · obtain rfl : prl = true := by rw [eR, decide_eq_true h16]; rfl
                clear eR
                have h16I : (n3 : Int) ≤ 16 := by omega
                clear h16
                go_upto_region 12 with (first | (go_at_call 36; (with_reducible refine (HKN.out _ hcur).mono ?_); rintro r wn ⟨rfl, hbn⟩; replace hcur := bthen hcur hbn; clear hbn) | (go_at_call 31; (with_reducible refine (HTA.out _ hcur).mono ?_); rintro r wn ⟨rfl, hbn⟩; replace hcur := bthen hcur hbn; clear hbn) | (go_at_call 31; (with_reducible refine (HTB.out _ hcur).mono ?_); rintro r wn ⟨rfl, hbn⟩; replace hcur := bthen hcur hbn; clear hbn) | (go_at_call 31; (with_reducible refine (HTL.out _ hcur).mono ?_); rintro r wn ⟨rfl, hbn⟩; replace hcur := bthen hcur hbn; clear hbn) | (go_at_call 27; (with_reducible refine (HRA.out _ hcur).mono ?_); rintro r wn ⟨rfl, hbn⟩; replace hcur := bthen hcur hbn; clear hbn) | (go_at_call 27; (with_reducible refine (HRB.out _ hcur).mono ?_); rintro r wn ⟨rfl, hbn⟩; replace hcur := bthen hcur hbn; clear hbn) | (go_at_call 27; (with_reducible refine (HRL.out _ hcur).mono ?_); rintro r wn ⟨rfl, hbn⟩; replace hcur := bthen hcur hbn; clear hbn) | (go_at_call 29; (with_reducible refine (HUA.out _ hcur).mono ?_); rintro r wn ⟨rfl, hbn⟩; replace hcur := bthen hcur hbn; clear hbn) | (go_at_call 29; (with_reducible refine (HUB.out _ hcur).mono ?_); rintro r wn ⟨rfl, hbn⟩; replace hcur := bthen hcur hbn; clear hbn) | (go_at_call 29; (with_reducible refine (HUL.out _ hcur).mono ?_); rintro r wn ⟨rfl, hbn⟩; replace hcur := bthen hcur hbn; clear hbn) | (go_at_call 24; (with_reducible refine (HAW.out _ hcur).mono ?_); rintro r wn ⟨rfl, hbn⟩; replace hcur := bthen hcur hbn; clear hbn))
                rw [HE3.out]
                go_wp2_with (first | (go_at_call 36; (with_reducible refine (HKN.out _ hcur).mono ?_); rintro r wn ⟨rfl, hbn⟩; replace hcur := bthen hcur hbn; clear hbn) | (go_at_call 31; (with_reducible refine (HTA.out _ hcur).mono ?_); rintro r wn ⟨rfl, hbn⟩; replace hcur := bthen hcur hbn; clear hbn) | (go_at_call 31; (with_reducible refine (HTB.out _ hcur).mono ?_); rintro r wn ⟨rfl, hbn⟩; replace hcur := bthen hcur hbn; clear hbn) | (go_at_call 31; (with_reducible refine (HTL.out _ hcur).mono ?_); rintro r wn ⟨rfl, hbn⟩; replace hcur := bthen hcur hbn; clear hbn) | (go_at_call 27; (with_reducible refine (HRA.out _ hcur).mono ?_); rintro r wn ⟨rfl, hbn⟩; replace hcur := bthen hcur hbn; clear hbn) | (go_at_call 27; (with_reducible refine (HRB.out _ hcur).mono ?_); rintro r wn ⟨rfl, hbn⟩; replace hcur := bthen hcur hbn; clear hbn) | (go_at_call 27; (with_reducible refine (HRL.out _ hcur).mono ?_); rintro r wn ⟨rfl, hbn⟩; replace hcur := bthen hcur hbn; clear hbn) | (go_at_call 29; (with_reducible refine (HUA.out _ hcur).mono ?_); rintro r wn ⟨rfl, hbn⟩; replace hcur := bthen hcur hbn; clear hbn) | (go_at_call 29; (with_reducible refine (HUB.out _ hcur).mono ?_); rintro r wn ⟨rfl, hbn⟩; replace hcur := bthen hcur hbn; clear hbn) | (go_at_call 29; (with_reducible refine (HUL.out _ hcur).mono ?_); rintro r wn ⟨rfl, hbn⟩; replace hcur := bthen hcur hbn; clear hbn) | (go_at_call 24; (with_reducible refine (HAW.out _ hcur).mono ?_); rintro r wn ⟨rfl, hbn⟩; replace hcur := bthen hcur hbn; clear hbn))
                go_ret
                exact ⟨rfl, bthen HB2.out hcur⟩
              · obtain rfl : prl = false := by rw [eR, decide_eq_false h16]; rfl
                clear eR
                have h16I : ¬ (n3 : Int) ≤ 16 := by omega
                have h16d : decide ((n3 : Int) ≤ 16) = false := decide_eq_false h16I
                clear h16
                go_upto_region 12 with (first | (go_at_call 36; (with_reducible refine (HKN.out _ hcur).mono ?_); rintro r wn ⟨rfl, hbn⟩; replace hcur := bthen hcur hbn; clear hbn) | (go_at_call 31; (with_reducible refine (HTA.out _ hcur).mono ?_); rintro r wn ⟨rfl, hbn⟩; replace hcur := bthen hcur hbn; clear hbn) | (go_at_call 31; (with_reducible refine (HTB.out _ hcur).mono ?_); rintro r wn ⟨rfl, hbn⟩; replace hcur := bthen hcur hbn; clear hbn) | (go_at_call 31; (with_reducible refine (HTL.out _ hcur).mono ?_); rintro r wn ⟨rfl, hbn⟩; replace hcur := bthen hcur hbn; clear hbn) | (go_at_call 27; (with_reducible refine (HRA.out _ hcur).mono ?_); rintro r wn ⟨rfl, hbn⟩; replace hcur := bthen hcur hbn; clear hbn) | (go_at_call 27; (with_reducible refine (HRB.out _ hcur).mono ?_); rintro r wn ⟨rfl, hbn⟩; replace hcur := bthen hcur hbn; clear hbn) | (go_at_call 27; (with_reducible refine (HRL.out _ hcur).mono ?_); rintro r wn ⟨rfl, hbn⟩; replace hcur := bthen hcur hbn; clear hbn) | (go_at_call 29; (with_reducible refine (HUA.out _ hcur).mono ?_); rintro r wn ⟨rfl, hbn⟩; replace hcur := bthen hcur hbn; clear hbn) | (go_at_call 29; (with_reducible refine (HUB.out _ hcur).mono ?_); rintro r wn ⟨rfl, hbn⟩; replace hcur := bthen hcur hbn; clear hbn) | (go_at_call 29; (with_reducible refine (HUL.out _ hcur).mono ?_); rintro r wn ⟨rfl, hbn⟩; replace hcur := bthen hcur hbn; clear hbn) | (go_at_call 24; (with_reducible refine (HAW.out _ hcur).mono ?_); rintro r wn ⟨rfl, hbn⟩; replace hcur := bthen hcur hbn; clear hbn))
                rw [HE3.out]
                go_wp2_with (first | (go_at_call 36; (with_reducible refine (HKN.out _ hcur).mono ?_); rintro r wn ⟨rfl, hbn⟩; replace hcur := bthen hcur hbn; clear hbn) | (go_at_call 31; (with_reducible refine (HTA.out _ hcur).mono ?_); rintro r wn ⟨rfl, hbn⟩; replace hcur := bthen hcur hbn; clear hbn) | (go_at_call 31; (with_reducible refine (HTB.out _ hcur).mono ?_); rintro r wn ⟨rfl, hbn⟩; replace hcur := bthen hcur hbn; clear hbn) | (go_at_call 31; (with_reducible refine (HTL.out _ hcur).mono ?_); rintro r wn ⟨rfl, hbn⟩; replace hcur := bthen hcur hbn; clear hbn) | (go_at_call 27; (with_reducible refine (HRA.out _ hcur).mono ?_); rintro r wn ⟨rfl, hbn⟩; replace hcur := bthen hcur hbn; clear hbn) | (go_at_call 27; (with_reducible refine (HRB.out _ hcur).mono ?_); rintro r wn ⟨rfl, hbn⟩; replace hcur := bthen hcur hbn; clear hbn) | (go_at_call 27; (with_reducible refine (HRL.out _ hcur).mono ?_); rintro r wn ⟨rfl, hbn⟩; replace hcur := bthen hcur hbn; clear hbn) | (go_at_call 29; (with_reducible refine (HUA.out _ hcur).mono ?_); rintro r wn ⟨rfl, hbn⟩; replace hcur := bthen hcur hbn; clear hbn) | (go_at_call 29; (with_reducible refine (HUB.out _ hcur).mono ?_); rintro r wn ⟨rfl, hbn⟩; replace hcur := bthen hcur hbn; clear hbn) | (go_at_call 29; (with_reducible refine (HUL.out _ hcur).mono ?_); rintro r wn ⟨rfl, hbn⟩; replace hcur := bthen hcur hbn; clear hbn) | (go_at_call 24; (with_reducible refine (HAW.out _ hcur).mono ?_); rintro r wn ⟨rfl, hbn⟩; replace hcur := bthen hcur hbn; clear hbn))
                go_ret
                exact ⟨rfl, bthen HB2.out hcur⟩
        · have ep := eT rfl
          rw [if_neg (by omega)] at ep
          have hp1I : ¬ (n1 : Int) = 0 := by omega
          have hp1d : ((n1 : Int) == 0) = false := by simpa using hp1I
          rcases Nat.eq_zero_or_pos n2 with rfl | hp2
          · rw [if_pos rfl] at ep
            obtain rfl := hye rfl
            subst ep
            have e3 : (ByteArray.mk pl.toArray ++ ByteArray.mk #[]) = ByteArray.mk pl.toArray := bytes_append_nil _
            have HE3 := Lib.hid e3
            clear eT hye hxe e3
            rcases pr1 with _ | _
            · obtain rfl : prl = false := by rw [eR]; rfl
              clear eR
              go_upto_region 12 with (first | (go_at_call 36; (with_reducible refine (HKN.out _ hcur).mono ?_); rintro r wn ⟨rfl, hbn⟩; replace hcur := bthen hcur hbn; clear hbn) | (go_at_call 31; (with_reducible refine (HTA.out _ hcur).mono ?_); rintro r wn ⟨rfl, hbn⟩; replace hcur := bthen hcur hbn; clear hbn) | (go_at_call 31; (with_reducible refine (HTB.out _ hcur).mono ?_); rintro r wn ⟨rfl, hbn⟩; replace hcur := bthen hcur hbn; clear hbn) | (go_at_call 31; (with_reducible refine (HTL.out _ hcur).mono ?_); rintro r wn ⟨rfl, hbn⟩; replace hcur := bthen hcur hbn; clear hbn) | (go_at_call 27; (with_reducible refine (HRA.out _ hcur).mono ?_); rintro r wn ⟨rfl, hbn⟩; replace hcur := bthen hcur hbn; clear hbn) | (go_at_call 27; (with_reducible refine (HRB.out _ hcur).mono ?_); rintro r wn ⟨rfl, hbn⟩; replace hcur := bthen hcur hbn; clear hbn) | (go_at_call 27; (with_reducible refine (HRL.out _ hcur).mono ?_); rintro r wn ⟨rfl, hbn⟩; replace hcur := bthen hcur hbn; clear hbn) | (go_at_call 29; (with_reducible refine (HUA.out _ hcur).mono ?_); rintro r wn ⟨rfl, hbn⟩; replace hcur := bthen hcur hbn; clear hbn) | (go_at_call 29; (with_reducible refine (HUB.out _ hcur).mono ?_); rintro r wn ⟨rfl, hbn⟩; replace hcur := bthen hcur hbn; clear hbn) | (go_at_call 29; (with_reducible refine (HUL.out _ hcur).mono ?_); rintro r wn ⟨rfl, hbn⟩; replace hcur := bthen hcur hbn; clear hbn) | (go_at_call 24; (with_reducible refine (HAW.out _ hcur).mono ?_); rintro r wn ⟨rfl, hbn⟩; replace hcur := bthen hcur hbn; clear hbn))
              rw [HE3.out]
              go_wp2_with (first | (go_at_call 36; (with_reducible refine (HKN.out _ hcur).mono ?_); rintro r wn ⟨rfl, hbn⟩; replace hcur := bthen hcur hbn; clear hbn) | (go_at_call 31; (with_reducible refine (HTA.out _ hcur).mono ?_); rintro r wn ⟨rfl, hbn⟩; replace hcur := bthen hcur hbn; clear hbn) | (go_at_call 31; (with_reducible refine (HTB.out _ hcur).mono ?_); rintro r wn ⟨rfl, hbn⟩; replace hcur := bthen hcur hbn; clear hbn) | (go_at_call 31; (with_reducible refine (HTL.out _ hcur).mono ?_); rintro r wn ⟨rfl, hbn⟩; replace hcur := bthen hcur hbn; clear hbn) | (go_at_call 27; (with_reducible refine (HRA.out _ hcur).mono ?_); rintro r wn ⟨rfl, hbn⟩; replace hcur := bthen hcur hbn; clear hbn) | (go_at_call 27; (with_reducible refine (HRB.out _ hcur).mono ?_); rintro r wn ⟨rfl, hbn⟩; replace hcur := bthen hcur hbn; clear hbn) | (go_at_call 27; (with_reducible refine (HRL.out _ hcur).mono ?_); rintro r wn ⟨rfl, hbn⟩; replace hcur := bthen hcur hbn; clear hbn) | (go_at_call 29; (with_reducible refine (HUA.out _ hcur).mono ?_); rintro r wn ⟨rfl, hbn⟩; replace hcur := bthen hcur hbn; clear hbn) | (go_at_call 29; (with_reducible refine (HUB.out _ hcur).mono ?_); rintro r wn ⟨rfl, hbn⟩; replace hcur := bthen hcur hbn; clear hbn) | (go_at_call 29; (with_reducible refine (HUL.out _ hcur).mono ?_); rintro r wn ⟨rfl, hbn⟩; replace hcur := bthen hcur hbn; clear hbn) | (go_at_call 24; (with_reducible refine (HAW.out _ hcur).mono ?_); rintro r wn ⟨rfl, hbn⟩; replace hcur := bthen hcur hbn; clear hbn))
              go_ret
              exact ⟨rfl, bthen HB2.out hcur⟩
            · rcases pr2 with _ | _
              · obtain rfl : prl = false := by rw [eR]; rfl
                clear eR
                go_upto_region 12 with (first | (go_at_call 36; (with_reducible refine (HKN.out _ hcur).mono ?_); rintro r wn ⟨rfl, hbn⟩; replace hcur := bthen hcur hbn; clear hbn) | (go_at_call 31; (with_reducible refine (HTA.out _ hcur).mono ?_); rintro r wn ⟨rfl, hbn⟩; replace hcur := bthen hcur hbn; clear hbn) | (go_at_call 31; (with_reducible refine (HTB.out _ hcur).mono ?_); rintro r wn ⟨rfl, hbn⟩; replace hcur := bthen hcur hbn; clear hbn) | (go_at_call 31; (with_reducible refine (HTL.out _ hcur).mono ?_); rintro r wn ⟨rfl, hbn⟩; replace hcur := bthen hcur hbn; clear hbn) | (go_at_call 27; (with_reducible refine (HRA.out _ hcur).mono ?_); rintro r wn ⟨rfl, hbn⟩; replace hcur := bthen hcur hbn; clear hbn) | (go_at_call 27; (with_reducible refine (HRB.out _ hcur).mono ?_); rintro r wn ⟨rfl, hbn⟩; replace hcur := bthen hcur hbn; clear hbn) | (go_at_call 27; (with_reducible refine (HRL.out _ hcur).mono ?_); rintro r wn ⟨rfl, hbn⟩; replace hcur := bthen hcur hbn; clear hbn) | (go_at_call 29; (with_reducible refine (HUA.out _ hcur).mono ?_); rintro r wn ⟨rfl, hbn⟩; replace hcur := bthen hcur hbn; clear hbn) | (go_at_call 29; (with_reducible refine (HUB.out _ hcur).mono ?_); rintro r wn ⟨rfl, hbn⟩; replace hcur := bthen hcur hbn; clear hbn) | (go_at_call 29; (with_reducible refine (HUL.out _ hcur).mono ?_); rintro r wn ⟨rfl, hbn⟩; replace hcur := bthen hcur hbn; clear hbn) | (go_at_call 24; (with_reducible refine (HAW.out _ hcur).mono ?_); rintro r wn ⟨rfl, hbn⟩; replace hcur := bthen hcur hbn; clear hbn))
                rw [HE3.out]
                go_wp2_with (first | (go_at_call 36; (with_reducible refine (HKN.out _ hcur).mono ?_); rintro r wn ⟨rfl, hbn⟩; replace hcur := bthen hcur hbn; clear hbn) | (go_at_call 31; (with_reducible refine (HTA.out _ hcur).mono ?_); rintro r wn ⟨rfl, hbn⟩; replace hcur := bthen hcur hbn; clear hbn) | (go_at_call 31; (with_reducible refine (HTB.out _ hcur).mono ?_); rintro r wn ⟨rfl, hbn⟩; replace hcur := bthen hcur hbn; clear hbn) | (go_at_call 31; (with_reducible refine (HTL.out _ hcur).mono ?_); rintro r wn ⟨rfl, hbn⟩; replace hcur := bthen hcur hbn; clear hbn) | (go_at_call 27; (with_reducible refine (HRA.out _ hcur).mono ?_); rintro r wn ⟨rfl, hbn⟩; replace hcur := bthen hcur hbn; clear hbn) | (go_at_call 27; (with_reducible refine (HRB.out _ hcur).mono ?_); rintro r wn ⟨rfl, hbn⟩; replace hcur := bthen hcur hbn; clear hbn) | (go_at_call 27; (with_reducible refine (HRL.out _ hcur).mono ?_); rintro r wn ⟨rfl, hbn⟩; replace hcur := bthen hcur hbn; clear hbn) | (go_at_call 29; (with_reducible refine (HUA.out _ hcur).mono ?_); rintro r wn ⟨rfl, hbn⟩; replace hcur := bthen hcur hbn; clear hbn) | (go_at_call 29; (with_reducible refine (HUB.out _ hcur).mono ?_); rintro r wn ⟨rfl, hbn⟩; replace hcur := bthen hcur hbn; clear hbn) | (go_at_call 29; (with_reducible refine (HUL.out _ hcur).mono ?_); rintro r wn ⟨rfl, hbn⟩; replace hcur := bthen hcur hbn; clear hbn) | (go_at_call 24; (with_reducible refine (HAW.out _ hcur).mono ?_); rintro r wn ⟨rfl, hbn⟩; replace hcur := bthen hcur hbn; clear hbn))
                go_ret
                exact ⟨rfl, bthen HB2.out hcur⟩
              · by_cases h16 : n3 ≤ 16
                · obtain rfl : prl = true := by rw [eR, decide_eq_true h16]; rfl
                  clear eR
                  have h16I : (n3 : Int) ≤ 16 := by omega
                  clear h16
                  go_upto_region 12 with (first | (go_at_call 36; (with_reducible refine (HKN.out _ hcur).mono ?_); rintro r wn ⟨rfl, hbn⟩; replace hcur := bthen hcur hbn; clear hbn) | (go_at_call 31; (with_reducible refine (HTA.out _ hcur).mono ?_); rintro r wn ⟨rfl, hbn⟩; replace hcur := bthen hcur hbn; clear hbn) | (go_at_call 31; (with_reducible refine (HTB.out _ hcur).mono ?_); rintro r wn ⟨rfl, hbn⟩; replace hcur := bthen hcur hbn; clear hbn) | (go_at_call 31; (with_reducible refine (HTL.out _ hcur).mono ?_); rintro r wn ⟨rfl, hbn⟩; replace hcur := bthen hcur hbn; clear hbn) | (go_at_call 27; (with_reducible refine (HRA.out _ hcur).mono ?_); rintro r wn ⟨rfl, hbn⟩; replace hcur := bthen hcur hbn; clear hbn) | (go_at_call 27; (with_reducible refine (HRB.out _ hcur).mono ?_); rintro r wn ⟨rfl, hbn⟩; replace hcur := bthen hcur hbn; clear hbn) | (go_at_call 27; (with_reducible refine (HRL.out _ hcur).mono ?_); rintro r wn ⟨rfl, hbn⟩; replace hcur := bthen hcur hbn; clear hbn) | (go_at_call 29; (with_reducible refine (HUA.out _ hcur).mono ?_); rintro r wn ⟨rfl, hbn⟩; replace hcur := bthen hcur hbn; clear hbn) | (go_at_call 29; (with_reducible refine (HUB.out _ hcur).mono ?_); rintro r wn ⟨rfl, hbn⟩; replace hcur := bthen hcur hbn; clear hbn) | (go_at_call 29; (with_reducible refine (HUL.out _ hcur).mono ?_); rintro r wn ⟨rfl, hbn⟩; replace hcur := bthen hcur hbn; clear hbn) | (go_at_call 24; (with_reducible refine (HAW.out _ hcur).mono ?_); rintro r wn ⟨rfl, hbn⟩; replace hcur := bthen hcur hbn; clear hbn))
                  rw [HE3.out]
                  go_wp2_with (first | (go_at_call 36; (with_reducible refine (HKN.out _ hcur).mono ?_); rintro r wn ⟨rfl, hbn⟩; replace hcur := bthen hcur hbn; clear hbn) | (go_at_call 31; (with_reducible refine (HTA.out _ hcur).mono ?_); rintro r wn ⟨rfl, hbn⟩; replace hcur := bthen hcur hbn; clear hbn) | (go_at_call 31; (with_reducible refine (HTB.out _ hcur).mono ?_); rintro r wn ⟨rfl, hbn⟩; replace hcur := bthen hcur hbn; clear hbn) | (go_at_call 31; (with_reducible refine (HTL.out _ hcur).mono ?_); rintro r wn ⟨rfl, hbn⟩; replace hcur := bthen hcur hbn; clear hbn) | (go_at_call 27; (with_reducible refine (HRA.out _ hcur).mono ?_); rintro r wn ⟨rfl, hbn⟩; replace hcur := bthen hcur hbn; clear hbn) | (go_at_call 27; (with_reducible refine (HRB.out _ hcur).mono ?_); rintro r wn ⟨rfl, hbn⟩; replace hcur := bthen hcur hbn; clear hbn) | (go_at_call 27; (with_reducible refine (HRL.out _ hcur).mono ?_); rintro r wn ⟨rfl, hbn⟩; replace hcur := bthen hcur hbn; clear hbn) | (go_at_call 29; (with_reducible refine (HUA.out _ hcur).mono ?_); rintro r wn ⟨rfl, hbn⟩; replace hcur := bthen hcur hbn; clear hbn) | (go_at_call 29; (with_reducible refine (HUB.out _ hcur).mono ?_); rintro r wn ⟨rfl, hbn⟩; replace hcur := bthen hcur hbn; clear hbn) | (go_at_call 29; (with_reducible refine (HUL.out _ hcur).mono ?_); rintro r wn ⟨rfl, hbn⟩; replace hcur := bthen hcur hbn; clear hbn) | (go_at_call 24; (with_reducible refine (HAW.out _ hcur).mono ?_); rintro r wn ⟨rfl, hbn⟩; replace hcur := bthen hcur hbn; clear hbn))
                  go_ret
                  exact ⟨rfl, bthen HB2.out hcur⟩
                · obtain rfl : prl = false := by rw [eR, decide_eq_false h16]; rfl
                  clear eR
                  have h16I : ¬ (n3 : Int) ≤ 16 := by omega
                  have h16d : decide ((n3 : Int) ≤ 16) = false := decide_eq_false h16I
                  clear h16
                  go_upto_region 12 with (first | (go_at_call 36; (with_reducible refine (HKN.out _ hcur).mono ?_); rintro r wn ⟨rfl, hbn⟩; replace hcur := bthen hcur hbn; clear hbn) | (go_at_call 31; (with_reducible refine (HTA.out _ hcur).mono ?_); rintro r wn ⟨rfl, hbn⟩; replace hcur := bthen hcur hbn; clear hbn) | (go_at_call 31; (with_reducible refine (HTB.out _ hcur).mono ?_); rintro r wn ⟨rfl, hbn⟩; replace hcur := bthen hcur hbn; clear hbn) | (go_at_call 31; (with_reducible refine (HTL.out _ hcur).mono ?_); rintro r wn ⟨rfl, hbn⟩; replace hcur := bthen hcur hbn; clear hbn) | (go_at_call 27; (with_reducible refine (HRA.out _ hcur).mono ?_); rintro r wn ⟨rfl, hbn⟩; replace hcur := bthen hcur hbn; clear hbn) | (go_at_call 27; (with_reducible refine (HRB.out _ hcur).mono ?_); rintro r wn ⟨rfl, hbn⟩; replace hcur := bthen hcur hbn; clear hbn) | (go_at_call 27; (with_reducible refine (HRL.out _ hcur).mono ?_); rintro r wn ⟨rfl, hbn⟩; replace hcur := bthen hcur hbn; clear hbn) | (go_at_call 29; (with_reducible refine (HUA.out _ hcur).mono ?_); rintro r wn ⟨rfl, hbn⟩; replace hcur := bthen hcur hbn; clear hbn) | (go_at_call 29; (with_reducible refine (HUB.out _ hcur).mono ?_); rintro r wn ⟨rfl, hbn⟩; replace hcur := bthen hcur hbn; clear hbn) | (go_at_call 29; (with_reducible refine (HUL.out _ hcur).mono ?_); rintro r wn ⟨rfl, hbn⟩; replace hcur := bthen hcur hbn; clear hbn) | (go_at_call 24; (with_reducible refine (HAW.out _ hcur).mono ?_); rintro r wn ⟨rfl, hbn⟩; replace hcur := bthen hcur hbn; clear hbn))
                  rw [HE3.out]
                  go_wp2_with (first | (go_at_call 36; (with_reducible refine (HKN.out _ hcur).mono ?_); rintro r wn ⟨rfl, hbn⟩; replace hcur := bthen hcur hbn; clear hbn) | (go_at_call 31; (with_reducible refine (HTA.out _ hcur).mono ?_); rintro r wn ⟨rfl, hbn⟩; replace hcur := bthen hcur hbn; clear hbn) | (go_at_call 31; (with_reducible refine (HTB.out _ hcur).mono ?_); rintro r wn ⟨rfl, hbn⟩; replace hcur := bthen hcur hbn; clear hbn) | (go_at_call 31; (with_reducible refine (HTL.out _ hcur).mono ?_); rintro r wn ⟨rfl, hbn⟩; replace hcur := bthen hcur hbn; clear hbn) | (go_at_call 27; (with_reducible refine (HRA.out _ hcur).mono ?_); rintro r wn ⟨rfl, hbn⟩; replace hcur := bthen hcur hbn; clear hbn) | (go_at_call 27; (with_reducible refine (HRB.out _ hcur).mono ?_); rintro r wn ⟨rfl, hbn⟩; replace hcur := bthen hcur hbn; clear hbn) | (go_at_call 27; (with_reducible refine (HRL.out _ hcur).mono ?_); rintro r wn ⟨rfl, hbn⟩; replace hcur := bthen hcur hbn; clear hbn) | (go_at_call 29; (with_reducible refine (HUA.out _ hcur).mono ?_); rintro r wn ⟨rfl, hbn⟩; replace hcur := bthen hcur hbn; clear hbn) | (go_at_call 29; (with_reducible refine (HUB.out _ hcur).mono ?_); rintro r wn ⟨rfl, hbn⟩; replace hcur := bthen hcur hbn; clear hbn) | (go_at_call 29; (with_reducible refine (HUL.out _ hcur).mono ?_); rintro r wn ⟨rfl, hbn⟩; replace hcur := bthen hcur hbn; clear hbn) | (go_at_call 24; (with_reducible refine (HAW.out _ hcur).mono ?_); rintro r wn ⟨rfl, hbn⟩; replace hcur := bthen hcur hbn; clear hbn))
                  go_ret
                  exact ⟨rfl, bthen HB2.out hcur⟩
          · rw [if_neg (by omega)] at ep
            have hp2I : ¬ (n2 : Int) = 0 := by omega
            have hp2d : ((n2 : Int) == 0) = false := by simpa using hp2I
            have e3 : (ByteArray.mk pa.toArray ++ ByteArray.mk #[59, 32] ++ ByteArray.mk pb.toArray) = ByteArray.mk pl.toArray := by rw [ep]; simp only [ByteArray.mk_append_mk]; simp
            have HE3 := Lib.hid e3
            clear eT hye hxe e3 ep
            rcases pr1 with _ | _
            · obtain rfl : prl = false := by rw [eR]; rfl
              clear eR
              go_upto_region 12 with (first | (go_at_call 36; (with_reducible refine (HKN.out _ hcur).mono ?_); rintro r wn ⟨rfl, hbn⟩; replace hcur := bthen hcur hbn; clear hbn) | (go_at_call 31; (with_reducible refine (HTA.out _ hcur).mono ?_); rintro r wn ⟨rfl, hbn⟩; replace hcur := bthen hcur hbn; clear hbn) | (go_at_call 31; (with_reducible refine (HTB.out _ hcur).mono ?_); rintro r wn ⟨rfl, hbn⟩; replace hcur := bthen hcur hbn; clear hbn) | (go_at_call 31; (with_reducible refine (HTL.out _ hcur).mono ?_); rintro r wn ⟨rfl, hbn⟩; replace hcur := bthen hcur hbn; clear hbn) | (go_at_call 27; (with_reducible refine (HRA.out _ hcur).mono ?_); rintro r wn ⟨rfl, hbn⟩; replace hcur := bthen hcur hbn; clear hbn) | (go_at_call 27; (with_reducible refine (HRB.out _ hcur).mono ?_); rintro r wn ⟨rfl, hbn⟩; replace hcur := bthen hcur hbn; clear hbn) | (go_at_call 27; (with_reducible refine (HRL.out _ hcur).mono ?_); rintro r wn ⟨rfl, hbn⟩; replace hcur := bthen hcur hbn; clear hbn) | (go_at_call 29; (with_reducible refine (HUA.out _ hcur).mono ?_); rintro r wn ⟨rfl, hbn⟩; replace hcur := bthen hcur hbn; clear hbn) | (go_at_call 29; (with_reducible refine (HUB.out _ hcur).mono ?_); rintro r wn ⟨rfl, hbn⟩; replace hcur := bthen hcur hbn; clear hbn) | (go_at_call 29; (with_reducible refine (HUL.out _ hcur).mono ?_); rintro r wn ⟨rfl, hbn⟩; replace hcur := bthen hcur hbn; clear hbn) | (go_at_call 24; (with_reducible refine (HAW.out _ hcur).mono ?_); rintro r wn ⟨rfl, hbn⟩; replace hcur := bthen hcur hbn; clear hbn))
              rw [HE3.out]
              go_wp2_with (first | (go_at_call 36; (with_reducible refine (HKN.out _ hcur).mono ?_); rintro r wn ⟨rfl, hbn⟩; replace hcur := bthen hcur hbn; clear hbn) | (go_at_call 31; (with_reducible refine (HTA.out _ hcur).mono ?_); rintro r wn ⟨rfl, hbn⟩; replace hcur := bthen hcur hbn; clear hbn) | (go_at_call 31; (with_reducible refine (HTB.out _ hcur).mono ?_); rintro r wn ⟨rfl, hbn⟩; replace hcur := bthen hcur hbn; clear hbn) | (go_at_call 31; (with_reducible refine (HTL.out _ hcur).mono ?_); rintro r wn ⟨rfl, hbn⟩; replace hcur := bthen hcur hbn; clear hbn) | (go_at_call 27; (with_reducible refine (HRA.out _ hcur).mono ?_); rintro r wn ⟨rfl, hbn⟩; replace hcur := bthen hcur hbn; clear hbn) | (go_at_call 27; (with_reducible refine (HRB.out _ hcur).mono ?_); rintro r wn ⟨rfl, hbn⟩; replace hcur := bthen hcur hbn; clear hbn) | (go_at_call 27; (with_reducible refine (HRL.out _ hcur).mono ?_); rintro r wn ⟨rfl, hbn⟩; replace hcur := bthen hcur hbn; clear hbn) | (go_at_call 29; (with_reducible refine (HUA.out _ hcur).mono ?_); rintro r wn ⟨rfl, hbn⟩; replace hcur := bthen hcur hbn; clear hbn) | (go_at_call 29; (with_reducible refine (HUB.out _ hcur).mono ?_); rintro r wn ⟨rfl, hbn⟩; replace hcur := bthen hcur hbn; clear hbn) | (go_at_call 29; (with_reducible refine (HUL.out _ hcur).mono ?_); rintro r wn ⟨rfl, hbn⟩; replace hcur := bthen hcur hbn; clear hbn) | (go_at_call 24; (with_reducible refine (HAW.out _ hcur).mono ?_); rintro r wn ⟨rfl, hbn⟩; replace hcur := bthen hcur hbn; clear hbn))
              go_ret
              exact ⟨rfl, bthen HB2.out hcur⟩
            · rcases pr2 with _ | _
              · obtain rfl : prl = false := by rw [eR]; rfl
                clear eR
                go_upto_region 12 with (first | (go_at_call 36; (with_reducible refine (HKN.out _ hcur).mono ?_); rintro r wn ⟨rfl, hbn⟩; replace hcur := bthen hcur hbn; clear hbn) | (go_at_call 31; (with_reducible refine (HTA.out _ hcur).mono ?_); rintro r wn ⟨rfl, hbn⟩; replace hcur := bthen hcur hbn; clear hbn) | (go_at_call 31; (with_reducible refine (HTB.out _ hcur).mono ?_); rintro r wn ⟨rfl, hbn⟩; replace hcur := bthen hcur hbn; clear hbn) | (go_at_call 31; (with_reducible refine (HTL.out _ hcur).mono ?_); rintro r wn ⟨rfl, hbn⟩; replace hcur := bthen hcur hbn; clear hbn) | (go_at_call 27; (with_reducible refine (HRA.out _ hcur).mono ?_); rintro r wn ⟨rfl, hbn⟩; replace hcur := bthen hcur hbn; clear hbn) | (go_at_call 27; (with_reducible refine (HRB.out _ hcur).mono ?_); rintro r wn ⟨rfl, hbn⟩; replace hcur := bthen hcur hbn; clear hbn) | (go_at_call 27; (with_reducible refine (HRL.out _ hcur).mono ?_); rintro r wn ⟨rfl, hbn⟩; replace hcur := bthen hcur hbn; clear hbn) | (go_at_call 29; (with_reducible refine (HUA.out _ hcur).mono ?_); rintro r wn ⟨rfl, hbn⟩; replace hcur := bthen hcur hbn; clear hbn) | (go_at_call 29; (with_reducible refine (HUB.out _ hcur).mono ?_); rintro r wn ⟨rfl, hbn⟩; replace hcur := bthen hcur hbn; clear hbn) | (go_at_call 29; (with_reducible refine (HUL.out _ hcur).mono ?_); rintro r wn ⟨rfl, hbn⟩; replace hcur := bthen hcur hbn; clear hbn) | (go_at_call 24; (with_reducible refine (HAW.out _ hcur).mono ?_); rintro r wn ⟨rfl, hbn⟩; replace hcur := bthen hcur hbn; clear hbn))
                rw [HE3.out]
                go_wp2_with (first | (go_at_call 36; (with_reducible refine (HKN.out _ hcur).mono ?_); rintro r wn ⟨rfl, hbn⟩; replace hcur := bthen hcur hbn; clear hbn) | (go_at_call 31; (with_reducible refine (HTA.out _ hcur).mono ?_); rintro r wn ⟨rfl, hbn⟩; replace hcur := bthen hcur hbn; clear hbn) | (go_at_call 31; (with_reducible refine (HTB.out _ hcur).mono ?_); rintro r wn ⟨rfl, hbn⟩; replace hcur := bthen hcur hbn; clear hbn) | (go_at_call 31; (with_reducible refine (HTL.out _ hcur).mono ?_); rintro r wn ⟨rfl, hbn⟩; replace hcur := bthen hcur hbn; clear hbn) | (go_at_call 27; (with_reducible refine (HRA.out _ hcur).mono ?_); rintro r wn ⟨rfl, hbn⟩; replace hcur := bthen hcur hbn; clear hbn) | (go_at_call 27; (with_reducible refine (HRB.out _ hcur).mono ?_); rintro r wn ⟨rfl, hbn⟩; replace hcur := bthen hcur hbn; clear hbn) | (go_at_call 27; (with_reducible refine (HRL.out _ hcur).mono ?_); rintro r wn ⟨rfl, hbn⟩; replace hcur := bthen hcur hbn; clear hbn) | (go_at_call 29; (with_reducible refine (HUA.out _ hcur).mono ?_); rintro r wn ⟨rfl, hbn⟩; replace hcur := bthen hcur hbn; clear hbn) | (go_at_call 29; (with_reducible refine (HUB.out _ hcur).mono ?_); rintro r wn ⟨rfl, hbn⟩; replace hcur := bthen hcur hbn; clear hbn) | (go_at_call 29; (with_reducible refine (HUL.out _ hcur).mono ?_); rintro r wn ⟨rfl, hbn⟩; replace hcur := bthen hcur hbn; clear hbn) | (go_at_call 24; (with_reducible refine (HAW.out _ hcur).mono ?_); rintro r wn ⟨rfl, hbn⟩; replace hcur := bthen hcur hbn; clear hbn))
                go_ret
                exact ⟨rfl, bthen HB2.out hcur⟩
              · by_cases h16 : n3 ≤ 16
                · obtain rfl : prl = true := by rw [eR, decide_eq_true h16]; rfl
                  clear eR
                  have h16I : (n3 : Int) ≤ 16 := by omega
                  clear h16
                  go_upto_region 12 with (first | (go_at_call 36; (with_reducible refine (HKN.out _ hcur).mono ?_); rintro r wn ⟨rfl, hbn⟩; replace hcur := bthen hcur hbn; clear hbn) | (go_at_call 31; (with_reducible refine (HTA.out _ hcur).mono ?_); rintro r wn ⟨rfl, hbn⟩; replace hcur := bthen hcur hbn; clear hbn) | (go_at_call 31; (with_reducible refine (HTB.out _ hcur).mono ?_); rintro r wn ⟨rfl, hbn⟩; replace hcur := bthen hcur hbn; clear hbn) | (go_at_call 31; (with_reducible refine (HTL.out _ hcur).mono ?_); rintro r wn ⟨rfl, hbn⟩; replace hcur := bthen hcur hbn; clear hbn) | (go_at_call 27; (with_reducible refine (HRA.out _ hcur).mono ?_); rintro r wn ⟨rfl, hbn⟩; replace hcur := bthen hcur hbn; clear hbn) | (go_at_call 27; (with_reducible refine (HRB.out _ hcur).mono ?_); rintro r wn ⟨rfl, hbn⟩; replace hcur := bthen hcur hbn; clear hbn) | (go_at_call 27; (with_reducible refine (HRL.out _ hcur).mono ?_); rintro r wn ⟨rfl, hbn⟩; replace hcur := bthen hcur hbn; clear hbn) | (go_at_call 29; (with_reducible refine (HUA.out _ hcur).mono ?_); rintro r wn ⟨rfl, hbn⟩; replace hcur := bthen hcur hbn; clear hbn) | (go_at_call 29; (with_reducible refine (HUB.out _ hcur).mono ?_); rintro r wn ⟨rfl, hbn⟩; replace hcur := bthen hcur hbn; clear hbn) | (go_at_call 29; (with_reducible refine (HUL.out _ hcur).mono ?_); rintro r wn ⟨rfl, hbn⟩; replace hcur := bthen hcur hbn; clear hbn) | (go_at_call 24; (with_reducible refine (HAW.out _ hcur).mono ?_); rintro r wn ⟨rfl, hbn⟩; replace hcur := bthen hcur hbn; clear hbn))
                  rw [HE3.out]
                  go_wp2_with (first | (go_at_call 36; (with_reducible refine (HKN.out _ hcur).mono ?_); rintro r wn ⟨rfl, hbn⟩; replace hcur := bthen hcur hbn; clear hbn) | (go_at_call 31; (with_reducible refine (HTA.out _ hcur).mono ?_); rintro r wn ⟨rfl, hbn⟩; replace hcur := bthen hcur hbn; clear hbn) | (go_at_call 31; (with_reducible refine (HTB.out _ hcur).mono ?_); rintro r wn ⟨rfl, hbn⟩; replace hcur := bthen hcur hbn; clear hbn) | (go_at_call 31; (with_reducible refine (HTL.out _ hcur).mono ?_); rintro r wn ⟨rfl, hbn⟩; replace hcur := bthen hcur hbn; clear hbn) | (go_at_call 27; (with_reducible refine (HRA.out _ hcur).mono ?_); rintro r wn ⟨rfl, hbn⟩; replace hcur := bthen hcur hbn; clear hbn) | (go_at_call 27; (with_reducible refine (HRB.out _ hcur).mono ?_); rintro r wn ⟨rfl, hbn⟩; replace hcur := bthen hcur hbn; clear hbn) | (go_at_call 27; (with_reducible refine (HRL.out _ hcur).mono ?_); rintro r wn ⟨rfl, hbn⟩; replace hcur := bthen hcur hbn; clear hbn) | (go_at_call 29; (with_reducible refine (HUA.out _ hcur).mono ?_); rintro r wn ⟨rfl, hbn⟩; replace hcur := bthen hcur hbn; clear hbn) | (go_at_call 29; (with_reducible refine (HUB.out _ hcur).mono ?_); rintro r wn ⟨rfl, hbn⟩; replace hcur := bthen hcur hbn; clear hbn) | (go_at_call 29; (with_reducible refine (HUL.out _ hcur).mono ?_); rintro r wn ⟨rfl, hbn⟩; replace hcur := bthen hcur hbn; clear hbn) | (go_at_call 24; (with_reducible refine (HAW.out _ hcur).mono ?_); rintro r wn ⟨rfl, hbn⟩; replace hcur := bthen hcur hbn; clear hbn))
                  go_ret
                  exact ⟨rfl, bthen HB2.out hcur⟩
                · obtain rfl : prl = false := by rw [eR, decide_eq_false h16]; rfl
                  clear eR
                  have h16I : ¬ (n3 : Int) ≤ 16 := by omega
                  have h16d : decide ((n3 : Int) ≤ 16) = false := decide_eq_false h16I
                  clear h16
                  go_upto_region 12 with (first | (go_at_call 36; (with_reducible refine (HKN.out _ hcur).mono ?_); rintro r wn ⟨rfl, hbn⟩; replace hcur := bthen hcur hbn; clear hbn) | (go_at_call 31; (with_reducible refine (HTA.out _ hcur).mono ?_); rintro r wn ⟨rfl, hbn⟩; replace hcur := bthen hcur hbn; clear hbn) | (go_at_call 31; (with_reducible refine (HTB.out _ hcur).mono ?_); rintro r wn ⟨rfl, hbn⟩; replace hcur := bthen hcur hbn; clear hbn) | (go_at_call 31; (with_reducible refine (HTL.out _ hcur).mono ?_); rintro r wn ⟨rfl, hbn⟩; replace hcur := bthen hcur hbn; clear hbn) | (go_at_call 27; (with_reducible refine (HRA.out _ hcur).mono ?_); rintro r wn ⟨rfl, hbn⟩; replace hcur := bthen hcur hbn; clear hbn) | (go_at_call 27; (with_reducible refine (HRB.out _ hcur).mono ?_); rintro r wn ⟨rfl, hbn⟩; replace hcur := bthen hcur hbn; clear hbn) | (go_at_call 27; (with_reducible refine (HRL.out _ hcur).mono ?_); rintro r wn ⟨rfl, hbn⟩; replace hcur := bthen hcur hbn; clear hbn) | (go_at_call 29; (with_reducible refine (HUA.out _ hcur).mono ?_); rintro r wn ⟨rfl, hbn⟩; replace hcur := bthen hcur hbn; clear hbn) | (go_at_call 29; (with_reducible refine (HUB.out _ hcur).mono ?_); rintro r wn ⟨rfl, hbn⟩; replace hcur := bthen hcur hbn; clear hbn) | (go_at_call 29; (with_reducible refine (HUL.out _ hcur).mono ?_); rintro r wn ⟨rfl, hbn⟩; replace hcur := bthen hcur hbn; clear hbn) | (go_at_call 24; (with_reducible refine (HAW.out _ hcur).mono ?_); rintro r wn ⟨rfl, hbn⟩; replace hcur := bthen hcur hbn; clear hbn))
                  rw [HE3.out]
                  go_wp2_with (first | (go_at_call 36; (with_reducible refine (HKN.out _ hcur).mono ?_); rintro r wn ⟨rfl, hbn⟩; replace hcur := bthen hcur hbn; clear hbn) | (go_at_call 31; (with_reducible refine (HTA.out _ hcur).mono ?_); rintro r wn ⟨rfl, hbn⟩; replace hcur := bthen hcur hbn; clear hbn) | (go_at_call 31; (with_reducible refine (HTB.out _ hcur).mono ?_); rintro r wn ⟨rfl, hbn⟩; replace hcur := bthen hcur hbn; clear hbn) | (go_at_call 31; (with_reducible refine (HTL.out _ hcur).mono ?_); rintro r wn ⟨rfl, hbn⟩; replace hcur := bthen hcur hbn; clear hbn) | (go_at_call 27; (with_reducible refine (HRA.out _ hcur).mono ?_); rintro r wn ⟨rfl, hbn⟩; replace hcur := bthen hcur hbn; clear hbn) | (go_at_call 27; (with_reducible refine (HRB.out _ hcur).mono ?_); rintro r wn ⟨rfl, hbn⟩; replace hcur := bthen hcur hbn; clear hbn) | (go_at_call 27; (with_reducible refine (HRL.out _ hcur).mono ?_); rintro r wn ⟨rfl, hbn⟩; replace hcur := bthen hcur hbn; clear hbn) | (go_at_call 29; (with_reducible refine (HUA.out _ hcur).mono ?_); rintro r wn ⟨rfl, hbn⟩; replace hcur := bthen hcur hbn; clear hbn) | (go_at_call 29; (with_reducible refine (HUB.out _ hcur).mono ?_); rintro r wn ⟨rfl, hbn⟩; replace hcur := bthen hcur hbn; clear hbn) | (go_at_call 29; (with_reducible refine (HUL.out _ hcur).mono ?_); rintro r wn ⟨rfl, hbn⟩; replace hcur := bthen hcur hbn; clear hbn) | (go_at_call 24; (with_reducible refine (HAW.out _ hcur).mono ?_); rintro r wn ⟨rfl, hbn⟩; replace hcur := bthen hcur hbn; clear hbn))
                  go_ret
                  exact ⟨rfl, bthen HB2.out hcur⟩
    · have h2 : (20 : Int) < ys.length := by omega
      have haw := HEV.out w (Below.refl _ _)
      go_enter Tryd.func10, Tryd.ntmps10
      go_wp2_with (go_at_call 24; (with_reducible refine haw.mono ?_); rintro r w6 ⟨rfl, hb6⟩)
      go_ret
      exact ⟨rfl, hb6⟩
  · have h1 : (20 : Int) < xs.length := by omega
    have haw := HEV.out w (Below.refl _ _)
    go_enter Tryd.func10, Tryd.ntmps10
    go_wp2_with (go_at_call 24; (with_reducible refine haw.mono ?_); rintro r w6 ⟨rfl, hb6⟩)
    go_ret
    exact ⟨rfl, hb6⟩
end Go.Proofs.YtpgdgboobnmjiaaDoor
