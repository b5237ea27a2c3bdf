/- The orders of packages value and enthymemeref06: the contracts. -/
import Derived.Test.YtjjhfdjpmonlaaaPV
import Derived.Test.YtjjhfdjpmonlaaaVP
import Derived.Test.YtjjhfdjpmonlaaaVQ
namespace Go.Proofs.Ytjjhfdjpmonlaaa
open Go Go.W

theorem c_int (a b : Int) (w : World) : Calls Try.prog n_cmp_Compare_int #[.int .i64 a, .int .i64 b] w fun r w' => r = .returned (.int .i64 (cmpI a b)) ∧ Fr0 w w' := by
  refine cmp_Compare_int.ok _ _ w _ (cmp_isNaN_int.ok _ _ _ ⟨_, rfl, cmp_isNaN_int.ok _ _ _ ⟨_, rfl, ?_⟩⟩)
  have e1 : (a != a) = false := by simp
  have e2 : (b != b) = false := by simp
  rw [e1, e2]
  refine sel_false rfl (sel_false rfl (sel_dec (fun h => ⟨?_, Fr.refl _ _⟩) (fun h => sel_dec (fun h2 => ⟨?_, Fr.refl _ _⟩) (fun h2 => ⟨?_, Fr.refl _ _⟩))))
  · unfold cmpI; rw [if_pos h]
  · unfold cmpI; rw [if_neg h, if_pos h2]
  · unfold cmpI; rw [if_neg h, if_neg h2]
theorem c_u64 (a b : Int) (w : World) : Calls Try.prog n_cmp_Compare_uint64 #[.int .u64 a, .int .u64 b] w fun r w' => r = .returned (.int .i64 (cmpI a b)) ∧ Fr0 w w' := by
  refine cmp_Compare_uint64.ok _ _ w _ (cmp_isNaN_uint64.ok _ _ _ ⟨_, rfl, cmp_isNaN_uint64.ok _ _ _ ⟨_, rfl, ?_⟩⟩)
  have e1 : (a != a) = false := by simp
  have e2 : (b != b) = false := by simp
  rw [e1, e2]
  refine sel_false rfl (sel_false rfl (sel_dec (fun h => ⟨?_, Fr.refl _ _⟩) (fun h => sel_dec (fun h2 => ⟨?_, Fr.refl _ _⟩) (fun h2 => ⟨?_, Fr.refl _ _⟩))))
  · unfold cmpI; rw [if_pos h]
  · unfold cmpI; rw [if_neg h, if_pos h2]
  · unfold cmpI; rw [if_neg h, if_neg h2]
theorem cmpI_u8 (a b : UInt8) : cmpI a.toNat b.toNat = if a < b then -1 else if b < a then 1 else 0 := by
  unfold cmpI
  simp only [UInt8.lt_iff_toNat_lt]
  by_cases h : a.toNat < b.toNat
  · rw [if_pos (by omega), if_pos h]
  · rw [if_neg (by omega), if_neg h]
    by_cases h2 : b.toNat < a.toNat
    · rw [if_pos (by omega), if_pos h2]
    · rw [if_neg (by omega), if_neg h2]
theorem cmpS_less : ∀ (a b : List UInt8), cmpS a b = if Op.bytesLess a b then -1 else if !(Op.bytesLess a b || a == b) then 1 else 0
  | [], [] => by simp [cmpS, Op.bytesLess]
  | [], b :: m => by simp [cmpS, Op.bytesLess]
  | a :: l, [] => by simp [cmpS, Op.bytesLess]
  | a :: l, b :: m => by
    have ih := cmpS_less l m
    unfold cmpS Op.bytesLess
    rw [cmpI_u8]
    by_cases h : a < b
    · simp [h]
    · by_cases h2 : b < a
      · have hne : a ≠ b := fun e => by subst e; exact h h2
        simp [h, h2, hne]
      · have he : a = b := by
          apply UInt8.toNat_inj.1
          rw [UInt8.lt_iff_toNat_lt] at h h2
          omega
        subst he
        simp [h, ih]
theorem c_str (a b : List UInt8) (w : World) : Calls Try.prog n_cmp_Compare_string #[.string (ba a), .string (ba b)] w fun r w' => r = .returned (.int .i64 (cmpS a b)) ∧ Fr0 w w' := by
  refine cmp_Compare_string.ok _ _ w _ (cmp_isNaN_string.ok _ _ _ ⟨_, rfl, cmp_isNaN_string.ok _ _ _ ⟨_, rfl, ?_⟩⟩)
  have e1 : ∀ x : ByteArray, (!(x.toList == x.toList)) = false := fun x => by simp
  rw [e1, e1, tl_ba, tl_ba]
  refine sel_false rfl (sel_false rfl (sel_intro (fun h => ⟨?_, Fr.refl _ _⟩) (fun h => sel_intro (fun h2 => ⟨?_, Fr.refl _ _⟩) (fun h2 => ⟨?_, Fr.refl _ _⟩))))
  · rw [cmpS_less, if_pos h]
  · rw [cmpS_less, if_neg (by simp [h]), if_pos h2]
  · rw [cmpS_less, if_neg (by simp [h]), if_neg (by simp [h2])]
/-- numbers in a block of their own -/
theorem or_row {w : World} {s : Sl} {l : List Int} (h : Nums w s l) (hl : l.length ≤ 1000000) : Calls Try.prog n_cmp_Or_int #[s.v] w fun r w' => r = .returned (.int .i64 (orI l)) ∧ Fr0 w w' := by
  refine cmp_Or_int.ok _ w _ ?_
  have hn := Nums.len h
  have loop : ∀ (d i : Nat), i + d = l.length → orI (l.drop i) = orI l → cmp_Or_int.L0 0 s ((s.n : Nat) : Int) (i : Int) w fun r w' => r = .returned (.int .i64 (orI l)) ∧ Fr0 w w' := by
    intro d
    induction d with
    | zero =>
      intro i hi he
      rw [List.drop_of_length_le (by omega)] at he
      exact cmp_Or_int.L0_step _ _ _ _ _ _ (sel_false (decide_eq_false (by omega)) ⟨by rw [← he]; rfl, Fr.refl _ _⟩)
    | succ d ih =>
      intro i hi he
      have hg : l[i]? = some (l[i]'(by omega)) := List.getElem?_eq_getElem (by omega)
      rw [List.drop_eq_getElem_cons (by omega)] at he
      generalize l[i]'(by omega) = c at hg he
      refine cmp_Or_int.L0_step _ _ _ _ _ _ (sel_true (decide_eq_true (by omega)) ⟨by omega, by omega, Nums.cell h hg (by simp) fun p _ hp => ⟨c, hp, sel_ne (fun hc => ?_) (fun hc => ?_)⟩⟩)
      · refine ⟨?_, Fr.refl _ _⟩
        rw [← he]; unfold orI; rw [if_pos hc]
      · rw [i64_next _ (by omega)]
        refine ih (i + 1) (by omega) ?_
        rw [← he]
        conv => rhs; unfold orI
        rw [if_neg (by simpa using hc)]
  exact loop l.length 0 (by omega) (by simp)
theorem first_row {w : World} {s : Sl} {l : List Int} (h : Nums w s l) (hl : l.length ≤ 1000000) : Calls Try.prog n_enthymemeref06_first #[s.v] w fun r w' => r = .returned (.int .i64 (orI l)) ∧ Fr0 w w' := by
  refine enthymemeref06_first.ok _ w _ ?_
  have hn := Nums.len h
  have loop : ∀ (d i : Nat), i + d = l.length → orI (l.drop i) = orI l → enthymemeref06_first.L0 s (i : Int) w fun r w' => r = .returned (.int .i64 (orI l)) ∧ Fr0 w w' := by
    intro d
    induction d with
    | zero =>
      intro i hi he
      rw [List.drop_of_length_le (by omega)] at he
      exact enthymemeref06_first.L0_step _ _ _ _ (sel_false (decide_eq_false (by omega)) ⟨by rw [← he]; rfl, Fr.refl _ _⟩)
    | succ d ih =>
      intro i hi he
      have hg : l[i]? = some (l[i]'(by omega)) := List.getElem?_eq_getElem (by omega)
      rw [List.drop_eq_getElem_cons (by omega)] at he
      generalize l[i]'(by omega) = c at hg he
      refine enthymemeref06_first.L0_step _ _ _ _ (sel_true (decide_eq_true (by omega)) ⟨by omega, by omega, Nums.cell h hg (by simp) fun p _ hp => ⟨c, hp, sel_ne (fun hc => ⟨by omega, by omega, Nums.cell h hg (by simp) fun p _ hp => ⟨c, hp, ?_, Fr.refl _ _⟩⟩) (fun hc => ?_)⟩⟩)
      · rw [← he]; unfold orI; rw [if_pos hc]
      · rw [i64_next _ (by omega)]
        refine ih (i + 1) (by omega) ?_
        rw [← he]
        conv => rhs; unfold orI
        rw [if_neg (by simpa using hc)]
  exact loop l.length 0 (by omega) (by simp)
theorem nums_new (w : World) (l : List Int) (n : Nat) (hn : n = l.length) : Nums (w.alloc (.cells (l.map intV).toArray ty_int)) ⟨some (at0 w.heap.size), n, n⟩ l :=
  ⟨by simp [hn], Nat.le_refl _, (Row.made w ty_int n n (l.map intV)).crow⟩
section
variable {M : Nat → Prop} {w0 w : World} {L D : List En} {bs : List Nat}
/-- cmp.Or of numbers just boxed -/
theorem LH.or (H : LH M w0 w L D) {l : List Int} {n : Nat} {K : Post} (hn : n = l.length) (hl : l.length ≤ 1000000) (hk : ∀ w', LH M w0 w' L D → K (.returned (.int .i64 (orI l))) w') :
    nwV w (.cells (l.map intV).toArray ty_int) fun w1 => callF bs Try.prog n_cmp_Or_int #[.slice (some (Addr.mk w.heap.size 0 none)) n n] w1 K :=
  (H.fr0 (Fr.alloc _ _ _)).callg (or_row (s := ⟨some (at0 w.heap.size), n, n⟩) (nums_new w l n hn) hl) fun _ w' hr H' => hr ▸ hk w' H'
theorem LH.first (H : LH M w0 w L D) {l : List Int} {n : Nat} {K : Post} (hn : n = l.length) (hl : l.length ≤ 1000000) (hk : ∀ w', LH M w0 w' L D → K (.returned (.int .i64 (orI l))) w') :
    nwV w (.cells (l.map intV).toArray ty_int) fun w1 => callF bs Try.prog n_enthymemeref06_first #[.slice (some (Addr.mk w.heap.size 0 none)) n n] w1 K :=
  (H.fr0 (Fr.alloc _ _ _)).callg (first_row (s := ⟨some (at0 w.heap.size), n, n⟩) (nums_new w l n hn) hl) fun _ w' hr H' => hr ▸ hk w' H'
end
theorem lh0 {w : World} (D : List En) (h : ∀ e ∈ D, e.P w) : LH F0 w w [] D := LH.start D h
theorem c_ent (a b : Ent) (w : World) : Calls Try.prog n_value_Compare_1 #[.agg #[.int .u64 (a.i : Int), .int .u64 (a.u : Int), .string (ba a.s)], .agg #[.int .u64 (b.i : Int), .int .u64 (b.u : Int), .string (ba b.s)]] w fun r w' => r = .returned (.int .i64 (cmpE a b)) ∧ Fr0 w w' := by
  refine value_Compare_1.okT _ _ _ _ _ _ w _ ((lh0 [] (by simp)).newg fun b1 w1 H1 => H1.newg fun b2 w2 H2 => H2.locg fun w3 H3 => H3.callg (c_u64 _ _ w3) ?_)
  rintro _ w4 rfl H4
  refine ⟨_, rfl, H4.callg (c_u64 _ _ w4) ?_⟩
  rintro _ w5 rfl H5
  refine ⟨_, rfl, H5.callg (c_str _ _ w5) ?_⟩
  rintro _ w6 rfl H6
  exact ⟨_, rfl, LH.or H6 (l := [_, _, _]) rfl (by simp) fun w7 H7 => ⟨_, rfl, rfl, H7.fr⟩⟩
theorem cmpM_step (a b : List Ent) (i : Nat) (ha : i < a.length) (hb : i < b.length) : cmpM (a.drop i) (b.drop i) = if cmpE a[i] b[i] ≠ 0 then cmpE a[i] b[i] else cmpM (a.drop (i + 1)) (b.drop (i + 1)) := by
  rw [List.drop_eq_getElem_cons ha, List.drop_eq_getElem_cons hb]
  rfl
theorem cmpM_end (a b : List Ent) (i : Nat) (h : ¬ (i < a.length ∧ i < b.length)) (hia : i ≤ a.length) (hib : i ≤ b.length) : cmpM (a.drop i) (b.drop i) = cmpI (a.length : Int) (b.length : Int) := by
  have la : (a.drop i).length = a.length - i := List.length_drop
  have lb : (b.drop i).length = b.length - i := List.length_drop
  unfold cmpI
  cases ha : a.drop i with
  | nil =>
    rw [ha] at la
    cases hb : b.drop i with
    | nil =>
      rw [hb] at lb
      simp only [List.length_nil] at la lb
      rw [if_neg (by omega), if_neg (by omega)]
      rfl
    | cons y m =>
      rw [hb] at lb
      simp only [List.length_nil, List.length_cons] at la lb
      rw [if_pos (by omega)]
      rfl
  | cons x l =>
    rw [ha] at la
    cases hb : b.drop i with
    | nil =>
      rw [hb] at lb
      simp only [List.length_nil, List.length_cons] at la lb
      rw [if_neg (by omega), if_pos (by omega)]
      rfl
    | cons y m =>
      rw [hb] at lb
      simp only [List.length_cons] at la lb
      omega
theorem c_lists {w : World} {sa sb : Sl} {a b : List Ent} (ha : RdN 3 w sa (entsC a)) (hb : RdN 3 w sb (entsC b)) (hl : a.length ≤ 1000000) : Calls Try.prog n_value_compareLists_value_Entry #[sa.v, sb.v, .func (.func n_value_Compare_1) #[] #[]] w fun r w' => r = .returned (.int .i64 (cmpM a b)) ∧ Fr0 w w' := by
  refine value_compareLists_value_Entry.ok _ _ w _ ?_
  have na := ents_n ha
  have nb := ents_n hb
  have fin : ∀ (i : Nat) (w1 : World), ¬ (i < a.length ∧ i < b.length) → i ≤ a.length → i ≤ b.length → cmpM (a.drop i) (b.drop i) = cmpM a b → Fr0 w w1 → value_compareLists_value_Entry.S1 sa sb w1 fun r w' => r = .returned (.int .i64 (cmpM a b)) ∧ Fr0 w w' := by
    intro i w1 h1 h2 h3 h4 f
    refine (c_int _ _ w1).mono ?_
    rintro _ w2 ⟨rfl, f2⟩
    refine ⟨_, rfl, ?_, f.tr0 f2⟩
    rw [na, nb, ← cmpM_end a b i h1 h2 h3, h4]
  have loop : ∀ (d i : Nat) (w1 : World), i + d = a.length → i ≤ b.length → cmpM (a.drop i) (b.drop i) = cmpM a b → Fr0 w w1 → value_compareLists_value_Entry.L0 sa sb (i : Int) w1 fun r w' => r = .returned (.int .i64 (cmpM a b)) ∧ Fr0 w w' := by
    intro d
    induction d with
    | zero =>
      intro i w1 hi hib he f
      exact value_compareLists_value_Entry.L0_step _ _ _ _ _ (sel_false (decide_eq_false (by omega)) (fin i w1 (by omega) (by omega) hib he f))
    | succ d ih =>
      intro i w1 hi hib he f
      refine value_compareLists_value_Entry.L0_step _ _ _ _ _ (sel_true (decide_eq_true (by omega)) (sel_dec (fun hlt => ?_) (fun hlt => fin i w1 (by omega) (by omega) hib he f)))
      have fd : Fr0 w w1.drew := f.tr0 (Fr.drew _ _)
      have hga : a[i]? = some (a[i]'(by omega)) := List.getElem?_eq_getElem (by omega)
      have hgb : b[i]? = some (b[i]'(by omega)) := List.getElem?_eq_getElem (by omega)
      rw [cmpM_step a b i (by omega) (by omega)] at he
      generalize a[i]'(by omega) = x at hga he
      generalize b[i]'(by omega) = y at hgb he
      refine ⟨by omega, by omega, ?_⟩
      rw [Int.toNat_natCast]
      refine ent_at (ha.fr0 fd) hga fun p _ c0 c1 c2 => ⟨_, _, _, c0, c1, c2, by omega, by omega, ?_⟩
      refine ent_at (hb.fr0 fd) hgb fun p _ d0 d1 d2 => ⟨_, _, _, d0, d1, d2, (c_ent x y _).mono ?_⟩
      rintro _ w2 ⟨rfl, f2⟩
      refine ⟨_, rfl, sel_ne (fun h => ⟨?_, fd.tr0 f2⟩) (fun h => ?_)⟩
      · rw [if_pos h] at he; rw [he]
      · rw [if_neg (by simpa using h)] at he
        rw [i64_next _ (by omega)]
        exact ih (i + 1) w2 (by omega) (by omega) he (fd.tr0 f2)
  exact loop a.length 0 w (by omega) (Nat.zero_le _) (by simp) (Fr.refl _ _)
theorem c_Compare {w : World} (a b : Val) {sa sb : Sl} (ha : RdN 3 w sa (entsC a.m)) (hb : RdN 3 w sb (entsC b.m)) (hl : a.m.length ≤ 1000000) : Calls Try.prog n_value_Compare #[vagg a sa, vagg b sb] w fun r w' => r = .returned (.int .i64 (cmpV a b)) ∧ Fr0 w w' := by
  refine value_Compare.okT _ _ _ _ _ _ _ _ _ _ _ _ w _ ((lh0 [] (by simp)).newg fun b1 w1 H1 => H1.newg fun b2 w2 H2 => H2.locg fun w3 H3 => H3.callg (c_int _ _ w3) ?_)
  rintro _ w4 rfl H4
  refine ⟨_, rfl, H4.callg (c_int _ _ w4) ?_⟩
  rintro _ w5 rfl H5
  refine ⟨_, rfl, H5.callg (c_int _ _ w5) ?_⟩
  rintro _ w6 rfl H6
  refine ⟨_, rfl, H6.callg (c_u64 _ _ w6) ?_⟩
  rintro _ w7 rfl H7
  refine ⟨_, rfl, H7.callg (c_str _ _ w7) ?_⟩
  rintro _ w8 rfl H8
  refine ⟨_, rfl, LH.or H8 (l := [_, _, _, _, _]) rfl (by simp) fun w9 H9 => ⟨_, rfl, sel_ne (fun h => ⟨?_, H9.fr⟩) (fun h => ?_)⟩⟩
  · show _ = Ending.returned (.int .i64 (cmpV a b))
    unfold cmpV
    rw [if_pos (show headC a b ≠ 0 from h)]
    rfl
  · refine H9.callg (c_lists (ha.fr0 H9.fr) (hb.fr0 H9.fr) hl) ?_
    rintro _ w10 rfl H10
    refine ⟨_, rfl, ?_, H10.fr⟩
    unfold cmpV
    rw [if_neg (show ¬ headC a b ≠ 0 from fun hh => hh h)]
/-! #### The reference's -/
theorem r_ints (a b : Int) (w : World) : Calls Try.prog n_enthymemeref06_ints #[.int .i64 a, .int .i64 b] w fun r w' => r = .returned (.int .i64 (cmpI a b)) ∧ Fr0 w w' := by
  refine enthymemeref06_ints.ok _ _ w _ (sel_dec (fun h => ⟨?_, Fr.refl _ _⟩) (fun h => sel_dec (fun h2 => ⟨?_, Fr.refl _ _⟩) (fun h2 => ⟨?_, Fr.refl _ _⟩)))
  · unfold cmpI; rw [if_pos h]
  · unfold cmpI; rw [if_neg h, if_pos h2]
  · unfold cmpI; rw [if_neg h, if_neg h2]
theorem r_number (a b : Int) (w : World) : Calls Try.prog n_enthymemeref06_number #[.int .u64 a, .int .u64 b] w fun r w' => r = .returned (.int .i64 (cmpI a b)) ∧ Fr0 w w' := by
  refine enthymemeref06_number.ok _ _ w _ (sel_dec (fun h => ⟨?_, Fr.refl _ _⟩) (fun h => sel_dec (fun h2 => ⟨?_, Fr.refl _ _⟩) (fun h2 => ⟨?_, Fr.refl _ _⟩)))
  · unfold cmpI; rw [if_pos h]
  · unfold cmpI; rw [if_neg h, if_pos h2]
  · unfold cmpI; rw [if_neg h, if_neg h2]
theorem cmpS_step (a b : List UInt8) (i : Nat) (ha : i < a.length) (hb : i < b.length) : cmpS (a.drop i) (b.drop i) = if cmpI a[i].toNat b[i].toNat ≠ 0 then cmpI a[i].toNat b[i].toNat else cmpS (a.drop (i + 1)) (b.drop (i + 1)) := by
  rw [List.drop_eq_getElem_cons ha, List.drop_eq_getElem_cons hb]
  rfl
theorem cmpS_end (a b : List UInt8) (i : Nat) (h : ¬ (i < a.length ∧ i < b.length)) (hia : i ≤ a.length) (hib : i ≤ b.length) : cmpS (a.drop i) (b.drop i) = cmpI (a.length : Int) (b.length : Int) := by
  have la : (a.drop i).length = a.length - i := List.length_drop
  have lb : (b.drop i).length = b.length - i := List.length_drop
  unfold cmpI
  cases ha : a.drop i with
  | nil =>
    rw [ha] at la
    cases hb : b.drop i with
    | nil =>
      rw [hb] at lb
      simp only [List.length_nil] at la lb
      rw [if_neg (by omega), if_neg (by omega)]
      rfl
    | cons y m =>
      rw [hb] at lb
      simp only [List.length_nil, List.length_cons] at la lb
      rw [if_pos (by omega)]
      rfl
  | cons x l =>
    rw [ha] at la
    cases hb : b.drop i with
    | nil =>
      rw [hb] at lb
      simp only [List.length_nil, List.length_cons] at la lb
      rw [if_neg (by omega), if_pos (by omega)]
      rfl
    | cons y m =>
      rw [hb] at lb
      simp only [List.length_cons] at la lb
      omega
theorem r_texts (a b : List UInt8) (hl : a.length ≤ 1000000) (w : World) : Calls Try.prog n_enthymemeref06_texts #[.string (ba a), .string (ba b)] w fun r w' => r = .returned (.int .i64 (cmpS a b)) ∧ Fr0 w w' := by
  refine enthymemeref06_texts.ok _ _ w _ ?_
  have na : (ba a).size = a.length := rfl
  have nb : (ba b).size = b.length := rfl
  have fin : ∀ (i : Nat) (w1 : World), ¬ (i < a.length ∧ i < b.length) → i ≤ a.length → i ≤ b.length → cmpS (a.drop i) (b.drop i) = cmpS a b → Fr0 w w1 → enthymemeref06_texts.S1 (ba a) (ba b) w1 fun r w' => r = .returned (.int .i64 (cmpS a b)) ∧ Fr0 w w' := by
    intro i w1 h1 h2 h3 h4 f
    refine (r_ints _ _ w1).mono ?_
    rintro _ w2 ⟨rfl, f2⟩
    refine ⟨_, rfl, ?_, f.tr0 f2⟩
    rw [na, nb, ← cmpS_end a b i h1 h2 h3, h4]
  have get : ∀ (l : List UInt8) (i : Nat) (h : i < l.length), (ba l)[i]? = some l[i] := fun l i h => by
    rw [bl_get (bl_ba l) i, List.getElem?_eq_getElem h]
  have loop : ∀ (d i : Nat) (w1 : World), i + d = a.length → i ≤ b.length → cmpS (a.drop i) (b.drop i) = cmpS a b → Fr0 w w1 → enthymemeref06_texts.L0 (ba a) (ba b) (i : Int) w1 fun r w' => r = .returned (.int .i64 (cmpS a b)) ∧ Fr0 w w' := by
    intro d
    induction d with
    | zero =>
      intro i w1 hi hib he f
      exact enthymemeref06_texts.L0_step _ _ _ _ _ (sel_false (decide_eq_false (by omega)) (fin i w1 (by omega) (by omega) hib he f))
    | succ d ih =>
      intro i w1 hi hib he f
      refine enthymemeref06_texts.L0_step _ _ _ _ _ (sel_true (decide_eq_true (by omega)) (sel_dec (fun hlt => ?_) (fun hlt => fin i w1 (by omega) (by omega) hib he f)))
      have fd : Fr0 w w1.drew := f.tr0 (Fr.drew _ _)
      rw [cmpS_step a b i (by omega) (by omega)] at he
      refine ⟨by omega, _, by rw [Int.toNat_natCast]; exact get a i (by omega), by omega, _, by rw [Int.toNat_natCast]; exact get b i (by omega), (r_ints _ _ _).mono ?_⟩
      rintro _ w2 ⟨rfl, f2⟩
      have u8 : ∀ c : UInt8, IntKind.wrap .i64 ((c.toNat : Nat) : Int) = ((c.toNat : Nat) : Int) := fun c => IntWalk.i64_in _ (by have := UInt8.toNat_lt c; omega)
      rw [u8, u8]
      refine ⟨_, rfl, sel_ne (fun h => ⟨?_, fd.tr0 f2⟩) (fun h => ?_)⟩
      · rw [if_pos h] at he; rw [he]
      · rw [if_neg (by simpa using h)] at he
        rw [i64_next _ (by omega)]
        exact ih (i + 1) w2 (by omega) (by omega) he (fd.tr0 f2)
  exact loop a.length 0 w (by omega) (Nat.zero_le _) (by simp) (Fr.refl _ _)
end Go.Proofs.Ytjjhfdjpmonlaaa
