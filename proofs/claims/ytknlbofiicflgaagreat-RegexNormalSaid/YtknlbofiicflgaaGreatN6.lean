/- Package slices over expressions: SortFunc of at most 13: the contract. -/
import Derived.Test.YtknlbofiicflgaaGreatN7
namespace Go.Proofs.YtknlbofiicflgaaGreat
open Go Go.W

/-! #### The pivot -/
def cellK (bs k : Nat) (w : World) : Prop := w.heap[bs]? = some (.cells #[.i (k : Int)] ty_int (0, 0))
theorem cellK_ld {bs k : Nat} {w : World} (h : cellK bs k w) : w.cell? (at0 bs) = some (.i (k : Int)) := by
  have := cellAt (p := at0 bs) (i := 0) (v := .i (k : Int)) h rfl rfl
  rwa [add0] at this
abbrev rowTr (s : Sl) (l : List Rt) : Rt := .mk 0 0 0 s l
theorem tree_fr {M : Nat → Prop} {t : Rt} {w w' : World} (h : t.P w) (f : Fr M w w') (hd : ∀ b ∈ t.fp, ¬ M b) : t.P w' := Rt.keep t (fun b hb hl => f.keep b hl (hd b hb)) h
section
variable {s : Sl} {l : List Rt} {bs : Nat}
theorem c_order2 (hl : Rt.szs l ≤ 1000000) (hd : bs ∉ (rowTr s l).fp) (i j k : Nat) (hk : k ≤ 100) (hi : i < l.length) (hj : j < l.length) {w : World} (hP : (rowTr s l).P w) (hb : cellK bs k w) :
    Calls Tryz.prog n_slices_order2CmpFunc_regex_Regex #[s.v, .i (i : Int), .i (j : Int), .pointer (some (at0 bs)), .func (.func n_regex_Compare) #[] #[]] w fun r w' => (∃ a b k' : Nat, r = .returned (.tuple #[.i (a : Int), .i (b : Int)]) ∧ (a = i ∧ b = j ∨ a = j ∧ b = i) ∧ k' ≤ k + 1 ∧ cellK bs k' w') ∧ Fr (· = bs) w w' := by
  have gi : l[i]? = some l[i] := List.getElem?_eq_getElem hi
  have gj : l[j]? = some l[j] := List.getElem?_eq_getElem hj
  generalize l[i] = a at gi
  generalize l[j] = b at gj
  have ma := List.mem_of_getElem? gi
  have mb := List.mem_of_getElem? gj
  have f0 : Fr0 w w.drew := Fr.drew _ _
  have hP1 := hP.fr0 f0
  refine slices_order2CmpFunc_regex_Regex.ok _ _ _ _ w _ (part_el hP1 rfl gj (part_el hP1 rfl gi ?_))
  refine (c_Compare b a w.drew (Nat.le_trans (Rt.szs_mem mb) hl) (hP1.parts.2.mem mb) (hP1.parts.2.mem ma)).mono ?_
  rintro _ w2 ⟨rfl, f⟩
  have lb := lt_of_heap hb
  have hb2 : cellK bs k w2 := by
    unfold cellK at hb ⊢
    rw [f.keep bs (Nat.lt_of_lt_of_le lb f0.size) id, f0.keep bs lb id]; exact hb
  refine ⟨_, rfl, sel_dec (fun _ => ?_) (fun _ => ⟨⟨i, j, k, rfl, .inl ⟨rfl, rfl⟩, Nat.le_succ _, hb2⟩, (f0.tr0 f).of0⟩)⟩
  obtain ⟨x1, x2, x3, x4⟩ := set_c hb2 0 (by simp) (.i (((k + 1 : Nat)) : Int))
  rw [add0] at x1 x2 x3 x4
  refine ⟨(k : Int), cellK_ld hb2, x1, x2, ?_⟩
  rw [i64_next _ (by omega)]
  exact ⟨⟨j, i, k + 1, rfl, .inr ⟨rfl, rfl⟩, Nat.le_refl _, by unfold cellK; rw [x3]; rfl⟩, (f0.tr0 f).of0.trans x4 fun x _ h => h⟩
theorem c_median (hl : Rt.szs l ≤ 1000000) (hd : bs ∉ (rowTr s l).fp) (a b c k : Nat) (hk : k ≤ 10) (ha : a < l.length) (hb : b < l.length) (hc : c < l.length) {w : World} (hP : (rowTr s l).P w) (hs : cellK bs k w) :
    Calls Tryz.prog n_slices_medianCmpFunc_regex_Regex #[s.v, .i (a : Int), .i (b : Int), .i (c : Int), .pointer (some (at0 bs)), .func (.func n_regex_Compare) #[] #[]] w fun r w' => (∃ m k' : Nat, r = .returned (.i (m : Int)) ∧ m < l.length ∧ k' ≤ k + 3 ∧ cellK bs k' w') ∧ Fr (· = bs) w w' := by
  have nd : ∀ x ∈ (rowTr s l).fp, ¬ x = bs := fun x hx e => hd (e ▸ hx)
  refine slices_medianCmpFunc_regex_Regex.ok _ _ _ _ _ w _ ((c_order2 hl hd a b k (by omega) ha hb hP hs).mono ?_)
  rintro _ w1 ⟨⟨a1, b1, k1, rfl, h1, hk1, hs1⟩, f1⟩
  refine ⟨_, _, rfl, (c_order2 hl hd b1 c k1 (by omega) (by omega) hc (tree_fr hP f1 nd) hs1).mono ?_⟩
  rintro _ w2 ⟨⟨b2, c2, k2, rfl, h2, hk2, hs2⟩, f2⟩
  refine ⟨_, _, rfl, (c_order2 hl hd a1 b2 k2 (by omega) (by omega) (by omega) (tree_fr (tree_fr hP f1 nd) f2 nd) hs2).mono ?_⟩
  rintro _ w3 ⟨⟨a3, b3, k3, rfl, h3, hk3, hs3⟩, f3⟩
  exact ⟨_, _, rfl, ⟨b3, k3, rfl, by omega, by omega, hs3⟩, (f1.trans f2 fun _ _ h => h).trans f3 fun _ _ h => h⟩
theorem c_pivot (hl : Rt.szs l ≤ 1000000) (h13 : l.length = 13) {w : World} (hP : (rowTr s l).P w) :
    Calls Tryz.prog n_slices_choosePivotCmpFunc_regex_Regex #[s.v, .i 0, .i 13, .func (.func n_regex_Compare) #[] #[]] w fun r w' => (∃ (p : Nat) (h : Int), r = .returned (.tuple #[.i (p : Int), .i h]) ∧ p < 13 ∧ h ≠ 2) ∧ Fr0 w w' := by
  refine slices_choosePivotCmpFunc_regex_Regex.ok _ _ _ w _ ?_
  have f0 : Fr0 w (w.alloc (.cells #[.i 0] ty_int)) := Fr.alloc _ _ _
  have hs0 : cellK w.heap.size 0 (w.alloc (.cells #[.i 0] ty_int)) := heap_new w _
  have hd : w.heap.size ∉ (rowTr s l).fp := fun h => absurd (Rt.lt _ hP _ h) (by omega)
  have hm := c_median (s := s) hl hd 3 6 9 0 (by omega) (by omega) (by omega) (by omega) (hP.fr0 f0) hs0
  show sel (decide ((13 : Int) ≥ 8)) (sel (decide ((13 : Int) ≥ 50)) _ _) _
  refine sel_true (by decide) (sel_false (by decide) (hm.mono ?_))
  rintro _ w1 ⟨⟨m, k, rfl, hm, hk, hs⟩, f⟩
  have f1 : Fr0 w w1 := (f0.trans f fun x hx e => by subst e; omega)
  have e1 : ((k : Int) == 12) = false := by simp; omega
  refine ⟨_, rfl, (k : Int), cellK_ld hs, sel_intro (fun _ => ⟨⟨m, 1, rfl, by omega, by decide⟩, f1⟩) fun _ => sel_false e1 ⟨⟨m, 0, rfl, by omega, by decide⟩, f1⟩⟩
/-! #### Already sorted? -/
theorem asc_adj : ∀ {l : List Rx}, (∀ (i : Nat) a b, l[i]? = some a → l[i + 1]? = some b → cmpR a b ≤ 0) → Asc l
  | [], _ => .nil
  | [a], _ => by simp
  | a :: b :: l, h => by
    have ih : Asc (b :: l) := asc_adj fun i x y hx hy => h (i + 1) x y (by simpa using hx) (by simpa using hy)
    have hab : cmpR a b ≤ 0 := h 0 a b rfl rfl
    refine List.pairwise_cons.2 ⟨fun t ht => ?_, ih⟩
    rcases List.mem_cons.1 ht with rfl | ht
    · exact hab
    · exact (cmpR_tri a b t).le hab ((List.pairwise_cons.1 ih).1 t ht)
theorem c_partial (hl : Rt.szs l ≤ 1000000) (h13 : l.length = 13) {w : World} (hP : (rowTr s l).P w) :
    Calls Tryz.prog n_slices_partialInsertionSortCmpFunc_regex_Regex #[s.v, .i 0, .i 13, .func (.func n_regex_Compare) #[] #[]] w fun r w' => (∃ t : Bool, r = .returned (.bool t) ∧ (t = true → Asc (l.map Rt.rx))) ∧ Fr0 w w' := by
  have s3 : ∀ (i : Nat) (w1 : World), Fr0 w w1 → i ≤ 13 → (∀ (q : Nat) a b, q + 1 < i → l[q]? = some a → l[q + 1]? = some b → cmpR a.rx b.rx ≤ 0) → slices_partialInsertionSortCmpFunc_regex_Regex.S3 s 0 13 (i : Int) 0 w1 fun r w' => (∃ t : Bool, r = .returned (.bool t) ∧ (t = true → Asc (l.map Rt.rx))) ∧ Fr0 w w' := by
    intro i w1 f hi hq
    refine sel_eq (fun h => ⟨⟨true, rfl, fun _ => asc_adj fun q a b ha hb => ?_⟩, f⟩) (fun h => sel_true (by decide) ⟨⟨false, rfl, fun h => by cases h⟩, f⟩)
    rw [List.getElem?_map] at ha hb
    obtain ⟨a', ha', rfl⟩ := Option.map_eq_some_iff.1 ha
    obtain ⟨b', hb', rfl⟩ := Option.map_eq_some_iff.1 hb
    have := (List.getElem?_eq_some_iff.1 hb').1
    exact hq q a' b' (by omega) ha' hb'
  have loop : ∀ (d i : Nat) (w1 : World), i + d = 13 → 1 ≤ i → Fr0 w w1 → (∀ (q : Nat) a b, q + 1 < i → l[q]? = some a → l[q + 1]? = some b → cmpR a.rx b.rx ≤ 0) → slices_partialInsertionSortCmpFunc_regex_Regex.L2 s 0 13 (i : Int) 0 w1 fun r w' => (∃ t : Bool, r = .returned (.bool t) ∧ (t = true → Asc (l.map Rt.rx))) ∧ Fr0 w w' := by
    intro d
    induction d with
    | zero =>
      intro i w1 hi h1 f hq
      exact slices_partialInsertionSortCmpFunc_regex_Regex.L2_step _ _ _ _ _ _ _ (sel_false (decide_eq_false (by omega)) (s3 i _ (f.tr0 (Fr.drew _ _)) (by omega) hq))
    | succ d ihd =>
      intro i w1 hi h1 f hq
      obtain ⟨i, rfl⟩ : ∃ m, i = m + 1 := ⟨i - 1, by omega⟩
      have ga : l[i]? = some l[i] := List.getElem?_eq_getElem (by omega)
      have gb : l[i + 1]? = some l[i + 1] := List.getElem?_eq_getElem (by omega)
      generalize l[i] = a at ga
      generalize l[i + 1] = b at gb
      have ma := List.mem_of_getElem? ga
      have mb := List.mem_of_getElem? gb
      have hP1 := hP.fr0 (f.tr0 (Fr.drew _ w1))
      refine slices_partialInsertionSortCmpFunc_regex_Regex.L2_step _ _ _ _ _ _ _ (sel_true (decide_eq_true (by omega)) (part_el hP1 rfl gb (part_el (k := i) hP1 (by rw [i64_prev (by omega) (by omega)]; rfl) ga ?_)))
      refine (c_Compare b a _ (Nat.le_trans (Rt.szs_mem mb) hl) (hP1.parts.2.mem mb) (hP1.parts.2.mem ma)).mono ?_
      rintro _ w2 ⟨rfl, f2⟩
      have f3 := (f.tr0 (Fr.drew _ w1)).tr0 f2
      refine ⟨_, rfl, sel_not (fun h => ?_) (fun h => s3 (i + 1) w2 f3 (by omega) hq)⟩
      have h := of_decide_eq_false h
      rw [i64_next _ (by omega)]
      refine ihd (i + 1 + 1) w2 (by omega) (by omega) f3 fun q x y hq' hx hy => ?_
      by_cases e : q = i
      · subst e
        rw [ga] at hx
        rw [gb] at hy
        cases hx
        cases hy
        have := cmpR_neg a.rx b.rx
        omega
      · exact hq q x y (by omega) hx hy
  exact slices_partialInsertionSortCmpFunc_regex_Regex.ok _ _ _ w _ (slices_partialInsertionSortCmpFunc_regex_Regex.L1_step _ _ _ _ _ _ _ (sel_true (by decide) (loop 12 1 w (by omega) (by omega) (Fr.refl _ _) (fun q a b h => by omega))))
end
/-! #### Partition -/
theorem sw_get {α : Type} {ts : List α} {i j : Nat} {a b : α} (hi : ts[i]? = some a) (hj : ts[j]? = some b) (q : Nat) : ((ts.set i b).set j a)[q]? = if q = j then some a else if q = i then some b else ts[q]? := by
  have h1 := (List.getElem?_eq_some_iff.1 hi).1
  have h2 := (List.getElem?_eq_some_iff.1 hj).1
  rw [List.getElem?_set, List.length_set, List.getElem?_set]
  by_cases e : q = j
  · subst e; simp [h2]
  · rw [if_neg (show ¬ j = q from fun h => e h.symm), if_neg e]
    by_cases e2 : q = i
    · subst e2; simp [h1]
    · rw [if_neg (show ¬ i = q from fun h => e2 h.symm), if_neg e2]
theorem sw_perm {α : Type} {ts : List α} {i j : Nat} {a b : α} (hi : ts[i]? = some a) (hj : ts[j]? = some b) : ((ts.set i b).set j a).Perm ts := by
  obtain ⟨h1, rfl⟩ := List.getElem?_eq_some_iff.1 hi
  obtain ⟨h2, rfl⟩ := List.getElem?_eq_some_iff.1 hj
  exact List.set_set_perm h1 h2
abbrev LtP (pv x : Rt) : Prop := cmpR x.rx pv.rx < 0
structure PInv (l ts : List Rt) (pv : Rt) (i j : Nat) : Prop where
  perm : ts.Perm l
  z : ts[0]? = some pv
  i1 : 1 ≤ i
  ij : i ≤ j + 1
  jn : j < ts.length
  lo : ∀ (q : Nat) x, 1 ≤ q → q < i → ts[q]? = some x → LtP pv x
  hi : ∀ (q : Nat) x, j < q → ts[q]? = some x → ¬ LtP pv x
/-- a row in two halves -/
structure Cut (l ts : List Rt) (p : Rt) (m : Nat) : Prop where
  perm : ts.Perm l
  at_ : ts[m]? = some p
  lo : ∀ (q : Nat) x, q < m → ts[q]? = some x → LtP p x
  hi : ∀ (q : Nat) x, m < q → ts[q]? = some x → ¬ LtP p x
theorem PInv.cut {l ts : List Rt} {pv y : Rt} {i j : Nat} (I : PInv l ts pv i j) (h : j < i) (hy : ts[j]? = some y) : Cut l ((ts.set j pv).set 0 y) pv j := by
  have g := sw_get hy I.z
  have hij := I.ij
  refine ⟨(sw_perm hy I.z).trans I.perm, ?_, fun q x hq hx => ?_, fun q x hq hx => ?_⟩
  · rw [g]
    by_cases e : j = 0
    · rw [if_pos e]
      rw [e] at hy
      rw [← hy, I.z]
    · rw [if_neg e, if_pos rfl]
  · rw [g] at hx
    split at hx
    · cases hx
      exact I.lo j y (by omega) (by omega) hy
    · rw [if_neg (by omega)] at hx
      exact I.lo q x (by omega) (by omega) hx
  · rw [g, if_neg (by omega), if_neg (by omega)] at hx
    exact I.hi q x hq hx
theorem PInv.swap {l ts : List Rt} {pv x y : Rt} {i j : Nat} (I : PInv l ts pv i j) (hx : ts[i]? = some x) (hy : ts[j]? = some y) (h : i < j) (lx : ¬ LtP pv x) (ly : LtP pv y) : PInv l ((ts.set i y).set j x) pv (i + 1) (j - 1) := by
  have g := sw_get hx hy
  have h1 := I.i1
  have hj := I.jn
  refine ⟨(sw_perm hx hy).trans I.perm, ?_, by omega, by omega, by simp only [List.length_set]; omega, fun q z hq1 hq hz => ?_, fun q z hq hz => ?_⟩
  · rw [g, if_neg (by omega), if_neg (by omega)]; exact I.z
  · rw [g, if_neg (by omega)] at hz
    split at hz
    · cases hz; exact ly
    · exact I.lo q z hq1 (by omega) hz
  · rw [g] at hz
    split at hz
    · cases hz; exact lx
    · rw [if_neg (by omega)] at hz
      exact I.hi q z (by omega) hz
section
variable {s : Sl} {l : List Rt} {w : World}
abbrev PaP (s : Sl) (l : List Rt) (w : World) : Post := fun r w' => (∃ (m : Nat) (t : Bool) (ts : List Rt) (p : Rt), r = .returned (.tuple #[.i (m : Int), .bool t]) ∧ Cut l ts p m ∧ OwnRow w' ty_regex_Regex 4 s (ts.flatMap Rt.c)) ∧ Fr (· ∈ blkL s) w w'
abbrev LHp (s : Sl) (l : List Rt) (w w1 : World) (ts : List Rt) : Prop := LH (· ∈ blkL s) w w1 [.row ty_regex_Regex 4 s (ts.flatMap Rt.c)] [.trees l]
theorem pa_end {w1 : World} {ts : List Rt} {pv y : Rt} {i j : Nat} (I : PInv l ts pv i j) (h : j < i) (hy : ts[j]? = some y) (t : Bool) (H : LHp s l w w1 ((ts.set j pv).set 0 y)) : PaP s l w (.returned (.tuple #[.i (j : Int), .bool t])) w1 :=
  ⟨⟨j, t, _, pv, rfl, I.cut h hy, H.get 0⟩, H.fr⟩
theorem pa_s2 (hl : l.length ≤ 1000) {pv : Rt} {D : Nat} (next : ∀ (i j : Nat) (ts : List Rt) (w1 : World), j + 1 - i < D → PInv l ts pv i j → LHp s l w w1 ts → slices_partitionCmpFunc_regex_Regex.L4 s 0 (i : Int) (j : Int) w1 (PaP s l w))
    (i j : Nat) (ts : List Rt) (w1 : World) (hD : j + 1 - i ≤ D) (I : PInv l ts pv i j) (hx : ∀ x, i ≤ j → ts[i]? = some x → ¬ LtP pv x) (hy : ∀ y, i ≤ j → ts[j]? = some y → LtP pv y) (H : LHp s l w w1 ts) : slices_partitionCmpFunc_regex_Regex.S7 s 0 (i : Int) (j : Int) w1 (PaP s l w) := by
  have ll := I.perm.length_eq
  have hjn := I.jn
  have gj : ts[j]? = some ts[j] := List.getElem?_eq_getElem hjn
  generalize ts[j] = y at gj
  refine sel_dec (fun h => H.dr fun w2 H2 => H2.el 0 0 rfl I.z (H2.el 0 j rfl gj (H2.elSt 0 j (t := pv) rfl hjn fun w3 H3 => H3.elSt 0 0 (t := y) (ts := ts.set j pv) rfl (by rw [List.length_set]; omega) fun w4 H4 => pa_end I (by omega) gj false H4))) (fun h => ?_)
  have hij : i ≤ j := by omega
  have gi : ts[i]? = some ts[i] := List.getElem?_eq_getElem (by omega)
  generalize ts[i] = x at gi
  have lx := hx x hij gi
  have ly := hy y hij gj
  have hne : i ≠ j := fun e => by subst e; rw [gi] at gj; cases gj; exact lx ly
  refine H.dr fun w2 H2 => H2.el 0 j rfl gj (H2.el 0 i rfl gi (H2.elSt 0 i (t := y) (ts := ts) rfl (by omega) fun w3 H3 => H3.elSt 0 j (t := x) (ts := ts.set i y) rfl (by rw [List.length_set]; omega) fun w4 H4 => ?_))
  show slices_partitionCmpFunc_regex_Regex.L4 _ _ _ _ _ _
  have h1 := I.i1
  rw [i64_next _ (by omega), i64_prev (by omega) (by omega)]
  exact next (i + 1) (j - 1) _ w4 (by omega) (I.swap gi gj (by omega) lx ly) H4
theorem pa_b2 (hz : Rt.szs l ≤ 1000000) (hl : l.length ≤ 1000) {pv : Rt} {D : Nat} (next : ∀ (i j : Nat) (ts : List Rt) (w1 : World), j + 1 - i < D → PInv l ts pv i j → LHp s l w w1 ts → slices_partitionCmpFunc_regex_Regex.L4 s 0 (i : Int) (j : Int) w1 (PaP s l w))
    (i : Nat) (ts : List Rt) : ∀ (e j : Nat) (w1 : World), j + 1 - i ≤ e → j + 1 - i ≤ D → PInv l ts pv i j → (∀ x, i ≤ j → ts[i]? = some x → ¬ LtP pv x) → LHp s l w w1 ts → slices_partitionCmpFunc_regex_Regex.L6 s 0 (i : Int) (j : Int) w1 (PaP s l w) := by
  intro e
  induction e with
  | zero =>
    intro j w1 he hD I hx H
    have hij := I.ij
    exact slices_partitionCmpFunc_regex_Regex.L6_step _ _ _ _ _ _ (H.dr fun w2 H2 => sel_false (decide_eq_false (by omega)) (pa_s2 hl next i j ts w2 hD I hx (fun _ h => by omega) H2))
  | succ e ih =>
    intro j w1 he hD I hx H
    have ll := I.perm.length_eq
    have hjn := I.jn
    refine slices_partitionCmpFunc_regex_Regex.L6_step _ _ _ _ _ _ (H.dr fun w2 H2 => sel_dec (fun h => ?_) (fun h => pa_s2 hl next i j ts w2 hD I hx (fun _ h => by omega) H2))
    have h1 := I.i1
    have gj : ts[j]? = some ts[j] := List.getElem?_eq_getElem hjn
    generalize ts[j] = y at gj
    have my := I.perm.mem_iff.1 (List.mem_of_getElem? gj)
    have mp := I.perm.mem_iff.1 (List.mem_of_getElem? I.z)
    have kt : ∀ t ∈ l, t.sz ≤ 1000000 := fun t ht => Nat.le_trans (Rt.szs_mem ht) hz
    refine H2.el 0 j rfl gj (H2.el 0 0 rfl I.z (H2.call (c_Compare y pv w2 (kt y my) ((show Rt.Ps w2 l from H2.getD 0).mem my) ((show Rt.Ps w2 l from H2.getD 0).mem mp)) ?_))
    rintro _ w3 rfl H3
    refine ⟨_, rfl, sel_not (fun hc => ?_) (fun hc => pa_s2 hl next i j ts w3 hD I hx (fun y' _ hy' => by rw [gj] at hy'; cases hy'; exact of_decide_eq_true hc) H3)⟩
    have hc := of_decide_eq_false hc
    rw [i64_prev (by omega) (by omega)]
    exact ih (j - 1) w3 (by omega) (by omega) ⟨I.perm, I.z, I.i1, by omega, by omega, I.lo, fun q x hq hx' => by
      by_cases e' : q = j
      · subst e'; rw [gj] at hx'; cases hx'; exact hc
      · exact I.hi q x (by omega) hx'⟩ (fun x _ h' => hx x (by omega) h') H3
theorem pa_a2 (hz : Rt.szs l ≤ 1000000) (hl : l.length ≤ 1000) {pv : Rt} {D : Nat} (next : ∀ (i j : Nat) (ts : List Rt) (w1 : World), j + 1 - i < D → PInv l ts pv i j → LHp s l w w1 ts → slices_partitionCmpFunc_regex_Regex.L4 s 0 (i : Int) (j : Int) w1 (PaP s l w))
    (j : Nat) (ts : List Rt) : ∀ (e i : Nat) (w1 : World), j + 1 - i ≤ e → j + 1 - i ≤ D → PInv l ts pv i j → LHp s l w w1 ts → slices_partitionCmpFunc_regex_Regex.L5 s 0 (i : Int) (j : Int) w1 (PaP s l w) := by
  intro e
  induction e with
  | zero =>
    intro i w1 he hD I H
    have hij := I.ij
    exact slices_partitionCmpFunc_regex_Regex.L5_step _ _ _ _ _ _ (H.dr fun w2 H2 => sel_false (decide_eq_false (by omega)) (pa_b2 hz hl next i ts _ j w2 (Nat.le_refl _) hD I (fun _ h => by omega) H2))
  | succ e ih =>
    intro i w1 he hD I H
    have ll := I.perm.length_eq
    have hjn := I.jn
    refine slices_partitionCmpFunc_regex_Regex.L5_step _ _ _ _ _ _ (H.dr fun w2 H2 => sel_dec (fun h => ?_) (fun h => pa_b2 hz hl next i ts _ j w2 (Nat.le_refl _) hD I (fun _ h => by omega) H2))
    have h1 := I.i1
    have gi : ts[i]? = some ts[i] := List.getElem?_eq_getElem (by omega)
    generalize ts[i] = x at gi
    have mx := I.perm.mem_iff.1 (List.mem_of_getElem? gi)
    have mp := I.perm.mem_iff.1 (List.mem_of_getElem? I.z)
    have kt : ∀ t ∈ l, t.sz ≤ 1000000 := fun t ht => Nat.le_trans (Rt.szs_mem ht) hz
    refine H2.el 0 i rfl gi (H2.el 0 0 rfl I.z (H2.call (c_Compare x pv w2 (kt x mx) ((show Rt.Ps w2 l from H2.getD 0).mem mx) ((show Rt.Ps w2 l from H2.getD 0).mem mp)) ?_))
    rintro _ w3 rfl H3
    refine ⟨_, rfl, sel_dec (fun hc => ?_) (fun hc => pa_b2 hz hl next i ts _ j w3 (Nat.le_refl _) hD I (fun x' _ hx' => by rw [gi] at hx'; cases hx'; exact hc) H3)⟩
    rw [i64_next _ (by omega)]
    exact ih (i + 1) w3 (by omega) (by omega) ⟨I.perm, I.z, by omega, by omega, I.jn, fun q x' hq1 hq hx' => by
      by_cases e' : q = i
      · subst e'; rw [gi] at hx'; cases hx'; exact hc
      · exact I.lo q x' hq1 (by omega) hx', I.hi⟩ H3
theorem pa_s1 (hl : l.length ≤ 1000) {pv : Rt} {D : Nat} (next : ∀ (i j : Nat) (ts : List Rt) (w1 : World), j + 1 - i < D → PInv l ts pv i j → LHp s l w w1 ts → slices_partitionCmpFunc_regex_Regex.L4 s 0 (i : Int) (j : Int) w1 (PaP s l w))
    (i j : Nat) (ts : List Rt) (w1 : World) (hD : j + 1 - i ≤ D) (I : PInv l ts pv i j) (hx : ∀ x, i ≤ j → ts[i]? = some x → ¬ LtP pv x) (hy : ∀ y, i ≤ j → ts[j]? = some y → LtP pv y) (H : LHp s l w w1 ts) : slices_partitionCmpFunc_regex_Regex.S2 s 0 (i : Int) (j : Int) w1 (PaP s l w) := by
  have ll := I.perm.length_eq
  have hjn := I.jn
  have gj : ts[j]? = some ts[j] := List.getElem?_eq_getElem hjn
  generalize ts[j] = y at gj
  refine sel_dec (fun h => H.dr fun w2 H2 => H2.el 0 0 rfl I.z (H2.el 0 j rfl gj (H2.elSt 0 j (t := pv) rfl hjn fun w3 H3 => H3.elSt 0 0 (t := y) (ts := ts.set j pv) rfl (by rw [List.length_set]; omega) fun w4 H4 => pa_end I (by omega) gj true H4))) (fun h => ?_)
  have hij : i ≤ j := by omega
  have gi : ts[i]? = some ts[i] := List.getElem?_eq_getElem (by omega)
  generalize ts[i] = x at gi
  have lx := hx x hij gi
  have ly := hy y hij gj
  have hne : i ≠ j := fun e => by subst e; rw [gi] at gj; cases gj; exact lx ly
  refine H.dr fun w2 H2 => H2.el 0 j rfl gj (H2.el 0 i rfl gi (H2.elSt 0 i (t := y) (ts := ts) rfl (by omega) fun w3 H3 => H3.elSt 0 j (t := x) (ts := ts.set i y) rfl (by rw [List.length_set]; omega) fun w4 H4 => ?_))
  show slices_partitionCmpFunc_regex_Regex.L4 _ _ _ _ _ _
  have h1 := I.i1
  rw [i64_next _ (by omega), i64_prev (by omega) (by omega)]
  exact next (i + 1) (j - 1) _ w4 (by omega) (I.swap gi gj (by omega) lx ly) H4
theorem pa_b1 (hz : Rt.szs l ≤ 1000000) (hl : l.length ≤ 1000) {pv : Rt} {D : Nat} (next : ∀ (i j : Nat) (ts : List Rt) (w1 : World), j + 1 - i < D → PInv l ts pv i j → LHp s l w w1 ts → slices_partitionCmpFunc_regex_Regex.L4 s 0 (i : Int) (j : Int) w1 (PaP s l w))
    (i : Nat) (ts : List Rt) : ∀ (e j : Nat) (w1 : World), j + 1 - i ≤ e → j + 1 - i ≤ D → PInv l ts pv i j → (∀ x, i ≤ j → ts[i]? = some x → ¬ LtP pv x) → LHp s l w w1 ts → slices_partitionCmpFunc_regex_Regex.L1 s 0 (i : Int) (j : Int) w1 (PaP s l w) := by
  intro e
  induction e with
  | zero =>
    intro j w1 he hD I hx H
    have hij := I.ij
    exact slices_partitionCmpFunc_regex_Regex.L1_step _ _ _ _ _ _ (H.dr fun w2 H2 => sel_false (decide_eq_false (by omega)) (pa_s1 hl next i j ts w2 hD I hx (fun _ h => by omega) H2))
  | succ e ih =>
    intro j w1 he hD I hx H
    have ll := I.perm.length_eq
    have hjn := I.jn
    refine slices_partitionCmpFunc_regex_Regex.L1_step _ _ _ _ _ _ (H.dr fun w2 H2 => sel_dec (fun h => ?_) (fun h => pa_s1 hl next i j ts w2 hD I hx (fun _ h => by omega) H2))
    have h1 := I.i1
    have gj : ts[j]? = some ts[j] := List.getElem?_eq_getElem hjn
    generalize ts[j] = y at gj
    have my := I.perm.mem_iff.1 (List.mem_of_getElem? gj)
    have mp := I.perm.mem_iff.1 (List.mem_of_getElem? I.z)
    have kt : ∀ t ∈ l, t.sz ≤ 1000000 := fun t ht => Nat.le_trans (Rt.szs_mem ht) hz
    refine H2.el 0 j rfl gj (H2.el 0 0 rfl I.z (H2.call (c_Compare y pv w2 (kt y my) ((show Rt.Ps w2 l from H2.getD 0).mem my) ((show Rt.Ps w2 l from H2.getD 0).mem mp)) ?_))
    rintro _ w3 rfl H3
    refine ⟨_, rfl, sel_not (fun hc => ?_) (fun hc => pa_s1 hl next i j ts w3 hD I hx (fun y' _ hy' => by rw [gj] at hy'; cases hy'; exact of_decide_eq_true hc) H3)⟩
    have hc := of_decide_eq_false hc
    rw [i64_prev (by omega) (by omega)]
    exact ih (j - 1) w3 (by omega) (by omega) ⟨I.perm, I.z, I.i1, by omega, by omega, I.lo, fun q x hq hx' => by
      by_cases e' : q = j
      · subst e'; rw [gj] at hx'; cases hx'; exact hc
      · exact I.hi q x (by omega) hx'⟩ (fun x _ h' => hx x (by omega) h') H3
theorem pa_a1 (hz : Rt.szs l ≤ 1000000) (hl : l.length ≤ 1000) {pv : Rt} {D : Nat} (next : ∀ (i j : Nat) (ts : List Rt) (w1 : World), j + 1 - i < D → PInv l ts pv i j → LHp s l w w1 ts → slices_partitionCmpFunc_regex_Regex.L4 s 0 (i : Int) (j : Int) w1 (PaP s l w))
    (j : Nat) (ts : List Rt) : ∀ (e i : Nat) (w1 : World), j + 1 - i ≤ e → j + 1 - i ≤ D → PInv l ts pv i j → LHp s l w w1 ts → slices_partitionCmpFunc_regex_Regex.L0 s 0 (i : Int) (j : Int) w1 (PaP s l w) := by
  intro e
  induction e with
  | zero =>
    intro i w1 he hD I H
    have hij := I.ij
    exact slices_partitionCmpFunc_regex_Regex.L0_step _ _ _ _ _ _ (H.dr fun w2 H2 => sel_false (decide_eq_false (by omega)) (pa_b1 hz hl next i ts _ j w2 (Nat.le_refl _) hD I (fun _ h => by omega) H2))
  | succ e ih =>
    intro i w1 he hD I H
    have ll := I.perm.length_eq
    have hjn := I.jn
    refine slices_partitionCmpFunc_regex_Regex.L0_step _ _ _ _ _ _ (H.dr fun w2 H2 => sel_dec (fun h => ?_) (fun h => pa_b1 hz hl next i ts _ j w2 (Nat.le_refl _) hD I (fun _ h => by omega) H2))
    have h1 := I.i1
    have gi : ts[i]? = some ts[i] := List.getElem?_eq_getElem (by omega)
    generalize ts[i] = x at gi
    have mx := I.perm.mem_iff.1 (List.mem_of_getElem? gi)
    have mp := I.perm.mem_iff.1 (List.mem_of_getElem? I.z)
    have kt : ∀ t ∈ l, t.sz ≤ 1000000 := fun t ht => Nat.le_trans (Rt.szs_mem ht) hz
    refine H2.el 0 i rfl gi (H2.el 0 0 rfl I.z (H2.call (c_Compare x pv w2 (kt x mx) ((show Rt.Ps w2 l from H2.getD 0).mem mx) ((show Rt.Ps w2 l from H2.getD 0).mem mp)) ?_))
    rintro _ w3 rfl H3
    refine ⟨_, rfl, sel_dec (fun hc => ?_) (fun hc => pa_b1 hz hl next i ts _ j w3 (Nat.le_refl _) hD I (fun x' _ hx' => by rw [gi] at hx'; cases hx'; exact hc) H3)⟩
    rw [i64_next _ (by omega)]
    exact ih (i + 1) w3 (by omega) (by omega) ⟨I.perm, I.z, by omega, by omega, I.jn, fun q x' hq1 hq hx' => by
      by_cases e' : q = i
      · subst e'; rw [gi] at hx'; cases hx'; exact hc
      · exact I.lo q x' hq1 (by omega) hx', I.hi⟩ H3
theorem pa_L4 (hz : Rt.szs l ≤ 1000000) (hl : l.length ≤ 1000) {pv : Rt} : ∀ (D i j : Nat) (ts : List Rt) (w1 : World), j + 1 - i < D → PInv l ts pv i j → LHp s l w w1 ts → slices_partitionCmpFunc_regex_Regex.L4 s 0 (i : Int) (j : Int) w1 (PaP s l w)
  | 0, i, j, ts, w1, h, _, _ => by omega
  | D + 1, i, j, ts, w1, h, I, H => slices_partitionCmpFunc_regex_Regex.L4_step _ _ _ _ _ _ (pa_a2 hz hl (pa_L4 hz hl D) j ts _ i w1 (Nat.le_refl _) (by omega) I H)
theorem c_partition (hz : Rt.szs l ≤ 1000000) (h13 : l.length = 13) (ho : OwnRow w ty_regex_Regex 4 s (l.flatMap Rt.c)) (pl : Rt.Ps w l) (hd : ∀ x ∈ blkL s, x ∉ Rt.fps l) (p : Nat) (hp : p < 13) :
    Calls Tryz.prog n_slices_partitionCmpFunc_regex_Regex #[s.v, .i 0, .i 13, .i (p : Int), .func (.func n_regex_Compare) #[] #[]] w (PaP s l w) := by
  have H : LHp s l w w l := lhR _ ho (by
    intro e he
    simp only [List.mem_cons, List.not_mem_nil, or_false] at he
    subst he
    exact ⟨pl, fun x hx hm => hd x hx (mem_nub.1 hm)⟩)
  have gp : l[p]? = some l[p] := List.getElem?_eq_getElem (by omega)
  have g0 : l[0]? = some l[0] := List.getElem?_eq_getElem (by omega)
  generalize l[p] = pv at gp
  generalize l[0] = y at g0
  refine slices_partitionCmpFunc_regex_Regex.ok _ _ _ _ w _ (H.dr fun w1 H1 => H1.el 0 p rfl gp (H1.el 0 0 rfl g0 (H1.elSt 0 0 (t := pv) (ts := l) rfl (by omega) fun w2 H2 => H2.elSt 0 p (t := y) (ts := l.set 0 pv) rfl (by rw [List.length_set]; omega) fun w3 H3 => ?_)))
  have g := sw_get g0 gp
  refine pa_a1 (pv := pv) (D := 100) hz (by omega) (fun i j ts w1 _ I H => pa_L4 hz (by omega) _ i j ts w1 (Nat.lt_succ_self _) I H) 12 _ _ 1 w3 (Nat.le_refl _) (by omega) ⟨sw_perm g0 gp, ?_, Nat.le_refl _, by omega, by simp only [List.length_set]; omega, fun q x h1 h2 => by omega, fun q x h1 h2 => ?_⟩ H3
  · rw [g]
    split
    · rename_i e; subst e; rw [g0] at gp; exact gp
    · rw [if_pos rfl]
  · have := (List.getElem?_eq_some_iff.1 h2).1
    simp only [List.length_set] at this
    omega
end
/-! #### Sorting -/
theorem cut_asc {l ts : List Rt} {p : Rt} {m : Nat} (h : Cut l ts p m) {a b : List Rt} (ha : a.Perm (ts.take m)) (hb : b.Perm (ts.drop (m + 1))) (sa : Asc (a.map Rt.rx)) (sb : Asc (b.map Rt.rx)) : (a ++ p :: b).Perm l ∧ Asc ((a ++ p :: b).map Rt.rx) := by
  have hm := (List.getElem?_eq_some_iff.1 h.at_).1
  have e : ts = ts.take m ++ p :: ts.drop (m + 1) := by
    have := List.drop_eq_getElem_cons hm
    rw [(List.getElem?_eq_some_iff.1 h.at_).2] at this
    rw [← this, List.take_append_drop]
  refine ⟨?_, ?_⟩
  · have h2 : (a ++ p :: b).Perm (ts.take m ++ p :: ts.drop (m + 1)) := (ha.append_right _).trans ((hb.cons p).append_left _)
    rw [← e] at h2
    exact h2.trans h.perm
  · have la : ∀ x ∈ a, LtP p x := fun x hx => by
      obtain ⟨q, hq⟩ := List.mem_iff_getElem?.1 (ha.mem_iff.1 hx)
      rw [List.getElem?_take] at hq
      split at hq
      · rename_i hlt; exact h.lo q x hlt hq
      · cases hq
    have lb : ∀ x ∈ b, cmpR p.rx x.rx ≤ 0 := fun x hx => by
      obtain ⟨q, hq⟩ := List.mem_iff_getElem?.1 (hb.mem_iff.1 hx)
      rw [List.getElem?_drop] at hq
      have := h.hi (m + 1 + q) x (by omega) hq
      have := cmpR_neg x.rx p.rx
      unfold LtP at *
      omega
    rw [List.map_append, List.map_cons]
    refine List.pairwise_append.2 ⟨sa, List.pairwise_cons.2 ⟨fun y hy => ?_, sb⟩, fun x hx y hy => ?_⟩
    · obtain ⟨b', hb', rfl⟩ := List.mem_map.1 hy
      exact lb b' hb'
    · obtain ⟨a', ha', rfl⟩ := List.mem_map.1 hx
      have h1 : cmpR a'.rx p.rx ≤ 0 := by have := la a' ha'; unfold LtP at this; omega
      rcases List.mem_cons.1 hy with rfl | hy
      · exact h1
      · obtain ⟨b', hb', rfl⟩ := List.mem_map.1 hy
        exact (cmpR_tri _ _ _).le h1 (lb b' hb')
theorem ps_perm {w : World} {l m : List Rt} (h : Rt.Ps w l) (hm : m.Perm l) : Rt.Ps w m := Rt.ps_of fun t ht => h.mem (hm.mem_iff.1 ht)
theorem fps_perm {l m : List Rt} (hm : m.Perm l) {b : Nat} (h : b ∈ Rt.fps m) : b ∈ Rt.fps l := by
  obtain ⟨t, ht, hb⟩ := Rt.fps_iff.1 h
  exact Rt.fps_iff.2 ⟨t, hm.mem_iff.1 ht, hb⟩
theorem ps_fr {M : Nat → Prop} {l : List Rt} {w w' : World} (h : Rt.Ps w l) (f : Fr M w w') (hd : ∀ b ∈ Rt.fps l, ¬ M b) : Rt.Ps w' l := Rt.keeps l (fun b hb hl => f.keep b hl (hd b hb)) h
theorem pd_small {s : Sl} {l : List Rt} {w : World} (hl : Rt.szs l ≤ 1000000) (ho : OwnRow w ty_regex_Regex 4 s (l.flatMap Rt.c)) (pl : Rt.Ps w l) (hd : ∀ x ∈ blkL s, x ∉ Rt.fps l) (A X Z : List Rt) (he : l = A ++ X ++ Z) (hX : X.length ≤ 12) (a b : Int) (ha : a = (A.length : Int)) (hb : b = ((A.length + X.length : Nat) : Int)) (lim : Int) (wb wp : Bool) {R : Post}
    (hR : ∀ w', OwnRow w' ty_regex_Regex 4 s ((A ++ sortT X ++ Z).flatMap Rt.c) → Fr (· ∈ blkL s) w w' → R (.returned (.tuple #[])) w') : slices_pdqsortCmpFunc_regex_Regex.L0 s a b lim wb wp w R := by
  have ll := Rt.szs_len l
  have lX : A.length + X.length + Z.length = l.length := by rw [he]; simp [Nat.add_assoc]
  subst ha hb
  refine slices_pdqsortCmpFunc_regex_Regex.L0_step _ _ _ _ _ _ _ _ (sel_true (decide_eq_true ?_) ?_)
  · rw [IntWalk.i64_in _ (by omega)]
    omega
  refine (c_insertion s l w hl ho pl hd A X Z he _ rfl).mono ?_
  rintro _ w2 ⟨⟨rfl, h2⟩, f2⟩
  exact ⟨rfl, hR w2 h2 f2⟩
theorem c_Len13 (w : World) : Calls Tryz.prog n_math_bits_Len #[.u 13] w fun r w' => r = .returned (.i 4) ∧ Fr0 w w' := by
  refine math_bits_Len.ok _ w _ ((math_bits_Len64.ok _ w (fun r w' => r = .returned (.i 4) ∧ Fr0 w w') (sel_false (by decide) ?_)).mono ?_)
  · refine sel_false (by decide) (sel_false (by decide) ⟨by decide, 4, by kernel_rfl, rfl, Fr.refl _ _⟩)
  · rintro _ w1 ⟨rfl, f⟩
    exact ⟨4, rfl, rfl, f⟩
theorem sort13 : SortOk 13 := by
  intro s l w h13 hl ho pl hd
  have nr := Rt.rows_n ho.rdn
  let R0 : World → Post := fun w r w' => (∃ m : List Rt, r = .returned (.tuple #[]) ∧ m.Perm l ∧ Asc (m.map Rt.rx) ∧ OwnRow w' ty_regex_Regex 4 s (m.flatMap Rt.c)) ∧ Fr (· ∈ blkL s) w w'
  by_cases h12 : l.length ≤ 12
  · refine slices_SortFunc_sl_regex_Regex_regex_Regex.ok _ w _ ((c_Len _ w).mono ?_)
    rintro _ w1 ⟨⟨t, rfl⟩, f⟩
    refine ⟨t, rfl, slices_pdqsortCmpFunc_regex_Regex.ok _ _ _ _ w1 _ (pd_small hl (ho.fr f fun _ _ h => h) (pl.fr0 f) hd [] l [] (by simp) h12 _ _ rfl (by simp [nr]) _ _ _ fun w' h2 f2 => ?_)⟩
    exact ⟨rfl, ⟨sortT l, rfl, sortT_perm l, sortT_asc l, by simpa using h2⟩, f.of0.trans f2 fun x _ h => h⟩
  have e13 : l.length = 13 := by omega
  have en : ((s.n : Nat) : Int) = 13 := by omega
  refine slices_SortFunc_sl_regex_Regex_regex_Regex.ok _ w _ ?_
  rw [en]
  refine (c_Len13 w).mono ?_
  rintro _ w1 ⟨rfl, f1⟩
  have ho1 := ho.fr f1 fun _ _ h => h
  have pl1 := pl.fr0 f1
  have hP1 : (rowTr s l).P w1 := by
    unfold rowTr Rt.P
    exact ⟨ho1.rdn, pl1⟩
  refine ⟨4, rfl, slices_pdqsortCmpFunc_regex_Regex.ok _ _ _ _ w1 _ (slices_pdqsortCmpFunc_regex_Regex.L0_step _ _ _ _ _ _ _ _ (sel_false (by decide) (sel_false (by decide) (sel_false (by decide) ?_))))⟩
  refine (c_pivot hl e13 hP1).mono ?_
  rintro _ w2 ⟨⟨p, hint, rfl, hp, hh⟩, f2⟩
  have f12 := f1.tr0 f2
  have s5 : ∀ (w3 : World), Fr0 w w3 → slices_pdqsortCmpFunc_regex_Regex.S5 s 0 13 4 true true (IntKind.wrap .i64 (13 - 0)) (p : Int) w3 fun r w' => r = .returned (.tuple #[]) ∧ R0 w (.returned (.tuple #[])) w' := by
    intro w3 f3
    have f4 : Fr0 w w3.drew := f3.tr0 (Fr.drew _ _)
    refine sel_false (by decide) ?_
    refine (c_partition hl e13 (ho.fr f4 fun _ _ h => h) (pl.fr0 f4) hd p hp).mono ?_
    rintro _ w4 ⟨⟨m, t, ts, pv, rfl, hc, ho4⟩, f5⟩
    have hm := (List.getElem?_eq_some_iff.1 hc.at_).1
    have ll := hc.perm.length_eq
    have f45 : Fr (· ∈ blkL s) w w4 := f4.of0.trans f5 fun x _ h => h
    have pl4 : Rt.Ps w4 l := ps_fr pl f45 fun b hb hx => hd b hx hb
    have ets : ts = [] ++ ts.take m ++ pv :: ts.drop (m + 1) := by
      have := List.drop_eq_getElem_cons hm
      rw [(List.getElem?_eq_some_iff.1 hc.at_).2] at this
      rw [← this, List.nil_append, List.take_append_drop]
    have ets2 : ts = (ts.take m ++ [pv]) ++ ts.drop (m + 1) ++ [] := by
      conv => lhs; rw [ets]
      simp
    have hd4 : ∀ {ks : List Rt}, ks.Perm l → ∀ x ∈ blkL s, x ∉ Rt.fps ks := fun hk x hx hm => hd x hx (fps_perm hk hm)
    have fin := cut_asc hc (sortT_perm (ts.take m)) (sortT_perm (ts.drop (m + 1))) (sortT_asc _) (sortT_asc _)
    have l1 : (ts.take m).length = m := by rw [List.length_take]; omega
    have l2 : (ts.drop (m + 1)).length = 12 - m := by rw [List.length_drop]; omega
    have em : IntKind.wrap .i64 ((m : Int) + 1) = ((m + 1 : Nat) : Int) := i64_next _ (by omega)
    have ets0 : ts.take m ++ pv :: ts.drop (m + 1) = ts := by
      conv => rhs; rw [ets]
      simp
    have eP : (sortT (ts.take m) ++ pv :: ts.drop (m + 1)).Perm l := ((sortT_perm (ts.take m)).append_right _).trans (by rw [ets0]; exact hc.perm)
    have eP2 : (ts.take m ++ pv :: sortT (ts.drop (m + 1))).Perm l := (((sortT_perm (ts.drop (m + 1))).cons pv).append_left _).trans (by rw [ets0]; exact hc.perm)
    refine ⟨_, _, rfl, sel_dec (fun hlt => ?_) (fun hlt => ?_)⟩
    · refine slices_pdqsortCmpFunc_regex_Regex.ok _ _ _ _ w4 _ (pd_small (l := ts) (by rw [szs_perm hc.perm]; exact hl) ho4 (ps_perm pl4 hc.perm) (hd4 hc.perm) [] (ts.take m) _ ets (by omega) _ _ rfl (by rw [l1]; simp) _ _ _ fun w5 h5 f5' => ?_)
      have f6 : Fr (· ∈ blkL s) w w5 := f45.trans f5' fun x _ h => h
      refine ⟨rfl, ?_⟩
      rw [em]
      refine pd_small (l := sortT (ts.take m) ++ pv :: ts.drop (m + 1)) (by rw [szs_perm eP]; exact hl) (by simpa using h5) (ps_perm (ps_fr pl f6 fun b hb hx => hd b hx hb) eP) (hd4 eP) (sortT (ts.take m) ++ [pv]) (ts.drop (m + 1)) [] (by simp) (by omega) _ _ (by simp [sortT_len, l1]) (by simp only [List.length_append, sortT_len, l1, l2, List.length_cons, List.length_nil]; omega) _ _ _ fun w7 h7 f7 => ⟨rfl, ⟨_, rfl, fin.1, fin.2, by simpa using h7⟩, f6.trans f7 fun x _ h => h⟩
    · refine slices_pdqsortCmpFunc_regex_Regex.ok _ _ _ _ w4 _ ?_
      rw [em]
      refine pd_small (l := ts) (by rw [szs_perm hc.perm]; exact hl) ho4 (ps_perm pl4 hc.perm) (hd4 hc.perm) (ts.take m ++ [pv]) (ts.drop (m + 1)) [] ets2 (by omega) _ _ (by simp [l1]) (by simp only [List.length_append, l1, l2, List.length_cons, List.length_nil]; omega) _ _ _ fun w5 h5 f5' => ?_
      have f6 : Fr (· ∈ blkL s) w w5 := f45.trans f5' fun x _ h => h
      refine ⟨rfl, ?_⟩
      refine pd_small (l := ts.take m ++ pv :: sortT (ts.drop (m + 1))) (by rw [szs_perm eP2]; exact hl) (by simpa using h5) (ps_perm (ps_fr pl f6 fun b hb hx => hd b hx hb) eP2) (hd4 eP2) [] (ts.take m) (pv :: sortT (ts.drop (m + 1))) (by simp) (by omega) _ _ rfl (by rw [l1]; simp) _ _ _ fun w7 h7 f7 => ⟨rfl, ⟨_, rfl, fin.1, fin.2, by simpa using h7⟩, f6.trans f7 fun x _ h => h⟩
  refine ⟨_, _, rfl, sel_false (by simpa using hh) (sel_true rfl (sel_true rfl (sel_intro (fun _ => ?_) (fun _ => s5 w2 f12))))⟩
  refine (c_partial hl e13 (hP1.fr0 f2)).mono ?_
  rintro _ w3 ⟨⟨t, rfl, ht⟩, f3⟩
  have f13 := f12.tr0 f3
  exact ⟨t, rfl, sel_intro (fun h => ⟨rfl, ⟨l, rfl, .refl _, ht h, ho.fr f13 fun _ _ h => h⟩, f13.of0⟩) (fun _ => s5 w3 f13)⟩
end Go.Proofs.YtknlbofiicflgaaGreat
