/- Package slices over expressions: insertionSortCmpFunc, CompactFunc; what is asked of SortFunc: the contracts. Package slices over expressions: CompactFunc: the contract. -/
import Derived.Test.YtknlbofiicflgaaGreatN0
import Derived.Test.YtknlbofiicflgaaGreatNO
import Derived.Test.YtknlbofiicflgaaGreatVS
namespace Go.Proofs.YtknlbofiicflgaaGreat
open Go Go.W

/-! #### The plain sort -/
/-- x put into a list that stands the other way round -/
def insR (x : Rt) : List Rt → List Rt
  | [] => [x]
  | y :: p => if cmpR x.rx y.rx < 0 then y :: insR x p else x :: y :: p
def sortT (l : List Rt) : List Rt := (l.foldl (fun p x => insR x p) []).reverse
theorem insR_len (x : Rt) : ∀ p, (insR x p).length = p.length + 1
  | [] => rfl
  | y :: p => by
    unfold insR
    split
    · simp [insR_len x p]
    · simp
theorem sortT_snoc (l : List Rt) (x : Rt) : sortT (l ++ [x]) = (insR x (sortT l).reverse).reverse := by
  unfold sortT
  rw [List.foldl_append, List.reverse_reverse]
  rfl
theorem insR_mem {x t : Rt} : ∀ {p : List Rt}, t ∈ insR x p ↔ t = x ∨ t ∈ p
  | [] => by unfold insR; simp
  | y :: p => by
    unfold insR
    split
    · rw [List.mem_cons, insR_mem, List.mem_cons]
      constructor
      · rintro (h | h | h) <;> simp [h]
      · rintro (h | h | h) <;> simp [h]
    · simp
theorem sortT_mem {t : Rt} {l : List Rt} : t ∈ sortT l ↔ t ∈ l := by
  have : ∀ (l p : List Rt), t ∈ l.foldl (fun p x => insR x p) p ↔ t ∈ l ∨ t ∈ p := by
    intro l
    induction l with
    | nil => intro p; simp
    | cons a l ih =>
      intro p
      rw [List.foldl_cons, ih, insR_mem, List.mem_cons]
      constructor
      · rintro (h | h | h) <;> simp [h]
      · rintro ((h | h) | h) <;> simp [h]
  unfold sortT
  rw [List.mem_reverse, this]
  simp
theorem sortT_len (l : List Rt) : (sortT l).length = l.length := by
  have : ∀ (l p : List Rt), (l.foldl (fun p x => insR x p) p).length = l.length + p.length := by
    intro l
    induction l with
    | nil => intro p; simp
    | cons a l ih =>
      intro p
      rw [List.foldl_cons, ih, insR_len, List.length_cons]
      omega
  unfold sortT
  rw [List.length_reverse, this]
  rfl
theorem ins_rx (x : Rt) : ∀ p : List Rt, (insR x p).map Rt.rx = insX x.rx (p.map Rt.rx)
  | [] => rfl
  | y :: p => by
    unfold insR
    rw [List.map_cons]
    unfold insX
    split
    · rw [List.map_cons, ins_rx x p]
    · rfl
theorem sort_rx (l : List Rt) : (sortT l).map Rt.rx = sortX (l.map Rt.rx) := by
  have : ∀ (l p : List Rt), (l.foldl (fun p x => insR x p) p).map Rt.rx = (l.map Rt.rx).foldl (fun p x => insX x p) (p.map Rt.rx) := by
    intro l
    induction l with
    | nil => intro p; rfl
    | cons a l ih =>
      intro p
      rw [List.foldl_cons, ih, ins_rx]
      rfl
  unfold sortT sortX
  rw [List.map_reverse, this]
  rfl
theorem insR_perm (x : Rt) : ∀ p : List Rt, (insR x p).Perm (x :: p)
  | [] => .refl _
  | y :: p => by
    unfold insR
    split
    · exact ((insR_perm x p).cons y).trans (.swap x y p)
    · exact .refl _
theorem sortT_perm (l : List Rt) : (sortT l).Perm l := by
  have : ∀ (l p : List Rt), (l.foldl (fun p x => insR x p) p).Perm (l ++ p) := by
    intro l
    induction l with
    | nil => intro p; exact .refl _
    | cons a l ih =>
      intro p
      rw [List.foldl_cons]
      exact (ih _).trans (((insR_perm a p).append_left l).trans List.perm_middle)
  unfold sortT
  have h := this l []
  rw [List.append_nil] at h
  exact (List.reverse_perm _).trans h
theorem sortT_asc (l : List Rt) : Asc ((sortT l).map Rt.rx) := by rw [sort_rx]; exact sortX_asc _
theorem szs_perm {l m : List Rt} (h : l.Perm m) : Rt.szs l = Rt.szs m := by
  induction h with
  | nil => rfl
  | cons x _ ih => show x.sz + _ = x.sz + _; rw [ih]
  | swap x y l => show y.sz + (x.sz + _) = x.sz + (y.sz + _); omega
  | trans _ _ h1 h2 => rw [h1, h2]
theorem swap_at {α : Type} (A B : List α) (y x : α) (j : Nat) (hj : j = A.length + 1) : ((A ++ y :: x :: B).set j y).set (j - 1) x = A ++ x :: y :: B := by
  subst hj
  rw [List.set_append_right _ _ (by omega), Nat.add_sub_cancel, List.set_append_right _ _ (by omega)]
  simp
/-! #### insertionSort -/
theorem c_insertion (s : Sl) (l : List Rt) (w : World) (hl : Rt.szs l ≤ 1000000) (ho : OwnRow w ty_regex_Regex 4 s (l.flatMap Rt.c)) (pl : Rt.Ps w l) (hd : ∀ x ∈ blkL s, x ∉ Rt.fps l) (A X Z : List Rt) (he : l = A ++ X ++ Z) (b : Nat) (hb : b = A.length + X.length) :
    Calls Tryz.prog n_slices_insertionSortCmpFunc_regex_Regex #[s.v, .i (A.length : Int), .i (b : Int), .func (.func n_regex_Compare) #[] #[]] w fun r w' => (r = .returned (.tuple #[]) ∧ OwnRow w' ty_regex_Regex 4 s ((A ++ sortT X ++ Z).flatMap Rt.c)) ∧ Fr (· ∈ blkL s) w w' := by
  have ll := Rt.szs_len l
  have lX : A.length + X.length + Z.length = l.length := by rw [he]; simp [Nat.add_assoc]
  have H : LH (· ∈ blkL s) w w [.row ty_regex_Regex 4 s (l.flatMap Rt.c)] [.trees l] := lhR _ ho (by
    intro e he
    simp only [List.mem_cons, List.not_mem_nil, or_false] at he
    subst he
    exact ⟨pl, fun x hx hm => hd x hx (mem_nub.1 hm)⟩)
  have kt : ∀ t ∈ l, t.sz ≤ 1000000 := fun t ht => Nat.le_trans (Rt.szs_mem ht) hl
  have mA : ∀ t ∈ X, t ∈ l := fun t ht => by rw [he]; simp [ht]
  let R : Post := fun r w' => (r = .returned (.tuple #[]) ∧ OwnRow w' ty_regex_Regex 4 s ((A ++ sortT X ++ Z).flatMap Rt.c)) ∧ Fr (· ∈ blkL s) w w'
  -- the outer loop, from the d-th element from the end
  have outer : ∀ (d i : Nat) (w1 : World), A.length + i + d = b → LH (· ∈ blkL s) w w1 [.row ty_regex_Regex 4 s ((A ++ sortT (X.take i) ++ (X.drop i ++ Z)).flatMap Rt.c)] [.trees l] →
      slices_insertionSortCmpFunc_regex_Regex.L0 s (A.length : Int) (b : Int) ((A.length + i : Nat) : Int) w1 R := by
    intro d
    induction d with
    | zero =>
      intro i w1 hi H1
      refine slices_insertionSortCmpFunc_regex_Regex.L0_step _ _ _ _ _ _ (sel_false (decide_eq_false (by omega)) ⟨⟨rfl, ?_⟩, H1.fr⟩)
      have := H1.get 0
      rw [List.take_of_length_le (by omega), List.drop_of_length_le (by omega), List.nil_append] at this
      exact this
    | succ d ihd =>
      intro i w1 hi H1
      refine slices_insertionSortCmpFunc_regex_Regex.L0_step _ _ _ _ _ _ (sel_true (decide_eq_true (by omega)) ?_)
      have hg : X[i]? = some (X[i]'(by omega)) := List.getElem?_eq_getElem (by omega)
      have hdr := List.drop_eq_getElem_cons (l := X) (i := i) (by omega)
      generalize X[i]'(by omega) = x at hg hdr
      have hS : sortT (X.take (i + 1)) = (insR x (sortT (X.take i)).reverse).reverse := by rw [List.take_add_one, hg, Option.toList_some, sortT_snoc]
      have hx : x ∈ l := mA x (List.mem_of_getElem? hg)
      -- what follows
      have next : ∀ (w2 : World), LH (· ∈ blkL s) w w2 [.row ty_regex_Regex 4 s ((A ++ sortT (X.take (i + 1)) ++ (X.drop (i + 1) ++ Z)).flatMap Rt.c)] [.trees l] → slices_insertionSortCmpFunc_regex_Regex.S2 s (A.length : Int) (b : Int) ((A.length + i : Nat) : Int) w2 R := by
        intro w2 H2
        show slices_insertionSortCmpFunc_regex_Regex.L0 _ _ _ _ _ _
        rw [i64_next _ (by omega)]
        exact ihd (i + 1) w2 (by omega) H2
      -- the inner loop
      have inner : ∀ (p : Nat) (P Q : List Rt) (w2 : World), P.length = p → (insR x P.reverse).reverse ++ Q = sortT (X.take (i + 1)) → (∀ t ∈ P, t ∈ l) → LH (· ∈ blkL s) w w2 [.row ty_regex_Regex 4 s ((A ++ P ++ x :: (Q ++ (X.drop (i + 1) ++ Z))).flatMap Rt.c)] [.trees l] →
          slices_insertionSortCmpFunc_regex_Regex.L1 s (A.length : Int) (b : Int) ((A.length + i : Nat) : Int) ((A.length + p : Nat) : Int) w2 R := by
        intro p
        induction p with
        | zero =>
          intro P Q w2 hp hq hP H2
          have : P = [] := List.length_eq_zero_iff.1 hp
          subst this
          refine slices_insertionSortCmpFunc_regex_Regex.L1_step _ _ _ _ _ _ _ (H2.dr fun w3 H3 => sel_false (decide_eq_false (by omega)) (next w3 ?_))
          have hq' : x :: Q = sortT (X.take (i + 1)) := hq
          rw [← hq']
          simpa using H3
        | succ p ihp =>
          intro P Q w2 hp hq hP H2
          obtain ⟨P', y, rfl⟩ : ∃ P' y, P = P' ++ [y] := ⟨P.dropLast, P.getLast (fun h => by rw [h] at hp; cases hp), (List.dropLast_concat_getLast _).symm⟩
          have hp' : P'.length = p := by simpa using hp
          have hy : y ∈ l := hP y (by simp)
          have eA : A ++ (P' ++ [y]) ++ x :: (Q ++ (X.drop (i + 1) ++ Z)) = (A ++ P') ++ y :: x :: (Q ++ (X.drop (i + 1) ++ Z)) := by simp
          rw [eA] at H2
          have lA : (A ++ P').length = A.length + p := by simp [hp']
          have gy : ((A ++ P') ++ y :: x :: (Q ++ (X.drop (i + 1) ++ Z)))[A.length + p]? = some y := by rw [← lA, List.getElem?_append_right (Nat.le_refl _)]; simp
          have gx : ((A ++ P') ++ y :: x :: (Q ++ (X.drop (i + 1) ++ Z)))[A.length + (p + 1)]? = some x := by rw [← Nat.add_assoc, ← lA, List.getElem?_append_right (Nat.le_succ _)]; simp
          have hlen : ((A ++ P') ++ y :: x :: (Q ++ (X.drop (i + 1) ++ Z))).length ≤ 1000000 := by
            have h1 := congrArg List.length hq
            rw [sortT_len, List.length_append, List.length_reverse, insR_len, List.length_reverse] at h1
            simp only [List.length_append, List.length_cons, List.length_take, List.length_drop, List.length_nil] at h1 ⊢
            omega
          have hjl := (List.getElem?_eq_some_iff.1 gx).1
          have e1 : IntKind.wrap .i64 (((A.length + (p + 1) : Nat) : Int) - 1) = ((A.length + p : Nat) : Int) := by rw [i64_prev (by omega) (by omega)]; rfl
          have e2 : insR x (P' ++ [y]).reverse = if cmpR x.rx y.rx < 0 then y :: insR x P'.reverse else x :: y :: P'.reverse := by rw [List.reverse_append]; rfl
          refine slices_insertionSortCmpFunc_regex_Regex.L1_step _ _ _ _ _ _ _ (H2.dr fun w3 H3 => sel_true (decide_eq_true (by omega)) ?_)
          refine H3.el 0 (A.length + (p + 1)) rfl gx (H3.el 0 (A.length + p) e1 gy ?_)
          refine H3.call (c_Compare x y w3 (kt x hx) ((show Rt.Ps w3 l from H3.getD 0).mem hx) ((show Rt.Ps w3 l from H3.getD 0).mem hy)) ?_
          rintro _ w4 rfl H4
          refine ⟨_, rfl, sel_dec (fun hc => H4.dr fun w5 H5 => ?_) (fun hc => next w4 ?_)⟩
          · refine H5.el 0 (A.length + p) e1 gy (H5.el 0 (A.length + (p + 1)) rfl gx (H5.elSt 0 (A.length + (p + 1)) (t := y) rfl hjl fun w6 H6 => ?_))
            refine H6.elSt 0 (A.length + p) (t := x) (ts := ((A ++ P') ++ y :: x :: (Q ++ (X.drop (i + 1) ++ Z))).set (A.length + (p + 1)) y) e1 (by rw [List.length_set]; omega) fun w7 H7 => ?_
            rw [e1]
            rw [if_pos hc] at e2
            refine ihp P' (y :: Q) w7 hp' ?_ (fun t ht => hP t (by simp [ht])) ?_
            · rw [← hq, e2]
              simp
            · have e3 := swap_at (A ++ P') (Q ++ (X.drop (i + 1) ++ Z)) y x (A.length + (p + 1)) (by rw [lA]; rfl)
              rw [show A.length + (p + 1) - 1 = A.length + p by omega] at e3
              have H8 : LH (· ∈ blkL s) w w7 [.row ty_regex_Regex 4 s (((((A ++ P') ++ y :: x :: (Q ++ (X.drop (i + 1) ++ Z))).set (A.length + (p + 1)) y).set (A.length + p) x).flatMap Rt.c)] [.trees l] := H7
              rw [e3] at H8
              exact H8
          · rw [if_neg hc] at e2
            rw [← hq, e2]
            simpa using H4
      have hi0 : (sortT (X.take i)).length = i := by rw [sortT_len, List.length_take]; omega
      refine inner i (sortT (X.take i)) [] w1 hi0 ?_ (fun t ht => mA t (List.mem_of_mem_take (sortT_mem.1 ht))) ?_
      · rw [List.append_nil, hS]
      · rw [hdr] at H1
        simpa using H1
  refine slices_insertionSortCmpFunc_regex_Regex.ok _ _ _ w _ ?_
  show slices_insertionSortCmpFunc_regex_Regex.L0 _ _ _ _ _ R
  rw [i64_next _ (by omega)]
  cases X with
  | nil =>
    refine slices_insertionSortCmpFunc_regex_Regex.L0_step _ _ _ _ _ _ (sel_false (decide_eq_false (by simp at hb; omega)) ⟨⟨rfl, ?_⟩, Fr.refl _ _⟩)
    have := H.get 0
    rw [he] at this
    exact this
  | cons a X =>
    refine outer (b - (A.length + 1)) 1 w (by simp at hb; omega) ?_
    rw [show l.flatMap Rt.c = (A ++ sortT ((a :: X).take 1) ++ ((a :: X).drop 1 ++ Z)).flatMap Rt.c from by rw [he]; simp [sortT, insR]] at H
    exact H
/-! #### SortFunc -/
theorem tab_ex {t : ByteArray} {m : Nat} {K : UInt8 → Prop} (h : Nat.beq t.size 256 = true) (hm : m < 256) (hk : ∀ b, K b) : ∃ b : UInt8, t[m]? = some b ∧ K b := by
  rw [Nat.beq_eq] at h
  exact ⟨t[m]'(by omega), getElem?_pos t m (by omega), hk _⟩
theorem c_Len (x : Int) (w : World) : Calls Tryz.prog n_math_bits_Len #[.u x] w fun r w' => (∃ t : Int, r = .returned (.i t)) ∧ Fr0 w w' := by
  have s2 : ∀ (x n : Int), math_bits_Len64.S2 x n w fun r w' => (∃ t : Int, r = .returned (.i t)) ∧ Fr0 w w' := by
    intro x n
    have h0 : 0 ≤ IntKind.wrap .u8 x ∧ IntKind.wrap .u8 x < 256 := by
      rw [IntKind.wrap_u8]
      omega
    obtain ⟨m, hm⟩ := Int.eq_ofNat_of_zero_le h0.1
    refine ⟨h0.1, ?_⟩
    have hlt : m < 256 := by omega
    refine tab_ex (by kernel_rfl) (by rw [hm]; exact hlt) fun b => ⟨⟨_, rfl⟩, Fr.refl _ _⟩
  have s1 : ∀ (x n : Int), math_bits_Len64.S1 x n w fun r w' => (∃ t : Int, r = .returned (.i t)) ∧ Fr0 w w' := fun x n => sel_dec (fun _ => s2 _ _) (fun _ => s2 _ _)
  have s0 : ∀ (x n : Int), math_bits_Len64.S0 x n w fun r w' => (∃ t : Int, r = .returned (.i t)) ∧ Fr0 w w' := fun x n => sel_dec (fun _ => s1 _ _) (fun _ => s1 _ _)
  refine math_bits_Len.ok _ w _ ((math_bits_Len64.ok _ w _ (sel_dec (fun _ => s0 _ _) (fun _ => s0 _ _))).mono ?_)
  rintro _ w1 ⟨⟨t, rfl⟩, f⟩
  exact ⟨t, rfl, ⟨t, rfl⟩, f⟩
/-- what sorting a row of at most n trees does -/
def SortOk (n : Nat) : Prop := ∀ (s : Sl) (l : List Rt) (w : World), l.length ≤ n → Rt.szs l ≤ 1000000 → OwnRow w ty_regex_Regex 4 s (l.flatMap Rt.c) → Rt.Ps w l → (∀ x ∈ blkL s, x ∉ Rt.fps l) →
  Calls Tryz.prog n_slices_SortFunc_sl_regex_Regex_regex_Regex #[s.v, .func (.func n_regex_Compare) #[] #[]] w fun r w' => (∃ m : List Rt, r = .returned (.tuple #[]) ∧ m.Perm l ∧ Asc (m.map Rt.rx) ∧ OwnRow w' ty_regex_Regex 4 s (m.flatMap Rt.c)) ∧ Fr (· ∈ blkL s) w w'
end Go.Proofs.YtknlbofiicflgaaGreat
namespace Go.Proofs.YtknlbofiicflgaaGreat
open Go Go.W

/-- what is left of a list behind an element -/
def compGo (p : Rt) : List Rt → List Rt
  | [] => []
  | x :: l => if cmpR x.rx p.rx == 0 then compGo x l else x :: compGo x l
def compT : List Rt → List Rt
  | [] => []
  | a :: l => a :: compGo a l
theorem cut_flat (l : List Rt) (i : Nat) : (l.flatMap Rt.c).take (i * 4) = (l.take i).flatMap Rt.c := by
  have hl := Rt.cs_len (l.take i)
  by_cases h : i ≤ l.length
  · conv => lhs; rw [← List.take_append_drop i l, List.flatMap_append]
    rw [List.take_append_of_le_length (by rw [hl, List.length_take]; omega), List.take_of_length_le (by rw [hl, List.length_take]; omega)]
  · rw [List.take_of_length_le (by rw [Rt.cs_len]; omega), List.take_of_length_le (l := l) (by omega)]
theorem drop_flat (l : List Rt) (i : Nat) (h : i ≤ l.length) : (l.flatMap Rt.c).drop (i * 4) = (l.drop i).flatMap Rt.c := by
  have hl := Rt.cs_len (l.take i)
  rw [List.length_take, Nat.min_eq_left h] at hl
  conv => lhs; rw [← List.take_append_drop i l, List.flatMap_append]
  rw [List.drop_append_of_le_length (by omega), List.drop_of_length_le (by omega), List.nil_append]
/-- a row of one's own, cut off at the end, as it is returned -/
theorem cut_ret {w : World} {s : Sl} {l m : List Rt} (ho : OwnRow w ty_regex_Regex 4 s (l.flatMap Rt.c)) (i : Nat) (hi : i ≤ l.length) (hm : l.take i = m) {K : World → Prop} {R : Post} {w0 : World} (hf : Fr (· ∈ blkL s) w0 w)
    (hR : ∀ r w', RowR s m r w0 w' → Fr (· ∈ blkL s) w0 w' → R r w') :
    (0 : Int) ≤ (i : Int) ∧ (i : Int) ≤ ((s.n : Nat) : Int) ∧ ∃ (w7 : World), Sem.run Tryz.prog (Builtin.clear_ #[ty_sl_regex_Regex] ty_ #[.slice (if s.c = (Int.toNat (i : Int)) then s.a else s.a.map (·.add ((Int.toNat (i : Int)) * 4))) (s.n - (Int.toNat (i : Int))) (s.c - (Int.toNat (i : Int)))]) w = .ok (.tuple #[]) w7 ∧
      (0 : Int) ≤ (i : Int) ∧ (i : Int) ≤ ((s.c : Nat) : Int) ∧ R (.returned (.slice (if s.c = 0 then s.a else s.a.map (·.add (0 * 4))) ((Int.toNat (i : Int)) - 0) (s.c - 0))) w7 := by
  have nr := Rt.rows_n ho.rdn
  have hcap := ho.cap
  obtain ⟨w2, h1, h2, h3⟩ := cut_own (ty := ty_) el_rx z_one rfl ho i (by omega)
  refine ⟨by omega, by omega, w2, h1, by omega, by omega, hR _ _ ⟨⟨if s.c = 0 then s.a else s.a.map (·.add (0 * 4)), i - 0, s.c - 0⟩, rfl, ?_, fun x hx => ?_⟩ (hf.trans h3 fun x _ h => h)⟩
  · rw [← hm, ← cut_flat]
    exact h2
  · simp only [blkL] at hx ⊢
    split at hx
    · rename_i p hp
      split at hp
      · rw [hp]; exact hx
      · cases hsa : s.a with
        | none => rw [hsa] at hp; cases hp
        | some q =>
          rw [hsa] at hp
          simp only [Option.map_some, Option.some.injEq] at hp
          subst hp
          rw [add_block] at hx
          exact hx
    · cases hx
section
variable {M : Nat → Prop} {w0 w : World} {L D : List En}
/-- a load of an element of a part of a row -/
theorem _root_.Go.W.LH.els (H : LH M w0 w L D) (i k b : Nat) {s : Sl} {ts : List Rt} {t : Rt} {X : Int} {K : Int → Int → Int → Sl → Prop} (hX : X = (k : Int)) (hg : ts[b + k]? = some t) (h : K t.k t.lo.toNat t.hi.toNat t.s) (hi : L[i]? = some (.row ty_regex_Regex 4 s (ts.flatMap Rt.c)) := by rfl) :
    (0 : Int) ≤ X ∧ X < ((s.n - b : Nat) : Int) ∧ optP (if s.c = b then s.a else s.a.map (·.add (b * 4))) fun p => ∃ a b c : Int, ∃ d : Sl, w.cell? ((p.add (Int.toNat X * 4)).add 0) = some (.i a) ∧ w.cell? ((p.add (Int.toNat X * 4)).add 1) = some (.int .u8 b) ∧ w.cell? ((p.add (Int.toNat X * 4)).add 2) = some (.int .u8 c) ∧ w.cell? ((p.add (Int.toNat X * 4)).add 3) = some d.v ∧ K a b c d := by
  subst hX
  have ho : OwnRow w ty_regex_Regex 4 s (ts.flatMap Rt.c) := H.get i hi
  have hn := Rt.rows_n ho.rdn
  have hk := (List.getElem?_eq_some_iff.1 hg).1
  have hr := ho.rdn.sub b s.n (by omega) (Nat.le_refl _)
  rw [List.take_of_length_le (by rw [Rt.cs_len]; omega), drop_flat _ _ (by omega)] at hr
  refine ⟨by omega, by omega, Rt.at' (s := subN 4 s b s.n) hr (i := k) (t := t) (by rw [List.getElem?_drop]; exact hg) fun p hp c => ⟨_, _, _, _, c.c0, c.c1, c.c2, c.c3, h⟩⟩
end
theorem c_CompactFunc (s : Sl) (l : List Rt) (w : World) (hl : Rt.szs l ≤ 1000000) (ho : OwnRow w ty_regex_Regex 4 s (l.flatMap Rt.c)) (pl : Rt.Ps w l) (hd : ∀ x ∈ blkL s, x ∉ Rt.fps l) :
    Calls Tryz.prog n_slices_CompactFunc_sl_regex_Regex_regex_Regex #[s.v, .func (.func n_regex_equal) #[] #[]] w fun r w' => RowR s (compT l) r w w' ∧ Fr (· ∈ blkL s) w w' := by
  have nr := Rt.rows_n ho.rdn
  have ll := Rt.szs_len l
  have kt : ∀ t ∈ l, t.sz ≤ 1000000 := fun t ht => Nat.le_trans (Rt.szs_mem ht) hl
  have H : LH (· ∈ blkL s) w w [.row ty_regex_Regex 4 s (l.flatMap Rt.c)] [.trees l] := lhR _ ho (by
    intro e he
    simp only [List.mem_cons, List.not_mem_nil, or_false] at he
    subst he
    exact ⟨pl, fun x hx hm => hd x hx (mem_nub.1 hm)⟩)
  let R : Post := fun r w' => RowR s (compT l) r w w' ∧ Fr (· ∈ blkL s) w w'
  -- behind the first two equal ones
  have loop2 : ∀ (d k b m : Nat) (cur : List Rt) (p : Rt) (w1 : World), b + m + d = l.length → 1 ≤ m → 1 ≤ b → k < b + m → cur.length = l.length → cur.drop (b + m - 1) = l.drop (b + m - 1) → l[b + m - 1]? = some p → cur.take k ++ compGo p (l.drop (b + m)) = compT l →
      LH (· ∈ blkL s) w w1 [.row ty_regex_Regex 4 s (cur.flatMap Rt.c)] [.trees l] →
      slices_CompactFunc_sl_regex_Regex_regex_Regex.L2 s (k : Int) ⟨(if s.c = b then s.a else s.a.map (·.add (b * 4))), (s.n - b), (s.c - b)⟩ (m : Int) w1 R := by
    intro d
    induction d with
    | zero =>
      intro k b m cur p w1 hb hm hb1 hk hc hdr hp hq H1
      refine slices_CompactFunc_sl_regex_Regex_regex_Regex.L2_step _ _ _ _ _ _ (sel_false (decide_eq_false ?_) ?_)
      · show ¬ (m : Int) < ((s.n - b : Nat) : Int)
        omega
      rw [List.drop_of_length_le (by omega)] at hq
      have hq' : cur.take k = compT l := by rw [← hq]; simp [compGo]
      exact cut_ret (K := fun _ => True) (H1.get 0) k (by omega) hq' H1.fr fun r w' h1 h2 => ⟨h1, h2⟩
    | succ d ihd =>
      intro k b m cur p w1 hb hm hb1 hk hc hdr hp hq H1
      have hg : l[b + m]? = some (l[b + m]'(by omega)) := List.getElem?_eq_getElem (by omega)
      have hdrop := List.drop_eq_getElem_cons (l := l) (i := b + m) (by omega)
      generalize l[b + m]'(by omega) = x at hg hdrop
      have hgc : cur[b + m]? = some x := by
        have : (cur.drop (b + m - 1))[1]? = (l.drop (b + m - 1))[1]? := by rw [hdr]
        rw [List.getElem?_drop, List.getElem?_drop, show b + m - 1 + 1 = b + m by omega] at this
        rw [this]; exact hg
      have hgp : cur[b + (m - 1)]? = some p := by
        have : (cur.drop (b + m - 1))[0]? = (l.drop (b + m - 1))[0]? := by rw [hdr]
        rw [List.getElem?_drop, List.getElem?_drop, Nat.add_zero] at this
        rw [show b + (m - 1) = b + m - 1 by omega, this]; exact hp
      have hdr1 : cur.drop (b + m) = l.drop (b + m) := by
        have : (cur.drop (b + m - 1)).drop 1 = (l.drop (b + m - 1)).drop 1 := by rw [hdr]
        rw [List.drop_drop, List.drop_drop, show b + m - 1 + 1 = b + m by omega] at this
        exact this
      have mx := List.mem_of_getElem? hg
      have mp := List.mem_of_getElem? hp
      have e1 : IntKind.wrap .i64 ((m : Int) - 1) = ((m - 1 : Nat) : Int) := i64_prev hm (by omega)
      rw [hdrop] at hq
      have eg : compGo p (x :: l.drop (b + m + 1)) = if cmpR x.rx p.rx == 0 then compGo x (l.drop (b + m + 1)) else x :: compGo x (l.drop (b + m + 1)) := rfl
      rw [eg] at hq
      have next : ∀ (k' : Nat) (cur' : List Rt) (w2 : World), k' < b + (m + 1) → cur'.length = l.length → cur'.drop (b + m) = l.drop (b + m) → cur'.take k' ++ compGo x (l.drop (b + m + 1)) = compT l → LH (· ∈ blkL s) w w2 [.row ty_regex_Regex 4 s (cur'.flatMap Rt.c)] [.trees l] →
          slices_CompactFunc_sl_regex_Regex_regex_Regex.S3 s (k' : Int) ⟨(if s.c = b then s.a else s.a.map (·.add (b * 4))), (s.n - b), (s.c - b)⟩ (m : Int) w2 R := by
        intro k' cur' w2 h1 h2 h3 h4 H2
        show slices_CompactFunc_sl_regex_Regex_regex_Regex.L2 _ _ _ _ _ _
        rw [i64_next _ (by omega)]
        exact ihd k' b (m + 1) cur' x w2 (by omega) (by omega) hb1 h1 h2 (by rw [show b + (m + 1) - 1 = b + m by omega]; exact h3) (by rw [show b + (m + 1) - 1 = b + m by omega]; exact hg) (by rw [show b + (m + 1) = b + m + 1 by omega]; exact h4) H2
      refine slices_CompactFunc_sl_regex_Regex_regex_Regex.L2_step _ _ _ _ _ _ (sel_true (decide_eq_true ?_) (H1.dr fun w2 H2 => ?_))
      · show (m : Int) < ((s.n - b : Nat) : Int)
        omega
      refine H2.els 0 m b rfl hgc (H2.els 0 (m - 1) b e1 hgp ?_)
      refine H2.call (c_equal x p w2 (kt x mx) ((show Rt.Ps w2 l from H2.getD 0).mem mx) ((show Rt.Ps w2 l from H2.getD 0).mem mp)) ?_
      rintro _ w3 rfl H3
      refine ⟨_, rfl, sel_not (fun hf => ?_) (fun ht => ?_)⟩
      · refine H3.els 0 m b rfl hgc (H3.elSt 0 k (t := x) (ts := cur) rfl (by omega) fun w4 H4 => ?_)
        rw [if_neg (by rw [hf]; simp)] at hq
        rw [i64_next _ (by omega)]
        refine next (k + 1) (cur.set k x) w4 (by omega) (by simpa using hc) ?_ ?_ H4
        · rw [List.drop_set_of_lt (by omega)]; exact hdr1
        · rw [take_set_snoc (by omega), List.append_assoc]
          exact hq
      · rw [if_pos ht] at hq
        exact next k cur w3 (by omega) hc hdr1 hq H3
  -- as long as no two are equal
  have loop : ∀ (d k : Nat) (p : Rt) (w1 : World), k + d = l.length → 1 ≤ k → l[k - 1]? = some p → l.take k ++ compGo p (l.drop k) = compT l → LH (· ∈ blkL s) w w1 [.row ty_regex_Regex 4 s (l.flatMap Rt.c)] [.trees l] →
      slices_CompactFunc_sl_regex_Regex_regex_Regex.L0 s (k : Int) w1 R := by
    intro d
    induction d with
    | zero =>
      intro k p w1 hk h1 hp hq H1
      refine slices_CompactFunc_sl_regex_Regex_regex_Regex.L0_step _ _ _ _ (sel_false (decide_eq_false (by omega)) ⟨⟨s, rfl, ?_, fun x hx => hx⟩, H1.fr⟩)
      rw [List.drop_of_length_le (by omega), List.take_of_length_le (by omega)] at hq
      have hq' : l = compT l := by rw [← hq]; simp [compGo]
      rw [← hq']
      exact H1.get 0
    | succ d ihd =>
      intro k p w1 hk h1 hp hq H1
      have hg : l[k]? = some (l[k]'(by omega)) := List.getElem?_eq_getElem (by omega)
      have hdrop := List.drop_eq_getElem_cons (l := l) (i := k) (by omega)
      generalize l[k]'(by omega) = x at hg hdrop
      have mx := List.mem_of_getElem? hg
      have mp := List.mem_of_getElem? hp
      have e1 : IntKind.wrap .i64 ((k : Int) - 1) = ((k - 1 : Nat) : Int) := i64_prev h1 (by omega)
      rw [hdrop] at hq
      have eg : compGo p (x :: l.drop (k + 1)) = if cmpR x.rx p.rx == 0 then compGo x (l.drop (k + 1)) else x :: compGo x (l.drop (k + 1)) := rfl
      rw [eg] at hq
      refine slices_CompactFunc_sl_regex_Regex_regex_Regex.L0_step _ _ _ _ (sel_true (decide_eq_true (by omega)) (H1.dr fun w2 H2 => ?_))
      refine H2.el 0 k rfl hg (H2.el 0 (k - 1) e1 hp ?_)
      refine H2.call (c_equal x p w2 (kt x mx) ((show Rt.Ps w2 l from H2.getD 0).mem mx) ((show Rt.Ps w2 l from H2.getD 0).mem mp)) ?_
      rintro _ w3 rfl H3
      refine ⟨_, rfl, sel_intro (fun ht => ⟨by omega, by omega, ?_⟩) (fun hf => ?_)⟩
      · rw [if_pos ht] at hq
        show slices_CompactFunc_sl_regex_Regex_regex_Regex.L2 _ _ _ _ _ _
        exact loop2 d k k 1 l x w3 (by omega) (by omega) h1 (by omega) rfl rfl (by rw [Nat.add_sub_cancel]; exact hg) hq H3
      · rw [if_neg (by rw [hf]; simp)] at hq
        rw [i64_next _ (by omega)]
        refine ihd (k + 1) x w3 (by omega) (by omega) (by rw [Nat.add_sub_cancel]; exact hg) ?_ H3
        rw [List.take_add_one, hg, List.append_assoc]
        exact hq
  refine slices_CompactFunc_sl_regex_Regex_regex_Regex.ok _ w _ (sel_dec (fun h2 => ⟨⟨s, rfl, ?_, fun x hx => hx⟩, H.fr⟩) (fun h2 => ?_))
  · have e : compT l = l := by
      cases l with
      | nil => rfl
      | cons a l =>
        cases l with
        | nil => rfl
        | cons b l => simp at nr; omega
    rw [e]
    exact ho
  · have hg : l[0]? = some (l[0]'(by omega)) := List.getElem?_eq_getElem (by omega)
    have hdrop := List.drop_eq_getElem_cons (l := l) (i := 0) (by omega)
    generalize l[0]'(by omega) = x at hg hdrop
    refine loop (l.length - 1) 1 x w (by omega) (by omega) hg ?_ H
    rw [List.drop_zero] at hdrop
    rw [hdrop]
    rfl
end Go.Proofs.YtknlbofiicflgaaGreat
