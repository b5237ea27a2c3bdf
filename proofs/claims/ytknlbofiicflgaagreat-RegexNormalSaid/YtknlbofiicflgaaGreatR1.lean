/- Package regex: Compare, equal: the contracts. -/
import Derived.Test.YtknlbofiicflgaaGreatRT
import Derived.Test.YtknlbofiicflgaaGreatVC
namespace Go.Proofs.YtknlbofiicflgaaGreat
open Go Go.W

def cmpI (a b : Int) : Int := if a < b then -1 else if b < a then 1 else 0
def orI : List Int → Int
  | [] => 0
  | c :: l => if c ≠ 0 then c else orI l
theorem c_int (a b : Int) (w : World) : Calls Tryz.prog n_cmp_Compare_int #[.int .i64 a, .int .i64 b] w fun r w' => r = .returned (.int .i64 (cmpI a b)) ∧ Fr0 w w' := by
  refine cmp_Compare_int.ok _ _ w _ (cmp_isNaN_int.ok _ _ _ ⟨_, rfl, cmp_isNaN_int.ok _ _ _ ⟨_, rfl, ?_⟩⟩)
  have e1 : (a != a) = false := by simp
  have e2 : (b != b) = false := by simp
  rw [e1, e2]
  refine sel_false rfl (sel_false rfl (sel_dec (fun h => ⟨?_, Fr.refl _ _⟩) (fun h => sel_dec (fun h2 => ⟨?_, Fr.refl _ _⟩) (fun h2 => ⟨?_, Fr.refl _ _⟩))))
  · unfold cmpI; rw [if_pos h]
  · unfold cmpI; rw [if_neg h, if_pos h2]
  · unfold cmpI; rw [if_neg h, if_neg h2]
theorem c_u8 (a b : Int) (w : World) : Calls Tryz.prog n_cmp_Compare_byte #[.int .u8 a, .int .u8 b] w fun r w' => r = .returned (.int .i64 (cmpI a b)) ∧ Fr0 w w' := by
  refine cmp_Compare_byte.ok _ _ w _ (cmp_isNaN_byte.ok _ _ _ ⟨_, rfl, cmp_isNaN_byte.ok _ _ _ ⟨_, rfl, ?_⟩⟩)
  have e1 : (a != a) = false := by simp
  have e2 : (b != b) = false := by simp
  rw [e1, e2]
  refine sel_false rfl (sel_false rfl (sel_dec (fun h => ⟨?_, Fr.refl _ _⟩) (fun h => sel_dec (fun h2 => ⟨?_, Fr.refl _ _⟩) (fun h2 => ⟨?_, Fr.refl _ _⟩))))
  · unfold cmpI; rw [if_pos h]
  · unfold cmpI; rw [if_neg h, if_pos h2]
  · unfold cmpI; rw [if_neg h, if_neg h2]
theorem or_row {w : World} {s : Sl} {l : List Int} (h : Nums w s l) (hl : l.length ≤ 1000000) : Calls Tryz.prog n_cmp_Or_int #[s.v] w fun r w' => r = .returned (.int .i64 (orI l)) ∧ Fr0 w w' := by
  refine cmp_Or_int.ok _ w _ ?_
  have hn := Nums.len h
  have loop : ∀ (d i : Nat), i + d = l.length → orI (l.drop i) = orI l → cmp_Or_int.L0 0 s ((s.n : Nat) : Int) (i : Int) w fun r w' => r = .returned (.int .i64 (orI l)) ∧ Fr0 w w' := by
    intro d
    induction d with
    | zero =>
      intro i hi he
      rw [List.drop_of_length_le (by omega)] at he
      exact cmp_Or_int.L0_step _ _ _ _ _ _ (sel_false (decide_eq_false (by omega)) ⟨by rw [← he]; rfl, Fr.refl _ _⟩)
    | succ d ih =>
      intro i hi he
      have hg : l[i]? = some (l[i]'(by omega)) := List.getElem?_eq_getElem (by omega)
      rw [List.drop_eq_getElem_cons (by omega)] at he
      generalize l[i]'(by omega) = c at hg he
      refine cmp_Or_int.L0_step _ _ _ _ _ _ (sel_true (decide_eq_true (by omega)) ⟨by omega, by omega, Nums.cell h hg (by simp) fun p _ hp => ⟨c, hp, sel_ne (fun hc => ?_) (fun hc => ?_)⟩⟩)
      · refine ⟨?_, Fr.refl _ _⟩
        rw [← he]; unfold orI; rw [if_pos hc]
      · rw [i64_next _ (by omega)]
        refine ih (i + 1) (by omega) ?_
        rw [← he]
        conv => rhs; unfold orI
        rw [if_neg (by simpa using hc)]
  exact loop l.length 0 (by omega) (by simp)
theorem nums_new (w : World) (l : List Int) (n : Nat) (hn : n = l.length) : Nums (w.alloc (.cells (l.map intV).toArray ty_int)) ⟨some (at0 w.heap.size), n, n⟩ l :=
  ⟨by simp [hn], Nat.le_refl _, (Row.made w ty_int n n (l.map intV)).crow⟩
section
variable {M : Nat → Prop} {w0 w : World} {L D : List En} {bs : List Nat}
/-- cmp.Or of numbers just boxed -/
theorem _root_.Go.W.LH.or (H : LH M w0 w L D) {l : List Int} {n : Nat} {K : Post} (hn : n = l.length) (hl : l.length ≤ 1000000) (hk : ∀ w', LH M w0 w' L D → K (.returned (.int .i64 (orI l))) w') :
    nwV w (.cells (l.map intV).toArray ty_int) fun w1 => callF bs Tryz.prog n_cmp_Or_int #[.slice (some (Addr.mk w.heap.size 0 none)) n n] w1 K :=
  (H.fr0 (Fr.alloc _ _ _)).callg (or_row (s := ⟨some (at0 w.heap.size), n, n⟩) (nums_new w l n hn) hl) fun _ w' hr H' => hr ▸ hk w' H'
end
mutual
def cmpR : Rx → Rx → Int
  | .mk k lo hi l, b => if orI [cmpI k b.k, cmpI lo.toNat b.lo.toNat, cmpI hi.toNat b.hi.toNat] ≠ 0 then orI [cmpI k b.k, cmpI lo.toNat b.lo.toNat, cmpI hi.toNat b.hi.toNat] else cmpL l b.l
def cmpL : List Rx → List Rx → Int
  | [], [] => 0
  | [], _ :: _ => -1
  | _ :: _, [] => 1
  | a :: l, b :: m => if cmpR a b ≠ 0 then cmpR a b else cmpL l m
end
abbrev CmpOk (n : Nat) : Prop := ∀ (a b : Rt) (w : World), a.sz ≤ n → a.P w → b.P w → Calls Tryz.prog n_regex_Compare #[a.v, b.v] w fun r w' => r = .returned (.int .i64 (cmpR a.rx b.rx)) ∧ Fr0 w w'
theorem c_CompareFunc (n : Nat) (hn : n ≤ 1000000) (ih : CmpOk n) (la lb : List Rt) (sa sb : Sl) (w : World) (ha : RdN 4 w sa (la.flatMap Rt.c)) (hb : RdN 4 w sb (lb.flatMap Rt.c)) (pa : Rt.Ps w la) (pb : Rt.Ps w lb) (hs : Rt.szs la ≤ n) :
    Calls Tryz.prog n_slices_CompareFunc_sl_regex_Regex_sl_regex_Regex_regex_Regex_regex_Regex #[sa.v, sb.v, .func (.func n_regex_Compare) #[] #[]] w fun r w' => r = .returned (.int .i64 (cmpL (Rt.rxs la) (Rt.rxs lb))) ∧ Fr0 w w' := by
  have na := Rt.rows_n ha
  have nb := Rt.rows_n hb
  have hl := Rt.szs_len la
  have loop : ∀ (d i : Nat) (w1 : World), i + d = la.length → i ≤ lb.length → cmpL (Rt.rxs (la.drop i)) (Rt.rxs (lb.drop i)) = cmpL (Rt.rxs la) (Rt.rxs lb) → LH F0 w w1 [] [Rt.row sa la, Rt.row sb lb, .trees la, .trees lb] →
      slices_CompareFunc_sl_regex_Regex_sl_regex_Regex_regex_Regex_regex_Regex.L0T sa sb sa ((sa.n : Nat) : Int) (i : Int) w1 fun r w' => r = .returned (.int .i64 (cmpL (Rt.rxs la) (Rt.rxs lb))) ∧ Fr0 w w' := by
    intro d
    induction d with
    | zero =>
      intro i w1 hi hib he H
      rw [List.drop_of_length_le (by omega)] at he
      refine slices_CompareFunc_sl_regex_Regex_sl_regex_Regex_regex_Regex_regex_Regex.L0T_step _ _ _ _ _ _ _ (sel_false (decide_eq_false (by omega)) (sel_dec (fun h => ⟨?_, H.fr⟩) (fun h => ⟨?_, H.fr⟩)))
      · rw [List.drop_eq_getElem_cons (by omega)] at he
        rw [← he]; rfl
      · rw [List.drop_of_length_le (by omega)] at he
        rw [← he]; rfl
    | succ d ihd =>
      intro i w1 hi hib he H
      have hg : la[i]? = some (la[i]'(by omega)) := List.getElem?_eq_getElem (by omega)
      rw [List.drop_eq_getElem_cons (by omega)] at he
      generalize la[i]'(by omega) = a at hg he
      refine slices_CompareFunc_sl_regex_Regex_sl_regex_Regex_regex_Regex_regex_Regex.L0T_step _ _ _ _ _ _ _ (sel_true (decide_eq_true (by omega)) ⟨by omega, by omega, ?_⟩)
      refine Rt.at' (H.getD 0) hg fun p hp c => ⟨_, _, _, _, c.c0, c.c1, c.c2, c.c3, H.newg fun b8 w2 H2 => sel_dec (fun hge => H2.locg fun w3 H3 => ⟨?_, H3.fr⟩) (fun hlt => ⟨by omega, by omega, ?_⟩)⟩
      · have hge' : ((sb.n : Nat) : Int) ≤ (i : Int) := hge
        rw [List.drop_of_length_le (by omega : lb.length ≤ i)] at he
        rw [← he]; rfl
      · have hlt' : ¬ ((sb.n : Nat) : Int) ≤ (i : Int) := hlt
        have hgb : lb[i]? = some (lb[i]'(by omega)) := List.getElem?_eq_getElem (by omega)
        rw [List.drop_eq_getElem_cons (by omega : i < lb.length)] at he
        generalize lb[i]'(by omega) = b at hgb he
        refine Rt.at' (H2.getD 1) hgb fun q hq _ => H2.locg fun w3 H3 => ?_
        have c := Rt.again (H3.getD 1) hgb hq
        refine ⟨_, _, _, _, c.c0, c.c1, c.c2, c.c3, H3.newg fun b9 w4 H4 => H4.locg fun w5 H5 => ?_⟩
        have sza := Rt.szs_mem (List.mem_of_getElem? hg)
        refine H5.callg (ih a b w5 (by omega) (Rt.Ps.get (H5.getD 2) hg) (Rt.Ps.get (H5.getD 3) hgb)) ?_
        rintro _ w6 rfl H6
        have e2 : cmpL (Rt.rxs (a :: la.drop (i + 1))) (Rt.rxs (b :: lb.drop (i + 1))) = if cmpR a.rx b.rx ≠ 0 then cmpR a.rx b.rx else cmpL (Rt.rxs (la.drop (i + 1))) (Rt.rxs (lb.drop (i + 1))) := rfl
        rw [e2] at he
        refine ⟨_, rfl, sel_ne (fun hc => ⟨?_, H6.fr⟩) (fun hc => ?_)⟩
        · rw [if_pos hc] at he
          rw [he]
        · rw [if_neg (by simpa using hc)] at he
          rw [i64_next _ (by omega)]
          exact ihd (i + 1) w6 (by omega) (by omega) he (H6.take 0)
  exact slices_CompareFunc_sl_regex_Regex_sl_regex_Regex_regex_Regex_regex_Regex.okT _ _ w _ (loop la.length 0 w (by omega) (by omega) (by simp) (lh0 _ (by
    intro e he
    simp only [List.mem_cons, List.not_mem_nil, or_false] at he
    rcases he with rfl | rfl | rfl | rfl
    · exact ha
    · exact hb
    · exact pa
    · exact pb)))
theorem c_CompareN : ∀ n : Nat, n ≤ 1000000 → CmpOk n
  | 0, _ => fun a b w h _ _ => absurd h (by have := Rt.sz_pos a; omega)
  | n + 1, hn => fun a b w h pa pb => by
    have ih := c_CompareN n (by omega)
    have hs := Rt.sz_parts a
    have ha := pa.parts
    have hb := pb.parts
    refine regex_Compare.okT _ _ _ _ _ _ _ _ w _ ((lh0 [.tree a, .tree b] (by
      intro e he
      simp only [List.mem_cons, List.not_mem_nil, or_false] at he
      rcases he with rfl | rfl
      · exact pa
      · exact pb)).newg fun b2 w1 H1 => H1.newg fun b3 w2 H2 => H2.locg fun w3 H3 => H3.callg (c_int _ _ w3) ?_)
    rintro _ w4 rfl H4
    refine ⟨_, rfl, H4.callg (c_u8 _ _ w4) ?_⟩
    rintro _ w5 rfl H5
    refine ⟨_, rfl, H5.callg (c_u8 _ _ w5) ?_⟩
    rintro _ w6 rfl H6
    refine ⟨_, rfl, H6.or (l := [cmpI a.k b.k, cmpI a.lo.toNat b.lo.toNat, cmpI a.hi.toNat b.hi.toNat]) rfl (by simp) fun w7 H7 => ?_⟩
    have e : cmpR a.rx b.rx = if orI [cmpI a.k b.k, cmpI a.lo.toNat b.lo.toNat, cmpI a.hi.toNat b.hi.toNat] ≠ 0 then orI [cmpI a.k b.k, cmpI a.lo.toNat b.lo.toNat, cmpI a.hi.toNat b.hi.toNat] else cmpL (Rt.rxs a.l) (Rt.rxs b.l) := by
      rw [Rt.rx_parts a, Rt.rx_parts b]; unfold cmpR; rfl
    refine ⟨_, rfl, sel_ne (fun hc => ⟨?_, H7.fr⟩) (fun hc => ?_)⟩
    · rw [e, if_pos hc]
    · have pa7 : a.P w7 := H7.getD 0
      have pb7 : b.P w7 := H7.getD 1
      refine H7.callg (c_CompareFunc n (by omega) ih a.l b.l a.s b.s w7 pa7.parts.1 pb7.parts.1 pa7.parts.2 pb7.parts.2 (by omega)) ?_
      rintro _ w8 rfl H8
      refine ⟨_, rfl, ?_, H8.fr⟩
      rw [e, if_neg (by simpa using hc)]
theorem c_Compare (a b : Rt) (w : World) (h : a.sz ≤ 1000000) (pa : a.P w) (pb : b.P w) : Calls Tryz.prog n_regex_Compare #[a.v, b.v] w fun r w' => r = .returned (.int .i64 (cmpR a.rx b.rx)) ∧ Fr0 w w' := c_CompareN 1000000 (Nat.le_refl _) a b w h pa pb
theorem c_equal (a b : Rt) (w : World) (h : a.sz ≤ 1000000) (pa : a.P w) (pb : b.P w) : Calls Tryz.prog n_regex_equal #[a.v, b.v] w fun r w' => r = .returned (.bool (cmpR a.rx b.rx == 0)) ∧ Fr0 w w' := by
  refine regex_equal.okT _ _ _ _ _ _ _ _ w _ ((lh0 [.tree a, .tree b] (by
    intro e he
    simp only [List.mem_cons, List.not_mem_nil, or_false] at he
    rcases he with rfl | rfl
    · exact pa
    · exact pb)).newg fun b2 w1 H1 => H1.newg fun b3 w2 H2 => H2.callg (c_Compare a b w2 h (H2.getD 0) (H2.getD 1)) ?_)
  rintro _ w3 rfl H3
  exact ⟨_, rfl, rfl, H3.fr⟩
end Go.Proofs.YtknlbofiicflgaaGreat
