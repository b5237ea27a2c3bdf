/- ValueOrder: what the law does. -/
import Derived.Test.YtjjhfdjpmonlaaaK11
import Derived.Test.YtjjhfdjpmonlaaaK13
import Derived.Test.YtjjhfdjpmonlaaaVE
namespace Go.Proofs.Ytjjhfdjpmonlaaa
open Go Go.W
namespace Ord1

abbrev Done (w : World) : Post := fun r w' => r = .returned (.bool true) ∧ Fr0 w w'
section
variable {w w0 : World} {ra : Sl} {va : List (Val × Sl)}
open enthymemelaw06_ValueOrder in
theorem loop4 (roa : ∀ p ∈ va, Ro 8 p.1) (na : va.length ≤ 1000) (i k : Nat) (u v : Val) (su sv : Sl) (hu : va[i]? = some (u, su)) (hv : va[k]? = some (v, sv))
    (hk : ∀ w2, LH F0 w0 w2 [] [ValsE ra va] → L1 ra (i : Int) ((k + 1 : Nat) : Int) w2 (Done w)) :
    ∀ (d j : Nat) (w1 : World), j + d = va.length → LH F0 w0 w1 [] [ValsE ra va] → L4 ra (i : Int) (k : Int) (cmpV u v) (j : Int) w1 (Done w) := by
  have ru : Ro 8 u := roa _ (List.mem_of_getElem? hu)
  have rv : Ro 8 v := roa _ (List.mem_of_getElem? hv)
  have mu := ru.m
  have mv := rv.m
  have li := (List.getElem?_eq_some_iff.1 hu).1
  have lk := (List.getElem?_eq_some_iff.1 hv).1
  intro d
  induction d with
  | zero =>
    intro j w1 hj H
    have nr := vals_row (H.getD 0)
    refine L4_step _ _ _ _ _ _ _ (sel_false (decide_eq_false (by omega)) ?_)
    rw [i64_next _ (by omega)]
    exact hk _ H
  | succ d ih =>
    intro j w1 hj H
    have nr := vals_row (H.getD 0)
    have hg : va[j]? = some (va[j]'(by omega)) := List.getElem?_eq_getElem (by omega)
    have hro := roa _ (List.mem_of_getElem? hg)
    generalize va[j]'(by omega) = p at hg hro
    obtain ⟨e, se⟩ := p
    have re : Ro 8 e := hro
    have me := re.m
    have next : ∀ {w2 : World} {D : List En}, LH F0 w0 w2 [] ([ValsE ra va] ++ D) → S5 ra (i : Int) (k : Int) (cmpV u v) (j : Int) w2 (Done w) := fun H2 => by
      show L4 _ _ _ _ (IntKind.wrap .i64 ((j : Int) + 1)) _ _
      rw [i64_next _ (by omega)]
      exact ih (j + 1) _ (by omega) (H2.forget _ (by simp))
    refine L4_step _ _ _ _ _ _ _ (sel_true (decide_eq_true (by omega)) (H.dr fun w2 H2 => sel_dec (fun hc => ⟨by omega, by omega, ?_⟩) (fun _ => next (D := []) H2)))
    refine val_at (H2.getD 0) hv fun p hp c => ⟨_, _, _, _, _, _, c.c0, c.c1, c.c2, c.c3, c.c4, c.c5, by omega, by omega, ?_⟩
    refine val_at (H2.getD 0) hg fun q hq c => ⟨_, _, _, _, _, _, c.c0, c.c1, c.c2, c.c3, c.c4, c.c5, ?_⟩
    refine H2.callq (l_own v sv w2 (val_ents (H2.getD 0) hv) (by omega)) ?_
    rintro _ w3 ⟨s1, rfl, o1, n1⟩ _ F3
    have H3 := F3.rd (EntsD s1 v.m) o1.rdn (rdn_fp n1)
    have c := vcells (H3.getD 0) hg hq
    refine ⟨_, _, _, _, _, _, rfl, c.c0, c.c1, c.c2, c.c3, c.c4, c.c5, H3.callq (l_own e se w3 (val_ents (H3.getD 0) hg) (by omega)) ?_⟩
    rintro _ w4 ⟨s2, rfl, o2, n2⟩ _ F4
    have H4 := F4.rd (EntsD s2 e.m) o2.rdn (rdn_fp n2)
    refine ⟨_, _, _, _, _, _, rfl, H4.call (c_Compare v e (H4.getD 1) (H4.getD 2) (by omega)) ?_⟩
    rintro _ w5 rfl H5
    refine ⟨_, rfl, sel_dec (fun hve => ⟨by omega, by omega, ?_⟩) (fun _ => next (D := [_, _]) H5)⟩
    refine val_at (H5.getD 0) hu fun p hp c => ⟨_, _, _, _, _, _, c.c0, c.c1, c.c2, c.c3, c.c4, c.c5, by omega, by omega, ?_⟩
    refine val_at (H5.getD 0) hg fun q hq c => ⟨_, _, _, _, _, _, c.c0, c.c1, c.c2, c.c3, c.c4, c.c5, ?_⟩
    refine H5.callq (l_own u su w5 (val_ents (H5.getD 0) hu) (by omega)) ?_
    rintro _ w6 ⟨s3, rfl, o3, n3⟩ _ F6
    have H6 := F6.rd (EntsD s3 u.m) o3.rdn (rdn_fp n3)
    have c := vcells (H6.getD 0) hg hq
    refine ⟨_, _, _, _, _, _, rfl, c.c0, c.c1, c.c2, c.c3, c.c4, c.c5, H6.callq (l_own e se w6 (val_ents (H6.getD 0) hg) (by omega)) ?_⟩
    rintro _ w7 ⟨s4, rfl, o4, n4⟩ _ F7
    have H7 := F7.rd (EntsD s4 e.m) o4.rdn (rdn_fp n4)
    refine ⟨_, _, _, _, _, _, rfl, H7.call (c_Compare u e (H7.getD 3) (H7.getD 4) (by omega)) ?_⟩
    rintro _ w8 rfl H8
    have := ord_V.tr u v e hc hve
    exact ⟨_, rfl, sel_false (decide_eq_false (by omega)) (next (D := [_, _, _, _]) H8)⟩
open enthymemelaw06_ValueOrder in
theorem loop1 (roa : ∀ p ∈ va, Ro 8 p.1) (na : va.length ≤ 1000) (i : Nat) (u : Val) (su : Sl) (hu : va[i]? = some (u, su))
    (hk : ∀ w2, LH F0 w0 w2 [] [ValsE ra va] → L0 ra ((i + 1 : Nat) : Int) w2 (Done w)) :
    ∀ (d k : Nat) (w1 : World), k + d = va.length → LH F0 w0 w1 [] [ValsE ra va] → L1 ra (i : Int) (k : Int) w1 (Done w) := by
  have ru : Ro 8 u := roa _ (List.mem_of_getElem? hu)
  have mu := ru.m
  have li := (List.getElem?_eq_some_iff.1 hu).1
  intro d
  induction d with
  | zero =>
    intro k w1 hj H
    have nr := vals_row (H.getD 0)
    refine L1_step _ _ _ _ _ (sel_false (decide_eq_false (by omega)) ?_)
    rw [i64_next _ (by omega)]
    exact hk _ H
  | succ d ih =>
    intro k w1 hj H
    have nr := vals_row (H.getD 0)
    have hv : va[k]? = some (va[k]'(by omega)) := List.getElem?_eq_getElem (by omega)
    have hro := roa _ (List.mem_of_getElem? hv)
    generalize va[k]'(by omega) = p at hv hro
    obtain ⟨v, sv⟩ := p
    have rv : Ro 8 v := hro
    have mv := rv.m
    have next : ∀ {w2 : World} {D : List En}, LH F0 w0 w2 [] ([ValsE ra va] ++ D) → S3 ra (i : Int) (k : Int) (cmpV u v) w2 (Done w) := fun H2 =>
      loop4 roa na i k u v su sv hu hv (fun w3 H3 => ih (k + 1) w3 (by omega) H3) va.length 0 _ (by omega) (H2.forget _ (by simp))
    refine L1_step _ _ _ _ _ (sel_true (decide_eq_true (by omega)) (H.dr fun w2 H2 => ⟨by omega, by omega, ?_⟩))
    refine val_at (H2.getD 0) hu fun p hp c => ⟨_, _, _, _, _, _, c.c0, c.c1, c.c2, c.c3, c.c4, c.c5, by omega, by omega, ?_⟩
    refine val_at (H2.getD 0) hv fun q hq c => ⟨_, _, _, _, _, _, c.c0, c.c1, c.c2, c.c3, c.c4, c.c5, ?_⟩
    refine H2.callq (l_own u su w2 (val_ents (H2.getD 0) hu) (by omega)) ?_
    rintro _ w3 ⟨s1, rfl, o1, n1⟩ _ F3
    have H3 := F3.rd (EntsD s1 u.m) o1.rdn (rdn_fp n1)
    have c := vcells (H3.getD 0) hv hq
    refine ⟨_, _, _, _, _, _, rfl, c.c0, c.c1, c.c2, c.c3, c.c4, c.c5, H3.callq (l_own v sv w3 (val_ents (H3.getD 0) hv) (by omega)) ?_⟩
    rintro _ w4 ⟨s2, rfl, o2, n2⟩ _ F4
    have H4 := F4.rd (EntsD s2 v.m) o2.rdn (rdn_fp n2)
    refine ⟨_, _, _, _, _, _, rfl, H4.call (c_Compare u v (H4.getD 1) (H4.getD 2) (by omega)) ?_⟩
    rintro _ w5 rfl H5
    refine ⟨_, rfl, H5.dr fun w6 H6 => ⟨by omega, by omega, ?_⟩⟩
    refine val_at (H6.getD 0) hu fun p hp c => ⟨_, _, _, _, _, _, c.c0, c.c1, c.c2, c.c3, c.c4, c.c5, by omega, by omega, ?_⟩
    refine val_at (H6.getD 0) hv fun q hq c => ⟨_, _, _, _, _, _, c.c0, c.c1, c.c2, c.c3, c.c4, c.c5, ?_⟩
    refine H6.call (r_Compare u v (val_ents (H6.getD 0) hu) (val_ents (H6.getD 0) hv) (ru.sm (by omega))) ?_
    rintro _ w7 rfl H7
    refine ⟨_, rfl, sel_false (by simp) ⟨by omega, by omega, ?_⟩⟩
    refine val_at (H7.getD 0) hv fun p hp c => ⟨_, _, _, _, _, _, c.c0, c.c1, c.c2, c.c3, c.c4, c.c5, by omega, by omega, ?_⟩
    refine val_at (H7.getD 0) hu fun q hq c => ⟨_, _, _, _, _, _, c.c0, c.c1, c.c2, c.c3, c.c4, c.c5, ?_⟩
    refine H7.callq (l_own v sv w7 (val_ents (H7.getD 0) hv) (by omega)) ?_
    rintro _ w8 ⟨s3, rfl, o3, n3⟩ _ F8
    have H8 := F8.rd (EntsD s3 v.m) o3.rdn (rdn_fp n3)
    have c := vcells (H8.getD 0) hu hq
    refine ⟨_, _, _, _, _, _, rfl, c.c0, c.c1, c.c2, c.c3, c.c4, c.c5, H8.callq (l_own u su w8 (val_ents (H8.getD 0) hu) (by omega)) ?_⟩
    rintro _ w9 ⟨s4, rfl, o4, n4⟩ _ F9
    have H9 := F9.rd (EntsD s4 u.m) o4.rdn (rdn_fp n4)
    refine ⟨_, _, _, _, _, _, rfl, H9.call (c_Compare v u (H9.getD 3) (H9.getD 4) (by omega)) ?_⟩
    rintro _ w10 rfl H10
    have tri := ord_V.tri u v
    have neg := ord_V.neg u v
    refine ⟨_, rfl, sel_false ?_ ⟨by omega, by omega, ?_⟩⟩
    · rw [IntWalk.i64_in _ (by omega), neg]
      simp
    refine val_at (H10.getD 0) hu fun p hp c => ⟨_, _, _, _, _, _, c.c0, c.c1, c.c2, c.c3, c.c4, c.c5, ?_⟩
    refine H10.callq (l_own u su w10 (val_ents (H10.getD 0) hu) (by omega)) ?_
    rintro _ w11 ⟨s5, rfl, o5, n5⟩ _ F11
    have H11 := F11.rd (EntsD s5 u.m) o5.rdn (rdn_fp n5)
    refine ⟨_, _, _, _, _, _, rfl, H11.callq (c_Encode u s5 w11 (H11.getD 5) (by omega) fun _ => ru.wf (by omega)) ?_⟩
    rintro _ w12 ⟨b1, rfl, ob1, nb1⟩ _ F12
    have H12 := F12.rd (.rd b1 _) ob1.rd (rd_fp nb1)
    refine ⟨_, _, rfl, by omega, by omega, ?_⟩
    refine val_at (H12.getD 0) hv fun p hp c => ⟨_, _, _, _, _, _, c.c0, c.c1, c.c2, c.c3, c.c4, c.c5, ?_⟩
    refine H12.callq (l_own v sv w12 (val_ents (H12.getD 0) hv) (by omega)) ?_
    rintro _ w13 ⟨s6, rfl, o6, n6⟩ _ F13
    have H13 := F13.rd (EntsD s6 v.m) o6.rdn (rdn_fp n6)
    refine ⟨_, _, _, _, _, _, rfl, H13.callq (c_Encode v s6 w13 (H13.getD 7) (by omega) fun _ => rv.wf (by omega)) ?_⟩
    rintro _ w14 ⟨b2, rfl, ob2, nb2⟩ H14 _
    refine ⟨_, _, rfl, sel_eq (fun e1 => sel_eq (fun e2 => ?_) (fun _ => next (D := [_, _, _, _, _, _, _]) H14)) (fun _ => next (D := [_, _, _, _, _, _, _]) H14)⟩
    have B1 : Bytes w14 b1 (encV u) := by
      have := H14.getD 6
      rw [if_pos e1] at this
      exact this
    have B2 : Bytes w14 b2 (encV v) := by
      have := ob2.rd
      rw [if_pos e2] at this
      exact this
    have lu := encV_len u (ru.wf (by omega))
    refine H14.call (same_bytes B1 B2 (by omega)) ?_
    rintro _ w15 rfl H15
    refine ⟨_, rfl, sel_false ?_ (next (D := [_, _, _, _, _, _, _]) H15)⟩
    rw [cmpV_eqb]
    by_cases huv : u = v
    · subst huv
      simp
    · have : encV u ≠ encV v := fun h => huv (encV_inj (ru.wf (by omega)) (rv.wf (by omega)) e1 e2 h)
      simp [huv, this]
open enthymemelaw06_ValueOrder in
theorem loop0 (f : Fr0 w w0) (roa : ∀ p ∈ va, Ro 8 p.1) (na : va.length ≤ 1000) :
    ∀ (d i : Nat) (w1 : World), i + d = va.length → LH F0 w0 w1 [] [ValsE ra va] → L0 ra (i : Int) w1 (Done w) := by
  intro d
  induction d with
  | zero =>
    intro i w1 hi H
    have nra := vals_row (H.getD 0)
    refine L0_step _ _ _ _ (sel_false (decide_eq_false (by omega)) (H.call (l_lives w1) ?_))
    rintro _ w2 rfl H2
    exact ⟨_, rfl, rfl, f.tr0 H2.fr⟩
  | succ d ih =>
    intro i w1 hi H
    have nra := vals_row (H.getD 0)
    have hv : va[i]? = some (va[i]'(by omega)) := List.getElem?_eq_getElem (by omega)
    generalize va[i]'(by omega) = p at hv
    obtain ⟨v, sv⟩ := p
    exact L0_step _ _ _ _ (sel_true (decide_eq_true (by omega)) (loop1 roa na i v sv hv (fun w2 H2 => ih (i + 1) w2 (by omega) H2) va.length 0 w1 (by omega) H))
end
theorem walk (n : Int) (l m : Sl) (at' how by' : Int) (w : World) (hn : I64 n) (hl : ArgNums w l) (hm : ArgNums w m) (h1 : I64 at') (h2 : I64 how) (h3 : I64 by') :
    Calls Try.prog n_enthymemelaw06_ValueOrder #[.int .i64 n, l.v, m.v, .int .i64 at', .int .i64 how, .int .i64 by'] w fun r w' => r = .returned (.bool true) ∧ Fr0 w w' := by
  obtain ⟨xs, hls, _, hx⟩ := hl
  obtain ⟨ys, hms, _, hy⟩ := hm
  have H0 : LH F0 w w [] [] := lh0 [] (by simp)
  refine enthymemelaw06_ValueOrder.ok _ _ _ _ _ _ w _ ((r_someO n hn l xs at' how by' h1 h2 h3 w hls hx).mono ?_)
  rintro _ w1 ⟨⟨s1, v1, four1, row1, rfl, o1, e1, n1, n1'⟩, f1⟩
  have H1 := H0.push2 (.row ty_enthymemeref06_Value 6 row1 (valsC v1)) (EntsA v1) f1 o1 e1 n1 n1'
  refine ⟨_, rfl, H1.callq (r_some n hn m ys how at' by' h2 h1 h3 w1 (hms.fr0 H1.fr) hy) ?_⟩
  rintro _ w2 ⟨s2, v2, four2, row2, rfl, r2, n2⟩ _ F2
  have H2 := F2.rd (ValsE row2 v2) r2 n2
  have l1 := four1.len
  have l2 := four2.len
  have A2 : (ValsE row2 v2).P w2 := H2.getD 1
  have R2 : RdN 6 w2 row2 (valsC v2) := A2 _ List.mem_cons_self
  refine ⟨_, rfl, H2.apk 0 el_rv (src := row2) (news := valsC v2) rfl R2.2.2 R2.1 (valsC_one _) ?_ fun ra w3 H3 _ _ _ => ?_⟩
  · have q1 := vals_n (H2.get 0 : OwnRow _ _ _ _ _).rdn
    have q2 := vals_row (H2.getD 1)
    omega
  have va_ok : ∀ p ∈ v1 ++ v2, Ro 8 p.1 := fun p hp => (List.mem_append.1 hp).elim (four1.ro p) (four2.ro p)
  have V : (ValsE ra (v1 ++ v2)).P w3 := valsE_of (by rw [valsC_app]; exact OwnRow.rdn (H3.get 0)) (entsA_app (H3.getD 0) fun e he => (show (ValsE row2 v2).P _ from H3.getD 1) e (List.mem_cons_of_mem _ he))
  refine loop0 H3.fr va_ok (by simp [l1, l2]) (v1 ++ v2).length 0 w3 (by omega) (lh0 _ ?_)
  intro e he
  simp only [List.mem_cons, List.not_mem_nil, or_false] at he
  subst he
  exact V
end Ord1
end Go.Proofs.Ytjjhfdjpmonlaaa
