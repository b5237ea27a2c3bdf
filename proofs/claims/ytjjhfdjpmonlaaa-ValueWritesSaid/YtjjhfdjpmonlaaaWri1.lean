/- ValueWrites: what the law does. -/
import Derived.Test.YtjjhfdjpmonlaaaK12
import Derived.Test.YtjjhfdjpmonlaaaVC
namespace Go.Proofs.Ytjjhfdjpmonlaaa
open Go Go.W
namespace Wri1

abbrev Done (w : World) : Post := fun r w' => r = .returned (.bool true) ∧ Fr0 w w'
section
variable {w : World}
open enthymemelaw06_ValueWrites in
theorem loop4 {s : Srt} {a u : Val} (A : VA s a) (ha : arrS s = true) (hu : Elm s u) (x : Nat) (hx : bel x s.x = true) (hx3 : s.x ≤ 3) (hal : a.m.length ≤ 1000) (sa su so : Sl) (b12 b16 b18 : Nat) :
    ∀ (d z : Nat) (w1 : World), z + d = 2 ^ s.x.toNat → 2 ^ s.x.toNat ≤ 8 → LH F0 w w1 [.g b12, .g b16, .g b18] [EntsD sa a.m, EntsD su u.m, EntsD so (stoV a x u).m] →
    L4T b12 a.t.k a.t.n a.t.x (a.u : Int) (ba a.s) sa ((2 ^ s.x.toNat : Nat) : Int) (x : Int) b16 u.t.k u.t.n u.t.x (u.u : Int) (ba u.s) su b18 (stoV a x u).t.k (stoV a x u).t.n (stoV a x u).t.x ((stoV a x u).u : Int) (ba (stoV a x u).s) so (z : Int) w1 (Done w) := by
  have A1 := (sto_ok A ha hu hx).2.1
  have ln := sto_len a u x
  intro d
  induction d with
  | zero =>
    intro z w1 hz h8 H
    refine L4T_step _ _ _ _ _ _ _ _ _ _ _ _ _ _ _ _ _ _ _ _ _ _ _ _ _ _ ?_
    refine sel_false (decide_eq_false (by omega)) (H.callg (l_lives w1) ?_)
    rintro _ w2 rfl H2
    exact ⟨_, rfl, rfl, H2.fr⟩
  | succ d ih =>
    intro z w1 hz h8 H
    have hz' : bel z s.x = true := by
      unfold bel
      simp only [Bool.or_eq_true, decide_eq_true_eq]
      right; omega
    have e1 := (sel_ok A ha hz').1
    have e2 := (sel_ok A1 ha hz').1
    have es := sel_sto A ha hu hx hz'
    have mz : ∀ v : Val, v.m = [] → ∀ w' : World, RdN 3 w' ⟨none, 0, 0⟩ (entsC v.m) := fun v hv w' => by rw [hv]; exact RdN.nil 3 w'
    refine L4T_step _ _ _ _ _ _ _ _ _ _ _ _ _ _ _ _ _ _ _ _ _ _ _ _ _ _ ?_
    rw [u64_nat z (by omega)]
    refine sel_true (decide_eq_true (by omega)) (H.callg (c_Select a sa z w1 (H.getD 0) (by omega)) ?_)
    rintro _ w2 rfl H2
    refine ⟨_, _, _, _, _, ⟨none, 0, 0⟩, _, rfl, H2.newg fun b31 w3 H3 => H3.locg fun w4 H4 => H4.callg (c_Select (stoV a x u) so z w4 (H4.getD 2) (by omega)) ?_⟩
    rintro _ w5 rfl H5
    refine ⟨_, _, _, _, _, ⟨none, 0, 0⟩, _, rfl, H5.newg fun b33 w6 H6 => H6.newg fun b35 w7 H7 => ?_⟩
    have fin : ∀ (v : Val) (sv : Sl) (w8 : World), LH F0 w w8 ([.g b12, .g b16, .g b18] ++ [.g b31, .g b33, .g b35]) [EntsD sa a.m, EntsD su u.m, EntsD so (stoV a x u).m] → selV (stoV a x u) z = v → RdN 3 w8 sv (entsC v.m) →
        S5T b12 a.t.k a.t.n a.t.x (a.u : Int) (ba a.s) sa ((2 ^ s.x.toNat : Nat) : Int) (x : Int) b16 u.t.k u.t.n u.t.x (u.u : Int) (ba u.s) su b18 (stoV a x u).t.k (stoV a x u).t.n (stoV a x u).t.x ((stoV a x u).u : Int) (ba (stoV a x u).s) so (z : Int) (selE a z) b33 (selV (stoV a x u) z).t.k (selV (stoV a x u) z).t.n (selV (stoV a x u) z).t.x ((selV (stoV a x u) z).u : Int) (ba (selV (stoV a x u) z).s) ⟨none, 0, 0⟩ (selE (stoV a x u) z) b35 v.t.k v.t.n v.t.x (v.u : Int) (ba v.s) sv w8 (Done w) := by
      intro v sv w8 H8 hv hr
      refine sel_false (cmp_ne e1) (sel_false (cmp_ne e2) (H8.callg (c_Compare (selV (stoV a x u) z) v (mz _ (selV_m _ _) w8) hr (by rw [selV_m]; simp)) ?_))
      rintro _ w9 rfl H9
      refine ⟨_, rfl, sel_false (cmp_ne (by rw [hv, cmpV_self])) ?_⟩
      rw [i64_next _ (by omega)]
      exact ih (z + 1) w9 (by omega) h8 (H9.take 3)
    refine sel_eq (fun hh => H7.locg fun w8 H8 => fin u su w8 H8 (by rw [es, if_pos (by omega)]) (H8.getD 1)) (fun hh => H7.locg fun w8 H8 => fin (selV a z) ⟨none, 0, 0⟩ w8 H8 (by rw [es, if_neg (by omega)]) (mz _ (selV_m _ _) w8))
end
theorem walk (n : Int) (l m : Sl) (i k : Int) (w : World) (hn : I64 n) (hl : ArgNums w l) (hm : ArgNums w m) (hi : I64 i) (hk : I64 k) :
    Calls Try.prog n_enthymemelaw06_ValueWrites #[.int .i64 n, l.v, m.v, .int .i64 i, .int .i64 k] w fun r w' => r = .returned (.bool true) ∧ Fr0 w w' := by
  obtain ⟨xs, hls, _, hx⟩ := hl
  obtain ⟨ys, hms, _, hy⟩ := hm
  refine enthymemelaw06_ValueWrites.okT _ _ _ _ _ w _ ((lh0 [] (by simp)).callq (l_array n hn l xs w hls hx) ?_)
  rintro _ w1 ⟨s, a, hs, ha, hx1, hx3, made, sr, rfl, or', nr⟩ _ F1
  have H1 := F1.rd (EntsD sr a.m) or'.rdn (rdn_fp nr)
  have A := made_va hs made
  have m5 := made.m5
  obtain ⟨z1, z2, z3, z4⟩ := size_of hx1 hx3
  refine ⟨_, _, _, _, _, _, rfl, H1.newg fun b11 w2 H2 => H2.locg fun w3 H3 => H3.callr (l_own a sr w3 (H3.getD 0) (by omega)) ?_⟩
  rintro _ w4 ⟨sa, rfl, oa, na⟩ _ F4
  have H4 := F4.rd (EntsD sa a.m) oa.rdn (rdn_fp na)
  have ex : a.t.x = s.x := by rw [made.t]
  refine ⟨_, _, _, _, _, _, rfl, H4.newg fun b12 w5 H5 => ⟨by rw [ex]; exact z1, H5.locg fun w6 H6 => ?_⟩⟩
  rw [show IntKind.wrap .i64 (1 * 2 ^ (min (Int.toNat (IntKind.wrap .u64 a.t.x)) (IntKind.bits .i64))) = ((2 ^ s.x.toNat : Nat) : Int) by rw [ex]; exact z2]
  refine H6.callg (around0 i _ w6 (by omega) hi) ?_
  rintro _ w7 ⟨x, rfl, hx8⟩ H7
  refine ⟨_, rfl, H7.callg (around0 k _ w7 (by omega) hk) ?_⟩
  rintro _ w8 ⟨y, rfl, hy8⟩ H8
  have ux : IntKind.wrap .u64 (x : Int) = (x : Int) := u64_nat x (by omega)
  have uy : IntKind.wrap .u64 (y : Int) = (y : Int) := u64_nat y (by omega)
  have bx : bel x s.x = true := by
    unfold bel
    simp only [Bool.or_eq_true, decide_eq_true_eq]
    right; omega
  have by' : bel y s.x = true := by
    unfold bel
    simp only [Bool.or_eq_true, decide_eq_true_eq]
    right; omega
  have hs0 : validS (elemS a.t) = true := elem_ok (by rw [made.t]; exact hs)
  refine ⟨_, rfl, H8.callg (r_Element a.t w8) ?_⟩
  rintro _ w9 rfl H9
  refine ⟨_, _, _, rfl, H9.callr (r_Of (elemS a.t) hs0 m ys w9 (hms.fr0 H9.fr) hy) ?_⟩
  rintro _ w10 ⟨u, madeu, su0, rfl, ou0, nu0⟩ _ F10
  have H10 := F10.rd (EntsD su0 u.m) ou0.rdn (rdn_fp nu0)
  have mu := madeu.m5
  refine ⟨_, _, _, _, _, _, rfl, H10.callr (l_own u su0 w10 (H10.getD 2) (by omega)) ?_⟩
  rintro _ w11 ⟨su, rfl, ou, nu⟩ _ F11
  have H11 := F11.rd (EntsD su u.m) ou.rdn (rdn_fp nu)
  refine ⟨_, _, _, _, _, _, rfl, H11.newg fun b16 w12 H12 => H12.locg fun w13 H13 => H13.callg (r_Element a.t w13) ?_⟩
  rintro _ w14 rfl H14
  refine ⟨_, _, _, rfl, H14.callr (r_Of (elemS a.t) hs0 l xs w14 (hls.fr0 H14.fr) hx) ?_⟩
  rintro _ w15 ⟨v, madev, sv0, rfl, ov0, nv0⟩ _ F15
  have H15 := F15.rd (EntsD sv0 v.m) ov0.rdn (rdn_fp nv0)
  have mv := madev.m5
  refine ⟨_, _, _, _, _, _, rfl, H15.callr (l_own v sv0 w15 (H15.getD 4) (by omega)) ?_⟩
  rintro _ w16 ⟨sv, rfl, ov, nv⟩ _ F16
  have H16 := F16.rd (EntsD sv v.m) ov.rdn (rdn_fp nv)
  have hu : Elm s u := elm_of ha (by rw [madeu.t, made.t]) madeu.ok
  have hv : Elm s v := elm_of ha (by rw [madev.t, made.t]) madev.ok
  have S1 := sto_ok A ha hu bx
  have S2 := sto_ok S1.2.1 ha hv by'
  have S3 := sto_ok A ha hv by'
  have S4 := sto_ok S3.2.1 ha hu bx
  have E1 := sel_ok A ha bx
  have S5 := sto_ok S1.2.1 ha (sel_elm A ha bx) bx
  have n1 := sto_len a u x
  have n2 := sto_len (stoV a x u) v y
  have n3 := sto_len a v y
  have n4 := sto_len (stoV a y v) u x
  refine ⟨_, _, _, _, _, _, rfl, ?_⟩
  rw [ux, uy]
  -- D: 0 sr, 1 sa, 2 su0, 3 su, 4 sv0, 5 sv
  refine H16.newg fun b17 w17 H17 => H17.locg fun w18 H18 => H18.callr (c_Store a u sa su x w18 (H18.getD 1) (H18.getD 3) (by omega) (by omega)) ?_
  rintro _ w19 ⟨s1, rfl, o1, k1⟩ _ F19
  have H19 := F19.rd (EntsD s1 (stoV a x u).m) o1.rdn (rdn_fp k1)
  refine ⟨_, _, _, _, _, _, _, rfl, H19.newg fun b18 w20 H20 => H20.locg fun w21 H21 => H21.callr (c_Store (stoV a x u) v s1 sv y w21 (H21.getD 6) (H21.getD 5) (by omega) (by omega)) ?_⟩
  rintro _ w22 ⟨s2, rfl, o2, k2⟩ _ F22
  have H22 := F22.rd (EntsD s2 (stoV (stoV a x u) y v).m) o2.rdn (rdn_fp k2)
  refine ⟨_, _, _, _, _, _, _, rfl, H22.newg fun b20 w23 H23 => H23.locg fun w24 H24 => H24.callr (c_Store a v sa sv y w24 (H24.getD 1) (H24.getD 5) (by omega) (by omega)) ?_⟩
  rintro _ w25 ⟨s3, rfl, o3, k3⟩ _ F25
  have H25 := F25.rd (EntsD s3 (stoV a y v).m) o3.rdn (rdn_fp k3)
  refine ⟨_, _, _, _, _, _, _, rfl, H25.newg fun b22 w26 H26 => H26.locg fun w27 H27 => H27.callr (c_Store (stoV a y v) u s3 su x w27 (H27.getD 8) (H27.getD 3) (by omega) (by omega)) ?_⟩
  rintro _ w28 ⟨s4, rfl, o4, k4⟩ _ F28
  have H28 := F28.rd (EntsD s4 (stoV (stoV a y v) x u).m) o4.rdn (rdn_fp k4)
  refine ⟨_, _, _, _, _, _, _, rfl, H28.newg fun b24 w29 H29 => H29.locg fun w30 H30 => H30.callg (c_Select a sa x w30 (H30.getD 1) (by omega)) ?_⟩
  rintro _ w31 rfl H31
  have mz : ∀ w' : World, RdN 3 w' ⟨none, 0, 0⟩ (entsC (selV a x).m) := fun w' => by rw [selV_m]; exact RdN.nil 3 w'
  refine ⟨_, _, _, _, _, ⟨none, 0, 0⟩, _, rfl, H31.newg fun b26 w32 H32 => H32.locg fun w33 H33 => H33.callr (c_Store (stoV a x u) (selV a x) s1 ⟨none, 0, 0⟩ x w33 (H33.getD 6) (mz _) (by omega) (by rw [selV_m]; simp)) ?_⟩
  rintro _ w34 ⟨s5, rfl, o5, k5⟩ _ F34
  have H34 := F34.rd (EntsD s5 (stoV (stoV a x u) x (selV a x)).m) o5.rdn (rdn_fp k5)
  have n5 := sto_len (stoV a x u) (selV a x) x
  refine ⟨_, _, _, _, _, _, _, rfl, H34.newg fun b28 w35 H35 => ?_⟩
  refine sel_false (cmp_ne S1.1) (sel_false (cmp_ne S2.1) (sel_false (cmp_ne S3.1) (sel_false (cmp_ne S4.1) (sel_false (cmp_ne E1.1) (sel_false (cmp_ne S5.1) (H35.locg fun w36 H36 => H36.callg (c_Compare (stoV (stoV a x u) x (selV a x)) a (H36.getD 10) (H36.getD 1) (by omega)) ?_))))))
  rintro _ w37 rfl H37
  refine ⟨_, rfl, sel_false (cmp_ne (by rw [back_eq A ha hu bx, cmpV_self])) (H37.callg (c_Valid (stoV (stoV a x u) y v) s2 w37 (H37.getD 7) (by omega)) ?_)⟩
  rintro _ w38 rfl H38
  have last : ∀ {w' : World} {D : List En}, LH F0 w w' ([.g b11, .g b12, .g b16, .g b17, .g b18, .g b20, .g b22, .g b24, .g b26, .g b28]) ([EntsD sr a.m, EntsD sa a.m, EntsD su0 u.m, EntsD su u.m, EntsD sv0 v.m, EntsD sv v.m, EntsD s1 (stoV a x u).m] ++ D) →
      enthymemelaw06_ValueWrites.S3T b12 a.t.k a.t.n a.t.x (a.u : Int) (ba a.s) sa ((2 ^ s.x.toNat : Nat) : Int) (x : Int) b16 u.t.k u.t.n u.t.x (u.u : Int) (ba u.s) su b18 (stoV a x u).t.k (stoV a x u).t.n (stoV a x u).t.x ((stoV a x u).u : Int) (ba (stoV a x u).s) s1 w' (Done w) := fun H =>
    loop4 A ha hu x bx hx3 (by omega) sa su s1 b12 b16 b18 (2 ^ s.x.toNat) 0 _ (by omega) z3 (by
      have H' := H.forget [EntsD sa a.m, EntsD su u.m, EntsD s1 (stoV a x u).m] (by simp)
      exact H'.sieve [false, true, true, false, true])
  refine ⟨_, rfl, sel_false (cmp_ne S2.2.1.v) (sel_ne (fun hne => H38.callg (c_Compare (stoV (stoV a x u) y v) (stoV (stoV a y v) x u) (H38.getD 7) (H38.getD 9) (by omega)) ?_) (fun heq => sel_true (by rw [heq]; simp) (H38.callg (c_Compare (stoV (stoV a x u) y v) (stoV a y v) (H38.getD 7) (H38.getD 8) (by omega)) ?_)))⟩
  · rintro _ w39 rfl H39
    exact ⟨_, rfl, sel_false (cmp_ne (by rw [turn_eq A ha hu hv bx by' (by omega), cmpV_self])) (sel_false (by simpa using hne) (last H39))⟩
  · rintro _ w39 rfl H39
    have hxy : x = y := by omega
    subst hxy
    exact ⟨_, rfl, sel_false (cmp_ne (by rw [last_eq A ha hu hv bx, cmpV_self])) (last H39)⟩
end Wri1
end Go.Proofs.Ytjjhfdjpmonlaaa
