/- ValueValid: what the law does. -/
import Derived.Test.YtjjhfdjpmonlaaaK9
import Derived.Test.YtjjhfdjpmonlaaaVA
namespace Go.Proofs.Ytjjhfdjpmonlaaa
open Go Go.W
namespace Val1

theorem cmpS_refl : ∀ l : List UInt8, cmpS l l = 0
  | [] => rfl
  | a :: l => by unfold cmpS; rw [(cmpI_zero _ _).2 rfl]; simp [cmpS_refl l]
theorem cmp_same (s : Srt) (u : Nat) (t : List UInt8) : cmpV ⟨s, u, t, []⟩ ⟨s, u, t, []⟩ = 0 := by
  have z : ∀ x : Int, cmpI x x = 0 := fun x => (cmpI_zero x x).2 rfl
  unfold cmpV headC
  simp [z, cmpS_refl, orI, cmpM]
theorem walk (n : Int) (l : Sl) (at' how by' : Int) (w : World) (hn : I64 n) (hl : ArgNums w l) (h1 : I64 at') (h2 : I64 how) (h3 : I64 by') :
    Calls Try.prog n_enthymemelaw06_ValueValid #[.int .i64 n, l.v, .int .i64 at', .int .i64 how, .int .i64 by'] w fun r w' => r = .returned (.bool true) ∧ Fr0 w w' := by
  obtain ⟨xs, hls, _, hx⟩ := hl
  refine enthymemelaw06_ValueValid.okT _ _ _ _ _ w _ ((lh0 [] (by simp)).callq (r_some n hn l xs at' how by' h1 h2 h3 w hls hx) ?_)
  rintro _ w1 ⟨s, vs, four, row, rfl, hrow, nrow⟩ _ F1
  have H1 := F1.rd (ValsE row vs) hrow nrow
  have z0 : ∀ w' : World, RdN 3 w' ⟨none, 0, 0⟩ (entsC []) := fun w' => RdN.nil 3 w'
  refine ⟨row, rfl, ?_⟩
  have loop : ∀ (d i : Nat) (w1 : World), i + d = 4 → LH F0 w w1 [] [ValsE row vs] → enthymemelaw06_ValueValid.L0T row (i : Int) w1 fun r w' => r = .returned (.bool true) ∧ Fr0 w w' := by
    intro d
    induction d with
    | zero =>
      intro i w1 hi H
      have nr := vals_row (H.getD 0)
      have := four.len
      refine enthymemelaw06_ValueValid.L0T_step _ _ _ _ (sel_false (decide_eq_false (by omega)) (H.call (l_lives w1) ?_))
      rintro _ w2 rfl H2
      exact ⟨_, rfl, rfl, H2.fr⟩
    | succ d ih =>
      intro i w1 hi H
      have nr := vals_row (H.getD 0)
      have hlen := four.len
      have hg : vs[i]? = some (vs[i]'(by omega)) := List.getElem?_eq_getElem (by omega)
      have hro := four.ro _ (List.mem_of_getElem? hg)
      generalize vs[i]'(by omega) = p at hg hro
      obtain ⟨v, sv⟩ := p
      have hm : v.m.length ≤ 1000000 := by have := hro.m; simp only at this; omega
      have next : ∀ {w2 : World} {L D : List En}, LH F0 w w2 L ([ValsE row vs] ++ D) → enthymemelaw06_ValueValid.S3T row (i : Int) w2 fun r w' => r = .returned (.bool true) ∧ Fr0 w w' := fun H2 => by
        show enthymemelaw06_ValueValid.L0T _ (IntKind.wrap .i64 ((i : Int) + 1)) _ _
        rw [i64_next _ (by omega)]
        exact ih (i + 1) _ (by omega) ((H2.take 0).forget _ (by simp))
      refine enthymemelaw06_ValueValid.L0T_step _ _ _ _ (sel_true (decide_eq_true (by omega)) ⟨by omega, by omega, ?_⟩)
      simp only [Int.toNat_natCast, add0]
      refine val_at (H.getD 0) hg fun p hp hc => ⟨_, _, _, by have := hc.c0; rwa [add0] at this, hc.c1, hc.c2, H.newg fun b13 w2 H2 => H2.locg fun w5 H5 => H5.callg (r_ValidSort v.t w5) ?_⟩
      rintro _ w6 rfl H6
      refine ⟨_, rfl, H6.callg (c_Zero v.t w6) ?_⟩
      rintro _ w7 rfl H7
      refine ⟨_, _, _, _, _, ⟨none, 0, 0⟩, _, rfl, H7.newg fun b15 w8 H8 => H8.locg fun w15 H15 => H15.callg (c_ValidSort v.t w15) ?_⟩
      rintro _ w16 rfl H16
      have c16 := vcells (H16.getD 0) hg hp
      refine ⟨_, rfl, sel_false (by simp) (sel_false (by simp) ⟨by omega, by omega, ?_⟩)⟩
      rw [hp]
      have a16 := c16.c0
      rw [add0] at a16
      refine ⟨_, _, _, _, _, _, a16, c16.c1, c16.c2, c16.c3, c16.c4, c16.c5, by omega, by omega, ?_⟩
      refine ⟨_, _, _, _, _, _, a16, c16.c1, c16.c2, c16.c3, c16.c4, c16.c5, H16.callr (l_own v sv w16 (val_ents (H16.getD 0) hg) hm) ?_⟩
      rintro _ w17 ⟨so, rfl, oo, no⟩ _ F17
      have H17 := F17.rd (EntsD so v.m) oo.rdn (rdn_fp no)
      have c17 := vcells (H17.getD 0) hg hp
      have a17 := c17.c0
      rw [add0] at a17
      refine ⟨_, _, _, _, _, _, rfl, a17, c17.c1, c17.c2, c17.c3, c17.c4, c17.c5, H17.callg (c_Valid v so w17 (H17.getD 1) hm) ?_⟩
      rintro _ w18 rfl H18
      have c18 := vcells (H18.getD 0) hg hp
      have a18 := c18.c0
      rw [add0] at a18
      refine ⟨_, rfl, a18, c18.c1, c18.c2, c18.c3, c18.c4, c18.c5, H18.callg (r_Valid v sv w18 (val_ents (H18.getD 0) hg) hm) ?_⟩
      rintro _ w19 rfl H19
      refine ⟨_, rfl, sel_false (by simp) ?_⟩
      have sm : ∀ s : Srt, Sm ⟨s, 0, [], []⟩ := fun s => ⟨by simp, by simp, by simp⟩
      by_cases hv : validS v.t = true
      · have e0 : sortE v.t = 0 := by unfold sortE; rw [if_pos hv]
        rw [if_pos hv, e0]
        refine sel_true rfl (H19.locg fun w20 H20 => H20.callr (l_plain ⟨v.t, 0, [], []⟩ ⟨none, 0, 0⟩ w20 (z0 _) (by simp)) ?_)
        rintro _ w21 ⟨sp, rfl, op, np⟩ _ F21
        have H21 := F21.rd (EntsD sp []) op.rdn (rdn_fp np)
        refine ⟨_, _, _, _, _, _, rfl, H21.callg (r_Zero v.t w21) ?_⟩
        rintro _ w22 rfl H22
        refine ⟨_, _, _, _, _, ⟨none, 0, 0⟩, rfl, H22.callg (r_Same ⟨v.t, 0, [], []⟩ ⟨v.t, 0, [], []⟩ (H22.getD 2) (z0 _) (sm _)) ?_⟩
        rintro _ w23 rfl H23
        refine ⟨_, rfl, sel_false (by rw [cmp_same]; rfl) (sel_false rfl (next H23))⟩
      · have e0 : sortE v.t = 9 := by unfold sortE; rw [if_neg hv]
        rw [if_neg hv, e0]
        refine sel_false rfl (sel_true rfl (H19.locg fun w20 H20 => H20.callr (l_plain noVal ⟨none, 0, 0⟩ w20 (z0 _) (by simp [noVal])) ?_))
        rintro _ w21 ⟨sp, rfl, op, np⟩ _ F21
        have H21 := F21.rd (EntsD sp []) op.rdn (rdn_fp np)
        refine ⟨_, _, _, _, _, _, rfl, H21.callg (r_Same (sa := sp) (sb := ⟨none, 0, 0⟩) noVal noVal (H21.getD 2) (z0 _) (sm _)) ?_⟩
        rintro _ w23 rfl H23
        refine ⟨_, rfl, sel_false (by unfold noVal; rw [cmp_same]; rfl) (next H23)⟩
  exact loop 4 0 w1 rfl H1
end Val1
end Go.Proofs.Ytjjhfdjpmonlaaa
