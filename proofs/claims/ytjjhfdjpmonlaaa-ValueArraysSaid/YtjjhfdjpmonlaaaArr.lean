/- ValueArrays: what the law does. -/
import Derived.Test.YtjjhfdjpmonlaaaK11
import Derived.Test.YtjjhfdjpmonlaaaVB
namespace Go.Proofs.Ytjjhfdjpmonlaaa
open Go Go.W
namespace Arr1

abbrev ixC (ix : List Nat) : List Value := ix.map fun x : Nat => .int .u64 (x : Int)
theorem ix_get {ix : List Nat} {k x : Nat} (h : ix[k]? = some x) : (ixC ix)[k]? = some (.int .u64 (x : Int)) := by simp [ixC, List.getElem?_map, h]
/-- what the loops read -/
abbrev DD (ra re ri : Sl) (va ve : List (Val × Sl)) (ix : List Nat) : List En := [ValsE ra va, ValsE re ve, .rd ri (ixC ix)]
section
variable {w w16 : World} {ra re ri : Sl} {va ve : List (Val × Sl)} {ix : List Nat}
abbrev Done (w : World) : Post := fun r w' => r = .returned (.bool true) ∧ Fr0 w w'
open enthymemelaw06_ValueArrays in
theorem loop5 (roa : ∀ p ∈ va, Ro 8 p.1) (roe : ∀ p ∈ ve, Ro 8 p.1) (ne : ve.length ≤ 1000) (i k x : Nat) (v : Val) (sv so : Sl) (hv : va[i]? = some (v, sv)) (hx : ix[k]? = some x) (na : va.length ≤ 1000) (nx : ix.length ≤ 1000) (b19 : Nat)
    (hk : ∀ w2, LH F0 w16 w2 [.g b19] (DD ra re ri va ve ix ++ [EntsD so v.m]) → L1T ra re ri (i : Int) b19 v.t.k v.t.n v.t.x (v.u : Int) (ba v.s) so ((k + 1 : Nat) : Int) w2 (Done w)) :
    ∀ (d j : Nat) (w1 : World), j + d = ve.length → LH F0 w16 w1 [.g b19] (DD ra re ri va ve ix ++ [EntsD so v.m]) → L5T ra re ri (i : Int) b19 v.t.k v.t.n v.t.x (v.u : Int) (ba v.s) so (k : Int) (j : Int) w1 (Done w) := by
  have rv : Ro 8 v := roa _ (List.mem_of_getElem? hv)
  have hm8 := rv.m
  have smv := rv.sm (by omega)
  have hlk := (List.getElem?_eq_some_iff.1 hx).1
  have hli := (List.getElem?_eq_some_iff.1 hv).1
  intro d
  induction d with
  | zero =>
    intro j w1 hj H
    have nr := vals_row (H.getD 1)
    refine L5T_step _ _ _ _ _ _ _ _ _ _ _ _ _ _ _ ?_
    refine sel_false (decide_eq_false (by omega)) ?_
    rw [i64_next _ (by omega)]
    exact hk _ H
  | succ d ih =>
    intro j w1 hj H
    have nr := vals_row (H.getD 1)
    have nra := vals_row (H.getD 0)
    have nri := (show Rd w1 ri (ixC ix) from H.getD 2).1
    have hxl : (ixC ix).length = ix.length := by simp [ixC]
    have hg : ve[j]? = some (ve[j]'(by omega)) := List.getElem?_eq_getElem (by omega)
    have hro := roe _ (List.mem_of_getElem? hg)
    generalize ve[j]'(by omega) = p at hg hro
    obtain ⟨e, se⟩ := p
    have hro : Ro 8 e := hro
    have hme := hro.m
    have sme := hro.sm (by omega)
    have ssm := stoV_sm smv (by omega) sme x
    have sln := sto_len v e x
    have next : ∀ {w2 : World} {L D : List En}, LH F0 w16 w2 ([.g b19] ++ L) (DD ra re ri va ve ix ++ [EntsD so v.m] ++ D) → L5T ra re ri (i : Int) b19 v.t.k v.t.n v.t.x (v.u : Int) (ba v.s) so (k : Int) (IntKind.wrap .i64 ((j : Int) + 1)) w2 (Done w) := fun H2 => by
      rw [i64_next _ (by omega)]
      exact ih (j + 1) _ (by omega) ((H2.take 1).forget _ (by simp))
    have s7 : ∀ (b26 b28 : Nat) (su sy : Sl) (w2 : World) (L : List En), LH F0 w16 w2 ([.g b19] ++ L) (DD ra re ri va ve ix ++ [EntsD so v.m, EntsD su (stoV v x e).m, EntsD sy (stoV v x e).m]) → En.g b26 ∈ L → En.g b28 ∈ L →
        S7T ra re ri (i : Int) b19 v.t.k v.t.n v.t.x (v.u : Int) (ba v.s) so (k : Int) (j : Int) b26 (stoV v x e).t.k (stoV v x e).t.n (stoV v x e).t.x ((stoV v x e).u : Int) (ba (stoV v x e).s) su (stoE v x e) b28 (stoV v x e).t.k (stoV v x e).t.n (stoV v x e).t.x ((stoV v x e).u : Int) (ba (stoV v x e).s) sy (stoE v x e) w2 (Done w) := by
      intro b26 b28 su sy w2 L H2 hb1 hb2
      have hbs : ∀ b ∈ [b19, b26, b28], En.g b ∈ [.g b19] ++ L := by
        simp only [List.mem_cons, List.not_mem_nil, or_false]
        rintro b (rfl | rfl | rfl)
        · simp
        · simp [hb1]
        · simp [hb2]
      refine sel_false (by simp) (H2.locg (fun w3 H3 => H3.callr (l_plain (stoV v x e) su w3 (H3.getD 4) (by omega)) ?_) hbs)
      rintro _ w4 ⟨sp, rfl, op, np⟩ _ F4
      have H4 := F4.rd (EntsD sp (stoV v x e).m) op.rdn (rdn_fp np)
      refine ⟨_, _, _, _, _, _, rfl, H4.callg (r_Same (stoV v x e) (stoV v x e) (H4.getD 6) (H4.getD 5) ssm) ?_⟩
      rintro _ w5 rfl H5
      exact ⟨_, rfl, sel_false (by rw [cmpV_self]; rfl) (next (D := [EntsD su (stoV v x e).m, EntsD sy (stoV v x e).m, EntsD sp (stoV v x e).m]) (by simpa using H5))⟩
    have s6 : ∀ (b26 : Nat) (su : Sl) (w2 : World) (D : List En), LH F0 w16 w2 [.g b19, .g b26] (DD ra re ri va ve ix ++ [EntsD so v.m, EntsD su (stoV v x e).m]) →
        S6T ra re ri (i : Int) b19 v.t.k v.t.n v.t.x (v.u : Int) (ba v.s) so (k : Int) (j : Int) b26 (stoV v x e).t.k (stoV v x e).t.n (stoV v x e).t.x ((stoV v x e).u : Int) (ba (stoV v x e).s) su (stoE v x e) w2 (Done w) := by
      intro b26 su w2 D H2
      refine ⟨by omega, by omega, ?_⟩
      simp only [Int.toNat_natCast, add0]
      refine val_at (H2.getD 0) hv fun p hp _ => H2.locg fun w3 H3 => ?_
      have c3 := vcells (H3.getD 0) hv hp
      have a3 := c3.c0
      rw [add0] at a3
      refine ⟨_, _, _, _, _, _, a3, c3.c1, c3.c2, c3.c3, c3.c4, c3.c5, by omega, by omega, ?_⟩
      refine (H3.getD 2 : Rd w3 ri (ixC ix)).get (ix_get hx) rfl fun q hq hqc => ⟨_, hqc, by omega, by omega, ?_⟩
      refine val_at (H3.getD 1) hg fun z hz cz => ?_
      have az := cz.c0
      rw [add0] at az
      refine ⟨_, _, _, _, _, _, az, cz.c1, cz.c2, cz.c3, cz.c4, cz.c5, ?_, H3.newg fun b28 w10 H10 => ?_⟩
      · refine H3.callr (r_Store v e sv se x w3 (val_ents (H3.getD 0) hv) (val_ents (H3.getD 1) hg) (by omega) (by omega)) ?_
        rintro _ w4 ⟨sy, rfl, oy, ny⟩ _ F4
        have H4 := F4.rd (EntsD sy (stoV v x e).m) oy.rdn (rdn_fp ny)
        exact ⟨_, _, _, _, _, _, _, rfl, H4.newg fun b28 w5 H5 => H5.locg fun w9 H9 => s7 b26 b28 su sy w9 [.g b26, .g b28] H9 (by simp) (by simp)⟩
      · have d1 := vcells (H10.getD 1) hg hz
        have d0 := vcells (H10.getD 0) hv hp
        have a1 := d1.c0
        have a0 := d0.c0
        rw [add0] at a1 a0
        refine ⟨a1, d1.c1, d1.c2, d1.c3, d1.c4, d1.c5, rdc (H10.getD 2) (ix_get hx) hq, a0, d0.c1, d0.c2, d0.c3, d0.c4, d0.c5, ?_⟩
        refine H10.callr (r_Store v e sv se x w10 (val_ents (H10.getD 0) hv) (val_ents (H10.getD 1) hg) (by omega) (by omega)) ?_
        rintro _ w4 ⟨sy, rfl, oy, ny⟩ _ F4
        have H4 := F4.rd (EntsD sy (stoV v x e).m) oy.rdn (rdn_fp ny)
        exact ⟨_, _, _, _, _, _, _, rfl, H4.locg fun w9 H9 => s7 b26 b28 su sy w9 [.g b26, .g b28] H9 (by simp) (by simp)⟩
    refine L5T_step _ _ _ _ _ _ _ _ _ _ _ _ _ _ _ ?_
    refine sel_true (decide_eq_true (by omega)) ⟨by omega, by omega, ?_⟩
    simp only [Int.toNat_natCast, add0]
    refine (H.getD 2 : Rd w1 ri (ixC ix)).get (ix_get hx) rfl fun q hq _ => H.locg fun w4 H4 => ⟨_, rdc (H4.getD 2) (ix_get hx) hq, by omega, by omega, ?_⟩
    refine val_at (H4.getD 1) hg fun z hz cz => ?_
    have az := cz.c0
    rw [add0] at az
    refine ⟨_, _, _, _, _, _, az, cz.c1, cz.c2, cz.c3, cz.c4, cz.c5, ?_, H4.newg fun b26 w22 H22 => ?_⟩
    · refine H4.callr (l_own e se w4 (val_ents (H4.getD 1) hg) (by omega)) ?_
      rintro _ w5 ⟨sn, rfl, on, nn⟩ _ F5
      have H5 := F5.rd (EntsD sn e.m) on.rdn (rdn_fp nn)
      refine ⟨_, _, _, _, _, _, rfl, rdc (H5.getD 2) (ix_get hx) hq, ?_, H5.newg fun b26 w14 H14 => ⟨rdc (H14.getD 2) (ix_get hx) hq, ?_⟩⟩
      · refine H5.callr (c_Store v e so sn x w5 (H5.getD 3) (H5.getD 4) (by omega) (by omega)) ?_
        rintro _ w6 ⟨su, rfl, ou, nu⟩ _ F6
        have H6 := F6.rd (EntsD su (stoV v x e).m) ou.rdn (rdn_fp nu)
        exact ⟨_, _, _, _, _, _, _, rfl, H6.newg fun b26 w7 H7 => H7.locg fun w13 H13 => s6 b26 su w13 [] (H13.forget _ (by simp))⟩
      · refine H14.callr (c_Store v e so sn x w14 (H14.getD 3) (H14.getD 4) (by omega) (by omega)) ?_
        rintro _ w6 ⟨su, rfl, ou, nu⟩ _ F6
        have H6 := F6.rd (EntsD su (stoV v x e).m) ou.rdn (rdn_fp nu)
        exact ⟨_, _, _, _, _, _, _, rfl, H6.locg fun w13 H13 => s6 b26 su w13 [] (H13.forget _ (by simp))⟩
    · have d1 := vcells (H22.getD 1) hg hz
      have a1 := d1.c0
      rw [add0] at a1
      refine ⟨a1, d1.c1, d1.c2, d1.c3, d1.c4, d1.c5, rdc (H22.getD 2) (ix_get hx) hq, ?_⟩
      refine H22.callr (l_own e se w22 (val_ents (H22.getD 1) hg) (by omega)) ?_
      rintro _ w23 ⟨sn, rfl, on, nn⟩ _ F5
      have H5 := F5.rd (EntsD sn e.m) on.rdn (rdn_fp nn)
      refine ⟨_, _, _, _, _, _, rfl, rdc (H5.getD 2) (ix_get hx) hq, ?_⟩
      refine H5.callr (c_Store v e so sn x w23 (H5.getD 3) (H5.getD 4) (by omega) (by omega)) ?_
      rintro _ w6 ⟨su, rfl, ou, nu⟩ _ F6
      have H6 := F6.rd (EntsD su (stoV v x e).m) ou.rdn (rdn_fp nu)
      exact ⟨_, _, _, _, _, _, _, rfl, H6.locg fun w13 H13 => s6 b26 su w13 [] (H13.forget _ (by simp))⟩
open enthymemelaw06_ValueArrays in
theorem loop9 (roa : ∀ p ∈ va, Ro 8 p.1) (na : va.length ≤ 1000) (i : Nat) (v : Val) (sv so : Sl) (hv : va[i]? = some (v, sv)) (b19 : Nat)
    (hk : ∀ w2, LH F0 w16 w2 [.g b19] (DD ra re ri va ve ix ++ [EntsD so v.m]) → L0T ra re ri ((i + 1 : Nat) : Int) w2 (Done w)) :
    ∀ (d k : Nat) (w1 : World), k + d = va.length → LH F0 w16 w1 [.g b19] (DD ra re ri va ve ix ++ [EntsD so v.m]) → L9T ra re ri (i : Int) b19 v.t.k v.t.n v.t.x (v.u : Int) (ba v.s) so (k : Int) w1 (Done w) := by
  have rv : Ro 8 v := roa _ (List.mem_of_getElem? hv)
  have hm8 := rv.m
  have smv := rv.sm (by omega)
  have hli := (List.getElem?_eq_some_iff.1 hv).1
  intro d
  induction d with
  | zero =>
    intro k w1 hj H
    have nr := vals_row (H.getD 0)
    refine L9T_step _ _ _ _ _ _ _ _ _ _ _ _ _ _ ?_
    refine sel_false (decide_eq_false (by omega)) ?_
    rw [i64_next _ (by omega)]
    exact hk _ H
  | succ d ih =>
    intro k w1 hj H
    have nra := vals_row (H.getD 0)
    have hg : va[k]? = some (va[k]'(by omega)) := List.getElem?_eq_getElem (by omega)
    have hro := roa _ (List.mem_of_getElem? hg)
    generalize va[k]'(by omega) = p at hg hro
    obtain ⟨e, se⟩ := p
    have hro : Ro 8 e := hro
    have hme := hro.m
    refine L9T_step _ _ _ _ _ _ _ _ _ _ _ _ _ _ ?_
    refine sel_true (decide_eq_true (by omega)) ⟨by omega, by omega, ?_⟩
    simp only [Int.toNat_natCast, add0]
    refine val_at (H.getD 0) hg fun z hz _ => H.locg fun w42 H42 => ?_
    have c := vcells (H42.getD 0) hg hz
    have a := c.c0
    rw [add0] at a
    refine ⟨_, _, _, _, _, _, a, c.c1, c.c2, c.c3, c.c4, c.c5, H42.callr (l_own e se w42 (val_ents (H42.getD 0) hg) (by omega)) ?_⟩
    rintro _ w43 ⟨sn, rfl, on, nn⟩ _ F43
    have H43 := F43.rd (EntsD sn e.m) on.rdn (rdn_fp nn)
    refine ⟨_, _, _, _, _, _, rfl, H43.callg (c_Diff v e so sn w43 (H43.getD 3) (H43.getD 4) (by omega) (by omega)) ?_⟩
    rintro _ w44 rfl H44
    refine ⟨_, _, rfl, by omega, by omega, ?_⟩
    refine val_at (H44.getD 0) hv fun p hp _ => H44.locg fun w45 H45 => ?_
    have c := vcells (H45.getD 0) hv hp
    have a := c.c0
    rw [add0] at a
    refine ⟨_, _, _, _, _, _, a, c.c1, c.c2, c.c3, c.c4, c.c5, by omega, by omega, ?_⟩
    refine val_at (H45.getD 0) hg fun z hz c => ?_
    have a := c.c0
    rw [add0] at a
    refine ⟨_, _, _, _, _, _, a, c.c1, c.c2, c.c3, c.c4, c.c5, H45.callg (r_Diff v e sv se w45 (val_ents (H45.getD 0) hv) (val_ents (H45.getD 0) hg) (by omega) (by omega) smv.e) ?_⟩
    rintro _ w46 rfl H46
    refine ⟨_, _, rfl, sel_false (by simp) (sel_false (by simp) ?_)⟩
    rw [i64_next _ (by omega)]
    exact ih (k + 1) _ (by omega) (H46.forget _ (by simp))
open enthymemelaw06_ValueArrays in
theorem loop1 (roa : ∀ p ∈ va, Ro 8 p.1) (roe : ∀ p ∈ ve, Ro 8 p.1) (na : va.length ≤ 1000) (ne : ve.length ≤ 1000) (nx : ix.length ≤ 1000) (i : Nat) (v : Val) (sv so : Sl) (hv : va[i]? = some (v, sv)) (b19 : Nat)
    (hk : ∀ w2, LH F0 w16 w2 [.g b19] (DD ra re ri va ve ix ++ [EntsD so v.m]) → L0T ra re ri ((i + 1 : Nat) : Int) w2 (Done w)) :
    ∀ (d k : Nat) (w1 : World), k + d = ix.length → LH F0 w16 w1 [.g b19] (DD ra re ri va ve ix ++ [EntsD so v.m]) → L1T ra re ri (i : Int) b19 v.t.k v.t.n v.t.x (v.u : Int) (ba v.s) so (k : Int) w1 (Done w) := by
  have rv : Ro 8 v := roa _ (List.mem_of_getElem? hv)
  have hm8 := rv.m
  have smv := rv.sm (by omega)
  have hli := (List.getElem?_eq_some_iff.1 hv).1
  have hxl : (ixC ix).length = ix.length := by simp [ixC]
  intro d
  induction d with
  | zero =>
    intro k w1 hj H
    have nri := (show Rd w1 ri (ixC ix) from H.getD 2).1
    refine L1T_step _ _ _ _ _ _ _ _ _ _ _ _ _ _ ?_
    refine sel_false (decide_eq_false (by omega)) ?_
    exact loop9 roa na i v sv so hv b19 hk va.length 0 w1 (by omega) H
  | succ d ih =>
    intro k w1 hj H
    have nra := vals_row (H.getD 0)
    have nri := (show Rd w1 ri (ixC ix) from H.getD 2).1
    have hx : ix[k]? = some (ix[k]'(by omega)) := List.getElem?_eq_getElem (by omega)
    generalize ix[k]'(by omega) = x at hx
    have z0 : ∀ w' : World, RdN 3 w' ⟨none, 0, 0⟩ (entsC (selV v x).m) := fun w' => by rw [selV_m]; exact RdN.nil 3 w'
    have s3 : ∀ (b21 b23 : Nat) (w2 : World), LH F0 w16 w2 [.g b19, .g b21, .g b23] (DD ra re ri va ve ix ++ [EntsD so v.m]) →
        S3T ra re ri (i : Int) b19 v.t.k v.t.n v.t.x (v.u : Int) (ba v.s) so (k : Int) b21 (selV v x).t.k (selV v x).t.n (selV v x).t.x ((selV v x).u : Int) (ba (selV v x).s) ⟨none, 0, 0⟩ (selE v x) b23 (selV v x).t.k (selV v x).t.n (selV v x).t.x ((selV v x).u : Int) (ba (selV v x).s) ⟨none, 0, 0⟩ (selE v x) w2 (Done w) := by
      intro b21 b23 w2 H2
      refine sel_false (by simp) (H2.locg fun w3 H3 => H3.callr (l_plain (selV v x) ⟨none, 0, 0⟩ w3 (z0 _) (by rw [selV_m]; simp)) ?_)
      rintro _ w4 ⟨sp, rfl, op, np⟩ _ F4
      have H4 := F4.rd (EntsD sp (selV v x).m) op.rdn (rdn_fp np)
      refine ⟨_, _, _, _, _, _, rfl, H4.callg (r_Same (selV v x) (selV v x) (H4.getD 4) (z0 _) (selV_sm smv x)) ?_⟩
      rintro _ w5 rfl H5
      refine ⟨_, rfl, sel_false (by rw [cmpV_self]; rfl) ?_⟩
      exact loop5 roa roe ne i k x v sv so hv hx na nx b19 (fun w2 H2 => ih (k + 1) w2 (by omega) H2) ve.length 0 w5 (by omega) ((H5.take 1).forget _ (by simp))
    have s2 : ∀ (b21 : Nat) (w2 : World), LH F0 w16 w2 [.g b19, .g b21] (DD ra re ri va ve ix ++ [EntsD so v.m]) →
        S2T ra re ri (i : Int) b19 v.t.k v.t.n v.t.x (v.u : Int) (ba v.s) so (k : Int) b21 (selV v x).t.k (selV v x).t.n (selV v x).t.x ((selV v x).u : Int) (ba (selV v x).s) ⟨none, 0, 0⟩ (selE v x) w2 (Done w) := by
      intro b21 w2 H2
      refine ⟨by omega, by omega, ?_⟩
      simp only [Int.toNat_natCast, add0]
      refine val_at (H2.getD 0) hv fun p hp _ => H2.locg fun w3 H3 => ?_
      have c3 := vcells (H3.getD 0) hv hp
      have a3 := c3.c0
      rw [add0] at a3
      refine ⟨_, _, _, _, _, _, a3, c3.c1, c3.c2, c3.c3, c3.c4, c3.c5, by omega, by omega, ?_⟩
      refine (H3.getD 2 : Rd w3 ri (ixC ix)).get (ix_get hx) rfl fun q hq hqc => ⟨_, hqc, ?_, H3.newg fun b23 w10 H10 => ?_⟩
      · refine H3.callg (r_Select v sv x w3 (val_ents (H3.getD 0) hv) (by omega)) ?_
        rintro _ w4 rfl H4
        exact ⟨_, _, _, _, _, ⟨none, 0, 0⟩, _, rfl, H4.newg fun b23 w5 H5 => H5.locg fun w9 H9 => s3 b21 b23 w9 H9⟩
      · have d0 := vcells (H10.getD 0) hv hp
        have a0 := d0.c0
        rw [add0] at a0
        refine ⟨rdc (H10.getD 2) (ix_get hx) hq, a0, d0.c1, d0.c2, d0.c3, d0.c4, d0.c5, H10.callg (r_Select v sv x w10 (val_ents (H10.getD 0) hv) (by omega)) ?_⟩
        rintro _ w4 rfl H4
        exact ⟨_, _, _, _, _, ⟨none, 0, 0⟩, _, rfl, H4.locg fun w9 H9 => s3 b21 b23 w9 H9⟩
    refine L1T_step _ _ _ _ _ _ _ _ _ _ _ _ _ _ ?_
    refine sel_true (decide_eq_true (by omega)) ⟨by omega, by omega, ?_⟩
    simp only [Int.toNat_natCast]
    refine (H.getD 2 : Rd w1 ri (ixC ix)).get (ix_get hx) rfl fun q hq _ => H.locg fun w4 H4 => ⟨_, rdc (H4.getD 2) (ix_get hx) hq, ?_, H4.newg fun b21 w10 H10 => ⟨rdc (H10.getD 2) (ix_get hx) hq, ?_⟩⟩
    · refine H4.callg (c_Select v so x w4 (H4.getD 3) (by omega)) ?_
      rintro _ w5 rfl H5
      exact ⟨_, _, _, _, _, ⟨none, 0, 0⟩, _, rfl, H5.newg fun b21 w6 H6 => H6.locg fun w7 H7 => s2 b21 w7 H7⟩
    · refine H10.callg (c_Select v so x w10 (H10.getD 3) (by omega)) ?_
      rintro _ w5 rfl H5
      exact ⟨_, _, _, _, _, ⟨none, 0, 0⟩, _, rfl, H5.locg fun w7 H7 => s2 b21 w7 H7⟩
open enthymemelaw06_ValueArrays in
theorem loop0 (f : Fr0 w w16) (roa : ∀ p ∈ va, Ro 8 p.1) (roe : ∀ p ∈ ve, Ro 8 p.1) (na : va.length ≤ 1000) (ne : ve.length ≤ 1000) (nx : ix.length ≤ 1000) :
    ∀ (d i : Nat) (w1 : World), i + d = va.length → LH F0 w16 w1 [] (DD ra re ri va ve ix) → L0T ra re ri (i : Int) w1 (Done w) := by
  intro d
  induction d with
  | zero =>
    intro i w1 hi H
    have nra := vals_row (H.getD 0)
    refine L0T_step _ _ _ _ _ _ ?_
    refine sel_false (decide_eq_false (by omega)) (H.call (l_lives w1) ?_)
    rintro _ w2 rfl H2
    exact ⟨_, rfl, rfl, f.tr0 H2.fr⟩
  | succ d ih =>
    intro i w1 hi H
    have nra := vals_row (H.getD 0)
    have hv : va[i]? = some (va[i]'(by omega)) := List.getElem?_eq_getElem (by omega)
    have rv := roa _ (List.mem_of_getElem? hv)
    generalize va[i]'(by omega) = p at hv rv
    obtain ⟨v, sv⟩ := p
    have rv : Ro 8 v := rv
    have hm8 := rv.m
    refine L0T_step _ _ _ _ _ _ ?_
    refine sel_true (decide_eq_true (by omega)) ⟨by omega, by omega, ?_⟩
    simp only [Int.toNat_natCast, add0]
    refine val_at (H.getD 0) hv fun p hp c => ?_
    have a := c.c0
    rw [add0] at a
    refine ⟨_, _, _, _, _, _, a, c.c1, c.c2, c.c3, c.c4, c.c5, H.callq (l_own v sv w1 (val_ents (H.getD 0) hv) (by omega)) ?_⟩
    rintro _ w2 ⟨so, rfl, oo, no⟩ _ F2
    have H2 := F2.rd (EntsD so v.m) oo.rdn (rdn_fp no)
    exact ⟨_, _, _, _, _, _, rfl, H2.newg fun b19 w3 H3 => H3.locg fun w4 H4 => loop1 roa roe na ne nx i v sv so hv b19 (fun w5 H5 => ih (i + 1) w5 (by omega) ((H5.take 0).forget _ (by simp))) ix.length 0 w4 (by omega) H4⟩
end
theorem walk (n : Int) (l m : Sl) (at' how by' index : Int) (w : World) (hn : I64 n) (hl : ArgNums w l) (hm : ArgNums w m) (h1 : I64 at') (h2 : I64 how) (h3 : I64 by') (hi : I64 index) :
    Calls Try.prog n_enthymemelaw06_ValueArrays #[.int .i64 n, l.v, m.v, .int .i64 at', .int .i64 how, .int .i64 by', .int .i64 index] w fun r w' => r = .returned (.bool true) ∧ Fr0 w w' := by
  obtain ⟨xs, hls, _, hx⟩ := hl
  obtain ⟨ys, hms, _, hy⟩ := hm
  refine enthymemelaw06_ValueArrays.okT _ _ _ _ _ _ _ w _ ((lh0 [] (by simp)).call (around0 n 262144 w (by omega) hn) ?_)
  rintro _ w1 ⟨k1, rfl, _⟩ H1
  refine ⟨_, rfl, H1.call (around0 at' 2 w1 (by omega) h1) ?_⟩
  rintro _ w2 ⟨k2, rfl, _⟩ H2
  refine ⟨_, rfl, (r_someO _ (wI _) l xs at' how by' h1 h2 h3 w2 (hls.fr0 H2.fr) hx).mono ?_⟩
  rintro _ w3 ⟨⟨s1, v1, four1, row1, rfl, o1, e1, n1, n1'⟩, f1⟩
  have H3 := H2.push2 (.row ty_enthymemeref06_Value 6 row1 (valsC v1)) (EntsA v1) f1 o1 e1 n1 n1'
  refine ⟨_, rfl, H3.call (around0 n 262144 w3 (by omega) hn) ?_⟩
  rintro _ w4 ⟨k3, rfl, _⟩ H4
  refine ⟨_, rfl, H4.call (around0 at' 2 w4 (by omega) h1) ?_⟩
  rintro _ w5 ⟨k4, rfl, _⟩ H5
  refine ⟨_, rfl, H5.callq (r_some _ (wI _) m ys how at' by' h2 h1 h3 w5 (hms.fr0 H5.fr) hy) ?_⟩
  rintro _ w6 ⟨s2, v2, four2, row2, rfl, r2, n2⟩ _ F6
  have H6 := F6.rd (ValsE row2 v2) r2 n2
  have l1 := four1.len
  have l2 := four2.len
  have A2 : (ValsE row2 v2).P w6 := H6.getD 1
  have R2 : RdN 6 w6 row2 (valsC v2) := A2 _ List.mem_cons_self
  refine ⟨_, rfl, H6.apk 0 el_rv (src := row2) (news := valsC v2) rfl R2.2.2 R2.1 (valsC_one _) ?_ fun ra w7 H7 _ _ _ => H7.dr fun w8 H8 => ?_⟩
  · have q1 := vals_n (H6.get 0 : OwnRow _ _ _ _ _).rdn
    have q2 := vals_row (H6.getD 1)
    omega
  have va_ok : ∀ p ∈ v1 ++ v2, Ro 8 p.1 := fun p hp => (List.mem_append.1 hp).elim (four1.ro p) (four2.ro p)
  have V : ∀ {w' : World} {L D : List En}, LH F0 w w' ([.row ty_enthymemeref06_Value 6 ra (valsC v1 ++ valsC v2)] ++ L) ([EntsA v1, ValsE row2 v2] ++ D) → (ValsE ra (v1 ++ v2)).P w' := fun H => valsE_of (by rw [valsC_app]; exact OwnRow.rdn (H.get 0)) (entsA_app (H.getD 0) fun e he => (show (ValsE row2 v2).P _ from H.getD 1) e (List.mem_cons_of_mem _ he))
  obtain ⟨p0, hp0, made⟩ := four1.fst
  have hg : (v1 ++ v2)[0]? = some p0 := by rw [List.getElem?_append_left (by omega)]; exact hp0
  obtain ⟨v0, sv0⟩ := p0
  have made : Made s1 v0 := made
  have nra := vals_row (V (L := []) (D := []) H8)
  have la : (v1 ++ v2).length = 8 := by simp [l1, l2]
  refine ⟨by omega, by omega, ?_⟩
  have c8 : ∀ {w' : World} {p : Addr}, ra.a = some p → VCells w' p 0 v0 sv0 → w'.cell? (((p.add (Int.toNat 0 * 6)).add 0).add 0) = some (.int .i64 v0.t.k) ∧ w'.cell? (((p.add (Int.toNat 0 * 6)).add 0).add 1) = some (.int .i64 v0.t.n) ∧ w'.cell? (((p.add (Int.toNat 0 * 6)).add 0).add 2) = some (.int .i64 v0.t.x) := fun hp c => by
    simp only [add0]
    exact ⟨by have := c.c0; rwa [add0] at this, c.c1, c.c2⟩
  refine val_at (V (L := []) (D := []) H8) hg fun p hp cc => ⟨_, _, _, (c8 hp cc).1, (c8 hp cc).2.1, (c8 hp cc).2.2, H8.call (around0 n 262144 w8 (by omega) hn) ?_⟩
  rintro _ w9 ⟨k5, rfl, _⟩ H9
  have d9 := c8 hp (vcells (V (L := []) (D := []) H9) hg hp)
  refine ⟨_, rfl, d9.1, d9.2.1, d9.2.2, H9.call (around0 at' 2 w9 (by omega) h1) ?_⟩
  rintro _ w10 ⟨k6, rfl, _⟩ H10
  have d10 := c8 hp (vcells (V (L := []) (D := []) H10) hg hp)
  refine ⟨_, rfl, d10.1, d10.2.1, d10.2.2, (r_someO _ (wI _) m ys at' how by' h1 h2 h3 w10 (hms.fr0 H10.fr) hy).mono ?_⟩
  rintro _ w11 ⟨⟨s3, v3, four3, row3, rfl, o3, e3, n3, n3'⟩, f3⟩
  have H11 := H10.push2 (.row ty_enthymemeref06_Value 6 row3 (valsC v3)) (EntsA v3) f3 o3 e3 n3 n3'
  have d11 := c8 hp (vcells (V (L := [.row ty_enthymemeref06_Value 6 row3 (valsC v3)]) (D := [EntsA v3]) H11) hg hp)
  refine ⟨_, rfl, d11.1, d11.2.1, d11.2.2, H11.call (r_Element v0.t w11) ?_⟩
  rintro _ w12 rfl H12
  have hs0 : validS (elemS v0.t) = true := elem_ok (by rw [made.t]; exact four1.ok)
  refine ⟨_, _, _, rfl, H12.callq (r_Of (elemS v0.t) hs0 m ys w12 (hms.fr0 H12.fr) hy) ?_⟩
  rintro _ w13 ⟨v5, made5, sv5, rfl, o5, n5⟩ _ F13
  have H13 := F13.rd (EntsD sv5 v5.m) o5.rdn (rdn_fp n5)
  have l3 := four3.len
  refine ⟨_, _, _, _, _, _, rfl, ?_⟩
  have H14 := H13.fr0 (Fr.alloc (fun _ => False) w13 (.cells (valsC [(v5, sv5), (⟨⟨1, 0, 0⟩, 0, [], []⟩, ⟨none, 0, 0⟩)]).toArray ty_enthymemeref06_Value))
  refine H14.apk 1 el_rv (src := ⟨some (at0 w13.heap.size), 2, 2⟩) (news := valsC [(v5, sv5), (⟨⟨1, 0, 0⟩, 0, [], []⟩, ⟨none, 0, 0⟩)]) rfl (Row.made w13 ty_enthymemeref06_Value 2 2 _).crow rfl (valsC_one _) ?_ fun re w15 H15 _ _ _ => ?_
  · have q1 := vals_n (H14.get 1 : OwnRow _ _ _ _ _).rdn
    show (row3.n + 2) * 72 ≤ _
    omega
  obtain ⟨u, hu⟩ : ∃ u : Nat, IntKind.wrap .u64 index = u := ⟨(IntKind.wrap .u64 index).toNat, by rw [IntKind.wrap_u64]; omega⟩
  rw [hu]
  refine H15.nwrow (e := ty_uint64) (sz := 1) (n := 7) (cs := ixC [0, 1, u, 3, 4, 65535, 65536]) rfl (by decide) fun w16 H16 => ?_
  have ve_ok : ∀ p ∈ v3 ++ [(v5, sv5), ((⟨⟨1, 0, 0⟩, 0, [], []⟩ : Val), (⟨none, 0, 0⟩ : Sl))], Ro 8 p.1 := fun p hp => by
    rcases List.mem_append.1 hp with hp | hp
    · exact four3.ro p hp
    · simp only [List.mem_cons, List.not_mem_nil, or_false] at hp
      rcases hp with rfl | rfl
      · exact (made5.ro hs0).mono (by omega)
      · exact ⟨by constructor <;> decide, by constructor <;> decide, by constructor <;> decide, by decide, Nat.zero_le _, Nat.zero_le _, fun e he => by cases he⟩
  have A : (ValsE ra (v1 ++ v2)).P w16 := V (L := [_, _]) (D := [_, _]) H16
  have B : (ValsE re (v3 ++ [(v5, sv5), (⟨⟨1, 0, 0⟩, 0, [], []⟩, ⟨none, 0, 0⟩)])).P w16 := valsE_of (by rw [valsC_app]; exact OwnRow.rdn (H16.get 1)) (entsA_app (H16.getD 2) fun e he => by
    simp only [List.map_cons, List.map_nil, List.mem_cons, List.not_mem_nil, or_false] at he
    rcases he with rfl | rfl
    · exact H16.getD 3
    · exact RdN.nil 3 _)
  have C : Rd w16 ⟨some (at0 w15.heap.size), 7, 7⟩ (ixC [0, 1, u, 3, 4, 65535, 65536]) := OwnRow.rd1 (H16.get 2)
  refine loop0 (ix := [0, 1, u, 3, 4, 65535, 65536]) H16.fr va_ok ve_ok (by omega) (by simp [l3]) (by simp) (v1 ++ v2).length 0 w16 (by omega) (lh0 _ ?_)
  intro e he
  simp only [List.mem_cons, List.not_mem_nil, or_false] at he
  rcases he with rfl | rfl | rfl
  · exact A
  · exact B
  · exact C
end Arr1
end Go.Proofs.Ytjjhfdjpmonlaaa
