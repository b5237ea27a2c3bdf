/- ValueExtensional: what the law does, for arguments that are not too large to be joined. -/
import Derived.Test.YtjjhfdjpmonlaaaK12
import Derived.Test.YtjjhfdjpmonlaaaP4
import Derived.Test.YtjjhfdjpmonlaaaVD
namespace Go.Proofs.Ytjjhfdjpmonlaaa
open Go Go.W
namespace Ext1

abbrev Done (w : World) : Post := fun r w' => r = .returned (.bool true) ∧ Fr0 w w'
theorem el_int : ElemOk Try.prog ty_sl_int ty_int (.int .i64 0) 1 8 := ⟨by kernel_rfl, by kernel_rfl, rfl, by decide, by decide⟩
section
variable {w : World} {s : Srt} {a : Val} {sr sa row : Sl} {vs : List (Val × Sl)} {b7 b8 : Nat}
open enthymemelaw06_ValueExtensional in
theorem loop3 (ha : arrS s = true) (A : VA s a) (hx1 : 1 ≤ s.x) (hx3 : s.x ≤ 3) (hal : a.m.length ≤ 1000) (r : Val) (hrx : r.t.x = s.x) (k : Nat) (b : Val) (B : VA s b) (hbl : b.m.length ≤ 1000) (sb : Sl) (b11 : Nat) (hnext : ∀ w2, LH F0 w w2 [.g b7, .g b8, .g b11] [ValsE row vs, EntsD sa a.m, EntsD sb b.m] → L1T b7 r.t.k r.t.n r.t.x (r.u : Int) (ba r.s) sr b8 a.t.k a.t.n a.t.x (a.u : Int) (ba a.s) sa row (IntKind.wrap .i64 ((k : Int) + 1)) w2 (Done w)) :
    ∀ (d z : Nat) (w1 : World), z + d = 2 ^ s.x.toNat → LH F0 w w1 [.g b7, .g b8, .g b11] [ValsE row vs, EntsD sa a.m, EntsD sb b.m] →
    L3T b7 r.t.k r.t.n r.t.x (r.u : Int) (ba r.s) sr b8 a.t.k a.t.n a.t.x (a.u : Int) (ba a.s) sa row (k : Int) b11 b.t.k b.t.n b.t.x (b.u : Int) (ba b.s) sb ((difV a b : Nat) : Int) (eqU a.m b.m z) (z : Int) w1 (Done w) := by
  obtain ⟨z1, z2, z3, z4⟩ := size_of hx1 hx3
  have z2r : IntKind.wrap .i64 (1 * 2 ^ (min (Int.toNat (IntKind.wrap .u64 r.t.x)) (IntKind.bits .i64))) = ((2 ^ s.x.toNat : Nat) : Int) := by rw [hrx]; exact z2
  obtain ⟨he, D⟩ := dif_of ha (by omega) A B
  have mz : ∀ (v : Val) (x : Nat) (w' : World), RdN 3 w' ⟨none, 0, 0⟩ (entsC (selV v x).m) := fun v x w' => by rw [selV_m]; exact RdN.nil 3 w'
  have hd8 := D.lt
  intro d
  induction d with
  | zero =>
    intro z w1 hz H
    refine L3T_step _ _ _ _ _ _ _ _ _ _ _ _ _ _ _ _ _ _ _ _ _ _ _ _ _ _ _ _ ⟨by rw [hrx]; exact z1, ?_⟩
    rw [z2r]
    refine sel_false (decide_eq_false (by omega)) (H.callg (c_Compare a b (H.getD 1) (H.getD 2) (by omega)) ?_)
    rintro _ w2 rfl H2
    have hz' : z = 2 ^ s.x.toNat := by omega
    refine ⟨_, rfl, sel_false ?_ (hnext _ H2)⟩
    rw [hz', D.all, cmpV_eqb]; simp
  | succ d ih =>
    intro z w1 hz H
    have hzb : bel z s.x = true := by
      unfold bel
      simp only [Bool.or_eq_true, decide_eq_true_eq]
      right; omega
    have e1 := (sel_ok A ha hzb).1
    have e2 := (sel_ok B ha hzb).1
    have hss := sel_same ha A B hzb
    refine L3T_step _ _ _ _ _ _ _ _ _ _ _ _ _ _ _ _ _ _ _ _ _ _ _ _ _ _ _ _ ⟨by rw [hrx]; exact z1, ?_⟩
    rw [z2r, u64_nat z (by omega)]
    refine sel_true (decide_eq_true (by omega)) (H.callg (c_Select a sa z w1 (H.getD 1) (by omega)) ?_)
    rintro _ w2 rfl H2
    refine ⟨_, _, _, _, _, ⟨none, 0, 0⟩, _, rfl, H2.newg fun b16 w3 H3 => H3.locg fun w4 H4 => H4.callg (c_Select b sb z w4 (H4.getD 2) (by omega)) ?_⟩
    rintro _ w5 rfl H5
    refine ⟨_, _, _, _, _, ⟨none, 0, 0⟩, _, rfl, H5.newg fun b18 w6 H6 => H6.locg fun w7 H7 => H7.callg (c_Compare (selV a z) (selV b z) (mz _ _ _) (mz _ _ _) (by rw [selV_m]; simp)) ?_⟩
    rintro _ w8 rfl H8
    have s7 : ∀ (w9 : World) (c : Bool), c = eqU a.m b.m (z + 1) → LH F0 w w9 ([.g b7, .g b8, .g b11] ++ [.g b16, .g b18]) [ValsE row vs, EntsD sa a.m, EntsD sb b.m] → S7T b7 r.t.k r.t.n r.t.x (r.u : Int) (ba r.s) sr b8 a.t.k a.t.n a.t.x (a.u : Int) (ba a.s) sa row (k : Int) b11 b.t.k b.t.n b.t.x (b.u : Int) (ba b.s) sb ((difV a b : Nat) : Int) c (z : Int) w9 (Done w) := by
      intro w9 c hc H9
      subst hc
      show L3T _ _ _ _ _ _ _ _ _ _ _ _ _ _ _ _ _ _ _ _ _ _ _ _ _ (IntKind.wrap .i64 ((z : Int) + 1)) _ _
      rw [i64_next _ (by omega)]
      exact ih (z + 1) w9 (by omega) (H9.take 3)
    have s6 : ∀ (w9 : World), LH F0 w w9 ([.g b7, .g b8, .g b11] ++ [.g b16, .g b18]) [ValsE row vs, EntsD sa a.m, EntsD sb b.m] → S6T b7 r.t.k r.t.n r.t.x (r.u : Int) (ba r.s) sr b8 a.t.k a.t.n a.t.x (a.u : Int) (ba a.s) sa row (k : Int) b11 b.t.k b.t.n b.t.x (b.u : Int) (ba b.s) sb ((difV a b : Nat) : Int) (eqU a.m b.m z) (z : Int) (cmpV (selV a z) (selV b z) == 0) w9 (Done w) := by
      intro w9 H9
      refine sel_intro (fun h => s7 w9 _ ?_ H9) (fun h => s7 w9 _ ?_ H9)
      · rw [hss]; unfold eqU; rw [h]; rfl
      · conv => rhs; unfold eqU
        rw [h]; rfl
    have s5 : S5T b7 r.t.k r.t.n r.t.x (r.u : Int) (ba r.s) sr b8 a.t.k a.t.n a.t.x (a.u : Int) (ba a.s) sa row (k : Int) b11 b.t.k b.t.n b.t.x (b.u : Int) (ba b.s) sb ((difV a b : Nat) : Int) (eqU a.m b.m z) (z : Int) (cmpV (selV a z) (selV b z) == 0) w8 (Done w) := by
      unfold S5T
      rw [u64_nat z (by omega)]
      refine sel_eq (fun hzd => H8.callg (c_Compare a b (H8.getD 1) (H8.getD 2) (by omega)) ?_) (fun _ => s6 w8 H8)
      rintro _ w9 rfl H9
      refine ⟨_, rfl, sel_false ?_ (s6 w9 H9)⟩
      have hzd' : difV a b = z := by omega
      have := D.at'
      rw [hzd'] at this
      rw [hss, cmpV_eqb]
      by_cases hab : a = b
      · rw [decide_eq_true hab, this.2 hab]; simp
      · have hne : selM a.m z ≠ selM b.m z := fun h => hab (this.1 h)
        rw [decide_eq_false hab, beq_false_of_ne hne]; simp
    refine ⟨_, rfl, sel_false (cmp_ne e1) (sel_false (cmp_ne e2) (sel_dec (fun hlt => sel_false ?_ s5) (fun _ => s5)))⟩
    rw [hss, D.low z (by omega)]; simp
open enthymemelaw06_ValueExtensional in
theorem loop1 (ha : arrS s = true) (A : VA s a) (hx1 : 1 ≤ s.x) (hx3 : s.x ≤ 3) (hal : a.m.length ≤ 1000) (r : Val) (hrx : r.t.x = s.x) (hvs : ∀ p ∈ vs, VA s p.1 ∧ p.1.m.length ≤ 1000) (hn : vs.length ≤ 1000) :
    ∀ (d k : Nat) (w1 : World), k + d = vs.length → LH F0 w w1 [.g b7, .g b8] [ValsE row vs, EntsD sa a.m] →
    L1T b7 r.t.k r.t.n r.t.x (r.u : Int) (ba r.s) sr b8 a.t.k a.t.n a.t.x (a.u : Int) (ba a.s) sa row (k : Int) w1 (Done w) := by
  obtain ⟨z1, z2, z3, z4⟩ := size_of hx1 hx3
  have z2u : IntKind.wrap .u64 (1 * 2 ^ (min (Int.toNat (IntKind.wrap .u64 r.t.x)) (IntKind.bits .u64))) = ((2 ^ s.x.toNat : Nat) : Int) := by
    rw [hrx]
    have : s.x = 1 ∨ s.x = 2 ∨ s.x = 3 := by omega
    rcases this with h | h | h <;> (rw [h]; decide)
  intro d
  induction d with
  | zero =>
    intro k w1 hk H
    have nra := vals_row (H.getD 0)
    refine L1T_step _ _ _ _ _ _ _ _ _ _ _ _ _ _ _ _ _ _ (sel_false (decide_eq_false (by omega)) (H.callg (l_lives w1) ?_))
    rintro _ w2 rfl H2
    exact ⟨_, rfl, rfl, H2.fr⟩
  | succ d ih =>
    intro k w1 hk H
    have nra := vals_row (H.getD 0)
    have hg : vs[k]? = some (vs[k]'(by omega)) := List.getElem?_eq_getElem (by omega)
    have hb := hvs _ (List.mem_of_getElem? hg)
    generalize vs[k]'(by omega) = p at hg hb
    obtain ⟨b, sb⟩ := p
    have B : VA s b := hb.1
    have hbl : b.m.length ≤ 1000 := hb.2
    refine L1T_step _ _ _ _ _ _ _ _ _ _ _ _ _ _ _ _ _ _ (sel_true (decide_eq_true (by omega)) ⟨by omega, by omega, ?_⟩)
    simp only [Int.toNat_natCast, add0]
    refine val_at (H.getD 0) hg fun p hp c => ?_
    have a0 := c.c0
    rw [add0] at a0
    have H' := H.addD (EntsD sb b.m) (Fr.refl _ _) (val_ents (H.getD 0) hg) (fun q hq => .inr (.inr ⟨ValsE row vs, by simp, mem_nub.2 (List.mem_flatMap.2 ⟨EntsD sb b.m, List.mem_cons_of_mem _ (List.mem_map.2 ⟨(b, sb), List.mem_of_getElem? hg, rfl⟩), hq⟩)⟩))
    refine ⟨_, _, _, _, _, _, a0, c.c1, c.c2, c.c3, c.c4, c.c5, H'.newg fun b11 w2 H2 => H2.locg fun w3 H3 => H3.callg (c_Diff a b sa sb w3 (H3.getD 1) (H3.getD 2) (by omega) (by omega)) ?_⟩
    rintro _ w4 rfl H4
    obtain ⟨he, D⟩ := dif_of ha (by omega) A B
    have := D.lt
    refine ⟨_, _, rfl, sel_false (cmp_ne he) ⟨by rw [hrx]; exact z1, ?_⟩⟩
    rw [z2u]
    refine sel_false (decide_eq_false (by omega)) ?_
    have key := loop3 (w := w) (b7 := b7) (b8 := b8) (sr := sr) (sa := sa) (row := row) (vs := vs) ha A hx1 hx3 hal r hrx k b B hbl sb b11 (fun w5 H5 => by
      rw [i64_next _ (by omega)]
      exact ih (k + 1) w5 (by omega) ((H5.take 2).forget _ (by simp))) (2 ^ s.x.toNat) 0 w4 (by omega) H4
    exact key
end
theorem fin {w : World} {s : Srt} {a : Val} {sr sa : Sl} (hs : validS s = true) (ha : arrS s = true) (hx1 : 1 ≤ s.x) (hx3 : s.x ≤ 3) (made : Made s a) {b7 b8 : Nat} {w' : World} {L D : List En} (b c : Val) (sb sc : Sl) (hb : Made a.t b) (hc : Made a.t c) (H : LH F0 w w' ([.g b7, .g b8] ++ L) ([EntsD sr a.m, EntsD sa a.m] ++ D)) (hsb : EntsD sb b.m ∈ D) (hsc : EntsD sc c.m ∈ D) :
      nwV w' (.cells #[.int .i64 b.t.k, .int .i64 b.t.n, .int .i64 b.t.x, .int .u64 (b.u : Int), .string (ba b.s), sb.v, .int .i64 a.t.k, .int .i64 a.t.n, .int .i64 a.t.x, .int .u64 (a.u : Int), .string (ba a.s), sa.v, .int .i64 c.t.k, .int .i64 c.t.n, .int .i64 c.t.x, .int .u64 (c.u : Int), .string (ba c.s), sc.v] ty_value_Value) fun w25 =>
        enthymemelaw06_ValueExtensional.S0T b7 a.t.k a.t.n a.t.x (a.u : Int) (ba a.s) sr b8 a.t.k a.t.n a.t.x (a.u : Int) (ba a.s) sa ⟨some (Addr.mk w'.heap.size 0 none), 3, 3⟩ w25 (Done w) := by
    have A := made_va hs made
    have m5 := made.m5
    have hs' : validS a.t = true := by rw [made.t]; exact hs
    refine (H.take 2).nwrow (e := ty_value_Value) (sz := 6) (n := 3) (cs := valsC [(b, sb), (a, sa), (c, sc)]) rfl (by decide) fun w5 H5 => ?_
    have E : (ValsE ⟨some (at0 w'.heap.size), 3, 3⟩ [(b, sb), (a, sa), (c, sc)]).P w5 := valsE_of (OwnRow.rdn (H5.get 2)) fun e he => by
      simp only [List.map_cons, List.map_nil, List.mem_cons, List.not_mem_nil, or_false] at he
      rcases he with rfl | rfl | rfl
      · exact H5.rd _ (by simp [hsb])
      · exact H5.getD 1
      · exact H5.rd _ (by simp [hsc])
    have vb : ∀ {u : Val}, Made a.t u → VA s u ∧ u.m.length ≤ 1000 := fun {u} hu => ⟨⟨by rw [hu.t, made.t], (made_va hs' hu).v⟩, by have := hu.m5; omega⟩
    have H6 := H5.freeze 2 (.rdn 6 ⟨some (at0 w'.heap.size), 3, 3⟩ (valsC [(b, sb), (a, sa), (c, sc)])) rfl (OwnRow.rdn (H5.get 2)) (fun q hq => by
      have : q ∈ (if valsC [(b, sb), (a, sa), (c, sc)] = [] then [] else blkL ⟨some (at0 w'.heap.size), 3, 3⟩) := hq
      split at this
      · cases this
      · exact this)
    have H7 := H6.addD (ValsE ⟨some (at0 w'.heap.size), 3, 3⟩ [(b, sb), (a, sa), (c, sc)]) (Fr.refl _ _) E (fun q hq => .inr (.inr (by
      obtain ⟨e, he, hqe⟩ := List.mem_flatMap.1 (mem_nub.1 hq)
      simp only [List.map_cons, List.map_nil, List.mem_cons, List.not_mem_nil, or_false] at he
      refine ⟨e, ?_, hqe⟩
      rcases he with rfl | rfl | rfl | rfl
      · simp
      · simp [hsb]
      · simp
      · simp [hsc])))
    exact loop1 (s := s) (a := a) (sr := sr) (sa := sa) (row := ⟨some (at0 w'.heap.size), 3, 3⟩) (vs := [(b, sb), (a, sa), (c, sc)]) (b7 := b7) (b8 := b8) ha A hx1 hx3 (by omega) a (by rw [made.t]) (fun p hp => by
      simp only [List.mem_cons, List.not_mem_nil, or_false] at hp
      rcases hp with rfl | rfl | rfl
      · exact vb hb
      · exact ⟨A, by show a.m.length ≤ 1000; omega⟩
      · exact vb hc) (by simp) 3 0 w5 rfl (H7.forget _ (by simp))
theorem one (zs : List Int) : ∀ u ∈ (zs.map fun n : Int => Value.int .i64 n), u.oneCell' = true := fun u hu => by
  obtain ⟨x, _, rfl⟩ := List.mem_map.1 hu
  rfl
theorem rdn_of {w : World} {l : Sl} {xs : List Int} (h : Nums w l xs) : RdN 1 w l (xs.map fun n : Int => Value.int .i64 n) := ⟨by have := h.1; simp at this ⊢; omega, h.2.1, h.2.2⟩
/-- both lists joined, and the third value -/
theorem rest {w : World} {s : Srt} {a : Val} {sr sa l m : Sl} {xs ys : List Int} (hs : validS s = true) (ha : arrS s = true) (hx1 : 1 ≤ s.x) (hx3 : s.x ≤ 3) (made : Made s a) (hls : Nums w l xs) (hms : Nums w m ys) (hx : ∀ x ∈ xs, I64 x) (hy : ∀ x ∈ ys, I64 x) (bl : l.n ≤ 1048576) (bm : m.n ≤ 1048576)
    {b7 b8 : Nat} {w9 : World} (b : Val) (sb sb0 s0 : Sl) (hb : Made a.t b) (H9 : LH F0 w w9 [.g b7, .g b8, .row ty_int 1 s0 []] [EntsD sr a.m, EntsD sa a.m, EntsD sb0 b.m, EntsD sb b.m]) (n0 : s0.n = 0) :
    ∃ (t36 : Sl) (w21 : World), (Builtin.append_ #[ty_sl_int, ty_sl_int] ty_sl_int #[s0.v, l.v]).run Try.prog w9 = .ok (t36.v) w21 ∧ kept [b7, b8] w9 w21 ∧ ∃ (t38 : Sl) (w22 : World), (Builtin.append_ #[ty_sl_int, ty_sl_int] ty_sl_int #[t36.v, m.v]).run Try.prog w21 = .ok (t38.v) w22 ∧ kept [b7, b8] w21 w22 ∧ callF [b7, b8] Try.prog n_enthymemeref06_Of #[.agg #[.int .i64 a.t.k, .int .i64 a.t.n, .int .i64 a.t.x], t38.v] w22 fun r_ w23 => ∃ t39_0 : Int, ∃ t39_1 : Int, ∃ t39_2 : Int, ∃ t39_3 : Int, ∃ t39_4 : ByteArray, ∃ t39_5 : Sl, r_ = .returned (.agg #[.int .i64 t39_0, .int .i64 t39_1, .int .i64 t39_2, .int .u64 t39_3, .string t39_4, t39_5.v]) ∧
      callF [b7, b8] Try.prog n_enthymemelaw06_own #[.agg #[.int .i64 t39_0, .int .i64 t39_1, .int .i64 t39_2, .int .u64 t39_3, .string t39_4, t39_5.v]] w23 fun r_ w24 => ∃ t40_0 : Int, ∃ t40_1 : Int, ∃ t40_2 : Int, ∃ t40_3 : Int, ∃ t40_4 : ByteArray, ∃ t40_5 : Sl, r_ = .returned (.agg #[.int .i64 t40_0, .int .i64 t40_1, .int .i64 t40_2, .int .u64 t40_3, .string t40_4, t40_5.v]) ∧
      nwV w24 (.cells #[.int .i64 b.t.k, .int .i64 b.t.n, .int .i64 b.t.x, .int .u64 (b.u : Int), .string (ba b.s), sb.v, .int .i64 a.t.k, .int .i64 a.t.n, .int .i64 a.t.x, .int .u64 (a.u : Int), .string (ba a.s), sa.v, .int .i64 t40_0, .int .i64 t40_1, .int .i64 t40_2, .int .u64 t40_3, .string t40_4, t40_5.v] ty_value_Value) fun w25 =>
        enthymemelaw06_ValueExtensional.S0T b7 a.t.k a.t.n a.t.x (a.u : Int) (ba a.s) sr b8 a.t.k a.t.n a.t.x (a.u : Int) (ba a.s) sa ⟨some (Addr.mk w24.heap.size 0 none), 3, 3⟩ w25 (Done w) := by
  have hs' : validS a.t = true := by rw [made.t]; exact hs
  refine H9.apT 2 el_int (src := l) rfl ((rdn_of hls).fr0 H9.fr) (one _) (by show (s0.n + l.n) * 8 ≤ _; omega) fun s1 w10 H10 => ?_
  have n1 := (H10.get 2 : OwnRow _ _ _ _ _).len
  have nl := Nums.len hls
  simp at n1
  refine H10.apT 2 el_int (src := m) rfl ((rdn_of hms).fr0 H10.fr) (one _) (by show (s1.n + m.n) * 8 ≤ _; omega) fun s2 w11 H11 => ?_
  have N2 : Nums w11 s2 (xs ++ ys) := by
    have := (H11.get 2 : OwnRow _ _ _ _ _).rd1
    rw [List.nil_append, ← List.map_append] at this
    exact this
  refine H11.callr (r_Of a.t hs' s2 (xs ++ ys) w11 N2 (fun x hh => (List.mem_append.1 hh).elim (hx x) (hy x))) ?_
  rintro _ w12 ⟨c, hc, sc0, rfl, oc0, nc0⟩ _ F12
  have H12 := F12.rd (EntsD sc0 c.m) oc0.rdn (rdn_fp nc0)
  have mc := hc.m5
  refine ⟨_, _, _, _, _, _, rfl, H12.callr (l_own c sc0 w12 (H12.getD 4) (by omega)) ?_⟩
  rintro _ w13 ⟨sc, rfl, oc, nc⟩ _ F13
  have H13 := F13.rd (EntsD sc c.m) oc.rdn (rdn_fp nc)
  exact ⟨_, _, _, _, _, _, rfl, fin (D := [_, _, _, _]) hs ha hx1 hx3 made b c sb sc hb hc H13 (by simp) (by simp)⟩
theorem walk (n : Int) (l m : Sl) (w : World) (hn : I64 n) (hl : ArgNums w l) (hm : ArgNums w m) (bl : l.n ≤ 1048576) (bm : m.n ≤ 1048576) :
    Calls Try.prog n_enthymemelaw06_ValueExtensional #[.int .i64 n, l.v, m.v] w fun r w' => r = .returned (.bool true) ∧ Fr0 w w' := by
  obtain ⟨xs, hls, _, hx⟩ := hl
  obtain ⟨ys, hms, _, hy⟩ := hm
  refine enthymemelaw06_ValueExtensional.okT _ _ _ w _ ((lh0 [] (by simp)).callq (l_array n hn l xs w hls hx) ?_)
  rintro _ w1 ⟨s, a, hs, ha, hx1, hx3, made, sr, rfl, or', nr⟩ _ F1
  have H1 := F1.rd (EntsD sr a.m) or'.rdn (rdn_fp nr)
  have A := made_va hs made
  have m5 := made.m5
  refine ⟨_, _, _, _, _, _, rfl, H1.newg fun b7 w2 H2 => H2.locg fun w3 H3 => H3.callr (l_own a sr w3 (H3.getD 0) (by omega)) ?_⟩
  rintro _ w4 ⟨sa, rfl, oa, na⟩ _ F4
  have H4 := F4.rd (EntsD sa a.m) oa.rdn (rdn_fp na)
  have hs' : validS a.t = true := by rw [made.t]; exact hs
  refine ⟨_, _, _, _, _, _, rfl, H4.newg fun b8 w5 H5 => ⟨H5.locg fun w6 H6 => ?_, H5.locg fun w6 H6 => ?_⟩⟩
  · refine H6.callr (r_Of a.t hs' m ys w6 (hms.fr0 H6.fr) hy) ?_
    rintro _ w7 ⟨b, hb, sb0, rfl, ob0, nb0⟩ _ F7
    have H7 := F7.rd (EntsD sb0 b.m) ob0.rdn (rdn_fp nb0)
    have mb := hb.m5
    refine ⟨_, _, _, _, _, _, rfl, ?_, ?_⟩
    · refine H7.callr (l_own b sb0 w7 (H7.getD 2) (by omega)) ?_
      rintro _ w8 ⟨sb, rfl, ob, nb⟩ _ F8
      have H8 := F8.rd (EntsD sb b.m) ob.rdn (rdn_fp nb)
      refine ⟨_, _, _, _, _, _, rfl, ?_⟩
      refine H8.nwrow (e := ty_int) (sz := 1) (n := 0) (cs := []) rfl (by decide) ?_
      intro w9 H9
      exact rest hs ha hx1 hx3 made hls hms hx hy bl bm b sb sb0 ⟨some (at0 w8.heap.size), 0, 0⟩ hb H9 rfl
    · refine H7.nwrow (e := ty_int) (sz := 1) (n := 0) (cs := []) rfl (by decide) fun w8 H8 => H8.callr (l_own b sb0 w8 (H8.getD 2) (by omega)) ?_
      rintro _ w9 ⟨sb, rfl, ob, nb⟩ _ F9
      have H9 := F9.rd (EntsD sb b.m) ob.rdn (rdn_fp nb)
      exact ⟨_, _, _, _, _, _, rfl, rest hs ha hx1 hx3 made hls hms hx hy bl bm b sb sb0 ⟨some (at0 w7.heap.size), 0, 0⟩ hb H9 rfl⟩
  · refine H6.nwrow (e := ty_int) (sz := 1) (n := 0) (cs := []) rfl (by decide) fun w7' H7' => H7'.callr (r_Of a.t hs' m ys w7' (hms.fr0 H7'.fr) hy) ?_
    rintro _ w7 ⟨b, hb, sb0, rfl, ob0, nb0⟩ _ F7
    have H7 := F7.rd (EntsD sb0 b.m) ob0.rdn (rdn_fp nb0)
    have mb := hb.m5
    refine ⟨_, _, _, _, _, _, rfl, H7.callr (l_own b sb0 w7 (H7.getD 2) (by omega)) ?_⟩
    rintro _ w9 ⟨sb, rfl, ob, nb⟩ _ F9
    have H9 := F9.rd (EntsD sb b.m) ob.rdn (rdn_fp nb)
    exact ⟨_, _, _, _, _, _, rfl, rest hs ha hx1 hx3 made hls hms hx hy bl bm b sb sb0 ⟨some (at0 w6.heap.size), 0, 0⟩ hb H9 rfl⟩
end Ext1
end Go.Proofs.Ytjjhfdjpmonlaaa
