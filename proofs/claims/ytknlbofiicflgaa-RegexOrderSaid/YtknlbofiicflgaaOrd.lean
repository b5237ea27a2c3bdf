/- RegexOrder: what the law does. -/
import Derived.Test.YtknlbofiicflgaaN12
import Derived.Test.YtknlbofiicflgaaG3
import Derived.Test.YtknlbofiicflgaaG7
import Derived.Test.YtknlbofiicflgaaG8
import Derived.Test.YtknlbofiicflgaaVA
namespace Go.Proofs.Ytknlbofiicflgaa
open Go Go.W
namespace Ord

section
variable {M : Nat → Prop} {w0 w : World} {L D : List En} {bs : List Nat}
theorem _root_.Go.W.LH.callt' (H : LH M w0 w L D) {g : FuncId} {args : Array Value} {K : Post} {t : Rt} (hc : Calls Try.prog g args w fun r w' => SpoP t w r w' ∧ Fr0 w w') (hold : ∀ b ∈ t.fp, ∃ g ∈ D, b ∈ g.fp)
    (hk : ∀ (u : Rt) (w' : World), u.sz ≤ t.sz + 100 → LH M w0 w' L (D ++ [.tree u]) → K (.returned u.v) w') : callF bs Try.prog g args w K :=
  callF0 (hc.mono fun r w' ⟨⟨u, h1, h2, h3, h4⟩, f⟩ => ⟨f, by
    subst h1
    exact hk u w' h4 (H.addD (.tree u) f h2 fun b hb => by
      rcases h3 b (mem_nub.1 hb) with h | h
      · exact .inr (.inr (hold b h))
      · exact .inl h)⟩)
end

/-- two elements of the law's list, made the package's own and compared -/
theorem pair {w w1 : World} {all : Sl} {T : List Rt} (hT : ∀ t ∈ T, t.sz ≤ 1000) (H : LH F0 w w1 [] [Rt.row all T, .trees T]) {i j : Nat} {a b : Rt} (ha : T[i]? = some a) (hb : T[j]? = some b) {K : Int → World → Prop} (hK : ∀ w2, LH F0 w w2 [] [Rt.row all T, .trees T] → K (cmpR a.rx b.rx) w2) :
    (0 : Int) ≤ (i : Int) ∧ (i : Int) < ((all.n : Nat) : Int) ∧ optP all.a fun p => ∃ t46_0 : Int, ∃ t46_1 : Int, ∃ t46_2 : Int, ∃ t46_3 : Sl, w1.cell? ((p.add (Int.toNat (i : Int) * 4)).add 0) = some (.i t46_0) ∧ w1.cell? ((p.add (Int.toNat (i : Int) * 4)).add 1) = some (.int .u8 t46_1) ∧ w1.cell? ((p.add (Int.toNat (i : Int) * 4)).add 2) = some (.int .u8 t46_2) ∧ w1.cell? ((p.add (Int.toNat (i : Int) * 4)).add 3) = some (t46_3.v) ∧
      (0 : Int) ≤ (j : Int) ∧ (j : Int) < ((all.n : Nat) : Int) ∧ optP all.a fun q => ∃ t51_0 : Int, ∃ t51_1 : Int, ∃ t51_2 : Int, ∃ t51_3 : Sl, w1.cell? ((q.add (Int.toNat (j : Int) * 4)).add 0) = some (.i t51_0) ∧ w1.cell? ((q.add (Int.toNat (j : Int) * 4)).add 1) = some (.int .u8 t51_1) ∧ w1.cell? ((q.add (Int.toNat (j : Int) * 4)).add 2) = some (.int .u8 t51_2) ∧ w1.cell? ((q.add (Int.toNat (j : Int) * 4)).add 3) = some (t51_3.v) ∧
      Calls Try.prog n_enthymemelaw04_own #[.agg #[.i t46_0, .int .u8 t46_1, .int .u8 t46_2, t46_3.v]] w1 fun r_ w15 => ∃ t47_0 : Int, ∃ t47_1 : Int, ∃ t47_2 : Int, ∃ t47_3 : Sl, r_ = .returned (.agg #[.i t47_0, .int .u8 t47_1, .int .u8 t47_2, t47_3.v]) ∧
      w15.cell? ((q.add (Int.toNat (j : Int) * 4)).add 0) = some (.i t51_0) ∧ w15.cell? ((q.add (Int.toNat (j : Int) * 4)).add 1) = some (.int .u8 t51_1) ∧ w15.cell? ((q.add (Int.toNat (j : Int) * 4)).add 2) = some (.int .u8 t51_2) ∧ w15.cell? ((q.add (Int.toNat (j : Int) * 4)).add 3) = some (t51_3.v) ∧ Calls Try.prog n_enthymemelaw04_own #[.agg #[.i t51_0, .int .u8 t51_1, .int .u8 t51_2, t51_3.v]] w15 fun r_ w16 => ∃ t52_0 : Int, ∃ t52_1 : Int, ∃ t52_2 : Int, ∃ t52_3 : Sl, r_ = .returned (.agg #[.i t52_0, .int .u8 t52_1, .int .u8 t52_2, t52_3.v]) ∧
      Calls Try.prog n_regex_Compare #[.agg #[.i t47_0, .int .u8 t47_1, .int .u8 t47_2, t47_3.v], .agg #[.i t52_0, .int .u8 t52_1, .int .u8 t52_2, t52_3.v]] w16 fun r_ w17 => ∃ t53 : Int, r_ = .returned (.i t53) ∧ K t53 w17 := by
  have hn := Rt.rows_n (show RdN 4 w1 all (T.flatMap Rt.c) from H.getD 0)
  have hi := (List.getElem?_eq_some_iff.1 ha).1
  have hj := (List.getElem?_eq_some_iff.1 hb).1
  have sa := hT a (List.mem_of_getElem? ha)
  have sb := hT b (List.mem_of_getElem? hb)
  refine ⟨by omega, by omega, Rt.at' (H.getD 0) ha fun p hp c => ⟨_, _, _, a.s, c.c0, c.c1, c.c2, c.c3, by omega, by omega, Rt.at' (H.getD 0) hb fun q hq d => ⟨_, _, _, b.s, d.c0, d.c1, d.c2, d.c3, ?_⟩⟩⟩
  refine H.callq (c_own a w1 (by omega) ((show Rt.Ps w1 T from H.getD 1).get ha)) ?_
  rintro _ w2 ⟨u, rfl, eu, pu, fu⟩ _ F2
  have H2 := F2.rd (.tree u) pu fun x hx => fu x (mem_nub.1 hx)
  have d2 := Rt.again (H2.getD 0) hb hq
  refine ⟨_, _, _, u.s, rfl, d2.c0, d2.c1, d2.c2, d2.c3, H2.callq (c_own b w2 (by omega) ((show Rt.Ps w2 T from H2.getD 1).get hb)) ?_⟩
  rintro _ w3 ⟨v, rfl, ev, pv, fv⟩ _ F3
  have H3 := F3.rd (.tree v) pv fun x hx => fv x (mem_nub.1 hx)
  refine ⟨_, _, _, v.s, rfl, H3.call (c_Compare u v w3 (by rw [← Rt.rx_sz, eu, Rt.rx_sz]; omega) (H3.getD 2) (H3.getD 3)) ?_⟩
  rintro _ w4 rfl H4
  refine ⟨_, rfl, ?_⟩
  rw [eu, ev]
  exact hK w4 (H4.forget _ (by simp))
theorem orI_sm : ∀ l : List Int, (∀ x ∈ l, -1 ≤ x ∧ x ≤ 1) → -1 ≤ orI l ∧ orI l ≤ 1
  | [], _ => by unfold orI; omega
  | c :: l, h => by
    unfold orI
    split
    · exact h c (by simp)
    · exact orI_sm l fun x hx => h x (by simp [hx])
theorem cmpI_sm (a b : Int) : -1 ≤ cmpI a b ∧ cmpI a b ≤ 1 := by
  unfold cmpI
  split
  · omega
  · split <;> omega
mutual
theorem cmp_small : ∀ a b : Rx, -1 ≤ cmpR a b ∧ cmpR a b ≤ 1
  | .mk k lo hi l, b => by
    rw [cmpR_eq]
    have h := cmpL_small l b.l
    refine orI_sm _ fun x hx => ?_
    simp only [List.mem_cons, List.not_mem_nil, or_false] at hx
    rcases hx with rfl | rfl | rfl | rfl
    · exact cmpI_sm _ _
    · exact cmpI_sm _ _
    · exact cmpI_sm _ _
    · exact h
theorem cmpL_small : ∀ a b : List Rx, -1 ≤ cmpL a b ∧ cmpL a b ≤ 1
  | [], [] => by unfold cmpL; omega
  | [], _ :: _ => by unfold cmpL; omega
  | _ :: _, [] => by unfold cmpL; omega
  | a :: l, b :: m => by
    have h1 := cmp_small a b
    have h2 := cmpL_small l m
    unfold cmpL
    split
    · exact h1
    · exact h2
end
theorem loops {w : World} {all : Sl} {T : List Rt} (hn : T.length = 5) (hT : ∀ t ∈ T, t.sz ≤ 1000) : ∀ (d i : Nat) (w1 : World), i + d = 5 → LH F0 w w1 [] [Rt.row all T, .trees T] → enthymemelaw04_RegexOrder.L0T all (i : Int) w1 fun r w' => r = .returned (.bool true) ∧ Fr0 w w' := by
  intro d
  induction d with
  | zero =>
    intro i w1 hi H
    refine enthymemelaw04_RegexOrder.L0T_step _ _ _ _ (sel_false (decide_eq_false (by omega)) (H.call (c_lives w1) ?_))
    rintro _ w2 rfl H2
    exact ⟨_, rfl, rfl, H2.fr⟩
  | succ d ih =>
    intro i w1 hi H
    have gi : T[i]? = some (T[i]'(by omega)) := List.getElem?_eq_getElem (by omega)
    generalize T[i]'(by omega) = a at gi
    have loop2 : ∀ (e j : Nat) (w2 : World), j + e = 5 → LH F0 w w2 [] [Rt.row all T, .trees T] → enthymemelaw04_RegexOrder.L1T all (i : Int) (j : Int) w2 fun r w' => r = .returned (.bool true) ∧ Fr0 w w' := by
      intro e
      induction e with
      | zero =>
        intro j w2 hj H2
        refine enthymemelaw04_RegexOrder.L1T_step _ _ _ _ _ (sel_false (decide_eq_false (by omega)) ?_)
        rw [i64_next _ (by omega)]
        exact ih (i + 1) w2 (by omega) H2
      | succ e ihe =>
        intro j w2 hj H2
        have gj : T[j]? = some (T[j]'(by omega)) := List.getElem?_eq_getElem (by omega)
        generalize T[j]'(by omega) = b at gj
        have nr := Rt.rows_n (show RdN 4 w2 all (T.flatMap Rt.c) from H2.getD 0)
        have loop3 : ∀ (f n : Nat) (w3 : World), n + f = 5 → LH F0 w w3 [] [Rt.row all T, .trees T] → enthymemelaw04_RegexOrder.L3T all (i : Int) (j : Int) (cmpR a.rx b.rx) (n : Int) w3 fun r w' => r = .returned (.bool true) ∧ Fr0 w w' := by
          intro f
          induction f with
          | zero =>
            intro n w3 hn3 H3
            refine enthymemelaw04_RegexOrder.L3T_step _ _ _ _ _ _ _ (sel_false (decide_eq_false (by omega)) ?_)
            rw [i64_next _ (by omega)]
            exact ihe (j + 1) w3 (by omega) H3
          | succ f ihf =>
            intro n w3 hn3 H3
            have gn : T[n]? = some (T[n]'(by omega)) := List.getElem?_eq_getElem (by omega)
            generalize T[n]'(by omega) = c at gn
            have next : ∀ w4, LH F0 w w4 [] [Rt.row all T, .trees T] → enthymemelaw04_RegexOrder.S4T all (i : Int) (j : Int) (cmpR a.rx b.rx) (n : Int) w4 fun r w' => r = .returned (.bool true) ∧ Fr0 w w' := fun w4 H4 => by
              show enthymemelaw04_RegexOrder.L3T _ _ _ _ _ _ _
              rw [i64_next _ (by omega)]
              exact ihf (n + 1) w4 (by omega) H4
            refine enthymemelaw04_RegexOrder.L3T_step _ _ _ _ _ _ _ (sel_true (decide_eq_true (by omega)) (H3.dr fun w4 H4 => pair hT H4 gj gn fun w5 H5 => H5.dr fun w6 H6 => sel_dec (fun h1 => sel_dec (fun h2 => pair hT H6 gi gn fun w7 H7 => sel_dec (fun h3 => ?_) (fun _ => next w7 H7)) (fun _ => next w6 H6)) (fun _ => next w6 H6)))
            exfalso
            obtain ⟨a1, a2, a3, a4⟩ := cmpR_tri a.rx b.rx c.rx
            omega
        refine enthymemelaw04_RegexOrder.L1T_step _ _ _ _ _ (sel_true (decide_eq_true (by omega)) (H2.dr fun w3 H3 => pair hT H3 gi gj fun w4 H4 => H4.dr fun w5 H5 => ?_))
        have hi5 := (List.getElem?_eq_some_iff.1 gi).1
        have hj5 := (List.getElem?_eq_some_iff.1 gj).1
        refine ⟨by omega, by omega, Rt.at' (H5.getD 0) gi fun p hp ca => ⟨_, _, _, a.s, ca.c0, ca.c1, ca.c2, ca.c3, by omega, by omega, Rt.at' (H5.getD 0) gj fun q hq cb => ⟨_, _, _, b.s, cb.c0, cb.c1, cb.c2, cb.c3, ?_⟩⟩⟩
        refine H5.call (c_refCompare a b w5 (by have := hT a (List.mem_of_getElem? gi); omega) ((show Rt.Ps w5 T from H5.getD 1).get gi) ((show Rt.Ps w5 T from H5.getD 1).get gj)) ?_
        rintro _ w6 rfl H6
        refine ⟨_, rfl, sel_ne (fun h => absurd rfl h) (fun _ => pair hT H6 gj gi fun w7 H7 => sel_ne (fun h => ?_) (fun _ => loop3 5 0 w7 (by omega) H7))⟩
        exfalso
        apply h
        have h1 := cmpR_neg a.rx b.rx
        have h2 := cmp_small a.rx b.rx
        rw [IntWalk.i64_in _ (by omega)]
        omega
    exact enthymemelaw04_RegexOrder.L0T_step _ _ _ _ (sel_true (decide_eq_true (by omega)) (loop2 5 0 w1 (by omega) H))
theorem walk (l m k : Sl) (how by' : Int) (w : World) (hl : ArgNums w l) (hm : ArgNums w m) (hk : ArgNums w k) (h1 : I64 how) (h2 : I64 by') :
    Calls Try.prog n_enthymemelaw04_RegexOrder #[l.v, m.v, k.v, .int .i64 how, .int .i64 by'] w fun r w' => r = .returned (.bool true) ∧ Fr0 w w' := by
  obtain ⟨xs, hls, _, hx⟩ := hl
  obtain ⟨ys, hms, _, hy⟩ := hm
  obtain ⟨zs, hks, _, hz⟩ := hk
  have H0 : LH F0 w w [] [.rd m (ys.map intV), .rd k (zs.map intV)] := lh0 _ (by
    intro e he
    simp only [List.mem_cons, List.not_mem_nil, or_false] at he
    rcases he with rfl | rfl
    · exact hms
    · exact hks)
  refine enthymemelaw04_RegexOrder.okT _ _ _ _ _ w _ (H0.callq (c_Made l xs w hls hx) ?_)
  rintro _ w1 ⟨t1, rfl, p1, n1, s1, _⟩ _ F1
  have H1 := F1.rd (.tree t1) p1 fun b hb => n1 b (mem_nub.1 hb)
  refine ⟨_, _, _, t1.s, rfl, H1.newg fun b11 w2 H2 => H2.locg fun w7 H7 => H7.callr (c_Made m ys w7 (H7.getD 0) hy) ?_⟩
  rintro _ w8 ⟨t2, rfl, p2, n2, s2, _⟩ _ F8
  have H8 := F8.rd (.tree t2) p2 fun b hb => n2 b (mem_nub.1 hb)
  refine ⟨_, _, _, t2.s, rfl, H8.callr (c_Made k zs w8 (H8.getD 1) hz) ?_⟩
  rintro _ w9 ⟨t3, rfl, p3, n3, s3, _⟩ _ F9
  have H9 := F9.rd (.tree t3) p3 fun b hb => n3 b (mem_nub.1 hb)
  refine ⟨_, _, _, t3.s, rfl, H9.callt' (c_Spoilt t1 (by omega) how by' h1 h2 w9 (H9.getD 2)) (fun b hb => ⟨_, List.mem_of_getElem? (i := 2) rfl, mem_nub.2 hb⟩) fun t4 w10 s4 H10 => ?_⟩
  refine ⟨_, _, _, t4.s, rfl, H10.callr (c_Made m ys w10 (H10.getD 0) hy) ?_⟩
  rintro _ w11 ⟨t5, rfl, p5, n5, s5, _⟩ _ F11
  have H11 := F11.rd (.tree t5) p5 fun b hb => n5 b (mem_nub.1 hb)
  refine ⟨_, _, _, t5.s, rfl, H11.callt' (c_Spoilt t5 (by omega) by' how h2 h1 w11 (H11.getD 6)) (fun b hb => ⟨_, List.mem_of_getElem? (i := 6) rfl, mem_nub.2 hb⟩) fun t6 w12 s6 H12 => ?_⟩
  refine ⟨_, _, _, t6.s, rfl, H12.nwrow (n := 5) (sz := 4) (cs := [t1, t2, t3, t4, t6].flatMap Rt.c) rfl (by decide) fun w13 H13 => ?_⟩
  have H14 := H13.addD (.trees [t1, t2, t3, t4, t6]) (Fr.refl _ _) (Rt.ps_of fun u hu => by
    simp only [List.mem_cons, List.not_mem_nil, or_false] at hu
    rcases hu with rfl | rfl | rfl | rfl | rfl
    · exact H13.getD 2
    · exact H13.getD 3
    · exact H13.getD 4
    · exact H13.getD 5
    · exact H13.getD 7) (fun b hb => by
    obtain ⟨u, hu, hb'⟩ := Rt.fps_iff.1 (mem_nub.1 hb)
    simp only [List.mem_cons, List.not_mem_nil, or_false] at hu
    rcases hu with rfl | rfl | rfl | rfl | rfl
    · exact .inr (.inr ⟨_, List.mem_of_getElem? (i := 2) rfl, mem_nub.2 hb'⟩)
    · exact .inr (.inr ⟨_, List.mem_of_getElem? (i := 3) rfl, mem_nub.2 hb'⟩)
    · exact .inr (.inr ⟨_, List.mem_of_getElem? (i := 4) rfl, mem_nub.2 hb'⟩)
    · exact .inr (.inr ⟨_, List.mem_of_getElem? (i := 5) rfl, mem_nub.2 hb'⟩)
    · exact .inr (.inr ⟨_, List.mem_of_getElem? (i := 7) rfl, mem_nub.2 hb'⟩))
  have H15 := H14.freeze 1 (Rt.row ⟨some (at0 w12.heap.size), 5, 5⟩ [t1, t2, t3, t4, t6]) rfl (OwnRow.rdn (H14.get 1)) fun b hb => rdn_own hb
  have H16 := (H15.take 0).forget [Rt.row ⟨some (at0 w12.heap.size), 5, 5⟩ [t1, t2, t3, t4, t6], .trees [t1, t2, t3, t4, t6]] (by simp)
  exact loops rfl (by
    intro t ht
    simp only [List.mem_cons, List.not_mem_nil, or_false] at ht
    rcases ht with rfl | rfl | rfl | rfl | rfl <;> omega) 5 0 w13 (by omega) H16
end Ord
end Go.Proofs.Ytknlbofiicflgaa
