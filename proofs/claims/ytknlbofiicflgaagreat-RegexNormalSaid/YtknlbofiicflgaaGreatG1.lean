/- Package enthymemelaw04: own, a tree of the reference as one of the package. Package enthymemeref04: Compare: the contract. -/
import Derived.Test.YtknlbofiicflgaaGreatR2
import Derived.Test.YtknlbofiicflgaaGreatVG
namespace Go.Proofs.YtknlbofiicflgaaGreat
open Go Go.W

abbrev OwOk (n : Nat) : Prop := ∀ (t : Rt) (w : World), t.sz ≤ n → t.P w → Calls Tryz.prog n_enthymemelaw04_own #[t.v] w fun r w' => RetT w t.rx r w' ∧ Fr0 w w'
theorem c_ownN : ∀ n : Nat, n ≤ 1000000 → OwOk n
  | 0, _ => fun t w h _ => absurd h (by have := Rt.sz_pos t; omega)
  | n + 1, hn => fun t w h pt => by
    have ih := c_ownN n (by omega)
    have hs := Rt.sz_parts t
    have hl := Rt.szs_len t.l
    have nr := Rt.rows_n pt.parts.1
    have loop : ∀ (d i : Nat) (ks : List Rt) (sl : Sl) (b1 b2 b3 : Nat) (w1 : World), i + d = t.l.length → ks.length = i → Rt.rxs ks = Rt.rxs (t.l.take i) → (∀ b ∈ Rt.fps ks, w.heap.size ≤ b) → LH F0 w w1 [.g b1, .g b2, .g b3, .row ty_regex_Regex 4 sl (ks.flatMap Rt.c)] [.tree t, .trees ks] →
        enthymemelaw04_own.L0T b1 t.k t.lo.toNat t.hi.toNat t.s b2 0 0 0 ⟨none, 0, 0⟩ b3 t.k t.lo.toNat t.hi.toNat sl (i : Int) w1 fun r w' => RetT w t.rx r w' ∧ Fr0 w w' := by
      intro d
      induction d with
      | zero =>
        intro i ks sl b1 b2 b3 w1 hi hk he hf H
        refine enthymemelaw04_own.L0T_step _ _ _ _ _ _ _ _ _ _ _ _ _ _ _ _ _ _ (sel_false (decide_eq_false (by omega)) (H.locg fun w2 H2 => ⟨⟨.mk t.k t.lo t.hi sl ks, rfl, ?_, ?_, fun b hb => ?_⟩, H2.fr⟩))
        · rw [Rt.rx_parts t]
          unfold Rt.rx
          rw [he, List.take_of_length_le (by omega)]
        · unfold Rt.P
          exact ⟨OwnRow.rdn (H2.get 3), H2.getD 1⟩
        · unfold Rt.fp at hb
          rcases List.mem_append.1 hb with hb | hb
          · exact (H2.new _ (List.mem_of_getElem? (i := 3) rfl) b (rdn_own hb)).resolve_right id
          · exact hf b hb
      | succ d ihd =>
        intro i ks sl b1 b2 b3 w1 hi hk he hf H
        have hg : t.l[i]? = some (t.l[i]'(by omega)) := List.getElem?_eq_getElem (by omega)
        generalize t.l[i]'(by omega) = a at hg
        have sza := Rt.szs_mem (List.mem_of_getElem? hg)
        have pt1 : t.P w1 := H.getD 0
        refine enthymemelaw04_own.L0T_step _ _ _ _ _ _ _ _ _ _ _ _ _ _ _ _ _ _ (sel_true (decide_eq_true (by omega)) ⟨by omega, by omega, ?_⟩)
        refine Rt.at' pt1.parts.1 hg fun p hp _ => H.locg fun w3 H3 => ?_
        have c := Rt.again (show t.P w3 from H3.getD 0).parts.1 hg hp
        refine ⟨_, _, _, _, c.c0, c.c1, c.c2, c.c3, H3.callr (ih a w3 (by omega) ((show t.P w3 from H3.getD 0).parts.2.get hg)) ?_⟩
        rintro _ w4 ⟨u, rfl, hu, pu, fu⟩ _ F4
        have H4 := F4.rd (.tree u) pu fun b hb => fu b (mem_nub.1 hb)
        have hn' := Rt.rows_n (H4.get 3 : OwnRow _ _ _ _ _).rdn
        refine ⟨_, _, _, _, rfl, H4.ap1T 3 el_rx rfl (fun s' w5 H5 => ?_) (by omega)⟩
        have H6 := (H5.snocT 1 2).take 4
        refine LH.locg (bs := [b1, b2, b3]) (H6.forget [.tree t, .trees (ks ++ [u])] (by simp)) (fun w7 H7 => ?_) (by simp)
        rw [i64_next _ (by omega)]
        refine ihd (i + 1) (ks ++ [u]) s' b1 b2 b3 w7 (by omega) (by simp [hk]) ?_ ?_ ?_
        · rw [rxs_app, he, List.take_add_one, hg, rxs_app]
          simp [Rt.rxs, hu]
        · intro b hb
          obtain ⟨t', ht, hb'⟩ := Rt.fps_iff.1 hb
          rcases List.mem_append.1 ht with ht | ht
          · exact hf b (Rt.fps_iff.2 ⟨t', ht, hb'⟩)
          · simp at ht
            rw [ht] at hb'
            exact Nat.le_trans H3.fr.size (fu b hb')
        · rw [cs_snoc]
          exact H7
    refine enthymemelaw04_own.okT _ _ _ _ w _ ((lhT pt).newg fun b1 w1 H1 => H1.newg fun b2 w2 H2 => H2.newg fun b3 w3 H3 => H3.locg fun w4 H4 => ?_)
    have H5 := H4.nilrow ty_regex_Regex 4
    have H6 := H5.addD (.trees []) (Fr.refl _ _) (by show Rt.Ps w4 []; unfold Rt.Ps; trivial) (fun b hb => by
      have := mem_nub.1 hb
      unfold Rt.fps at this
      cases this)
    exact loop t.l.length 0 [] ⟨none, 0, 0⟩ b1 b2 b3 w4 (by omega) rfl rfl (fun b hb => by unfold Rt.fps at hb; cases hb) H6
theorem c_own (t : Rt) (w : World) (h : t.sz ≤ 1000000) (pt : t.P w) : Calls Tryz.prog n_enthymemelaw04_own #[t.v] w fun r w' => RetT w t.rx r w' ∧ Fr0 w w' := c_ownN 1000000 (Nat.le_refl _) t w h pt
end Go.Proofs.YtknlbofiicflgaaGreat
namespace Go.Proofs.YtknlbofiicflgaaGreat
open Go Go.W

theorem optS {p : Addr} {K : Addr → Prop} (h : K p) : optP (some p) K := h
theorem cm_lt {x y : Int} (l : List Int) (h : x < y) : orI (cmpI x y :: l) = -1 := by unfold orI cmpI; simp [h]
theorem cm_gt {x y : Int} (l : List Int) (h : y < x) : orI (cmpI x y :: l) = 1 := by
  unfold orI cmpI
  rw [if_neg (show ¬ x < y by omega), if_pos h]
  simp
theorem cm_eq {x y : Int} (l : List Int) (h1 : ¬ x < y) (h2 : ¬ y < x) : orI (cmpI x y :: l) = orI l := by
  conv => lhs; unfold orI cmpI
  rw [if_neg h1, if_neg h2]
  simp
abbrev RcOk (n : Nat) : Prop := ∀ (a b : Rt) (w : World), a.sz ≤ n → a.P w → b.P w → Calls Tryz.prog n_enthymemeref04_Compare #[a.v, b.v] w fun r w' => r = .returned (.int .i64 (cmpR a.rx b.rx)) ∧ Fr0 w w'
theorem c_refCompareN : ∀ n : Nat, n ≤ 1000000 → RcOk n
  | 0, _ => fun a b w h _ _ => absurd h (by have := Rt.sz_pos a; omega)
  | n + 1, hn => fun a b w h pa pb => by
    have ih := c_refCompareN n (by omega)
    have hs := Rt.sz_parts a
    have hl := Rt.szs_len a.l
    have na := Rt.rows_n pa.parts.1
    have nbb := Rt.rows_n pb.parts.1
    have e : cmpR a.rx b.rx = if orI [cmpI a.k b.k, cmpI a.lo.toNat b.lo.toNat, cmpI a.hi.toNat b.hi.toNat] ≠ 0 then orI [cmpI a.k b.k, cmpI a.lo.toNat b.lo.toNat, cmpI a.hi.toNat b.hi.toNat] else cmpL (Rt.rxs a.l) (Rt.rxs b.l) := by
      rw [Rt.rx_parts a, Rt.rx_parts b]; unfold cmpR; rfl
    have loop1 : ∀ (d i : Nat) (b2 b3 : Nat) (w1 : World), i + d = a.l.length → i ≤ b.l.length → cmpL (Rt.rxs (a.l.drop i)) (Rt.rxs (b.l.drop i)) = cmpR a.rx b.rx → LH F0 w w1 [.g b2, .g b3] [.tree a, .tree b] →
        enthymemeref04_Compare.L1T b2 a.k a.lo.toNat a.hi.toNat a.s b3 b.k b.lo.toNat b.hi.toNat b.s (i : Int) w1 fun r w' => r = .returned (.int .i64 (cmpR a.rx b.rx)) ∧ Fr0 w w' := by
      intro d
      induction d with
      | zero =>
        intro i b2 b3 w1 hi hib he H
        rw [List.drop_of_length_le (by omega : a.l.length ≤ i)] at he
        refine enthymemeref04_Compare.L1T_step _ _ _ _ _ _ _ _ _ _ _ _ _ (sel_false (decide_eq_false (by omega)) (sel_dec (fun h => ⟨?_, H.fr⟩) (fun h => sel_dec (fun h2 => ?_) (fun h2 => ⟨?_, H.fr⟩))))
        · rw [List.drop_eq_getElem_cons (by omega : i < b.l.length)] at he
          rw [← he]; rfl
        · omega
        · rw [List.drop_of_length_le (by omega : b.l.length ≤ i)] at he
          rw [← he]; rfl
      | succ d ihd =>
        intro i b2 b3 w1 hi hib he H
        have hg : a.l[i]? = some (a.l[i]'(by omega)) := List.getElem?_eq_getElem (by omega)
        rw [List.drop_eq_getElem_cons (by omega : i < a.l.length)] at he
        generalize a.l[i]'(by omega) = x at hg he
        have sza := Rt.szs_mem (List.mem_of_getElem? hg)
        refine enthymemeref04_Compare.L1T_step _ _ _ _ _ _ _ _ _ _ _ _ _ (sel_true (decide_eq_true (by omega)) (sel_dec (fun hlt => ⟨by omega, by omega, ?_⟩) (fun hge => sel_dec (fun h => ?_) (fun h => sel_dec (fun h2 => ⟨?_, H.fr⟩) (fun h2 => ?_)))))
        · have hgb : b.l[i]? = some (b.l[i]'(by omega)) := List.getElem?_eq_getElem (by omega)
          rw [List.drop_eq_getElem_cons (by omega : i < b.l.length)] at he
          generalize b.l[i]'(by omega) = y at hgb he
          refine Rt.at' (show a.P w1 from H.getD 0).parts.1 hg fun p hp _ => H.locg fun w3 H3 => ?_
          have c := Rt.again (show a.P w3 from H3.getD 0).parts.1 hg hp
          refine ⟨_, _, _, _, c.c0, c.c1, c.c2, c.c3, by omega, by omega, Rt.at' (show b.P w3 from H3.getD 1).parts.1 hgb fun q hq c' => ⟨_, _, _, _, c'.c0, c'.c1, c'.c2, c'.c3, H3.callg (ih x y w3 (by omega) ((show a.P w3 from H3.getD 0).parts.2.get hg) ((show b.P w3 from H3.getD 1).parts.2.get hgb)) ?_⟩⟩
          rintro _ w4 rfl H4
          have e2 : cmpL (Rt.rxs (x :: a.l.drop (i + 1))) (Rt.rxs (y :: b.l.drop (i + 1))) = if cmpR x.rx y.rx ≠ 0 then cmpR x.rx y.rx else cmpL (Rt.rxs (a.l.drop (i + 1))) (Rt.rxs (b.l.drop (i + 1))) := rfl
          rw [e2] at he
          refine ⟨_, rfl, sel_ne (fun hc => ⟨?_, H4.fr⟩) (fun hc => ?_)⟩
          · rw [if_pos hc] at he
            rw [he]
          · rw [if_neg (by simpa using hc)] at he
            rw [i64_next _ (by omega)]
            exact ihd (i + 1) b2 b3 w4 (by omega) (by omega) he H4
        · omega
        · rw [List.drop_of_length_le (by omega : b.l.length ≤ i)] at he
          rw [← he]; rfl
        · omega
    have wl : ∀ (c : UInt8), IntKind.wrap .i64 (c.toNat : Int) = (c.toNat : Int) := fun c => IntWalk.i64_in _ (by have := c.toNat_lt; omega)
    refine enthymemeref04_Compare.okT _ _ _ _ _ _ _ _ w _ ((lh0 [.tree a, .tree b] (by
      intro e he
      simp only [List.mem_cons, List.not_mem_nil, or_false] at he
      rcases he with rfl | rfl
      · exact pa
      · exact pb)).newg fun b2 w1 H1 => H1.newg fun b3 w2 H2 => H2.nw fun w3 _ H3 => H3.nw fun w4 _ H4 => ?_)
    have H4 : LH F0 w w4 [.g b2, .g b3, .c w2.heap.size [.int .i64 a.k, .int .i64 (IntKind.wrap .i64 (a.lo.toNat : Int)), .int .i64 (IntKind.wrap .i64 (a.hi.toNat : Int))] ty_int, .c w3.heap.size [.int .i64 b.k, .int .i64 (IntKind.wrap .i64 (b.lo.toNat : Int)), .int .i64 (IntKind.wrap .i64 (b.hi.toNat : Int))] ty_int] [.tree a, .tree b] := H4
    rw [wl, wl, wl, wl] at H4
    have step : ∀ (i : Nat) (x y : Int) (w5 : World), i < 3 → ([.int .i64 a.k, .int .i64 (a.lo.toNat : Int), .int .i64 (a.hi.toNat : Int)] : List Value)[i]? = some (.int .i64 x) → ([.int .i64 b.k, .int .i64 (b.lo.toNat : Int), .int .i64 (b.hi.toNat : Int)] : List Value)[i]? = some (.int .i64 y) →
        LH F0 w w5 [.g b2, .g b3, .c w2.heap.size [.int .i64 a.k, .int .i64 (a.lo.toNat : Int), .int .i64 (a.hi.toNat : Int)] ty_int, .c w3.heap.size [.int .i64 b.k, .int .i64 (b.lo.toNat : Int), .int .i64 (b.hi.toNat : Int)] ty_int] [.tree a, .tree b] →
        (x < y → cmpR a.rx b.rx = -1) → (y < x → cmpR a.rx b.rx = 1) →
        (¬ x < y → ¬ y < x → ∀ w6, LH F0 w w6 [.g b2, .g b3, .c w2.heap.size [.int .i64 a.k, .int .i64 (a.lo.toNat : Int), .int .i64 (a.hi.toNat : Int)] ty_int, .c w3.heap.size [.int .i64 b.k, .int .i64 (b.lo.toNat : Int), .int .i64 (b.hi.toNat : Int)] ty_int] [.tree a, .tree b] → enthymemeref04_Compare.L0T b2 a.k a.lo.toNat a.hi.toNat a.s b3 b.k b.lo.toNat b.hi.toNat b.s ⟨some (at0 w2.heap.size), 3, 3⟩ ⟨some (at0 w3.heap.size), 3, 3⟩ ((i + 1 : Nat) : Int) w6 fun r w' => r = .returned (.int .i64 (cmpR a.rx b.rx)) ∧ Fr0 w w') →
        enthymemeref04_Compare.L0T b2 a.k a.lo.toNat a.hi.toNat a.s b3 b.k b.lo.toNat b.hi.toNat b.s ⟨some (at0 w2.heap.size), 3, 3⟩ ⟨some (at0 w3.heap.size), 3, 3⟩ (i : Int) w5 fun r w' => r = .returned (.int .i64 (cmpR a.rx b.rx)) ∧ Fr0 w w' := by
      intro i x y w5 hi hx hy H hlt hgt hk
      have b3' : ((i : Nat) : Int) < ((3 : Nat) : Int) := by omega
      refine enthymemeref04_Compare.L0T_step _ _ _ _ _ _ _ _ _ _ _ _ _ _ _ (sel_true (decide_eq_true (by omega)) ⟨by omega, b3', optS (H.locg fun w6 H6 => ⟨x, ?_, by omega, b3', optS ⟨y, ?_, sel_dec (fun h => ⟨by rw [hlt h], H6.fr⟩) (fun h => ⟨by omega, b3', optS (H6.locg fun w7 H7 => ⟨x, ?_, by omega, b3', optS ⟨y, ?_, sel_dec (fun h2 => ⟨by rw [hgt h2], H7.fr⟩) (fun h2 => ?_)⟩⟩)⟩)⟩⟩)⟩)
      · rw [Int.toNat_natCast, Nat.mul_one]; exact H6.ld 2 i rfl hx
      · rw [Int.toNat_natCast, Nat.mul_one]; exact H6.ld 3 i rfl hy
      · rw [Int.toNat_natCast, Nat.mul_one]; exact H7.ld 2 i rfl hx
      · rw [Int.toNat_natCast, Nat.mul_one]; exact H7.ld 3 i rfl hy
      · rw [show IntKind.wrap .i64 ((i : Int) + 1) = ((i + 1 : Nat) : Int) by rw [IntWalk.i64_in _ (by omega)]; omega]
        exact hk h h2 w7 H7
    show enthymemeref04_Compare.L0T _ _ _ _ _ _ _ _ _ _ _ _ ((0 : Nat) : Int) _ _
    refine step 0 _ _ w4 (by omega) rfl rfl H4 (fun h => by rw [e, cm_lt _ h]; rfl) (fun h => by rw [e, cm_gt _ h]; rfl) (fun h1 h2 w5 H5 => ?_)
    rw [cm_eq _ h1 h2] at e
    refine step 1 _ _ w5 (by omega) rfl rfl H5 (fun h => by rw [e, cm_lt _ h]; rfl) (fun h => by rw [e, cm_gt _ h]; rfl) (fun h1 h2 w6 H6 => ?_)
    rw [cm_eq _ h1 h2] at e
    refine step 2 _ _ w6 (by omega) rfl rfl H6 (fun h => by rw [e, cm_lt _ h]; rfl) (fun h => by rw [e, cm_gt _ h]; rfl) (fun h1 h2 w7 H7 => ?_)
    rw [cm_eq _ h1 h2] at e
    refine enthymemeref04_Compare.L0T_step _ _ _ _ _ _ _ _ _ _ _ _ _ _ _ (sel_false rfl (loop1 a.l.length 0 b2 b3 w7 (by omega) (by omega) ?_ (H7.take 2)))
    rw [e]
    rfl
theorem c_refCompare (a b : Rt) (w : World) (h : a.sz ≤ 1000000) (pa : a.P w) (pb : b.P w) : Calls Tryz.prog n_enthymemeref04_Compare #[a.v, b.v] w fun r w' => r = .returned (.int .i64 (cmpR a.rx b.rx)) ∧ Fr0 w w' := c_refCompareN 1000000 (Nat.le_refl _) a b w h pa pb
end Go.Proofs.YtknlbofiicflgaaGreat
