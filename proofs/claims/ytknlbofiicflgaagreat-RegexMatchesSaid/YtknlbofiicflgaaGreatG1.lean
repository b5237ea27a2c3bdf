/- Package enthymemelaw04: own, a tree of the reference as one of the package. Package enthymemeref04: Compare: the contract. -/
import Derived.Test.YtknlbofiicflgaaGreatR2
import Derived.Test.YtknlbofiicflgaaGreatVG
namespace Go.Proofs.YtknlbofiicflgaaGreat
open Go Go.W

abbrev OwOk (n : Nat) : Prop := ∀ (t : Rt) (w : World), t.sz ≤ n → t.P w → Calls Tryz.prog n_enthymemelaw04_own #[t.v] w fun r w' => RetT w t.rx r w' ∧ Fr0 w w'
theorem c_ownN : ∀ n : Nat, n ≤ 1000000 → OwOk n
  | 0, _ => fun t w h _ => absurd h (by have := Rt.sz_pos t; omega)
  | n + 1, hn => fun t w h pt => by
    have ih := c_ownN n (by omega)
    have hs := Rt.sz_parts t
    have hl := Rt.szs_len t.l
    have nr := Rt.rows_n pt.parts.1
    have loop : ∀ (d i : Nat) (ks : List Rt) (sl : Sl) (b1 b2 b3 : Nat) (w1 : World), i + d = t.l.length → ks.length = i → Rt.rxs ks = Rt.rxs (t.l.take i) → (∀ b ∈ Rt.fps ks, w.heap.size ≤ b) → LH F0 w w1 [.g b1, .g b2, .g b3, .row ty_regex_Regex 4 sl (ks.flatMap Rt.c)] [.tree t, .trees ks] →
        enthymemelaw04_own.L0T b1 t.k t.lo.toNat t.hi.toNat t.s b2 0 0 0 ⟨none, 0, 0⟩ b3 t.k t.lo.toNat t.hi.toNat sl (i : Int) w1 fun r w' => RetT w t.rx r w' ∧ Fr0 w w' := by
      intro d
      induction d with
      | zero =>
        intro i ks sl b1 b2 b3 w1 hi hk he hf H
        refine enthymemelaw04_own.L0T_step _ _ _ _ _ _ _ _ _ _ _ _ _ _ _ _ _ _ (sel_false (decide_eq_false (by omega)) (H.locg fun w2 H2 => ⟨⟨.mk t.k t.lo t.hi sl ks, rfl, ?_, ?_, fun b hb => ?_⟩, H2.fr⟩))
        · rw [Rt.rx_parts t]
          unfold Rt.rx
          rw [he, List.take_of_length_le (by omega)]
        · unfold Rt.P
          exact ⟨OwnRow.rdn (H2.get 3), H2.getD 1⟩
        · unfold Rt.fp at hb
          rcases List.mem_append.1 hb with hb | hb
          · exact (H2.new _ (List.mem_of_getElem? (i := 3) rfl) b (rdn_own hb)).resolve_right id
          · exact hf b hb
      | succ d ihd =>
        intro i ks sl b1 b2 b3 w1 hi hk he hf H
        have hg : t.l[i]? = some (t.l[i]'(by omega)) := List.getElem?_eq_getElem (by omega)
        generalize t.l[i]'(by omega) = a at hg
        have sza := Rt.szs_mem (List.mem_of_getElem? hg)
        have pt1 : t.P w1 := H.getD 0
        refine enthymemelaw04_own.L0T_step _ _ _ _ _ _ _ _ _ _ _ _ _ _ _ _ _ _ (sel_true (decide_eq_true (by omega)) ⟨by omega, by omega, ?_⟩)
        refine Rt.at' pt1.parts.1 hg fun p hp _ => H.locg fun w3 H3 => ?_
        have c := Rt.again (show t.P w3 from H3.getD 0).parts.1 hg hp
        refine ⟨_, _, _, _, c.c0, c.c1, c.c2, c.c3, H3.callr (ih a w3 (by omega) ((show t.P w3 from H3.getD 0).parts.2.get hg)) ?_⟩
        rintro _ w4 ⟨u, rfl, hu, pu, fu⟩ _ F4
        have H4 := F4.rd (.tree u) pu fun b hb => fu b (mem_nub.1 hb)
        have hn' := Rt.rows_n (H4.get 3 : OwnRow _ _ _ _ _).rdn
        refine ⟨_, _, _, _, rfl, H4.ap1T 3 el_rx rfl (fun s' w5 H5 => ?_) (by omega)⟩
        have H6 := (H5.snocT 1 2).take 4
        refine LH.locg (bs := [b1, b2, b3]) (H6.forget [.tree t, .trees (ks ++ [u])] (by simp)) (fun w7 H7 => ?_) (by simp)
        rw [i64_next _ (by omega)]
        refine ihd (i + 1) (ks ++ [u]) s' b1 b2 b3 w7 (by omega) (by simp [hk]) ?_ ?_ ?_
        · rw [rxs_app, he, List.take_add_one, hg, rxs_app]
          simp [Rt.rxs, hu]
        · intro b hb
          obtain ⟨t', ht, hb'⟩ := Rt.fps_iff.1 hb
          rcases List.mem_append.1 ht with ht | ht
          · exact hf b (Rt.fps_iff.2 ⟨t', ht, hb'⟩)
          · simp at ht
            rw [ht] at hb'
            exact Nat.le_trans H3.fr.size (fu b hb')
        · rw [cs_snoc]
          exact H7
    refine enthymemelaw04_own.okT _ _ _ _ w _ ((lhT pt).newg fun b1 w1 H1 => H1.newg fun b2 w2 H2 => H2.newg fun b3 w3 H3 => H3.locg fun w4 H4 => ?_)
    have H5 := H4.nilrow ty_regex_Regex 4
    have H6 := H5.addD (.trees []) (Fr.refl _ _) (by show Rt.Ps w4 []; unfold Rt.Ps; trivial) (fun b hb => by
      have := mem_nub.1 hb
      unfold Rt.fps at this
      cases this)
    exact loop t.l.length 0 [] ⟨none, 0, 0⟩ b1 b2 b3 w4 (by omega) rfl rfl (fun b hb => by unfold Rt.fps at hb; cases hb) H6
theorem c_own (t : Rt) (w : World) (h : t.sz ≤ 1000000) (pt : t.P w) : Calls Tryz.prog n_enthymemelaw04_own #[t.v] w fun r w' => RetT w t.rx r w' ∧ Fr0 w w' := c_ownN 1000000 (Nat.le_refl _) t w h pt
end Go.Proofs.YtknlbofiicflgaaGreat
namespace Go.Proofs.YtknlbofiicflgaaGreat
open Go Go.W

theorem optS {p : Addr} {K : Addr → Prop} (h : K p) : optP (some p) K := h
end Go.Proofs.YtknlbofiicflgaaGreat
