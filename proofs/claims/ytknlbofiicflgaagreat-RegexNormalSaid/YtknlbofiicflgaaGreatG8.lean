/- Package enthymemeref04: Spoilt: the contract. -/
import Derived.Test.YtknlbofiicflgaaGreatG3
import Derived.Test.YtknlbofiicflgaaGreatR13
namespace Go.Proofs.YtknlbofiicflgaaGreat
open Go Go.W

/-- what is known of the changed one -/
def SzF (t u : Rt) : Prop := u.sz ≤ t.sz + 100 ∧ (lvX t.rx ≤ 12 → fewR 13 u.rx)
def SpoP1 (t : Rt) (w : World) : Post := fun r w' => ∃ u : Rt, r = .returned u.v ∧ u.P w' ∧ (∀ b ∈ u.fp, b ∈ t.fp ∨ w.heap.size ≤ b) ∧ SzF t u
def SpoP (t : Rt) (w : World) : Post := fun r w' => ∃ u : Rt, r = .returned u.v ∧ u.P w' ∧ (∀ b ∈ u.fp, b ∈ t.fp ∨ w.heap.size ≤ b) ∧ u.sz ≤ t.sz + 100
theorem lv_rx (t : Rt) : lvX t.rx = max 1 (ms lvX (Rt.rxs t.l)) := by rw [Rt.rx_parts, lv_mk]
theorem c_Spoilt1 (t : Rt) (hsz : t.sz ≤ 1000) (how by' : Int) (h1 : I64 how) (h2 : I64 by') (w : World) (pt : t.P w) : Calls Tryz.prog n_enthymemeref04_Spoilt #[t.v, .int .i64 how, .int .i64 by'] w fun r w' => SpoP1 t w r w' ∧ Fr0 w w' := by
  have hsp := Rt.sz_parts t
  have hll := Rt.szs_len t.l
  have nr := Rt.rows_n pt.parts.1
  have fin : ∀ (b3 b6 : Nat) (u : Rt) (ts : List Rt) (w' : World) (a0 a1 a2 : Int) (a3 : Sl), LH F0 w w' [.g b3, .g b6] [.trees ts] → u ∈ ts → (∀ b ∈ Rt.fps ts, b ∈ t.fp ∨ w.heap.size ≤ b) → SzF t u → enthymemeref04_Spoilt.S0T b3 u.k u.lo.toNat u.hi.toNat u.s b6 a0 a1 a2 a3 w' fun r w' => SpoP1 t w r w' ∧ Fr0 w w' :=
    fun b3 b6 u ts w' _ _ _ _ H hu hf hs => H.locg (bs := [b3, b6]) (fun w4 H4 => ⟨⟨u, rfl, (show Rt.Ps w4 ts from H4.getD 0).mem hu, fun b hb => hf b (Rt.fps_iff.2 ⟨u, hu, hb⟩), hs⟩, H4.fr⟩) (by simp)
  have loop1 : ∀ (d i : Nat) (b3 b6 : Nat) (u : Rt) (ts : List Rt) (w' : World), i + d = 100 → u ∈ ts → (∀ b ∈ Rt.fps ts, b ∈ t.fp ∨ w.heap.size ≤ b) → u.sz ≤ t.sz + i → (lvX t.rx ≤ 12 → fewR 13 u.rx) → i ≤ 80 → LH F0 w w' [.g b3, .g b6] [.trees ts] → enthymemeref04_Spoilt.L1T by' b3 u.k u.lo.toNat u.hi.toNat u.s b6 0 0 0 ⟨none, 0, 0⟩ (i : Int) w' fun r w' => SpoP1 t w r w' ∧ Fr0 w w' := by
    intro d
    induction d with
    | zero => intro i b3 b6 u ts w' hi _ _ _ _ h80; omega
    | succ d ihd =>
      intro i b3 b6 u ts w' hi hu hf hs hq h80 H
      refine enthymemeref04_Spoilt.L1T_step _ _ _ _ _ _ _ _ _ _ _ _ _ _ (H.callg (around0 by' 40 w' (by omega) h2) ?_)
      rintro _ w3 ⟨k, rfl, hk⟩ H3
      refine ⟨_, rfl, ?_⟩
      try dsimp only
      rw [show IntKind.wrap .i64 (40 + (k : Int)) = ((40 + k : Nat) : Int) by rw [IntWalk.i64_in _ (by omega)]; omega]
      refine sel_dec (fun hlt => ?_) (fun _ => fin b3 b6 u ts w3 _ _ _ _ H3 hu hf ⟨by omega, hq⟩)
      refine H3.nwrow (e := ty_enthymemeref04_Regex) (sz := 4) (n := 1) (cs := u.c) rfl (by decide) fun w4 H4 => H4.locg (bs := [b3, b6]) (fun w5 H5 => ?_) (by simp)
      have H6 := H5.freeze 2 (Rt.row ⟨some (at0 w3.heap.size), 1, 1⟩ [u]) rfl (by show RdN 4 w5 _ ([u].flatMap Rt.c); rw [show [u].flatMap Rt.c = u.c by simp]; exact OwnRow.rdn (H5.get 2)) (fun b hb => rdn_own (e := ty_enthymemeref04_Regex) (vs := [u].flatMap Rt.c) hb)
      have H7 := H6.node 0 6 0 0 (s := ⟨some (at0 w3.heap.size), 1, 1⟩) (ks := [u]) rfl (by simp) (fun v hv => by simp at hv; subst hv; exact hu)
      rw [i64_next _ (by omega)]
      refine ihd (i + 1) b3 b6 (.mk 6 0 0 ⟨some (at0 w3.heap.size), 1, 1⟩ [u]) _ w5 (by omega) (by simp) (fun b hb => ?_) ?_ (fun hv => ?_) (by omega) H7
      · obtain ⟨v, hv, hbv⟩ := Rt.fps_iff.1 hb
        rcases List.mem_append.1 hv with hv | hv
        · exact hf b (Rt.fps_iff.2 ⟨v, hv, hbv⟩)
        · simp at hv
          rw [hv] at hbv
          rcases Rt.fp_parts.1 hbv with hbv | hbv
          · have := rdn_own (e := ty_enthymemeref04_Regex) hbv
            simp [En.row, blkL, Rt.s] at this
            subst this
            exact .inr H3.fr.size
          · obtain ⟨v', hv', hb'⟩ := Rt.fps_iff.1 hbv
            simp [Rt.l] at hv'
            rw [hv'] at hb'
            exact hf b (Rt.fps_iff.2 ⟨u, hu, hb'⟩)
      · show 1 + Rt.szs [u] ≤ _
        unfold Rt.szs Rt.szs
        omega
      · have h1 := hq hv
        show fewR 13 (.mk 6 0 0 [u.rx])
        unfold fewR fewRs fewRs
        exact ⟨⟨h1, trivial⟩, fun h => by omega⟩
  have cs_app : ∀ (a b : List Rt), (a ++ b).flatMap Rt.c = a.flatMap Rt.c ++ b.flatMap Rt.c := fun a b => by simp
  have loop2 : ∀ (d i : Nat) (b3 b6 : Nat) (sl : Sl) (w' : World), i + d = 100 → i ≤ 70 → LH F0 w w' [.g b3, .g b6, .row ty_enthymemeref04_Regex 4 sl ((List.replicate i (Rt.mk 5 0 0 ⟨none, 0, 0⟩ [])).flatMap Rt.c)] [.tree t] → enthymemeref04_Spoilt.L2T by' b3 t.k t.lo.toNat t.hi.toNat t.s b6 0 0 0 ⟨none, 0, 0⟩ sl (i : Int) w' fun r w' => SpoP1 t w r w' ∧ Fr0 w w' := by
    intro d
    induction d with
    | zero => intro i b3 b6 sl w' hi h70; omega
    | succ d ihd =>
      intro i b3 b6 sl w' hi h70 H
      have hn' := Rt.rows_n (H.get 2 : OwnRow _ _ _ _ _).rdn
      rw [List.length_replicate] at hn'
      refine enthymemeref04_Spoilt.L2T_step _ _ _ _ _ _ _ _ _ _ _ _ _ _ _ (H.callg (around0 by' 50 w' (by omega) h2) ?_)
      rintro _ w3 ⟨k, rfl, hk⟩ H3
      refine ⟨_, rfl, ?_⟩
      try dsimp only
      rw [show IntKind.wrap .i64 (20 + (k : Int)) = ((20 + k : Nat) : Int) by rw [IntWalk.i64_in _ (by omega)]; omega]
      refine sel_dec (fun hlt => ?_) (fun _ => ?_)
      · refine LH.ap1T (bs := [b3, b6]) H3 2 el_rf rfl (fun s' w5 H5 => ?_) (by omega)
        rw [i64_next _ (by omega)]
        refine ihd (i + 1) b3 b6 s' w5 (by omega) (by omega) ?_
        rw [List.replicate_succ', cs_app]
        exact H5
      · refine LH.ap1T (bs := [b3, b6]) H3 2 el_rf rfl (fun s' w5 H5 => ?_) (by omega)
        refine LH.locg (bs := [b3, b6]) H5 (fun w6 H6 => LH.locg (bs := [b3, b6]) H6 (fun w7 H7 => ⟨⟨.mk 3 0 0 s' (List.replicate i (Rt.mk 5 0 0 ⟨none, 0, 0⟩ []) ++ [t]), rfl, ?_, fun b hb => ?_, ?_⟩, H7.fr⟩) (by simp)) (by simp)
        · unfold Rt.P
          refine ⟨?_, Rt.ps_of fun v hv => ?_⟩
          · rw [cs_app, show [t].flatMap Rt.c = t.c by simp]
            exact OwnRow.rdn (H7.get 2)
          · rcases List.mem_append.1 hv with hv | hv
            · rw [List.eq_of_mem_replicate hv]; exact leaf_P _ _ _ _
            · simp at hv; subst hv; exact H7.getD 0
        · rcases Rt.fp_parts.1 hb with hb | hb
          · refine .inr ((H7.new _ (List.mem_of_getElem? (i := 2) rfl) b ?_).resolve_right id)
            have hb' : b ∈ (Rt.row s' (List.replicate i (Rt.mk 5 0 0 ⟨none, 0, 0⟩ []) ++ [t])).fp := hb
            show b ∈ blkL s'
            exact rdn_own (e := ty_enthymemeref04_Regex) (vs := (List.replicate i (Rt.mk 5 0 0 ⟨none, 0, 0⟩ []) ++ [t]).flatMap Rt.c) hb'
          · obtain ⟨v, hv, hbv⟩ := Rt.fps_iff.1 hb
            have hv : v ∈ List.replicate i (Rt.mk 5 0 0 ⟨none, 0, 0⟩ []) ++ [t] := hv
            rcases List.mem_append.1 hv with hv | hv
            · rw [List.eq_of_mem_replicate hv] at hbv; exact (leaf_fp hbv).elim
            · simp at hv; subst hv; exact .inl hbv
        · have e : ∀ n, Rt.szs (List.replicate n (Rt.mk 5 0 0 ⟨none, 0, 0⟩ [])) = n := fun n => by
            induction n with
            | zero => rfl
            | succ n ihn =>
              rw [List.replicate_succ]
              show (Rt.mk 5 0 0 ⟨none, 0, 0⟩ []).sz + _ = _
              rw [leaf_sz, ihn]; omega
          refine ⟨?_, fun hv => ?_⟩
          · show 1 + Rt.szs _ ≤ _
            rw [gszs_app, e]
            unfold Rt.szs Rt.szs
            omega
          · show fewR 13 (.mk 3 0 0 (Rt.rxs (List.replicate i (Rt.mk 5 0 0 ⟨none, 0, 0⟩ []) ++ [t])))
            unfold fewR
            refine ⟨fewRs_iff.2 fun y hy => ?_, fun h => by omega⟩
            rw [Rt.rxs_map] at hy
            obtain ⟨v, hv', rfl⟩ := List.mem_map.1 hy
            rcases List.mem_append.1 hv' with hv' | hv'
            · rw [List.eq_of_mem_replicate hv']
              exact few_lv _ (by decide)
            · simp at hv'; subst hv'; exact few_lv _ (by omega)
  have like : ∀ (k : Int) (lo hi : UInt8) {w' : World} {L : List En}, LH F0 w w' L [.tree t] → LH F0 w w' L [.trees [.mk k lo hi t.s t.l]] := fun k lo hi {w'} {L} H => by
    have H1 := H.addD (.trees [.mk k lo hi t.s t.l]) (Fr.refl _ _) (Rt.ps_of fun v hv => by
      simp at hv; subst hv
      unfold Rt.P
      exact (show t.P w' from H.getD 0).parts) fun b hb => .inr (.inr ⟨.tree t, by simp, by
        obtain ⟨v, hv, hbv⟩ := Rt.fps_iff.1 (mem_nub.1 hb)
        simp at hv
        rw [hv] at hbv
        exact mem_nub.2 (Rt.fp_parts.2 ((Rt.fp_parts (t := .mk k lo hi t.s t.l)).1 hbv))⟩)
    exact H1.forget _ (by simp)
  have like_fp : ∀ (k : Int) (lo hi : UInt8), ∀ b ∈ Rt.fps [.mk k lo hi t.s t.l], b ∈ t.fp ∨ w.heap.size ≤ b := fun k lo hi b hb => by
    obtain ⟨v, hv, hbv⟩ := Rt.fps_iff.1 hb
    simp at hv
    rw [hv] at hbv
    exact .inl (Rt.fp_parts.2 ((Rt.fp_parts (t := .mk k lo hi t.s t.l)).1 hbv))
  have like_sz : ∀ (k : Int) (lo hi : UInt8), SzF t (Rt.mk k lo hi t.s t.l) := fun k lo hi => by
    refine ⟨?_, fun hv => few_lv _ ?_⟩
    · show 1 + Rt.szs t.l ≤ _
      omega
    · rw [lv_rx] at hv ⊢
      show max 1 (ms lvX (Rt.rxs t.l)) ≤ 13
      omega
  refine enthymemeref04_Spoilt.okT _ _ _ _ _ _ w _ ((lhT pt).newg fun b3 w1 H1 => H1.newg fun b6 w2 H2 => H2.callg (around0 how 7 w2 (by omega) h1) ?_)
  rintro _ w3 ⟨k, rfl, hk⟩ H3
  have H3 : LH F0 w w3 [.g b3, .g b6] [.tree t] := H3
  refine ⟨_, rfl, sel_eq (fun _ => ?_) (fun _ => sel_eq (fun _ => ?_) (fun _ => sel_eq (fun _ => ?_) (fun _ => sel_eq (fun _ => ?_) (fun _ => sel_eq (fun _ => ?_) (fun _ => sel_eq (fun _ => ?_) (fun _ => ?_))))))⟩
  · exact H3.locg (bs := [b3, b6]) (fun w4 H4 => fin b3 b6 (.mk by' t.lo t.hi t.s t.l) _ w4 _ _ _ _ (like by' t.lo t.hi H4) (by simp) (like_fp _ _ _) (like_sz _ _ _)) (by simp)
  · rw [← wrap_u8_back by']
    exact H3.locg (bs := [b3, b6]) (fun w4 H4 => fin b3 b6 (.mk t.k (UInt8.ofNat (IntKind.wrap .u8 by').toNat) t.hi t.s t.l) [.mk t.k (UInt8.ofNat (IntKind.wrap .u8 by').toNat) t.hi t.s t.l] w4 _ _ _ _ (like t.k (UInt8.ofNat (IntKind.wrap .u8 by').toNat) t.hi H4) (by simp) (like_fp _ _ _) (like_sz _ _ _)) (by simp)
  · rw [← wrap_u8_back by']
    exact H3.locg (bs := [b3, b6]) (fun w4 H4 => fin b3 b6 (.mk t.k t.lo (UInt8.ofNat (IntKind.wrap .u8 by').toNat) t.s t.l) [.mk t.k t.lo (UInt8.ofNat (IntKind.wrap .u8 by').toNat) t.s t.l] w4 _ _ _ _ (like t.k t.lo (UInt8.ofNat (IntKind.wrap .u8 by').toNat) H4) (by simp) (like_fp _ _ _) (like_sz _ _ _)) (by simp)
  · refine H3.nwrow (e := ty_enthymemeref04_Regex) (sz := 4) (n := 0) (cs := []) rfl (by decide) fun w7 H7 => ?_
    refine LH.apT (bs := [b3, b6]) H7 2 el_rf (s := ⟨some (at0 w3.heap.size), 0, 0⟩) (xs := []) (src := t.s) (news := t.l.flatMap Rt.c) rfl (show t.P w7 from H7.getD 0).parts.1 (fun v hv => ?_) (by show (0 + t.s.n) * 40 ≤ _; omega) (fun s' w8 H8 => ?_) (by simp)
    · obtain ⟨x, _, hv⟩ := List.mem_flatMap.1 hv
      unfold Rt.c at hv
      simp only [List.mem_cons, List.not_mem_nil, or_false] at hv
      rcases hv with rfl | rfl | rfl | rfl <;> rfl
    rw [← wrap_u8_back by']
    have H8 : LH F0 w w8 [.g b3, .g b6, .row ty_enthymemeref04_Regex 4 s' (t.l.flatMap Rt.c)] [.tree t] := H8
    have hn' := Rt.rows_n (H8.get 2 : OwnRow _ _ _ _ _).rdn
    refine LH.ap1T (bs := [b3, b6]) H8 2 el_rf rfl (fun s2 w10 H10 => LH.locg (bs := [b3, b6]) H10 (fun w11 H11 => LH.locg (bs := [b3, b6]) H11 (fun w12 H12 => ⟨⟨.mk t.k t.lo t.hi s2 (t.l ++ [.mk 2 3 (UInt8.ofNat (IntKind.wrap .u8 by').toNat) ⟨none, 0, 0⟩ []]), rfl, ?_, fun b hb => ?_, ?_⟩, H12.fr⟩) (by simp)) (by simp)) (by omega)
    · unfold Rt.P
      refine ⟨?_, Rt.ps_of fun v hv => ?_⟩
      · rw [cs_app]
        exact OwnRow.rdn (H12.get 2)
      · rcases List.mem_append.1 hv with hv | hv
        · exact (show t.P w12 from H12.getD 0).parts.2.mem hv
        · simp at hv; subst hv; exact leaf_P _ _ _ _
    · rcases Rt.fp_parts.1 hb with hb | hb
      · refine .inr ((H12.new _ (List.mem_of_getElem? (i := 2) rfl) b ?_).resolve_right id)
        show b ∈ blkL s2
        exact rdn_own (e := ty_enthymemeref04_Regex) (vs := (t.l ++ [Rt.mk 2 3 (UInt8.ofNat (IntKind.wrap .u8 by').toNat) ⟨none, 0, 0⟩ []]).flatMap Rt.c) hb
      · obtain ⟨v, hv, hbv⟩ := Rt.fps_iff.1 hb
        have hv : v ∈ t.l ++ [Rt.mk 2 3 (UInt8.ofNat (IntKind.wrap .u8 by').toNat) ⟨none, 0, 0⟩ []] := hv
        rcases List.mem_append.1 hv with hv | hv
        · exact .inl (Rt.fp_parts.2 (.inr (Rt.fps_iff.2 ⟨v, hv, hbv⟩)))
        · simp at hv
          rw [hv] at hbv
          exact (leaf_fp hbv).elim
    · refine ⟨?_, fun hv => few_lv _ ?_⟩
      · show 1 + Rt.szs _ ≤ _
        rw [gszs_app]
        have : Rt.szs [Rt.mk 2 3 (UInt8.ofNat (IntKind.wrap .u8 by').toNat) ⟨none, 0, 0⟩ []] = 1 := rfl
        omega
      · rw [lv_rx] at hv ⊢
        show max 1 (ms lvX (Rt.rxs (t.l ++ [Rt.mk 2 3 (UInt8.ofNat (IntKind.wrap .u8 by').toNat) ⟨none, 0, 0⟩ []]))) ≤ 13
        rw [rxs_app, ms_app]
        show max 1 (ms lvX (Rt.rxs t.l) + (1 + 0)) ≤ 13
        omega
  · exact H3.locg (bs := [b3, b6]) (fun w4 H4 => LH.locg (bs := [b3, b6]) H4 (fun w5 H5 => ⟨⟨.mk t.k t.lo t.hi ⟨none, 0, 0⟩ [], rfl, leaf_P _ _ _ _, fun b hb => (leaf_fp hb).elim, ⟨by rw [leaf_sz]; omega, fun _ => few_lv _ (by rw [lv_rx]; show max 1 0 ≤ 13; omega)⟩⟩, H5.fr⟩) (by simp)) (by simp)
  · have e : Rt.mk t.k t.lo t.hi t.s t.l = t := by cases t; rfl
    have := loop1 100 0 b3 b6 t [t] w3 (by omega) (by simp) (fun b hb => by have h := like_fp t.k t.lo t.hi b; rw [e] at h; exact h hb) (by omega) (fun hv => few_lv _ (by omega)) (by omega) (by have h := like t.k t.lo t.hi H3; rw [e] at h; exact h)
    exact this
  · exact loop2 100 0 b3 b6 ⟨none, 0, 0⟩ w3 (by omega) (by omega) (H3.nilrow ty_enthymemeref04_Regex 4)
theorem c_Spoilt (t : Rt) (hsz : t.sz ≤ 1000) (how by' : Int) (h1 : I64 how) (h2 : I64 by') (w : World) (pt : t.P w) : Calls Tryz.prog n_enthymemeref04_Spoilt #[t.v, .int .i64 how, .int .i64 by'] w fun r w' => SpoP t w r w' ∧ Fr0 w w' :=
  (c_Spoilt1 t hsz how by' h1 h2 w pt).mono fun _ _ ⟨⟨u, g1, g2, g3, g4⟩, f⟩ => ⟨⟨u, g1, g2, g3, g4.1⟩, f⟩
end Go.Proofs.YtknlbofiicflgaaGreat
