/- RegexNormal: what the law does. -/
import Derived.Test.YtknlbofiicflgaaGreatGN
import Derived.Test.YtknlbofiicflgaaGreatNM
import Derived.Test.YtknlbofiicflgaaGreatN6
import Derived.Test.YtknlbofiicflgaaGreatN12
import Derived.Test.YtknlbofiicflgaaGreatG3
import Derived.Test.YtknlbofiicflgaaGreatG8
import Derived.Test.YtknlbofiicflgaaGreatM4
import Derived.Test.YtknlbofiicflgaaGreatVQ
namespace Go.Proofs.YtknlbofiicflgaaGreat
open Go Go.W
namespace Nor

theorem nm_zero {x : Rx} (h : nmE x = 0) : validR x = 0 ∧ (normX x).sz ≤ 64 ∧ nmR x = normX x := by
  unfold nmE at h
  unfold nmR
  split at h
  · rename_i hv
    unfold limE at h
    split at h
    · cases h
    · rename_i hs
      rw [if_pos hv]
      unfold limR
      rw [if_neg hs]
      exact ⟨hv, by omega, rfl⟩
  · rename_i hv; exact absurd h hv
theorem nm_again {x : Rx} (h : nmE x = 0) : validR (normX x) = 0 ∧ nmE (normX x) = 0 ∧ nmR (normX x) = normX x := by
  obtain ⟨hv, hs, -⟩ := nm_zero h
  obtain ⟨hg, _⟩ := valid_good hv
  have hn := norm_nf x hg
  have hv2 : validR (normX x) = 0 := by
    unfold validR
    rw [if_neg (by omega), if_pos (nf_good _ hn)]
  refine ⟨hv2, ?_, ?_⟩
  · unfold nmE limE
    rw [if_pos hv2, nf_norm _ hn, if_neg (by omega)]
  · unfold nmR limR
    rw [if_pos hv2, nf_norm _ hn, if_neg (by omega)]
section
variable {ws all : Sl} {T : List Rt} {zs : List Int} {w : World}
abbrev R0 (w : World) : Post := fun r w' => r = .returned (.bool true) ∧ Fr0 w w'
theorem words (hz : ∀ x ∈ zs, I64 x) {i : Nat} {a A : Rt} (gi : T[i]? = some a) (sa : a.sz ≤ 1000) (hE : nmE a.rx = 0) (hA : A.rx = normX a.rx) (sA : A.sz ≤ 1000) {b12 : Nat} (nx : ∀ w1, LH F0 w w1 [.g b12] [Rt.row all T, .trees T, .rd ws (zs.map intV), .tree A] → enthymemelaw04_RegexNormal.S2T ws all (i : Int) w1 (R0 w)) :
    ∀ (d k : Nat) (w1 : World), k + d = 6 → LH F0 w w1 [.g b12] [Rt.row all T, .trees T, .rd ws (zs.map intV), .tree A] → enthymemelaw04_RegexNormal.L4T ws all (i : Int) b12 A.k A.lo.toNat A.hi.toNat A.s (k : Int) w1 (R0 w) := by
  have hli := (List.getElem?_eq_some_iff.1 gi).1
  obtain ⟨hv, hs, -⟩ := nm_zero hE
  obtain ⟨hg, _⟩ := valid_good hv
  obtain ⟨hv2, -, -⟩ := nm_again hE
  intro d
  induction d with
  | zero =>
    intro k w1 hk H
    exact enthymemelaw04_RegexNormal.L4T_step _ _ _ _ _ _ _ _ _ _ _ (sel_dec (fun _ => sel_false (decide_eq_false (by omega)) (nx w1 H)) fun _ => nx w1 H)
  | succ d ihd =>
    intro k w1 hk H
    have hlen := Nums.len (show Nums w1 ws zs from H.getD 2)
    have nall := Rt.rows_n (show RdN 4 w1 all (T.flatMap Rt.c) from H.getD 0)
    refine enthymemelaw04_RegexNormal.L4T_step _ _ _ _ _ _ _ _ _ _ _ (sel_dec (fun hlt => sel_true (decide_eq_true (by omega)) ?_) fun _ => nx w1 H)
    have hgz : zs[k]? = some (zs[k]'(by omega)) := List.getElem?_eq_getElem (by omega)
    have hzI := hz _ (List.mem_of_getElem? hgz)
    generalize zs[k]'(by omega) = z at hgz hzI
    have wsz : (ba (wordX z)).size ≤ 64 := by
      have := wordX_len z
      rw [← bl_len]; simp [bl, ba]; omega
    have cell : ∀ (w' : World) (q : Addr), Nums w' ws zs → ws.a = some q → w'.cell? (q.add (Int.toNat (k : Int) * 1)) = some (.i z) := fun w' q hn hq => by
      have := Nums.cell hn hgz (j := k * 1) (by simp) (K := fun q' => w'.cell? (q'.add (Int.toNat (k : Int) * 1)) = some (.i z)) fun _ _ h => h
      rw [hq] at this
      exact this
    refine ⟨by omega, by omega, Rt.at' (H.getD 0) gi fun p hp _ => H.locg fun w2 H2 => ?_⟩
    have c2 := Rt.again (H2.getD 0) gi hp
    refine ⟨_, _, _, a.s, c2.c0, c2.c1, c2.c2, c2.c3, by omega, hlt, Nums.cell (show Nums w2 ws zs from H2.getD 2) hgz (by simp) fun q hq hc => ⟨z, hc, H2.callr (c_own a w2 (by omega) ((show Rt.Ps w2 T from H2.getD 1).get gi)) ?_⟩⟩
    rintro _ w3 ⟨u, rfl, eu, pu, fu⟩ _ F3
    have H3 := F3.rd (.tree u) pu fun x hx => fu x (mem_nub.1 hx)
    have su : u.sz ≤ 1000 := by rw [← Rt.rx_sz, eu, Rt.rx_sz]; exact sa
    refine ⟨_, _, _, u.s, rfl, cell w3 q (H3.getD 2) hq, H3.callg (c_WordX z hzI w3) ?_⟩
    rintro _ w4 rfl H4
    refine ⟨_, rfl, H4.callg (c_MatchG (ba (wordX z)) wsz u w4 (by omega) (H4.getD 4)) ?_⟩
    rintro _ w5 rfl H5
    refine ⟨_, _, rfl, by omega, hlt, Nums.cell (j := k) (show Nums w5 ws zs from H5.getD 2) hgz (by simp) fun q hq hc => H5.locg fun w6 H6 => ⟨z, cell w6 q (H6.getD 2) hq, H6.callg (c_WordX z hzI w6) ?_⟩⟩
    rintro _ w7 rfl H7
    refine ⟨_, rfl, H7.callg (c_MatchG (ba (wordX z)) wsz A w7 (by omega) (H7.getD 3)) ?_⟩
    rintro _ w8 rfl H8
    have ev : ∀ x : Rx, validR x = 0 → (if validR x = 0 then spanQ (bl (ba (wordX z))) x 0 (ba (wordX z)).size else false) = matchD x (bl (ba (wordX z))) := fun x hx => by
      rw [if_pos hx, ← bl_len, span_match _ _ _ _ (by omega) (Nat.le_refl _), part_all]
    rw [eu, hA, ev _ hv, ev _ hv2, norm_match _ _ hg, hv, hv2]
    refine ⟨_, _, rfl, sel_ne (fun h => absurd rfl h) fun _ => sel_ne (fun h => absurd rfl h) fun _ => sel_false (by simp) ?_⟩
    rw [i64_next _ (by omega)]
    exact ihd (k + 1) w8 (by omega) (H8.forget _ (by simp))
theorem loops (hz : ∀ x ∈ zs, I64 x) (h2T : T.length = 2) (hT : ∀ t ∈ T, t.sz ≤ 122 ∧ fewR 13 t.rx) : ∀ (d i : Nat) (w1 : World), i + d = 2 → LH F0 w w1 [] [Rt.row all T, .trees T, .rd ws (zs.map intV)] → enthymemelaw04_RegexNormal.L0T ws all (i : Int) w1 (R0 w) := by
  intro d
  induction d with
  | zero =>
    intro i w1 hi H
    refine enthymemelaw04_RegexNormal.L0T_step _ _ _ _ _ (sel_false (decide_eq_false (by omega)) (H.call (c_lives w1) ?_))
    rintro _ w2 rfl H2
    exact ⟨true, rfl, rfl, H2.fr⟩
  | succ d ihd =>
    intro i w1 hi H
    have gi : T[i]? = some (T[i]'(by omega)) := List.getElem?_eq_getElem (by omega)
    generalize T[i]'(by omega) = a at gi
    obtain ⟨sa, fa⟩ := hT a (List.mem_of_getElem? gi)
    have nall := Rt.rows_n (show RdN 4 w1 all (T.flatMap Rt.c) from H.getD 0)
    have nx : ∀ (w2 : World) (L D : List En), LH F0 w w2 L (Rt.row all T :: .trees T :: .rd ws (zs.map intV) :: D) → enthymemelaw04_RegexNormal.S2T ws all (i : Int) w2 (R0 w) := fun w2 L D H2 => by
      show enthymemelaw04_RegexNormal.L0T _ _ _ _ _
      rw [i64_next _ (by omega)]
      exact ihd (i + 1) w2 (by omega) ((H2.take 0).forget _ (by simp))
    refine enthymemelaw04_RegexNormal.L0T_step _ _ _ _ _ (sel_true (decide_eq_true (by omega)) ⟨by omega, by omega, Rt.at' (H.getD 0) gi fun p hp c => ⟨_, _, _, a.s, c.c0, c.c1, c.c2, c.c3, ?_⟩⟩)
    refine H.callq (c_own a w1 (by omega) ((show Rt.Ps w1 T from H.getD 1).get gi)) ?_
    rintro _ w2 ⟨u, rfl, eu, pu, fu⟩ _ F2
    have H2 := F2.rd (.tree u) pu fun x hx => fu x (mem_nub.1 hx)
    have su : u.sz ≤ 1000 := by rw [← Rt.rx_sz, eu, Rt.rx_sz]; omega
    refine ⟨_, _, _, u.s, rfl, H2.callq (c_Normal sort13 (by decide) u w2 (by omega) (by rw [eu]; exact fa) (H2.getD 3)) ?_⟩
    rintro _ w3 ⟨A, rfl, eA, pA, nA⟩ _ F3
    have H3 := F3.rd (.tree A) pA fun x hx => nA x (mem_nub.1 hx)
    rw [eu] at eA ⊢
    refine ⟨_, _, _, A.s, _, rfl, H3.newg fun b12 w4 H4 => ⟨by omega, by omega, Rt.at' (H4.getD 0) gi fun p hp _ => H4.locg fun w5 H5 => ?_⟩⟩
    have c5 := Rt.again (H5.getD 0) gi hp
    have hold : ∀ (D : List En), ∀ b ∈ a.fp, ∃ g ∈ (Rt.row all T :: .trees T :: D), b ∈ g.fp := fun D b hb => ⟨.trees T, by simp, mem_nub.2 (Rt.fps_iff.2 ⟨a, List.mem_of_getElem? gi, hb⟩)⟩
    refine ⟨_, _, _, a.s, c5.c0, c5.c1, c5.c2, c5.c3, callF0 ((c_refNormal a w5 (by omega) ((show Rt.Ps w5 T from H5.getD 1).get gi)).mono ?_)⟩
    rintro _ w6 ⟨⟨B, rfl, eB, pB, nB⟩, f6⟩
    have H6 := H5.addD (.tree B) f6 pB fun b hb => (nB b (mem_nub.1 hb)).imp id fun h => .inr (hold _ b h)
    refine ⟨f6, _, _, _, B.s, _, rfl, H6.newg fun b14 w7 H7 => ⟨by omega, by omega, Rt.at' (H7.getD 0) gi fun p hp _ => H7.locg fun w8 H8 => ?_⟩⟩
    have c8 := Rt.again (H8.getD 0) gi hp
    refine ⟨_, _, _, a.s, c8.c0, c8.c1, c8.c2, c8.c3, by omega, by omega, Rt.at' (H8.getD 0) gi fun p hp c => ⟨_, _, _, a.s, c.c0, c.c1, c.c2, c.c3, H8.callr (c_own a w8 (by omega) ((show Rt.Ps w8 T from H8.getD 1).get gi)) ?_⟩⟩
    rintro _ w9 ⟨v, rfl, ev, pv, fv⟩ _ F9
    have H9 := F9.rd (.tree v) pv fun x hx => fv x (mem_nub.1 hx)
    have sv : v.sz ≤ 1000 := by rw [← Rt.rx_sz, ev, Rt.rx_sz]; omega
    have c9 := Rt.again (H9.getD 0) gi hp
    refine ⟨_, _, _, v.s, rfl, c9.c0, c9.c1, c9.c2, c9.c3, H9.callg (c_Valid v w9 (by omega) (H9.getD 6)) ?_⟩
    rintro _ w10 rfl H10
    have c10 := Rt.again (H10.getD 0) gi hp
    refine ⟨_, rfl, c10.c0, c10.c1, c10.c2, c10.c3, H10.callg (c_refValid a w10 (by omega) ((show Rt.Ps w10 T from H10.getD 1).get gi)) ?_⟩
    rintro _ w11 rfl H11
    rw [ev]
    have hszn : (nmR a.rx).sz ≤ 1000 := by
      unfold nmR limR
      split
      · split
        · decide
        · omega
      · decide
    have sA : A.sz ≤ 1000 := by rw [← Rt.rx_sz, eA]; exact hszn
    refine ⟨_, rfl, sel_ne (fun h => absurd rfl h) fun _ => sel_ne (fun h => absurd rfl h) fun _ => H11.callg (c_same A B w11 (by omega) (H11.getD 4) (H11.getD 5)) ?_⟩
    rintro _ w12 rfl H12
    have e1 : (cmpR A.rx B.rx == 0) = true := cmp_iff.2 (by rw [eA, eB])
    rw [e1]
    refine ⟨_, rfl, sel_false rfl (sel_ne (fun _ => nx w12 _ _ H12) fun hE => ?_)⟩
    obtain ⟨hv, hsz, hnm⟩ := nm_zero hE
    obtain ⟨hv2, hE2, hnm2⟩ := nm_again hE
    obtain ⟨hg, _⟩ := valid_good hv
    rw [hnm] at eA
    refine H12.callr (c_Normal sort13 (by decide) A w12 (by omega) (by rw [eA]; exact norm_few _ hg fa) (H12.getD 4)) ?_
    rintro _ w13 ⟨C, rfl, eC, pC, nC⟩ _ F13
    have H13 := F13.rd (.tree C) pC fun x hx => nC x (mem_nub.1 hx)
    rw [eA] at eC ⊢
    rw [hnm2] at eC
    rw [hE2]
    refine ⟨_, _, _, C.s, _, rfl, H13.newg fun b16 w14 H14 => sel_ne (fun h => absurd rfl h) fun _ => H14.locg fun w15 H15 => H15.callg (c_Compare A C w15 (by omega) (H15.getD 4) (H15.getD 7)) ?_⟩
    rintro _ w16 rfl H16
    rw [eA, eC, cmp_self]
    refine ⟨_, rfl, sel_ne (fun h => absurd rfl h) fun _ => ⟨by omega, by omega, Rt.at' (H16.getD 0) gi fun p hp c => ⟨_, _, _, a.s, c.c0, c.c1, c.c2, c.c3, H16.callr (c_copy A w16 (by omega) (H16.getD 4)) ?_⟩⟩⟩
    rintro _ w17 ⟨Q, rfl, eQ, pQ, nQ⟩ _ F17
    have H17 := F17.rd (.tree Q) pQ fun x hx => nQ x (mem_nub.1 hx)
    have c17 := Rt.again (H17.getD 0) gi hp
    have sQ : Q.sz = (normX a.rx).sz := by rw [← Rt.rx_sz, eQ, eA]
    refine ⟨_, _, _, Q.s, rfl, c17.c0, c17.c1, c17.c2, c17.c3, H17.callg (c_Nodes Q w17 (by omega) (H17.getD 8)) ?_⟩
    rintro _ w18 rfl H18
    have c18 := Rt.again (H18.getD 0) gi hp
    refine ⟨_, rfl, c18.c0, c18.c1, c18.c2, c18.c3, H18.callg (c_Nodes a w18 (by omega) ((show Rt.Ps w18 T from H18.getD 1).get gi)) ?_⟩
    rintro _ w19 rfl H19
    have hle := norm_sz a.rx hg
    rw [Rt.rx_sz] at hle
    refine ⟨_, rfl, sel_false (decide_eq_false ?_) ?_⟩
    · rw [IntWalk.i64_in _ (by omega)]
      omega
    exact words hz gi (by omega) hE eA sA (fun w' H' => nx w' _ _ H') 6 0 w19 (by omega) ((H19.take 1).forget _ (by simp))
theorem walk (l : Sl) (how by' : Int) (ws : Sl) (w : World) (hl : ArgNums w l) (h1 : I64 how) (h2 : I64 by') (hws : ArgNums w ws) :
    Calls Tryz.prog n_enthymemelaw04_RegexNormal #[l.v, .int .i64 how, .int .i64 by', ws.v] w fun r w' => r = .returned (.bool true) ∧ Fr0 w w' := by
  obtain ⟨xs, hls, _, hx⟩ := hl
  obtain ⟨zs, hzs, _, hz⟩ := hws
  have H0 : LH F0 w w [] [.rd ws (zs.map intV)] := lh0 _ (by
    intro e he
    simp only [List.mem_cons, List.not_mem_nil, or_false] at he
    subst he
    exact hzs)
  refine enthymemelaw04_RegexNormal.okT _ _ _ _ w _ (H0.callq (c_Made1 l xs w hls hx) ?_)
  rintro _ w1 ⟨t1, rfl, p1, n1, s1, _, v1⟩ _ F1
  have H1 := F1.rd (.tree t1) p1 fun b hb => n1 b (mem_nub.1 hb)
  refine ⟨_, _, _, t1.s, rfl, H1.newg fun b11 w2 H2 => H2.locg fun w7 H7 => callF0 ((c_Spoilt1 t1 (by omega) how by' h1 h2 w7 (H7.getD 1)).mono ?_)⟩
  rintro _ w8 ⟨⟨t2, rfl, p2, n2, s2, f2⟩, fr8⟩
  have H8 := H7.addD (.tree t2) fr8 p2 fun b hb => by
    rcases n2 b (mem_nub.1 hb) with h | h
    · exact .inr (.inr ⟨_, List.mem_of_getElem? (i := 1) rfl, mem_nub.2 h⟩)
    · exact .inl h
  refine ⟨fr8, _, _, _, t2.s, rfl, H8.nwrow (n := 2) (sz := 4) (cs := [t1, t2].flatMap Rt.c) rfl (by decide) fun w9 H9 => ?_⟩
  have H14 := H9.addD (.trees [t1, t2]) (Fr.refl _ _) (Rt.ps_of fun u hu => by
    simp only [List.mem_cons, List.not_mem_nil, or_false] at hu
    rcases hu with rfl | rfl
    · exact H9.getD 1
    · exact H9.getD 2) (fun b hb => by
    obtain ⟨u, hu, hb'⟩ := Rt.fps_iff.1 (mem_nub.1 hb)
    simp only [List.mem_cons, List.not_mem_nil, or_false] at hu
    rcases hu with rfl | rfl
    · exact .inr (.inr ⟨_, List.mem_of_getElem? (i := 1) rfl, mem_nub.2 hb'⟩)
    · exact .inr (.inr ⟨_, List.mem_of_getElem? (i := 2) rfl, mem_nub.2 hb'⟩))
  have H15 := H14.freeze 1 (Rt.row ⟨some (at0 w8.heap.size), 2, 2⟩ [t1, t2]) rfl (OwnRow.rdn (H14.get 1)) fun b hb => rdn_own hb
  have H16 := (H15.take 0).forget [Rt.row ⟨some (at0 w8.heap.size), 2, 2⟩ [t1, t2], .trees [t1, t2], .rd ws (zs.map intV)] (by simp)
  exact loops hz rfl (by
    intro t ht
    simp only [List.mem_cons, List.not_mem_nil, or_false] at ht
    rcases ht with rfl | rfl
    · exact ⟨by omega, few_lv _ (by omega)⟩
    · exact ⟨by omega, f2 v1⟩) 2 0 w9 (by omega) H16
end
end Nor
end Go.Proofs.YtknlbofiicflgaaGreat
