/- Normal of the package and of the reference; package enthymemelaw04: plain, same: the contracts. -/
import Derived.Test.YtknlbofiicflgaaGreatG9
import Derived.Test.YtknlbofiicflgaaGreatNF
import Derived.Test.YtknlbofiicflgaaGreatN11
import Derived.Test.YtknlbofiicflgaaGreatVW
namespace Go.Proofs.YtknlbofiicflgaaGreat
open Go Go.W

abbrev PlOk (n : Nat) : Prop := ∀ (t : Rt) (w : World), t.sz ≤ n → t.P w → Calls Tryz.prog n_enthymemelaw04_plain #[t.v] w fun r w' => RetT w t.rx r w' ∧ Fr0 w w'
theorem c_copyN : ∀ n : Nat, n ≤ 1000000 → PlOk n
  | 0, _ => fun t w h _ => absurd h (by have := Rt.sz_pos t; omega)
  | n + 1, hn => fun t w h pt => by
    have ih := c_copyN n (by omega)
    have hs := Rt.sz_parts t
    have hl := Rt.szs_len t.l
    have nr := Rt.rows_n pt.parts.1
    have loop : ∀ (d i : Nat) (ks : List Rt) (sl : Sl) (b1 b2 b3 : Nat) (w1 : World), i + d = t.l.length → ks.length = i → Rt.rxs ks = Rt.rxs (t.l.take i) → (∀ b ∈ Rt.fps ks, w.heap.size ≤ b) → LH F0 w w1 [.g b1, .g b2, .g b3, .row ty_enthymemeref04_Regex 4 sl (ks.flatMap Rt.c)] [.tree t, .trees ks] →
        enthymemelaw04_plain.L0T b1 t.k t.lo.toNat t.hi.toNat t.s b2 0 0 0 ⟨none, 0, 0⟩ b3 t.k t.lo.toNat t.hi.toNat sl (i : Int) w1 fun r w' => RetT w t.rx r w' ∧ Fr0 w w' := by
      intro d
      induction d with
      | zero =>
        intro i ks sl b1 b2 b3 w1 hi hk he hf H
        refine enthymemelaw04_plain.L0T_step _ _ _ _ _ _ _ _ _ _ _ _ _ _ _ _ _ _ (sel_false (decide_eq_false (by omega)) (H.locg fun w2 H2 => ⟨⟨.mk t.k t.lo t.hi sl ks, rfl, ?_, ?_, fun b hb => ?_⟩, H2.fr⟩))
        · rw [Rt.rx_parts t]
          unfold Rt.rx
          rw [he, List.take_of_length_le (by omega)]
        · unfold Rt.P
          exact ⟨OwnRow.rdn (H2.get 3), H2.getD 1⟩
        · unfold Rt.fp at hb
          rcases List.mem_append.1 hb with hb | hb
          · exact (H2.new _ (List.mem_of_getElem? (i := 3) rfl) b (rdn_own hb)).resolve_right id
          · exact hf b hb
      | succ d ihd =>
        intro i ks sl b1 b2 b3 w1 hi hk he hf H
        have hg : t.l[i]? = some (t.l[i]'(by omega)) := List.getElem?_eq_getElem (by omega)
        generalize t.l[i]'(by omega) = a at hg
        have sza := Rt.szs_mem (List.mem_of_getElem? hg)
        have pt1 : t.P w1 := H.getD 0
        refine enthymemelaw04_plain.L0T_step _ _ _ _ _ _ _ _ _ _ _ _ _ _ _ _ _ _ (sel_true (decide_eq_true (by omega)) ⟨by omega, by omega, ?_⟩)
        refine Rt.at' pt1.parts.1 hg fun p hp _ => H.locg fun w3 H3 => ?_
        have c := Rt.again (show t.P w3 from H3.getD 0).parts.1 hg hp
        refine ⟨_, _, _, _, c.c0, c.c1, c.c2, c.c3, H3.callr (ih a w3 (by omega) ((show t.P w3 from H3.getD 0).parts.2.get hg)) ?_⟩
        rintro _ w4 ⟨u, rfl, hu, pu, fu⟩ _ F4
        have H4 := F4.rd (.tree u) pu fun b hb => fu b (mem_nub.1 hb)
        have hn' := Rt.rows_n (H4.get 3 : OwnRow _ _ _ _ _).rdn
        refine ⟨_, _, _, _, rfl, H4.ap1T 3 el_rf9 rfl (fun s' w5 H5 => ?_) (by omega)⟩
        have H6 := (H5.snocT 1 2).take 4
        refine LH.locg (bs := [b1, b2, b3]) (H6.forget [.tree t, .trees (ks ++ [u])] (by simp)) (fun w7 H7 => ?_) (by simp)
        rw [i64_next _ (by omega)]
        refine ihd (i + 1) (ks ++ [u]) s' b1 b2 b3 w7 (by omega) (by simp [hk]) ?_ ?_ ?_
        · rw [rxs_app, he, List.take_add_one, hg, rxs_app]
          simp [Rt.rxs, hu]
        · intro b hb
          obtain ⟨t', ht, hb'⟩ := Rt.fps_iff.1 hb
          rcases List.mem_append.1 ht with ht | ht
          · exact hf b (Rt.fps_iff.2 ⟨t', ht, hb'⟩)
          · simp at ht
            rw [ht] at hb'
            exact Nat.le_trans H3.fr.size (fu b hb')
        · rw [cs_snoc]
          exact H7
    refine enthymemelaw04_plain.okT _ _ _ _ w _ ((lhT pt).newg fun b1 w1 H1 => H1.newg fun b2 w2 H2 => H2.newg fun b3 w3 H3 => H3.locg fun w4 H4 => ?_)
    have H5 := H4.nilrow ty_enthymemeref04_Regex 4
    have H6 := H5.addD (.trees []) (Fr.refl _ _) (by show Rt.Ps w4 []; unfold Rt.Ps; trivial) (fun b hb => by
      have := mem_nub.1 hb
      unfold Rt.fps at this
      cases this)
    exact loop t.l.length 0 [] ⟨none, 0, 0⟩ b1 b2 b3 w4 (by omega) rfl rfl (fun b hb => by unfold Rt.fps at hb; cases hb) H6
theorem c_copy (t : Rt) (w : World) (h : t.sz ≤ 1000000) (pt : t.P w) : Calls Tryz.prog n_enthymemelaw04_plain #[t.v] w fun r w' => RetT w t.rx r w' ∧ Fr0 w w' := c_copyN 1000000 (Nat.le_refl _) t w h pt
theorem c_same (a b : Rt) (w : World) (ha : a.sz ≤ 1000000) (pa : a.P w) (pb : b.P w) : Calls Tryz.prog n_enthymemelaw04_same #[a.v, b.v] w fun r w' => r = .returned (.bool (cmpR a.rx b.rx == 0)) ∧ Fr0 w w' := by
  refine enthymemelaw04_same.okT _ _ _ _ _ _ _ _ w _ ((lh0 [.tree a, .tree b] (by
    intro e he
    simp only [List.mem_cons, List.not_mem_nil, or_false] at he
    rcases he with rfl | rfl
    · exact pa
    · exact pb)).newg fun b1 w1 H1 => H1.newg fun b2 w2 H2 => H2.locg fun w3 H3 => H3.callr (c_copy a w3 ha (H3.getD 0)) ?_)
  rintro _ w4 ⟨u, rfl, hu, pu, fu⟩ _ F4
  have H4 := F4.rd (.tree u) pu fun b hb => fu b (mem_nub.1 hb)
  have szu : u.sz ≤ 1000000 := by rw [← Rt.rx_sz, hu, Rt.rx_sz]; exact ha
  refine ⟨_, _, _, u.s, rfl, H4.callg (c_refCompare u b w4 szu (H4.getD 2) (H4.getD 1)) ?_⟩
  rintro _ w5 rfl H5
  exact ⟨_, rfl, by rw [hu], H5.fr⟩
/-! #### simple -/
theorem nf_k {x : Rx} (h : NF x) : 0 ≤ x.k := by
  cases x
  unfold NF at h
  simp only [Rx.k]
  omega
theorem norm_small {x : Rx} (h : goodR x = true) (hk : x.k < 3) : normX x = x := by
  cases x with
  | mk k lo hi l =>
    have hk3 : k < 3 := hk
    clear hk
    obtain ⟨h1, h2, h3⟩ := good_mk h
    rcases h3 with ⟨hk, rfl⟩ | ⟨rfl, rfl, hle⟩ | hk | ⟨hk, c, rfl⟩
    · rcases hk with rfl | rfl <;> rfl
    · rfl
    · omega
    · omega
theorem goodL_mem' : ∀ {l : List Rx} {a : Rx}, goodL l = true → a ∈ l → goodR a = true := goodL_mem
abbrev SmOk (n : Nat) : Prop := ∀ (x : Rt) (w : World), x.sz ≤ n → goodR x.rx = true → x.P w → Calls Tryz.prog n_enthymemeref04_simple #[x.v] w fun r w' => RetF x.fp w (normX x.rx) r w' ∧ Fr0 w w'
theorem c_simpleN : ∀ n : Nat, n ≤ 1000 → SmOk n
  | 0, _ => fun x w h _ _ => absurd h (by have := Rt.sz_pos x; omega)
  | n + 1, hn => fun x w h hgd px => by
    have ih := c_simpleN n (by omega)
    have hs := Rt.sz_parts x
    have hl := Rt.szs_len x.l
    have nr := Rt.rows_n px.parts.1
    refine enthymemeref04_simple.okT _ _ _ _ w _ ((lhT px).newg fun b1 w1 H1 => H1.newg fun b2 w2 H2 => sel_dec (fun hk => H2.locg fun w3 H3 => ⟨⟨x, rfl, (norm_small hgd (by rw [rx_k]; exact hk)).symm, H3.getD 0, fun b hb => .inr hb⟩, H3.fr⟩) (fun hk => ?_))
    have hg2 := hgd
    rw [Rt.rx_parts] at hg2
    obtain ⟨hgl, hlo, hkind⟩ := good_mk hg2
    obtain ⟨elo, ehi⟩ := hlo (by omega)
    have enx : normX x.rx = formX (.mk x.k 0 0 (normXs (Rt.rxs x.l))) := by
      rw [Rt.rx_parts, elo, ehi]
      unfold normX
      rfl
    have loop : ∀ (d i : Nat) (acc : List Rt) (sl : Sl) (w1 : World), i + d = x.l.length → Rt.rxs acc = normXs (Rt.rxs (x.l.take i)) → (∀ b ∈ Rt.fps acc, w.heap.size ≤ b ∨ b ∈ x.fp) →
        LH F0 w w1 [.g b1, .g b2, .row ty_enthymemeref04_Regex 4 sl (acc.flatMap Rt.c)] [.tree x, .trees acc] →
        enthymemeref04_simple.L0T b1 x.k x.lo.toNat x.hi.toNat x.s b2 0 0 0 ⟨none, 0, 0⟩ sl (i : Int) w1 fun r w' => RetF x.fp w (normX x.rx) r w' ∧ Fr0 w w' := by
      intro d
      induction d with
      | zero =>
        intro i acc sl w1 hi he hf H
        rw [List.take_of_length_le (by omega)] at he
        have hnew : ∀ b ∈ (Rt.row sl acc).fp, w.heap.size ≤ b := fun b hb => (H.new _ (List.mem_of_getElem? (i := 2) rfl) b (rdn_own hb)).resolve_right id
        have H' : LH F0 w w1 [.g b1, .g b2] [.tree x, .trees acc, Rt.row sl acc, .tree (.mk x.k 0 0 sl acc)] := H.rowT 2 1 x.k 0 0
        have erx : Rx.mk x.k 0 0 (Rt.rxs acc) = .mk x.k 0 0 (normXs (Rt.rxs x.l)) := by rw [he]
        have hsz0 : (Rx.mk x.k x.lo x.hi (Rt.rxs x.l)).sz ≤ 10000 := by
          rw [← Rt.rx_parts, Rt.rx_sz]; omega
        have hok := form_of (N := 100000) hg2 hsz0 (few_lv _ (by
          have hle : ∀ y : Rx, lvX y ≤ y.sz := lv_sz
          have := hle (Rx.mk x.k x.lo x.hi (Rt.rxs x.l))
          omega))
        unfold okForm at hok
        rw [Bool.and_eq_true, Bool.and_eq_true] at hok
        have hsz : (Rt.mk x.k 0 0 sl acc).sz ≤ 10000 := by
          have h1 := Rt.rx_sz (Rt.mk x.k 0 0 sl acc)
          have h2 := norms_sz (Rt.rxs x.l) hgl
          have h3 := Rt.rxs_sz x.l
          rw [szs_ms] at h3
          rw [← h1]
          show (Rx.mk x.k 0 0 (Rt.rxs acc)).sz ≤ _
          rw [erx, sz_mk]
          omega
        have hfo : formOk (.mk x.k 0 0 (Rt.rxs acc)) = true := by
          rw [erx]
          have := hok.1.1
          rw [elo, ehi] at this
          exact this
        refine enthymemeref04_simple.L0T_step _ _ _ _ _ _ _ _ _ _ _ _ _ _ (sel_false (decide_eq_false (by omega)) ?_)
        refine H'.callt (c_refnorm (.mk x.k 0 0 sl acc) ⟨by show 3 ≤ x.k; omega, by show x.k ≤ 7; omega⟩ hsz hfo (fun c hc => ?_) w1 (H'.getD 3)) (fun b hb => ⟨_, List.mem_of_getElem? (i := 3) rfl, mem_nub.2 hb⟩) fun t w2 ht H2 ft => ?_
        · have hc' : c.rx ∈ normXs (Rt.rxs x.l) := by
            rw [← he, Rt.rxs_map]
            exact List.mem_map.2 ⟨c, hc, rfl⟩
          have := nf_k (norms_nf (Rt.rxs x.l) hgl _ hc')
          rwa [rx_k] at this
        refine ⟨_, _, _, t.s, rfl, H2.locg fun w3 H3 => ⟨⟨t, rfl, ?_, H3.getD 4, fun b hb => ?_⟩, H3.fr⟩⟩
        · rw [ht, enx]
          show formX (Rx.mk x.k 0 0 (Rt.rxs acc)) = _
          rw [he]
        · rcases ft b hb with hb | hb
          · exact .inl (Nat.le_trans H.fr.size hb)
          · unfold Rt.fp at hb
            rcases List.mem_append.1 hb with hb | hb
            · exact .inl (hnew b hb)
            · exact hf b hb
      | succ d ihd =>
        intro i acc sl w1 hi he hf H
        have hg : x.l[i]? = some (x.l[i]'(by omega)) := List.getElem?_eq_getElem (by omega)
        generalize x.l[i]'(by omega) = a at hg
        have ma := List.mem_of_getElem? hg
        have sza := Rt.szs_mem ma
        have ga : goodR a.rx = true := goodL_mem hgl (by rw [Rt.rxs_map]; exact List.mem_map.2 ⟨a, ma, rfl⟩)
        have ffp : ∀ b ∈ a.fp, b ∈ x.fp := fun b hb => Rt.fp_parts.2 (.inr (Rt.fps_iff.2 ⟨a, ma, hb⟩))
        refine enthymemeref04_simple.L0T_step _ _ _ _ _ _ _ _ _ _ _ _ _ _ (sel_true (decide_eq_true (by omega)) (part_el (show x.P w1 from H.getD 0) rfl hg ?_))
        refine H.callt (ih a w1 (by omega) ga ((show x.P w1 from H.getD 0).parts.2.mem ma)) (fun b hb => ⟨_, List.mem_of_getElem? (i := 0) rfl, mem_nub.2 (ffp b hb)⟩) fun t w2 ht H2 ft => ?_
        have nrow := Rt.rows_n (H2.get 2 : OwnRow _ _ _ _ _).rdn
        have lacc : acc.length = i := by
          have h1 := congrArg List.length he
          rw [Rt.rxs_map, normXs_map, Rt.rxs_map] at h1
          simp only [List.length_map, List.length_take] at h1
          omega
        refine ⟨_, _, _, t.s, rfl, H2.ap1T 2 el_rf9 (xs := acc.flatMap Rt.c) rfl (fun s' w3 H3 => ?_) (by omega)⟩
        have H4 := (H3.snocT 1 2).take 3
        rw [i64_next _ (by omega)]
        refine ihd (i + 1) (acc ++ [t]) s' w3 (by omega) ?_ (fps_snoc hf fun b hb => ?_) ?_
        · rw [rxs_app, he, List.take_add_one, hg, Option.toList_some, rxs_app, normXs_map, normXs_map, List.map_append]
          show _ ++ [t.rx] = _
          rw [ht]; rfl
        · rcases ft b hb with hb | hb
          · exact .inl (Nat.le_trans H.fr.size hb)
          · exact .inr (ffp b hb)
        · rw [cs_snoc]
          exact H4.forget _ (by simp)
    exact loop x.l.length 0 [] ⟨none, 0, 0⟩ w2 (by omega) rfl (fun b hb => by unfold Rt.fps at hb; cases hb) (no_trees (H2.nilrow ty_enthymemeref04_Regex 4))
theorem c_simple (x : Rt) (w : World) (h : x.sz ≤ 1000) (hg : goodR x.rx = true) (px : x.P w) : Calls Tryz.prog n_enthymemeref04_simple #[x.v] w fun r w' => RetF x.fp w (normX x.rx) r w' ∧ Fr0 w w' := c_simpleN 1000 (Nat.le_refl _) x w h hg px
/-! #### Normal -/
def nmR (x : Rx) : Rx := if validR x = 0 then limR (normX x) else noR
def nmE (x : Rx) : Int := if validR x = 0 then limE (normX x) else validR x
def RetF2 (old : List Nat) (w : World) (x : Rx) (c : Int) (r : Ending) (w' : World) : Prop := ∃ t : Rt, r = .returned (.tuple #[t.v, .int .i64 c]) ∧ t.rx = x ∧ t.P w' ∧ ∀ b ∈ t.fp, w.heap.size ≤ b ∨ b ∈ old
theorem c_few (x : Rt) (w : World) (h : x.sz ≤ 1000000) (px : x.P w) : Calls Tryz.prog n_enthymemeref04_few #[x.v] w fun r w' => RetF2 x.fp w (limR x.rx) (limE x.rx) r w' ∧ Fr0 w w' := by
  refine enthymemeref04_few.okT _ _ _ _ w _ ((lhT px).newg fun b1 w1 H1 => H1.newg fun b2 w2 H2 => H2.callg (c_Nodes x w2 h (H2.getD 0)) ?_)
  rintro _ w3 rfl H3
  refine ⟨_, rfl, sel_dec (fun hl => H3.locg fun w4 H4 => ⟨⟨noT, ?_, ?_, no_P _, fun b hb => (no_fp' hb).elim⟩, H4.fr⟩) (fun hl => H3.locg fun w4 H4 => ⟨⟨x, ?_, ?_, H4.getD 0, fun b hb => .inr hb⟩, H4.fr⟩)⟩
  · unfold limE; rw [Rt.rx_sz, if_pos (by omega)]; rfl
  · unfold limR; rw [Rt.rx_sz, if_pos (by omega)]; rfl
  · unfold limE; rw [Rt.rx_sz, if_neg (by omega)]
  · unfold limR; rw [Rt.rx_sz, if_neg (by omega)]
theorem c_refNormal (x : Rt) (w : World) (h : x.sz ≤ 1000000) (px : x.P w) : Calls Tryz.prog n_enthymemeref04_Normal #[x.v] w fun r w' => RetF2 x.fp w (nmR x.rx) (nmE x.rx) r w' ∧ Fr0 w w' := by
  refine enthymemeref04_Normal.okT _ _ _ _ w _ ((lhT px).newg fun b1 w1 H1 => H1.newg fun b2 w2 H2 => H2.callg (c_refValid x w2 h (H2.getD 0)) ?_)
  rintro _ w3 rfl H3
  unfold nmR nmE
  refine ⟨_, rfl, sel_ne (fun hne => H3.locg fun w4 H4 => ⟨⟨noT, ?_, ?_, no_P _, fun b hb => (no_fp' hb).elim⟩, H4.fr⟩) (fun he => ?_)⟩
  · rw [if_neg hne]; rfl
  · rw [if_neg hne]; rfl
  obtain ⟨hg, hs⟩ := valid_good he
  have hs' : x.sz ≤ 64 := by rw [← Rt.rx_sz]; exact hs
  rw [if_pos he, if_pos he]
  refine H3.callt (c_simple x w3 (by omega) hg (H3.getD 0)) (fun b hb => ⟨_, List.mem_of_getElem? (i := 0) rfl, mem_nub.2 hb⟩) fun t w4 ht H4 ft => ?_
  have szt : t.sz ≤ 1000000 := by
    have := norm_sz _ hg
    rw [← Rt.rx_sz, ht]; omega
  refine ⟨_, _, _, t.s, rfl, callF0 ((c_few t w4 szt (H4.getD 1)).mono ?_)⟩
  rintro _ w5 ⟨⟨u, rfl, hu, pu, fu⟩, f5⟩
  have H5 := H4.addD (.tree u) f5 pu fun b hb => (fu b (mem_nub.1 hb)).imp id fun hb => .inr ⟨_, List.mem_of_getElem? (i := 1) rfl, mem_nub.2 hb⟩
  refine ⟨f5, _, _, _, u.s, _, rfl, H5.locg fun w6 H6 => ⟨⟨u, by rw [ht], by rw [hu, ht], H6.getD 2, fun b hb => ?_⟩, H6.fr⟩⟩
  rcases fu b hb with hb | hb
  · exact .inl (Nat.le_trans H4.fr.size hb)
  · exact (ft b hb).imp (fun hb => Nat.le_trans H3.fr.size hb) id
theorem c_Normal {N : Nat} (hS : SortOk N) (hN : N + 1 ≤ 1000000) (x : Rt) (w : World) (h : x.sz ≤ 1000000) (hf : fewR N x.rx) (px : x.P w) : Calls Tryz.prog n_regex_Normal #[x.v] w fun r w' => RetT2 w (nmR x.rx) (nmE x.rx) r w' ∧ Fr0 w w' := by
  refine regex_Normal.okT _ _ _ _ w _ ((lhT px).newg fun b1 w1 H1 => H1.newg fun b2 w2 H2 => H2.callg (c_Valid x w2 h (H2.getD 0)) ?_)
  rintro _ w3 rfl H3
  unfold nmR nmE
  refine ⟨_, rfl, sel_ne (fun hne => H3.locg fun w4 H4 => ⟨⟨noT, ?_, ?_, no_P _, fun b hb => (no_fp' hb).elim⟩, H4.fr⟩) (fun he => H3.locg fun w4 H4 => H4.callr (c_forms w4) ?_)⟩
  · rw [if_neg hne]; rfl
  · rw [if_neg hne]; rfl
  rintro _ w5 ⟨F, rfl, hF, pF, nF⟩ _ F5
  have H5 := F5.rd (.fm F) pF nF
  obtain ⟨hg, hs⟩ := valid_good he
  rw [if_pos he, if_pos he]
  refine ⟨_, rfl, H5.callt (c_normal hS hN hF x w5 h (fit_of _ hg (by omega) hf) (H5.getD 1) (H5.getD 0)) (fun b hb => ?_) fun t w6 ht H6 _ => ?_⟩
  · rcases List.mem_append.1 hb with hb | hb
    · exact ⟨_, List.mem_of_getElem? (i := 0) rfl, mem_nub.2 hb⟩
    · exact ⟨_, List.mem_of_getElem? (i := 1) rfl, hb⟩
  have szt : t.sz ≤ 1000000 := by
    have := norm_sz _ hg
    rw [← Rt.rx_sz, ht]; omega
  refine ⟨_, _, _, t.s, rfl, H6.callr (c_limited t w6 szt (H6.getD 2)) ?_⟩
  rintro _ w7 ⟨u, rfl, hu, pu, fu⟩ _ F7
  have H7 := F7.rd (.tree u) pu fun b hb => fu b (mem_nub.1 hb)
  exact ⟨_, _, _, u.s, _, rfl, H7.locg fun w8 H8 => ⟨⟨u, by rw [ht], by rw [hu, ht], H8.getD 3, fun b hb => Nat.le_trans H6.fr.size (fu b hb)⟩, H8.fr⟩⟩
end Go.Proofs.YtknlbofiicflgaaGreat
