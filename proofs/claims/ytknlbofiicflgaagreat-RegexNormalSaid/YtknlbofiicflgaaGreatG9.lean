/- The reference's normal form: Everything, put, normal, simple, few, Normal: the contracts. -/
import Derived.Test.YtknlbofiicflgaaGreatN7
import Derived.Test.YtknlbofiicflgaaGreatN10
import Derived.Test.YtknlbofiicflgaaGreatG1
import Derived.Test.YtknlbofiicflgaaGreatP1
import Derived.Test.YtknlbofiicflgaaGreatVR
namespace Go.Proofs.YtknlbofiicflgaaGreat
open Go Go.W

theorem el_rf9 : ElemOk Tryz.prog ty_sl_enthymemeref04_Regex ty_enthymemeref04_Regex (.agg #[.int .i64 0, .int .u8 0, .int .u8 0, .slice none 0 0]) 4 40 := ⟨by kernel_rfl, by kernel_rfl, rfl, by decide, by decide⟩
theorem c_every (w : World) : Calls Tryz.prog n_enthymemeref04_Everything #[] w fun r w' => RetT w everyX r w' ∧ Fr0 w w' := by
  refine enthymemeref04_Everything.okT w _ ((lh0 [] (by simp)).newg fun b w1 H1 => H1.nwrow (n := 1) (sz := 4) (cs := noT.c) rfl (by decide) fun w2 H2 => H2.locg fun w6 H6 => ⟨⟨.mk 6 0 0 ⟨some (at0 w1.heap.size), 1, 1⟩ [noT], rfl, rfl, ?_, fun c hc => ?_⟩, H6.fr⟩)
  · unfold Rt.P Rt.Ps Rt.Ps
    exact ⟨(H6.get 1 : OwnRow _ _ _ _ _).rdn, no_P w6, trivial⟩
  · unfold Rt.fp Rt.fps Rt.fps at hc
    rcases List.mem_append.1 hc with hc | hc
    · exact (H6.new _ (List.mem_of_getElem? (i := 1) rfl) c (rdn_own hc)).resolve_right id
    · rcases List.mem_append.1 hc with hc | hc
      · exact (no_fp' hc).elim
      · cases hc
/-! #### put -/
def putT (r : Rt) : List Rt → List Rt
  | [] => [r]
  | y :: p => if cmpR y.rx r.rx < 0 then y :: putT r p else if cmpR y.rx r.rx = 0 then y :: p else r :: y :: p
theorem put_rx (r : Rt) : ∀ l : List Rt, (putT r l).map Rt.rx = putX r.rx (l.map Rt.rx)
  | [] => rfl
  | y :: p => by
    unfold putT
    rw [List.map_cons]
    unfold putX
    split
    · rw [List.map_cons, put_rx r p]
    · split <;> rfl
theorem putT_mem {t r : Rt} : ∀ {p : List Rt}, t ∈ putT r p → t = r ∨ t ∈ p
  | [], h => by unfold putT at h; simpa using h
  | y :: p, h => by
    unfold putT at h
    split at h
    · rcases List.mem_cons.1 h with rfl | h
      · simp
      · rcases putT_mem h with h | h <;> simp [h]
    · split at h
      · exact .inr h
      · rcases List.mem_cons.1 h with rfl | h
        · simp
        · exact .inr h
theorem putT_szs (r : Rt) : ∀ l : List Rt, Rt.szs (putT r l) ≤ r.sz + Rt.szs l
  | [] => by show r.sz + 0 ≤ r.sz + 0; omega
  | y :: p => by
    unfold putT
    split
    · have := putT_szs r p
      show y.sz + Rt.szs (putT r p) ≤ r.sz + (y.sz + Rt.szs p)
      omega
    · split
      · show y.sz + Rt.szs p ≤ r.sz + (y.sz + Rt.szs p)
        omega
      · exact Nat.le_refl _
theorem putT_at {r : Rt} : ∀ {l : List Rt} {k : Nat}, k ≤ l.length → (∀ q t, q < k → l[q]? = some t → cmpR t.rx r.rx < 0) → (∀ t, l[k]? = some t → ¬ cmpR t.rx r.rx < 0) →
    (∀ t, l[k]? = some t → cmpR t.rx r.rx = 0 → putT r l = l) ∧ ((∀ t, l[k]? = some t → cmpR t.rx r.rx ≠ 0) → putT r l = l.take k ++ r :: l.drop k)
  | [], k, hk, h1, h2 => ⟨fun t h => by simp at h, fun _ => by simp [putT]⟩
  | y :: p, 0, hk, h1, h2 => by
    have := h2 y rfl
    unfold putT
    rw [if_neg this]
    refine ⟨fun t h h0 => ?_, fun h => ?_⟩
    · cases h
      rw [if_pos h0]
    · rw [if_neg (h y rfl)]
      rfl
  | y :: p, k + 1, hk, h1, h2 => by
    have hy := h1 0 y (by omega) rfl
    have ih := putT_at (r := r) (l := p) (k := k) (by simpa using hk) (fun q t hq ht => h1 (q + 1) t (by omega) (by simpa using ht)) (fun t ht => h2 t (by simpa using ht))
    unfold putT
    rw [if_pos hy]
    refine ⟨fun t h h0 => by rw [ih.1 t (by simpa using h) h0], fun h => by rw [ih.2 fun t ht => h t (by simpa using ht)]; rfl⟩
theorem rdn_part {w : World} {s : Sl} {l : List Rt} (h : RdN 4 w s (l.flatMap Rt.c)) (a b : Nat) (hab : a ≤ b) (hb : b ≤ l.length) : RdN 4 w (subN 4 s a b) (((l.take b).drop a).flatMap Rt.c) := by
  have nr := Rt.rows_n h
  have := h.sub a b hab (by omega)
  rw [cut_flat, drop_flat _ _ (by rw [List.length_take]; omega)] at this
  exact this
abbrev lstT (s : Sl) (l : List Rt) : Rt := .mk 0 0 0 s l
/-- a list that is returned -/
def RetLs (old : List Nat) (w : World) (l : List Rt) (r : Ending) (w' : World) : Prop := ∃ s : Sl, r = .returned s.v ∧ (lstT s l).P w' ∧ ∀ b ∈ (lstT s l).fp, w.heap.size ≤ b ∨ b ∈ old
theorem lst_P {w : World} {s : Sl} {l : List Rt} : (lstT s l).P w ↔ RdN 4 w s (l.flatMap Rt.c) ∧ Rt.Ps w l := by
  unfold lstT Rt.P
  exact Iff.rfl
theorem lst_fp {s : Sl} {l : List Rt} {b : Nat} : b ∈ (lstT s l).fp ↔ b ∈ (Rt.row s l).fp ∨ b ∈ Rt.fps l := by
  unfold lstT Rt.fp
  exact List.mem_append
theorem c_put (s : Sl) (l : List Rt) (r : Rt) (w : World) (hl : Rt.szs l ≤ 100000) (hr : r.sz ≤ 100000) (px : (lstT s l).P w) (pr : r.P w) :
    Calls Tryz.prog n_enthymemeref04_put #[s.v, r.v] w fun e w' => RetLs ((lstT s l).fp ++ r.fp) w (putT r l) e w' ∧ Fr0 w w' := by
  have nr := Rt.rows_n (lst_P.1 px).1
  have ll := Rt.szs_len l
  let R : Post := fun e w' => RetLs ((lstT s l).fp ++ r.fp) w (putT r l) e w' ∧ Fr0 w w'
  -- what is put together
  have fin : ∀ (k : Nat) (sl : Sl) (L : List En) (i : Nat) (w1 : World), k ≤ l.length → putT r l = l.take k ++ r :: l.drop k → L[i]? = some (.row ty_enthymemeref04_Regex 4 sl ((l.take k ++ [r]).flatMap Rt.c)) → LH F0 w w1 L [.tree (lstT s l), .tree r] →
      enthymemeref04_put.S3T s (k : Int) sl w1 R := by
    intro k sl L i w1 hk he hi H
    have px1 : (lstT s l).P w1 := H.getD 0
    have hp := rdn_part (lst_P.1 px1).1 k l.length hk (Nat.le_refl _)
    rw [List.take_length] at hp
    have hrow : OwnRow w1 ty_enthymemeref04_Regex 4 sl ((l.take k ++ [r]).flatMap Rt.c) := H.get i hi
    have nrow := Rt.rows_n hrow.rdn
    have ltk : (l.take k ++ [r]).length = k + 1 := by simp [List.length_take]; omega
    refine ⟨by omega, by omega, ?_⟩
    obtain ⟨s', w', h1, h2, h3⟩ := H.apT (bs := []) i (ty := ty_sl_enthymemeref04_Regex) (K := fun s' w' => ∃ L', L'[i]? = some (.row ty_enthymemeref04_Regex 4 s' ((putT r l).flatMap Rt.c)) ∧ LH F0 w w' L' [.tree (lstT s l), .tree r]) el_rf9 (src := subN 4 s k l.length) (news := (l.drop k).flatMap Rt.c) hi hp (c_one _) (by show (sl.n + (l.length - k)) * 40 ≤ _; omega) (fun s' w' H' => ⟨_, by
      rw [List.getElem?_set_self (List.getElem?_eq_some_iff.1 hi).1, ← List.flatMap_append, he, List.append_assoc]; rfl, H'⟩)
    obtain ⟨L', g1, g2⟩ := h3
    have e1 : (Int.toNat (k : Int)) = k := rfl
    refine ⟨s', w', by rw [e1, nr]; exact h1, ⟨s', rfl, lst_P.2 ⟨(g2.get i g1 : OwnRow _ _ _ _ _).rdn, Rt.ps_of fun t ht => ?_⟩, fun b hb => ?_⟩, g2.fr⟩
    · rcases putT_mem ht with rfl | ht
      · exact g2.getD 1
      · exact (lst_P.1 (g2.getD 0)).2.mem ht
    · rcases lst_fp.1 hb with hb | hb
      · exact .inl ((g2.new _ (List.mem_of_getElem? g1) b (rdn_own hb)).resolve_right id)
      · obtain ⟨t, ht, hbt⟩ := Rt.fps_iff.1 hb
        rcases putT_mem ht with rfl | ht
        · exact .inr (List.mem_append_right _ hbt)
        · exact .inr (List.mem_append_left _ (lst_fp.2 (.inr (Rt.fps_iff.2 ⟨t, ht, hbt⟩))))
  have s2 : ∀ (k : Nat) (b3 : Nat) (w1 : World), k ≤ l.length → putT r l = l.take k ++ r :: l.drop k → LH F0 w w1 [.g b3] [.tree (lstT s l), .tree r] → enthymemeref04_put.S2T s b3 r.k r.lo.toNat r.hi.toNat r.s (k : Int) w1 R := by
    intro k b3 w1 hk he H
    have hcap : s.n ≤ s.c := (lst_P.1 (show (lstT s l).P w1 from H.getD 0)).1.2.1
    have hpart : ∀ w' : World, (lstT s l).P w' → RdN 4 w' (subN 4 s 0 k) ((l.take k).flatMap Rt.c) := fun w' h => rdn_part (lst_P.1 h).1 0 k (by omega) hk
    have e1 : (Int.toNat (k : Int)) = k := rfl
    refine ⟨by omega, by omega, H.locg fun w2 H2 => ?_, H.locg fun w2 H2 => ?_⟩
    · refine (H2.nilrow ty_enthymemeref04_Regex 4).apT 1 el_rf9 (s := ⟨none, 0, 0⟩) (xs := []) (src := subN 4 s 0 k) (news := (l.take k).flatMap Rt.c) rfl (hpart w2 (H2.getD 0)) (c_one _) (by show (0 + (k - 0)) * 40 ≤ _; omega) (fun s' w3 H3 => ?_)
      have H3 : LH F0 w w3 [.g b3, .row ty_enthymemeref04_Regex 4 s' ((l.take k).flatMap Rt.c)] [.tree (lstT s l), .tree r] := H3
      have nrow := Rt.rows_n (H3.get 1 : OwnRow _ _ _ _ _).rdn
      rw [List.length_take] at nrow
      refine H3.ap1T 1 el_rf9 (xs := (l.take k).flatMap Rt.c) rfl (fun s'' w4 H4 => ?_) (by omega)
      refine fin k s'' _ 1 w4 hk he ?_ H4
      show some _ = some _
      rw [cs_snoc]
      rfl
    · refine H2.nwrow (n := 1) (sz := 4) (cs := r.c) rfl (by decide) fun w3 H3 => ?_
      refine (H3.nilrow ty_enthymemeref04_Regex 4).apT 2 el_rf9 (s := ⟨none, 0, 0⟩) (xs := []) (src := subN 4 s 0 k) (news := (l.take k).flatMap Rt.c) rfl (hpart w3 (H3.getD 0)) (c_one _) (by show (0 + (k - 0)) * 40 ≤ _; omega) (fun s' w4 H4 => ?_)
      have H4 : LH F0 w w4 [.g b3, .row ty_enthymemeref04_Regex 4 ⟨some (at0 w2.heap.size), 1, 1⟩ r.c, .row ty_enthymemeref04_Regex 4 s' ((l.take k).flatMap Rt.c)] [.tree (lstT s l), .tree r] := H4
      have nrow := Rt.rows_n (H4.get 2 : OwnRow _ _ _ _ _).rdn
      rw [List.length_take] at nrow
      refine H4.apT 2 el_rf9 (xs := (l.take k).flatMap Rt.c) (src := ⟨some (at0 w2.heap.size), 1, 1⟩) (news := r.c) rfl (H4.get 1 : OwnRow _ _ _ _ _).rdn (fun u hu => c_one [r] u (by simpa using hu)) (by show (s'.n + 1) * 40 ≤ _; omega) (fun s'' w5 H5 => ?_)
      refine fin k s'' _ 2 w5 hk he ?_ H5
      show some _ = some _
      rw [cs_snoc]
  have s1 : ∀ (k : Nat) (b3 : Nat) (w1 : World), k ≤ l.length → (∀ q t, q < k → l[q]? = some t → cmpR t.rx r.rx < 0) → (∀ t, l[k]? = some t → ¬ cmpR t.rx r.rx < 0) → LH F0 w w1 [.g b3] [.tree (lstT s l), .tree r] → enthymemeref04_put.S1T s b3 r.k r.lo.toNat r.hi.toNat r.s (k : Int) w1 R := by
    intro k b3 w1 hk h1 h2 H
    obtain ⟨g1, g2⟩ := putT_at hk h1 h2
    refine sel_dec (fun hlt => ?_) (fun hlt => H.locg fun w2 H2 => s2 k b3 w2 hk (g2 fun t ht => by have := (List.getElem?_eq_some_iff.1 ht).1; omega) H2)
    have hg : l[k]? = some l[k] := List.getElem?_eq_getElem (by omega)
    generalize l[k]'(by omega) = t at hg
    have mt := List.mem_of_getElem? hg
    refine ⟨by omega, by omega, Rt.at' (lst_P.1 (show (lstT s l).P w1 from H.getD 0)).1 hg fun p hp _ => H.locg fun w2 H2 => ?_⟩
    have px2 : (lstT s l).P w2 := H2.getD 0
    have c := Rt.again (lst_P.1 px2).1 hg hp
    refine ⟨_, _, _, _, c.c0, c.c1, c.c2, c.c3, H2.callg (c_refCompare t r w2 (by have := Rt.szs_mem mt; omega) ((lst_P.1 px2).2.mem mt) (H2.getD 1)) ?_⟩
    rintro _ w3 rfl H3
    refine ⟨_, rfl, sel_eq (fun h0 => ⟨⟨s, rfl, ?_, fun b hb => .inr ?_⟩, H3.fr⟩) (fun h0 => s2 k b3 w3 hk (g2 fun t' ht' => by rw [hg] at ht'; cases ht'; exact h0) H3)⟩
    · rw [g1 t hg h0]; exact H3.getD 0
    · rw [g1 t hg h0] at hb
      exact List.mem_append_left _ hb
  have loop : ∀ (d k : Nat) (b3 : Nat) (w1 : World), k + d = l.length → (∀ q t, q < k → l[q]? = some t → cmpR t.rx r.rx < 0) → LH F0 w w1 [.g b3] [.tree (lstT s l), .tree r] → enthymemeref04_put.L0T s b3 r.k r.lo.toNat r.hi.toNat r.s (k : Int) w1 R := by
    intro d
    induction d with
    | zero =>
      intro k b3 w1 hk h1 H
      exact enthymemeref04_put.L0T_step _ _ _ _ _ _ _ _ _ (sel_false (decide_eq_false (by omega)) (H.locg fun w2 H2 => s1 k b3 w2 (by omega) h1 (fun t ht => by have := (List.getElem?_eq_some_iff.1 ht).1; omega) H2))
    | succ d ihd =>
      intro k b3 w1 hk h1 H
      have hg : l[k]? = some l[k] := List.getElem?_eq_getElem (by omega)
      generalize l[k]'(by omega) = t at hg
      have mt := List.mem_of_getElem? hg
      refine enthymemeref04_put.L0T_step _ _ _ _ _ _ _ _ _ (sel_true (decide_eq_true (by omega)) ⟨by omega, by omega, Rt.at' (lst_P.1 (show (lstT s l).P w1 from H.getD 0)).1 hg fun p hp _ => H.locg fun w2 H2 => ?_⟩)
      have px2 : (lstT s l).P w2 := H2.getD 0
      have c := Rt.again (lst_P.1 px2).1 hg hp
      refine ⟨_, _, _, _, c.c0, c.c1, c.c2, c.c3, H2.callg (c_refCompare t r w2 (by have := Rt.szs_mem mt; omega) ((lst_P.1 px2).2.mem mt) (H2.getD 1)) ?_⟩
      rintro _ w3 rfl H3
      refine ⟨_, rfl, sel_dec (fun h0 => ?_) (fun h0 => s1 k b3 w3 (by omega) h1 (fun t' ht' => by rw [hg] at ht'; cases ht'; exact h0) H3)⟩
      rw [i64_next _ (by omega)]
      refine ihd (k + 1) b3 w3 (by omega) (fun q t' hq ht' => ?_) H3
      by_cases e : q = k
      · subst e; rw [hg] at ht'; cases ht'; exact h0
      · exact h1 q t' (by omega) ht'
  exact enthymemeref04_put.okT _ _ _ _ _ w _ ((lh0 [.tree (lstT s l), .tree r] (by
    intro e he
    simp only [List.mem_cons, List.not_mem_nil, or_false] at he
    rcases he with rfl | rfl
    · exact px
    · exact pr)).newg fun b3 w1 H1 => loop l.length 0 b3 w1 (by omega) (fun q t h => by omega) H1)
/-! #### normal -/
theorem outX_snoc (k : Int) (t : Rx) : ∀ (l out : List Rx), outX k out (l ++ [t]) = if k = 3 then outX k out l ++ [t] else putX t (outX k out l)
  | [], out => by
    show outX k (if k = 3 then out ++ [t] else putX t out) [] = _
    unfold outX
    rfl
  | a :: l, out => by
    show outX k (if k = 3 then out ++ [a] else putX a out) (l ++ [t]) = _
    rw [outX_snoc k t l]
    rfl
theorem uz_k (x ev : Rt) (hk : x.k = 3 ∨ x.k = 4 ∨ x.k = 5) (hev : ev.rx = everyX) : ∃ (j : Nat) (u z : Rt), IntKind.wrap .i64 (x.k - 3) = (j : Int) ∧ j < 3 ∧ [emptyT, noT, ev][j]? = some u ∧ [noT, ev, noT][j]? = some z ∧ (u = emptyT ∨ u = noT ∨ u = ev) ∧ (z = noT ∨ z = ev) ∧ u.rx ≠ z.rx ∧
    formX (.mk x.k 0 0 (Rt.rxs x.l)) = joinX x.k (Rt.rxs x.l) u.rx z.rx := by
  rcases hk with h | h | h <;> rw [h]
  · exact ⟨0, emptyT, noT, by decide, by decide, rfl, rfl, .inl rfl, .inl rfl, (by intro e; cases e), rfl⟩
  · exact ⟨1, noT, ev, by decide, by decide, rfl, rfl, .inr (.inl rfl), .inr rfl, (by rw [hev]; intro e; cases e), by rw [hev]; rfl⟩
  · exact ⟨2, ev, noT, by decide, by decide, rfl, rfl, .inr (.inr rfl), .inl rfl, (by rw [hev]; intro e; cases e), by rw [hev]; rfl⟩
section
variable {x ev u z : Rt} {sf : Sl} {w : World} {b4 b8 b9 : Nat}
theorem rn_loop (hx : x.sz ≤ 10000) (hev : ev.rx = everyX) (nev : ∀ b ∈ ev.fp, w.heap.size ≤ b) (hu : u = emptyT ∨ u = noT ∨ u = ev) (hzc : z = noT ∨ z = ev) (huz : u.rx ≠ z.rx) (hform : formX (.mk x.k 0 0 (Rt.rxs x.l)) = joinX x.k (Rt.rxs x.l) u.rx z.rx) {w1 : World}
    (H : LH F0 w w1 [.g b4, .g b8, .g b9] [.tree x, .tree ev, .tree (lstT sf (x.l.flatMap (openT x)))]) :
    enthymemeref04_normal.L3T x.k b4 0 0 0 ⟨none, 0, 0⟩ sf b8 u.k u.lo.toNat u.hi.toNat u.s b9 z.k z.lo.toNat z.hi.toNat z.s ⟨none, 0, 0⟩ 0 w1 fun r w' => RetF x.fp w (formX (.mk x.k 0 0 (Rt.rxs x.l))) r w' ∧ Fr0 w w' := by
  let R : Post := fun r w' => RetF x.fp w (formX (.mk x.k 0 0 (Rt.rxs x.l))) r w' ∧ Fr0 w w'
  have hsub0 : Sub x (x.l.flatMap (openT x)) := Sub.flat fun _ h => h
  have hszf0 : Rt.szs (x.l.flatMap (openT x)) ≤ Rt.szs x.l := szs_open x x.l
  have hfl0 : ((x.l.flatMap (openT x)).map Rt.rx).filter (fun t => !(cmpR t u.rx == 0)) = flatX x.k (Rt.rxs x.l) u.rx := by
    rw [← flat_rx]
    unfold flatT
    rw [List.filter_map]
    rfl
  generalize x.l.flatMap (openT x) = fl at H hsub0 hszf0 hfl0
  have hsub := hsub0
  have hszx := Rt.sz_parts x
  have hszf : Rt.szs fl ≤ 10000 := by omega
  have lfl := Rt.szs_len fl
  have nr : sf.n = fl.length := Rt.rows_n (lst_P.1 (show (lstT sf fl).P w1 from H.getD 2)).1
  have huP : ∀ w', ev.P w' → u.P w' := fun w' h => by
    rcases hu with rfl | rfl | rfl
    · exact empty_P w'
    · exact no_P w'
    · exact h
  have hzP : ∀ w', ev.P w' → z.P w' := fun w' h => by
    rcases hzc with rfl | rfl
    · exact no_P w'
    · exact h
  have huf : ∀ b ∈ u.fp, w.heap.size ≤ b := fun b hb => by
    rcases hu with rfl | rfl | rfl
    · exact (empty_fp hb).elim
    · exact (no_fp' hb).elim
    · exact nev b hb
  have hzf : ∀ b ∈ z.fp, w.heap.size ≤ b := fun b hb => by
    rcases hzc with rfl | rfl
    · exact (no_fp' hb).elim
    · exact nev b hb
  have ej1 : ∀ t ∈ fl, t.rx = z.rx → formX (.mk x.k 0 0 (Rt.rxs x.l)) = z.rx := fun t ht e => by
    rw [hform]
    unfold joinX
    rw [if_pos]
    rw [List.any_eq_true]
    refine ⟨t.rx, ?_, cmp_iff.2 e⟩
    rw [← hfl0, List.mem_filter]
    exact ⟨List.mem_map.2 ⟨t, ht, rfl⟩, cmp_ne.2 (e ▸ fun h => huz h.symm)⟩
  have ej2 : (∀ t ∈ fl, t.rx ≠ z.rx) → formX (.mk x.k 0 0 (Rt.rxs x.l)) = fewX x.k u.rx (outX x.k [] ((fl.map Rt.rx).filter fun t => !(cmpR t u.rx == 0))) := fun h => by
    rw [hform, outX_eq, hfl0]
    unfold joinX
    rw [if_neg]
    · rfl
    · rw [List.any_eq_true]
      rintro ⟨t, ht, he⟩
      rw [← hfl0, List.mem_filter] at ht
      obtain ⟨t', ht', rfl⟩ := List.mem_map.1 ht.1
      exact h t' ht' (cmp_iff.1 he)
  have fin : ∀ (ol : List Rt) (so : Sl) (L D : List En) (w1 : World), (∀ t ∈ fl, t.rx ≠ z.rx) → ol.map Rt.rx = outX x.k [] ((fl.map Rt.rx).filter fun t => !(cmpR t u.rx == 0)) → (∀ t ∈ ol, t ∈ fl) → LH F0 w w1 L (.tree x :: .tree ev :: D) → (∀ b ∈ [b4, b8, b9], En.g b ∈ L) → (∀ w', LH F0 w w' L (.tree x :: .tree ev :: D) → RdN 4 w' so (ol.flatMap Rt.c) ∧ ∀ b ∈ (Rt.row so ol).fp, w.heap.size ≤ b ∨ b ∈ x.fp) →
      sel (((so.n : Nat) : Int) == 0) (loc [b4, b8, b9] w1 fun w55 => R (.returned u.v) w55) (sel (((so.n : Nat) : Int) == 1) ((0 : Int) ≤ 0 ∧ 0 < ((so.n : Nat) : Int) ∧ optP so.a fun p => ld4_0 w1 (p.add (Int.toNat 0 * 4)) fun a b c d => loc [b4, b8, b9] w1 fun w59 => R (.returned (.agg #[.i a, .int .u8 b, .int .u8 c, d.v])) w59) (loc [b4, b8, b9] w1 fun w63 => R (.returned (.agg #[.i x.k, .int .u8 0, .int .u8 0, so.v])) w63)) := by
    intro ol so L D w1 hz ho hm H hb hrow
    have hr := hrow w1 H
    have nso := Rt.rows_n hr.1
    have ej := ej2 hz
    rw [← ho] at ej
    have hks : Sub x ol := hsub.sub hm
    refine sel_eq (fun h0 => H.locg (fun w2 H2 => ⟨⟨u, rfl, ?_, huP w2 (H2.getD 1), fun b hb => .inl (huf b hb)⟩, H2.fr⟩) hb) (fun h0 => sel_eq (fun h1 => ?_) (fun h1 => H.locg (fun w2 H2 => ⟨⟨.mk x.k 0 0 so ol, rfl, ?_, ?_, fun b hb => ?_⟩, H2.fr⟩) hb))
    · have : ol = [] := List.length_eq_zero_iff.1 (by omega)
      rw [ej, this]; rfl
    · obtain ⟨a, rfl⟩ := List.length_eq_one_iff.1 (show ol.length = 1 by omega)
      refine ⟨by omega, by omega, Rt.at' hr.1 (i := 0) (t := a) rfl fun p hp c => ⟨_, _, _, _, c.c0, c.c1, c.c2, c.c3, H.locg (fun w2 H2 => ⟨⟨a, rfl, ?_, hks.P _ (H2.getD 0) a (by simp), fun b hb => .inr (hks.fp a (by simp) b hb)⟩, H2.fr⟩) hb⟩⟩
      rw [ej]; rfl
    · rw [ej]
      unfold Rt.rx
      rw [Rt.rxs_map]
      cases ol with
      | nil => simp at nso; omega
      | cons a ks =>
        cases ks with
        | nil => simp at nso; omega
        | cons b ks => rfl
    · unfold Rt.P
      exact ⟨(hrow w2 H2).1, hks.Ps (H2.getD 0)⟩
    · unfold Rt.fp at hb
      rcases List.mem_append.1 hb with hb | hb
      · exact (hrow w2 H2).2 b hb
      · exact .inr (hks.fps hb)
  have loopA : x.k = 3 → ∀ (d i : Nat) (so : Sl) (ol : List Rt) (w1 : World), i + d = fl.length → (∀ t ∈ fl.take i, t.rx ≠ z.rx) → ol.map Rt.rx = outX x.k [] (((fl.take i).map Rt.rx).filter fun t => !(cmpR t u.rx == 0)) → (∀ t ∈ ol, t ∈ fl) → Rt.szs ol ≤ Rt.szs (fl.take i) →
      LH F0 w w1 [.g b4, .g b8, .g b9, .row ty_enthymemeref04_Regex 4 so (ol.flatMap Rt.c)] [.tree x, .tree ev, .tree (lstT sf fl)] → enthymemeref04_normal.L3T x.k b4 0 0 0 ⟨none, 0, 0⟩ sf b8 u.k u.lo.toNat u.hi.toNat u.s b9 z.k z.lo.toNat z.hi.toNat z.s so (i : Int) w1 R := by
    intro hk d
    induction d with
    | zero =>
      intro i so ol w1 hi hz ho hm hs H
      rw [List.take_of_length_le (by omega)] at hz ho
      refine enthymemeref04_normal.L3T_step _ _ _ _ _ _ _ _ _ _ _ _ _ _ _ _ _ _ _ _ _ (sel_false (decide_eq_false (by omega)) ?_)
      exact fin ol so _ _ w1 hz ho hm H (by simp) (fun w' H' => ⟨(H'.get 3 : OwnRow _ _ _ _ _).rdn, fun b hb => .inl ((H'.new _ (List.mem_of_getElem? (i := 3) rfl) b (rdn_own hb)).resolve_right id)⟩)
    | succ d ihd =>
      intro i so ol w1 hi hz ho hm hs H
      have hg : fl[i]? = some fl[i] := List.getElem?_eq_getElem (by omega)
      generalize fl[i]'(by omega) = t at hg
      have mt := List.mem_of_getElem? hg
      have szt := Rt.szs_mem mt
      have etk : fl.take (i + 1) = fl.take i ++ [t] := by rw [List.take_add_one, hg]; rfl
      have szk : Rt.szs (fl.take (i + 1)) = Rt.szs (fl.take i) + t.sz := by rw [etk, szs_app]; rfl
      have szl := szs_take_le fl (i + 1)
      refine enthymemeref04_normal.L3T_step _ _ _ _ _ _ _ _ _ _ _ _ _ _ _ _ _ _ _ _ _ (sel_true (decide_eq_true (by omega)) ⟨by omega, by omega, Rt.at' (lst_P.1 (show (lstT sf fl).P w1 from H.getD 2)).1 hg fun p hp _ => H.locg fun w2 H2 => ?_⟩)
      have p2 : (lstT sf fl).P w2 := H2.getD 2
      have c2 := Rt.again (lst_P.1 p2).1 hg hp
      refine ⟨_, _, _, _, c2.c0, c2.c1, c2.c2, c2.c3, H2.callg (c_refCompare t z w2 (by omega) ((lst_P.1 p2).2.mem mt) (hzP w2 (H2.getD 1))) ?_⟩
      rintro _ w3 rfl H3
      refine ⟨_, rfl, sel_eq (fun h0 => H3.locg fun w4 H4 => ⟨⟨z, rfl, ?_, hzP w4 (H4.getD 1), fun b hb => .inl (hzf b hb)⟩, H4.fr⟩) (fun h0 => ?_)⟩
      · exact (ej1 t mt (cmp_iff0.1 h0)).symm
      refine ⟨by omega, by omega, Rt.at' (lst_P.1 (show (lstT sf fl).P w3 from H3.getD 2)).1 hg fun p hp _ => H3.locg fun w5 H5 => ?_⟩
      have p5 : (lstT sf fl).P w5 := H5.getD 2
      have c5 := Rt.again (lst_P.1 p5).1 hg hp
      refine ⟨_, _, _, _, c5.c0, c5.c1, c5.c2, c5.c3, H5.callg (c_refCompare t u w5 (by omega) ((lst_P.1 p5).2.mem mt) (huP w5 (H5.getD 1))) ?_⟩
      rintro _ w6 rfl H6
      have hz' : ∀ t' ∈ fl.take (i + 1), t'.rx ≠ z.rx := fun t' ht' => by
        rw [etk] at ht'
        rcases List.mem_append.1 ht' with ht' | ht'
        · exact hz t' ht'
        · simp at ht'; subst ht'; exact fun e => h0 (cmp_iff0.2 e)
      refine ⟨_, rfl, sel_eq (fun h1 => ?_) (fun h1 => sel_true (beq_iff_eq.2 hk) ?_)⟩
      · show enthymemeref04_normal.L3T _ _ _ _ _ _ _ _ _ _ _ _ _ _ _ _ _ _ _ _ _
        rw [i64_next _ (by omega)]
        refine ihd (i + 1) so ol w6 (by omega) hz' ?_ hm (by omega) H6
        rw [etk, List.map_append, List.filter_append, ho]
        have e0 : ([t].map Rt.rx).filter (fun t => !(cmpR t u.rx == 0)) = [] := by
          show [t.rx].filter _ = []
          rw [List.filter_cons_of_neg (by rw [h1]; simp)]
          rfl
        rw [e0, List.append_nil]
      · have ef : ((fl.take (i + 1)).map Rt.rx).filter (fun t => !(cmpR t u.rx == 0)) = (((fl.take i).map Rt.rx).filter fun t => !(cmpR t u.rx == 0)) ++ [t.rx] := by
          rw [etk, List.map_append, List.filter_append]
          congr 1
          show [t.rx].filter _ = [t.rx]
          rw [List.filter_cons_of_pos (by simpa using h1)]
          rfl
        refine ⟨by omega, by omega, Rt.at' (lst_P.1 (show (lstT sf fl).P w6 from H6.getD 2)).1 hg fun p hp c => ⟨_, _, _, _, c.c0, c.c1, c.c2, c.c3, ?_⟩⟩
        have nrow := Rt.rows_n (H6.get 3 : OwnRow _ _ _ _ _).rdn
        have lol := Rt.szs_len ol
        refine H6.ap1T 3 el_rf9 (xs := ol.flatMap Rt.c) rfl (fun s' w7 H7 => ?_) (by omega)
        show enthymemeref04_normal.L3T _ _ _ _ _ _ _ _ _ _ _ _ _ _ _ _ _ _ _ _ _
        rw [i64_next _ (by omega)]
        refine ihd (i + 1) s' (ol ++ [t]) w7 (by omega) hz' ?_ (fun t' ht' => ?_) (by rw [szs_app]; show _ + (t.sz + 0) ≤ _; omega) ?_
        · rw [ef, outX_snoc, if_pos hk, List.map_append, ho]; rfl
        · rcases List.mem_append.1 ht' with ht' | ht'
          · exact hm t' ht'
          · simp at ht'; subst ht'; exact mt
        · rw [cs_snoc]; exact H7
  have loopB : x.k ≠ 3 → ∀ (d i : Nat) (so : Sl) (ol : List Rt) (w1 : World), i + d = fl.length → (∀ t ∈ fl.take i, t.rx ≠ z.rx) → ol.map Rt.rx = outX x.k [] (((fl.take i).map Rt.rx).filter fun t => !(cmpR t u.rx == 0)) → (∀ t ∈ ol, t ∈ fl) → Rt.szs ol ≤ Rt.szs (fl.take i) → (∀ b ∈ (lstT so ol).fp, w.heap.size ≤ b ∨ b ∈ x.fp) →
      LH F0 w w1 [.g b4, .g b8, .g b9] [.tree x, .tree ev, .tree (lstT sf fl), .tree (lstT so ol)] → enthymemeref04_normal.L3T x.k b4 0 0 0 ⟨none, 0, 0⟩ sf b8 u.k u.lo.toNat u.hi.toNat u.s b9 z.k z.lo.toNat z.hi.toNat z.s so (i : Int) w1 R := by
    intro hk d
    induction d with
    | zero =>
      intro i so ol w1 hi hz ho hm hs hnb H
      rw [List.take_of_length_le (by omega)] at hz ho
      refine enthymemeref04_normal.L3T_step _ _ _ _ _ _ _ _ _ _ _ _ _ _ _ _ _ _ _ _ _ (sel_false (decide_eq_false (by omega)) ?_)
      exact fin ol so _ _ w1 hz ho hm H (by simp) (fun w' H' => ⟨(lst_P.1 (show (lstT so ol).P w' from H'.getD 3)).1, fun b hb => hnb b (lst_fp.2 (.inl hb))⟩)
    | succ d ihd =>
      intro i so ol w1 hi hz ho hm hs hnb H
      have hg : fl[i]? = some fl[i] := List.getElem?_eq_getElem (by omega)
      generalize fl[i]'(by omega) = t at hg
      have mt := List.mem_of_getElem? hg
      have szt := Rt.szs_mem mt
      have etk : fl.take (i + 1) = fl.take i ++ [t] := by rw [List.take_add_one, hg]; rfl
      have szk : Rt.szs (fl.take (i + 1)) = Rt.szs (fl.take i) + t.sz := by rw [etk, szs_app]; rfl
      have szl := szs_take_le fl (i + 1)
      refine enthymemeref04_normal.L3T_step _ _ _ _ _ _ _ _ _ _ _ _ _ _ _ _ _ _ _ _ _ (sel_true (decide_eq_true (by omega)) ⟨by omega, by omega, Rt.at' (lst_P.1 (show (lstT sf fl).P w1 from H.getD 2)).1 hg fun p hp _ => H.locg fun w2 H2 => ?_⟩)
      have p2 : (lstT sf fl).P w2 := H2.getD 2
      have c2 := Rt.again (lst_P.1 p2).1 hg hp
      refine ⟨_, _, _, _, c2.c0, c2.c1, c2.c2, c2.c3, H2.callg (c_refCompare t z w2 (by omega) ((lst_P.1 p2).2.mem mt) (hzP w2 (H2.getD 1))) ?_⟩
      rintro _ w3 rfl H3
      refine ⟨_, rfl, sel_eq (fun h0 => H3.locg fun w4 H4 => ⟨⟨z, rfl, ?_, hzP w4 (H4.getD 1), fun b hb => .inl (hzf b hb)⟩, H4.fr⟩) (fun h0 => ?_)⟩
      · exact (ej1 t mt (cmp_iff0.1 h0)).symm
      refine ⟨by omega, by omega, Rt.at' (lst_P.1 (show (lstT sf fl).P w3 from H3.getD 2)).1 hg fun p hp _ => H3.locg fun w5 H5 => ?_⟩
      have p5 : (lstT sf fl).P w5 := H5.getD 2
      have c5 := Rt.again (lst_P.1 p5).1 hg hp
      refine ⟨_, _, _, _, c5.c0, c5.c1, c5.c2, c5.c3, H5.callg (c_refCompare t u w5 (by omega) ((lst_P.1 p5).2.mem mt) (huP w5 (H5.getD 1))) ?_⟩
      rintro _ w6 rfl H6
      have hz' : ∀ t' ∈ fl.take (i + 1), t'.rx ≠ z.rx := fun t' ht' => by
        rw [etk] at ht'
        rcases List.mem_append.1 ht' with ht' | ht'
        · exact hz t' ht'
        · simp at ht'; subst ht'; exact fun e => h0 (cmp_iff0.2 e)
      refine ⟨_, rfl, sel_eq (fun h1 => ?_) (fun h1 => sel_false (by simpa using hk) ?_)⟩
      · show enthymemeref04_normal.L3T _ _ _ _ _ _ _ _ _ _ _ _ _ _ _ _ _ _ _ _ _
        rw [i64_next _ (by omega)]
        refine ihd (i + 1) so ol w6 (by omega) hz' ?_ hm (by omega) hnb H6
        rw [etk, List.map_append, List.filter_append, ho]
        have e0 : ([t].map Rt.rx).filter (fun t => !(cmpR t u.rx == 0)) = [] := by
          show [t.rx].filter _ = []
          rw [List.filter_cons_of_neg (by rw [h1]; simp)]
          rfl
        rw [e0, List.append_nil]
      · have ef : ((fl.take (i + 1)).map Rt.rx).filter (fun t => !(cmpR t u.rx == 0)) = (((fl.take i).map Rt.rx).filter fun t => !(cmpR t u.rx == 0)) ++ [t.rx] := by
          rw [etk, List.map_append, List.filter_append]
          congr 1
          show [t.rx].filter _ = [t.rx]
          rw [List.filter_cons_of_pos (by simpa using h1)]
          rfl
        refine ⟨by omega, by omega, Rt.at' (lst_P.1 (show (lstT sf fl).P w6 from H6.getD 2)).1 hg fun p hp c => ⟨_, _, _, _, c.c0, c.c1, c.c2, c.c3, ?_⟩⟩
        refine callF0 ((c_put so ol t w6 (by omega) (by omega) (H6.getD 3) ((lst_P.1 (show (lstT sf fl).P w6 from H6.getD 2)).2.mem mt)).mono ?_)
        rintro _ w7 ⟨⟨s', rfl, pl', nb'⟩, f7⟩
        refine ⟨f7, ?_⟩
        have nb2 : ∀ b ∈ (lstT s' (putT t ol)).fp, w.heap.size ≤ b ∨ b ∈ x.fp := fun b hb => by
          rcases nb' b hb with hb | hb
          · exact .inl (Nat.le_trans H6.fr.size hb)
          · rcases List.mem_append.1 hb with hb | hb
            · exact hnb b hb
            · exact .inr (hsub.fp t mt b hb)
        have H8 : LH F0 w w7 [.g b4, .g b8, .g b9] [.tree x, .tree ev, .tree (lstT sf fl), .tree (lstT so ol), .tree (lstT s' (putT t ol))] := H6.addD _ f7 pl' fun b hb => by
          rcases nb' b (mem_nub.1 hb) with hb | hb
          · exact .inl hb
          · rcases List.mem_append.1 hb with hb | hb
            · exact .inr (.inr ⟨_, List.mem_of_getElem? (i := 3) rfl, mem_nub.2 hb⟩)
            · exact .inr (.inr ⟨_, List.mem_of_getElem? (i := 0) rfl, mem_nub.2 (hsub.fp t mt b hb)⟩)
        refine ⟨s', rfl, ?_⟩
        show enthymemeref04_normal.L3T _ _ _ _ _ _ _ _ _ _ _ _ _ _ _ _ _ _ _ _ _
        rw [i64_next _ (by omega)]
        refine ihd (i + 1) s' (putT t ol) w7 (by omega) hz' ?_ (fun t' ht' => ?_) (by have := putT_szs t ol; omega) nb2 (H8.forget _ (by simp))
        · rw [ef, outX_snoc, if_neg hk, put_rx, ho]
        · rcases putT_mem ht' with rfl | ht'
          · exact mt
          · exact hm t' ht'
  by_cases hk : x.k = 3
  · exact loopA hk fl.length 0 ⟨none, 0, 0⟩ [] w1 (by omega) (by simp) (by simp [outX]) (by simp) (by simp [Rt.szs]) (H.nilrow ty_enthymemeref04_Regex 4)
  · refine loopB hk fl.length 0 ⟨none, 0, 0⟩ [] w1 (by omega) (by simp) (by simp [outX]) (by simp) (by simp [Rt.szs]) (fun b hb => ?_) (H.addD (.tree (lstT ⟨none, 0, 0⟩ [])) (Fr.refl _ _) (lst_P.2 ⟨RdN.nil 4 w1, by unfold Rt.Ps; trivial⟩) fun b hb => ?_)
    · rcases lst_fp.1 hb with hb | hb
      · simp [Rt.row, En.rdn] at hb
      · unfold Rt.fps at hb; cases hb
    · rcases lst_fp.1 (mem_nub.1 hb) with hb | hb
      · simp [Rt.row, En.rdn] at hb
      · unfold Rt.fps at hb; cases hb
end
theorem c_refnorm (x : Rt) (hk : 3 ≤ x.k ∧ x.k ≤ 7) (hx : x.sz ≤ 10000) (hok : formOk (.mk x.k 0 0 (Rt.rxs x.l)) = true) (hpos : ∀ c ∈ x.l, 0 ≤ c.k) (w : World) (px : x.P w) :
    Calls Tryz.prog n_enthymemeref04_normal #[.i x.k, x.s.v] w fun r w' => RetF x.fp w (formX (.mk x.k 0 0 (Rt.rxs x.l))) r w' ∧ Fr0 w w' := by
  have nr := Rt.rows_n px.parts.1
  have hszx := Rt.sz_parts x
  have hll := Rt.szs_len x.l
  refine enthymemeref04_normal.okT _ _ w _ ((lhT px).newg fun b4 w1 H1 => H1.callr (c_every w1) ?_)
  rintro _ w2 ⟨ev, rfl, hev, pev, nev⟩ H2 F2
  have H3 : LH F0 w w2 [.g b4] [.tree x, .tree ev] := F2.rd (.tree ev) pev fun b hb => nev b (mem_nub.1 hb)
  have nev' : ∀ b ∈ ev.fp, w.heap.size ≤ b := fun b hb => Nat.le_trans H1.fr.size (nev b hb)
  have pc : ∀ {w' : World} {c : Rt}, x.P w' → x.l[0]? = some c → c.P w' := fun h hg => h.parts.2.mem (List.mem_of_getElem? hg)
  have fc : ∀ {c : Rt}, x.l[0]? = some c → ∀ b ∈ c.fp, b ∈ x.fp := fun hg b hb => Rt.fp_parts.2 (.inr (Rt.fps_iff.2 ⟨_, List.mem_of_getElem? hg, hb⟩))
  refine ⟨_, _, _, ev.s, rfl, H3.newg fun b5 w3 H4 => sel_eq (fun h6 => ?_) (fun h6 => sel_eq (fun h7 => ?_) (fun h7 => H4.locg fun w4 H5 => ?_))⟩
  · -- Not
    cases hl : x.l with
    | nil => rw [hl, h6] at hok; simp [formOk, Rt.rxs] at hok
    | cons c l' =>
      have hg : x.l[0]? = some c := by rw [hl]; rfl
      have n2 : 0 < x.s.n := by rw [hl] at nr; simp at nr; omega
      have e1 : Rt.rxs (c :: l') = c.rx :: Rt.rxs l' := rfl
      have ef : formX (.mk x.k 0 0 (Rt.rxs (c :: l'))) = notX 0 0 (c.rx :: Rt.rxs l') := by rw [h6]; rfl
      rw [ef]
      refine ⟨by omega, by omega, Rt.at' (show x.P w3 from H4.getD 0).parts.1 hg fun p hp _ => H4.locg fun w5 H5 => ?_⟩
      have px5 : x.P w5 := H5.getD 0
      have cc := Rt.again px5.parts.1 hg hp
      refine ⟨c.k, cc.c0, sel_eq (fun hc6 => ⟨by omega, by omega, Rt.at' px5.parts.1 hg fun p hp cc => ⟨c.s, cc.c3, ?_⟩⟩) (fun hc6 => H5.locg fun w6 H6 => ⟨⟨.mk 6 0 0 x.s x.l, rfl, ?_, ?_, fun b hb => .inr ?_⟩, H6.fr⟩)⟩
      · cases hcl : c.l with
        | nil =>
          rw [hl, e1] at hok
          have e2 : c.rx.l.isEmpty = true := by rw [rx_l, hcl]; rfl
          simp [formOk, h6, rx_k, hc6, e2] at hok
        | cons d l2 =>
          have hgd : c.l[0]? = some d := by rw [hcl]; rfl
          refine part_el (pc px5 hg) rfl hgd (H5.locg fun w6 H6 => ⟨⟨d, rfl, ?_, (pc (H6.getD 0) hg).parts.2.mem (List.mem_of_getElem? hgd), fun b hb => .inr (fc hg b (Rt.fp_parts.2 (.inr (Rt.fps_iff.2 ⟨d, List.mem_of_getElem? hgd, hb⟩))))⟩, H6.fr⟩)
          show d.rx = if c.rx.k = 6 then _ else _
          rw [if_pos (by rw [rx_k, hc6]), rx_l, hcl]; rfl
      · show Rx.mk 6 0 0 (Rt.rxs x.l) = if c.rx.k = 6 then _ else _
        rw [if_neg (by rw [rx_k]; exact hc6), hl, e1]
      · unfold Rt.P
        exact (show x.P w6 from H6.getD 0).parts
      · unfold Rt.fp at hb
        exact Rt.fp_parts.2 (List.mem_append.1 hb)
  · -- Star
    cases hl : x.l with
    | nil => rw [hl, h7] at hok; simp [formOk, Rt.rxs] at hok
    | cons c l' =>
      have hg : x.l[0]? = some c := by rw [hl]; rfl
      have n2 : 0 < x.s.n := by rw [hl] at nr; simp at nr; omega
      have e1 : Rt.rxs (c :: l') = c.rx :: Rt.rxs l' := rfl
      have ef : formX (.mk x.k 0 0 (Rt.rxs (c :: l'))) = starX 0 0 (c.rx :: Rt.rxs l') := by rw [h7]; rfl
      rw [ef]
      have est : starX 0 0 (c.rx :: Rt.rxs l') = if c.k = 0 ∨ c.k = 1 then emptyX else if c.k = 7 ∨ cmpR c.rx everyX = 0 then c.rx else .mk 7 0 0 (c.rx :: Rt.rxs l') := by
        unfold starX
        simp only [rx_k]
      have szc : c.sz ≤ 1000000 := by have := Rt.szs_mem (List.mem_of_getElem? hg); omega
      have s0 : ∀ (w6 : World), ¬ (c.k = 0 ∨ c.k = 1) → (c.k = 7 ∨ cmpR c.rx everyX = 0) → LH F0 w w6 [.g b4, .g b5] [.tree x, .tree ev] → enthymemeref04_normal.S0T x.s b4 0 0 0 ⟨none, 0, 0⟩ w6 fun r w' => RetF x.fp w (starX 0 0 (c.rx :: Rt.rxs l')) r w' ∧ Fr0 w w' := by
        intro w6 h1 h2 H6
        refine ⟨by omega, by omega, Rt.at' (show x.P w6 from H6.getD 0).parts.1 hg fun p hp cc => ⟨_, _, _, _, cc.c0, cc.c1, cc.c2, cc.c3, (H6.take 1).locg fun w7 H7 => ⟨⟨c, rfl, ?_, pc (H7.getD 0) hg, fun b hb => .inr (fc hg b hb)⟩, H7.fr⟩⟩⟩
        rw [est, if_neg h1, if_pos h2]
      refine ⟨by omega, by omega, Rt.at' (show x.P w3 from H4.getD 0).parts.1 hg fun p hp _ => H4.locg fun w5 H5 => ?_⟩
      have px5 : x.P w5 := H5.getD 0
      have cc := Rt.again px5.parts.1 hg hp
      have hk0 : 0 ≤ c.k := hpos c (List.mem_of_getElem? hg)
      refine ⟨c.k, cc.c0, sel_dec (fun h2 => H5.locg fun w6 H6 => ⟨⟨emptyT, rfl, ?_, empty_P w6, fun b hb => (empty_fp hb).elim⟩, H6.fr⟩) (fun h2 => ?_)⟩
      · rw [est, if_pos (by omega)]; rfl
      refine ⟨by omega, by omega, Rt.at' px5.parts.1 hg fun p hp _ => H5.locg fun w6 H6 => ?_⟩
      have px6 : x.P w6 := H6.getD 0
      have cc := Rt.again px6.parts.1 hg hp
      refine ⟨c.k, cc.c0, sel_eq (fun hc7 => s0 w6 (by omega) (.inl hc7) H6) (fun hc7 => ⟨by omega, by omega, Rt.at' px6.parts.1 hg fun p hp cc => ⟨_, _, _, _, cc.c0, cc.c1, cc.c2, cc.c3, H6.callg (c_refCompare c ev w6 szc (pc px6 hg) (H6.getD 1)) ?_⟩⟩)⟩
      rintro _ w7 rfl H7
      rw [hev]
      refine ⟨_, rfl, sel_eq (fun h0 => s0 w7 (by omega) (.inr h0) H7) (fun h0 => H7.locg fun w8 H8 => ⟨⟨.mk 7 0 0 x.s x.l, rfl, ?_, ?_, fun b hb => .inr ?_⟩, H8.fr⟩)⟩
      · show Rx.mk 7 0 0 (Rt.rxs x.l) = _
        rw [est, if_neg (by omega), if_neg (fun h => h.elim hc7 h0), hl, e1]
      · unfold Rt.P
        exact (show x.P w8 from H8.getD 0).parts
      · unfold Rt.fp at hb
        exact Rt.fp_parts.2 (List.mem_append.1 hb)
  · -- joined
    have h345 : x.k = 3 ∨ x.k = 4 ∨ x.k = 5 := by omega
    obtain ⟨j, u, z, ew, hj, gu, gz, hu, hzc, huz, hform⟩ := uz_k x ev h345 hev
    have loop : ∀ (d i : Nat) (acc : List Rt) (sl : Sl) (w1 : World), i + d = x.l.length → acc = (x.l.take i).flatMap (openT x) → LH F0 w w1 [.g b4, .g b5, .row ty_enthymemeref04_Regex 4 sl (acc.flatMap Rt.c)] [.tree x, .tree ev] →
        enthymemeref04_normal.L1T x.k x.s b4 0 0 0 ⟨none, 0, 0⟩ b5 ev.k ev.lo.toNat ev.hi.toNat ev.s sl (i : Int) w1 fun r w' => RetF x.fp w (formX (.mk x.k 0 0 (Rt.rxs x.l))) r w' ∧ Fr0 w w' := by
      intro d
      induction d with
      | zero =>
        intro i acc sl w1 hi ha H
        rw [List.take_of_length_le (by omega)] at ha
        subst ha
        have hsub0 : Sub x (x.l.flatMap (openT x)) := Sub.flat fun _ h => h
        have H' := (H.addD (.trees (x.l.flatMap (openT x))) (Fr.refl _ _) (hsub0.Ps (H.getD 0)) (fun b hb => .inr (.inr ⟨_, List.mem_of_getElem? (i := 0) rfl, mem_nub.2 (hsub0.fps (mem_nub.1 hb))⟩))).rowT 2 2 0 0 0
        have H' : LH F0 w w1 [.g b4, .g b5] [.tree x, .tree ev, .tree (lstT sl (x.l.flatMap (openT x)))] := H'.forget _ (by simp)
        refine enthymemeref04_normal.L1T_step _ _ _ _ _ _ _ _ _ _ _ _ _ _ _ _ (sel_false (decide_eq_false (by omega)) ?_)
        refine H'.nwrow (n := 3) (sz := 4) (cs := [emptyT, noT, ev].flatMap Rt.c) rfl (by decide) fun w2 H2 => ?_
        rw [ew]
        refine ⟨by omega, by omega, Rt.at' (s := ⟨some (at0 w1.heap.size), 3, 3⟩) (l := [emptyT, noT, ev]) (H2.get 2 : OwnRow _ _ _ _ _).rdn gu fun p hp c => ⟨_, _, _, _, c.c0, c.c1, c.c2, c.c3, H2.newg fun b8 w3 H3 => H3.locg fun w4 H4 => H4.nwrow (n := 3) (sz := 4) (cs := [noT, ev, noT].flatMap Rt.c) rfl (by decide) fun w5 H5 => ⟨by omega, by omega, Rt.at' (s := ⟨some (at0 w4.heap.size), 3, 3⟩) (l := [noT, ev, noT]) (H5.get 4 : OwnRow _ _ _ _ _).rdn gz fun p hp c => ⟨_, _, _, _, c.c0, c.c1, c.c2, c.c3, H5.newg fun b9 w6 H6 => H6.locg fun w7 H7 => ?_⟩⟩⟩⟩
        have H8 := ((H7.freeze 1 (.g b5) rfl (H7.get 1) fun b hb => hb).freeze 1 _ rfl (H7.get 2) fun b hb => hb).freeze 2 _ rfl (H7.get 4) fun b hb => hb
        exact rn_loop hx hev nev' hu hzc huz hform (H8.forget _ (by simp))
      | succ d ihd =>
        intro i acc sl w1 hi ha H
        have hg : x.l[i]? = some (x.l[i]'(by omega)) := List.getElem?_eq_getElem (by omega)
        generalize x.l[i]'(by omega) = a at hg
        have hm := List.mem_of_getElem? hg
        have pt1 : x.P w1 := H.getD 0
        have sza := Rt.szs_mem hm
        have hsz : Rt.szs acc ≤ Rt.szs x.l := by
          have h1 := szs_open x (x.l.take i)
          have h2 := szs_take_le x.l i
          rw [ha]; omega
        have hnx : acc ++ openT x a = (x.l.take (i + 1)).flatMap (openT x) := by rw [List.take_add_one, hg, List.flatMap_append, ha]; simp
        have nrow := Rt.rows_n (H.get 2 : OwnRow _ _ _ _ _).rdn
        have hla := Rt.szs_len acc
        have tail : ∀ (s' : Sl) (w' : World), LH F0 w w' [.g b4, .g b5, .row ty_enthymemeref04_Regex 4 s' ((acc ++ openT x a).flatMap Rt.c)] [.tree x, .tree ev] → enthymemeref04_normal.S2T x.k x.s b4 0 0 0 ⟨none, 0, 0⟩ b5 ev.k ev.lo.toNat ev.hi.toNat ev.s s' (i : Int) w' fun r w' => RetF x.fp w (formX (.mk x.k 0 0 (Rt.rxs x.l))) r w' ∧ Fr0 w w' := by
          intro s' w' H'
          show enthymemeref04_normal.L1T _ _ _ _ _ _ _ _ _ _ _ _ _ _ _ _
          rw [i64_next _ (by omega)]
          exact ihd (i + 1) _ s' w' (by omega) hnx H'
        refine enthymemeref04_normal.L1T_step _ _ _ _ _ _ _ _ _ _ _ _ _ _ _ _ (sel_true (decide_eq_true (by omega)) ⟨by omega, by omega, Rt.at' pt1.parts.1 hg fun p hp c => ⟨a.k, c.c0, sel_eq (fun hk => ?_) (fun hk => ?_)⟩⟩)
        · have pa : a.P w1 := pt1.parts.2.mem hm
          have na := Rt.rows_n pa.parts.1
          have hla := Rt.szs_len a.l
          have hsa := Rt.sz_parts a
          refine ⟨by omega, by omega, Rt.at' pt1.parts.1 hg fun p hp c => ⟨a.s, c.c3, ?_⟩⟩
          refine H.apT 2 el_rf9 (xs := acc.flatMap Rt.c) (src := a.s) (news := a.l.flatMap Rt.c) rfl pa.parts.1 (c_one _) (by omega) (fun s' w4 H4 => ?_)
          refine tail s' w4 ?_
          have e : openT x a = a.l := if_pos hk
          rw [e, List.flatMap_append]
          exact H4
        · refine ⟨by omega, by omega, Rt.at' pt1.parts.1 hg fun p hp c => ⟨_, _, _, _, c.c0, c.c1, c.c2, c.c3, ?_⟩⟩
          refine H.ap1T 2 el_rf9 (xs := acc.flatMap Rt.c) rfl (fun s' w4 H4 => ?_) (by omega)
          refine tail s' w4 ?_
          have e : openT x a = [a] := if_neg hk
          rw [e, cs_snoc]
          exact H4
    exact loop x.l.length 0 [] ⟨none, 0, 0⟩ w4 (by omega) rfl (H5.nilrow ty_enthymemeref04_Regex 4)
end Go.Proofs.YtknlbofiicflgaaGreat
