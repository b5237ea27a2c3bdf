/- The normal form, plain; package regex: the closures of forms that join, and those of Not and Star: the contracts. Package regex: the forms of Not and Star; the functions by their kinds: the contracts. -/
import Derived.Test.YtknlbofiicflgaaGreatN0
import Derived.Test.YtknlbofiicflgaaGreatN5
namespace Go.Proofs.YtknlbofiicflgaaGreat
open Go Go.W

/-! #### Plain -/
def flatX (k : Int) (l : List Rx) (u : Rx) : List Rx := (l.flatMap fun c => if c.k = k then c.l else [c]).filter fun t => !(cmpR t u == 0)
/-- what is left of the parts, by their number -/
def fewX (k : Int) (u : Rx) : List Rx → Rx
  | [] => u
  | [a] => a
  | l => .mk k 0 0 l
def joinX (k : Int) (l : List Rx) (u z : Rx) : Rx := if (flatX k l u).any (fun t => cmpR t z == 0) then z else fewX k u (if k = 3 then flatX k l u else compX (sortX (flatX k l u)))
/-- how many parts there are when those of its own kind are opened -/
def pcX (k : Int) (l : List Rx) : Nat := (l.flatMap fun c => if c.k = k then c.l else [c]).length
def emptyX : Rx := .mk 1 0 0 []
def everyX : Rx := .mk 6 0 0 [noR]
def starX (lo hi : UInt8) (l : List Rx) : Rx := match l with
  | [] => noR
  | c :: l' => if c.k = 0 ∨ c.k = 1 then emptyX else if c.k = 7 ∨ cmpR c everyX = 0 then c else .mk 7 lo hi (c :: l')
def notX (lo hi : UInt8) (l : List Rx) : Rx := match l with
  | [] => noR
  | c :: l' => if c.k = 6 then (match c.l with | [] => noR | d :: _ => d) else .mk 6 lo hi (c :: l')
def formX : Rx → Rx
  | .mk k lo hi l => if k = 3 then joinX 3 l emptyX noR else if k = 4 then joinX 4 l noR everyX else if k = 5 then joinX 5 l everyX noR else if k = 6 then notX lo hi l else if k = 7 then starX lo hi l else .mk k lo hi l
/-- where a form is asked for there are parts -/
def formOk : Rx → Bool
  | .mk k _ _ l => decide (0 ≤ k) && decide (k < 8) && (match l with
    | [] => k != 6 && k != 7
    | c :: _ => !(k == 6 && c.k == 6 && c.l.isEmpty))
theorem rx_k (t : Rt) : t.rx.k = t.k := by rw [Rt.rx_parts]; rfl
theorem rx_l (t : Rt) : t.rx.l = t.l.map Rt.rx := by rw [Rt.rx_parts, ← Rt.rxs_map]; rfl
theorem flat_rx (x u : Rt) : (flatT x u).map Rt.rx = flatX x.k (Rt.rxs x.l) u.rx := by
  unfold flatT flatX
  rw [Rt.rxs_map]
  generalize x.l = l
  induction l with
  | nil => rfl
  | cons a l ih =>
    rw [List.map_cons, List.flatMap_cons, List.flatMap_cons, List.filter_append, List.filter_append, List.map_append, ih]
    congr 1
    have e : (openT x a).map Rt.rx = if a.rx.k = x.k then a.rx.l else [a.rx] := by
      unfold openT
      rw [rx_k, rx_l]
      split <;> simp
    rw [← e, List.filter_map]
    rfl
theorem compGo_rx : ∀ (l : List Rt) (p : Rt), (compGo p l).map Rt.rx = compGoX p.rx (l.map Rt.rx)
  | [], p => rfl
  | x :: l, p => by
    unfold compGo
    rw [List.map_cons]
    unfold compGoX
    split
    · exact compGo_rx l x
    · rw [List.map_cons, compGo_rx l x]
theorem comp_rx (l : List Rt) : (compT l).map Rt.rx = compX (l.map Rt.rx) := by
  cases l with
  | nil => rfl
  | cons a l => show a.rx :: (compGo a l).map Rt.rx = _; rw [compGo_rx]; rfl
theorem compGo_mem {t : Rt} : ∀ {l : List Rt} {p : Rt}, t ∈ compGo p l → t ∈ l
  | [], p, h => h
  | x :: l, p, h => by
    unfold compGo at h
    split at h
    · exact List.mem_cons_of_mem _ (compGo_mem h)
    · rcases List.mem_cons.1 h with rfl | h
      · simp
      · exact List.mem_cons_of_mem _ (compGo_mem h)
theorem comp_mem {t : Rt} {l : List Rt} (h : t ∈ compT l) : t ∈ l := by
  cases l with
  | nil => exact h
  | cons a l =>
    rcases List.mem_cons.1 h with rfl | h
    · simp
    · exact List.mem_cons_of_mem _ (compGo_mem h)
theorem any_rx (l : List Rt) (z : Rt) : l.any (fun t => cmpR t.rx z.rx == 0) = (l.map Rt.rx).any fun t => cmpR t z.rx == 0 := by
  rw [List.any_map]; rfl
/-- a tree that is returned: new, or a part of what was there -/
def RetF (old : List Nat) (w : World) (x : Rx) (r : Ending) (w' : World) : Prop := ∃ t : Rt, r = .returned t.v ∧ t.rx = x ∧ t.P w' ∧ ∀ b ∈ t.fp, w.heap.size ≤ b ∨ b ∈ old
/-! #### The closures -/
theorem c_join {N : Nat} (hS : SortOk N) (hN : N ≤ 1000000) (x u z : Rt) (bu bz : Nat) (w : World) (h : x.k ≠ 3 → pcX x.k (Rt.rxs x.l) ≤ N) (hx : x.sz ≤ 1000000) (px : x.P w) (pu : u.P w) (pz : z.P w) (hu : w.heap[bu]? = some (.cells u.c.toArray ty_regex_Regex (0, 0))) (hz : w.heap[bz]? = some (.cells z.c.toArray ty_regex_Regex (0, 0))) :
    Calls Tryz.prog n_regex_forms_2_1 #[x.v, .pointer (some (at0 bu)), .pointer (some (at0 bz))] w fun r w' => RetF (x.fp ++ (u.fp ++ z.fp)) w (joinX x.k (Rt.rxs x.l) u.rx z.rx) r w' ∧ Fr0 w w' := by
  have H0 : LH F0 w w [] [.tree x, .tree u, .tree z, enU bu u, enU bz z] := lh0 _ (by
    intro e he
    simp only [List.mem_cons, List.not_mem_nil, or_false] at he
    rcases he with rfl | rfl | rfl | rfl | rfl
    · exact px
    · exact pu
    · exact pz
    · exact hu
    · exact hz)
  have hsub := Sub.flatT x u
  have hfs := szs_flatT x u
  have hfl := Rt.szs_len (flatT x u)
  have kt : ∀ t ∈ flatT x u, t.sz ≤ 1000000 := fun t ht => by have := Rt.szs_mem ht; omega
  have hpc : (flatT x u).length ≤ pcX x.k (Rt.rxs x.l) := by
    have h1 := congrArg List.length (flat_rx x u)
    rw [List.length_map] at h1
    rw [h1]
    exact List.length_filter_le ..
  refine regex_forms_2_1.okT _ _ _ _ _ _ w _ (H0.newg fun b3 w1 H1 => H1.newg fun b4 w2 H2 => ⟨_, _, _, u.s, H2.ldD 3 0, H2.ldD 3 1, H2.ldD 3 2, H2.ldD 3 3, H2.callr (c_flat x u w2 hx (H2.getD 0) (H2.getD 1)) ?_⟩)
  rintro _ w3 ⟨s1, rfl, o1, n1⟩ H3 F3
  have H4 := F3.own (.row ty_regex_Regex 4 s1 ((flatT x u).flatMap Rt.c)) o1 n1
  have hps : ∀ w' : World, x.P w' → Rt.Ps w' (flatT x u) := fun w' h => hsub.Ps h
  refine ⟨s1, rfl, H4.callg (c_ContainsFunc s1 (flatT x u) ⟨n_regex_forms_2_1_1, #[], #[.pointer (some (at0 bz))]⟩ (fun t => cmpR t.rx z.rx == 0) [.tree x, .tree z, enU bz z] w3 (by omega) (H4.get 2 : OwnRow _ _ _ _ _).rdn (by
    intro e he
    simp only [List.mem_cons, List.not_mem_nil, or_false] at he
    rcases he with rfl | rfl | rfl
    · exact H4.getD 0
    · exact H4.getD 2
    · exact H4.getD 4) (by kernel_rfl) (fun w' t ht H' => c_forms211 t z bz w' (kt t ht) ((hps w' (H'.getD 1)).mem ht) (H'.getD 2) (H'.getD 3))) ?_⟩
  rintro _ w4 rfl H5
  have ea : (flatT x u).any (fun t => cmpR t.rx z.rx == 0) = (flatX x.k (Rt.rxs x.l) u.rx).any fun t => cmpR t z.rx == 0 := by rw [any_rx, flat_rx]
  refine ⟨_, rfl, sel_intro (fun ht => ⟨_, _, _, z.s, H5.ldD 4 0, H5.ldD 4 1, H5.ldD 4 2, H5.ldD 4 3, H5.locg fun w8 H8 => ⟨⟨z, rfl, ?_, H8.getD 2, fun b hb => .inr (by simp [hb])⟩, H8.fr⟩⟩) (fun hf => ?_)⟩
  · have ht' := ea ▸ ht
    unfold joinX
    rw [if_pos ht']
  have hf' := ea ▸ hf
  -- the end, whatever is left
  have fin : ∀ (s' : Sl) (ks : List Rt) (w' : World), (∀ t ∈ ks, t ∈ flatT x u) → ks.map Rt.rx = (if x.k = 3 then flatX x.k (Rt.rxs x.l) u.rx else compX (sortX (flatX x.k (Rt.rxs x.l) u.rx))) → LH F0 w w' [.g b3, .g b4, .row ty_regex_Regex 4 s' (ks.flatMap Rt.c)] [.tree x, .tree u, .tree z, enU bu u, enU bz z] →
      regex_forms_2_1.S0T (at0 bu) b3 x.k x.lo.toNat x.hi.toNat x.s b4 0 0 0 ⟨none, 0, 0⟩ s' w' fun r w' => RetF (x.fp ++ (u.fp ++ z.fp)) w (joinX x.k (Rt.rxs x.l) u.rx z.rx) r w' ∧ Fr0 w w' := by
    intro s' ks w' hk he H
    have hks : Sub x ks := hsub.sub hk
    have nr := Rt.rows_n (H.get 2 : OwnRow _ _ _ _ _).rdn
    have ej : joinX x.k (Rt.rxs x.l) u.rx z.rx = fewX x.k u.rx (ks.map Rt.rx) := by
      unfold joinX
      rw [if_neg (by rw [hf']; simp), he]
    refine sel_eq (fun h0 => ⟨_, _, _, u.s, H.ldD 3 0, H.ldD 3 1, H.ldD 3 2, H.ldD 3 3, H.locg fun w8 H8 => ⟨⟨u, rfl, ?_, H8.getD 1, fun b hb => .inr (by simp [hb])⟩, H8.fr⟩⟩) (fun h0 => sel_eq (fun h1 => ?_) (fun h1 => H.locg fun w8 H8 => ⟨⟨.mk x.k 0 0 s' ks, rfl, ?_, ?_, fun b hb => ?_⟩, H8.fr⟩))
    · have : ks = [] := List.length_eq_zero_iff.1 (by omega)
      rw [ej, this]; rfl
    · obtain ⟨a, rfl⟩ := List.length_eq_one_iff.1 (show ks.length = 1 by omega)
      refine H.el 2 0 rfl (t := a) rfl (H.locg fun w8 H8 => ⟨⟨a, rfl, ?_, hks.P _ (H8.getD 0) a (by simp), fun b hb => .inr (by simp [hks.fp a (by simp) b hb])⟩, H8.fr⟩)
      rw [ej]; rfl
    · rw [ej]
      unfold Rt.rx
      rw [Rt.rxs_map]
      cases ks with
      | nil => simp at nr; omega
      | cons a ks =>
        cases ks with
        | nil => simp at nr; omega
        | cons b ks => rfl
    · unfold Rt.P
      exact ⟨(H8.get 2 : OwnRow _ _ _ _ _).rdn, hks.Ps (H8.getD 0)⟩
    · unfold Rt.fp at hb
      rcases List.mem_append.1 hb with hb | hb
      · exact .inl ((H8.new _ (List.mem_of_getElem? (i := 2) rfl) b (rdn_own hb)).resolve_right id)
      · exact .inr (by simp [hks.fps hb])
  have eo : ∀ w' : World, LH F0 w w' [.g b3, .g b4, .row ty_regex_Regex 4 s1 ((flatT x u).flatMap Rt.c)] [.tree x, .tree u, .tree z, enU bu u, enU bz z] → ∀ y ∈ blkL s1, y ∉ Rt.fps (flatT x u) := fun w' H' y hy hm => H'.off 2 0 rfl rfl y hy (mem_nub.2 (hsub.fps hm))
  refine sel_ne (fun hk => ?_) (fun hk => fin s1 (flatT x u) w4 (fun _ h => h) (by rw [if_pos hk, flat_rx]) H5)
  refine H5.callw 2 rfl (hS s1 (flatT x u) w4 (by have := h hk; omega) (by omega) (H5.get 2) (hps w4 (H5.getD 0)) (eo w4 H5)) ?_
  rintro _ w5 ⟨m, rfl, hm1, hm2, o5⟩ hH
  have H6 : LH F0 w w5 [.g b3, .g b4, .row ty_regex_Regex 4 s1 (m.flatMap Rt.c)] [.tree x, .tree u, .tree z, enU bu u, enU bz z] := hH (.row ty_regex_Regex 4 s1 (m.flatMap Rt.c)) o5 fun b hb => .inl hb
  have hsub2 : Sub x m := hsub.sub fun t ht => hm1.mem_iff.1 ht
  refine ⟨rfl, H6.callw 2 rfl (c_CompactFunc s1 m w5 (by rw [szs_perm hm1]; omega) (H6.get 2) (hsub2.Ps (H6.getD 0)) (fun y hy hm => H6.off 2 0 rfl rfl y hy (mem_nub.2 (hsub2.fps hm)))) ?_⟩
  rintro _ w6 ⟨s2, rfl, o6, n6⟩ hH2
  have H7 : LH F0 w w6 [.g b3, .g b4, .row ty_regex_Regex 4 s2 ((compT m).flatMap Rt.c)] [.tree x, .tree u, .tree z, enU bu u, enU bz z] := hH2 (.row ty_regex_Regex 4 s2 ((compT m).flatMap Rt.c)) o6 fun b hb => .inl (n6 b hb)
  have hsm : m.map Rt.rx = sortX ((flatT x u).map Rt.rx) := sortX_of hm2 (hm1.map _)
  exact ⟨s2, rfl, fin s2 (compT m) w6 (fun t ht => hm1.mem_iff.1 (comp_mem ht)) (by rw [if_neg hk, comp_rx, hsm, flat_rx]) H7⟩
end Go.Proofs.YtknlbofiicflgaaGreat
namespace Go.Proofs.YtknlbofiicflgaaGreat
open Go Go.W

/-- a load of a part, as it is printed -/
theorem part_el {w : World} {x t : Rt} (px : x.P w) {k : Nat} {X : Int} {K : Int → Int → Int → Sl → Prop} (hX : X = (k : Int)) (hg : x.l[k]? = some t) (h : K t.k t.lo.toNat t.hi.toNat t.s) :
    (0 : Int) ≤ X ∧ X < ((x.s.n : Nat) : Int) ∧ optP x.s.a fun p => ∃ a b c : Int, ∃ d : Sl, w.cell? ((p.add (Int.toNat X * 4)).add 0) = some (.i a) ∧ w.cell? ((p.add (Int.toNat X * 4)).add 1) = some (.int .u8 b) ∧ w.cell? ((p.add (Int.toNat X * 4)).add 2) = some (.int .u8 c) ∧ w.cell? ((p.add (Int.toNat X * 4)).add 3) = some d.v ∧ K a b c d := by
  subst hX
  have hn := Rt.rows_n px.parts.1
  have hk := (List.getElem?_eq_some_iff.1 hg).1
  exact ⟨by omega, by omega, Rt.at' px.parts.1 hg fun p hp c => ⟨_, _, _, _, c.c0, c.c1, c.c2, c.c3, h⟩⟩
theorem c_not (x : Rt) (w : World) (px : x.P w) (hk : x.k = 6) (ho : formOk x.rx = true) : Calls Tryz.prog n_regex_forms_3 #[x.v] w fun r w' => RetF x.fp w (notX x.lo x.hi (Rt.rxs x.l)) r w' ∧ Fr0 w w' := by
  have nr := Rt.rows_n px.parts.1
  rw [Rt.rx_parts] at ho
  cases hl : x.l with
  | nil => rw [hl, hk] at ho; simp [formOk, Rt.rxs] at ho
  | cons c l' =>
    have hg : x.l[0]? = some c := by rw [hl]; rfl
    have mc : c ∈ x.l := List.mem_of_getElem? hg
    have e1 : Rt.rxs (c :: l') = c.rx :: Rt.rxs l' := rfl
    refine regex_forms_3.okT _ _ _ _ w _ ((lhT px).newg fun b1 w1 H1 => H1.newg fun b2 w2 H2 => ?_)
    have px2 : x.P w2 := H2.getD 0
    have n2 : 0 < x.s.n := by rw [hl] at nr; simp at nr; omega
    refine ⟨by omega, by omega, Rt.at' px2.parts.1 hg fun p hp cc => ⟨c.k, cc.c0, sel_eq (fun h6 => ?_) (fun h6 => H2.locg fun w10 H10 => ⟨⟨x, rfl, ?_, H10.getD 0, fun b hb => .inr hb⟩, H10.fr⟩)⟩⟩
    · refine ⟨by omega, by omega, Rt.at' px2.parts.1 hg fun p hp cc => ⟨c.s, cc.c3, ?_⟩⟩
      cases hcl : c.l with
      | nil =>
        rw [hl, e1] at ho
        have e2 : c.rx.l.isEmpty = true := by rw [rx_l, hcl]; rfl
        simp [formOk, hk, rx_k, h6, e2] at ho
      | cons d l2 =>
        have hgd : c.l[0]? = some d := by rw [hcl]; rfl
        refine part_el (px2.parts.2.mem mc) rfl hgd (H2.locg fun w6 H6 => ⟨⟨d, rfl, ?_, ((show x.P w6 from H6.getD 0).parts.2.mem mc).parts.2.mem (List.mem_of_getElem? hgd), fun b hb => .inr (Rt.fp_parts.2 (.inr (Rt.fps_iff.2 ⟨c, mc, Rt.fp_parts.2 (.inr (Rt.fps_iff.2 ⟨d, List.mem_of_getElem? hgd, hb⟩))⟩)))⟩, H6.fr⟩)
        rw [e1]
        show d.rx = if c.rx.k = 6 then _ else _
        rw [if_pos (by rw [rx_k, h6]), rx_l, hcl]; rfl
    · rw [e1]
      show x.rx = if c.rx.k = 6 then _ else _
      rw [if_neg (by rw [rx_k]; exact h6), Rt.rx_parts, hk, hl, e1]
theorem c_star (x m v : Rt) (bm bv : Nat) (w : World) (hx : x.sz ≤ 1000000) (px : x.P w) (pm : m.P w) (pv : v.P w) (hm : w.heap[bm]? = some (.cells m.c.toArray ty_regex_Regex (0, 0))) (hv : w.heap[bv]? = some (.cells v.c.toArray ty_regex_Regex (0, 0))) (em : m.rx = emptyX) (ev : v.rx = everyX) (hk : x.k = 7) (ho : formOk x.rx = true) :
    Calls Tryz.prog n_regex_forms_4 #[x.v, .pointer (some (at0 bm)), .pointer (some (at0 bv))] w fun r w' => RetF (x.fp ++ (m.fp ++ v.fp)) w (starX x.lo x.hi (Rt.rxs x.l)) r w' ∧ Fr0 w w' := by
  have nr := Rt.rows_n px.parts.1
  rw [Rt.rx_parts] at ho
  cases hl : x.l with
  | nil => rw [hl, hk] at ho; simp [formOk, Rt.rxs] at ho
  | cons c l' =>
    have hg : x.l[0]? = some c := by rw [hl]; rfl
    have mc : c ∈ x.l := List.mem_of_getElem? hg
    have e1 : Rt.rxs (c :: l') = c.rx :: Rt.rxs l' := rfl
    have H0 : LH F0 w w [] [.tree x, .tree m, .tree v, enU bm m, enU bv v] := lh0 _ (by
      intro e he
      simp only [List.mem_cons, List.not_mem_nil, or_false] at he
      rcases he with rfl | rfl | rfl | rfl | rfl
      · exact px
      · exact pm
      · exact pv
      · exact hm
      · exact hv)
    refine regex_forms_4.okT _ _ _ _ _ _ w _ (H0.newg fun b3 w1 H1 => H1.newg fun b4 w2 H2 => ?_)
    have n2 : 0 < x.s.n := by rw [hl] at nr; simp at nr; omega
    have sc : c.sz ≤ 1000000 := by have := Rt.szs_mem mc; have := Rt.sz_parts x; omega
    have fc : ∀ b ∈ c.fp, b ∈ x.fp := fun b hb => Rt.fp_parts.2 (.inr (Rt.fps_iff.2 ⟨c, mc, hb⟩))
    refine part_el (show x.P w2 from H2.getD 0) rfl hg (H2.newg fun b5 w3 H3 => ?_)
    -- the empty string
    have isE : c.k = 0 ∨ c.k = 1 → ∀ w' : World, LH F0 w w' [.g b3, .g b4, .g b5] [.tree x, .tree m, .tree v, enU bm m, enU bv v] → regex_forms_4.S0T (at0 bm) b4 0 0 0 ⟨none, 0, 0⟩ w' fun r w' => RetF (x.fp ++ (m.fp ++ v.fp)) w (starX x.lo x.hi (Rt.rxs (c :: l'))) r w' ∧ Fr0 w w' := fun hc w' H =>
      ⟨_, _, _, m.s, H.ldD 3 0, H.ldD 3 1, H.ldD 3 2, H.ldD 3 3, H.locg fun w4 H4 => ⟨⟨m, rfl, by
        rw [em, e1]
        show _ = if c.rx.k = 0 ∨ c.rx.k = 1 then _ else _
        rw [rx_k, if_pos hc], H4.getD 1, fun b hb => .inr (by simp [hb])⟩, H4.fr⟩⟩
    -- the part itself
    have isC : ¬ (c.k = 0 ∨ c.k = 1) → (c.k = 7 ∨ cmpR c.rx everyX = 0) → ∀ w' : World, LH F0 w w' [.g b3, .g b4, .g b5] [.tree x, .tree m, .tree v, enU bm m, enU bv v] → regex_forms_4.S1T b4 0 0 0 ⟨none, 0, 0⟩ b5 c.k c.lo.toNat c.hi.toNat c.s w' fun r w' => RetF (x.fp ++ (m.fp ++ v.fp)) w (starX x.lo x.hi (Rt.rxs (c :: l'))) r w' ∧ Fr0 w w' := fun hn hc w' H =>
      H.locg fun w4 H4 => ⟨⟨c, rfl, by
        rw [e1]
        show _ = if c.rx.k = 0 ∨ c.rx.k = 1 then _ else if c.rx.k = 7 ∨ cmpR c.rx everyX = 0 then _ else _
        rw [rx_k, if_neg hn, if_pos hc], (show x.P w4 from H4.getD 0).parts.2.mem mc, fun b hb => .inr (by simp [fc b hb])⟩, H4.fr⟩
    refine sel_eq (fun h0 => H3.locg fun w4 H4 => isE (.inl h0) w4 H4) (fun h0 => sel_eq (fun h1 => H3.locg fun w4 H4 => isE (.inr h1) w4 H4) (fun h1 => sel_eq (fun h7 => H3.locg fun w4 H4 => isC (by omega) (.inl h7) w4 H4) (fun h7 => H3.locg fun w4 H4 => ⟨_, _, _, v.s, H4.ldD 4 0, H4.ldD 4 1, H4.ldD 4 2, H4.ldD 4 3, ?_⟩)))
    refine H4.callg (c_equal c v w4 sc ((show x.P w4 from H4.getD 0).parts.2.mem mc) (H4.getD 2)) ?_
    rintro _ w5 rfl H5
    rw [ev]
    refine ⟨_, rfl, sel_eq (fun hc => isC (by omega) (.inr hc) w5 H5) (fun hc => H5.locg fun w6 H6 => ⟨⟨x, rfl, ?_, H6.getD 0, fun b hb => .inr (by simp [hb])⟩, H6.fr⟩)⟩
    rw [e1]
    show x.rx = if c.rx.k = 0 ∨ c.rx.k = 1 then _ else if c.rx.k = 7 ∨ cmpR c.rx everyX = 0 then _ else _
    rw [rx_k, if_neg (by omega), if_neg (by
      rintro (h | h)
      · exact h7 h
      · exact hc h), Rt.rx_parts, hk, hl, e1]
/-! #### The functions, by their kinds -/
/-- what forms returns -/
structure Fm where
  m : Nat
  es : Array MapEntry
  clock : Nat
  ms : List (Int × Value)
  cs : List (Nat × Rt)
  s : Sl
def noT : Rt := .mk 0 0 0 ⟨none, 0, 0⟩ []
def emptyT : Rt := .mk 1 0 0 ⟨none, 0, 0⟩ []
def Fm.ev (F : Fm) : Rt := .mk 6 0 0 F.s [noT]
def _root_.Go.W.En.fm (F : Fm) : En := .all (.ob F.m (.map F.es F.clock) :: .tree F.ev :: F.cs.map fun p => enU p.1 p.2)
def joinF (a b : Nat) : Value := .func (.func n_regex_forms_2_1) #[] #[.pointer (some (at0 a)), .pointer (some (at0 b))]
def selfF : Value := .func (.func n_regex_forms_1) #[] #[]
/-- an entry is right -/
def GoodE (cs : List (Nat × Rt)) (ev : Rt) (k : Int) (v : Value) : Prop :=
  ((k = 0 ∨ k = 1 ∨ k = 2) ∧ v = selfF) ∨ (∃ u z a b, ((k = 3 ∧ u = emptyT ∧ z = noT) ∨ (k = 4 ∧ u = noT ∧ z = ev) ∨ (k = 5 ∧ u = ev ∧ z = noT)) ∧ v = joinF a b ∧ (a, u) ∈ cs ∧ (b, z) ∈ cs) ∨
  (k = 6 ∧ v = .func (.func n_regex_forms_3) #[] #[]) ∨ ∃ a b, k = 7 ∧ v = .func (.func n_regex_forms_4) #[] #[.pointer (some (at0 a)), .pointer (some (at0 b))] ∧ (a, emptyT) ∈ cs ∧ (b, ev) ∈ cs
structure Fm.Ok (F : Fm) : Prop where
  ms : MapIs .i64 F.es F.ms
  all : ∀ k : Int, 0 ≤ k → k < 8 → ∃ v, mget F.ms k = some v ∧ GoodE F.cs F.ev k v
section
variable {F : Fm} {w : World}
theorem fm_map (h : (En.fm F).P w) : w.heap[F.m]? = some (.map F.es F.clock) := h (.ob F.m (.map F.es F.clock)) (by simp)
theorem fm_ev (h : (En.fm F).P w) : F.ev.P w := h (.tree F.ev) (by simp)
theorem fm_cell (h : (En.fm F).P w) {a : Nat} {u : Rt} (hu : (a, u) ∈ F.cs) : w.heap[a]? = some (.cells u.c.toArray ty_regex_Regex (0, 0)) := h (enU a u) (List.mem_cons_of_mem _ (List.mem_cons_of_mem _ (List.mem_map.2 ⟨(a, u), hu, rfl⟩)))
theorem fm_fp {b : Nat} (h : b ∈ F.ev.fp) : b ∈ (En.fm F).fp := mem_nub.2 (List.mem_flatMap.2 ⟨.tree F.ev, by simp, mem_nub.2 h⟩)
theorem no_P (w : World) : noT.P w := no_tree w
theorem empty_P (w : World) : emptyT.P w := by
  unfold emptyT Rt.P Rt.Ps
  exact ⟨RdN.nil 4 w, trivial⟩
theorem no_fp' {b : Nat} (h : b ∈ noT.fp) : False := no_fp h
theorem empty_fp {b : Nat} (h : b ∈ emptyT.fp) : False := by
  unfold emptyT Rt.fp Rt.fps at h
  simp [En.rdn] at h
theorem RetF.sub {old old' : List Nat} {x : Rx} {r : Ending} {w' : World} (h : RetF old w x r w') (hs : ∀ b ∈ old, b ∈ old') : RetF old' w x r w' := by
  obtain ⟨t, h1, h2, h3, h4⟩ := h
  exact ⟨t, h1, h2, h3, fun b hb => (h4 b hb).imp id (hs b)⟩
theorem mo_fm : MapOk Tryz.prog ty_map_int_func_regex_Regex_regex_Regex ty_int ty_func_regex_Regex_regex_Regex .i64 .nilFunc := ⟨by kernel_rfl, by kernel_rfl, by kernel_rfl⟩
end
theorem lookup_int1 {P : Program} {T kt et : TypeId} {kd : IntKind} {z : Value} (mo : MapOk P T kt et kd z) {w : World} {mb : Nat} {es : Array MapEntry} {clock : Nat} {ms : List (Int × Value)}
    (hm : w.heap[mb]? = some (.map es clock)) (hms : MapIs kd es ms) (k : Int) : (Instr.lookup T (.map (some mb)) (.int kd k) false).run P w = .ok ((mget ms k).getD z) w := by
  have hf := findNow_int (k := k) (i := 0) hms
  have hg : (getObj mb).run P w = .ok (.map es clock) w := by simp [getObj, Sem.run, hm]
  have hg2 := mget_idx (ms := ms) (k := k) (i := 0)
  unfold Instr.lookup Instr.findKey
  simp only [Sem.run_bind, run_underlying mo.hT, Result.andThen_ok, hg, Sem.run_pure, checkKey_int mo.hk, run_underlying mo.hk, hf]
  cases hr : ((ms.findIdx? fun p => p.1 == k).bind fun j => (ms[j]?).map fun p => (0 + j, p.2)) with
  | none => rw [hr] at hg2; simp [← hg2, zeroValue_run mo.hz]
  | some q => rw [hr] at hg2; simp [← hg2]
/-- f[k](x) -/
theorem c_entry {N : Nat} (hS : SortOk N) (hN : N ≤ 1000000) {F : Fm} (hF : F.Ok) {w : World} (h : (En.fm F).P w) (k : Int) (h0 : 0 ≤ k) (h8 : k < 8) :
    ∃ f : Fv, (Instr.lookup ty_map_int_func_regex_Regex_regex_Regex (.map (some F.m)) (.i k) false).run Tryz.prog w = .ok f.v w ∧ callable Tryz.prog f.n = true ∧ ∀ (x : Rt) (w' : World), (En.fm F).P w' → x.P w' → x.k = k → (x.k = 4 ∨ x.k = 5 → pcX x.k (Rt.rxs x.l) ≤ N) → x.sz ≤ 1000000 → formOk x.rx = true →
      Calls Tryz.prog f.n (f.bs ++ #[x.v] ++ f.cs) w' fun r w'' => RetF (x.fp ++ (En.fm F).fp) w' (formX x.rx) r w'' ∧ Fr0 w' w'' := by
  have mo := mo_fm
  obtain ⟨v, hv, hg⟩ := hF.all k h0 h8
  have hl := lookup_int1 mo (fm_map h) hF.ms k
  rw [hv, Option.getD_some] at hl
  have fx : ∀ x : Rt, formX x.rx = if x.k = 3 then joinX 3 (Rt.rxs x.l) emptyX noR else if x.k = 4 then joinX 4 (Rt.rxs x.l) noR everyX else if x.k = 5 then joinX 5 (Rt.rxs x.l) everyX noR else if x.k = 6 then notX x.lo x.hi (Rt.rxs x.l) else if x.k = 7 then starX x.lo x.hi (Rt.rxs x.l) else x.rx := fun x => by
    rw [Rt.rx_parts]; rfl
  rcases hg with ⟨hk, rfl⟩ | ⟨u, z', a, b, hk, rfl, ha, hb⟩ | ⟨rfl, rfl⟩ | ⟨a, b, rfl, rfl, ha, hb⟩
  · refine ⟨⟨n_regex_forms_1, #[], #[]⟩, hl, by kernel_rfl, fun x w' hF' px hxk hxs hx1 hxo => ((c_forms1 x w' px).mono ?_)⟩
    rintro _ w2 ⟨rfl, f⟩
    refine ⟨⟨x, rfl, ?_, px.fr0 f, fun b hb => .inr (by simp [hb])⟩, f⟩
    rw [fx, if_neg (by omega), if_neg (by omega), if_neg (by omega), if_neg (by omega), if_neg (by omega)]
  · refine ⟨⟨n_regex_forms_2_1, #[], #[.pointer (some (at0 a)), .pointer (some (at0 b))]⟩, hl, by kernel_rfl, fun x w' hF' px hxk hxs hx1 hxo => ?_⟩
    have pu : u.P w' := by
      rcases hk with ⟨_, rfl, _⟩ | ⟨_, rfl, _⟩ | ⟨_, rfl, _⟩
      · exact empty_P w'
      · exact no_P w'
      · exact fm_ev hF'
    have pz : z'.P w' := by
      rcases hk with ⟨_, _, rfl⟩ | ⟨_, _, rfl⟩ | ⟨_, _, rfl⟩
      · exact no_P w'
      · exact fm_ev hF'
      · exact no_P w'
    refine (c_join hS hN x u z' a b w' (fun h3 => hxs (by rcases hk with ⟨rfl, _⟩ | ⟨rfl, _⟩ | ⟨rfl, _⟩ <;> omega)) hx1 px pu pz (fm_cell hF' ha) (fm_cell hF' hb)).mono ?_
    rintro r w2 ⟨hr, f⟩
    refine ⟨?_, f⟩
    have e : formX x.rx = joinX x.k (Rt.rxs x.l) u.rx z'.rx := by
      rw [fx]
      rcases hk with ⟨rfl, rfl, rfl⟩ | ⟨rfl, rfl, rfl⟩ | ⟨rfl, rfl, rfl⟩
      · rw [if_pos hxk, hxk]; rfl
      · rw [if_neg (by omega), if_pos hxk, hxk]; rfl
      · rw [if_neg (by omega), if_neg (by omega), if_pos hxk, hxk]; rfl
    rw [e]
    refine hr.sub fun c hc => ?_
    rcases List.mem_append.1 hc with hc | hc
    · simp [hc]
    · rcases List.mem_append.1 hc with hc | hc
      · rcases hk with ⟨_, rfl, _⟩ | ⟨_, rfl, _⟩ | ⟨_, rfl, _⟩
        · exact (empty_fp hc).elim
        · exact (no_fp' hc).elim
        · exact List.mem_append_right _ (fm_fp hc)
      · rcases hk with ⟨_, _, rfl⟩ | ⟨_, _, rfl⟩ | ⟨_, _, rfl⟩
        · exact (no_fp' hc).elim
        · exact List.mem_append_right _ (fm_fp hc)
        · exact (no_fp' hc).elim
  · refine ⟨⟨n_regex_forms_3, #[], #[]⟩, hl, by kernel_rfl, fun x w' hF' px hxk hxs hx1 hxo => ((c_not x w' px hxk hxo).mono ?_)⟩
    rintro r w2 ⟨hr, f⟩
    refine ⟨?_, f⟩
    rw [fx, if_neg (by omega), if_neg (by omega), if_neg (by omega), if_pos hxk]
    exact hr.sub fun c hc => by simp [hc]
  · refine ⟨⟨n_regex_forms_4, #[], #[.pointer (some (at0 a)), .pointer (some (at0 b))]⟩, hl, by kernel_rfl, fun x w' hF' px hxk hxs hx1 hxo => ((c_star x emptyT F.ev a b w' hx1 px (empty_P w') (fm_ev hF') (fm_cell hF' ha) (fm_cell hF' hb) rfl rfl hxk hxo).mono ?_)⟩
    rintro r w2 ⟨hr, f⟩
    refine ⟨?_, f⟩
    rw [fx, if_neg (by omega), if_neg (by omega), if_neg (by omega), if_neg (by omega), if_pos hxk]
    refine hr.sub fun c hc => ?_
    rcases List.mem_append.1 hc with hc | hc
    · simp [hc]
    · rcases List.mem_append.1 hc with hc | hc
      · exact (empty_fp hc).elim
      · exact List.mem_append_right _ (fm_fp hc)
end Go.Proofs.YtknlbofiicflgaaGreat
