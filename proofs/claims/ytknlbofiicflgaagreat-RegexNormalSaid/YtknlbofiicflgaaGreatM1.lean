/- Package regex: tables of truth values, table, meet: the contracts. Package regex: repeated, the closures of spans, spans, Match: the contracts. -/
import Derived.Test.YtknlbofiicflgaaGreatN7
import Derived.Test.YtknlbofiicflgaaGreatVM
namespace Go.Proofs.YtknlbofiicflgaaGreat
open Go Go.W

theorem el_bool : ElemOk Tryz.prog ty_sl_bool ty_bool (.bool false) 1 1 := ⟨by kernel_rfl, by kernel_rfl, rfl, by decide, by decide⟩
theorem el_slb : ElemOk Tryz.prog ty_sl_sl_bool ty_sl_bool (.slice none 0 0) 1 24 := ⟨by kernel_rfl, by kernel_rfl, rfl, by decide, by decide⟩
/-- a table: rows of one's own, of which the first m are there -/
structure TbO (w : World) (t : Sl) (rs : List Sl) (n m : Nat) (G : List (List Bool)) : Prop where
  out : OwnRow w ty_sl_bool 1 t (rs.map Sl.v)
  len : rs.length = n + 1
  glen : G.length = n + 1
  rows : ∀ (i : Nat) (r : Sl) (g : List Bool), rs[i]? = some r → G[i]? = some g → (i < m → g.length = n + 1) ∧ OwnRow w ty_bool 1 r (g.map Value.bool)
  nd : (blkL t ++ rs.flatMap blkL).Nodup
theorem TbO.keep {w w' : World} {t : Sl} {rs : List Sl} {n m : Nat} {G : List (List Bool)} (h : TbO w t rs n m G) (hk : ∀ b ∈ blkL t ++ rs.flatMap blkL, b < w.heap.size → w'.heap[b]? = w.heap[b]?) : TbO w' t rs n m G :=
  ⟨h.out.keep fun b hb => hk b (List.mem_append_left _ hb), h.len, h.glen, fun i r g hr hg => ⟨(h.rows i r g hr hg).1, (h.rows i r g hr hg).2.keep fun b hb => hk b (List.mem_append_right _ (List.mem_flatMap.2 ⟨r, List.mem_of_getElem? hr, hb⟩))⟩, h.nd⟩
theorem TbO.lt {w : World} {t : Sl} {rs : List Sl} {n m : Nat} {G : List (List Bool)} (h : TbO w t rs n m G) : ∀ b ∈ blkL t ++ rs.flatMap blkL, b < w.heap.size := fun b hb => by
  rcases List.mem_append.1 hb with hb | hb
  · exact h.out.lt b hb
  · obtain ⟨r, hr, hb⟩ := List.mem_flatMap.1 hb
    obtain ⟨i, hi⟩ := List.mem_iff_getElem?.1 hr
    have hl := (List.getElem?_eq_some_iff.1 hi).1
    have hg : G[i]? = some (G[i]'(by rw [h.glen, ← h.len]; exact hl)) := List.getElem?_eq_getElem _
    exact (h.rows i r _ hi hg).2.lt b hb
def _root_.Go.W.En.tab (t : Sl) (rs : List Sl) (n m : Nat) (G : List (List Bool)) : En := ⟨nub (blkL t ++ rs.flatMap blkL), fun w => TbO w t rs n m G, fun _ _ h hp => hp.keep fun b hb hl => h b (mem_nub.2 hb) hl, fun _ hp b hb => hp.lt b (mem_nub.1 hb), nub_nodup _⟩
def gAt (G : List (List Bool)) (i j : Nat) : Bool := ((G[i]?.getD [])[j]?).getD false
def setG (G : List (List Bool)) (i j : Nat) (b : Bool) : List (List Bool) := G.set i ((G[i]?.getD []).set j b)
theorem gAt_set {G : List (List Bool)} {i j : Nat} {b : Bool} {g : List Bool} (hg : G[i]? = some g) (hj : j < g.length) (i' j' : Nat) : gAt (setG G i j b) i' j' = if i' = i ∧ j' = j then b else gAt G i' j' := by
  have hi := (List.getElem?_eq_some_iff.1 hg).1
  unfold gAt setG
  rw [hg, Option.getD_some, List.getElem?_set]
  by_cases e1 : i = i'
  · subst e1
    rw [if_pos rfl, if_pos hi, Option.getD_some, hg, Option.getD_some, List.getElem?_set]
    by_cases e2 : j = j'
    · subst e2
      simp [hj]
    · rw [if_neg e2, if_neg (fun h => e2 h.2.symm)]
  · rw [if_neg e1, if_neg (fun h => e1 h.1.symm)]
/-- a row, as it is printed -/
theorem row_bool {w : World} {r : Sl} {g : List Bool} (ho : OwnRow w ty_bool 1 r (g.map Value.bool)) {j : Nat} {Y : Int} (hY : Y = (j : Int)) {b : Bool} (hb : g[j]? = some b) {K : Bool → Prop} (hk : K b) :
    (0 : Int) ≤ Y ∧ Y < ((r.n : Nat) : Int) ∧ optP r.a fun p => ∃ x : Bool, w.cell? (p.add (Int.toNat Y * 1)) = some (.bool x) ∧ K x := by
  subst hY
  have hl : g.length = r.n := by have := ho.len; simpa using this
  have hj := (List.getElem?_eq_some_iff.1 hb).1
  have hr := ho.row.crow
  obtain ⟨p, hp, hc⟩ := hr.2 j (.bool b) (by rw [List.getElem?_map, hb]; rfl)
  rw [hp]
  exact ⟨by omega, by omega, b, by rw [Int.toNat_natCast, Nat.mul_one]; exact hc, hk⟩
theorem tab_row {w : World} {t : Sl} {rs : List Sl} {n m : Nat} {G : List (List Bool)} (h : TbO w t rs n m G) {i : Nat} {X : Int} (hX : X = (i : Int)) {r : Sl} (hr : rs[i]? = some r) {K : Sl → Prop} (hk : K r) :
    (0 : Int) ≤ X ∧ X < ((t.n : Nat) : Int) ∧ optP t.a fun p => ∃ x : Sl, w.cell? (p.add (Int.toNat X * 1)) = some x.v ∧ K x := by
  subst hX
  have hl : rs.length = t.n := by have := h.out.len; simpa using this
  have hi := (List.getElem?_eq_some_iff.1 hr).1
  obtain ⟨p, hp, hc⟩ := h.out.row.crow.2 i r.v (by rw [List.getElem?_map, hr]; rfl)
  rw [hp]
  exact ⟨by omega, by omega, r, by rw [Int.toNat_natCast, Nat.mul_one]; exact hc, hk⟩
/-- an entry, as it is printed -/
theorem tab_get {w : World} {t : Sl} {rs : List Sl} {n m : Nat} {G : List (List Bool)} (h : TbO w t rs n m G) {i j : Nat} (hi : i ≤ n) (him : i < m) (hj : j ≤ n) {X Y : Int} (hX : X = (i : Int)) (hY : Y = (j : Int)) {K : Bool → Prop} (hk : K (gAt G i j)) :
    (0 : Int) ≤ X ∧ X < ((t.n : Nat) : Int) ∧ optP t.a fun p => ∃ r : Sl, w.cell? (p.add (Int.toNat X * 1)) = some r.v ∧ (0 : Int) ≤ Y ∧ Y < ((r.n : Nat) : Int) ∧ optP r.a fun q => ∃ b : Bool, w.cell? (q.add (Int.toNat Y * 1)) = some (.bool b) ∧ K b := by
  have hr : rs[i]? = some (rs[i]'(by rw [h.len]; omega)) := List.getElem?_eq_getElem _
  have hg : G[i]? = some (G[i]'(by rw [h.glen]; omega)) := List.getElem?_eq_getElem _
  obtain ⟨h1, h2⟩ := h.rows i _ _ hr hg
  have hgl := h1 him
  refine tab_row h hX hr (row_bool h2 hY (j := j) (b := gAt G i j) ?_ hk)
  unfold gAt
  rw [hg, Option.getD_some, List.getElem?_eq_getElem (by omega), Option.getD_some]
theorem nd_off {t : Sl} {rs : List Sl} (h : (blkL t ++ rs.flatMap blkL).Nodup) {i : Nat} {r : Sl} (hr : rs[i]? = some r) : (∀ b ∈ blkL r, b ∉ blkL t) ∧ ∀ j r', rs[j]? = some r' → i ≠ j → ∀ b ∈ blkL r, b ∉ blkL r' := by
  rw [List.nodup_append] at h
  refine ⟨fun b hb ht => h.2.2 b ht b (List.mem_flatMap.2 ⟨r, List.mem_of_getElem? hr, hb⟩) rfl, ?_⟩
  have hn := h.2.1
  clear h
  induction rs generalizing i with
  | nil => simp at hr
  | cons a l ih =>
    rw [List.flatMap_cons, List.nodup_append] at hn
    intro j r' hj hij b hb hb'
    cases i with
    | zero =>
      simp at hr; subst hr
      cases j with
      | zero => exact hij rfl
      | succ j => exact hn.2.2 b hb b (List.mem_flatMap.2 ⟨r', List.mem_of_getElem? (by simpa using hj), hb'⟩) rfl
    | succ i =>
      cases j with
      | zero =>
        simp at hj; subst hj
        exact hn.2.2 b hb' b (List.mem_flatMap.2 ⟨r, List.mem_of_getElem? (by simpa using hr), hb⟩) rfl
      | succ j => exact ih (by simpa using hr) hn.2.1 j r' (by simpa using hj) (by omega) b hb hb'
section
variable {M : Nat → Prop} {w0 w : World} {L D : List En}
/-- an entry is written -/
theorem _root_.Go.W.LH.tabSt (H : LH M w0 w L D) (k : Nat) {t : Sl} {rs : List Sl} {n m : Nat} {G : List (List Bool)} (hk : L[k]? = some (.tab t rs n m G)) {i j : Nat} (him : i < m) (hin : i ≤ n) (hj : j ≤ n) {r : Sl} (hr : rs[i]? = some r) {Y : Int} (hY : Y = (j : Int)) {b : Bool} {K : World → Prop}
    (hK : ∀ w', LH M w0 w' (L.set k (.tab t rs n m (setG G i j b))) D → K w') : (0 : Int) ≤ Y ∧ Y < ((r.n : Nat) : Int) ∧ optP r.a fun p => stV w (p.add (Int.toNat Y * 1)) (.bool b) K := by
  subst hY
  have h : TbO w t rs n m G := H.get k hk
  have hg : G[i]? = some (G[i]'(by rw [h.glen]; omega)) := List.getElem?_eq_getElem _
  generalize G[i]'(by rw [h.glen]; omega) = g at hg
  obtain ⟨h1, h2⟩ := h.rows i _ _ hr hg
  have hgl := h1 him
  have hl : g.length = r.n := by have := h2.len; simpa using this
  obtain ⟨p, hp, hb, x1, x2, x3, x4⟩ := own_set h2 j (by rw [List.length_map]; omega) (.bool b)
  rw [hp]
  refine ⟨by omega, by omega, (show stV w (p.add (j * 1)) (.bool b) K from ?_)⟩
  rw [Nat.mul_one]
  obtain ⟨o1, o2⟩ := nd_off h.nd hr
  refine ⟨x1, x2, hK _ (H.upd k (.tab t rs n m (setG G i j b)) hk (x4.mono fun x _ hx => mem_nub.2 (List.mem_append_right _ (List.mem_flatMap.2 ⟨r, List.mem_of_getElem? hr, hx⟩))) ?_ fun b hb => .inl hb)⟩
  refine ⟨h.out.fr x4 fun b hb hb' => o1 b hb' hb, h.len, by unfold setG; rw [List.length_set]; exact h.glen, fun i' r' g' hr' hg' => ?_, h.nd⟩
  unfold setG at hg'
  rw [hg, Option.getD_some, List.getElem?_set] at hg'
  by_cases e : i = i'
  · subst e
    rw [if_pos rfl, if_pos (List.getElem?_eq_some_iff.1 hg).1] at hg'
    rw [hr] at hr'
    cases hr'
    cases hg'
    refine ⟨fun _ => by rw [List.length_set]; exact hgl, ?_⟩
    rw [List.map_set]
    exact x3
  · rw [if_neg e] at hg'
    obtain ⟨q1, q2⟩ := h.rows i' r' g' hr' hg'
    exact ⟨q1, q2.fr x4 fun b hb hb' => o2 i' r' hr' e b hb' hb⟩
/-- a new row -/
theorem _root_.Go.W.LH.tabNew (H : LH M w0 w L D) (k : Nat) {t : Sl} {rs : List Sl} {n m : Nat} {G : List (List Bool)} (hk : L[k]? = some (.tab t rs n m G)) (hm : m ≤ n) (hn : n ≤ 1000000) (hnil : rs[m]? = some ⟨none, 0, 0⟩) {X Z : Int} (hX : X = ((n + 1 : Nat) : Int)) (hZ : Z = (m : Int)) {K : World → Prop}
    (hK : ∀ (r : Sl) w', LH M w0 w' (L.set k (.tab t (rs.set m r) n (m + 1) (G.set m (List.replicate (n + 1) false)))) D → K w') :
    ∃ (x : Sl) (w2 : World), Sem.run Tryz.prog (Instr.makeSlice ty_sl_bool (.i X) (.i X)) w = .ok x.v w2 ∧ (0 : Int) ≤ Z ∧ Z < ((t.n : Nat) : Int) ∧ optP t.a fun p => stV w2 (p.add (Int.toNat Z * 1)) x.v K := by
  subst hX hZ
  have h : TbO w t rs n m G := H.get k hk
  obtain ⟨w2, r1, r2, r3⟩ := make_full el_bool w (n + 1) (by omega)
  rw [madeCells_one _ _ rfl] at r2
  have hl : rs.length = t.n := by have := h.out.len; simpa using this
  have hlen := h.len
  have hglen := h.glen
  have h' := h.keep fun b _ hl => r3.keep b hl id
  obtain ⟨p, hp, hb, x1, x2, x3, x4⟩ := own_set h'.out m (by rw [List.length_map]; omega) (Sl.mk (some ⟨w.heap.size, 0, none⟩) (n + 1) (n + 1)).v
  refine ⟨⟨some ⟨w.heap.size, 0, none⟩, n + 1, n + 1⟩, w2, r1, by omega, by omega, ?_⟩
  rw [hp]
  refine (show stV w2 (p.add (m * 1)) _ K from ?_)
  rw [Nat.mul_one]
  have hsz : ∀ b ∈ blkL t ++ rs.flatMap blkL, b < w.heap.size := h.lt
  have hfp : ∀ b ∈ blkL t ++ (rs.set m ⟨some ⟨w.heap.size, 0, none⟩, n + 1, n + 1⟩).flatMap blkL, b ∈ blkL t ++ rs.flatMap blkL ∨ b = w.heap.size := by
    intro b hb
    rcases List.mem_append.1 hb with hb | hb
    · exact .inl (List.mem_append_left _ hb)
    · obtain ⟨r, hr, hb⟩ := List.mem_flatMap.1 hb
      rcases List.mem_or_eq_of_mem_set hr with hr | rfl
      · exact .inl (List.mem_append_right _ (List.mem_flatMap.2 ⟨r, hr, hb⟩))
      · exact .inr (by simpa [blkL] using hb)
  refine ⟨x1, x2, hK ⟨some ⟨w.heap.size, 0, none⟩, n + 1, n + 1⟩ _ (H.upd k (.tab t (rs.set m ⟨some ⟨w.heap.size, 0, none⟩, n + 1, n + 1⟩) n (m + 1) (G.set m (List.replicate (n + 1) false))) hk ((Fr.of0 (M := (· ∈ (En.tab t rs n m G).fp)) r3).trans x4 fun x _ hx => mem_nub.2 (List.mem_append_left _ hx)) ?_ fun b hb => ?_)⟩
  · refine ⟨?_, by rw [List.length_set]; exact h.len, by rw [List.length_set]; exact h.glen, fun i r g hr hg => ?_, ?_⟩
    · rw [List.map_set]
      exact x3
    · rw [List.getElem?_set] at hr hg
      by_cases e : m = i
      · subst e
        rw [if_pos rfl, if_pos (by omega)] at hr hg
        cases hr
        have hgm : m < G.length := by rw [h.glen]; omega
        cases hg
        refine ⟨fun _ => List.length_replicate, ?_⟩
        rw [List.map_replicate]
        refine r2.fr x4 fun b hb hb' => ?_
        have := h.out.lt b hb'
        simp [blkL] at hb
        omega
      · rw [if_neg e] at hr hg
        obtain ⟨q1, q2⟩ := h'.rows i r g hr hg
        exact ⟨fun hi => q1 (by omega), q2.fr x4 fun b hb hb' => (nd_off h.nd hr).1 b hb hb'⟩
    · have e := h.nd
      rw [List.nodup_append] at e ⊢
      refine ⟨e.1, nodup_set hnil e.2.1 (by simp [blkL]) (fun x hx => .inr fun hx' => ?_), fun x hx y hy hxy => ?_⟩
      · simp [blkL] at hx
        have := hsz x (List.mem_append_right _ hx')
        omega
      · subst hxy
        rcases hfp x (List.mem_append_right _ hy) with h1 | h1
        · obtain ⟨r, hr, hb⟩ := List.mem_flatMap.1 hy
          rcases List.mem_or_eq_of_mem_set hr with hr | rfl
          · exact e.2.2 x hx x (List.mem_flatMap.2 ⟨r, hr, hb⟩) rfl
          · simp [blkL] at hb
            have := h.out.lt x hx
            omega
        · have := h.out.lt x hx
          omega
  · rcases hfp b (mem_nub.1 hb) with h1 | h1
    · exact .inl (mem_nub.2 h1)
    · exact .inr (by omega)
end
/-- a table that is returned, all new -/
def RetTab (w : World) (n : Nat) (q : Nat → Nat → Bool) (r : Ending) (w' : World) : Prop := ∃ (t : Sl) (rs : List Sl) (G : List (List Bool)), r = .returned t.v ∧ TbO w' t rs n (n + 1) G ∧ (∀ b ∈ (En.tab t rs n (n + 1) G).fp, w.heap.size ≤ b) ∧ ∀ i j, i ≤ j → j ≤ n → gAt G i j = q i j
theorem c_table (s : ByteArray) (n : Nat) (hs : s.size = n) (hn : n ≤ 1000) (f : Fv) (q : Nat → Nat → Bool) (D : List En) (w : World) (hD : ∀ e ∈ D, e.P w) (hc : callable Tryz.prog f.n = true)
    (hf : ∀ w' i j, i ≤ j → j ≤ n → LH F0 w w' [] D → Calls Tryz.prog f.n (f.bs ++ #[.i (i : Int), .i (j : Int)] ++ f.cs) w' fun r w'' => r = .returned (.bool (q i j)) ∧ Fr0 w' w'') :
    Calls Tryz.prog n_regex_table #[.string s, f.v] w fun r w' => RetTab w n q r w' ∧ Fr0 w w' := by
  have en : IntKind.wrap .i64 (((s.size : Nat) : Int) + 1) = ((n + 1 : Nat) : Int) := by rw [i64_next _ (by omega), hs]
  -- the rows
  have outer : ∀ (d i : Nat) (t : Sl) (rs : List Sl) (G : List (List Bool)) (w1 : World), i + d = n + 1 → t.n = n + 1 → (∀ k, i ≤ k → k ≤ n → rs[k]? = some ⟨none, 0, 0⟩) → (∀ k j, k < i → k ≤ j → j ≤ n → gAt G k j = q k j) → LH F0 w w1 [.tab t rs n i G] D →
      regex_table.L0 s f t ((t.n : Nat) : Int) (i : Int) w1 fun r w' => RetTab w n q r w' ∧ Fr0 w w' := by
    intro d
    induction d with
    | zero =>
      intro i t rs G w1 hi ht hr hG H
      have hi' : i = n + 1 := by omega
      subst hi'
      exact regex_table.L0_step _ _ _ _ _ _ _ (sel_false (decide_eq_false (by omega)) ⟨⟨t, rs, G, rfl, H.get 0, fun b hb => (H.new _ (List.mem_of_getElem? (i := 0) rfl) b hb).resolve_right id, fun a b hab hb => hG a b (by omega) hab hb⟩, H.fr⟩)
    | succ d ihd =>
      intro i t rs G w1 hi ht hr hG H
      have inner : ∀ (e j : Nat) (rs : List Sl) (G : List (List Bool)) (w2 : World), j + e = n + 1 → i ≤ j → (∀ k, i < k → k ≤ n → rs[k]? = some ⟨none, 0, 0⟩) → (∀ k l, k ≤ i → k ≤ l → l ≤ n → (k = i → l < j) → gAt G k l = q k l) → LH F0 w w2 [.tab t rs n (i + 1) G] D →
          regex_table.L1 s f t (i : Int) (j : Int) ((t.n : Nat) : Int) (i : Int) w2 fun r w' => RetTab w n q r w' ∧ Fr0 w w' := by
        intro e
        induction e with
        | zero =>
          intro j rs G w2 hj hij hr hG H2
          refine regex_table.L1_step _ _ _ _ _ _ _ _ _ (sel_false (decide_eq_false (by omega)) ?_)
          rw [i64_next _ (by omega)]
          exact ihd (i + 1) t rs G w2 (by omega) ht (fun k h1 h2 => hr k (by omega) h2) (fun k l h1 h2 h3 => hG k l (by omega) h2 h3 (fun _ => by omega)) H2
        | succ e ihe =>
          intro j rs G w2 hj hij hr hG H2
          have htb : TbO w2 t rs n (i + 1) G := H2.get 0
          have hri : rs[i]? = some (rs[i]'(by rw [htb.len]; omega)) := List.getElem?_eq_getElem _
          generalize rs[i]'(by rw [htb.len]; omega) = r at hri
          refine regex_table.L1_step _ _ _ _ _ _ _ _ _ (sel_true (decide_eq_true (by omega)) (H2.dr fun w4 H4 => ?_))
          have htn : rs.length = t.n := by have := htb.out.len; simpa using this
          have hcell : ∀ w5 : World, LH F0 w w5 [.tab t rs n (i + 1) G] D → ∃ p, t.a = some p ∧ w5.cell? (p.add (Int.toNat (i : Int) * 1)) = some r.v := fun w5 H5 => by
            obtain ⟨p, hp, hcc⟩ := (H5.get 0 : TbO _ _ _ _ _ _).out.row.crow.2 i r.v (by rw [List.getElem?_map, hri]; rfl)
            exact ⟨p, hp, by rw [Int.toNat_natCast, Nat.mul_one]; exact hcc⟩
          obtain ⟨p, hp, hcp⟩ := hcell w4 H4
          rw [hp]
          refine ⟨by omega, by omega, r, hcp, ?_⟩
          rw [hc]
          refine (show AndT true _ from ?_)
          refine H4.call (hf w4 i j hij (by omega) (H4.take 0)) ?_
          rintro _ w5 rfl H5
          obtain ⟨p5, hp5, hcp5⟩ := hcell w5 H5
          rw [hp] at hp5
          cases hp5
          refine ⟨_, rfl, hcp5, H5.tabSt 0 rfl (by omega) (by omega) (by omega) hri rfl fun w6 H6 => ?_⟩
          rw [i64_next _ (by omega)]
          have hgi : G[i]? = some (G[i]'(by rw [htb.glen]; omega)) := List.getElem?_eq_getElem _
          have hgl := (htb.rows i r _ hri hgi).1 (by omega)
          refine ihe (j + 1) rs _ w6 (by omega) (by omega) hr (fun k l h1 h2 h3 h4 => ?_) H6
          rw [gAt_set hgi (by omega)]
          split
          · rename_i he
            rw [he.1, he.2]
          · rename_i he
            exact hG k l h1 h2 h3 (fun hk => by
              have := h4 hk
              have : l ≠ j := fun hl => he ⟨hk, hl⟩
              omega)
      refine regex_table.L0_step _ _ _ _ _ _ _ (sel_true (decide_eq_true (by omega)) (H.tabNew 0 rfl (by omega) (by omega) (hr i (Nat.le_refl _) (by omega)) en rfl fun r w3 H3 => ?_))
      refine inner (n + 1 - i) i _ _ w3 (by omega) (Nat.le_refl _) (fun k h1 h2 => ?_) (fun k l h1 h2 h3 h4 => ?_) H3
      · rw [List.getElem?_set_ne (by omega)]
        exact hr k (by omega) h2
      · have hk : k ≠ i := fun e => by have := h4 e; omega
        unfold gAt
        rw [List.getElem?_set_ne (by omega)]
        exact hG k l (by omega) h2 h3
  obtain ⟨w1, r1, r2, r3⟩ := make_full el_slb w (n + 1) (by omega)
  rw [madeCells_one _ _ rfl] at r2
  rw [← en] at r1
  refine regex_table.ok _ _ w _ ⟨⟨some ⟨w.heap.size, 0, none⟩, n + 1, n + 1⟩, w1, r1, ?_⟩
  have H0 : LH F0 w w1 [.tab ⟨some ⟨w.heap.size, 0, none⟩, n + 1, n + 1⟩ (List.replicate (n + 1) ⟨none, 0, 0⟩) n 0 (List.replicate (n + 1) [])] D := by
    have he : ∀ rs : List Sl, (∀ r ∈ rs, r = ⟨none, 0, 0⟩) → rs.flatMap blkL = [] := fun rs h => List.flatMap_eq_nil_iff.2 fun r hr => by rw [h r hr]; rfl
    have he' := he (List.replicate (n + 1) ⟨none, 0, 0⟩) fun r hr => List.eq_of_mem_replicate hr
    refine (lh0 D hD).push _ r3 ⟨?_, List.length_replicate, List.length_replicate, fun i r g hr hg => ?_, ?_⟩ fun b hb => ?_
    · rw [List.map_replicate]
      exact r2
    · have h1 := List.eq_of_mem_replicate (List.mem_of_getElem? hr)
      have h2 := List.eq_of_mem_replicate (List.mem_of_getElem? hg)
      subst h1 h2
      exact ⟨fun h => by omega, OwnRow.nil _ _ _⟩
    · rw [he']
      simp [blkL]
    · have hb := mem_nub.1 hb
      rw [he', List.append_nil] at hb
      simp [blkL] at hb
      omega
  exact outer (n + 1) 0 _ _ _ w1 (by omega) rfl (fun k _ h => by rw [List.getElem?_replicate, if_pos (by omega)]) (fun k j h => by omega) H0
/-- an entry of each of two tables, one after the other -/
def anyM (q : Nat → Bool) (i : Nat) : Nat → Bool
  | 0 => false
  | d + 1 => q i || anyM q (i + 1) d
theorem c_meet {a b : Sl} {ra rb : List Sl} {n : Nat} {A B : List (List Bool)} (w : World) (ha : TbO w a ra n (n + 1) A) (hb : TbO w b rb n (n + 1) B) (hn : n ≤ 1000) (i j : Nat) (hij : i ≤ j) (hj : j ≤ n) :
    Calls Tryz.prog n_regex_meet #[a.v, b.v, .i (i : Int), .i (j : Int)] w fun r w' => r = .returned (.bool (anyM (fun m => gAt A i m && gAt B m j) i (j + 1 - i))) ∧ Fr0 w w' := by
  have loop : ∀ (d m : Nat), m + d = j + 1 → i ≤ m → anyM (fun m => gAt A i m && gAt B m j) m d = anyM (fun m => gAt A i m && gAt B m j) i (j + 1 - i) → regex_meet.L0 a b (i : Int) (j : Int) (m : Int) w fun r w' => r = .returned (.bool (anyM (fun m => gAt A i m && gAt B m j) i (j + 1 - i))) ∧ Fr0 w w' := by
    intro d
    induction d with
    | zero =>
      intro m hm him he
      refine regex_meet.L0_step _ _ _ _ _ _ _ (sel_false (decide_eq_false (by omega)) ⟨?_, Fr.refl _ _⟩)
      rw [← he]; rfl
    | succ d ihd =>
      intro m hm him he
      have he' : ((gAt A i m && gAt B m j) || anyM (fun m => gAt A i m && gAt B m j) (m + 1) d) = anyM (fun m => gAt A i m && gAt B m j) i (j + 1 - i) := he
      have next : (gAt A i m && gAt B m j) = false → regex_meet.S1 a b (i : Int) (j : Int) (m : Int) w fun r w' => r = .returned (.bool (anyM (fun m => gAt A i m && gAt B m j) i (j + 1 - i))) ∧ Fr0 w w' := fun hf => by
        show regex_meet.L0 _ _ _ _ _ _ _
        rw [i64_next _ (by omega)]
        rw [hf, Bool.false_or] at he'
        exact ihd (m + 1) (by omega) (by omega) he'
      refine regex_meet.L0_step _ _ _ _ _ _ _ (sel_true (decide_eq_true (by omega)) (tab_get ha (by omega) (by omega) (by omega) rfl rfl (sel_intro (fun h1 => tab_get hb (by omega) (by omega) hj rfl rfl (sel_intro (fun h2 => ⟨?_, Fr.refl _ _⟩) (fun h2 => next (by rw [h2]; simp)))) (fun h1 => next (by rw [h1]; rfl)))))
      rw [← he', h1, h2]; rfl
  exact regex_meet.ok _ _ _ _ w _ (loop (j + 1 - i) i (by omega) (Nat.le_refl _) rfl)
end Go.Proofs.YtknlbofiicflgaaGreat
namespace Go.Proofs.YtknlbofiicflgaaGreat
open Go Go.W

theorem anyM_congr {p q : Nat → Bool} : ∀ (d i : Nat), (∀ m, i ≤ m → m < i + d → p m = q m) → anyM p i d = anyM q i d
  | 0, _, _ => rfl
  | d + 1, i, h => by
    unfold anyM
    rw [h i (Nat.le_refl _) (by omega), anyM_congr d (i + 1) fun m h1 h2 => h m (by omega) (by omega)]
theorem anyM_snoc (p : Nat → Bool) : ∀ (d i : Nat), anyM p i (d + 1) = (anyM p i d || p (i + d))
  | 0, i => by unfold anyM; simp [anyM]
  | d + 1, i => by
    have h := anyM_snoc p d (i + 1)
    show (p i || anyM p (i + 1) (d + 1)) = ((p i || anyM p (i + 1) d) || p (i + (d + 1)))
    rw [h, Bool.or_assoc, show i + 1 + d = i + (d + 1) by omega]
theorem anyM_up {p : Nat → Bool} {i d e : Nat} (h : anyM p i d = true) (hd : d ≤ e) : anyM p i e = true := by
  induction e with
  | zero =>
    have : d = 0 := by omega
    subst this
    exact h
  | succ e ih =>
    by_cases hde : d = e + 1
    · rw [← hde]; exact h
    · rw [anyM_snoc, ih (by omega)]; rfl
def epsQ (i j : Nat) : Bool := i == j
def rngQ (lo hi : UInt8) (u : List UInt8) (i j : Nat) : Bool := (j == i + 1) && (match u[i]? with | some b => decide (lo.toNat ≤ b.toNat) && decide (b.toNat ≤ hi.toNat) | none => false)
def meetQ (a b : Nat → Nat → Bool) (i j : Nat) : Bool := anyM (fun m => a i m && b m j) i (j + 1 - i)
def bothQ (all : Bool) (a b : Nat → Nat → Bool) (i j : Nat) : Bool := if all then a i j && b i j else a i j || b i j
def starQ (a : Nat → Nat → Bool) : Nat → Nat → Nat → Bool
  | 0, i, j => i == j
  | f + 1, i, j => (i == j) || anyM (fun m => a i m && starQ a f m j) (i + 1) (j - i)
theorem starQ_same (a : Nat → Nat → Bool) : ∀ (f g i j : Nat), j - i ≤ f → j - i ≤ g → i ≤ j → starQ a f i j = starQ a g i j
  | 0, g, i, j, hf, hg, hij => by
    have : i = j := by omega
    subst this
    cases g <;> simp [starQ]
  | f + 1, g, i, j, hf, hg, hij => by
    by_cases e : i = j
    · subst e
      cases g <;> simp [starQ]
    · cases g with
      | zero => omega
      | succ g =>
        unfold starQ
        congr 1
        exact anyM_congr _ _ fun m h1 h2 => by rw [starQ_same a f g m j (by omega) (by omega) (by omega)]
def starS (a : Nat → Nat → Bool) (i j : Nat) : Bool := starQ a (j - i) i j
theorem starS_eq (a : Nat → Nat → Bool) {i j : Nat} (h : i ≤ j) : starS a i j = ((i == j) || anyM (fun m => a i m && starS a m j) (i + 1) (j - i)) := by
  unfold starS
  by_cases e : i = j
  · subst e
    simp [starQ]
  · obtain ⟨d, hd⟩ : ∃ d, j - i = d + 1 := ⟨j - i - 1, by omega⟩
    rw [hd]
    show ((i == j) || anyM (fun m => a i m && starQ a d m j) (i + 1) (j - i)) = _
    rw [hd]
    congr 1
    exact anyM_congr _ _ fun m h1 h2 => by rw [starQ_same a d (j - m) m j (by omega) (Nat.le_refl _) (by omega)]
/-! #### repeated -/
theorem c_repeated {a : Sl} {ra : List Sl} {n : Nat} {A : List (List Bool)} (s : ByteArray) (hs : s.size = n) (hn : n ≤ 1000) (w : World) (ha : TbO w a ra n (n + 1) A) :
    Calls Tryz.prog n_regex_repeated #[a.v, .string s] w fun r w' => RetTab w n (starS (gAt A)) r w' ∧ Fr0 w w' := by
  let S := starS (gAt A)
  let R : Post := fun r w' => RetTab w n (starS (gAt A)) r w' ∧ Fr0 w w'
  have H0 : LH F0 w w [] [.tab a ra n (n + 1) A] := lh0 _ (by
    intro e he
    simp only [List.mem_cons, List.not_mem_nil, or_false] at he
    subst he
    exact ha)
  -- row i, from its end
  have rows : ∀ (i : Nat) (t : Sl) (rs : List Sl) (G : List (List Bool)) (w1 : World), i ≤ n → (∀ k l, k ≤ l → l ≤ n → gAt G k l = if i ≤ k then S k l else epsQ k l) → LH F0 w w1 [.tab t rs n (n + 1) G] [.tab a ra n (n + 1) A] → regex_repeated.L0 a s t ((i : Int) - 1) w1 R := by
    intro i
    induction i with
    | zero =>
      intro t rs G w1 hi hG H
      refine regex_repeated.L0_step _ _ _ _ _ _ (sel_false (decide_eq_false (by omega)) ⟨⟨t, rs, G, rfl, H.get 0, fun b hb => (H.new _ (List.mem_of_getElem? (i := 0) rfl) b hb).resolve_right id, fun k l h1 h2 => ?_⟩, H.fr⟩)
      rw [hG k l h1 h2, if_pos (by omega)]
    | succ i ih =>
      intro t rs G w1 hi hG H
      have ei : (((i + 1 : Nat) : Int) - 1) = (i : Int) := by omega
      rw [ei]
      -- columns
      have cols : ∀ (e j : Nat) (G : List (List Bool)) (w2 : World), j + e = n + 1 → i + 1 ≤ j → (∀ k l, k ≤ l → l ≤ n → gAt G k l = if i + 1 ≤ k ∨ (k = i ∧ l < j) then S k l else epsQ k l) → LH F0 w w2 [.tab t rs n (n + 1) G] [.tab a ra n (n + 1) A] → regex_repeated.L1 a s t (i : Int) (j : Int) w2 R := by
        intro e
        induction e with
        | zero =>
          intro j G w2 hj hij hG H2
          refine regex_repeated.L1_step _ _ _ _ _ _ _ (sel_false (decide_eq_false (by omega)) ?_)
          rw [IntWalk.i64_in _ (by omega)]
          refine ih t rs G w2 (by omega) (fun k l h1 h2 => ?_) H2
          rw [hG k l h1 h2]
          by_cases hk : i ≤ k
          · rw [if_pos (by omega), if_pos hk]
          · rw [if_neg (by omega), if_neg hk]
        | succ e ihe =>
          intro j G w2 hj hij hG H2
          refine regex_repeated.L1_step _ _ _ _ _ _ _ (sel_true (decide_eq_true (by omega)) ?_)
          rw [i64_next _ (by omega)]
          have hSij : S i j = anyM (fun m => gAt A i m && S m j) (i + 1) (j - i) := by
            have := starS_eq (gAt A) (i := i) (j := j) (by omega)
            show starS (gAt A) i j = _
            rw [this, beq_eq_false_iff_ne.2 (by omega : i ≠ j), Bool.false_or]
          -- the sum
          have sum : ∀ (f m : Nat) (G : List (List Bool)) (w3 : World), m + f = j + 1 → i + 1 ≤ m → (∀ k l, k ≤ l → l ≤ n → ¬ (k = i ∧ l = j) → gAt G k l = if i + 1 ≤ k ∨ (k = i ∧ l < j) then S k l else epsQ k l) → gAt G i j = anyM (fun m => gAt A i m && S m j) (i + 1) (m - (i + 1)) →
              LH F0 w w3 [.tab t rs n (n + 1) G] [.tab a ra n (n + 1) A] → regex_repeated.L2 a s t (i : Int) (j : Int) (m : Int) w3 R := by
            intro f
            induction f with
            | zero =>
              intro m G w3 hm him hG hv H3
              refine regex_repeated.L2_step _ _ _ _ _ _ _ _ (sel_false (decide_eq_false (by omega)) ?_)
              show regex_repeated.L1 _ _ _ _ _ _ _
              rw [i64_next _ (by omega)]
              refine ihe (j + 1) G w3 (by omega) (by omega) (fun k l h1 h2 => ?_) H3
              by_cases hkl : k = i ∧ l = j
              · obtain ⟨rfl, rfl⟩ := hkl
                rw [if_pos (.inr ⟨rfl, by omega⟩), hv, hSij, show m - (k + 1) = l - k by omega]
              · rw [hG k l h1 h2 hkl]
                by_cases hc : i + 1 ≤ k ∨ (k = i ∧ l < j)
                · rw [if_pos hc, if_pos (by omega)]
                · rw [if_neg hc, if_neg (by omega)]
            | succ f ihf =>
              intro m G w3 hm him hG hv H3
              have htb : TbO w3 t rs n (n + 1) G := H3.get 0
              have hri : rs[i]? = some (rs[i]'(by rw [htb.len]; omega)) := List.getElem?_eq_getElem _
              generalize rs[i]'(by rw [htb.len]; omega) = r at hri
              have hgi : G[i]? = some (G[i]'(by rw [htb.glen]; omega)) := List.getElem?_eq_getElem _
              have hgl := (htb.rows i r _ hri hgi).1 (by omega)
              refine regex_repeated.L2_step _ _ _ _ _ _ _ _ (sel_true (decide_eq_true (by omega)) (tab_get htb (by omega) (by omega) (by omega) rfl rfl (sel_not (fun h0 => ?_) (fun h1 => ?_))))
              · -- still false
                have put : ∀ (b : Bool) (w4 w5 : World), b = (gAt A i m && S m j) → LH F0 w w5 [.tab t rs n (n + 1) (setG G i j b)] [.tab a ra n (n + 1) A] → regex_repeated.S3 a s t (i : Int) (j : Int) (m : Int) w5 R := by
                  intro b w4 w5 hb H5
                  show regex_repeated.L2 _ _ _ _ _ _ _ _
                  rw [i64_next _ (by omega)]
                  refine ihf (m + 1) (setG G i j b) w5 (by omega) (by omega) (fun k l h1 h2 h3 => ?_) ?_ H5
                  · rw [gAt_set hgi (by omega), if_neg h3]
                    exact hG k l h1 h2 h3
                  · rw [gAt_set hgi (by omega), if_pos ⟨rfl, rfl⟩, show m + 1 - (i + 1) = (m - (i + 1)) + 1 by omega, anyM_snoc, ← hv, h0, Bool.false_or, hb, show i + 1 + (m - (i + 1)) = m by omega]
                have hmj : gAt G m j = S m j := by rw [hG m j (by omega) (by omega) (by omega), if_pos (.inl (by omega))]
                refine H3.dr fun w4 H4 => tab_row (H4.get 0) rfl hri (tab_get (H4.getD 0 : TbO _ _ _ _ _ _) (by omega) (by omega) (by omega) rfl rfl (sel_intro (fun h2 => ?_) (fun h2 => ?_)))
                · exact tab_get (H4.get 0 : TbO _ _ _ _ _ _) (by omega) (by omega) (by omega) rfl rfl (H4.tabSt 0 rfl (by omega) (by omega) (by omega) hri rfl fun w5 H5 => put _ w4 w5 (by rw [h2, hmj]; rfl) H5)
                · exact H4.tabSt 0 rfl (by omega) (by omega) (by omega) hri rfl fun w5 H5 => put _ w4 w5 (by rw [h2]; rfl) H5
              · -- already true
                show regex_repeated.L1 _ _ _ _ _ _ _
                rw [i64_next _ (by omega)]
                refine ihe (j + 1) G w3 (by omega) (by omega) (fun k l h1' h2 => ?_) H3
                by_cases hkl : k = i ∧ l = j
                · obtain ⟨rfl, rfl⟩ := hkl
                  rw [if_pos (.inr ⟨rfl, by omega⟩), h1, hSij]
                  rw [h1] at hv
                  exact (anyM_up hv.symm (by omega)).symm
                · rw [hG k l h1' h2 hkl]
                  by_cases hc : i + 1 ≤ k ∨ (k = i ∧ l < j)
                  · rw [if_pos hc, if_pos (by omega)]
                  · rw [if_neg hc, if_neg (by omega)]
          refine sum (j - i) (i + 1) G w2 (by omega) (Nat.le_refl _) (fun k l h1 h2 _ => hG k l h1 h2) ?_ H2
          rw [hG i j (by omega) (by omega), if_neg (by omega), Nat.sub_self]
          show epsQ i j = false
          exact beq_eq_false_iff_ne.2 (by omega)
      refine regex_repeated.L0_step _ _ _ _ _ _ (sel_true (decide_eq_true (by omega)) ?_)
      rw [i64_next _ (by omega)]
      refine cols (n + 1 - (i + 1)) (i + 1) G w1 (by omega) (Nat.le_refl _) (fun k l h1 h2 => ?_) H
      rw [hG k l h1 h2]
      by_cases hk : i + 1 ≤ k
      · rw [if_pos hk, if_pos (.inl hk)]
      · rw [if_neg hk]
        by_cases hk2 : k = i ∧ l < i + 1
        · obtain ⟨rfl, hl⟩ := hk2
          have : k = l := by omega
          subst this
          rw [if_pos (.inr ⟨rfl, hl⟩)]
          have := starS_eq (gAt A) (i := k) (j := k) (Nat.le_refl _)
          show epsQ k k = starS (gAt A) k k
          rw [this]
          simp [epsQ]
        · rw [if_neg (by omega)]
  have hi : ∀ w' i j, i ≤ j → j ≤ n → LH F0 w w' [] [.tab a ra n (n + 1) A] → Calls Tryz.prog n_regex_repeated_1 #[.i (i : Int), .i (j : Int)] w' fun r w'' => r = .returned (.bool (epsQ i j)) ∧ Fr0 w' w'' := fun w' i j _ _ _ => by
    refine regex_repeated_1.ok _ _ w' _ ⟨?_, Fr.refl _ _⟩
    congr 2
    rw [Bool.eq_iff_iff]
    simp [epsQ]
    omega
  refine regex_repeated.ok _ _ w _ (H0.callq (c_table s n hs hn ⟨n_regex_repeated_1, #[], #[]⟩ epsQ [.tab a ra n (n + 1) A] w H0.rd (by kernel_rfl) hi) ?_)
  rintro _ w1 ⟨t, rs, G, rfl, ht, ft, hG⟩ _ F1
  have H1 := F1.own (.tab t rs n (n + 1) G) ht ft
  refine ⟨t, rfl, ?_⟩
  rw [hs, IntWalk.i64_in _ (by omega)]
  refine rows n t rs G w1 (Nat.le_refl _) (fun k l h1 h2 => ?_) H1
  rw [hG k l h1 h2]
  by_cases hk : n ≤ k
  · have h3 : k = n := by omega
    have h4 : l = n := by omega
    rw [h3, h4, if_pos (Nat.le_refl _)]
    have := starS_eq (gAt A) (i := n) (j := n) (Nat.le_refl _)
    show epsQ n n = starS (gAt A) n n
    rw [this]
    simp [epsQ]
  · rw [if_neg hk]
end Go.Proofs.YtknlbofiicflgaaGreat
