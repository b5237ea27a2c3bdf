/- The normal form, plain: it is in normal form and its own one, it has at most twice as many nodes, and matches the same strings; sorting and leaving out is the same as putting in one after the other. -/
import Derived.Test.YtknlbofiicflgaaGreatN10
import Derived.Test.YtknlbofiicflgaaGreatNO
import Derived.Test.YtknlbofiicflgaaGreatP1
namespace Go.Proofs.YtknlbofiicflgaaGreat
open Go Go.W

/-! #### In normal form -/
def uX (k : Int) : Rx := if k = 3 then emptyX else if k = 4 then noR else everyX
def zX (k : Int) : Rx := if k = 4 then everyX else noR
mutual
def NF : Rx → Prop
  | .mk k lo hi l => NFs l ∧ (k ≠ 2 → lo = 0 ∧ hi = 0) ∧ (((k = 0 ∨ k = 1) ∧ l = []) ∨ (k = 2 ∧ l = [] ∧ lo.toNat ≤ hi.toNat) ∨
      ((k = 3 ∨ k = 4 ∨ k = 5) ∧ 2 ≤ l.length ∧ (k ≠ 3 → Inc l) ∧ ∀ t ∈ l, t.k ≠ k ∧ t ≠ uX k ∧ t ≠ zX k) ∨
      (k = 6 ∧ ∃ c, l = [c] ∧ c.k ≠ 6) ∨ (k = 7 ∧ ∃ c, l = [c] ∧ c.k ≠ 0 ∧ c.k ≠ 1 ∧ c.k ≠ 7 ∧ c ≠ everyX))
def NFs : List Rx → Prop
  | [] => True
  | a :: l => NF a ∧ NFs l
end
theorem NFs_iff : ∀ {l : List Rx}, NFs l ↔ ∀ t ∈ l, NF t
  | [] => by unfold NFs; simp
  | a :: l => by unfold NFs; rw [NFs_iff]; simp
theorem nf_no : NF noR := by unfold noR NF NFs; simp
theorem nf_empty : NF emptyX := by unfold emptyX NF NFs; simp
theorem nf_every : NF everyX := by
  unfold everyX NF NFs NFs
  refine ⟨⟨nf_no, trivial⟩, by simp, .inr (.inr (.inr (.inl ⟨rfl, noR, rfl, by decide⟩)))⟩
theorem nf_uX (k : Int) : NF (uX k) := by
  unfold uX
  split
  · exact nf_empty
  · split
    · exact nf_no
    · exact nf_every
theorem nf_zX (k : Int) : NF (zX k) := by
  unfold zX
  split
  · exact nf_every
  · exact nf_no
theorem nf_l {x : Rx} (h : NF x) : ∀ t ∈ x.l, NF t := by
  cases x
  unfold NF at h
  exact NFs_iff.1 h.1
/-- the parts of one of a joined kind -/
theorem nf_join {x : Rx} {k : Int} (hk : k = 3 ∨ k = 4 ∨ k = 5) (h : NF x) (hx : x.k = k) : 2 ≤ x.l.length ∧ (k ≠ 3 → Inc x.l) ∧ ∀ t ∈ x.l, t.k ≠ k ∧ t ≠ uX k ∧ t ≠ zX k := by
  cases x with
  | mk k' lo hi l =>
    have hx : k' = k := hx
    subst hx
    unfold NF at h
    obtain ⟨-, -, h | h | h | h | h⟩ := h
    · omega
    · omega
    · exact h.2
    · omega
    · omega
theorem flatX_mem {k : Int} {l : List Rx} {u t : Rx} : t ∈ flatX k l u ↔ (∃ c ∈ l, if c.k = k then t ∈ c.l else t = c) ∧ t ≠ u := by
  unfold flatX
  rw [List.mem_filter, List.mem_flatMap, cmp_ne]
  refine and_congr ⟨fun ⟨c, hc, h⟩ => ⟨c, hc, ?_⟩, fun ⟨c, hc, h⟩ => ⟨c, hc, ?_⟩⟩ Iff.rfl
  · split at h
    · rename_i e; rw [if_pos e]; exact h
    · rename_i e; rw [if_neg e]; simpa using h
  · split at h
    · rename_i e; rw [if_pos e]; exact h
    · rename_i e; rw [if_neg e]; simpa using h
theorem flat_nf {k : Int} (hk : k = 3 ∨ k = 4 ∨ k = 5) {l : List Rx} (h : ∀ c ∈ l, NF c) {t : Rx} (ht : t ∈ flatX k l (uX k)) : NF t ∧ t.k ≠ k ∧ t ≠ uX k := by
  obtain ⟨⟨c, hc, h1⟩, h2⟩ := flatX_mem.1 ht
  split at h1
  · rename_i e
    exact ⟨nf_l (h c hc) t h1, ((nf_join hk (h c hc) e).2.2 t h1).1, h2⟩
  · rename_i e
    subst h1
    exact ⟨h t hc, e, h2⟩
/-- what is joined -/
def restX (k : Int) (l : List Rx) : List Rx := if k = 3 then flatX k l (uX k) else setX (flatX k l (uX k))
theorem restX_mem {k : Int} {l : List Rx} {t : Rx} : t ∈ restX k l ↔ t ∈ flatX k l (uX k) := by
  unfold restX
  split
  · exact Iff.rfl
  · exact setX_mem
theorem joinX_any (k : Int) (l : List Rx) : ((flatX k l (uX k)).any fun t => cmpR t (zX k) == 0) = true ↔ zX k ∈ flatX k l (uX k) := by
  rw [List.any_eq_true]
  constructor
  · rintro ⟨t, ht, h⟩
    rw [cmp_iff.1 h] at ht
    exact ht
  · exact fun h => ⟨_, h, cmp_iff.2 rfl⟩
theorem joinX_z {k : Int} {l : List Rx} (h : zX k ∈ flatX k l (uX k)) : joinX k l (uX k) (zX k) = zX k := by
  unfold joinX
  rw [if_pos ((joinX_any k l).2 h)]
theorem joinX_f {k : Int} {l : List Rx} (h : ¬ zX k ∈ flatX k l (uX k)) : joinX k l (uX k) (zX k) = fewX k (uX k) (restX k l) := by
  unfold joinX
  rw [if_neg (fun h' => h ((joinX_any k l).1 h'))]
  rfl
theorem join_nf {k : Int} (hk : k = 3 ∨ k = 4 ∨ k = 5) {l : List Rx} (h : ∀ c ∈ l, NF c) : NF (joinX k l (uX k) (zX k)) := by
  by_cases hz : zX k ∈ flatX k l (uX k)
  · rw [joinX_z hz]
    exact nf_zX k
  · rw [joinX_f hz]
    have hm : ∀ t ∈ restX k l, NF t ∧ t.k ≠ k ∧ t ≠ uX k ∧ t ≠ zX k := fun t ht => by
      have ht := restX_mem.1 ht
      obtain ⟨h1, h2, h3⟩ := flat_nf hk h ht
      exact ⟨h1, h2, h3, fun e => hz (e ▸ ht)⟩
    have hinc : k ≠ 3 → Inc (restX k l) := fun h3 => by
      unfold restX
      rw [if_neg h3]
      exact setX_inc _
    generalize restX k l = m at hm hinc
    unfold fewX
    split
    · exact nf_uX k
    · exact (hm _ (by simp)).1
    · rename_i h0 h1
      unfold NF
      refine ⟨NFs_iff.2 fun t ht => (hm t ht).1, fun _ => ⟨rfl, rfl⟩, .inr (.inr (.inl ⟨hk, ?_, hinc, fun t ht => (hm t ht).2⟩))⟩
      cases m with
      | nil => exact absurd rfl h0
      | cons a m =>
        cases m with
        | nil => exact absurd rfl (h1 a)
        | cons b m => simp
theorem formX_join {k : Int} (hk : k = 3 ∨ k = 4 ∨ k = 5) (lo hi : UInt8) (l : List Rx) : formX (.mk k lo hi l) = joinX k l (uX k) (zX k) := by
  rcases hk with rfl | rfl | rfl <;> rfl
theorem not_nf {c : Rx} (h : NF c) : NF (notX 0 0 [c]) := by
  unfold notX
  simp only
  split
  · rename_i e
    split
    · exact nf_no
    · rename_i d m hm
      exact nf_l h d (by rw [hm]; simp)
  · rename_i e
    unfold NF
    exact ⟨NFs_iff.2 fun t ht => by (simp at ht; subst ht; exact h), fun _ => ⟨rfl, rfl⟩, .inr (.inr (.inr (.inl ⟨rfl, c, rfl, e⟩)))⟩
theorem star_nf {c : Rx} (h : NF c) : NF (starX 0 0 [c]) := by
  unfold starX
  simp only
  split
  · exact nf_empty
  · rename_i e
    split
    · exact h
    · rename_i e2
      unfold NF
      exact ⟨NFs_iff.2 fun t ht => by (simp at ht; subst ht; exact h), fun _ => ⟨rfl, rfl⟩, .inr (.inr (.inr (.inr ⟨rfl, c, rfl, fun h => e (.inl h), fun h => e (.inr h), fun h => e2 (.inl h), fun h => e2 (.inr (cmp_iff0.2 h))⟩)))⟩
/-- what is right of a node -/
theorem good_mk {k : Int} {lo hi : UInt8} {l : List Rx} (h : goodR (.mk k lo hi l) = true) : goodL l = true ∧ (k ≠ 2 → lo = 0 ∧ hi = 0) ∧ (((k = 0 ∨ k = 1) ∧ l = []) ∨ (k = 2 ∧ l = [] ∧ lo.toNat ≤ hi.toNat) ∨ (k = 3 ∨ k = 4 ∨ k = 5) ∨ ((k = 6 ∨ k = 7) ∧ ∃ c, l = [c])) := by
  unfold goodR at h
  rw [Bool.and_eq_true] at h
  obtain ⟨h1, h2⟩ := h
  have hlo : k ≠ 2 → lo = 0 ∧ hi = 0 := fun hk => by
    have e : (k != 2) = true := by simpa using hk
    rw [e, Bool.true_and, Bool.not_eq_true', Bool.or_eq_false_iff] at h1
    simpa using h1
  split at h2
  · rename_i hk
    have : l = [] := by simpa using h2
    subst this
    exact ⟨rfl, hlo, .inl ⟨hk, rfl⟩⟩
  · split at h2
    · rename_i hk
      simp only [Bool.and_eq_true, decide_eq_true_eq] at h2
      have : l = [] := by simpa using h2.1
      subst this
      exact ⟨rfl, hlo, .inr (.inl ⟨hk, rfl, h2.2⟩)⟩
    · split at h2
      · rename_i hk
        exact ⟨h2, hlo, .inr (.inr (.inl hk))⟩
      · split at h2
        · rename_i hk
          simp only [Bool.and_eq_true] at h2
          exact ⟨h2.2, hlo, .inr (.inr (.inr ⟨hk, List.length_eq_one_iff.1 (eq_of_beq h2.1)⟩))⟩
        · cases h2
theorem good_of {k : Int} {lo hi : UInt8} {l : List Rx} (h1 : goodL l = true) (h2 : k ≠ 2 → lo = 0 ∧ hi = 0) (h3 : ((k = 0 ∨ k = 1) ∧ l = []) ∨ (k = 2 ∧ l = [] ∧ lo.toNat ≤ hi.toNat) ∨ (k = 3 ∨ k = 4 ∨ k = 5) ∨ ((k = 6 ∨ k = 7) ∧ ∃ c, l = [c])) : goodR (.mk k lo hi l) = true := by
  unfold goodR
  rw [Bool.and_eq_true]
  constructor
  · by_cases hk : k = 2
    · subst hk; rfl
    · obtain ⟨rfl, rfl⟩ := h2 hk
      simp
  · rcases h3 with ⟨hk, rfl⟩ | ⟨rfl, rfl, hle⟩ | hk | ⟨hk, c, rfl⟩
    · rw [if_pos hk]; rfl
    · rw [if_neg (by omega), if_pos rfl]; simpa using hle
    · rw [if_neg (by omega), if_neg (by omega), if_pos hk]; exact h1
    · rw [if_neg (by omega), if_neg (by omega), if_neg (by omega), if_pos hk]; simpa using h1
theorem nf_range {lo hi : UInt8} (h : lo.toNat ≤ hi.toNat) : NF (.mk 2 lo hi []) := by
  unfold NF NFs
  exact ⟨trivial, fun h => absurd rfl h, .inr (.inl ⟨rfl, rfl, h⟩)⟩
mutual
theorem norm_nf : ∀ x : Rx, goodR x = true → NF (normX x)
  | .mk k lo hi l, h => by
    obtain ⟨h1, h2, h3⟩ := good_mk h
    have ih := norms_nf l h1
    unfold normX
    rcases h3 with ⟨hk, rfl⟩ | ⟨rfl, rfl, hle⟩ | hk | ⟨hk, c, rfl⟩
    · obtain ⟨rfl, rfl⟩ := h2 (by omega)
      rcases hk with rfl | rfl
      · exact nf_no
      · exact nf_empty
    · exact nf_range hle
    · rw [formX_join hk]
      exact join_nf hk ih
    · obtain ⟨rfl, rfl⟩ := h2 (by omega)
      have hc : NF (normX c) := ih _ (by unfold normXs; simp)
      rcases hk with rfl | rfl
      · exact not_nf hc
      · exact star_nf hc
theorem norms_nf : ∀ l : List Rx, goodL l = true → ∀ t ∈ normXs l, NF t
  | [], _ => fun t ht => by unfold normXs at ht; cases ht
  | a :: l, h => fun t ht => by
    unfold goodL at h
    rw [Bool.and_eq_true] at h
    unfold normXs at ht
    rcases List.mem_cons.1 ht with rfl | ht
    · exact norm_nf a h.1
    · exact norms_nf l h.2 t ht
end
mutual
theorem nf_good : ∀ x : Rx, NF x → goodR x = true
  | .mk k lo hi l, h => by
    unfold NF at h
    obtain ⟨h1, h2, h3⟩ := h
    refine good_of (nfs_good l h1) h2 ?_
    rcases h3 with h | h | h | ⟨h, c, hc, _⟩ | ⟨h, c, hc, _⟩
    · exact .inl h
    · exact .inr (.inl h)
    · exact .inr (.inr (.inl h.1))
    · exact .inr (.inr (.inr ⟨.inl h, c, hc⟩))
    · exact .inr (.inr (.inr ⟨.inr h, c, hc⟩))
theorem nfs_good : ∀ l : List Rx, NFs l → goodL l = true
  | [], _ => rfl
  | a :: l, h => by
    unfold NFs at h
    unfold goodL
    rw [nf_good a h.1, nfs_good l h.2]; rfl
end
theorem flat_id {k : Int} {l : List Rx} {u : Rx} (h : ∀ t ∈ l, t.k ≠ k ∧ t ≠ u) : flatX k l u = l := by
  unfold flatX
  have e : (l.flatMap fun c => if c.k = k then c.l else [c]) = l := by
    induction l with
    | nil => rfl
    | cons a l ih =>
      rw [List.flatMap_cons, ih fun t ht => h t (List.mem_cons_of_mem _ ht), if_neg (h a (by simp)).1]
      rfl
  rw [e, List.filter_eq_self]
  exact fun t ht => cmp_ne.2 (h t ht).2
mutual
/-- the normal form of what is in normal form -/
theorem nf_norm : ∀ x : Rx, NF x → normX x = x
  | .mk k lo hi l, h => by
    unfold NF at h
    obtain ⟨h1, h2, h3⟩ := h
    have ih := nfs_norm l h1
    unfold normX
    rw [ih]
    rcases h3 with ⟨hk, rfl⟩ | ⟨rfl, rfl, hle⟩ | ⟨hk, hl, hinc, hm⟩ | ⟨rfl, c, rfl, hc⟩ | ⟨rfl, c, rfl, h0, h1, h7, he⟩
    · rcases hk with rfl | rfl <;> rfl
    · rfl
    · obtain ⟨rfl, rfl⟩ := h2 (by omega)
      have ef : flatX k l (uX k) = l := flat_id fun t ht => ⟨(hm t ht).1, (hm t ht).2.1⟩
      rw [formX_join hk, joinX_f (fun hz => (hm _ (ef ▸ hz)).2.2 rfl)]
      have er : restX k l = l := by
        unfold restX
        rw [ef]
        split
        · rfl
        · rename_i h3; exact setX_of (hinc h3)
      rw [er]
      cases l with
      | nil => simp at hl
      | cons a l =>
        cases l with
        | nil => simp at hl
        | cons b l => rfl
    · show notX lo hi [c] = _
      unfold notX
      simp only
      rw [if_neg hc]
    · show starX lo hi [c] = _
      unfold starX
      simp only
      rw [if_neg fun h => h.elim h0 h1, if_neg fun h => h.elim h7 fun h => he (cmp_iff0.1 h)]
theorem nfs_norm : ∀ l : List Rx, NFs l → normXs l = l
  | [], _ => rfl
  | a :: l, h => by
    unfold NFs at h
    unfold normXs
    rw [nf_norm a h.1, nfs_norm l h.2]
end
/-! #### More about measures -/
section
variable {μ : Rx → Nat}
theorem ms_filter (p : Rx → Bool) : ∀ l : List Rx, ms μ (l.filter p) ≤ ms μ l
  | [] => Nat.le_refl _
  | a :: l => by
    have ih := ms_filter p l
    rw [List.filter_cons]
    split
    · show μ a + _ ≤ μ a + _; omega
    · show _ ≤ μ a + _; omega
theorem ms_mem : ∀ {l : List Rx} {a : Rx}, a ∈ l → μ a ≤ ms μ l
  | b :: l, a, h => by
    rcases List.mem_cons.1 h with rfl | h
    · show μ a ≤ μ a + _; omega
    · have := ms_mem h
      show μ a ≤ μ b + _; omega
theorem ms_len (h : ∀ x, 1 ≤ μ x) : ∀ l : List Rx, l.length ≤ ms μ l
  | [] => Nat.le_refl _
  | a :: l => by
    have := ms_len h l
    have := h a
    show l.length + 1 ≤ μ a + ms μ l
    omega
theorem ms_comp : ∀ (l : List Rx) (p : Rx), ms μ (compGoX p l) ≤ ms μ l
  | [], p => Nat.le_refl _
  | x :: l, p => by
    have := ms_comp l x
    unfold compGoX
    split
    · show _ ≤ μ x + ms μ l; omega
    · show μ x + _ ≤ μ x + ms μ l; omega
theorem ms_set (l : List Rx) : ms μ (setX l) ≤ ms μ l := by
  have h1 : ms μ (compX (sortX l)) ≤ ms μ (sortX l) := by
    cases sortX l with
    | nil => exact Nat.le_refl _
    | cons a m => have := ms_comp (μ := μ) m a; show μ a + _ ≤ μ a + _; omega
  rw [← ms_perm (sortX_perm l)]
  exact h1
theorem ms_open (h : ∀ x, ms μ x.l ≤ μ x) (k : Int) : ∀ l : List Rx, ms μ (l.flatMap fun c => if c.k = k then c.l else [c]) ≤ ms μ l
  | [] => Nat.le_refl _
  | c :: l => by
    have ih := ms_open h k l
    have h1 := h c
    rw [List.flatMap_cons, ms_app]
    show _ ≤ μ c + ms μ l
    split
    · omega
    · show (μ c + 0) + _ ≤ _; omega
theorem ms_rest (h : ∀ x, ms μ x.l ≤ μ x) (k : Int) (l : List Rx) : ms μ (restX k l) ≤ ms μ l := by
  have h1 : ms μ (flatX k l (uX k)) ≤ ms μ l := Nat.le_trans (ms_filter _ _) (ms_open h k l)
  unfold restX
  split
  · exact h1
  · exact Nat.le_trans (ms_set _) h1
end
theorem szs_ms : ∀ l : List Rx, Rx.szs l = ms Rx.sz l
  | [] => rfl
  | a :: l => by unfold Rx.szs; rw [szs_ms l]; rfl
theorem sz_mk (k : Int) (lo hi : UInt8) (l : List Rx) : (Rx.mk k lo hi l).sz = 1 + ms Rx.sz l := by unfold Rx.sz; rw [szs_ms]
theorem sz_l (x : Rx) : ms Rx.sz x.l ≤ x.sz := by cases x; rw [sz_mk]; simp only [Rx.l]; omega
theorem sz_pos' (x : Rx) : 1 ≤ x.sz := by cases x; rw [sz_mk]; omega
theorem lv_l (x : Rx) : ms lvX x.l ≤ lvX x := by cases x; rw [lv_mk]; simp only [Rx.l]; omega
theorem lv_pos (x : Rx) : 1 ≤ lvX x := by cases x; rw [lv_mk]; omega
mutual
theorem lv_sz : ∀ x : Rx, lvX x ≤ x.sz
  | .mk k lo hi l => by
    rw [lv_mk, sz_mk]
    have := lvs_sz l
    omega
theorem lvs_sz : ∀ l : List Rx, ms lvX l ≤ ms Rx.sz l
  | [] => Nat.le_refl _
  | a :: l => by
    have h1 := lv_sz a
    have h2 := lvs_sz l
    show lvX a + ms lvX l ≤ a.sz + ms Rx.sz l
    omega
end
/-- what a join is -/
theorem join_cases {k : Int} {l : List Rx} {P : Rx → Prop} (hz : P (zX k)) (hu : P (uX k)) (h1 : ∀ a, a ∈ restX k l → P a) (h2 : P (.mk k 0 0 (restX k l))) : P (joinX k l (uX k) (zX k)) := by
  by_cases h : zX k ∈ flatX k l (uX k)
  · rw [joinX_z h]; exact hz
  · rw [joinX_f h]
    generalize hm : restX k l = m at h1 h2
    unfold fewX
    split
    · exact hu
    · exact h1 _ (by simp)
    · exact h2
theorem uz_sz (k : Int) : (uX k).sz ≤ 2 ∧ (zX k).sz ≤ 2 ∧ lvX (uX k) = 1 ∧ lvX (zX k) = 1 := by
  unfold uX zX
  refine ⟨?_, ?_, ?_, ?_⟩
  · split
    · decide
    · split <;> decide
  · split <;> decide
  · split
    · decide
    · split <;> decide
  · split <;> decide
/-- a measure of the normal form of a node of one part -/
theorem one_cases {k : Int} {c : Rx} (hk : k = 6 ∨ k = 7) {P : Rx → Prop} (h0 : P noR) (h1 : P emptyX) (hc : P c) (hd : ∀ d ∈ c.l, P d) (h2 : P (.mk k 0 0 [c])) : P (formX (.mk k 0 0 [c])) := by
  rcases hk with rfl | rfl
  · show P (notX 0 0 [c])
    unfold notX
    simp only
    split
    · split
      · exact h0
      · rename_i d m hm
        exact hd d (by rw [hm]; simp)
    · exact h2
  · show P (starX 0 0 [c])
    unfold starX
    simp only
    split
    · exact h1
    · split
      · exact hc
      · exact h2
mutual
theorem norm_sz : ∀ x : Rx, goodR x = true → (normX x).sz ≤ 2 * x.sz
  | .mk k lo hi l, h => by
    obtain ⟨h1, h2, h3⟩ := good_mk h
    have ih := norms_sz l h1
    have hx := sz_mk k lo hi l
    rw [hx]
    unfold normX
    rcases h3 with ⟨hk, rfl⟩ | ⟨rfl, rfl, hle⟩ | hk | ⟨hk, c, rfl⟩
    · obtain ⟨rfl, rfl⟩ := h2 (by omega)
      rcases hk with rfl | rfl <;> decide
    · show (Rx.mk 2 lo hi []).sz ≤ _
      rw [sz_mk]; simp only [ms]; omega
    · rw [formX_join hk]
      have hr := ms_rest (μ := Rx.sz) sz_l k (normXs l)
      obtain ⟨hu, hz, -, -⟩ := uz_sz k
      refine join_cases (P := fun y => y.sz ≤ 2 * (1 + ms Rx.sz l)) (by omega) (by omega) (fun a ha => ?_) ?_
      · have := ms_mem (μ := Rx.sz) ha
        omega
      · show (Rx.mk k 0 0 _).sz ≤ _
        rw [sz_mk]; omega
    · obtain ⟨rfl, rfl⟩ := h2 (by omega)
      have en : normXs [c] = [normX c] := rfl
      rw [en] at ih ⊢
      have ih : (normX c).sz + 0 ≤ 2 * (c.sz + 0) := ih
      show _ ≤ 2 * (1 + (c.sz + 0))
      refine one_cases (P := fun y => y.sz ≤ 2 * (1 + (c.sz + 0))) hk (by show (1 : Nat) ≤ _; omega) (by show (1 : Nat) ≤ _; omega) (by omega) (fun d hd => ?_) ?_
      · have := ms_mem (μ := Rx.sz) hd
        have := sz_l (normX c)
        omega
      · show (Rx.mk k 0 0 _).sz ≤ _
        rw [sz_mk]; simp only [ms]; omega
theorem norms_sz : ∀ l : List Rx, goodL l = true → ms Rx.sz (normXs l) ≤ 2 * ms Rx.sz l
  | [], _ => Nat.le_refl _
  | a :: l, h => by
    unfold goodL at h
    rw [Bool.and_eq_true] at h
    have h1 := norm_sz a h.1
    have h2 := norms_sz l h.2
    show (normX a).sz + ms Rx.sz (normXs l) ≤ 2 * (a.sz + ms Rx.sz l)
    omega
end
mutual
theorem norm_lv : ∀ x : Rx, goodR x = true → lvX (normX x) ≤ lvX x
  | .mk k lo hi l, h => by
    obtain ⟨h1, h2, h3⟩ := good_mk h
    have ih := norms_lv l h1
    have hx := lv_mk k lo hi l
    rw [hx]
    unfold normX
    rcases h3 with ⟨hk, rfl⟩ | ⟨rfl, rfl, hle⟩ | hk | ⟨hk, c, rfl⟩
    · obtain ⟨rfl, rfl⟩ := h2 (by omega)
      rcases hk with rfl | rfl <;> decide
    · show lvX (Rx.mk 2 lo hi []) ≤ _
      rw [lv_mk]; simp only [ms]; omega
    · rw [formX_join hk]
      have hr := ms_rest (μ := lvX) lv_l k (normXs l)
      obtain ⟨-, -, hu, hz⟩ := uz_sz k
      refine join_cases (P := fun y => lvX y ≤ max 1 (ms lvX l)) (by omega) (by omega) (fun a ha => ?_) ?_
      · have := ms_mem (μ := lvX) ha
        omega
      · show lvX (Rx.mk k 0 0 _) ≤ _
        rw [lv_mk]; omega
    · obtain ⟨rfl, rfl⟩ := h2 (by omega)
      have en : normXs [c] = [normX c] := rfl
      rw [en] at ih ⊢
      have ih : lvX (normX c) + 0 ≤ lvX c + 0 := ih
      show _ ≤ max 1 (lvX c + 0)
      refine one_cases (P := fun y => lvX y ≤ max 1 (lvX c + 0)) hk (by show (1 : Nat) ≤ _; omega) (by show (1 : Nat) ≤ _; omega) (by omega) (fun d hd => ?_) ?_
      · have := ms_mem (μ := lvX) hd
        have := lv_l (normX c)
        omega
      · show lvX (Rx.mk k 0 0 _) ≤ _
        rw [lv_mk]; simp only [ms]; omega
theorem norms_lv : ∀ l : List Rx, goodL l = true → ms lvX (normXs l) ≤ ms lvX l
  | [], _ => Nat.le_refl _
  | a :: l, h => by
    unfold goodL at h
    rw [Bool.and_eq_true] at h
    have h1 := norm_lv a h.1
    have h2 := norms_lv l h.2
    show lvX (normX a) + ms lvX (normXs l) ≤ lvX a + ms lvX l
    omega
end
theorem few_uz {N : Nat} (k : Int) : fewR N (uX k) ∧ fewR N (zX k) := by
  have h : ∀ x : Rx, x = noR ∨ x = emptyX ∨ x = everyX → fewR N x := by
    rintro x (rfl | rfl | rfl)
    · unfold noR fewR fewRs; simp
    · unfold emptyX fewR fewRs; simp
    · unfold everyX noR fewR fewRs fewR fewRs; simp
  unfold uX zX
  refine ⟨h _ ?_, h _ ?_⟩
  · split
    · exact .inr (.inl rfl)
    · split
      · exact .inl rfl
      · exact .inr (.inr rfl)
  · split
    · exact .inr (.inr rfl)
    · exact .inl rfl
theorem rest_few {N : Nat} {k : Int} {l : List Rx} (h : ∀ c ∈ l, fewR N c) : ∀ t ∈ restX k l, fewR N t := fun t ht => by
  obtain ⟨⟨c, hc, h1⟩, -⟩ := flatX_mem.1 (restX_mem.1 ht)
  split at h1
  · exact few_l (h c hc) t h1
  · subst h1; exact h t hc
mutual
theorem norm_few {N : Nat} : ∀ x : Rx, goodR x = true → fewR N x → fewR N (normX x)
  | .mk k lo hi l, h, hf => by
    obtain ⟨h1, h2, h3⟩ := good_mk h
    have hf0 := hf
    unfold fewR at hf
    have ih := norms_few l h1 hf.1
    have ihl := norms_lv l h1
    unfold normX
    rcases h3 with ⟨hk, rfl⟩ | ⟨rfl, rfl, hle⟩ | hk | ⟨hk, c, rfl⟩
    · obtain ⟨rfl, rfl⟩ := h2 (by omega)
      rcases hk with rfl | rfl <;> exact hf0
    · exact hf0
    · rw [formX_join hk]
      have hr := ms_rest (μ := lvX) lv_l k (normXs l)
      refine join_cases (P := fewR N) (few_uz k).2 (few_uz k).1 (fun a ha => rest_few ih a ha) ?_
      unfold fewR
      exact ⟨fewRs_iff.2 (rest_few ih), fun h45 => by have := hf.2 h45; omega⟩
    · obtain ⟨rfl, rfl⟩ := h2 (by omega)
      have hc : fewR N (normX c) := ih _ (by unfold normXs; simp)
      have en : normXs [c] = [normX c] := rfl
      rw [en]
      refine one_cases (P := fewR N) hk (few_uz (N := N) 4).1 (few_uz (N := N) 3).1 hc (few_l hc) ?_
      unfold fewR
      exact ⟨fewRs_iff.2 fun t ht => by (simp at ht; subst ht; exact hc), fun h => by omega⟩
theorem norms_few {N : Nat} : ∀ l : List Rx, goodL l = true → fewRs N l → ∀ t ∈ normXs l, fewR N t
  | [], _, _ => fun t ht => by unfold normXs at ht; cases ht
  | a :: l, h, hf => fun t ht => by
    unfold goodL at h
    rw [Bool.and_eq_true] at h
    unfold fewRs at hf
    unfold normXs at ht
    rcases List.mem_cons.1 ht with rfl | ht
    · exact norm_few a h.1 hf.1
    · exact norms_few l h.2 hf.2 t ht
end
theorem form_of {N : Nat} {k : Int} {lo hi : UInt8} {l : List Rx} (h : goodR (.mk k lo hi l) = true) (hs : (Rx.mk k lo hi l).sz ≤ 10000) (hf : fewR N (.mk k lo hi l)) : okForm N (.mk k lo hi (normXs l)) = true := by
  obtain ⟨h1, h2, h3⟩ := good_mk h
  have hsz := norms_sz l h1
  have hlv := norms_lv l h1
  rw [sz_mk] at hs
  unfold fewR at hf
  unfold okForm
  rw [Bool.and_eq_true, Bool.and_eq_true]
  refine ⟨⟨?_, decide_eq_true (by rw [sz_mk]; omega)⟩, ?_⟩
  · unfold formOk
    rw [Bool.and_eq_true, Bool.and_eq_true]
    refine ⟨⟨decide_eq_true (by omega), decide_eq_true (by omega)⟩, ?_⟩
    rcases h3 with ⟨hk, rfl⟩ | ⟨hk, rfl, hle⟩ | hk | ⟨hk, c, rfl⟩
    · show (k != 6 && k != 7) = true
      rcases hk with rfl | rfl <;> rfl
    · subst hk; rfl
    · cases normXs l with
      | nil => rcases hk with rfl | rfl | rfl <;> rfl
      | cons a m => rcases hk with rfl | rfl | rfl <;> rfl
    · show (!(k == 6 && (normX c).k == 6 && (normX c).l.isEmpty)) = true
      have hc : goodR c = true := by
        unfold goodL at h1
        rw [Bool.and_eq_true] at h1
        exact h1.1
      have hn := norm_nf c hc
      generalize normX c = y at hn
      cases y with
      | mk k' lo' hi' l' =>
        by_cases e : k' = 6
        · unfold NF at hn
          obtain ⟨-, -, h | h | h | ⟨_, d, hd, _⟩ | h⟩ := hn
          · omega
          · omega
          · omega
          · rw [hd]; simp [Rx.l]
          · omega
        · have : (Rx.k (.mk k' lo' hi' l') == 6) = false := by simpa [Rx.k] using e
          rw [this]; simp
  · show decide (k = 4 ∨ k = 5 → pcX k (normXs l) ≤ N) = true
    refine decide_eq_true fun h45 => ?_
    have h4 := ms_len lv_pos ((normXs l).flatMap fun c => if c.k = k then c.l else [c])
    have h5 := ms_open (μ := lvX) lv_l k (normXs l)
    have h6 := hf.2 h45
    show ((normXs l).flatMap fun c => if c.k = k then c.l else [c]).length ≤ N
    omega
mutual
theorem fit_of {N : Nat} : ∀ x : Rx, goodR x = true → x.sz ≤ 10000 → fewR N x → fitN N x = true
  | .mk k lo hi l, h, hs, hf => by
    obtain ⟨h1, -, -⟩ := good_mk h
    unfold fitN
    rw [form_of h hs hf, Bool.and_true]
    rw [sz_mk] at hs
    unfold fewR at hf
    exact fits_of l h1 (by omega) hf.1
theorem fits_of {N : Nat} : ∀ l : List Rx, goodL l = true → ms Rx.sz l ≤ 10000 → fewRs N l → fitNs N l = true
  | [], _, _, _ => rfl
  | a :: l, h, hs, hf => by
    unfold goodL at h
    rw [Bool.and_eq_true] at h
    unfold fewRs at hf
    have hs : a.sz + ms Rx.sz l ≤ 10000 := hs
    unfold fitNs
    rw [fit_of a h.1 (by omega) hf.1, fits_of l h.2 (by omega) hf.2]
    rfl
end
end Go.Proofs.YtknlbofiicflgaaGreat
