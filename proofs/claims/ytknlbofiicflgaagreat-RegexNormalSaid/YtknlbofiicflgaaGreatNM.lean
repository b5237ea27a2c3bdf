/- The normal form, plain: it matches the same strings. -/
import Derived.Test.YtknlbofiicflgaaGreatNF
namespace Go.Proofs.YtknlbofiicflgaaGreat
open Go Go.W

theorem any_iff {v : List UInt8} : ∀ {l : List Rx}, matchAny l v = true ↔ ∃ a ∈ l, matchD a v = true
  | [] => by unfold matchAny; simp
  | a :: l => by unfold matchAny; rw [Bool.or_eq_true, any_iff]; simp
theorem all_iff {v : List UInt8} : ∀ {l : List Rx}, matchAll l v = true ↔ ∀ a ∈ l, matchD a v = true
  | [] => by unfold matchAll; simp
  | a :: l => by unfold matchAll; rw [Bool.and_eq_true, all_iff]; simp
/-- one part after the other -/
def CatP : List Rx → List UInt8 → Prop
  | [], v => v = []
  | a :: l, v => ∃ p q, v = p ++ q ∧ matchD a p = true ∧ CatP l q
theorem cat_iff : ∀ {l : List Rx} {v : List UInt8}, matchCat l v = true ↔ CatP l v
  | [], v => by unfold matchCat CatP; simp
  | a :: l, v => by
    unfold matchCat CatP
    rw [anyM_iff]
    constructor
    · rintro ⟨m, -, -, h⟩
      rw [Bool.and_eq_true] at h
      exact ⟨v.take m, v.drop m, (List.take_append_drop m v).symm, h.1, cat_iff.1 h.2⟩
    · rintro ⟨p, q, rfl, h1, h2⟩
      refine ⟨p.length, by omega, by rw [List.length_append]; omega, ?_⟩
      rw [List.take_left, List.drop_left, Bool.and_eq_true]
      exact ⟨h1, cat_iff.2 h2⟩
theorem cat_app : ∀ {l m : List Rx} {v : List UInt8}, CatP (l ++ m) v ↔ ∃ p q, v = p ++ q ∧ CatP l p ∧ CatP m q
  | [], m, v => ⟨fun h => ⟨[], v, rfl, rfl, h⟩, fun ⟨p, q, h, hp, hq⟩ => by
    have hp : p = [] := hp
    subst hp h
    exact hq⟩
  | a :: l, m, v => by
    constructor
    · rintro ⟨p, q, rfl, h1, h2⟩
      obtain ⟨q1, q2, rfl, h3, h4⟩ := cat_app.1 h2
      exact ⟨p ++ q1, q2, (List.append_assoc ..).symm, ⟨p, q1, rfl, h1, h3⟩, h4⟩
    · rintro ⟨_, q2, rfl, ⟨p, q1, rfl, h1, h3⟩, h4⟩
      exact ⟨p, q1 ++ q2, List.append_assoc .., h1, cat_app.2 ⟨q1, q2, rfl, h3, h4⟩⟩
theorem d_cat {c : Rx} {v : List UInt8} (h : c.k = 3) : matchD c v = matchCat c.l v := by
  cases c
  have h : _ = (3 : Int) := h
  subst h
  rfl
theorem d_any {c : Rx} {v : List UInt8} (h : c.k = 4) : matchD c v = matchAny c.l v := by
  cases c
  have h : _ = (4 : Int) := h
  subst h
  rfl
theorem d_all {c : Rx} {v : List UInt8} (h : c.k = 5) : matchD c v = matchAll c.l v := by
  cases c
  have h : _ = (5 : Int) := h
  subst h
  rfl
theorem d_no (v : List UInt8) : matchD noR v = false := rfl
theorem d_every (v : List UInt8) : matchD everyX v = true := rfl
theorem d_empty (v : List UInt8) : matchD emptyX v = v.isEmpty := rfl
theorem cat_open {v : List UInt8} : ∀ {l : List Rx} {v : List UInt8}, CatP (l.flatMap fun c => if c.k = 3 then c.l else [c]) v ↔ CatP l v
  | [], v => Iff.rfl
  | c :: l, v => by
    rw [List.flatMap_cons, cat_app]
    have e : ∀ p, CatP (if c.k = 3 then c.l else [c]) p ↔ matchD c p = true := fun p => by
      split
      · rename_i h; rw [d_cat h]; exact cat_iff.symm
      · constructor
        · rintro ⟨p1, q1, rfl, h1, h2⟩
          have h2 : q1 = [] := h2
          subst h2
          rw [List.append_nil]; exact h1
        · exact fun h => ⟨p, [], (List.append_nil p).symm, h, rfl⟩
    constructor
    · rintro ⟨p, q, h, h1, h2⟩; exact ⟨p, q, h, (e p).1 h1, (cat_open (v := v)).1 h2⟩
    · rintro ⟨p, q, h, h1, h2⟩; exact ⟨p, q, h, (e p).2 h1, (cat_open (v := v)).2 h2⟩
theorem cat_filter : ∀ {l : List Rx} {v : List UInt8}, CatP (l.filter fun t => !(cmpR t emptyX == 0)) v ↔ CatP l v
  | [], v => Iff.rfl
  | c :: l, v => by
    rw [List.filter_cons]
    split
    · constructor
      · rintro ⟨p, q, h, h1, h2⟩; exact ⟨p, q, h, h1, cat_filter.1 h2⟩
      · rintro ⟨p, q, h, h1, h2⟩; exact ⟨p, q, h, h1, cat_filter.2 h2⟩
    · rename_i h
      have e : c = emptyX := Classical.byContradiction fun hne => h (cmp_ne.2 hne)
      subst e
      rw [cat_filter]
      constructor
      · exact fun h => ⟨[], v, rfl, rfl, h⟩
      · rintro ⟨p, q, rfl, h1, h2⟩
        rw [d_empty] at h1
        have : p = [] := by simpa using h1
        subst this
        exact h2
theorem cat_no : ∀ {l : List Rx} {v : List UInt8}, noR ∈ l → ¬ CatP l v
  | c :: l, v, h => by
    rintro ⟨p, q, rfl, h1, h2⟩
    rcases List.mem_cons.1 h with rfl | h
    · rw [d_no] at h1; cases h1
    · exact cat_no h h2
theorem few_cat {m : List Rx} {v : List UInt8} : matchD (fewX 3 emptyX m) v = true ↔ CatP m v := by
  unfold fewX
  split
  · rw [d_empty]
    show _ ↔ v = []
    simp
  · rename_i a
    constructor
    · exact fun h => ⟨v, [], (List.append_nil v).symm, h, rfl⟩
    · rintro ⟨p, q, rfl, h1, h2⟩
      have h2 : q = [] := h2
      subst h2
      rw [List.append_nil]; exact h1
  · exact cat_iff
theorem few_any {m : List Rx} {v : List UInt8} : matchD (fewX 4 noR m) v = true ↔ ∃ a ∈ m, matchD a v = true := by
  unfold fewX
  split
  · rw [d_no]; simp
  · simp
  · exact any_iff
theorem few_all {m : List Rx} {v : List UInt8} : matchD (fewX 5 everyX m) v = true ↔ ∀ a ∈ m, matchD a v = true := by
  unfold fewX
  split
  · rw [d_every]; simp
  · simp
  · exact all_iff
theorem join_match {k : Int} (hk : k = 3 ∨ k = 4 ∨ k = 5) (l : List Rx) (v : List UInt8) : matchD (joinX k l (uX k) (zX k)) v = matchD (.mk k 0 0 l) v := by
  rw [Bool.eq_iff_iff]
  rcases hk with rfl | rfl | rfl
  · show matchD (joinX 3 l (uX 3) (zX 3)) v = true ↔ matchCat l v = true
    rw [cat_iff, ← cat_open (v := v), ← cat_filter]
    show _ ↔ CatP (flatX 3 l (uX 3)) v
    by_cases h : zX 3 ∈ flatX 3 l (uX 3)
    · rw [joinX_z h]
      exact ⟨fun h' => by (have h' : matchD noR v = true := h'; rw [d_no] at h'; cases h'), fun h' => (cat_no h h').elim⟩
    · rw [joinX_f h]
      exact few_cat
  · show matchD (joinX 4 l (uX 4) (zX 4)) v = true ↔ matchAny l v = true
    have e : matchAny l v = true ↔ ∃ t ∈ flatX 4 l (uX 4), matchD t v = true := by
      rw [any_iff]
      constructor
      · rintro ⟨c, hc, hm⟩
        by_cases h4 : c.k = 4
        · rw [d_any h4, any_iff] at hm
          obtain ⟨t, ht, hm⟩ := hm
          exact ⟨t, flatX_mem.2 ⟨⟨c, hc, by rw [if_pos h4]; exact ht⟩, fun e => by (have e : t = noR := e; subst e; rw [d_no] at hm; cases hm)⟩, hm⟩
        · exact ⟨c, flatX_mem.2 ⟨⟨c, hc, by rw [if_neg h4]⟩, fun e => by (have e : c = noR := e; subst e; rw [d_no] at hm; cases hm)⟩, hm⟩
      · rintro ⟨t, ht, hm⟩
        obtain ⟨⟨c, hc, h1⟩, -⟩ := flatX_mem.1 ht
        split at h1
        · rename_i h4
          exact ⟨c, hc, by rw [d_any h4, any_iff]; exact ⟨t, h1, hm⟩⟩
        · subst h1; exact ⟨t, hc, hm⟩
    rw [e]
    by_cases h : zX 4 ∈ flatX 4 l (uX 4)
    · rw [joinX_z h]
      exact ⟨fun _ => ⟨_, h, rfl⟩, fun _ => rfl⟩
    · rw [joinX_f h]
      have := few_any (m := restX 4 l) (v := v)
      refine Iff.trans this ?_
      constructor
      · rintro ⟨t, ht, hm⟩; exact ⟨t, restX_mem.1 ht, hm⟩
      · rintro ⟨t, ht, hm⟩; exact ⟨t, restX_mem.2 ht, hm⟩
  · show matchD (joinX 5 l (uX 5) (zX 5)) v = true ↔ matchAll l v = true
    have e : matchAll l v = true ↔ ∀ t ∈ flatX 5 l (uX 5), matchD t v = true := by
      rw [all_iff]
      constructor
      · intro h t ht
        obtain ⟨⟨c, hc, h1⟩, -⟩ := flatX_mem.1 ht
        split at h1
        · rename_i h5
          have := h c hc
          rw [d_all h5, all_iff] at this
          exact this t h1
        · subst h1; exact h t hc
      · intro h c hc
        by_cases h5 : c.k = 5
        · rw [d_all h5, all_iff]
          intro t ht
          by_cases e : t = everyX
          · subst e; exact d_every v
          · exact h t (flatX_mem.2 ⟨⟨c, hc, by rw [if_pos h5]; exact ht⟩, e⟩)
        · by_cases e : c = everyX
          · subst e; exact d_every v
          · exact h c (flatX_mem.2 ⟨⟨c, hc, by rw [if_neg h5]⟩, e⟩)
    rw [e]
    by_cases h : zX 5 ∈ flatX 5 l (uX 5)
    · rw [joinX_z h]
      exact ⟨fun h' => by (have h' : matchD noR v = true := h'; rw [d_no] at h'; cases h'), fun h' => by (have := h' _ h; have : matchD noR v = true := this; rw [d_no] at this; cases this)⟩
    · rw [joinX_f h]
      refine Iff.trans (few_all (m := restX 5 l) (v := v)) ?_
      constructor
      · exact fun h' t ht => h' t (restX_mem.2 ht)
      · exact fun h' t ht => h' t (restX_mem.1 ht)
/-! #### Star -/
def StarP (f : List UInt8 → Bool) (v : List UInt8) : Prop := ∃ ps : List (List UInt8), v = ps.flatten ∧ ∀ p ∈ ps, f p = true
theorem star_first {f : List UInt8 → Bool} : ∀ (ps : List (List UInt8)), (∀ p ∈ ps, f p = true) → ps.flatten ≠ [] → ∃ p q, p ≠ [] ∧ f p = true ∧ ps.flatten = p ++ q ∧ StarP f q
  | [], _, h => absurd rfl h
  | p :: ps, hf, h => by
    by_cases e : p = []
    · subst e
      exact star_first ps (fun q hq => hf q (List.mem_cons_of_mem _ hq)) h
    · exact ⟨p, ps.flatten, e, hf p (by simp), rfl, ps, rfl, fun q hq => hf q (List.mem_cons_of_mem _ hq)⟩
theorem starM_iff (f : List UInt8 → Bool) : ∀ (n : Nat) (v : List UInt8), v.length ≤ n → (starM f n v = true ↔ StarP f v)
  | 0, v, h => by
    have : v = [] := List.length_eq_zero_iff.1 (by omega)
    subst this
    exact ⟨fun _ => ⟨[], rfl, fun _ h => by cases h⟩, fun _ => rfl⟩
  | n + 1, v, h => by
    unfold starM
    rw [Bool.or_eq_true, anyM_iff]
    constructor
    · rintro (⟨m, h1, h2, h3⟩ | h0)
      · rw [Bool.and_eq_true] at h3
        obtain ⟨ps, e, hp⟩ := (starM_iff f n (v.drop m) (by rw [List.length_drop]; omega)).1 h3.2
        refine ⟨v.take m :: ps, ?_, fun p hp' => ?_⟩
        · rw [List.flatten_cons, ← e, List.take_append_drop]
        · rcases List.mem_cons.1 hp' with rfl | hp'
          · exact h3.1
          · exact hp p hp'
      · have : v = [] := by simpa using h0
        subst this
        exact ⟨[], rfl, fun _ h => by cases h⟩
    · rintro ⟨ps, rfl, hp⟩
      by_cases e : ps.flatten = []
      · exact .inr (by rw [e]; rfl)
      · obtain ⟨p, q, h1, h2, h3, h4⟩ := star_first ps hp e
        have hl : 0 < p.length := List.length_pos_iff.2 h1
        rw [h3] at h ⊢
        rw [List.length_append] at h
        refine .inl ⟨p.length, by omega, by rw [List.length_append]; omega, ?_⟩
        rw [List.take_left, List.drop_left, Bool.and_eq_true]
        exact ⟨h2, (starM_iff f n q (by omega)).2 h4⟩
theorem star_star {f : List UInt8 → Bool} : ∀ (ps : List (List UInt8)), (∀ p ∈ ps, StarP f p) → StarP f ps.flatten
  | [], _ => ⟨[], rfl, fun _ h => by cases h⟩
  | p :: ps, h => by
    obtain ⟨a, e1, h1⟩ := h p (by simp)
    obtain ⟨b, e2, h2⟩ := star_star ps fun q hq => h q (List.mem_cons_of_mem _ hq)
    refine ⟨a ++ b, by rw [List.flatten_cons, e1, e2, List.flatten_append], fun q hq => ?_⟩
    rcases List.mem_append.1 hq with hq | hq
    · exact h1 q hq
    · exact h2 q hq
theorem d_star {c : Rx} {lo hi : UInt8} {v : List UInt8} : matchD (.mk 7 lo hi [c]) v = true ↔ StarP (matchD c) v := starM_iff (matchD c) v.length v (Nat.le_refl _)
theorem not_match {c : Rx} (h : NF c) (v : List UInt8) : matchD (notX 0 0 [c]) v = !(matchD c v) := by
  unfold notX
  simp only
  split
  · rename_i h6
    cases c with
    | mk k lo hi l =>
      have h6 : k = 6 := h6
      subst h6
      unfold NF at h
      obtain ⟨-, -, h | h | h | ⟨_, d, hd, _⟩ | h⟩ := h
      · omega
      · omega
      · omega
      · subst hd
        show matchD d v = !(!(matchD d v))
        rw [Bool.not_not]
      · omega
  · rfl
theorem star_match' {c : Rx} (h : NF c) (v : List UInt8) : matchD (starX 0 0 [c]) v = matchD (.mk 7 0 0 [c]) v := by
  rw [Bool.eq_iff_iff, d_star]
  unfold starX
  simp only
  split
  · rename_i h01
    rw [d_empty]
    constructor
    · intro h'
      have : v = [] := by simpa using h'
      subst this
      exact ⟨[], rfl, fun _ h => by cases h⟩
    · rintro ⟨ps, rfl, hp⟩
      have : ∀ p ∈ ps, p = [] := fun p hp' => by
        have h1 := hp p hp'
        cases c with
        | mk k lo hi l =>
          rcases h01 with h0 | h0
          · have h0 : k = 0 := h0
            subst h0
            have h1 : false = true := h1
            cases h1
          · have h0 : k = 1 := h0
            subst h0
            have h1 : p.isEmpty = true := h1
            simpa using h1
      have : ps.flatten = [] := List.flatten_eq_nil_iff.2 this
      rw [this]; rfl
  · split
    · rename_i h7
      rcases h7 with h7 | h7
      · cases c with
        | mk k lo hi l =>
          have h7 : k = 7 := h7
          subst h7
          unfold NF at h
          obtain ⟨-, -, h | h | h | h | ⟨_, d, hd, _⟩⟩ := h
          · omega
          · omega
          · omega
          · omega
          · subst hd
            constructor
            · exact fun h => ⟨[v], by simp, fun p hp => by (simp at hp; subst hp; exact h)⟩
            · rintro ⟨ps, rfl, hp⟩
              exact d_star.2 (star_star ps fun p hp' => d_star.1 (hp p hp'))
      · have e := cmp_iff0.1 h7
        subst e
        exact ⟨fun _ => ⟨[v], by simp, fun _ _ => d_every _⟩, fun _ => d_every v⟩
    · exact d_star
mutual
theorem norm_match : ∀ (x : Rx) (v : List UInt8), goodR x = true → matchD (normX x) v = matchD x v
  | .mk k lo hi l, v, h => by
    obtain ⟨h1, h2, h3⟩ := good_mk h
    have ih := norms_match l h1
    have hn := norms_nf l h1
    unfold normX
    rcases h3 with ⟨hk, rfl⟩ | ⟨rfl, rfl, hle⟩ | hk | ⟨hk, c, rfl⟩
    · obtain ⟨rfl, rfl⟩ := h2 (by omega)
      rcases hk with rfl | rfl <;> rfl
    · rfl
    · rw [formX_join hk, join_match hk]
      obtain ⟨rfl, rfl⟩ := h2 (by omega)
      rcases hk with rfl | rfl | rfl
      · exact (ih v).1
      · exact (ih v).2.1
      · exact (ih v).2.2
    · obtain ⟨rfl, rfl⟩ := h2 (by omega)
      have hc : goodR c = true := by
        unfold goodL at h1
        rw [Bool.and_eq_true] at h1
        exact h1.1
      have hnc : NF (normX c) := norm_nf c hc
      have e : ∀ u, matchD (normX c) u = matchD c u := fun u => norm_match c u hc
      rcases hk with rfl | rfl
      · exact (not_match hnc v).trans (by rw [e v]; rfl)
      · refine (star_match' hnc v).trans ?_
        rw [Bool.eq_iff_iff, d_star, d_star]
        have : matchD (normX c) = matchD c := funext e
        rw [this]
theorem norms_match : ∀ (l : List Rx), goodL l = true → ∀ v, matchCat (normXs l) v = matchCat l v ∧ matchAny (normXs l) v = matchAny l v ∧ matchAll (normXs l) v = matchAll l v
  | [], _ => fun v => ⟨rfl, rfl, rfl⟩
  | a :: l, h => fun v => by
    unfold goodL at h
    rw [Bool.and_eq_true] at h
    have h1 : ∀ u, matchD (normX a) u = matchD a u := fun u => norm_match a u h.1
    have h2 := norms_match l h.2
    refine ⟨?_, ?_, ?_⟩
    · show anyM (fun i => matchD (normX a) (v.take i) && matchCat (normXs l) (v.drop i)) 0 (v.length + 1) = anyM (fun i => matchD a (v.take i) && matchCat l (v.drop i)) 0 (v.length + 1)
      congr 1
      funext i
      rw [h1, (h2 _).1]
    · show (matchD (normX a) v || matchAny (normXs l) v) = (matchD a v || matchAny l v)
      rw [h1, (h2 v).2.1]
    · show (matchD (normX a) v && matchAll (normXs l) v) = (matchD a v && matchAll l v)
      rw [h1, (h2 v).2.2]
end
end Go.Proofs.YtknlbofiicflgaaGreat
