/- Things of one's own and things to read: a small logic for the printed conditions. No program in sight. -/
import Derived.Test.YtknlbofiicflgaaGreatH
namespace Go.W

/-! ### Things that a code has for itself (L), and things that stay as they are (D) -/
structure En where
  fp : List Nat
  P : World → Prop
  st : ∀ w w', (∀ b ∈ fp, b < w.heap.size → w'.heap[b]? = w.heap[b]?) → P w → P w'
  lt : ∀ w, P w → ∀ b ∈ fp, b < w.heap.size
  nd : fp.Nodup
/-- an object -/
def En.ob (b : Nat) (o : Obj) : En := ⟨[b], fun w => w.heap[b]? = some o, fun w w' h hp => (h b (by simp) (lt_of_heap hp)).trans hp, fun w hp x hx => by simp at hx; subst hx; exact lt_of_heap hp, by simp⟩
/-- cells -/
abbrev En.c (b : Nat) (vs : List Value) (T : TypeId) : En := .ob b (.cells vs.toArray T (0, 0))
/-- a row of one's own, to which can be appended -/
def En.row (e : TypeId) (sz : Nat) (s : Sl) (vs : List Value) : En := ⟨blkL s, fun w => OwnRow w e sz s vs, fun _ _ h hp => hp.keep h, fun _ hp => hp.lt, by unfold blkL; split <;> simp⟩
/-- a row to read -/
def En.rd (s : Sl) (vs : List Value) : En := ⟨if vs = [] then [] else blkL s, fun w => Rd w s vs, fun w w' h hp => by
    refine ⟨hp.1, hp.2.1, hp.2.2.1, fun i v hi => ?_⟩
    obtain ⟨p, ha, hc⟩ := hp.2.2.2 i v hi
    have hne : vs ≠ [] := fun e => by subst e; simp at hi
    rw [if_neg hne] at h
    have := h p.block (by simp [blkL, ha]) (by have := cell_lt hc; rwa [add_block] at this)
    refine ⟨p, ha, ?_⟩
    unfold World.cell? at hc ⊢
    rw [add_block] at hc ⊢
    rw [this]; exact hc, fun w hp b hb => by
    split at hb
    · cases hb
    · rename_i hne
      have h0 : 0 < vs.length := List.length_pos_iff.2 hne
      obtain ⟨p, ha, hc⟩ := hp.2.2.2 0 vs[0] (List.getElem?_eq_getElem h0)
      simp [blkL, ha] at hb
      subst hb
      have := cell_lt hc
      rwa [add_block] at this, by split <;> (try simp); unfold blkL; split <;> simp⟩
structure LH (M : Nat → Prop) (w0 w : World) (L D : List En) : Prop where
  fr : Fr M w0 w
  own : ∀ e ∈ L, e.P w
  rd : ∀ e ∈ D, e.P w
  new : ∀ e ∈ L, ∀ b ∈ e.fp, w0.heap.size ≤ b ∨ M b
  nd : (L.flatMap (·.fp)).Nodup
  dj : ∀ e ∈ D, ∀ b ∈ e.fp, ∀ e' ∈ L, b ∉ e'.fp
theorem LH.start {M : Nat → Prop} {w : World} (D : List En) (h : ∀ e ∈ D, e.P w) : LH M w w [] D := ⟨Fr.refl _ _, by simp, h, by simp, by simp, by simp⟩
theorem LH.start' {M : Nat → Prop} {w : World} (L D : List En) (hl : ∀ e ∈ L, e.P w ∧ ∀ b ∈ e.fp, M b) (hn : (L.flatMap (·.fp)).Nodup) (h : ∀ e ∈ D, e.P w ∧ ∀ b ∈ e.fp, ∀ e' ∈ L, b ∉ e'.fp) : LH M w w L D :=
  ⟨Fr.refl _ _, fun e he => (hl e he).1, fun e he => (h e he).1, fun e he b hb => .inr ((hl e he).2 b hb), hn, fun e he => (h e he).2⟩
theorem LH.fr0 {M : Nat → Prop} {w0 w w' : World} {L D : List En} (H : LH M w0 w L D) (f : Fr0 w w') : LH M w0 w' L D :=
  ⟨H.fr.tr0 f, fun e he => e.st w w' (fun b _ hl => f.keep b hl id) (H.own e he), fun e he => e.st w w' (fun b _ hl => f.keep b hl id) (H.rd e he), H.new, H.nd, H.dj⟩
theorem LH.drew {M : Nat → Prop} {w0 w : World} {L D : List En} (H : LH M w0 w L D) : LH M w0 w.drew L D := H.fr0 (Fr.drew _ _)
theorem nodup_set {α : Type} {f : α → List Nat} : ∀ {L : List α} {i : Nat} {e e' : α}, L[i]? = some e → (L.flatMap f).Nodup → (f e').Nodup → (∀ x ∈ f e', x ∈ f e ∨ x ∉ L.flatMap f) → ((L.set i e').flatMap f).Nodup
  | [], i, e, e', h, _, _, _ => by simp at h
  | a :: L, 0, e, e', h, hn, h', hs => by
    simp at h; subst h
    simp only [List.set_cons_zero, List.flatMap_cons, List.nodup_append] at hn ⊢
    refine ⟨h', hn.2.1, fun x hx y hy => ?_⟩
    rintro rfl
    rcases hs x hx with h | h
    · exact hn.2.2 x h x hy rfl
    · exact h (by simp only [List.flatMap_cons, List.mem_append]; exact .inr hy)
  | a :: L, i + 1, e, e', h, hn, h', hs => by
    simp only [List.getElem?_cons_succ] at h
    simp only [List.set_cons_succ, List.flatMap_cons, List.nodup_append] at hn ⊢
    refine ⟨hn.1, nodup_set h hn.2.1 h' (fun x hx => (hs x hx).imp id fun h hm => h (by simp only [List.flatMap_cons, List.mem_append]; exact .inr hm)), fun x hx y hy => ?_⟩
    rintro rfl
    obtain ⟨g, hg, hxg⟩ := List.mem_flatMap.1 hy
    rcases List.mem_or_eq_of_mem_set hg with hg | rfl
    · exact hn.2.2 x hx x (List.mem_flatMap.2 ⟨g, hg, hxg⟩) rfl
    · rcases hs x hxg with h1 | h1
      · exact hn.2.2 x hx x (List.mem_flatMap.2 ⟨e, List.mem_of_getElem? h, h1⟩) rfl
      · exact h1 (by simp only [List.flatMap_cons, List.mem_append]; exact .inl hx)
theorem LH.own_lt {M : Nat → Prop} {w0 w : World} {L D : List En} (H : LH M w0 w L D) : ∀ b ∈ L.flatMap (·.fp), b < w.heap.size := fun b hb => by
  obtain ⟨e, he, hb⟩ := List.mem_flatMap.1 hb
  exact e.lt w (H.own e he) b hb
theorem disj_of {L : List En} (hn : (L.flatMap (·.fp)).Nodup) : ∀ {i : Nat} {e : En}, L[i]? = some e → ∀ {j : Nat} {g : En}, L[j]? = some g → i ≠ j → ∀ b ∈ e.fp, b ∉ g.fp := by
  induction L with
  | nil => intro i e h; simp at h
  | cons a L ih =>
    simp only [List.flatMap_cons, List.nodup_append] at hn
    intro i e hi j g hj hne b hb hb'
    cases i with
    | zero =>
      simp at hi; subst hi
      cases j with
      | zero => exact hne rfl
      | succ j => exact hn.2.2 b hb b (List.mem_flatMap.2 ⟨g, List.mem_of_getElem? (by simpa using hj), hb'⟩) rfl
    | succ i =>
      cases j with
      | zero =>
        simp at hj; subst hj
        exact hn.2.2 b hb' b (List.mem_flatMap.2 ⟨e, List.mem_of_getElem? (by simpa using hi), hb⟩) rfl
      | succ j => exact ih hn.2.1 (by simpa using hi) (by simpa using hj) (by omega) b hb hb'
/-- one thing becomes another one -/
theorem LH.upd {M : Nat → Prop} {w0 w w' : World} {L D : List En} (H : LH M w0 w L D) {e : En} (i : Nat) (e' : En) (hi : L[i]? = some e) (f : Fr (· ∈ e.fp) w w') (hP : e'.P w') (hfp : ∀ b ∈ e'.fp, b ∈ e.fp ∨ w.heap.size ≤ b) : LH M w0 w' (L.set i e') D := by
  have hm := List.mem_of_getElem? hi
  have hfr : Fr M w0 w' := H.fr.trans f fun x hx hm' => (H.new e hm x hm').resolve_left (by omega)
  refine ⟨hfr, fun g hg => ?_, fun g hg => ?_, fun g hg b hb => ?_, nodup_set hi H.nd e'.nd fun x hx => ?_, fun g hg b hb g' hg' hb' => ?_⟩
  · obtain ⟨j, hj⟩ := List.mem_iff_getElem?.1 hg
    rw [List.getElem?_set] at hj
    split at hj
    · split at hj
      · cases hj; exact hP
      · cases hj
    · rename_i hne
      refine g.st w w' (fun b hb hl => f.keep b hl fun hbe => disj_of H.nd hi hj hne b hbe hb) (H.own g (List.mem_of_getElem? hj))
  · exact g.st w w' (fun b hb hl => f.keep b hl fun hbe => H.dj g hg b hb e hm hbe) (H.rd g hg)
  · rcases List.mem_or_eq_of_mem_set hg with hg | rfl
    · exact H.new g hg b hb
    · rcases hfp b hb with h | h
      · exact H.new e hm b h
      · exact .inl (Nat.le_trans H.fr.size h)
  · rcases hfp x hx with h | h
    · exact .inl h
    · exact .inr fun hx' => by have := H.own_lt x hx'; omega
  · rcases List.mem_or_eq_of_mem_set hg' with hg' | rfl
    · exact H.dj g hg b hb g' hg' hb'
    · rcases hfp b hb' with h | h
      · exact H.dj g hg b hb e hm h
      · have := g.lt w (H.rd g hg) b hb; omega
/-- a new thing -/
theorem LH.push {M : Nat → Prop} {w0 w w' : World} {L D : List En} (H : LH M w0 w L D) (e : En) (f : Fr0 w w') (hP : e.P w') (hfp : ∀ b ∈ e.fp, w.heap.size ≤ b) : LH M w0 w' (L ++ [e]) D := by
  have H' := H.fr0 f
  refine ⟨H'.fr, fun g hg => ?_, H'.rd, fun g hg b hb => ?_, ?_, fun g hg b hb g' hg' hb' => ?_⟩
  · rcases List.mem_append.1 hg with hg | hg
    · exact H'.own g hg
    · simp at hg; subst hg; exact hP
  · rcases List.mem_append.1 hg with hg | hg
    · exact H.new g hg b hb
    · simp at hg; subst hg; exact .inl (Nat.le_trans H.fr.size (hfp b hb))
  · rw [List.flatMap_append, List.nodup_append]
    refine ⟨H.nd, by simpa using e.nd, fun x hx y hy => ?_⟩
    rintro rfl
    have h1 := H.own_lt x hx
    have h2 := hfp x (by simpa using hy)
    omega
  · rcases List.mem_append.1 hg' with hg' | hg'
    · exact H.dj g hg b hb g' hg' hb'
    · simp at hg'; subst hg'
      have h1 := g.lt w (H.rd g hg) b hb
      have h2 := hfp b hb'
      omega
theorem LH.alloc {M : Nat → Prop} {w0 w : World} {L D : List En} (H : LH M w0 w L D) (o : Obj) : LH M w0 (w.alloc o) (L ++ [.ob w.heap.size o]) D :=
  H.push _ (Fr.alloc _ _ _) (heap_new w o) (fun b hb => by simp [En.ob] at hb; omega)
/-- something more to read -/
theorem LH.addD {M : Nat → Prop} {w0 w w' : World} {L D : List En} (H : LH M w0 w L D) (e : En) (f : Fr0 w w') (hP : e.P w') (hd : ∀ b ∈ e.fp, w.heap.size ≤ b ∨ (b < w0.heap.size ∧ ¬ M b) ∨ ∃ g ∈ D, b ∈ g.fp) : LH M w0 w' L (D ++ [e]) := by
  have H' := H.fr0 f
  refine ⟨H'.fr, H'.own, fun g hg => ?_, H'.new, H'.nd, fun g hg b hb g' hg' hb' => ?_⟩
  · rcases List.mem_append.1 hg with hg | hg
    · exact H'.rd g hg
    · simp at hg; subst hg; exact hP
  · rcases List.mem_append.1 hg with hg | hg
    · exact H.dj g hg b hb g' hg' hb'
    · simp at hg; subst hg
      rcases hd b hb with h | ⟨h, hm⟩ | ⟨q, hq, hbq⟩
      · have := g'.lt w (H.own g' hg') b hb'; omega
      · exact (H.new g' hg' b hb').elim (fun h' => by omega) hm
      · exact H.dj q hq b hbq g' hg' hb'
theorem LH.forget {M : Nat → Prop} {w0 w : World} {L D : List En} (H : LH M w0 w L D) (D' : List En) (h : ∀ e ∈ D', e ∈ D) : LH M w0 w L D' := ⟨H.fr, H.own, fun e he => H.rd e (h e he), H.new, H.nd, fun e he => H.dj e (h e he)⟩
theorem mem_eraseIdx' {α : Type} {a : α} : ∀ {l : List α} {i : Nat}, a ∈ l.eraseIdx i → a ∈ l
  | [], _, h => by simp at h
  | b :: l, 0, h => by simp at h; simp [h]
  | b :: l, i + 1, h => by
    simp at h
    rcases h with h | h
    · simp [h]
    · exact List.mem_cons_of_mem _ (mem_eraseIdx' h)
theorem nodup_erase {α : Type} {f : α → List Nat} : ∀ {L : List α} {i : Nat}, (L.flatMap f).Nodup → ((L.eraseIdx i).flatMap f).Nodup
  | [], i, h => by simp
  | a :: L, 0, h => by simp only [List.flatMap_cons, List.nodup_append] at h; exact h.2.1
  | a :: L, i + 1, h => by
    simp only [List.eraseIdx_cons_succ, List.flatMap_cons, List.nodup_append] at h ⊢
    refine ⟨h.1, nodup_erase h.2.1, fun x hx y hy => h.2.2 x hx y ?_⟩
    obtain ⟨g, hg, hxg⟩ := List.mem_flatMap.1 hy
    exact List.mem_flatMap.2 ⟨g, mem_eraseIdx' hg, hxg⟩
/-- one's own thing is given up, to be read only -/
theorem erase_ne {α : Type} {f : α → List Nat} : ∀ {L : List α} {i : Nat} {e : α}, L[i]? = some e → (L.flatMap f).Nodup → ∀ b ∈ f e, ∀ g ∈ L.eraseIdx i, b ∉ f g
  | [], i, e, h, _ => by simp at h
  | a :: L, 0, e, h, hn => by
    simp at h; subst h
    simp only [List.flatMap_cons, List.nodup_append] at hn
    intro b hb g hg hb'
    exact hn.2.2 b hb b (List.mem_flatMap.2 ⟨g, by simpa using hg, hb'⟩) rfl
  | a :: L, i + 1, e, h, hn => by
    simp only [List.flatMap_cons, List.nodup_append] at hn
    intro b hb g hg hb'
    simp only [List.getElem?_cons_succ] at h
    simp only [List.eraseIdx_cons_succ, List.mem_cons] at hg
    rcases hg with rfl | hg
    · exact hn.2.2 b hb' b (List.mem_flatMap.2 ⟨e, List.mem_of_getElem? h, hb⟩) rfl
    · exact erase_ne h hn.2.1 b hb g hg hb'
theorem LH.freeze {M : Nat → Prop} {w0 w : World} {L D : List En} (H : LH M w0 w L D) {e : En} (i : Nat) (e' : En) (hi : L[i]? = some e) (hP : e'.P w) (hfp : ∀ b ∈ e'.fp, b ∈ e.fp) : LH M w0 w (L.eraseIdx i) (D ++ [e']) := by
  refine ⟨H.fr, fun g hg => H.own g (mem_eraseIdx' hg), fun g hg => ?_, fun g hg => H.new g (mem_eraseIdx' hg), nodup_erase H.nd, fun g hg b hb g' hg' => ?_⟩
  · rcases List.mem_append.1 hg with hg | hg
    · exact H.rd g hg
    · simp at hg; subst hg; exact hP
  · rcases List.mem_append.1 hg with hg | hg
    · exact H.dj g hg b hb g' (mem_eraseIdx' hg')
    · simp at hg; subst hg
      exact erase_ne hi H.nd b (hfp b hb) g' hg'
theorem LH.get {M : Nat → Prop} {w0 w : World} {L D : List En} (H : LH M w0 w L D) (i : Nat) {e : En} (hi : L[i]? = some e := by rfl) : e.P w := H.own e (List.mem_of_getElem? hi)
theorem LH.getD {M : Nat → Prop} {w0 w : World} {L D : List En} (H : LH M w0 w L D) (i : Nat) {e : En} (hi : D[i]? = some e := by rfl) : e.P w := H.rd e (List.mem_of_getElem? hi)

/-! #### Steps of a code -/
section
variable {M : Nat → Prop} {w0 w : World} {L D : List En}
theorem LH.ob (H : LH M w0 w L D) (i : Nat) {b : Nat} {o : Obj} (hi : L[i]? = some (.ob b o) := by rfl) : w.heap[b]? = some o := H.own _ (List.mem_of_getElem? hi)
theorem LH.ld (H : LH M w0 w L D) (i j : Nat) {b : Nat} {vs : List Value} {T : TypeId} {v : Value} (hi : L[i]? = some (.c b vs T) := by rfl) (hj : vs[j]? = some v := by rfl) : w.cell? ((at0 b).add j) = some v :=
  cellAt (p := at0 b) (H.ob i hi) rfl (by simpa using hj)
theorem LH.ld0 (H : LH M w0 w L D) (i : Nat) {b : Nat} {vs : List Value} {T : TypeId} {v : Value} (hi : L[i]? = some (.c b vs T) := by rfl) (hj : vs[0]? = some v := by rfl) : w.cell? (at0 b) = some v := by
  have := H.ld i 0 hi hj
  rwa [add0] at this
theorem LH.set (H : LH M w0 w L D) (i j : Nat) {b : Nat} {vs : List Value} {T : TypeId} {v : Value} (hi : L[i]? = some (.c b vs T)) (hj : j < vs.length) :
    (w.cell? ((at0 b).add j)).isSome = true ∧ w.frozen? ((at0 b).add j) = false ∧ LH M w0 (w.setCell ((at0 b).add j) v) (L.set i (.c b (vs.set j v) T)) D := by
  obtain ⟨x1, x2, x3, x4⟩ := set_c (H.ob i hi) j (by simpa using hj) v
  exact ⟨x1, x2, H.upd i (.c b (vs.set j v) T) hi (x4.mono fun x _ e => by simp [En.ob, e]) (by show _ = _; rw [x3]; simp) (fun b hb => .inl hb)⟩
theorem LH.st (H : LH M w0 w L D) (i j : Nat) {b : Nat} {vs : List Value} {T : TypeId} {v : Value} {K : World → Prop} (hi : L[i]? = some (.c b vs T)) (hK : ∀ w', LH M w0 w' (L.set i (.c b (vs.set j v) T)) D → K w') (hj : j < vs.length := by simp) : stV w ((at0 b).add j) v K := by
  obtain ⟨x1, x2, x3⟩ := H.set (v := v) i j hi hj
  exact ⟨x1, x2, hK _ x3⟩
theorem LH.st0 (H : LH M w0 w L D) (i : Nat) {b : Nat} {vs : List Value} {T : TypeId} {v : Value} {K : World → Prop} (hi : L[i]? = some (.c b vs T)) (hK : ∀ w', LH M w0 w' (L.set i (.c b (vs.set 0 v) T)) D → K w') (hj : 0 < vs.length := by simp) : stV w (at0 b) v K := by
  have := H.st (v := v) (K := K) i 0 hi hK hj
  rwa [add0] at this
theorem LH.st2 (H : LH M w0 w L D) (i : Nat) {b : Nat} {a0 a1 : Value} {T : TypeId} {v0 v1 : Value} {K : World → Prop} (hi : L[i]? = some (.c b [a0, a1] T)) (hK : ∀ w', LH M w0 w' (L.set i (.c b [v0, v1] T)) D → K w') : stV w (at0 b) v0 fun w1 => stV w1 ((at0 b).add 1) v1 K := by
  have hl := (List.getElem?_eq_some_iff.1 hi).1
  exact H.st0 i hi (fun w1 H1 => H1.st (vs := [v0, a1]) (T := T) i 1 (by simp [hl]) (fun w2 H2 => hK w2 (by simpa using H2)))
theorem LH.st3 (H : LH M w0 w L D) (i : Nat) {b : Nat} {a0 a1 a2 : Value} {T : TypeId} {v0 v1 v2 : Value} {K : World → Prop} (hi : L[i]? = some (.c b [a0, a1, a2] T)) (hK : ∀ w', LH M w0 w' (L.set i (.c b [v0, v1, v2] T)) D → K w') : stV w (at0 b) v0 fun w1 => stV w1 ((at0 b).add 1) v1 fun w2 => stV w2 ((at0 b).add 2) v2 K := by
  have hl := (List.getElem?_eq_some_iff.1 hi).1
  exact H.st0 i hi (fun w1 H1 => H1.st (vs := [v0, a1, a2]) (T := T) i 1 (by simp [hl]) (fun w2 H2 => H2.st (vs := [v0, v1, a2]) (T := T) i 2 (by simp [hl]) (fun w3 H3 => hK w3 (by simpa using H3))))
theorem LH.st4 (H : LH M w0 w L D) (i : Nat) {b : Nat} {a0 a1 a2 a3 : Value} {T : TypeId} {v0 v1 v2 v3 : Value} {K : World → Prop} (hi : L[i]? = some (.c b [a0, a1, a2, a3] T)) (hK : ∀ w', LH M w0 w' (L.set i (.c b [v0, v1, v2, v3] T)) D → K w') : stV w (at0 b) v0 fun w1 => stV w1 ((at0 b).add 1) v1 fun w2 => stV w2 ((at0 b).add 2) v2 fun w3 => stV w3 ((at0 b).add 3) v3 K := by
  have hl := (List.getElem?_eq_some_iff.1 hi).1
  exact H.st0 i hi (fun w1 H1 => H1.st (vs := [v0, a1, a2, a3]) (T := T) i 1 (by simp [hl]) (fun w2 H2 => H2.st (vs := [v0, v1, a2, a3]) (T := T) i 2 (by simp [hl]) (fun w3 H3 => H3.st (vs := [v0, v1, v2, a3]) (T := T) i 3 (by simp [hl]) (fun w4 H4 => hK w4 (by simpa using H4)))))
theorem LH.st5 (H : LH M w0 w L D) (i : Nat) {b : Nat} {a0 a1 a2 a3 a4 : Value} {T : TypeId} {v0 v1 v2 v3 v4 : Value} {K : World → Prop} (hi : L[i]? = some (.c b [a0, a1, a2, a3, a4] T)) (hK : ∀ w', LH M w0 w' (L.set i (.c b [v0, v1, v2, v3, v4] T)) D → K w') : stV w (at0 b) v0 fun w1 => stV w1 ((at0 b).add 1) v1 fun w2 => stV w2 ((at0 b).add 2) v2 fun w3 => stV w3 ((at0 b).add 3) v3 fun w4 => stV w4 ((at0 b).add 4) v4 K := by
  have hl := (List.getElem?_eq_some_iff.1 hi).1
  exact H.st0 i hi (fun w1 H1 => H1.st (vs := [v0, a1, a2, a3, a4]) (T := T) i 1 (by simp [hl]) (fun w2 H2 => H2.st (vs := [v0, v1, a2, a3, a4]) (T := T) i 2 (by simp [hl]) (fun w3 H3 => H3.st (vs := [v0, v1, v2, a3, a4]) (T := T) i 3 (by simp [hl]) (fun w4 H4 => H4.st (vs := [v0, v1, v2, v3, a4]) (T := T) i 4 (by simp [hl]) (fun w5 H5 => hK w5 (by simpa using H5))))))
theorem LH.st6 (H : LH M w0 w L D) (i : Nat) {b : Nat} {a0 a1 a2 a3 a4 a5 : Value} {T : TypeId} {v0 v1 v2 v3 v4 v5 : Value} {K : World → Prop} (hi : L[i]? = some (.c b [a0, a1, a2, a3, a4, a5] T)) (hK : ∀ w', LH M w0 w' (L.set i (.c b [v0, v1, v2, v3, v4, v5] T)) D → K w') : stV w (at0 b) v0 fun w1 => stV w1 ((at0 b).add 1) v1 fun w2 => stV w2 ((at0 b).add 2) v2 fun w3 => stV w3 ((at0 b).add 3) v3 fun w4 => stV w4 ((at0 b).add 4) v4 fun w5 => stV w5 ((at0 b).add 5) v5 K := by
  have hl := (List.getElem?_eq_some_iff.1 hi).1
  exact H.st0 i hi (fun w1 H1 => H1.st (vs := [v0, a1, a2, a3, a4, a5]) (T := T) i 1 (by simp [hl]) (fun w2 H2 => H2.st (vs := [v0, v1, a2, a3, a4, a5]) (T := T) i 2 (by simp [hl]) (fun w3 H3 => H3.st (vs := [v0, v1, v2, a3, a4, a5]) (T := T) i 3 (by simp [hl]) (fun w4 H4 => H4.st (vs := [v0, v1, v2, v3, a4, a5]) (T := T) i 4 (by simp [hl]) (fun w5 H5 => H5.st (vs := [v0, v1, v2, v3, v4, a5]) (T := T) i 5 (by simp [hl]) (fun w6 H6 => hK w6 (by simpa using H6)))))))
theorem LH.st7 (H : LH M w0 w L D) (i : Nat) {b : Nat} {a0 a1 a2 a3 a4 a5 a6 : Value} {T : TypeId} {v0 v1 v2 v3 v4 v5 v6 : Value} {K : World → Prop} (hi : L[i]? = some (.c b [a0, a1, a2, a3, a4, a5, a6] T)) (hK : ∀ w', LH M w0 w' (L.set i (.c b [v0, v1, v2, v3, v4, v5, v6] T)) D → K w') : stV w (at0 b) v0 fun w1 => stV w1 ((at0 b).add 1) v1 fun w2 => stV w2 ((at0 b).add 2) v2 fun w3 => stV w3 ((at0 b).add 3) v3 fun w4 => stV w4 ((at0 b).add 4) v4 fun w5 => stV w5 ((at0 b).add 5) v5 fun w6 => stV w6 ((at0 b).add 6) v6 K := by
  have hl := (List.getElem?_eq_some_iff.1 hi).1
  exact H.st0 i hi (fun w1 H1 => H1.st (vs := [v0, a1, a2, a3, a4, a5, a6]) (T := T) i 1 (by simp [hl]) (fun w2 H2 => H2.st (vs := [v0, v1, a2, a3, a4, a5, a6]) (T := T) i 2 (by simp [hl]) (fun w3 H3 => H3.st (vs := [v0, v1, v2, a3, a4, a5, a6]) (T := T) i 3 (by simp [hl]) (fun w4 H4 => H4.st (vs := [v0, v1, v2, v3, a4, a5, a6]) (T := T) i 4 (by simp [hl]) (fun w5 H5 => H5.st (vs := [v0, v1, v2, v3, v4, a5, a6]) (T := T) i 5 (by simp [hl]) (fun w6 H6 => H6.st (vs := [v0, v1, v2, v3, v4, v5, a6]) (T := T) i 6 (by simp [hl]) (fun w7 H7 => hK w7 (by simpa using H7))))))))
theorem LH.st8 (H : LH M w0 w L D) (i : Nat) {b : Nat} {a0 a1 a2 a3 a4 a5 a6 a7 : Value} {T : TypeId} {v0 v1 v2 v3 v4 v5 v6 v7 : Value} {K : World → Prop} (hi : L[i]? = some (.c b [a0, a1, a2, a3, a4, a5, a6, a7] T)) (hK : ∀ w', LH M w0 w' (L.set i (.c b [v0, v1, v2, v3, v4, v5, v6, v7] T)) D → K w') : stV w (at0 b) v0 fun w1 => stV w1 ((at0 b).add 1) v1 fun w2 => stV w2 ((at0 b).add 2) v2 fun w3 => stV w3 ((at0 b).add 3) v3 fun w4 => stV w4 ((at0 b).add 4) v4 fun w5 => stV w5 ((at0 b).add 5) v5 fun w6 => stV w6 ((at0 b).add 6) v6 fun w7 => stV w7 ((at0 b).add 7) v7 K := by
  have hl := (List.getElem?_eq_some_iff.1 hi).1
  exact H.st0 i hi (fun w1 H1 => H1.st (vs := [v0, a1, a2, a3, a4, a5, a6, a7]) (T := T) i 1 (by simp [hl]) (fun w2 H2 => H2.st (vs := [v0, v1, a2, a3, a4, a5, a6, a7]) (T := T) i 2 (by simp [hl]) (fun w3 H3 => H3.st (vs := [v0, v1, v2, a3, a4, a5, a6, a7]) (T := T) i 3 (by simp [hl]) (fun w4 H4 => H4.st (vs := [v0, v1, v2, v3, a4, a5, a6, a7]) (T := T) i 4 (by simp [hl]) (fun w5 H5 => H5.st (vs := [v0, v1, v2, v3, v4, a5, a6, a7]) (T := T) i 5 (by simp [hl]) (fun w6 H6 => H6.st (vs := [v0, v1, v2, v3, v4, v5, a6, a7]) (T := T) i 6 (by simp [hl]) (fun w7 H7 => H7.st (vs := [v0, v1, v2, v3, v4, v5, v6, a7]) (T := T) i 7 (by simp [hl]) (fun w8 H8 => hK w8 (by simpa using H8)))))))))
theorem LH.nw (H : LH M w0 w L D) {cs : Array Value} {T : TypeId} {K : World → Prop} (hK : ∀ w', w'.heap.size = w.heap.size + 1 → LH M w0 w' (L ++ [.c w.heap.size cs.toList T]) D → K w') : nwV w (.cells cs T) K := hK _ (size_alloc _ _) (H.alloc _)
/-- a block that is read only at once -/
theorem LH.nwx (H : LH M w0 w L D) {o : Obj} {K : World → Prop} (hK : ∀ w', w'.heap.size = w.heap.size + 1 → LH M w0 w' L D → w'.heap[w.heap.size]? = some o → K w') : nwV w o K := hK _ (size_alloc _ _) (H.fr0 (Fr.alloc _ _ _)) (heap_new w o)
theorem LH.dr (H : LH M w0 w L D) {K : World → Prop} (hK : ∀ w', LH M w0 w' L D → K w') : drV w K := hK _ H.drew
theorem LH.pu (H : LH M w0 w L D) (i : Nat) {b : Nat} {o o' : Obj} {K : World → Prop} (hi : L[i]? = some (.ob b o)) (hK : ∀ w', LH M w0 w' (L.set i (.ob b o')) D → K w') : puV w b o o' K :=
  ⟨H.ob i hi, hK _ (H.upd i (.ob b o') hi ((Fr.put w b o').mono fun x _ e => by simp [En.ob, e]) (put_at (H.ob i hi) o') (fun b hb => .inl hb))⟩
/-- appending to a row of one's own -/
theorem LH.ap (H : LH M w0 w L D) (i : Nat) {P : Program} {t ty e : TypeId} {z : Value} {sz bytes : Nat} (el : ElemOk P t e z sz bytes) {s src : Sl} {xs news : List Value} {K : Sl → World → Prop}
    (hi : L[i]? = some (.row e sz s xs)) (hr : CRow w src news) (hl : news.length = src.n * sz) (h1 : ∀ u ∈ news, u.oneCell' = true) (hb : (s.n + src.n) * bytes ≤ 140737488355328)
    (hK : ∀ s' w', LH M w0 w' (L.set i (.row e sz s' (xs ++ news))) D → s'.n = s.n + src.n → (s'.a = none → s.a = none ∧ src.n = 0) → K s' w') :
    ∃ s' w', (Builtin.append_ #[t, t] ty #[s.v, src.v]).run P w = .ok s'.v w' ∧ K s' w' := by
  obtain ⟨s', w', g1, g2, g3, g4, g5, g6⟩ := append_ownC (ty := ty) el (H.get i hi) hr hl h1 hb
  exact ⟨s', w', g1, hK s' w' (H.upd i (.row e sz s' (xs ++ news)) hi g4 g2 g5) g3 g6⟩
/-- appending one element, which was just boxed -/
theorem LH.ap1 (H : LH M w0 w L D) (i : Nat) {P : Program} {t ty e : TypeId} {z : Value} {sz bytes : Nat} (el : ElemOk P t e z sz bytes) {T : TypeId} {s : Sl} {xs : List Value} {news : Array Value} {K : Sl → World → Prop}
    (hi : L[i]? = some (.row e sz s xs)) (hK : ∀ s' w', LH M w0 w' (L.set i (.row e sz s' (xs ++ news.toList))) D → s'.n = s.n + 1 → s'.a ≠ none → K s' w') (hb : (s.n + 1) * bytes ≤ 140737488355328) (hl : news.size = sz := by rfl) (h1 : ∀ u ∈ news.toList, u.oneCell' = true := by simp [Value.oneCell']) :
    nwV w (.cells news T) fun w1 => ∃ s' w', (Builtin.append_ #[t, t] ty #[s.v, .slice (some (Addr.mk w.heap.size 0 none)) 1 1]).run P w1 = .ok s'.v w' ∧ K s' w' := by
  have H1 : LH M w0 (w.alloc (.cells news T)) L D := H.fr0 (Fr.alloc _ _ _)
  refine H1.ap i el (src := ⟨some (at0 w.heap.size), 1, 1⟩) (ty := ty) (K := K) (news := news.toList) hi ((Row.made w T 1 1 news.toList).crow) (by simpa using hl) h1 hb (fun s' w' h hn hnone => hK s' w' h hn fun h0 => by have := (hnone h0).2; simp at this)
/-- a row of one's own, from nothing -/
theorem LH.nilrow (H : LH M w0 w L D) (e : TypeId) (sz : Nat) : LH M w0 w (L ++ [.row e sz ⟨none, 0, 0⟩ []]) D := H.push _ (Fr.refl _ _) (OwnRow.nil w e sz) (fun b hb => by simp [En.row, blkL] at hb)
end
theorem OwnRow.ow1 {w : World} {e : TypeId} {s : Sl} {vs : List Value} (h : OwnRow w e 1 s vs) : Ow w e s vs := ⟨by have := h.len; omega, h⟩
theorem OwnRow.rd1 {w : World} {e : TypeId} {s : Sl} {vs : List Value} (h : OwnRow w e 1 s vs) : Rd w s vs := h.ow1.rd
abbrev F0 : Nat → Prop := fun _ => False
theorem LH.take {M : Nat → Prop} {w0 w : World} {L D : List En} (H : LH M w0 w L D) (n : Nat) : LH M w0 w (L.take n) D :=
  ⟨H.fr, fun e he => H.own e (List.mem_of_mem_take he), H.rd, fun e he => H.new e (List.mem_of_mem_take he), by
    have := H.nd
    rw [← List.take_append_drop n L, List.flatMap_append, List.nodup_append] at this
    exact this.1, fun e he b hb e' he' => H.dj e he b hb e' (List.mem_of_mem_take he')⟩
theorem sel_eq {a b : Int} {A B : Prop} (h1 : a = b → A) (h2 : a ≠ b → B) : sel (a == b) A B := sel_intro (fun h => h1 (by simpa using h)) (fun h => h2 (by simpa using h))
theorem sel_ne {a b : Int} {A B : Prop} (h1 : a ≠ b → A) (h2 : a = b → B) : sel (a != b) A B := sel_intro (fun h => h1 (by simpa using h)) (fun h => h2 (by simpa using h))
theorem sel_dec {p : Prop} [Decidable p] {A B : Prop} (h1 : p → A) (h2 : ¬ p → B) : sel (decide p) A B := sel_intro (fun h => h1 (of_decide_eq_true h)) (fun h => h2 (of_decide_eq_false h))
theorem sel_not {b : Bool} {A B : Prop} (h1 : b = false → A) (h2 : b = true → B) : sel (!b) A B := sel_intro (fun h => h1 (by simpa using h)) (fun h => h2 (by simpa using h))
theorem LH.ldD {M : Nat → Prop} {w0 w : World} {L D : List En} (H : LH M w0 w L D) (i j : Nat) {b : Nat} {vs : List Value} {T : TypeId} {v : Value} (hi : D[i]? = some (.c b vs T) := by rfl) (hj : vs[j]? = some v := by rfl) : w.cell? ((at0 b).add j) = some v :=
  cellAt (p := at0 b) (show w.heap[b]? = _ from H.rd _ (List.mem_of_getElem? hi)) rfl (by simpa using hj)
theorem LH.ldD0 {M : Nat → Prop} {w0 w : World} {L D : List En} (H : LH M w0 w L D) (i : Nat) {b : Nat} {vs : List Value} {T : TypeId} {v : Value} (hi : D[i]? = some (.c b vs T) := by rfl) (hj : vs[0]? = some v := by rfl) : w.cell? (at0 b) = some v := by
  have := H.ldD i 0 hi hj
  rwa [add0] at this
/-- a call that changes one block -/
theorem LH.callc {M : Nat → Prop} {w0 w w' : World} {L D : List En} (H : LH M w0 w L D) (i : Nat) {b : Nat} {vs vs' : List Value} {T : TypeId} (f : Fr (· = b) w w') (h : w'.heap[b]? = some (.cells vs'.toArray T (0, 0))) (hi : L[i]? = some (.c b vs T) := by rfl) : LH M w0 w' (L.set i (.c b vs' T)) D :=
  H.upd i (.c b vs' T) hi (f.mono fun x _ e => by simp [En.ob, e]) h (fun b hb => .inl hb)
theorem LH.nwrow {M : Nat → Prop} {w0 w : World} {L D : List En} (H : LH M w0 w L D) {e : TypeId} {sz n : Nat} {cs : List Value} (hc : cs.length = n * sz) (hn : n ≤ maxLen) {K : World → Prop} (hK : ∀ w', LH M w0 w' (L ++ [.row e sz ⟨some (at0 w.heap.size), n, n⟩ cs]) D → K w') : nwV w (.cells cs.toArray e) K :=
  hK _ (H.push _ (Fr.alloc _ _ _) (OwnRow.made w e sz n cs hc hn) (fun b hb => by simp [En.row, blkL] at hb; omega))
theorem LH.apn {M : Nat → Prop} {w0 w : World} {L D : List En} (H : LH M w0 w L D) (i : Nat) {P : Program} {t ty e : TypeId} {z : Value} {bytes : Nat} (el : ElemOk P t e z 1 bytes) {T : TypeId} {s : Sl} {xs : List Value} {m : Nat} {news : List Value} {K : Sl → World → Prop}
    (hi : L[i]? = some (.row e 1 s xs)) (hm : news.length = m) (h1 : ∀ u ∈ news, u.oneCell' = true) (hb : (s.n + m) * bytes ≤ 140737488355328) (h0 : 1 ≤ m)
    (hK : ∀ s' w', LH M w0 w' (L.set i (.row e 1 s' (xs ++ news))) D → K s' w') :
    nwV w (.cells news.toArray T) fun w1 => ∃ s' w', (Builtin.append_ #[t, t] ty #[s.v, .slice (some (Addr.mk w.heap.size 0 none)) m m]).run P w1 = .ok s'.v w' ∧ K s' w' := by
  have H1 : LH M w0 (w.alloc (.cells news.toArray T)) L D := H.fr0 (Fr.alloc _ _ _)
  exact H1.ap i el (src := ⟨some (at0 w.heap.size), m, m⟩) (ty := ty) (K := K) (news := news) hi ((Row.made w T m m news).crow) (by simpa using hm) h1 hb (fun s' w' h _ _ => hK s' w' h)
end Go.W
