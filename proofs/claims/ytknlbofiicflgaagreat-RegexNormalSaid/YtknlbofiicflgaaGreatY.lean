/- Variables that nobody else sees: what a function does, without them. No program in sight. -/
import Derived.Test.YtknlbofiicflgaaGreatZ
import Derived.Test.YtknlbofiicflgaaGreatI
namespace Go.W

/-! ### Variables of a function that nobody else sees -/
structure LC (w : World) (L : List (Nat × List Value × TypeId)) : Prop where
  own : ∀ (i : Nat) (x : Nat × List Value × TypeId), L[i]? = some x → w.heap[x.1]? = some (.cells x.2.1.toArray x.2.2 (0, 0))
  dj : ∀ (i j : Nat) (x y : Nat × List Value × TypeId), L[i]? = some x → L[j]? = some y → x.1 = y.1 → i = j
abbrev bsOf (L : List (Nat × List Value × TypeId)) : List Nat := L.map (·.1)
/-- whatever becomes of the variables -/
def loc (bs : List Nat) (w : World) (K : World → Prop) : Prop := ∀ w', Fr (· ∈ bs) w w' → K w'
/-- a new variable -/
def newV (bs : List Nat) (w : World) (K : Nat → World → Prop) : Prop := ∀ b w', w.heap.size ≤ b → w'.heap.size = b + 1 → Fr (· ∈ bs) w w' → K b w'
/-- a call that leaves the variables alone -/
def callF (bs : List Nat) (P : Program) (f : FuncId) (args : Array Value) (w : World) (K : Post) : Prop := ∃ M : Nat → Prop, (∀ b ∈ bs, ¬ M b) ∧ Calls P f args w fun r w' => Fr M w w' ∧ K r w'
def kept (bs : List Nat) (w w' : World) : Prop := ∀ b ∈ bs, w'.heap[b]? = w.heap[b]?
theorem optP_imp {q : Option Addr} {K K' : Addr → Prop} (h : optP q K) (f : ∀ p, K p → K' p) : optP q K' := by
  cases q with
  | none => exact h
  | some p => exact f p h
theorem sel_imp {t : Bool} {A B A' B' : Prop} (h : sel t A B) (h1 : A → A') (h2 : B → B') : sel t A' B' := sel_mono h1 h2 h
theorem stV_imp {w : World} {p : Addr} {v : Value} {K K' : World → Prop} (h : stV w p v K) (f : ∀ w1, K w1 → K' w1) : stV w p v K' := ⟨h.1, h.2.1, f _ h.2.2⟩
section
variable {w wT : World} {L : List (Nat × List Value × TypeId)}
theorem LC.nil (w : World) : LC w [] := ⟨fun i x h => by simp at h, fun i j x y h => by simp at h⟩
theorem LC.blk (H : LC w L) {b : Nat} (hb : b ∈ bsOf L) : ∃ (i : Nat) (x : Nat × List Value × TypeId), L[i]? = some x ∧ x.1 = b := by
  obtain ⟨x, hx, rfl⟩ := List.mem_map.1 hb
  obtain ⟨i, hi⟩ := List.mem_iff_getElem?.1 hx
  exact ⟨i, x, hi, rfl⟩
theorem LC.lt (H : LC w L) {b : Nat} (hb : b ∈ bsOf L) : b < w.heap.size := by
  obtain ⟨i, x, hi, rfl⟩ := H.blk hb
  exact lt_of_heap (H.own i x hi)
theorem LC.keptT {w' : World} (H : LC w L) (h : kept (bsOf L) w w') : LC w' L :=
  ⟨fun i x hi => by rw [h x.1 (List.mem_map.2 ⟨x, List.mem_of_getElem? hi, rfl⟩)]; exact H.own i x hi, H.dj⟩
theorem LC.fr {M : Nat → Prop} {w' : World} (H : LC w L) (f : Fr M w w') (hm : ∀ b ∈ bsOf L, ¬ M b) : LC w' L := H.keptT fun b hb => f.keep b (H.lt hb) (hm b hb)
theorem LC.pick (H : LC w L) (is : List Nat) (hn : is.Nodup) : LC w (is.filterMap fun i => L[i]?) := by
  induction is with
  | nil => exact LC.nil w
  | cons k is ih =>
    have ih := ih (List.nodup_cons.1 hn).2
    cases hk : L[k]? with
    | none => rw [List.filterMap_cons_none hk]; exact ih
    | some x =>
      rw [List.filterMap_cons_some hk]
      have back : ∀ (j : Nat) y, (is.filterMap fun i => L[i]?)[j]? = some y → y.1 ≠ x.1 := by
        intro j y hy e
        obtain ⟨m, hm, hmy⟩ := List.mem_filterMap.1 (List.mem_of_getElem? hy)
        have := H.dj m k y x hmy hk e
        subst this
        exact (List.nodup_cons.1 hn).1 hm
      refine ⟨fun i y hi => ?_, fun i j y z hi hj e => ?_⟩
      · cases i with
        | zero => simp at hi; subst hi; exact H.own k x hk
        | succ i => exact ih.own i y (by simpa using hi)
      · cases i with
        | zero =>
          cases j with
          | zero => rfl
          | succ j => simp at hi; subst hi; exact absurd e.symm (back j z (by simpa using hj))
        | succ i =>
          cases j with
          | zero => simp at hj; subst hj; exact absurd e (back i y (by simpa using hi))
          | succ j => rw [ih.dj i j y z (by simpa using hi) (by simpa using hj) e]
theorem LC.ld (H : LC w L) (i j : Nat) {b : Nat} {vs : List Value} {T : TypeId} {v : Value} (hi : L[i]? = some (b, vs, T) := by rfl) (hj : vs[j]? = some v := by rfl) : w.cell? ((at0 b).add j) = some v :=
  cellAt (p := at0 b) (H.own i _ hi) rfl (by simpa using hj)
theorem LC.ld0 (H : LC w L) (i : Nat) {b : Nat} {vs : List Value} {T : TypeId} {v : Value} (hi : L[i]? = some (b, vs, T) := by rfl) (hj : vs[0]? = some v := by rfl) : w.cell? (at0 b) = some v := by
  have := H.ld i 0 hi hj
  rwa [add0] at this
theorem LC.alloc (H : LC w L) (o : Obj) : LC (w.alloc o) L := H.fr (M := fun _ => False) (Fr.alloc _ _ _) (fun _ _ h => h)
theorem LC.push (H : LC w L) (cs : Array Value) (T : TypeId) : LC (w.alloc (.cells cs T)) (L ++ [(w.heap.size, cs.toList, T)]) := by
  have H1 := H.alloc (.cells cs T)
  have old : ∀ (i : Nat) x, L[i]? = some x → x.1 < w.heap.size := fun i x hi => lt_of_heap (H.own i x hi)
  have ix : ∀ (i : Nat) x, (L ++ [(w.heap.size, cs.toList, T)])[i]? = some x → (L[i]? = some x) ∨ (i = L.length ∧ x = (w.heap.size, cs.toList, T)) := by
    intro i x hi
    rw [List.getElem?_append] at hi
    split at hi
    · exact .inl hi
    · rename_i hl
      right
      have : i - L.length = 0 := by
        rcases Nat.eq_zero_or_pos (i - L.length) with h | h
        · exact h
        · rw [List.getElem?_eq_none (by simp; omega)] at hi; cases hi
      rw [this] at hi
      simp at hi
      exact ⟨by omega, hi.symm⟩
  refine ⟨fun i x hi => ?_, fun i j x y hi hj e => ?_⟩
  · rcases ix i x hi with h | ⟨_, rfl⟩
    · exact H1.own i x h
    · simp only [Array.toArray_toList]
      exact heap_new w _
  · rcases ix i x hi with h | ⟨h, rfl⟩
    · rcases ix j y hj with h' | ⟨h', rfl⟩
      · exact H.dj i j x y h h' e
      · have := old i x h; simp only at e; omega
    · rcases ix j y hj with h' | ⟨h', rfl⟩
      · have := old j y h'; simp only at e; omega
      · omega
theorem LC.nwT (H : LC w L) {K : World → Prop} {K' : Nat → World → Prop} {cs : Array Value} {T : TypeId} (f : Fr (· ∈ bsOf L) wT w) (h : newV (bsOf L) wT K') (hk : ∀ w1, LC w1 (L ++ [(w.heap.size, cs.toList, T)]) → K' w.heap.size w1 → K w1) : nwV w (.cells cs T) K :=
  hk _ (H.push cs T) (h _ _ f.size (size_alloc _ _) (f.tr0 (Fr.alloc _ _ _)))
theorem LC.nwN (H : LC w L) {K K' : World → Prop} {o : Obj} (h : nwV w o K') (hk : ∀ w1, LC w1 L → K' w1 → K w1) : nwV w o K := hk _ (H.alloc o) h
theorem LC.callT (H : LC w L) {P : Program} {g : FuncId} {args : Array Value} {K K' : Post} (h : callF (bsOf L) P g args w K') (hk : ∀ r w', LC w' L → K' r w' → K r w') : Calls P g args w K := by
  obtain ⟨M, hm, hc⟩ := h
  exact hc.mono fun r w' ⟨f, h'⟩ => hk r w' (H.fr f hm) h'
theorem LC.drT (H : LC w L) {K : World → Prop} (f : Fr (· ∈ bsOf L) wT w) (hk : ∀ w1, LC w1 L → Fr (· ∈ bsOf L) wT w1 → K w1) : drV w K := hk _ (H.fr (M := fun _ => False) (Fr.drew _ _) (fun _ _ h => h)) (f.tr0 (Fr.drew _ _))
theorem bs_set (L : List (Nat × List Value × TypeId)) (i : Nat) {b : Nat} {vs vs' : List Value} {T : TypeId} (hi : L[i]? = some (b, vs, T)) : bsOf (L.set i (b, vs', T)) = bsOf L := by
  apply List.ext_getElem?
  intro k
  simp only [bsOf, List.getElem?_map, List.getElem?_set]
  split
  · rename_i e
    subst e
    rw [hi]
    split
    · rfl
    · rename_i h; exact absurd (List.getElem?_eq_some_iff.1 hi).1 h
  · rfl
theorem LC.set (H : LC w L) (i j : Nat) {b : Nat} {vs : List Value} {T : TypeId} {v : Value} (hi : L[i]? = some (b, vs, T)) (hj : j < vs.length) (f : Fr (· ∈ bsOf L) wT w) :
    (w.cell? ((at0 b).add j)).isSome = true ∧ w.frozen? ((at0 b).add j) = false ∧ LC (w.setCell ((at0 b).add j) v) (L.set i (b, vs.set j v, T)) ∧ Fr (· ∈ bsOf (L.set i (b, vs.set j v, T))) wT (w.setCell ((at0 b).add j) v) := by
  obtain ⟨x1, x2, x3, x4⟩ := set_c (H.own i _ hi) j (by simpa using hj) v
  have hb : b ∈ bsOf L := List.mem_map.2 ⟨_, List.mem_of_getElem? hi, rfl⟩
  refine ⟨x1, x2, ⟨fun k x hk => ?_, fun k m x y hk hm e => ?_⟩, ?_⟩
  · rw [List.getElem?_set] at hk
    split at hk
    · split at hk
      · cases hk
        simp only
        rw [x3]
        simp
      · cases hk
    · rename_i hne
      have := x4.keep x.1 (lt_of_heap (H.own k x hk)) (fun e => hne (H.dj i k _ x hi hk e.symm))
      rw [this]
      exact H.own k x hk
  · have g : ∀ (k : Nat) x, (L.set i (b, vs.set j v, T))[k]? = some x → ∃ y, L[k]? = some y ∧ y.1 = x.1 := by
      intro k x hk
      rw [List.getElem?_set] at hk
      split at hk
      · rename_i e; subst e
        split at hk
        · cases hk; exact ⟨_, hi, rfl⟩
        · cases hk
      · exact ⟨x, hk, rfl⟩
    obtain ⟨x', h1, e1⟩ := g k x hk
    obtain ⟨y', h2, e2⟩ := g m y hm
    exact H.dj k m x' y' h1 h2 (by rw [e1, e2, e])
  · rw [bs_set L i hi]
    exact f.trans x4 fun x _ e => e ▸ hb
theorem LC.stT (H : LC w L) (i j : Nat) {b : Nat} {vs : List Value} {T : TypeId} {v : Value} {K : World → Prop} (f : Fr (· ∈ bsOf L) wT w) (hi : L[i]? = some (b, vs, T)) (hj : Nat.ble (j + 1) vs.length = true) (hk : ∀ w1, LC w1 (L.set i (b, vs.set j v, T)) → Fr (· ∈ bsOf (L.set i (b, vs.set j v, T))) wT w1 → K w1) : stV w ((at0 b).add j) v K := by
  obtain ⟨x1, x2, x3, x4⟩ := H.set (v := v) i j hi (Nat.le_of_ble_eq_true hj) f
  exact ⟨x1, x2, hk _ x3 x4⟩
theorem LC.stT0 (H : LC w L) (i : Nat) {b : Nat} {vs : List Value} {T : TypeId} {v : Value} {K : World → Prop} (f : Fr (· ∈ bsOf L) wT w) (hi : L[i]? = some (b, vs, T)) (hj : Nat.ble 1 vs.length = true) (hk : ∀ w1, LC w1 (L.set i (b, vs.set 0 v, T)) → Fr (· ∈ bsOf (L.set i (b, vs.set 0 v, T))) wT w1 → K w1) : stV w (at0 b) v K := by
  have := H.stT (v := v) (K := K) i 0 f hi hj hk
  rwa [add0] at this
theorem newV_intro {bs : List Nat} {K : Nat → World → Prop} (h : ∀ b w', w.heap.size ≤ b → w'.heap.size = b + 1 → Fr (· ∈ bs) w w' → K b w') : newV bs w K := h
theorem callF0 {bs : List Nat} {P : Program} {f : FuncId} {args : Array Value} {K : Post} (h : Calls P f args w fun r w' => Fr0 w w' ∧ K r w') : callF bs P f args w K := ⟨fun _ => False, fun _ _ h => h, h⟩
end

/-! ### Variables among one's own things -/
def En.g (b : Nat) : En := ⟨[b], fun w => b < w.heap.size, fun w w' h hp => (by
    have := h b (by simp) hp
    rcases Nat.lt_or_ge b w'.heap.size with h1 | h1
    · exact h1
    · rw [Array.getElem?_eq_none h1, Array.getElem?_eq_getElem hp] at this; cases this), fun w hp x hx => by simp at hx; subst hx; exact hp, by simp⟩
section
variable {M : Nat → Prop} {w0 w : World} {L D : List En} {bs : List Nat}
theorem LH.ghost (H : LH M w0 w L D) {w' : World} (f : Fr (· ∈ bs) w w') (hbs : ∀ b ∈ bs, En.g b ∈ L) : LH M w0 w' L D := by
  refine ⟨H.fr.trans f fun x hx hm => (H.new _ (hbs x hm) x (by simp [En.g])).resolve_left (by omega), fun e he => ?_, fun e he => ?_, H.new, H.nd, H.dj⟩
  · by_cases hg : ∃ b ∈ bs, b ∈ e.fp
    · obtain ⟨b, hb, hbe⟩ := hg
      obtain ⟨i, hi⟩ := List.mem_iff_getElem?.1 he
      obtain ⟨j, hj⟩ := List.mem_iff_getElem?.1 (hbs b hb)
      have hij : i = j := by
        rcases Nat.decEq i j with h | h
        · exact absurd (by simp [En.g]) (disj_of H.nd hi hj h b hbe)
        · exact h
      subst hij
      rw [hi] at hj
      cases hj
      exact Nat.lt_of_lt_of_le (H.own _ he) f.size
    · exact e.st w w' (fun b hb hl => f.keep b hl fun hm => hg ⟨b, hm, hb⟩) (H.own e he)
  · exact e.st w w' (fun b hb hl => f.keep b hl fun hm => H.dj e he b hb _ (hbs b hm) (by simp [En.g])) (H.rd e he)
theorem LH.locg (H : LH M w0 w L D) {K : World → Prop} (hk : ∀ w1, LH M w0 w1 L D → K w1) (hbs : ∀ b ∈ bs, En.g b ∈ L := by simp) : loc bs w K := fun _ f => hk _ (H.ghost f hbs)
theorem LH.newg (H : LH M w0 w L D) {K : Nat → World → Prop} (hk : ∀ b w1, LH M w0 w1 (L ++ [.g b]) D → K b w1) (hbs : ∀ b ∈ bs, En.g b ∈ L := by simp) : newV bs w K := fun b w1 h1 h2 f => hk b w1 (by
  have H1 := H.ghost f hbs
  refine ⟨H1.fr, fun e he => ?_, H1.rd, fun e he x hx => ?_, ?_, fun e he x hx e' he' hx' => ?_⟩
  · rcases List.mem_append.1 he with he | he
    · exact H1.own e he
    · simp at he; subst he; show b < _; omega
  · rcases List.mem_append.1 he with he | he
    · exact H.new e he x hx
    · simp at he; subst he; simp [En.g] at hx; subst hx; exact .inl (Nat.le_trans H.fr.size h1)
  · rw [List.flatMap_append, List.nodup_append]
    refine ⟨H.nd, by simp [En.g], fun x hx y hy => ?_⟩
    have := H.own_lt x hx
    simp [En.g] at hy
    omega
  · rcases List.mem_append.1 he' with he' | he'
    · exact H.dj e he x hx e' he' hx'
    · simp at he'; subst he'; simp [En.g] at hx'; subst hx'
      have := e.lt w (H.rd e he) x hx
      omega)
theorem LH.callg (H : LH M w0 w L D) {P : Program} {g : FuncId} {args : Array Value} {A K : Post} (hc : Calls P g args w fun r w' => A r w' ∧ Fr0 w w') (hk : ∀ r w', A r w' → LH M w0 w' L D → K r w') : callF bs P g args w K :=
  callF0 (hc.mono fun r w' ⟨ha, f⟩ => ⟨f, hk r w' ha (H.fr0 f)⟩)
/-- the same for a call where nobody watches -/
theorem LH.call (H : LH M w0 w L D) {P : Program} {g : FuncId} {args : Array Value} {A K : Post} (hc : Calls P g args w fun r w' => A r w' ∧ Fr0 w w') (hk : ∀ r w', A r w' → LH M w0 w' L D → K r w') : Calls P g args w K :=
  hc.mono fun r w' ⟨ha, f⟩ => hk r w' ha (H.fr0 f)
/-- a call that returns a row of one's own -/
theorem LH.pushg (H : LH M w0 w L D) {w' : World} (f : Fr0 w w') {e : TypeId} {sz : Nat} {s : Sl} {vs : List Value} (h : OwnRow w' e sz s vs) (hn : ∀ b ∈ blkL s, w.heap.size ≤ b) : LH M w0 w' (L ++ [.row e sz s vs]) D := H.push (.row e sz s vs) f h hn
/-- appending; what becomes of the variables -/
theorem LH.apk (H : LH M w0 w L D) (i : Nat) {P : Program} {t ty e : TypeId} {z : Value} {sz bytes : Nat} (el : ElemOk P t e z sz bytes) {s src : Sl} {xs news : List Value} {K : Sl → World → Prop}
    (hi : L[i]? = some (.row e sz s xs)) (hr : CRow w src news) (hl : news.length = src.n * sz) (h1 : ∀ u ∈ news, u.oneCell' = true) (hb : (s.n + src.n) * bytes ≤ 140737488355328)
    (hK : ∀ s' w', LH M w0 w' (L.set i (.row e sz s' (xs ++ news))) D → s'.n = s.n + src.n → (s'.a = none → s.a = none ∧ src.n = 0) → (∀ b, En.g b ∈ L → w'.heap[b]? = w.heap[b]?) → K s' w') :
    ∃ s' w', (Builtin.append_ #[t, t] ty #[s.v, src.v]).run P w = .ok s'.v w' ∧ K s' w' := by
  obtain ⟨s', w', g1, g2, g3, g4, g5, g6⟩ := append_ownC (ty := ty) el (H.get i hi) hr hl h1 hb
  refine ⟨s', w', g1, hK s' w' (H.upd i (.row e sz s' (xs ++ news)) hi g4 g2 g5) g3 g6 fun b hb => ?_⟩
  refine g4.keep b (H.own _ hb) fun hm => ?_
  obtain ⟨j, hj⟩ := List.mem_iff_getElem?.1 hb
  by_cases hij : i = j
  · subst hij
    rw [hi] at hj
    cases hfp : (En.row e sz s xs) with
    | mk fp P' st lt nd =>
      have e1 : En.row e sz s xs = En.g b := Option.some.inj hj
      have e2 : (En.row e sz s xs).P = (En.g b).P := by rw [e1]
      have e3 := congrFun e2 w
      have e4 : (En.row e sz s xs).P (w.alloc (.cells #[] e)) = (En.g b).P (w.alloc (.cells #[] e)) := by rw [e1]
      have f1 : (En.row e sz s xs).fp = (En.g b).fp := by rw [e1]
      -- a world in which there are blocks, but nothing in them
      have hb0 : (En.g b).P ({ w with heap := Array.replicate (b + 1) (.map #[] 0) }) := by show b < _; simp
      rw [← e2] at hb0
      have hty := (OwnRow.row (show OwnRow ({ w with heap := Array.replicate (b + 1) (.map #[] 0) }) e sz s xs from hb0)).typ b hm
      obtain ⟨cs, f, hc⟩ := hty
      simp at hc
  · exact disj_of H.nd hi hj hij b hm (by simp [En.g])
theorem LH.ap1k (H : LH M w0 w L D) (i : Nat) {P : Program} {t ty e : TypeId} {z : Value} {sz bytes : Nat} (el : ElemOk P t e z sz bytes) {T : TypeId} {s : Sl} {xs : List Value} {news : Array Value} {K : Sl → World → Prop}
    (hi : L[i]? = some (.row e sz s xs)) (hK : ∀ s' w', LH M w0 w' (L.set i (.row e sz s' (xs ++ news.toList))) D → s'.n = s.n + 1 → s'.a ≠ none → (∀ b, En.g b ∈ L → w'.heap[b]? = (w.alloc (.cells news T)).heap[b]?) → K s' w') (hb : (s.n + 1) * bytes ≤ 140737488355328) (hl : news.size = sz := by rfl) (h1 : ∀ u ∈ news.toList, u.oneCell' = true := by simp [Value.oneCell']) :
    nwV w (.cells news T) fun w1 => ∃ s' w', (Builtin.append_ #[t, t] ty #[s.v, .slice (some (Addr.mk w.heap.size 0 none)) 1 1]).run P w1 = .ok s'.v w' ∧ K s' w' := by
  have H1 : LH M w0 (w.alloc (.cells news T)) L D := H.fr0 (Fr.alloc _ _ _)
  refine H1.apk i el (src := ⟨some (at0 w.heap.size), 1, 1⟩) (ty := ty) (K := K) (news := news.toList) hi ((Row.made w T 1 1 news.toList).crow) (by simpa using hl) h1 hb (fun s' w' h hn hnone hk => hK s' w' h hn (fun h0 => by have := (hnone h0).2; simp at this) hk)
end
/-! ### Rows of structs, to read -/
def RdN (sz : Nat) (w : World) (s : Sl) (vs : List Value) : Prop := vs.length = s.n * sz ∧ s.n ≤ s.c ∧ CRow w s vs
theorem RdN.fr {sz : Nat} {M : Nat → Prop} {w w' : World} {s : Sl} {vs : List Value} (h : RdN sz w s vs) (hf : Fr M w w') (hn : ∀ b ∈ blkL s, ¬ M b) : RdN sz w' s vs := ⟨h.1, h.2.1, h.2.2.fr hf hn⟩
theorem RdN.fr0 {sz : Nat} {w w' : World} {s : Sl} {vs : List Value} (h : RdN sz w s vs) (hf : Fr0 w w') : RdN sz w' s vs := h.fr hf fun _ _ h => h
theorem OwnRow.rdn {w : World} {e : TypeId} {sz : Nat} {s : Sl} {vs : List Value} (h : OwnRow w e sz s vs) : RdN sz w s vs := ⟨h.len, h.cap, h.row.crow⟩
theorem RdN.nil (sz : Nat) (w : World) : RdN sz w ⟨none, 0, 0⟩ [] := ⟨by simp, Nat.le_refl _, CRow.nil w⟩
def En.rdn (sz : Nat) (s : Sl) (vs : List Value) : En := ⟨if vs = [] then [] else blkL s, fun w => RdN sz w s vs, fun w w' h hp => by
    refine ⟨hp.1, hp.2.1, hp.2.2.1, fun i v hi => ?_⟩
    obtain ⟨p, ha, hc⟩ := hp.2.2.2 i v hi
    have hne : vs ≠ [] := fun e => by subst e; simp at hi
    rw [if_neg hne] at h
    have := h p.block (by simp [blkL, ha]) (by have := cell_lt hc; rwa [add_block] at this)
    refine ⟨p, ha, ?_⟩
    unfold World.cell? at hc ⊢
    rw [add_block] at hc ⊢
    rw [this]; exact hc, fun w hp b hb => by
    split at hb
    · cases hb
    · rename_i hne
      have h0 : 0 < vs.length := List.length_pos_iff.2 hne
      obtain ⟨p, ha, hc⟩ := hp.2.2.2 0 vs[0] (List.getElem?_eq_getElem h0)
      simp [blkL, ha] at hb
      subst hb
      have := cell_lt hc
      rwa [add_block] at this, by split <;> (try simp); unfold blkL; split <;> simp⟩
def subN (sz : Nat) (s : Sl) (l h : Nat) : Sl := ⟨if s.c = l then s.a else s.a.map (·.add (l * sz)), h - l, s.c - l⟩
theorem RdN.sub {sz : Nat} {w : World} {s : Sl} {vs : List Value} (h : RdN sz w s vs) (l hi : Nat) (hl : l ≤ hi) (hh : hi ≤ s.n) : RdN sz w (subN sz s l hi) ((vs.take (hi * sz)).drop (l * sz)) := by
  obtain ⟨h1, h2, h3, h4⟩ := h
  have e1 : hi * sz ≤ s.n * sz := Nat.mul_le_mul_right _ hh
  refine ⟨?_, ?_, ?_, fun i v hv => ?_⟩
  · rw [List.length_drop, List.length_take, h1, Nat.min_eq_left e1]
    show _ = (hi - l) * sz
    rw [Nat.sub_mul]
  · show hi - l ≤ s.c - l
    omega
  · intro ha
    unfold subN at ha ⊢
    simp only at ha ⊢
    split at ha
    · have := h3 ha; omega
    · cases hs : s.a with
      | none => have := h3 hs; omega
      | some p => rw [hs] at ha; cases ha
  · rw [List.getElem?_drop] at hv
    have hlt : l * sz + i < hi * sz := by
      have := (List.getElem?_eq_some_iff.1 hv).1
      rw [List.length_take] at this
      omega
    rw [List.getElem?_take, if_pos hlt] at hv
    obtain ⟨p, hp, hc⟩ := h4 _ _ hv
    have hne : s.c ≠ l := fun e => by
      have : hi ≤ l := by omega
      have := Nat.mul_le_mul_right sz this
      omega
    refine ⟨p.add (l * sz), ?_, ?_⟩
    · unfold subN
      simp only
      rw [if_neg hne, hp]
      rfl
    · rw [add_add]; exact hc
/-! ### Many things at once, and what a call returns -/
def nub : List Nat → List Nat
  | [] => []
  | a :: l => if a ∈ nub l then nub l else a :: nub l
theorem mem_nub {x : Nat} : ∀ {l : List Nat}, x ∈ nub l ↔ x ∈ l
  | [] => Iff.rfl
  | a :: l => by
    unfold nub
    split
    · rename_i h
      rw [mem_nub, List.mem_cons]
      exact ⟨.inr, fun h' => h'.elim (fun e => by subst e; exact mem_nub.1 h) id⟩
    · rw [List.mem_cons, List.mem_cons, mem_nub]
theorem nub_nodup : ∀ l : List Nat, (nub l).Nodup
  | [] => .nil
  | a :: l => by
    unfold nub
    split
    · exact nub_nodup l
    · rename_i h
      exact List.nodup_cons.2 ⟨h, nub_nodup l⟩
def En.all (es : List En) : En := ⟨nub (es.flatMap (·.fp)), fun w => ∀ e ∈ es, e.P w, fun w w' h hp e he => e.st w w' (fun b hb hl => h b (mem_nub.2 (List.mem_flatMap.2 ⟨e, he, hb⟩)) hl) (hp e he),
  fun w hp b hb => (by
    obtain ⟨e, he, hbe⟩ := List.mem_flatMap.1 (mem_nub.1 hb)
    exact e.lt w (hp e he) b hbe), nub_nodup _⟩
section
variable {M : Nat → Prop} {w0 w : World} {L D : List En} {bs : List Nat}
/-- what is new can be kept, or be there to read -/
structure Fresh (M : Nat → Prop) (w0 w w' : World) (L D : List En) : Prop where
  own : ∀ e : En, e.P w' → (∀ b ∈ e.fp, w.heap.size ≤ b) → LH M w0 w' (L ++ [e]) D
  rd : ∀ e : En, e.P w' → (∀ b ∈ e.fp, w.heap.size ≤ b) → LH M w0 w' L (D ++ [e])
theorem LH.fresh (H : LH M w0 w L D) {w' : World} (f : Fr0 w w') : Fresh M w0 w w' L D := ⟨fun e h1 h2 => H.push e f h1 h2, fun e h1 h2 => H.addD e f h1 fun b hb => .inl (h2 b hb)⟩
theorem LH.callr (H : LH M w0 w L D) {P : Program} {g : FuncId} {args : Array Value} {A K : Post} (hc : Calls P g args w fun r w' => A r w' ∧ Fr0 w w') (hk : ∀ r w', A r w' → LH M w0 w' L D → Fresh M w0 w w' L D → K r w') : callF bs P g args w K :=
  callF0 (hc.mono fun r w' ⟨ha, f⟩ => ⟨f, hk r w' ha (H.fr0 f) (H.fresh f)⟩)
theorem LH.callq (H : LH M w0 w L D) {P : Program} {g : FuncId} {args : Array Value} {A K : Post} (hc : Calls P g args w fun r w' => A r w' ∧ Fr0 w w') (hk : ∀ r w', A r w' → LH M w0 w' L D → Fresh M w0 w w' L D → K r w') : Calls P g args w K :=
  hc.mono fun r w' ⟨ha, f⟩ => hk r w' ha (H.fr0 f) (H.fresh f)
end
theorem rdn_fp {sz : Nat} {s : Sl} {vs : List Value} {n : Nat} (h : ∀ b ∈ blkL s, n ≤ b) : ∀ b ∈ (En.rdn sz s vs).fp, n ≤ b := fun b hb => by
  have : b ∈ (if vs = [] then [] else blkL s) := hb
  split at this
  · cases this
  · exact h b this
section
variable {M : Nat → Prop} {w0 w : World} {L D : List En} {bs : List Nat}
theorem LH.apT (H : LH M w0 w L D) (i : Nat) {P : Program} {t ty e : TypeId} {z : Value} {sz bytes : Nat} (el : ElemOk P t e z sz bytes) {s src : Sl} {xs news : List Value} {K : Sl → World → Prop}
    (hi : L[i]? = some (.row e sz s xs)) (hr : RdN sz w src news) (h1 : ∀ u ∈ news, u.oneCell' = true) (hb : (s.n + src.n) * bytes ≤ 140737488355328)
    (hK : ∀ s' w', LH M w0 w' (L.set i (.row e sz s' (xs ++ news))) D → K s' w') (hbs : ∀ b ∈ bs, En.g b ∈ L := by simp) :
    ∃ s' w', (Builtin.append_ #[t, t] ty #[s.v, src.v]).run P w = .ok s'.v w' ∧ kept bs w w' ∧ K s' w' :=
  H.apk i el (K := fun s' w' => kept bs w w' ∧ K s' w') hi hr.2.2 hr.1 h1 hb fun s' w' h _ _ hk => ⟨fun b hb' => hk b (hbs b hb'), hK s' w' h⟩
theorem LH.ap1T (H : LH M w0 w L D) (i : Nat) {P : Program} {t ty e : TypeId} {z : Value} {sz bytes : Nat} (el : ElemOk P t e z sz bytes) {T : TypeId} {s : Sl} {xs : List Value} {news : Array Value} {K : Sl → World → Prop}
    (hi : L[i]? = some (.row e sz s xs)) (hK : ∀ s' w', LH M w0 w' (L.set i (.row e sz s' (xs ++ news.toList))) D → K s' w') (hb : (s.n + 1) * bytes ≤ 140737488355328) (hl : news.size = sz := by rfl) (h1 : ∀ u ∈ news.toList, u.oneCell' = true := by simp [Value.oneCell']) (hbs : ∀ b ∈ bs, En.g b ∈ L := by simp) :
    nwV w (.cells news T) fun w1 => ∃ s' w', (Builtin.append_ #[t, t] ty #[s.v, .slice (some (Addr.mk w.heap.size 0 none)) 1 1]).run P w1 = .ok s'.v w' ∧ kept bs w1 w' ∧ K s' w' := by
  have H1 : LH M w0 (w.alloc (.cells news T)) L D := H.fr0 (Fr.alloc _ _ _)
  exact H1.apT i el (src := ⟨some (at0 w.heap.size), 1, 1⟩) (ty := ty) (K := K) (news := news.toList) hi ⟨by simpa using hl, Nat.le_refl _, (Row.made w T 1 1 news.toList).crow⟩ h1 hb hK hbs
end
end Go.W
