/- More about things of one's own. No program in sight. -/
import Derived.Test.YtknlbofiicflgaaGreatY
namespace Go.W

/-! ### Writing into a row of structs of one's own -/
theorem own_set {w : World} {e : TypeId} {sz : Nat} {s : Sl} {vs : List Value} (h : OwnRow w e sz s vs) (i : Nat) (hi : i < vs.length) (v : Value) :
    ∃ p, s.a = some p ∧ p.block ∈ blkL s ∧ (w.cell? (p.add i)).isSome = true ∧ w.frozen? (p.add i) = false ∧ OwnRow (w.setCell (p.add i) v) e sz s (vs.set i v) ∧ Fr (· ∈ blkL s) w (w.setCell (p.add i) v) := by
  have hl := h.len
  rcases h.cases with ⟨rfl, rfl⟩ | ⟨g, cur, ha, hg, h1, h2, h3, h4⟩
  · simp at hi
  · have hle : s.n * sz ≤ s.c * sz := Nat.mul_le_mul_right _ h1
    have hsz : i < cur.size := by omega
    have hb : g ∈ blkL s := by simp [blkL, ha]
    refine ⟨⟨g, 0, none⟩, ha, hb, ?_, frozenAt (p := ⟨g, 0, none⟩) hg, ?_, Fr.set _ _ _ (by rw [add_block]; exact hb)⟩
    · rw [cellAt (p := ⟨g, 0, none⟩) (v := cur[i]) hg rfl (by simp [hsz])]; rfl
    · refine ⟨by simpa using h.1, .inr ⟨g, s.c, cur.setIfInBounds i v, ?_, Nat.zero_le _, ?_, h1, h2, by simpa using h3, ?_⟩⟩
      · obtain ⟨a, n, c⟩ := s
        simp only at ha
        subst ha; rfl
      · have := setAt (p := ⟨g, 0, none⟩) (i := i) (v := v) hg rfl
        simpa using this
      · rw [Array.toList_setIfInBounds, List.take_set, h4]
section
variable {M : Nat → Prop} {w0 w : World} {L D : List En} {bs : List Nat}
theorem LH.ghost_ne (H : LH M w0 w L D) {i : Nat} {e : TypeId} {sz : Nat} {s : Sl} {xs : List Value} (hi : L[i]? = some (.row e sz s xs)) {b : Nat} (hb : En.g b ∈ L) : b ∉ blkL s := fun hm => by
  obtain ⟨j, hj⟩ := List.mem_iff_getElem?.1 hb
  by_cases hij : i = j
  · subst hij
    rw [hi] at hj
    have e1 : En.row e sz s xs = En.g b := Option.some.inj hj
    have e2 : (En.row e sz s xs).P = (En.g b).P := by rw [e1]
    have hb0 : (En.g b).P ({ w with heap := Array.replicate (b + 1) (.map #[] 0) }) := by show b < _; simp
    rw [← e2] at hb0
    obtain ⟨cs, f, hc⟩ := (OwnRow.row (show OwnRow ({ w with heap := Array.replicate (b + 1) (.map #[] 0) }) e sz s xs from hb0)).typ b hm
    simp at hc
  · exact disj_of H.nd hi hj hij b hm (by simp [En.g])
theorem LH.strow (H : LH M w0 w L D) (i a c : Nat) {e : TypeId} {sz : Nat} {s : Sl} {xs : List Value} {v : Value} {p : Addr} {K : World → Prop} (hi : L[i]? = some (.row e sz s xs)) (hp : s.a = some p) (hj : a + c < xs.length)
    (hK : ∀ w', LH M w0 w' (L.set i (.row e sz s (xs.set (a + c) v))) D → K w') (hbs : ∀ b ∈ bs, En.g b ∈ L := by simp) : stV w ((p.add a).add c) v fun w1 => kept bs w w1 ∧ K w1 := by
  obtain ⟨q, hq, hqb, x1, x2, x3, x4⟩ := own_set (H.get i hi) (a + c) hj v
  rw [hp] at hq
  cases hq
  rw [add_add]
  refine ⟨x1, x2, fun b hb => ?_, hK _ (H.upd i (.row e sz s (xs.set (a + c) v)) hi x4 x3 (fun b hb => .inl hb))⟩
  exact x4.keep b (H.own _ (hbs b hb)) fun hm => H.ghost_ne hi (hbs b hb) hm
end
/-- something new of one's own, and something new to read -/
theorem LH.push2 {M : Nat → Prop} {w0 w w' : World} {L D : List En} (H : LH M w0 w L D) (e d : En) (f : Fr0 w w') (he : e.P w') (hd : d.P w') (hn : ∀ b ∈ e.fp, w.heap.size ≤ b ∧ b ∉ d.fp) (hn' : ∀ b ∈ d.fp, w.heap.size ≤ b) : LH M w0 w' (L ++ [e]) (D ++ [d]) := by
  have H1 := H.push e f he fun b hb => (hn b hb).1
  refine ⟨H1.fr, H1.own, fun g hg => ?_, H1.new, H1.nd, fun g hg b hb g' hg' hb' => ?_⟩
  · rcases List.mem_append.1 hg with hg | hg
    · exact H1.rd g hg
    · simp at hg; subst hg; exact hd
  · rcases List.mem_append.1 hg with hg | hg
    · exact H1.dj g hg b hb g' hg' hb'
    · simp at hg; subst hg
      rcases List.mem_append.1 hg' with hg' | hg'
      · have := g'.lt w (H.own g' hg') b hb'
        have := hn' b hb
        omega
      · simp at hg'; subst hg'
        exact (hn b hb').2 hb
/-- some of the things of one's own -/
def sieve : List Bool → List En → List En
  | true :: m, a :: l => a :: sieve m l
  | false :: m, _ :: l => sieve m l
  | _, _ => []
theorem sieve_sub : ∀ (m : List Bool) (l : List En), (sieve m l).Sublist l
  | [], l => by unfold sieve; exact List.nil_sublist _
  | true :: m, [] => by unfold sieve; exact List.nil_sublist _
  | false :: m, [] => by unfold sieve; exact List.nil_sublist _
  | true :: m, a :: l => by unfold sieve; exact (sieve_sub m l).cons_cons a
  | false :: m, a :: l => by unfold sieve; exact (sieve_sub m l).cons a
theorem sub_flat {α β : Type} {f : α → List β} {l m : List α} (h : l.Sublist m) : (l.flatMap f).Sublist (m.flatMap f) := by
  induction h with
  | slnil => exact List.Sublist.refl _
  | cons a _ ih => rw [List.flatMap_cons]; exact ih.trans (List.sublist_append_right _ _)
  | cons_cons a _ ih => rw [List.flatMap_cons, List.flatMap_cons]; exact (List.Sublist.refl _).append ih
theorem LH.sieve {M : Nat → Prop} {w0 w : World} {L D : List En} (H : LH M w0 w L D) (m : List Bool) : LH M w0 w (sieve m L) D :=
  ⟨H.fr, fun e he => H.own e ((sieve_sub m L).subset he), H.rd, fun e he => H.new e ((sieve_sub m L).subset he), (sub_flat (sieve_sub m L)).nodup H.nd, fun e he b hb e' he' => H.dj e he b hb e' ((sieve_sub m L).subset he')⟩
theorem rd_fp {s : Sl} {vs : List Value} {n : Nat} (h : ∀ b ∈ blkL s, n ≤ b) : ∀ b ∈ (En.rd s vs).fp, n ≤ b := fun b hb => by
  have : b ∈ (if vs = [] then [] else blkL s) := hb
  split at this
  · cases this
  · exact h b this
/-- a thing that is more than a place -/
theorem ghost_off {M : Nat → Prop} {w0 w : World} {L D : List En} (H : LH M w0 w L D) {i : Nat} {e : En} (hi : L[i]? = some e) (hno : ∀ (b : Nat), ¬ e.P ({ w with heap := Array.replicate (b + 1) (.map #[] 0) })) {b : Nat} (hb : En.g b ∈ L) : b ∉ e.fp := by
  obtain ⟨j, hj⟩ := List.mem_iff_getElem?.1 hb
  by_cases hij : i = j
  · subst hij
    rw [hi] at hj
    have e1 : e = En.g b := Option.some.inj hj
    exfalso
    refine hno b ?_
    rw [e1]
    show b < _
    simp
  · intro hm
    exact disj_of H.nd hi hj hij b hm (by simp [En.g])
end Go.W
