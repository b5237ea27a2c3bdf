/- Package wire: the contracts of Raw, Text and Ints of a Reader. -/
import Derived.Test.YtemagdpieebjlaaRE
namespace Go.Proofs.Ytemagdpieebjlaa
open Go Go.W

/-- after a method whose result is a new row -/
def RdNew (w : World) (rb : Nat) (fp : List Nat) (e : TypeId) (vs : List Value) (st : RS) : Post := fun r w' => ∃ s : Sl, r = .returned s.v ∧ Ow w' e s vs ∧ RdRep w' rb st fp ∧ Fr (· = rb) w w' ∧ ∀ x ∈ blkL s, w.heap.size ≤ x
theorem rdU_small {st : RS} {N : Nat} (h : st.bs.length ≤ N) : (rdU st).2.bs.length ≤ N := by
  unfold rdU
  split
  · exact h
  · split
    · exact h
    · exact h
    · rename_i n r hd
      have := (decU_back 9 0 _ _ _ rfl hd).1
      rw [this] at h
      simp at h ⊢
      omega

theorem rd_e {w : World} {rb : Nat} {st : RS} {fp : List Nat} (h : RdRep w rb st fp) : w.cell? ((at0 rb).add 2) = some (.int .i64 st.err) := by obtain ⟨s, all, k, rfl, g1, _⟩ := h; exact rd_c2 g1
/-- the length of a list is looked at -/
theorem rd_room {w : World} {rb : Nat} {st : RS} {fp : List Nat} (h : RdRep w rb st fp) (n : Nat) (K : Sl → Int → Prop) (hK : ∀ (s : Sl) (k : Int), w.cell? ((at0 rb).add 0) = some s.v → w.cell? ((at0 rb).add 1) = some (.int .i64 k) → IntKind.wrap .u64 (IntKind.wrap .i64 (((s.n : Nat) : Int) - k)) = (st.bs.length : Int) → K s k) : ∃ s k, K s k := by
  obtain ⟨s, all, k, rfl, h1, h2, h3, h4, h5⟩ := h
  have hn : s.n = all.length := by simpa using h2.1
  have hl : st.bs.length = all.length - k := by rw [← h4]; simp
  refine ⟨s, k, hK s k (rd_c0 h1) (rd_c1 h1) ?_⟩
  rw [IntWalk.i64_in _ (by omega), IntWalk.u64_in _ (by omega)]
  omega
/-! ### Ints -/
theorem list_int_loop {w0 : World} {rb : Nat} {fp : List Nat} (hfp : ∀ b ∈ fp, b < w0.heap.size) (hrb : rb ∈ fp) (n : Nat) (hn : n ≤ 1000000000000) (R : Post) :
    ∀ (d i : Nat), i + d = n → ∀ (w : World) (l : Sl) (xs : List Int) (st : RS), xs.length = i → st.err = 0 → Fr (· = rb) w0 w → RdRep w rb st fp → NumsO w l xs → (∀ x ∈ blkL l, w0.heap.size ≤ x) →
      (∀ r w', RdNew w0 rb fp ty_int ((if (rdMany d st).2.err ≠ 0 then [] else xs ++ (rdMany d st).1).map intV) (rdMany d st).2 r w' → R r w') →
      wire_list_int.L9 (at0 rb) (at0 rb) l (n : Int) (i : Int) w R := by
  intro d
  induction d with
  | zero =>
    intro i hi w l xs st hxs he F h hl hx hR
    obtain rfl : i = n := by omega
    refine wire_list_int.L9_step _ _ _ _ _ _ _ (sel_false (decide_eq_false (by omega)) (hR _ _ ⟨l, rfl, ?_, h, F, hx⟩))
    simpa [rdMany, he] using hl
  | succ d ih =>
    intro i hi w l xs st hxs he F h hl hx hR
    refine wire_list_int.L9_step _ _ _ _ _ _ _ (sel_true (decide_eq_true (by omega)) ?_)
    refine (r_int h).mono ?_
    rintro r w1 ⟨rfl, h1, f1⟩
    have hl1 := hl.fr f1 fun b hb e => by have := hx b hb; have := hfp rb hrb; omega
    have F1 : Fr (· = rb) w0 w1 := F.trans f1 fun _ _ h => h
    refine ⟨_, rfl, _, rd_e h1, ?_⟩
    simp only [rdMany] at hR
    generalize rdI st = q at *
    obtain ⟨x, st1⟩ := q
    simp only at *
    refine sel_intro (fun he1 => ?_) (fun he1 => ?_)
    · have he' : st1.err ≠ 0 := by simpa using he1
      simp only [if_pos he'] at hR
      exact hR _ _ ⟨⟨none, 0, 0⟩, rfl, Ow.nil _ _, h1, F1, by simp [blkL]⟩
    · have he' : st1.err = 0 := by simpa using he1
      simp only [if_neg (show ¬ st1.err ≠ 0 by simp [he'])] at hR
      have f2 : Fr0 w1 (w1.alloc (.cells #[.int .i64 x] ty_int)) := Fr.alloc _ _ _
      obtain ⟨l', w2, g1, g2, g3, g4, _⟩ := append_nums (ty := ty_sl_int) (hl1.fr0 f2) (one_num w1 x) (by simp; omega)
      refine ⟨l', w2, g1, ?_⟩
      show wire_list_int.L9 (at0 rb) (at0 rb) l' (n : Int) (IntKind.wrap .u64 ((i : Int) + 1)) w2 R
      rw [show IntKind.wrap .u64 ((i : Int) + 1) = ((i + 1 : Nat) : Int) from by rw [IntWalk.u64_in _ (by omega)]; omega]
      have hs1 := F1.size
      have hs2 := f2.size
      refine ih (i + 1) (by omega) w2 l' _ st1 (by simp [hxs]) he' ((F1.tr0 f2).trans g3 fun x hx' hm => by have := hx x hm; omega) ((h1.fr0 f2).fr g3 fun b hb hm => by have := hx b hm; have := hfp b hb; omega) g2 (fun x hx' => ?_) fun r w' hr => hR r w' ?_
      · rcases g4 x hx' with h | h
        · exact hx x h
        · omega
      · by_cases hm : (rdMany d st1).2.err ≠ 0
        · simp only [if_pos hm] at hr ⊢; exact hr
        · simp only [if_neg hm, List.append_assoc, List.singleton_append] at hr ⊢; exact hr
theorem list_int {w : World} {rb : Nat} {st : RS} {fp : List Nat} (h : RdRep w rb st fp) :
    Calls Try.prog n_wire_list_int #[.pointer (some (at0 rb)), .func (.func n_wire_Reader_Int) #[.pointer (some (at0 rb))] #[]] w (RdNew w rb fp ty_int ((rdInts st).1.map intV) (rdInts st).2) := by
  refine wire_list_int.ok _ _ w _ ((r_uint h).mono ?_)
  rintro r w1 ⟨rfl, h1, f1⟩
  refine ⟨_, rfl, _, rd_e h1, ?_⟩
  unfold rdInts rdLen
  generalize hq : rdU st = q at *
  obtain ⟨n, st1⟩ := q
  have hlt := rdU_lt st
  have hsm := h1.small
  rw [hq] at hlt
  simp only at *
  refine sel_intro (fun he => ?_) (fun he => ?_)
  · have he' : st1.err ≠ 0 := by simpa using he
    simp only [if_pos he']
    exact ⟨⟨none, 0, 0⟩, rfl, Ow.nil _ _, h1, f1, by simp [blkL]⟩
  · have he' : st1.err = 0 := by simpa using he
    simp only [if_neg (show ¬ st1.err ≠ 0 by simp [he'])]
    have fd : Fr0 w1 w1.drew := Fr.drew _ _
    have hd := h1.fr0 fd
    obtain ⟨s, all, k, rfl, b1, b2, b3, b4, b5⟩ := hd
    have hn : s.n = all.length := by simpa using b2.1
    have hl : st1.bs.length = all.length - k := by rw [← b4]; simp
    refine ⟨s, rd_c0 b1, (k : Int), rd_c1 b1, ?_⟩
    have ew : IntKind.wrap .u64 (IntKind.wrap .i64 (((s.n : Nat) : Int) - (k : Int))) = (st1.bs.length : Int) := by rw [IntWalk.i64_in _ (by omega), IntWalk.u64_in _ (by omega)]; omega
    rw [ew]
    refine sel_intro (fun hg => ?_) (fun hg => ?_)
    · have hg' := of_decide_eq_true hg
      simp only [if_pos (show st1.bs.length < n by omega)]
      obtain ⟨a1, a2, a3, a4⟩ := rd_err b1 b2 b3 b5 3
      rw [b4] at a3
      rw [if_pos (show (3 : Int) ≠ 0 by decide)]
      exact ⟨a1, a2, ⟨none, 0, 0⟩, rfl, Ow.nil _ _, a3, f1.trans (fd.of0.trans a4 fun _ _ h => h) fun _ _ h => h, by simp [blkL]⟩
    · have hg' := of_decide_eq_false hg
      simp only [if_neg (show ¬ st1.bs.length < n by omega), if_neg (show ¬ st1.err ≠ 0 by simp [he'])]
      obtain ⟨w2, g1, g2, g3⟩ := make_own el_ints w1.drew .i64 .u64 n (by omega)
      refine ⟨⟨some ⟨w1.drew.heap.size, 0, none⟩, 0, n⟩, w2, g1, ?_⟩
      have fa : Fr0 w1 w2 := fd.tr0 g3
      have h2 := h1.fr0 fa
      refine list_int_loop (w0 := w) (rb := rb) (fp := rb :: blkL s) h.lt h.mem n (by omega) _ n 0 (by omega) w2 _ [] st1 rfl he' (f1.tr0 fa) h2 g2 ?_ ?_
      · intro x hx
        simp [blkL] at hx
        have := f1.size
        have := fd.size
        omega
      · intro r w' hr
        have e : (if (rdMany n st1).2.err ≠ 0 then [] else [] ++ (rdMany n st1).1) = (rdMany n st1).1 := by
          by_cases hm : (rdMany n st1).2.err ≠ 0
          · rw [if_pos hm]
            cases n with
            | zero => rfl
            | succ n =>
              simp only [rdMany] at hm ⊢
              by_cases h1 : (rdI st1).2.err ≠ 0
              · simp only [if_pos h1]
              · simp only [if_neg h1] at hm ⊢
                by_cases h2 : (rdMany n (rdI st1).2).2.err ≠ 0
                · simp only [if_pos h2]
                · simp only [if_neg h2] at hm; exact absurd hm h2
          · rw [if_neg hm]; rfl
        rw [e] at hr
        exact hr
theorem r_ints {w : World} {rb : Nat} {st : RS} {fp : List Nat} (h : RdRep w rb st fp) :
    Calls Try.prog n_wire_Reader_Ints #[.pointer (some (at0 rb))] w (RdNew w rb fp ty_int ((rdInts st).1.map intV) (rdInts st).2) := by
  refine wire_Reader_Ints.ok _ w _ ((list_int h).mono ?_)
  rintro r w1 ⟨s, rfl, h1⟩
  exact ⟨s, rfl, s, rfl, h1⟩
end Go.Proofs.Ytemagdpieebjlaa
