/- Package wire: the contracts of a Reader's other methods. -/
import Derived.Test.YtjjhfdjpmonlaaaRD
namespace Go.Proofs.Ytjjhfdjpmonlaaa
open Go Go.W

theorem rdU_lt (st : RS) : (rdU st).1 < 18446744073709551616 := by
  unfold rdU
  split
  · simp
  · split
    · simp
    · simp
    · rename_i n r h
      have := (decU_back 9 0 _ _ _ rfl h).2.1
      simpa using this
theorem unzz_word (u : Nat) (h : u < 18446744073709551616) : W.bXor .i64 (IntKind.wrap .i64 (Int.fdiv (u : Int) (2 ^ 1))) (IntKind.wrap .i64 (0 - (IntKind.wrap .i64 (W.bAnd .u64 (u : Int) 1)))) = unzz u := by
  have e1 : W.bAnd .u64 (u : Int) 1 = ((u % 2 : Nat) : Int) := by
    have := bAnd_nat u 1 h (by omega)
    rw [Nat.and_one_is_mod] at this
    exact this
  rw [e1, show ((2 : Int) ^ 1) = ((2 : Nat) : Int) from rfl, fdiv_nat u 2 (by omega), IntWalk.i64_in ((u / 2 : Nat) : Int) (by omega), IntWalk.i64_in ((u % 2 : Nat) : Int) (by omega)]
  unfold unzz
  split
  · rename_i h0
    rw [h0, IntWalk.i64_in _ (by omega)]
    exact bXor_i64_zero _ (by omega)
  · rename_i h0
    rw [show u % 2 = 1 by omega, IntWalk.i64_in _ (by omega)]
    exact bXor_i64_ones _ (by omega)
theorem r_int {w : World} {rb : Nat} {st : RS} {fp : List Nat} (h : RdRep w rb st fp) :
    Calls Try.prog n_wire_Reader_Int #[.pointer (some (at0 rb))] w (RdPost w rb fp (.int .i64 (rdI st).1) (rdI st).2) := by
  refine wire_Reader_Int.ok _ w _ ?_
  refine (r_uint h).mono ?_
  rintro r w1 ⟨rfl, h1⟩
  refine ⟨_, rfl, ?_⟩
  unfold wire_Reader_Int.S2
  rw [unzz_word _ (rdU_lt st)]
  exact ⟨rfl, h1⟩
theorem r_end {w : World} {rb : Nat} {st : RS} {fp : List Nat} (h : RdRep w rb st fp) :
    Calls Try.prog n_wire_Reader_End #[.pointer (some (at0 rb))] w fun r w' => r = .returned (.int .i64 (rdEnd st)) ∧ Fr0 w w' := by
  obtain ⟨s, all, k, rfl, h1, h2, h3, h4, h5⟩ := h
  have fd : Fr0 w w.drew := Fr.drew _ w
  have h1d := fd.at h1 id
  have hn : s.n = all.length := by simpa using h2.1
  have hl : st.bs.length = all.length - k := by rw [← h4]; simp
  refine wire_Reader_End.ok _ w _ ?_
  unfold rdEnd
  refine ⟨_, rd_c2 h1, sel_intro (fun he => ?_) (fun he => ?_)⟩
  · have he' : st.err ≠ 0 := by simpa using he
    rw [if_pos he']
    exact ⟨_, rd_c2 h1, rfl, Fr.refl _ _⟩
  · have he' : st.err = 0 := by simpa using he
    rw [if_neg (by simp [he'])]
    refine ⟨_, rd_c1 h1d, _, rd_c0 h1d, sel_intro (fun hl' => ?_) (fun hl' => ?_)⟩
    · have := of_decide_eq_true hl'
      rw [if_pos (by omega)]; exact ⟨rfl, fd⟩
    · have := of_decide_eq_false hl'
      rw [if_neg (by omega)]; exact ⟨rfl, fd⟩
theorem r_one {w : World} {rb : Nat} {c : UInt8} {l : List UInt8} {e : Int} {fp : List Nat} (h : RdRep w rb ⟨c :: l, e⟩ fp) :
    Calls Try.prog n_wire_Reader_one #[.pointer (some (at0 rb))] w (RdPost w rb fp (.int .u8 (c.toNat : Int)) ⟨l, e⟩) := by
  obtain ⟨s, all, k, rfl, h1, h2, h3, h4, h5⟩ := h
  simp only at h1 h4
  have fd : Fr0 w w.drew := Fr.drew _ w
  have h1d := fd.at h1 id
  have hn : s.n = all.length := by simpa using h2.1
  have hlt : k < all.length := by
    by_cases hk : k < all.length
    · exact hk
    · rw [List.drop_of_length_le (by omega)] at h4; cases h4
  rw [List.drop_eq_getElem_cons hlt] at h4
  injection h4 with h6 h7
  have hg : all[k]? = some c := by rw [List.getElem?_eq_getElem hlt, h6]
  refine wire_Reader_one.ok _ w _ ?_
  refine ⟨_, rd_c0 h1d, _, rd_c1 h1d, by omega, by rw [hn]; omega, Bytes.cell (h2.fr0 fd).rd hg (by rw [Int.toNat_natCast]) fun q _ hq => ⟨_, hq, ?_⟩⟩
  obtain ⟨a1, a2, a3, a4⟩ := rd_at h1d (h2.fr0 fd) h5 (k + 1) (by omega) (IntKind.wrap .i64 ((k : Int) + 1)) (i64_next k (by omega))
  rw [h7] at a3
  exact ⟨_, rd_c1 h1d, a1, a2, rfl, a3, fd.of0.trans a4 fun _ _ h => h⟩
theorem r_read {w : World} {s : Sl} {bs : List UInt8} (hb : Bytes w s bs) (hl : bs.length ≤ 1000000000000) :
    Calls Try.prog n_wire_Read #[s.v] w fun r w' => ∃ rb fp, r = .returned (.pointer (some (at0 rb))) ∧ RdRep w' rb ⟨bs, 0⟩ fp ∧ Fr0 w w' ∧ ∀ x ∈ fp, w.heap.size ≤ x := by
  refine wire_Read.ok _ w _ ((clone_bytes s bs w hb (by omega)).mono ?_)
  rintro r w1 ⟨s', rfl, h1, f1, n1⟩
  have f2 : Fr0 w1 (w1.alloc (.cells #[s'.v, .int .i64 0, .int .i64 0] ty_wire_Reader)) := Fr.alloc _ _ _
  refine ⟨s', rfl, w1.heap.size, w1.heap.size :: blkL s', rfl, ⟨s', bs, 0, rfl, heap_new _ _, h1.fr0 f2, Nat.zero_le _, rfl, hl⟩, f1.tr0 f2, ?_⟩
  intro x hx
  rcases List.mem_cons.1 hx with rfl | hx
  · exact f1.size
  · exact n1 x hx
end Go.Proofs.Ytjjhfdjpmonlaaa
