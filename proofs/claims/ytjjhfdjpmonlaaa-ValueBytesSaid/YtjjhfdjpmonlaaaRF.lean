/- Package wire: the contracts of Raw, Text and Ints of a Reader. -/
import Derived.Test.YtjjhfdjpmonlaaaRE
namespace Go.Proofs.Ytjjhfdjpmonlaaa
open Go Go.W

/-- after a method whose result is a new row -/
def RdNew (w : World) (rb : Nat) (fp : List Nat) (e : TypeId) (vs : List Value) (st : RS) : Post := fun r w' => ∃ s : Sl, r = .returned s.v ∧ Ow w' e s vs ∧ RdRep w' rb st fp ∧ Fr (· = rb) w w' ∧ ∀ x ∈ blkL s, w.heap.size ≤ x
theorem rdU_small {st : RS} {N : Nat} (h : st.bs.length ≤ N) : (rdU st).2.bs.length ≤ N := by
  unfold rdU
  split
  · exact h
  · split
    · exact h
    · exact h
    · rename_i n r hd
      have := (decU_back 9 0 _ _ _ rfl hd).1
      rw [this] at h
      simp at h ⊢
      omega

/-! ### Raw -/
theorem list_byte_loop {w0 : World} {rb : Nat} {fp : List Nat} (hfp : ∀ b ∈ fp, b < w0.heap.size) (hrb : rb ∈ fp) (n : Nat) (bs : List UInt8) (hn : n ≤ bs.length) (hbl : bs.length ≤ 1000000000000) (R : Post)
    (hR : ∀ r w', RdNew w0 rb fp ty_uint8 ((bs.take n).map byteV) ⟨bs.drop n, 0⟩ r w' → R r w') :
    ∀ (d i : Nat), i + d = n → ∀ (w : World) (l : Sl), Fr (· = rb) w0 w → RdRep w rb ⟨bs.drop i, 0⟩ fp → BytesO w l (bs.take i) → (∀ x ∈ blkL l, w0.heap.size ≤ x) →
      wire_list_byte.L9 (at0 rb) (at0 rb) l (n : Int) (i : Int) w R := by
  intro d
  induction d with
  | zero =>
    intro i hi w l F h hl hx
    obtain rfl : i = n := by omega
    refine wire_list_byte.L9_step _ _ _ _ _ _ _ (sel_false (decide_eq_false (by omega)) (hR _ _ ⟨l, rfl, hl, h, F, hx⟩))
  | succ d ih =>
    intro i hi w l F h hl hx
    have hlt : i < bs.length := by omega
    refine wire_list_byte.L9_step _ _ _ _ _ _ _ (sel_true (decide_eq_true (by omega)) ?_)
    rw [List.drop_eq_getElem_cons hlt] at h
    refine (r_one h).mono ?_
    rintro r w1 ⟨rfl, h1, f1⟩
    have hl1 := hl.fr f1 fun b hb e => by have := hx b hb; have := hfp rb hrb; omega
    refine ⟨_, rfl, ?_⟩
    have hc : w1.cell? ((at0 rb).add 2) = some (.int .i64 0) := by obtain ⟨s, all, k, rfl, g1, _⟩ := h1; exact rd_c2 g1
    refine ⟨_, hc, sel_false rfl ?_⟩
    have F1 : Fr (· = rb) w0 w1 := F.trans f1 fun _ _ h => h
    have f2 : Fr0 w1 (w1.alloc (.cells #[.int .u8 (bs[i].toNat : Int)] ty_uint8)) := Fr.alloc _ _ _
    obtain ⟨l', w2, g1, g2, g3, g4, _⟩ := append_bytes (ty := ty_sl_uint8) (hl1.fr0 f2) (one_byte w1 bs[i]) (by simp; omega)
    refine ⟨l', w2, g1, ?_⟩
    show wire_list_byte.L9 (at0 rb) (at0 rb) l' (n : Int) (IntKind.wrap .u64 ((i : Int) + 1)) w2 R
    rw [show IntKind.wrap .u64 ((i : Int) + 1) = ((i + 1 : Nat) : Int) from by rw [IntWalk.u64_in _ (by omega)]; omega]
    have hs1 := F1.size
    have hs2 := f2.size
    refine ih (i + 1) (by omega) w2 l' ((F1.tr0 f2).trans g3 fun x hx' hm => by have := hx x hm; omega) ((h1.fr0 f2).fr g3 fun b hb hm => by have := hx b hm; have := hfp b hb; omega) ?_ fun x hx' => ?_
    · rw [List.take_add_one, List.getElem?_eq_getElem hlt]; exact g2
    · rcases g4 x hx' with h | h
      · exact hx x h
      · omega
theorem rd_e {w : World} {rb : Nat} {st : RS} {fp : List Nat} (h : RdRep w rb st fp) : w.cell? ((at0 rb).add 2) = some (.int .i64 st.err) := by obtain ⟨s, all, k, rfl, g1, _⟩ := h; exact rd_c2 g1
/-- the length of a list is looked at -/
theorem rd_room {w : World} {rb : Nat} {st : RS} {fp : List Nat} (h : RdRep w rb st fp) (n : Nat) (K : Sl → Int → Prop) (hK : ∀ (s : Sl) (k : Int), w.cell? ((at0 rb).add 0) = some s.v → w.cell? ((at0 rb).add 1) = some (.int .i64 k) → IntKind.wrap .u64 (IntKind.wrap .i64 (((s.n : Nat) : Int) - k)) = (st.bs.length : Int) → K s k) : ∃ s k, K s k := by
  obtain ⟨s, all, k, rfl, h1, h2, h3, h4, h5⟩ := h
  have hn : s.n = all.length := by simpa using h2.1
  have hl : st.bs.length = all.length - k := by rw [← h4]; simp
  refine ⟨s, k, hK s k (rd_c0 h1) (rd_c1 h1) ?_⟩
  rw [IntWalk.i64_in _ (by omega), IntWalk.u64_in _ (by omega)]
  omega
theorem list_byte {w : World} {rb : Nat} {st : RS} {fp : List Nat} (h : RdRep w rb st fp) :
    Calls Try.prog n_wire_list_byte #[.pointer (some (at0 rb)), .func (.func n_wire_Reader_one) #[.pointer (some (at0 rb))] #[]] w (RdNew w rb fp ty_uint8 ((rdRaw st).1.map byteV) (rdRaw st).2) := by
  refine wire_list_byte.ok _ _ w _ ((r_uint h).mono ?_)
  rintro r w1 ⟨rfl, h1, f1⟩
  refine ⟨_, rfl, _, rd_e h1, ?_⟩
  unfold rdRaw rdLen
  generalize hq : rdU st = q at *
  obtain ⟨n, st1⟩ := q
  have hlt := rdU_lt st
  have hsm := h1.small
  rw [hq] at hlt
  simp only at *
  refine sel_intro (fun he => ?_) (fun he => ?_)
  · have he' : st1.err ≠ 0 := by simpa using he
    simp only [if_pos he']
    exact ⟨⟨none, 0, 0⟩, rfl, Ow.nil _ _, h1, f1, by simp [blkL]⟩
  · have he' : st1.err = 0 := by simpa using he
    simp only [if_neg (show ¬ st1.err ≠ 0 by simp [he'])]
    have fd : Fr0 w1 w1.drew := Fr.drew _ _
    have hd := h1.fr0 fd
    obtain ⟨s, all, k, rfl, b1, b2, b3, b4, b5⟩ := hd
    have hn : s.n = all.length := by simpa using b2.1
    have hl : st1.bs.length = all.length - k := by rw [← b4]; simp
    refine ⟨s, rd_c0 b1, (k : Int), rd_c1 b1, ?_⟩
    have ew : IntKind.wrap .u64 (IntKind.wrap .i64 (((s.n : Nat) : Int) - (k : Int))) = (st1.bs.length : Int) := by rw [IntWalk.i64_in _ (by omega), IntWalk.u64_in _ (by omega)]; omega
    rw [ew]
    refine sel_intro (fun hg => ?_) (fun hg => ?_)
    · have hg' := of_decide_eq_true hg
      simp only [if_pos (show st1.bs.length < n by omega)]
      obtain ⟨a1, a2, a3, a4⟩ := rd_err b1 b2 b3 b5 3
      rw [b4] at a3
      rw [if_pos (show (3 : Int) ≠ 0 by decide)]
      exact ⟨a1, a2, ⟨none, 0, 0⟩, rfl, Ow.nil _ _, a3, f1.trans (fd.of0.trans a4 fun _ _ h => h) fun _ _ h => h, by simp [blkL]⟩
    · have hg' := of_decide_eq_false hg
      simp only [if_neg (show ¬ st1.bs.length < n by omega), if_neg (show ¬ st1.err ≠ 0 by simp [he'])]
      obtain ⟨w2, g1, g2, g3⟩ := make_own el_bytes w1.drew .i64 .u64 n (by omega)
      refine ⟨⟨some ⟨w1.drew.heap.size, 0, none⟩, 0, n⟩, w2, g1, ?_⟩
      have fa : Fr0 w1 w2 := fd.tr0 g3
      have h2 := h1.fr0 fa
      have es : st1 = ⟨st1.bs, 0⟩ := by cases st1; simp at he'; simp [he']
      refine list_byte_loop (w0 := w) (rb := rb) (fp := rb :: blkL s) h.lt h.mem n st1.bs (by omega) hsm _ (fun r w' hr => hr) n 0 (by omega) w2 _ (f1.tr0 fa) (by rw [List.drop_zero, ← es]; exact h2) g2 ?_
      intro x hx
      simp [blkL] at hx
      have := f1.size
      have := fd.size
      omega

theorem r_text {w : World} {rb : Nat} {st : RS} {fp : List Nat} (h : RdRep w rb st fp) :
    Calls Try.prog n_wire_Reader_Text #[.pointer (some (at0 rb))] w (RdPost w rb fp (.string (ba (rdRaw st).1)) (rdRaw st).2) := by
  refine wire_Reader_Text.ok _ w _ ((list_byte h).mono ?_)
  rintro r w1 ⟨s, rfl, h1, h2, h3, h4⟩
  exact ⟨s, rfl, _, bytes_str h1.rd, rfl, h2, h3⟩
end Go.Proofs.Ytjjhfdjpmonlaaa
