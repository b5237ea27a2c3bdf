/- Package wire in plain words: one encoding, prefixes, errors that stay. -/
import Derived.Test.YtjjhfdjpmonlaaaWN
namespace Go.Proofs.Ytjjhfdjpmonlaaa
open Go Go.W

theorem rdU_err {st : RS} (h : st.err ≠ 0) : rdU st = (0, st) := by unfold rdU; rw [if_pos h]
theorem rdLen_err {st : RS} (h : st.err ≠ 0) : rdLen st = (0, st) := by
  unfold rdLen; rw [rdU_err h]; simp only []; rw [if_pos h]
/-! ### One encoding -/
theorem rdU_back {st : RS} (h : (rdU st).2.err = 0) : st.err = 0 ∧ st.bs = encU (rdU st).1 ++ (rdU st).2.bs := by
  unfold rdU at h ⊢
  by_cases he : st.err ≠ 0
  · rw [if_pos he] at h; exact absurd h he
  · rw [if_neg he] at h ⊢
    refine ⟨by simpa using he, ?_⟩
    cases hd : decU 0 st.bs with
    | more => rw [hd] at h; cases h
    | form => rw [hd] at h; cases h
    | ok n r => exact (decU_back 9 0 _ _ _ rfl hd).1
theorem rdI_back {st : RS} (h : (rdI st).2.err = 0) : st.err = 0 ∧ st.bs = encI (rdI st).1 ++ (rdI st).2.bs := by
  have := rdU_back (st := st) h
  unfold rdI encI
  simp only [zz_unzz]
  exact this
theorem rdB_back {st : RS} (h : (rdB st).2.err = 0) : st.err = 0 ∧ st.bs = encB (rdB st).1 ++ (rdB st).2.bs := by
  unfold rdB at h ⊢
  by_cases he : st.err ≠ 0
  · rw [if_pos he] at h; exact absurd h he
  · rw [if_neg he] at h ⊢
    refine ⟨by simpa using he, ?_⟩
    cases hb : st.bs with
    | nil => rw [hb] at h; cases h
    | cons c l =>
      rw [hb] at h
      simp only at h ⊢
      by_cases hc : 1 < c.toNat
      · rw [if_pos hc] at h; cases h
      · rw [if_neg hc]
        simp only [encB]
        have hl := c.toNat_lt
        by_cases h1 : c.toNat = 1
        · have : c = 1 := UInt8.toNat_inj.1 (by simpa using h1)
          subst this; rfl
        · have : c = 0 := UInt8.toNat_inj.1 (by simp; omega)
          subst this; rfl
theorem rdLen_back {st : RS} (h : (rdLen st).2.err = 0) : st.err = 0 ∧ st.bs = encU (rdLen st).1 ++ (rdLen st).2.bs ∧ (rdLen st).1 ≤ (rdLen st).2.bs.length := by
  unfold rdLen at h ⊢
  by_cases he : (rdU st).2.err ≠ 0
  · simp only [if_pos he] at h; exact absurd h he
  · simp only [if_neg he] at h ⊢
    by_cases hl : (rdU st).2.bs.length < (rdU st).1
    · simp only [if_pos hl] at h; cases h
    · simp only [if_neg hl] at h ⊢
      have := rdU_back h
      exact ⟨this.1, this.2, by omega⟩
theorem rdRaw_back {st : RS} (h : (rdRaw st).2.err = 0) : st.err = 0 ∧ st.bs = encR (rdRaw st).1 ++ (rdRaw st).2.bs := by
  unfold rdRaw at h ⊢
  by_cases he : (rdLen st).2.err ≠ 0
  · simp only [if_pos he] at h; exact absurd h he
  · simp only [if_neg he] at h ⊢
    obtain ⟨h1, h2, h3⟩ := rdLen_back (st := st) (by simpa using he)
    refine ⟨h1, ?_⟩
    unfold encR
    rw [List.length_take, Nat.min_eq_left h3, List.append_assoc, List.take_append_drop]
    exact h2
theorem rdMany_back : ∀ (n : Nat) (st : RS), (rdMany n st).2.err = 0 → st.err = 0 ∧ st.bs = (rdMany n st).1.flatMap encI ++ (rdMany n st).2.bs ∧ (rdMany n st).1.length = n
  | 0, st, h => ⟨h, rfl, rfl⟩
  | n + 1, st, h => by
    simp only [rdMany] at h ⊢
    by_cases he : (rdI st).2.err ≠ 0
    · simp only [if_pos he] at h; exact absurd h he
    · simp only [if_neg he] at h ⊢
      by_cases h2 : (rdMany n (rdI st).2).2.err ≠ 0
      · simp only [if_pos h2] at h; exact absurd h h2
      · simp only [if_neg h2] at h ⊢
        obtain ⟨a1, a2, a3⟩ := rdMany_back n _ h
        obtain ⟨b1, b2⟩ := rdI_back (st := st) a1
        refine ⟨b1, ?_, by simp [a3]⟩
        rw [List.flatMap_cons, List.append_assoc, ← a2]
        exact b2
theorem rdInts_back {st : RS} (h : (rdInts st).2.err = 0) : st.err = 0 ∧ st.bs = encL (rdInts st).1 ++ (rdInts st).2.bs := by
  unfold rdInts at h ⊢
  by_cases he : (rdLen st).2.err ≠ 0
  · simp only [if_pos he] at h; exact absurd h he
  · simp only [if_neg he] at h ⊢
    obtain ⟨h1, h2, h3⟩ := rdLen_back (st := st) (by simpa using he)
    obtain ⟨a1, a2, a3⟩ := rdMany_back _ _ h
    refine ⟨h1, ?_⟩
    unfold encL
    rw [a3, List.append_assoc, ← a2]
    exact h2
theorem rdLen_le (st : RS) : (rdLen st).1 ≤ st.bs.length ∧ (rdLen st).2.bs.length ≤ st.bs.length := by
  have hs := rdU_small (st := st) (Nat.le_refl _)
  unfold rdLen
  by_cases he : (rdU st).2.err ≠ 0
  · simp only [if_pos he]; exact ⟨Nat.zero_le _, hs⟩
  · simp only [if_neg he]
    by_cases hl : (rdU st).2.bs.length < (rdU st).1
    · simp only [if_pos hl]; exact ⟨Nat.zero_le _, hs⟩
    · simp only [if_neg hl]; exact ⟨by omega, hs⟩
theorem rdMany_ok : ∀ (n : Nat) (st : RS), (rdMany n st).1.length ≤ n ∧ ∀ x ∈ (rdMany n st).1, I64 x
  | 0, st => ⟨Nat.le_refl _, by simp [rdMany]⟩
  | n + 1, st => by
    simp only [rdMany]
    by_cases he : (rdI st).2.err ≠ 0
    · simp only [if_pos he]; exact ⟨by simp, by simp⟩
    · simp only [if_neg he]
      by_cases h2 : (rdMany n (rdI st).2).2.err ≠ 0
      · simp only [if_pos h2]; exact ⟨by simp, by simp⟩
      · simp only [if_neg h2]
        have ih := rdMany_ok n (rdI st).2
        refine ⟨by simp; exact ih.1, fun x hx => ?_⟩
        rcases List.mem_cons.1 hx with rfl | hx
        · exact unzz_range _ (rdU_lt st)
        · exact ih.2 x hx
/-! ### Prefixes -/
theorem rdU_cut {n : Nat} (hn : n < 18446744073709551616) {p q : List UInt8} (he : encU n = p ++ q) (hq : q ≠ []) : rdU ⟨p, 0⟩ = (0, ⟨p, 3⟩) := by
  unfold rdU
  rw [if_neg (by simp), decU_cut 9 0 n p q rfl (by simpa using hn) (by omega) he hq]
theorem rdLen_cut {n : Nat} (hn : n < 18446744073709551616) {p q : List UInt8} (he : encU n = p ++ q) (hq : q ≠ []) : rdLen ⟨p, 0⟩ = (0, ⟨p, 3⟩) := by
  unfold rdLen
  rw [rdU_cut hn he hq]
  rfl
theorem rdLen_short {n : Nat} (hn : n < 18446744073709551616) {c : List UInt8} (hc : c.length < n) : rdLen ⟨encU n ++ c, 0⟩ = (0, ⟨c, 3⟩) := by
  unfold rdLen
  rw [rdU_enc n hn]
  simp only []
  rw [if_neg (by simp), if_pos hc]
/-- where a list was cut -/
theorem cut_at {a b p q : List UInt8} (h : a ++ b = p ++ q) (hq : q ≠ []) : (∃ c, c ≠ [] ∧ a = p ++ c) ∨ ∃ c, p = a ++ c ∧ b = c ++ q := by
  rcases List.append_eq_append_iff.1 h with ⟨c, h1, h2⟩ | ⟨c, h1, h2⟩
  · exact .inr ⟨c, h1, h2⟩
  · by_cases hc : c = []
    · subst hc
      exact .inr ⟨[], by simpa using h1.symm, by simpa using h2.symm⟩
    · exact .inl ⟨c, hc, h1⟩
theorem rdRaw_cut {b : List UInt8} (hb : b.length < 18446744073709551616) {p q : List UInt8} (he : encR b = p ++ q) (hq : q ≠ []) : (rdRaw ⟨p, 0⟩).2.err = 3 := by
  unfold encR at he
  unfold rdRaw
  rcases cut_at he hq with ⟨c, hc, h1⟩ | ⟨c, h1, h2⟩
  · rw [rdLen_cut hb h1 hc]; rfl
  · subst h1
    have : c.length < b.length := by
      rw [h2]; cases q with
      | nil => exact absurd rfl hq
      | cons => simp
    rw [rdLen_short hb this]; rfl
theorem rdI_cut {n : Int} (hn : I64 n) {p q : List UInt8} (he : encI n = p ++ q) (hq : q ≠ []) : (rdI ⟨p, 0⟩).2 = ⟨p, 3⟩ := by
  unfold rdI
  rw [rdU_cut (zz_lt n hn.1 hn.2) he hq]
theorem rdMany_cut : ∀ (l : List Int) (p q : List UInt8), (∀ x ∈ l, I64 x) → l.flatMap encI = p ++ q → q ≠ [] → (rdMany l.length ⟨p, 0⟩).2.err = 3
  | [], p, q, _, he, hq => by
    simp at he
    exact absurd he.2 hq
  | x :: l, p, q, hi, he, hq => by
    rw [List.flatMap_cons] at he
    simp only [List.length_cons, rdMany]
    rcases cut_at he hq with ⟨c, hc, h1⟩ | ⟨c, h1, h2⟩
    · rw [rdI_cut (hi x (by simp)) h1 hc]
      rfl
    · subst h1
      rw [rdI_enc x (hi x (by simp))]
      have ih := rdMany_cut l c q (fun y hy => hi y (by simp [hy])) h2 hq
      simp only [if_neg (show ¬ ((0 : Int) ≠ 0) by simp)]
      rw [if_pos (by rw [ih]; decide)]
      exact ih
theorem rdInts_cut {l : List Int} (hl : l.length < 18446744073709551616) (hi : ∀ x ∈ l, I64 x) {p q : List UInt8} (he : encL l = p ++ q) (hq : q ≠ []) : (rdInts ⟨p, 0⟩).2.err = 3 := by
  unfold encL at he
  unfold rdInts
  rcases cut_at he hq with ⟨c, hc, h1⟩ | ⟨c, h1, h2⟩
  · rw [rdLen_cut hl h1 hc]; rfl
  · subst h1
    by_cases hs : c.length < l.length
    · rw [rdLen_short hl hs]; rfl
    · rw [rdLen_enc _ hl _ (by omega)]
      simp only [if_neg (show ¬ ((0 : Int) ≠ 0) by simp)]
      exact rdMany_cut l c q hi h2 hq
end Go.Proofs.Ytjjhfdjpmonlaaa
