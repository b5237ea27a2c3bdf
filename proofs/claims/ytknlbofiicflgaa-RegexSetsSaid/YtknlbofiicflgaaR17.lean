/- Package regex: how large what is read can be; no program in sight. -/
import Derived.Test.YtknlbofiicflgaaR16
namespace Go.Proofs.Ytknlbofiicflgaa
open Go Go.W

theorem rsz_app : ∀ (a b : List Rx), Rx.szs (a ++ b) = Rx.szs a + Rx.szs b
  | [], b => by simp [Rx.szs]
  | x :: a, b => by
    have := rsz_app a b
    show x.sz + Rx.szs (a ++ b) = (x.sz + Rx.szs a) + Rx.szs b
    omega
theorem szs_one (x : Rx) : Rx.szs [x] = x.sz := by simp [Rx.szs]
theorem one_sz (k : Int) (l : List Rx) : (oneX k l).sz ≤ 1 + Rx.szs l := by
  unfold oneX
  split
  · rw [szs_one]; omega
  · unfold Rx.sz; omega
theorem not_sz : ∀ (n : Nat) (r : Rx), (notN n r).sz = n + r.sz
  | 0, r => by unfold notN; omega
  | n + 1, r => by
    unfold notN
    rw [not_sz n]
    unfold Rx.sz
    rw [szs_one]
    cases r
    simp only [Rx.sz]
    omega
def fz (f : FX) : Nat := Rx.szs f.ar.2 + Rx.szs f.al + Rx.szs f.an + Rx.szs f.ca + f.n
def lz : List FX → Nat
  | [] => 0
  | f :: l => fz f + lz l
theorem lz_app : ∀ (a b : List FX), lz (a ++ b) = lz a + lz b
  | [], b => by simp [lz]
  | x :: a, b => by
    have := lz_app a b
    show fz x + lz (a ++ b) = (fz x + lz a) + lz b
    omega
def pz (S : SX) : Nat := lz S.lo + fz S.tp + (if S.st = 0 ∨ S.st = 1 ∨ S.st = 2 then 0 else S.tp.la.sz)
theorem pz_le (S : SX) : pz S ≤ lz S.lo + fz S.tp + S.tp.la.sz := by unfold pz; split <;> omega
theorem pz_ge (S : SX) : lz S.lo + fz S.tp ≤ pz S := by unfold pz; omega
theorem pz_no {S : SX} (h : S.st = 0 ∨ S.st = 1 ∨ S.st = 2) : pz S = lz S.lo + fz S.tp := by unfold pz; rw [if_pos h]; omega
theorem pz_la {S : SX} (h : ¬ (S.st = 0 ∨ S.st = 1 ∨ S.st = 2)) : pz S = lz S.lo + fz S.tp + S.tp.la.sz := by unfold pz; rw [if_neg h]
theorem item_fz (f : FX) : fz (endItemX f) = fz f + f.la.sz := by
  unfold fz endItemX
  simp only [rsz_app, szs_one, not_sz]
  omega
theorem seq_fz (f : FX) : fz (endSeqX f) ≤ fz f + f.la.sz + 1 := by
  have h := one_sz 3 (f.ca ++ [notN f.n f.la])
  simp only [rsz_app, szs_one, not_sz] at h
  show Rx.szs f.ar.2 + Rx.szs f.al + Rx.szs (f.an ++ [oneX 3 (f.ca ++ [notN f.n f.la])]) + Rx.szs [] + 0 ≤ _
  unfold fz
  simp only [rsz_app, szs_one, Rx.szs]
  omega
theorem conj_fz (f : FX) : Rx.szs f.ar.2 + Rx.szs (endConjX f).al ≤ fz f + f.la.sz + 2 := by
  have h := one_sz 5 (endSeqX f).an
  have h2 := seq_fz f
  have e : fz (endSeqX f) = Rx.szs f.ar.2 + Rx.szs f.al + Rx.szs (endSeqX f).an + 0 + 0 := rfl
  show Rx.szs f.ar.2 + Rx.szs (f.al ++ [oneX 5 (endSeqX f).an]) ≤ _
  simp only [rsz_app, szs_one]
  omega
theorem conj_fz' (f : FX) : fz (endConjX f) ≤ fz f + f.la.sz + 2 := by
  have := conj_fz f
  show Rx.szs f.ar.2 + Rx.szs (endConjX f).al + Rx.szs [] + Rx.szs [] + 0 ≤ _
  simp only [Rx.szs]
  omega
theorem expr_sz (f : FX) : Rx.szs f.ar.2 + (exprX f).sz ≤ fz f + f.la.sz + 3 := by
  have h := one_sz 4 (endConjX f).al
  have := conj_fz f
  show _ + (oneX 4 (endConjX f).al).sz ≤ _
  omega
theorem item_sz {t : Tk} {S S' : SX} (h : itemX t S = some S') : pz S' ≤ lz S.lo + fz S.tp + 1 := by
  have leaf : ∀ (k : Int) (a b : UInt8), (Rx.mk k a b []).sz = 1 := fun k a b => by unfold Rx.sz; simp [Rx.szs]
  unfold itemX at h
  split at h
  · cases h
    rw [pz_no (.inl rfl)]
    show lz S.lo + (Rx.szs S.tp.ar.2 + Rx.szs S.tp.al + Rx.szs S.tp.an + Rx.szs S.tp.ca + (S.tp.n + 1)) ≤ _
    unfold fz; omega
  · split at h
    · cases h
      rw [pz_no (.inl rfl)]
      show lz (S.lo ++ [S.tp]) + fz (newFX (-1)) ≤ _
      rw [lz_app]
      have : fz (newFX (-1)) = 0 := rfl
      simp only [lz]; omega
    · have la : ∀ (k : Int) (a b : UInt8), pz ⟨S.lo, atomX S.tp (.mk k a b []), 3, S.wd⟩ ≤ lz S.lo + fz S.tp + 1 := fun k a b => by
        refine Nat.le_trans (pz_le _) ?_
        show lz S.lo + fz S.tp + (Rx.mk k a b []).sz ≤ _
        rw [leaf]; exact Nat.le_refl _
      split at h
      · cases h
        exact la _ _ _
      · split at h
        · split at h
          · cases h; exact la _ _ _
          · split at h
            · cases h; exact la _ _ _
            · split at h
              · cases h; rw [pz_no (.inr (.inr rfl))]; show lz S.lo + fz S.tp ≤ _; omega
              · split at h
                · cases h; rw [pz_no (.inr (.inr rfl))]; show lz S.lo + fz S.tp ≤ _; omega
                · split at h
                  · cases h; rw [pz_no (.inr (.inr rfl))]; show lz S.lo + fz S.tp ≤ _; omega
                  · cases h
        · cases h
theorem close_sz {S S' : SX} {l : List Rx} (h : closeX S l = some S') : pz S' ≤ lz S.lo + Rx.szs l + 1 := by
  unfold closeX at h
  rcases nil_snoc S.lo with e | ⟨a, g, e⟩
  · rw [e] at h; simp at h
  · rw [e] at h ⊢
    simp at h
    subst h
    refine Nat.le_trans (pz_le _) ?_
    show lz a + fz g + (clR S.tp.k l).sz ≤ _
    rw [lz_app]
    have : (clR S.tp.k l).sz ≤ Rx.szs l + 1 := by
      unfold clR
      split
      · cases l with
        | nil => exact (by show noR.sz ≤ _; unfold noR Rx.sz; simp [Rx.szs])
        | cons x l => show x.sz ≤ _; unfold Rx.szs; omega
      · unfold Rx.sz; omega
    simp only [lz]; omega
theorem feed_sz {s' : Sl} {t : Tk} {S S' : SX} (h : feedX s' t S = some S') : pz S' ≤ pz S + 4 := by
  have hge := pz_ge S
  unfold feedX at h
  split at h
  · split at h
    · cases h
      rw [pz_no (.inr (.inl rfl))]
      show lz (S.lo ++ [S.tp]) + fz (newFX S.wd) ≤ _
      rw [lz_app]
      have : fz (newFX S.wd) = 0 := rfl
      simp only [lz]; omega
    · cases h
  · rename_i h2
    split at h
    · split at h
      · have := close_sz h; simp only [Rx.szs] at this; omega
      · have := item_sz h; omega
    · rename_i h1
      split at h
      · have := item_sz h; omega
      · rename_i h0
        have hla := pz_la (S := S) (by rintro (e | e | e) <;> contradiction)
        split at h
        · cases h
          refine Nat.le_trans (pz_le _) ?_
          show lz S.lo + fz S.tp + (Rx.mk 7 0 0 [S.tp.la]).sz ≤ _
          have : (Rx.mk 7 0 0 [S.tp.la]).sz = 1 + S.tp.la.sz := by show 1 + Rx.szs [S.tp.la] = _; rw [szs_one]
          omega
        · split at h
          · cases h
            rw [pz_no (.inl rfl)]
            show lz S.lo + fz (endSeqX S.tp) ≤ _
            have := seq_fz S.tp; omega
          · split at h
            · cases h
              rw [pz_no (.inl rfl)]
              show lz S.lo + fz (endConjX S.tp) ≤ _
              have := conj_fz' S.tp; omega
            · split at h
              · split at h
                · cases h
                · cases h
                  rw [pz_no (.inl rfl)]
                  show lz S.lo + (Rx.szs (S.tp.ar.2 ++ [exprX S.tp]) + Rx.szs [] + Rx.szs [] + Rx.szs [] + 0) ≤ _
                  have := expr_sz S.tp
                  simp only [rsz_app, szs_one, Rx.szs]; omega
              · split at h
                · split at h
                  · cases h
                  · have h5 := close_sz h
                    have := expr_sz S.tp
                    simp only [rsz_app, szs_one] at h5; omega
                · split at h
                  · split at h
                    · cases h; omega
                    · cases h
                  · have h5 := item_sz h
                    have := item_fz S.tp
                    have e : lz (SX.mk S.lo (endItemX S.tp) S.st S.wd).lo + fz (SX.mk S.lo (endItemX S.tp) S.st S.wd).tp = lz S.lo + fz (endItemX S.tp) := rfl
                    omega
theorem feed_end {s' : Sl} {a : Int} {S S' : SX} (h : feedX s' ⟨36, 0, 0, [], a⟩ S = some S') : S' = S ∧ ¬ (S.st = 0 ∨ S.st = 1 ∨ S.st = 2) := by
  have it : ∀ S, itemX ⟨36, 0, 0, [], a⟩ S = none := fun S => rfl
  unfold feedX at h
  rw [it] at h
  split at h
  · cases h
  · split at h
    · cases h
    · split at h
      · cases h
      · refine ⟨?_, by rintro (e | e | e) <;> contradiction⟩
        have h' : (if S.lo = [] then some S else none) = some S' := h
        split at h'
        · cases h'; rfl
        · cases h'
theorem run_sz (l : List UInt8) : ∀ (n i : Nat) (S S' : SX), l.length - i < n → RunR (toksX l n i) S (.inr S') → (exprX S'.tp).sz ≤ pz S + 4 * n + 4
  | 0, i, S, S', h, _ => by omega
  | n + 1, i, S, S', h, hr => by
    unfold toksX at hr
    split at hr
    · split at hr
      · have := run_sz l n (i + 1) S S' (by omega) hr
        omega
      · rename_i hi _
        have hp := tokX_pos hi
        obtain ⟨s', ⟨_, hx⟩ | ⟨S1, h1, h2⟩⟩ := hr
        · cases hx
        · have := run_sz l n (i + (tokX l i).2) S1 S' (by omega) h2
          have := feed_sz h1
          omega
    · obtain ⟨s', ⟨_, hx⟩ | ⟨S1, h1, h2⟩⟩ := hr
      · cases hx
      · have e : S' = S1 := by have : Sum.inr S' = (Sum.inr S1 : Int ⊕ SX) := h2; cases this; rfl
        obtain ⟨e1, e2⟩ := feed_end h1
        subst e e1
        have := pz_la e2
        have := expr_sz S'.tp
        omega
end Go.Proofs.Ytknlbofiicflgaa
