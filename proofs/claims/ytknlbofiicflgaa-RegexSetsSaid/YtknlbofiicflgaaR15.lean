/- Package regex: what reading keeps; no program in sight. -/
import Derived.Test.YtknlbofiicflgaaR14
namespace Go.Proofs.Ytknlbofiicflgaa
open Go Go.W

structure Inv (S : SX) (m : Nat) : Prop where
  lo : S.lo.length ≤ m
  sl : ∀ f ∈ S.lo, Small f m
  tp : Small S.tp m
  s1 : S.st = 1 → 0 ≤ S.tp.k ∧ S.lo ≠ []
  s2 : S.st = 2 → 0 ≤ S.wd
theorem Small.mono {f : FX} {m n : Nat} (h : Small f m) (hm : m ≤ n) : Small f n := ⟨Nat.le_trans h.n' hm, Nat.le_trans h.ar hm, Nat.le_trans h.al hm, Nat.le_trans h.an hm, Nat.le_trans h.ca hm⟩
theorem small_new (k : Int) (m : Nat) : Small (newFX k) m := ⟨Nat.zero_le _, Nat.zero_le _, Nat.zero_le _, Nat.zero_le _, Nat.zero_le _⟩
theorem small_atom {f : FX} {m : Nat} (h : Small f m) (x : Rx) : Small (atomX f x) m := ⟨h.n', h.ar, h.al, h.an, h.ca⟩
theorem item_inv {t : Tk} {S S' : SX} {m : Nat} (h1 : S.lo.length ≤ m) (h2 : ∀ f ∈ S.lo, Small f (m + 1)) (h3 : Small S.tp (m + 1)) (h4 : S.tp.n ≤ m) (h : itemX t S = some S') : Inv S' (m + 1) := by
  have sn : ∀ f ∈ S.lo ++ [S.tp], Small f (m + 1) := fun f hf => by
    rcases List.mem_append.1 hf with hf | hf
    · exact h2 f hf
    · simp at hf; subst hf; exact h3
  unfold itemX at h
  split at h
  · cases h
    exact ⟨by show S.lo.length ≤ _; omega, h2, ⟨by show S.tp.n + 1 ≤ _; omega, h3.ar, h3.al, h3.an, h3.ca⟩, fun e => (by simp at e), fun e => (by simp at e)⟩
  · split at h
    · cases h
      exact ⟨by simp; omega, sn, small_new _ _, fun e => (by simp at e), fun e => (by simp at e)⟩
    · split at h
      · cases h
        exact ⟨by show S.lo.length ≤ _; omega, h2, small_atom h3 _, fun e => (by simp at e), fun e => (by simp at e)⟩
      · split at h
        · split at h
          · cases h
            exact ⟨by show S.lo.length ≤ _; omega, h2, small_atom h3 _, fun e => (by simp at e), fun e => (by simp at e)⟩
          · split at h
            · cases h
              exact ⟨by show S.lo.length ≤ _; omega, h2, small_atom h3 _, fun e => (by simp at e), fun e => (by simp at e)⟩
            · split at h
              · cases h
                exact ⟨by show S.lo.length ≤ _; omega, h2, h3, fun e => (by simp at e), fun _ => by show (0 : Int) ≤ 4; decide⟩
              · split at h
                · cases h
                  exact ⟨by show S.lo.length ≤ _; omega, h2, h3, fun e => (by simp at e), fun _ => by show (0 : Int) ≤ 5; decide⟩
                · split at h
                  · cases h
                    exact ⟨by show S.lo.length ≤ _; omega, h2, h3, fun e => (by simp at e), fun _ => by show (0 : Int) ≤ 3; decide⟩
                  · cases h
        · cases h
theorem close_inv {S S' : SX} {l : List Rx} {m : Nat} (hS : Inv S m) (h : closeX S l = some S') : Inv S' (m + 1) := by
  unfold closeX at h
  rcases nil_snoc S.lo with e | ⟨a, g, e⟩
  · rw [e] at h; simp at h
  · rw [e] at h
    simp at h
    subst h
    have hl := hS.lo
    rw [e] at hl
    simp at hl
    exact ⟨by show a.length ≤ _; omega, fun f hf => (hS.sl f (by rw [e]; simp [hf])).mono (by omega), small_atom ((hS.sl g (by rw [e]; simp)).mono (by omega)) _, fun e => (by simp at e), fun e => (by simp at e)⟩
theorem feed_inv {s' : Sl} {t : Tk} {S S' : SX} {m : Nat} (hS : Inv S m) (h : feedX s' t S = some S') : Inv S' (m + 1) := by
  have hlo := hS.lo
  have hsl : ∀ f ∈ S.lo, Small f (m + 1) := fun f hf => (hS.sl f hf).mono (by omega)
  have htp : Small S.tp (m + 1) := hS.tp.mono (by omega)
  have hn := hS.tp.n'
  unfold feedX at h
  split at h
  · rename_i h2
    split at h
    · cases h
      refine ⟨by simp; omega, fun f hf => ?_, small_new _ _, fun _ => ⟨hS.s2 h2, by simp⟩, fun e => (by simp at e)⟩
      rcases List.mem_append.1 hf with hf | hf
      · exact hsl f hf
      · simp at hf; subst hf; exact htp
    · cases h
  · rename_i h2
    split at h
    · split at h
      · exact close_inv hS h
      · exact item_inv hlo hsl htp hn h
    · rename_i h1
      split at h
      · exact item_inv hlo hsl htp hn h
      · split at h
        · cases h
          exact ⟨by show S.lo.length ≤ _; omega, hsl, small_atom htp _, fun e => absurd e h1, fun e => absurd e h2⟩
        · split at h
          · cases h
            refine ⟨by show S.lo.length ≤ _; omega, hsl, ⟨Nat.zero_le _, htp.ar, htp.al, ?_, Nat.zero_le _⟩, fun e => (by simp at e), fun e => (by simp at e)⟩
            have := hS.tp.an
            show (S.tp.an ++ [_]).length ≤ _
            simp; omega
          · split at h
            · cases h
              refine ⟨by show S.lo.length ≤ _; omega, hsl, ⟨Nat.zero_le _, htp.ar, ?_, Nat.zero_le _, Nat.zero_le _⟩, fun e => (by simp at e), fun e => (by simp at e)⟩
              have := hS.tp.al
              show (S.tp.al ++ [_]).length ≤ _
              simp; omega
            · split at h
              · split at h
                · cases h
                · cases h
                  refine ⟨by show S.lo.length ≤ _; omega, hsl, ⟨Nat.zero_le _, ?_, Nat.zero_le _, Nat.zero_le _, Nat.zero_le _⟩, fun e => (by simp at e), fun e => (by simp at e)⟩
                  have := hS.tp.ar
                  show (S.tp.ar.2 ++ [_]).length ≤ _
                  simp; omega
              · split at h
                · split at h
                  · cases h
                  · exact close_inv hS h
                · split at h
                  · split at h
                    · cases h
                      exact ⟨by omega, hsl, htp, hS.s1, hS.s2⟩
                    · cases h
                  · refine item_inv (S := ⟨S.lo, endItemX S.tp, S.st, S.wd⟩) hlo hsl ⟨Nat.zero_le _, htp.ar, htp.al, htp.an, ?_⟩ (Nat.zero_le _) h
                    have := hS.tp.ca
                    show (S.tp.ca ++ [_]).length ≤ _
                    simp; omega
/-- a byte that begins no token -/
theorem feed_bad {s' : Sl} {t : Tk} {S : SX} (h : t.k = 63) : feedX s' t S = none := by
  have it : ∀ S, itemX t S = none := fun S => by
    unfold itemX
    rw [h]
    rfl
  unfold feedX
  rw [it, it, h]
  split
  · rfl
  · split
    · rfl
    · split
      · rfl
      · rfl
/-- the tokens of a text, from a place on -/
def toksX (l : List UInt8) : Nat → Nat → List Tk
  | 0, _ => []
  | n + 1, i => if i < l.length then (if l.getD i 0 = 32 then toksX l n (i + 1) else (tokX l i).1 :: toksX l n (i + (tokX l i).2)) else [⟨36, 0, 0, [], l.length⟩]
/-- reading tokens: a state, or the place of an error -/
def RunR : List Tk → SX → Int ⊕ SX → Prop
  | [], S, r => r = .inr S
  | t :: ts, S, r => ∃ s', (feedX s' t S = none ∧ r = .inl t.a) ∨ ∃ S', feedX s' t S = some S' ∧ RunR ts S' r
theorem tokX_pos {l : List UInt8} {i : Nat} (hi : i < l.length) : 1 ≤ (tokX l i).2 ∧ i + (tokX l i).2 ≤ l.length := by
  unfold tokX
  split
  · simp; omega
  · split
    · rename_i h
      have e1 : (l.drop i) = l.getD i 0 :: l.drop (i + 1) := by
        rw [List.drop_eq_getElem_cons hi, List.getD_eq_getElem?_getD, List.getElem?_eq_getElem hi]
        rfl
      have h1 : 1 ≤ ((l.drop i).takeWhile smallB).length := by rw [e1, List.takeWhile_cons, if_pos h]; simp
      have h2 : ((l.drop i).takeWhile smallB).length ≤ (l.drop i).length := (List.takeWhile_prefix (p := smallB) (l := l.drop i)).length_le
      rw [List.length_drop] at h2
      simp only
      omega
    · split
      · split
        · simp; omega
        · split
          · split
            · simp; omega
            · split
              · rename_i h; simp only; omega
              · simp; omega
          · simp; omega
      · split
        · rename_i hb
          have := byteX_len hb
          simp only
          omega
        · simp; omega
end Go.Proofs.Ytknlbofiicflgaa
