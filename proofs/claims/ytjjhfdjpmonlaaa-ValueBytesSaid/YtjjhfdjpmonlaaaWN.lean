/- Package wire: what was written is read again. -/
import Derived.Test.YtjjhfdjpmonlaaaRF
namespace Go.Proofs.Ytjjhfdjpmonlaaa
open Go Go.W

theorem rdU_enc (n : Nat) (h : n < 18446744073709551616) (r : List UInt8) : rdU ⟨encU n ++ r, 0⟩ = (n, ⟨r, 0⟩) := by
  unfold rdU
  rw [if_neg (by simp), decU_encU 9 0 n r rfl (by simpa using h) (by omega)]
theorem rdI_enc (n : Int) (h : I64 n) (r : List UInt8) : rdI ⟨encI n ++ r, 0⟩ = (n, ⟨r, 0⟩) := by
  unfold rdI encI
  rw [rdU_enc _ (zz_lt n h.1 h.2), unzz_zz]
theorem rdB_enc (b : Bool) (r : List UInt8) : rdB ⟨encB b ++ r, 0⟩ = (b, ⟨r, 0⟩) := by
  cases b <;> rfl
theorem rdLen_enc (n : Nat) (h : n < 18446744073709551616) (r : List UInt8) (hr : n ≤ r.length) : rdLen ⟨encU n ++ r, 0⟩ = (n, ⟨r, 0⟩) := by
  unfold rdLen
  rw [rdU_enc n h]
  simp only []
  rw [if_neg (by simp), if_neg (by omega)]
theorem rdRaw_enc (b : List UInt8) (h : b.length < 18446744073709551616) (r : List UInt8) : rdRaw ⟨encR b ++ r, 0⟩ = (b, ⟨r, 0⟩) := by
  unfold rdRaw encR
  rw [List.append_assoc, rdLen_enc _ h _ (by simp)]
  simp
theorem rdMany_enc : ∀ (l : List Int) (r : List UInt8), (∀ x ∈ l, I64 x) → rdMany l.length ⟨l.flatMap encI ++ r, 0⟩ = (l, ⟨r, 0⟩)
  | [], r, _ => rfl
  | x :: l, r, h => by
    simp only [List.length_cons, rdMany, List.flatMap_cons, List.append_assoc]
    rw [rdI_enc x (h x (by simp)), ]
    simp only []
    rw [if_neg (by simp), rdMany_enc l r fun y hy => h y (by simp [hy])]
    simp
theorem encU_pos (n : Nat) : 1 ≤ (encU n).length := by
  have := encU_ne n
  cases h : encU n with
  | nil => exact absurd h this
  | cons => simp
theorem flat_ge : ∀ (l : List Int), l.length ≤ (l.flatMap encI).length
  | [] => by simp
  | x :: l => by
    have h1 := encU_pos (zz x)
    have h2 := flat_ge l
    have : (encI x).length = (encU (zz x)).length := rfl
    simp at h2 ⊢
    omega
theorem rdInts_enc (l : List Int) (h : l.length < 18446744073709551616) (hi : ∀ x ∈ l, I64 x) (r : List UInt8) : rdInts ⟨encL l ++ r, 0⟩ = (l, ⟨r, 0⟩) := by
  unfold rdInts encL
  rw [List.append_assoc, rdLen_enc _ h _ (by have := flat_ge l; simp at this ⊢; omega)]
  simp only []
  rw [if_neg (by simp), rdMany_enc l r hi]

/-! ### Local objects -/
theorem fr_own {w0 w w' : World} {own : List Nat} (F : Fr0 w0 w) (n : ∀ x ∈ own, w0.heap.size ≤ x) (f : Fr (· ∈ own) w w') : Fr0 w0 w' := F.trn f n
theorem new_own {w0 w : World} {own own' : List Nat} (F : Fr0 w0 w) (n : ∀ x ∈ own, w0.heap.size ≤ x) (o : ∀ x ∈ own', x ∈ own ∨ w.heap.size ≤ x) : ∀ x ∈ own', w0.heap.size ≤ x := fun x hx => by
  rcases o x hx with h | h
  · exact n x h
  · exact Nat.le_trans F.size h
theorem fr_at {w0 w w' : World} {rb : Nat} (F : Fr0 w0 w) (n : w0.heap.size ≤ rb) (f : Fr (· = rb) w w') : Fr0 w0 w' := F.trn f fun _ e => e ▸ n

end Go.Proofs.Ytjjhfdjpmonlaaa
