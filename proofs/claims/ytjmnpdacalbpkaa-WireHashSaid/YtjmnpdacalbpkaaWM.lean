/- Package wire: what was written is read again; the example of the section. -/
import Derived.Test.YtjmnpdacalbpkaaRF
namespace Go.Proofs.Ytjmnpdacalbpkaa
open Go Go.W

theorem rdU_enc (n : Nat) (h : n < 18446744073709551616) (r : List UInt8) : rdU ⟨encU n ++ r, 0⟩ = (n, ⟨r, 0⟩) := by
  unfold rdU
  rw [if_neg (by simp), decU_encU 9 0 n r rfl (by simpa using h) (by omega)]
theorem rdI_enc (n : Int) (h : I64 n) (r : List UInt8) : rdI ⟨encI n ++ r, 0⟩ = (n, ⟨r, 0⟩) := by
  unfold rdI encI
  rw [rdU_enc _ (zz_lt n h.1 h.2), unzz_zz]
theorem rdB_enc (b : Bool) (r : List UInt8) : rdB ⟨encB b ++ r, 0⟩ = (b, ⟨r, 0⟩) := by
  cases b <;> rfl
theorem rdLen_enc (n : Nat) (h : n < 18446744073709551616) (r : List UInt8) (hr : n ≤ r.length) : rdLen ⟨encU n ++ r, 0⟩ = (n, ⟨r, 0⟩) := by
  unfold rdLen
  rw [rdU_enc n h]
  simp only []
  rw [if_neg (by simp), if_neg (by omega)]
theorem rdRaw_enc (b : List UInt8) (h : b.length < 18446744073709551616) (r : List UInt8) : rdRaw ⟨encR b ++ r, 0⟩ = (b, ⟨r, 0⟩) := by
  unfold rdRaw encR
  rw [List.append_assoc, rdLen_enc _ h _ (by simp)]
  simp
theorem rdMany_enc : ∀ (l : List Int) (r : List UInt8), (∀ x ∈ l, I64 x) → rdMany l.length ⟨l.flatMap encI ++ r, 0⟩ = (l, ⟨r, 0⟩)
  | [], r, _ => rfl
  | x :: l, r, h => by
    simp only [List.length_cons, rdMany, List.flatMap_cons, List.append_assoc]
    rw [rdI_enc x (h x (by simp)), ]
    simp only []
    rw [if_neg (by simp), rdMany_enc l r fun y hy => h y (by simp [hy])]
    simp
theorem encU_pos (n : Nat) : 1 ≤ (encU n).length := by
  have := encU_ne n
  cases h : encU n with
  | nil => exact absurd h this
  | cons => simp
theorem flat_ge : ∀ (l : List Int), l.length ≤ (l.flatMap encI).length
  | [] => by simp
  | x :: l => by
    have h1 := encU_pos (zz x)
    have h2 := flat_ge l
    have : (encI x).length = (encU (zz x)).length := rfl
    simp at h2 ⊢
    omega
theorem rdInts_enc (l : List Int) (h : l.length < 18446744073709551616) (hi : ∀ x ∈ l, I64 x) (r : List UInt8) : rdInts ⟨encL l ++ r, 0⟩ = (l, ⟨r, 0⟩) := by
  unfold rdInts encL
  rw [List.append_assoc, rdLen_enc _ h _ (by have := flat_ge l; simp at this ⊢; omega)]
  simp only []
  rw [if_neg (by simp), rdMany_enc l r hi]

/-! ### Local objects -/
theorem fr_own {w0 w w' : World} {own : List Nat} (F : Fr0 w0 w) (n : ∀ x ∈ own, w0.heap.size ≤ x) (f : Fr (· ∈ own) w w') : Fr0 w0 w' := F.trn f n
theorem new_own {w0 w : World} {own own' : List Nat} (F : Fr0 w0 w) (n : ∀ x ∈ own, w0.heap.size ≤ x) (o : ∀ x ∈ own', x ∈ own ∨ w.heap.size ≤ x) : ∀ x ∈ own', w0.heap.size ≤ x := fun x hx => by
  rcases o x hx with h | h
  · exact n x h
  · exact Nat.le_trans F.size h
theorem fr_at {w0 w w' : World} {rb : Nat} (F : Fr0 w0 w) (n : w0.heap.size ≤ rb) (f : Fr (· = rb) w w') : Fr0 w0 w' := F.trn f fun _ e => e ▸ n

/-! ### The example -/
theorem lives_any (w : World) : Calls Try.prog n_enthymemelaw02_lives #[] w fun r w' => r = .returned (.bool true) ∧ Fr0 w w' := by
  refine enthymemelaw02_lives.ok w _ ?_
  unfold enthymemelaw02_lives.S0 enthymemelaw02_lives.S1
  intro w1
  have f1 : Fr0 w w1 := Fr.alloc _ _ _
  have n1 : ∀ x ∈ [w.heap.size], w.heap.size ≤ x := by simp
  refine (w_uint (WrRep.new w) 300 (by omega) (by simp)).mono ?_
  rintro r w2 ⟨rfl, own2, r2, g2, o2⟩
  have f2 := fr_own f1 n1 g2
  have n2 := new_own f1 n1 o2
  have l300 := encU_len10 300 (by omega)
  refine ⟨rfl, (w_int r2 (-1) (by omega) (by simp; omega)).mono ?_⟩
  rintro r w3 ⟨rfl, own3, r3, g3, o3⟩
  have f3 := fr_own f2 n2 g3
  have n3 := new_own f2 n2 o3
  have l1 := encI_len (-1) (by omega)
  refine ⟨rfl, (w_text r3 ⟨#[97, 98]⟩ (by simp [ByteArray.size]; omega)).mono ?_⟩
  rintro r w4 ⟨rfl, own4, r4, g4, o4⟩
  have f4 := fr_own f3 n3 g4
  have e2 : encU 300 = [172, 2] := by rw [encU_large (by omega), encU_small (by omega)]; rfl
  have e3 : encI (-1) = [1] := by unfold encI; rw [show zz (-1) = 1 from rfl, encU_small (by omega)]; rfl
  have e4 : encR (bl ⟨#[97, 98]⟩) = [2, 97, 98] := by unfold encR; rw [show (bl ⟨#[97, 98]⟩) = [97, 98] from rfl, show ([97, 98] : List UInt8).length = 2 from rfl, encU_small (by omega)]; rfl
  have er : ([] ++ encU 300) ++ encI (-1) ++ encR (bl ⟨#[97, 98]⟩) = [172, 2, 1, 2, 97, 98] := by rw [e2, e3, e4]; rfl
  rw [er] at r4
  refine ⟨rfl, (w_done r4 (by simp)).mono ?_⟩
  rintro r w5 ⟨b, rfl, b5, f5, nb⟩
  have F5 := f4.tr0 f5
  refine ⟨b, rfl, (r_read b5.rd (by simp)).mono ?_⟩
  rintro r w6 ⟨rb, fp, rfl, q6, f6, n6⟩
  have b6 := b5.fr0 f6
  refine ⟨_, rfl, ?_⟩
  unfold enthymemelaw02_lives.S7
  intro w7
  have f7 : Fr0 w6 w7 := Fr.alloc _ _ _
  have hbad : Bytes w7 ⟨some ⟨w6.heap.size, 0, none⟩, 2, 2⟩ [128, 0] := (Ow.made w6 ty_uint8 [byteV 128, byteV 0] 2 rfl (by omega)).rd
  refine (r_read hbad (by simp)).mono ?_
  rintro r w8 ⟨rb2, fp2, rfl, q8, f8, n8⟩
  have F8 : Fr0 w6 w8 := f7.tr0 f8
  have p8 := q6.fr0 F8
  have b8 := b6.fr0 F8
  have hb5 : ∀ x ∈ blkL b, x < w5.heap.size := b5.lt
  have hrb : w5.heap.size ≤ rb := n6 rb q6.mem
  have hfp : ∀ x ∈ fp, x < w6.heap.size := q6.lt
  have hrb2 : w7.heap.size ≤ rb2 := n8 rb2 q8.mem
  have s67 : w6.heap.size ≤ w7.heap.size := f7.size
  have s56 : w5.heap.size ≤ w6.heap.size := f6.size
  have s05 : w.heap.size ≤ w5.heap.size := F5.size
  refine ⟨_, rfl, sel_false rfl (sel_false rfl ((r_uint p8).mono ?_))⟩
  have d1 : rdU ⟨[172, 2, 1, 2, 97, 98], 0⟩ = (300, ⟨[1, 2, 97, 98], 0⟩) := rfl
  have d2 : rdI ⟨[1, 2, 97, 98], 0⟩ = (-1, ⟨[2, 97, 98], 0⟩) := rfl
  have d3 : rdRaw ⟨[2, 97, 98], 0⟩ = ([97, 98], ⟨[], 0⟩) := rfl
  have d4 : (rdI ⟨[128, 0], 0⟩).2 = ⟨[128, 0], 2⟩ := rfl
  rw [d1]
  rintro r w9 ⟨rfl, p9, f9⟩
  have q9 := q8.fr f9 fun x hx e => by have := n8 x hx; have := hfp rb q6.mem; omega
  have b9 := b8.fr f9 fun x hx e => by have := hb5 x hx; omega
  refine ⟨_, rfl, (r_int p9).mono ?_⟩
  rw [d2]
  rintro r w10 ⟨rfl, p10, f10⟩
  have q10 := q9.fr f10 fun x hx e => by have := n8 x hx; have := hfp rb q6.mem; omega
  have b10 := b9.fr f10 fun x hx e => by have := hb5 x hx; omega
  refine ⟨_, rfl, (r_text p10).mono ?_⟩
  rw [d3]
  rintro r w11 ⟨rfl, p11, f11⟩
  have q11 := q10.fr f11 fun x hx e => by have := n8 x hx; have := hfp rb q6.mem; omega
  have b11 := b10.fr f11 fun x hx e => by have := hb5 x hx; omega
  refine ⟨_, rfl, (r_int q11).mono ?_⟩
  rw [d4]
  rintro r w12 ⟨rfl, q12, f12⟩
  have p12 := p11.fr f12 fun x hx e => by have := hfp x hx; omega
  have b12 := b11.fr f12 fun x hx e => by have := hb5 x hx; omega
  have F12 : Fr0 w w12 := fr_at (fr_at (fr_at (fr_at (F5.tr0 (f6.tr0 F8)) (by omega) f9) (by omega) f10) (by omega) f11) (by omega) f12
  refine ⟨_, rfl, ?_⟩
  unfold enthymemelaw02_lives.S14
  intro w13
  have f13 : Fr0 w12 w13 := Fr.alloc _ _ _
  have hlit : Bytes w13 ⟨some ⟨w12.heap.size, 0, none⟩, 6, 6⟩ [172, 2, 1, 2, 97, 98] := (Ow.made w12 ty_uint8 [byteV 172, byteV 2, byteV 1, byteV 2, byteV 97, byteV 98] 6 rfl (by omega)).rd
  refine (same_bytes (b12.fr0 f13).rd hlit (by simp)).mono ?_
  rintro r w14 ⟨rfl, f14⟩
  refine ⟨_, rfl, sel_true (by simp) (sel_true rfl (sel_true rfl (sel_true (beq_self_eq_true _) ((r_end (p12.fr0 (f13.tr0 f14))).mono ?_))))⟩
  rintro r w15 ⟨rfl, f15⟩
  refine ⟨_, rfl, sel_true rfl ((r_end (q12.fr0 (f13.tr0 (f14.tr0 f15)))).mono ?_)⟩
  rintro r w16 ⟨rfl, f16⟩
  exact ⟨_, rfl, rfl, F12.tr0 (f13.tr0 (f14.tr0 (f15.tr0 f16)))⟩
end Go.Proofs.Ytjmnpdacalbpkaa
