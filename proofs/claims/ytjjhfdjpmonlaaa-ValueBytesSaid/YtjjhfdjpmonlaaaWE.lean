/- The reference of chapter 2: the contracts of its encoders. -/
import Derived.Test.YtjjhfdjpmonlaaaWN
import Derived.Test.YtjjhfdjpmonlaaaVD
namespace Go.Proofs.Ytjjhfdjpmonlaaa
open Go Go.W

theorem grow_bytes {w0 w : World} {s src : Sl} {xs ys : List UInt8} (F : Fr0 w0 w) (ho : BytesO w s xs) (hn : ∀ x ∈ blkL s, w0.heap.size ≤ x) (hr : Bytes w src ys) (hb : xs.length + ys.length ≤ 100000000000000) :
    ∃ s' w', (Builtin.append_ #[ty_sl_uint8, ty_sl_uint8] ty_sl_uint8 #[s.v, src.v]).run Try.prog w = .ok s'.v w' ∧ BytesO w' s' (xs ++ ys) ∧ Fr0 w0 w' ∧ (∀ x ∈ blkL s', w0.heap.size ≤ x) := by
  obtain ⟨s', w', g1, g2, g3, g4, _⟩ := append_bytes (ty := ty_sl_uint8) ho hr (by omega)
  exact ⟨s', w', g1, g2, fr_own F hn g3, new_own F hn g4⟩
theorem grow_byte {w0 w : World} {s : Sl} {xs : List UInt8} (F : Fr0 w0 w) (ho : BytesO w s xs) (hn : ∀ x ∈ blkL s, w0.heap.size ≤ x) (c : UInt8) (hb : xs.length ≤ 10000000000000) :
    ∃ s' w', (Builtin.append_ #[ty_sl_uint8, ty_sl_uint8] ty_sl_uint8 #[s.v, .slice (some (Addr.mk w.heap.size 0 none)) 1 1]).run Try.prog (w.alloc (.cells #[.int .u8 (c.toNat : Int)] ty_uint8)) = .ok s'.v w' ∧ BytesO w' s' (xs ++ [c]) ∧ Fr0 w0 w' ∧ (∀ x ∈ blkL s', w0.heap.size ≤ x) := by
  have f1 : Fr0 w (w.alloc (.cells #[.int .u8 (c.toNat : Int)] ty_uint8)) := Fr.alloc _ _ _
  exact grow_bytes (src := ⟨some ⟨w.heap.size, 0, none⟩, 1, 1⟩) (F.tr0 f1) (ho.fr0 f1) hn (one_byte w c) (by simp; omega)
theorem e_uint_loop {w0 : World} : ∀ (n : Nat) (w : World) (out : Sl) (bs : List UInt8), n < 18446744073709551616 → bs.length + (encU n).length ≤ 100 → Fr0 w0 w → BytesO w out bs → (∀ x ∈ blkL out, w0.heap.size ≤ x) →
    enthymemeref02_Uint.L2 (n : Int) out w (NewBytes w0 (bs ++ encU n)) := by
  intro n
  induction n using Nat.strongRecOn with
  | _ n ih =>
    intro w out bs hn hl F ho hx
    refine enthymemeref02_Uint.L2_step _ _ _ _ (sel_intro (fun h => ?_) (fun h => ?_))
    · have hn' : ¬ n < 128 := by have := of_decide_eq_true h; omega
      rw [encU_large hn'] at hl ⊢
      have e : IntKind.wrap .u8 (IntKind.wrap .u64 (128 + (Int.tmod (n : Int) 128))) = ((UInt8.ofNat (n % 128 + 128)).toNat : Int) := by
        rw [IntWalk.rem_in _ _ (by omega), IntWalk.u64_in _ (by omega), IntWalk.u8_in _ (by omega)]
        simp
        omega
      unfold enthymemeref02_Uint.S4
      rw [e]
      obtain ⟨s', w', g1, g2, g3, g4⟩ := grow_byte F ho hx (UInt8.ofNat (n % 128 + 128)) (by simp at hl; omega)
      refine ⟨s', w', g1, ?_⟩
      show enthymemeref02_Uint.L2 (IntKind.wrap .u64 (Int.tdiv (n : Int) 128)) s' w' _
      rw [IntWalk.u64_quo _ _ (by omega), show ((n : Int) / 128) = ((n / 128 : Nat) : Int) from rfl, show bs ++ UInt8.ofNat (n % 128 + 128) :: encU (n / 128) = (bs ++ [UInt8.ofNat (n % 128 + 128)]) ++ encU (n / 128) by simp]
      exact ih (n / 128) (by omega) w' s' _ (by omega) (by simp at hl ⊢; omega) g3 g2 g4
    · have hn' : n < 128 := by have := of_decide_eq_false h; omega
      rw [encU_small hn'] at hl ⊢
      unfold enthymemeref02_Uint.S6
      rw [show IntKind.wrap .u8 (n : Int) = ((UInt8.ofNat n).toNat : Int) from by rw [u8_nat]; simp]
      obtain ⟨s', w', g1, g2, g3, g4⟩ := grow_byte F ho hx (UInt8.ofNat n) (by simp at hl; omega)
      exact ⟨s', w', g1, s', rfl, g2, g3, g4⟩
theorem e_uint (n : Nat) (hn : n < 18446744073709551616) (w : World) : Calls Try.prog n_enthymemeref02_Uint #[.int .u64 (n : Int)] w (NewBytes w (encU n)) := by
  have := encU_len10 n hn
  exact enthymemeref02_Uint.ok _ w _ (e_uint_loop n w ⟨none, 0, 0⟩ [] hn (by simp; omega) (Fr.refl _ _) (Ow.nil _ _) (by simp [blkL]))
theorem e_zigzag (n : Int) (hn : I64 n) (w : World) : Calls Try.prog n_enthymemeref02_Zigzag #[.int .i64 n] w fun r w' => r = .returned (.int .u64 (zz n : Int)) ∧ w = w' := by
  obtain ⟨h1, h2⟩ := hn
  refine enthymemeref02_Zigzag.ok _ w _ (sel_intro (fun h => ?_) (fun h => ?_))
  · have h' := of_decide_eq_true h
    refine ⟨?_, rfl⟩
    rw [IntWalk.i64_in (n + 1) (by omega), IntWalk.i64_in _ (by omega), IntWalk.u64_in (0 - (n + 1)) (by omega), IntWalk.u64_in (2 * (0 - (n + 1))) (by omega), IntWalk.u64_in _ (by omega)]
    congr 2
    unfold zz
    rw [if_neg (by omega)]
    omega
  · have h' := of_decide_eq_false h
    refine ⟨?_, rfl⟩
    rw [IntWalk.u64_in n (by omega), IntWalk.u64_in _ (by omega)]
    congr 2
    unfold zz
    rw [if_pos (by omega)]
    omega
theorem e_int (n : Int) (hn : I64 n) (w : World) : Calls Try.prog n_enthymemeref02_Int #[.int .i64 n] w (NewBytes w (encI n)) := by
  refine enthymemeref02_Int.ok _ w _ ((e_zigzag n hn w).mono ?_)
  rintro r w1 ⟨rfl, rfl⟩
  refine ⟨_, rfl, (e_uint (zz n) (zz_lt n hn.1 hn.2) w).mono ?_⟩
  rintro r w1 ⟨s, rfl, h⟩
  exact ⟨s, rfl, s, rfl, h⟩
theorem e_raw {w : World} {s : Sl} {b : List UInt8} (hb : Bytes w s b) (hl : b.length ≤ 1000000000) : Calls Try.prog n_enthymemeref02_Raw #[s.v] w (NewBytes w (encR b)) := by
  refine enthymemeref02_Raw.ok _ w _ ?_
  unfold enthymemeref02_Raw.S0 enthymemeref02_Raw.S1
  rw [Bytes.len hb, u64_nat _ (by omega)]
  refine (e_uint b.length (by omega) w).mono ?_
  rintro r w1 ⟨t, rfl, t1, f1, n1⟩
  have := encU_len10 b.length (by omega)
  obtain ⟨s', w2, g1, g2, g3, g4⟩ := grow_bytes f1 t1 n1 (hb.fr0 f1) (by omega)
  exact ⟨t, rfl, s', w2, g1, s', rfl, g2, g3, g4⟩
end Go.Proofs.Ytjjhfdjpmonlaaa
