/- enthymemelaw02.WireSizes returns true for every input and writes nothing that was there before. -/
import Derived.Test.YtjmnpdacalbpkaaWM
import Derived.Test.YtjmnpdacalbpkaaVA
namespace Go.Proofs.Ytjmnpdacalbpkaa
open Go Go.W
namespace Siz
def more (r : Nat) : Nat := if r = 0 then 0 else (encU r).length
theorem more_step (r : Nat) (h : r ≠ 0) : more r = 1 + more (r / 128) := by
  unfold more
  rw [if_neg h]
  by_cases hr : r < 128
  · rw [encU_small hr, if_pos (by omega)]; rfl
  · rw [encU_large hr, if_neg (by omega)]; simp; omega
theorem len_more (k : Nat) : (encU k).length = 1 + more (k / 128) := by
  by_cases hk : k < 128
  · rw [encU_small hk, show k / 128 = 0 by omega]; rfl
  · rw [encU_large hk]
    unfold more
    rw [if_neg (by omega)]; simp; omega
theorem one (m : Int) (h : -63 ≤ m ∧ m ≤ 63) : (encI m).length = 1 := by
  unfold encI
  rw [encU_small (by unfold zz; split <;> omega)]; rfl
theorem fin (w0 w : World) (F : Fr0 w0 w) (n : Int) (hn : I64 n) (k : Nat) (hk : k < 18446744073709551616) :
    enthymemelaw02_WireSizes.S8 n (k : Int) ((encU k).length : Int) w fun r w' => r = .returned (.bool true) ∧ Fr0 w0 w' := by
  unfold enthymemelaw02_WireSizes.S8
  intro w1
  have f1 : Fr0 w0 w1 := F.tr0 (Fr.alloc _ _ _)
  have n1 : ∀ x ∈ [w.heap.size], w0.heap.size ≤ x := by have := F.size; simp; omega
  refine (w_uint (WrRep.new w) k hk (by simp)).mono ?_
  rintro r w2 ⟨rfl, own2, r2, g2, o2⟩
  have f2 := fr_own f1 n1 g2
  have n2 := new_own f1 n1 o2
  refine ⟨rfl, ?_⟩
  unfold enthymemelaw02_WireSizes.S10
  intro w3
  have a3 : Fr0 w2 w3 := Fr.alloc _ _ _
  have f3 : Fr0 w0 w3 := f2.tr0 a3
  have r3 := r2.fr0 a3
  have x3 := WrRep.new w2
  have d3 : ∀ x ∈ [w2.heap.size], w2.heap.size ≤ x := by simp
  have m3 : ∀ x ∈ [w2.heap.size], w0.heap.size ≤ x := by have := f2.size; simp; omega
  refine (bound_any n 63 w3 (by omega) (by omega) hn).mono ?_
  rintro r w4 ⟨rfl, rfl⟩
  have hm := aroundI_range n (2 * 63 + 1) (by omega)
  obtain ⟨m, hmd⟩ : ∃ m, m = aroundI n (2 * 63 + 1) - 63 := ⟨_, rfl⟩
  rw [← hmd]
  have hm' : -63 ≤ m ∧ m ≤ 63 := by omega
  have e1 := one m hm'
  have e2 := one (-m) (by omega)
  refine ⟨_, rfl, (w_int x3 m (by omega) (by simp)).mono ?_⟩
  rintro r w5 ⟨rfl, own5, x5, g5, o5⟩
  have lt2 := r2.lt
  have r5 := r3.fr g5 fun x hx hm => by have := d3 x hm; have := lt2 x hx; omega
  have f5 := fr_own f3 m3 g5
  have m5 := new_own f3 m3 o5
  have d5 := new_own a3 d3 o5
  refine ⟨rfl, ?_⟩
  unfold enthymemelaw02_WireSizes.S13
  rw [show IntKind.wrap .i64 (0 - m) = -m from by rw [IntWalk.i64_in _ (by omega)]; omega]
  refine (w_int x5 (-m) (by omega) (by simp; omega)).mono ?_
  rintro r w6 ⟨rfl, own6, x6, g6, o6⟩
  have s25 : w2.heap.size ≤ w5.heap.size := Nat.le_trans a3.size g5.size
  have r6 := r5.fr g6 fun x hx hm => by have := d5 x hm; have := lt2 x hx; omega
  have f6 := fr_own f5 m5 g6
  have m6 := new_own f5 m5 o6
  have d6 : ∀ x ∈ own6, w2.heap.size ≤ x := fun x hx => by
    rcases o6 x hx with h | h
    · exact d5 x h
    · omega
  refine ⟨rfl, (w_bool x6 _ (by simp; omega)).mono ?_⟩
  rintro r w7 ⟨rfl, own7, x7, g7, o7⟩
  have r7 := r6.fr g7 fun x hx hm => by have := d6 x hm; have := lt2 x hx; omega
  have f7 := fr_own f6 m6 g7
  have hlen : ([] ++ encI m ++ encI (-m) ++ encB (decide (m > 0))).length = 3 := by
    cases decide (m > 0) <;> simp [e1, e2, encB]
  refine ⟨rfl, (w_done r7 (by have := encU_len10 k hk; simp; omega)).mono ?_⟩
  rintro r w8 ⟨b, rfl, b8, f8, _⟩
  have hb : b.n = (encU k).length := by simpa using b8.1
  refine ⟨b, rfl, sel_true (by rw [hb]; simp) ((w_done (x7.fr0 f8) (by rw [hlen]; omega)).mono ?_)⟩
  rintro r w9 ⟨c, rfl, c9, f9, _⟩
  have hc : c.n = 3 := by rw [Bytes.len c9.rd, hlen]
  refine ⟨c, rfl, sel_true (by rw [hc]; rfl) ((lives_any w9).mono ?_)⟩
  rintro r w10 ⟨rfl, f10⟩
  exact ⟨_, rfl, rfl, f7.tr0 (f8.tr0 (f9.tr0 f10))⟩
theorem loop (w0 w : World) (F : Fr0 w0 w) (n : Int) (hn : I64 n) (k : Nat) (hk : k < 18446744073709551616) :
    ∀ (rest size : Nat), rest < 18446744073709551616 → size + more rest = (encU k).length →
      enthymemelaw02_WireSizes.L4 n (k : Int) (size : Int) (rest : Int) w fun r w' => r = .returned (.bool true) ∧ Fr0 w0 w' := by
  intro rest
  induction rest using Nat.strongRecOn with
  | _ rest ih =>
    intro size hr hs
    refine enthymemelaw02_WireSizes.L4_step _ _ _ _ _ _ (sel_intro (fun h => ?_) (fun h => ?_))
    · have h' := of_decide_eq_true h
      have hl := encU_len10 k hk
      have e := more_step rest (by omega)
      show enthymemelaw02_WireSizes.L4 n (k : Int) (IntKind.wrap .i64 ((size : Int) + 1)) (IntKind.wrap .u64 (Int.tdiv (rest : Int) 128)) w _
      rw [i64_next size (by omega), IntWalk.u64_quo _ _ (by omega), show ((rest : Int) / 128) = ((rest / 128 : Nat) : Int) from rfl]
      exact ih (rest / 128) (by omega) (size + 1) (by omega) (by omega)
    · have h' := of_decide_eq_false h
      have : rest = 0 := by omega
      subst this
      have e : size = (encU k).length := by simpa [more] using hs
      rw [e]
      exact fin w0 w F n hn k hk
theorem walk (u n shift : Int) (hu : U64 u) (hn : I64 n) (hs : I64 shift) (w : World) :
    Calls Try.prog n_enthymemelaw02_WireSizes #[.int .u64 u, .int .i64 n, .int .i64 shift] w fun r w' => r = .returned (.bool true) ∧ Fr0 w w' := by
  refine enthymemelaw02_WireSizes.ok u n shift w _ ((around_any shift 64 w (by omega) hs).mono ?_)
  rintro r w1 ⟨rfl, rfl⟩
  have hr := aroundI_range shift 64 (by omega)
  obtain ⟨d, hd⟩ := Int.eq_ofNat_of_zero_le hr.1
  rw [hd] at hr ⊢
  refine ⟨_, rfl, ?_⟩
  rw [u64_nat d (by omega)]
  refine ⟨by omega, ?_⟩
  obtain ⟨x, rfl⟩ := Int.eq_ofNat_of_zero_le hu.1
  rw [Int.toNat_natCast, show min d (IntKind.bits .u64) = d from by show min d 64 = d; omega, show ((2 : Int) ^ d) = ((2 ^ d : Nat) : Int) from by rw [Int.natCast_pow]; rfl, fdiv_nat x _ (Nat.pow_pos (by omega))]
  have hx : x / 2 ^ d < 18446744073709551616 := Nat.lt_of_le_of_lt (Nat.div_le_self _ _) (by have := hu.2; omega)
  generalize x / 2 ^ d = k at *
  show enthymemelaw02_WireSizes.L4 n (k : Int) 1 (IntKind.wrap .u64 (Int.tdiv (k : Int) 128)) w _
  rw [IntWalk.u64_quo _ _ (by omega), show ((k : Int) / 128) = ((k / 128 : Nat) : Int) from rfl]
  exact loop w w (Fr.refl _ _) n hn k hx (k / 128) 1 (by omega) (by rw [len_more k])
end Siz
end Go.Proofs.Ytjmnpdacalbpkaa
