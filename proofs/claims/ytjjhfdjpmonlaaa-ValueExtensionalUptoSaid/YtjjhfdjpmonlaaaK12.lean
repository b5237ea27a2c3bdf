/- The law's arrays: the contract. -/
import Derived.Test.YtjjhfdjpmonlaaaP3
namespace Go.Proofs.Ytjjhfdjpmonlaaa
open Go Go.W

theorem around_small (n m : Int) (h0 : 0 ≤ n) (h1 : n < m) : aroundI n m = n := by
  unfold aroundI
  rw [if_neg (by omega)]
  exact Int.tmod_eq_of_lt h0 h1
theorem l_array (n : Int) (hn : I64 n) (l : Sl) (xs : List Int) (w : World) (h : Nums w l xs) (hx : ∀ x ∈ xs, I64 x) : Calls Try.prog n_enthymemelaw06_array #[.int .i64 n, l.v] w fun r w' => (∃ s v, validS s = true ∧ arrS s = true ∧ 1 ≤ s.x ∧ s.x ≤ 3 ∧ Made s v ∧ RetV ty_enthymemeref06_Entry w v r w') ∧ Fr0 w w' := by
  refine enthymemelaw06_array.okT _ _ w _ ((lh0 [] (by simp)).newg fun b4 w1 H1 => H1.callg (around0 n 262144 w1 (by omega) hn) ?_)
  rintro _ w2 ⟨q, rfl, hq⟩ H2
  refine ⟨_, rfl, H2.callg (around0 n 2 w2 (by omega) hn) ?_⟩
  rintro _ w3 ⟨j, rfl, hj⟩ H3
  have e : IntKind.wrap .i64 ((IntKind.wrap .i64 ((IntKind.wrap .i64 (4 * (q : Int))) + 2)) + (j : Int)) = 4 * (q : Int) + 2 + j := by
    rw [IntWalk.i64_in (4 * (q : Int)) (by omega), IntWalk.i64_in (4 * (q : Int) + 2) (by omega), IntWalk.i64_in _ (by omega)]
  refine ⟨_, rfl, ?_⟩
  rw [e]
  refine H3.callg (r_SortK (4 * (q : Int) + 2 + j) (by constructor <;> omega) w3) ?_
  rintro _ w4 ⟨s, rfl, hs, hk⟩ H4
  rw [around_small _ _ (by omega) (by omega)] at hk
  have hk' : s.k = 2 ∨ s.k = 3 := by
    have : Int.tmod (4 * (q : Int) + 2 + j) 4 = 2 + (j : Int) := by rw [Int.tmod_eq_emod_of_nonneg (by omega)]; omega
    omega
  refine ⟨_, _, _, rfl, H4.newg fun b5 w5 H5 => H5.locg fun w8 H8 => H8.callg (around0 n 3 w8 (by omega) hn) ?_⟩
  rintro _ w9 ⟨t, rfl, ht⟩ H9
  have e1 : IntKind.wrap .i64 (1 + (t : Int)) = 1 + (t : Int) := IntWalk.i64_in _ (by omega)
  have hs' : validS ⟨s.k, s.n, 1 + (t : Int)⟩ = true := by
    unfold validS at hs ⊢
    simp only [Bool.or_eq_true, Bool.and_eq_true, decide_eq_true_eq, beq_iff_eq] at hs ⊢
    omega
  refine ⟨_, rfl, H9.locg fun w10 H10 => ?_⟩
  rw [e1]
  refine H10.callr (r_Of ⟨s.k, s.n, 1 + (t : Int)⟩ hs' l xs w10 (h.fr0 H10.fr) hx) ?_
  rintro _ w11 ⟨v, made, sv, rfl, ov, nv⟩ _ F11
  have H11 := F11.own (.row ty_enthymemeref06_Entry 3 sv (entsC v.m)) ov nv
  refine ⟨_, _, _, _, _, _, rfl, H11.locg fun w17 H17 => ⟨⟨⟨s.k, s.n, 1 + (t : Int)⟩, v, hs', ?_, ?_, ?_, made, sv, rfl, H17.get 2, fun b hb => ?_⟩, H17.fr⟩⟩
  · unfold arrS
    simp only [Bool.or_eq_true, beq_iff_eq]
    exact hk'
  · show (1 : Int) ≤ 1 + (t : Int)
    omega
  · show 1 + (t : Int) ≤ 3
    omega
  · exact (H17.new _ (List.mem_of_getElem? (i := 2) rfl) b hb).resolve_right id
theorem size_of {x : Int} (h1 : 1 ≤ x) (h3 : x ≤ 3) : ¬ IntKind.wrap .u64 x < 0 ∧ IntKind.wrap .i64 (1 * 2 ^ (min (Int.toNat (IntKind.wrap .u64 x)) (IntKind.bits .i64))) = ((2 ^ x.toNat : Nat) : Int) ∧ (2 : Nat) ^ x.toNat ≤ 8 ∧ 1 ≤ (2 : Nat) ^ x.toNat := by
  have : x = 1 ∨ x = 2 ∨ x = 3 := by omega
  rcases this with rfl | rfl | rfl <;> exact ⟨by decide, by decide, by decide, by decide⟩
end Go.Proofs.Ytjjhfdjpmonlaaa
