/- Contracts of functions that many packages share. -/
import Derived.Test.YtknlbofiicflgaaGreatB
namespace Go.Proofs.YtknlbofiicflgaaGreat
open Go Go.W
def aroundI (n m : Int) : Int := if n < 0 then Int.tmod (0 - (n + 1)) m else Int.tmod n m
theorem aroundI_range (n m : Int) (hm : 1 ≤ m) : 0 ≤ aroundI n m ∧ aroundI n m < m := by
  unfold aroundI
  split
  · exact ⟨Int.tmod_nonneg _ (by omega), Int.tmod_lt_of_pos _ (by omega)⟩
  · exact ⟨Int.tmod_nonneg _ (by omega), Int.tmod_lt_of_pos _ (by omega)⟩
abbrev I64 (n : Int) : Prop := -9223372036854775808 ≤ n ∧ n ≤ 9223372036854775807
abbrev U64 (n : Int) : Prop := 0 ≤ n ∧ n ≤ 18446744073709551615
theorem around_any (n m : Int) (w : World) (hm : 1 ≤ m) (h : I64 n) :
    Calls Tryz.prog n_enthymemeref01_Around #[.int .i64 n, .int .i64 m] w fun r w' => r = .returned (.int .i64 (aroundI n m)) ∧ w = w' := by
  obtain ⟨h1, h2⟩ := h
  refine enthymemeref01_Around.ok n m w _ ?_
  refine sel_intro (fun h => ?_) (fun h => ?_)
  · have h' : n < 0 := by simpa using h
    refine ⟨by omega, ?_, rfl⟩
    rw [show IntKind.wrap .i64 (n + 1) = n + 1 from IntWalk.i64_in _ (by omega), show IntKind.wrap .i64 (0 - (n + 1)) = 0 - (n + 1) from IntWalk.i64_in _ (by omega)]
    unfold aroundI; rw [if_pos h']
  · have h' : ¬ n < 0 := by simpa using h
    refine ⟨by omega, ?_, rfl⟩
    unfold aroundI; rw [if_neg h']

end Go.Proofs.YtknlbofiicflgaaGreat
