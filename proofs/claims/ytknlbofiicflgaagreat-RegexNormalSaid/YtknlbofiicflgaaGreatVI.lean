/- Printed by a program of ours (vcgen.py) from the dump: the conditions of the functions, and that they suffice. -/
import Derived.Test.YtknlbofiicflgaaGreatVD
set_option linter.unusedVariables false
set_option maxRecDepth 100000
set_option maxHeartbeats 2000000
namespace Go.Proofs.YtknlbofiicflgaaGreat
open Go Go.W
namespace regex_Nullable
noncomputable abbrev X : Fx := ⟨Tryz.prog, Tryz.f20, [], [1]⟩
theorem okT (r0_0 r0_1 r0_2 : Int) (r0_3 : Sl) (w : World) (R : Post) (h : newV [] w fun b1 w1 => 
  cf0 [b1] n_regex_Valid #[.agg #[.i r0_0, .int .u8 r0_1, .int .u8 r0_2, r0_3.v]] w1 fun t6 w2 => sel (t6 != 0) (R (.returned (.tuple #[.bool false, .i t6])) w2) (cf1 [b1] n_regex_nullable #[.agg #[.i r0_0, .int .u8 r0_1, .int .u8 r0_2, r0_3.v]] w2 fun t11 w3 => R (.returned (.tuple #[.bool t11, .i 0])) w3)) : Calls Tryz.prog n_regex_Nullable #[.agg #[.i r0_0, .int .u8 r0_1, .int .u8 r0_2, r0_3.v]] w R := callsX X [] h
end regex_Nullable
end Go.Proofs.YtknlbofiicflgaaGreat
