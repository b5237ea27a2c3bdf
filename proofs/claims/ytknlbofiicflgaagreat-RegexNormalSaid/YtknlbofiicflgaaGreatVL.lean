/- Printed by a program of ours (vcgen.py) from the dump: the conditions of the functions, and that they suffice. -/
import Derived.Test.YtknlbofiicflgaaGreatVN
import Derived.Test.YtknlbofiicflgaaGreatVS
import Derived.Test.YtknlbofiicflgaaGreatVP
set_option linter.unusedVariables false
set_option maxRecDepth 100000
set_option maxHeartbeats 2000000
namespace Go.Proofs.YtknlbofiicflgaaGreat
open Go Go.W
namespace enthymemelaw04_lives
noncomputable abbrev X : Fx := ⟨Tryz.prog, Tryz.f18, [], [1, 4, 7, 10, 12]⟩
theorem okT  (w : World) (R : Post) (h : ca13 n_regex_Parse #[.string (ByteArray.mk #[39, 97, 39, 39, 98, 39, 124, 33, 40, 39, 97, 39, 38, 91, 97, 45, 122, 93, 41])] w fun t15_0_0 t15_0_1 t15_0_2 t15_0_3 t15_1 t15_2 w1 => newV [] w1 fun b1 w2 => 
  loc [b1] w2 fun w6 => cf13 [b1] n_regex_Parse #[.string (ByteArray.mk #[39, 97, 39, 39, 98, 39, 124, 33, 40, 39, 97, 39, 38, 91, 39, 97, 39, 45, 39, 122, 39, 93, 41])] w6 fun t20_0_0 t20_0_1 t20_0_2 t20_0_3 t20_1 t20_2 w7 => newV [b1] w7 fun b4 w8 => 
  loc [b1, b4] w8 fun w12 => cf13 [b1, b4] n_regex_Parse #[.string (ByteArray.mk #[39, 97, 39, 42, 39, 98, 39])] w12 fun t25_0_0 t25_0_1 t25_0_2 t25_0_3 t25_1 t25_2 w13 => newV [b1, b4] w13 fun b7 w14 => 
  loc [b1, b4, b7] w14 fun w18 => cf6 [b1, b4, b7] n_regex_Derive #[.agg #[.i t25_0_0, .int .u8 t25_0_1, .int .u8 t25_0_2, t25_0_3.v], .int .u8 97] w18 fun t31_0_0 t31_0_1 t31_0_2 t31_0_3 t31_1 w19 => newV [b1, b4, b7] w19 fun b10 w20 => 
  loc [b1, b4, b7, b10] w20 fun w24 => cf6 [b1, b4, b7, b10] n_regex_Derive #[.agg #[.i t25_0_0, .int .u8 t25_0_1, .int .u8 t25_0_2, t25_0_3.v], .int .u8 98] w24 fun t36_0_0 t36_0_1 t36_0_2 t36_0_3 t36_1 w25 => newV [b1, b4, b7, b10] w25 fun b12 w26 => 
  sel (t15_2 == 2) (sel (t20_2 == 0) (sel (t25_2 == 0) (sel (t31_1 == 0) (sel (t36_1 == 0) (sel (((t20_0_3.n : Nat) : Int) == 2) (loc [b1, b4, b7, b10, b12] w26 fun w30 => cf0 [b1, b4, b7, b10, b12] n_regex_Compare #[.agg #[.i t31_0_0, .int .u8 t31_0_1, .int .u8 t31_0_2, t31_0_3.v], .agg #[.i t25_0_0, .int .u8 t25_0_1, .int .u8 t25_0_2, t25_0_3.v]] w30 fun t66 w31 => sel (t66 == 0) (cf0 [b1, b4, b7, b10, b12] n_regex_Compare #[.agg #[.i t36_0_0, .int .u8 t36_0_1, .int .u8 t36_0_2, t36_0_3.v], .agg #[.i 1, .int .u8 0, .int .u8 0, .slice none 0 0]] w31 fun t72 w32 => R (.returned (.bool (t72 == 0))) w32) (R (.returned (.bool false)) w31)) (loc [b1, b4, b7, b10, b12] w26 fun w30 => R (.returned (.bool false)) w30)) (loc [b1, b4, b7, b10, b12] w26 fun w30 => R (.returned (.bool false)) w30)) (loc [b1, b4, b7, b10, b12] w26 fun w30 => R (.returned (.bool false)) w30)) (loc [b1, b4, b7, b10, b12] w26 fun w30 => R (.returned (.bool false)) w30)) (loc [b1, b4, b7, b10, b12] w26 fun w30 => R (.returned (.bool false)) w30)) (loc [b1, b4, b7, b10, b12] w26 fun w30 => R (.returned (.bool false)) w30)) : Calls Tryz.prog n_enthymemelaw04_lives #[] w R := callsX X [] h
end enthymemelaw04_lives
end Go.Proofs.YtknlbofiicflgaaGreat
