/- Printed by a program of ours (vcgen.py) from the dump: the conditions of the functions, and that they suffice. -/
import Derived.Test.YtknlbofiicflgaaGreatVN
import Derived.Test.YtknlbofiicflgaaGreatVR
set_option linter.unusedVariables false
set_option maxRecDepth 100000
set_option maxHeartbeats 2000000
namespace Go.Proofs.YtknlbofiicflgaaGreat
open Go Go.W
namespace regex_Normal
noncomputable abbrev X : Fx := ⟨Tryz.prog, Tryz.f7, [(4,[1,0,2,3,4,5,6,7])], [1, 2]⟩
theorem okT (r0_0 r0_1 r0_2 : Int) (r0_3 : Sl) (w : World) (R : Post) (h : newV [] w fun b1 w1 => 
  newV [b1] w1 fun b2 w2 => 
  cf0 [b1, b2] n_regex_Valid #[.agg #[.i r0_0, .int .u8 r0_1, .int .u8 r0_2, r0_3.v]] w2 fun t6 w3 => sel (t6 != 0) (loc [b1, b2] w3 fun w7 => R (.returned (.tuple #[.agg #[.i 0, .int .u8 0, .int .u8 0, .slice none 0 0], .i t6])) w7) (loc [b1, b2] w3 fun w8 => cf5 [b1, b2] n_regex_forms #[] w8 fun t11 w9 => cf2 [b1, b2] n_regex_normal #[.map t11, .agg #[.i r0_0, .int .u8 r0_1, .int .u8 r0_2, r0_3.v]] w9 fun t13_0 t13_1 t13_2 t13_3 w10 => cf6 [b1, b2] n_regex_limited #[.agg #[.i t13_0, .int .u8 t13_1, .int .u8 t13_2, t13_3.v]] w10 fun t14_0_0 t14_0_1 t14_0_2 t14_0_3 t14_1 w11 => loc [b1, b2] w11 fun w15 => R (.returned (.tuple #[.agg #[.i t14_0_0, .int .u8 t14_0_1, .int .u8 t14_0_2, t14_0_3.v], .i t14_1])) w15)) : Calls Tryz.prog n_regex_Normal #[.agg #[.i r0_0, .int .u8 r0_1, .int .u8 r0_2, r0_3.v]] w R := callsX X [] h
end regex_Normal
namespace enthymemelaw04_plain
noncomputable abbrev X : Fx := ⟨Tryz.prog, Tryz.f15, [(5,[0,1,2,3,4,5,6,7,8,9,10,11])], [1, 2, 3]⟩
abbrev P0 : Ps := [(1, .l [.I, .Y, .Y, .s] ty_regex_Regex), (2, .l [.I, .Y, .Y, .s] ty_enthymemeref04_Regex), (3, .l [.I, .Y, .Y, .s] ty_enthymemeref04_Regex), (4, .v [.I])]
def L0T (r1 : Nat) (r1_0 r1_1 r1_2 : Int) (r1_3 : Sl) (t2 : Nat) (t2_0 t2_1 t2_2 : Int) (t2_3 : Sl) (out3 : Nat) (out3_0 out3_1 out3_2 : Int) (out3_3 : Sl) (i4 : Int) (w : World) (R : Post) : Prop := mkCur P0 0 (X.Sem (pth [0, 1, 1, 1, 2])) r1 r1_0 r1_1 r1_2 r1_3 t2 t2_0 t2_1 t2_2 t2_3 out3 out3_0 out3_1 out3_2 out3_3 i4 w R
noncomputable def eL0 := entL X (pth [0, 1, 1, 1, 2]) P0 L0T
theorem L0T_step : ∀ (r1 : Nat) (r1_0 r1_1 r1_2 : Int) (r1_3 : Sl) (t2 : Nat) (t2_0 t2_1 t2_2 : Int) (t2_3 : Sl) (out3 : Nat) (out3_0 out3_1 out3_2 : Int) (out3_3 : Sl) (i4 : Int) (w : World) (R : Post) (h : sel (decide (i4 < ((r1_3.n : Nat) : Int))) ((0 : Int) ≤ i4 ∧ i4 < ((r1_3.n : Nat) : Int) ∧ optP r1_3.a fun t24_p => loc [r1, t2, out3] w fun w8 => ld4_0 w8 (t24_p.add (Int.toNat i4 * 4)) fun t25_0 t25_1 t25_2 t25_3 => cf2 [r1, t2, out3] n_enthymemelaw04_plain #[.agg #[.i t25_0, .int .u8 t25_1, .int .u8 t25_2, t25_3.v]] w8 fun t26_0 t26_1 t26_2 t26_3 w9 => nwV w9 (.cells #[.i t26_0, .int .u8 t26_1, .int .u8 t26_2, t26_3.v] ty_enthymemeref04_Regex) fun w10 => 
  ∃ (t28 : Sl) (w11 : World), Sem.run Tryz.prog (Builtin.append_ #[ty_sl_enthymemeref04_Regex, ty_sl_enthymemeref04_Regex] ty_sl_enthymemeref04_Regex #[out3_3.v, .slice (some (nb w9)) 1 1]) w10 = .ok (t28.v) w11 ∧ kept [r1, t2, out3] w10 w11 ∧ loc [r1, t2, out3] w11 fun w12 => L0T r1 r1_0 r1_1 r1_2 r1_3 t2 t2_0 t2_1 t2_2 t2_3 out3 out3_0 out3_1 out3_2 t28 (IntKind.wrap .i64 (i4 + 1)) w12 R) (loc [r1, t2, out3] w fun w16 => R (.returned (.agg #[.i out3_0, .int .u8 out3_1, .int .u8 out3_2, out3_3.v])) w16)), L0T r1 r1_0 r1_1 r1_2 r1_3 t2 t2_0 t2_1 t2_2 t2_3 out3 out3_0 out3_1 out3_2 out3_3 i4 w R := mp (stepL (X := X) [eL0] (pth [0, 1, 1, 1, 2]) P0)
theorem okT (r0_0 r0_1 r0_2 : Int) (r0_3 : Sl) (w : World) (R : Post) (h : newV [] w fun b1 w1 => 
  newV [b1] w1 fun b2 w2 => 
  newV [b1, b2] w2 fun b3 w3 => 
  loc [b1, b2, b3] w3 fun w7 => L0T b1 r0_0 r0_1 r0_2 r0_3 b2 0 0 0 ⟨none, 0, 0⟩ b3 r0_0 r0_1 r0_2 ⟨none, 0, 0⟩ 0 w7 R) : Calls Tryz.prog n_enthymemelaw04_plain #[.agg #[.i r0_0, .int .u8 r0_1, .int .u8 r0_2, r0_3.v]] w R := callsX X [eL0] h
end enthymemelaw04_plain
namespace enthymemelaw04_same
noncomputable abbrev X : Fx := ⟨Tryz.prog, Tryz.f12, [(1,[0,2,1,3,4,5])], [2, 3]⟩
theorem okT (a0_0 a0_1 a0_2 : Int) (a0_3 : Sl) (b1_0 b1_1 b1_2 : Int) (b1_3 : Sl) (w : World) (R : Post) (h : newV [] w fun b2 w1 => 
  newV [b2] w1 fun b3 w2 => 
  loc [b2, b3] w2 fun w3 => cf2 [b2, b3] n_enthymemelaw04_plain #[.agg #[.i a0_0, .int .u8 a0_1, .int .u8 a0_2, a0_3.v]] w3 fun t6_0 t6_1 t6_2 t6_3 w4 => cf0 [b2, b3] n_enthymemeref04_Compare #[.agg #[.i t6_0, .int .u8 t6_1, .int .u8 t6_2, t6_3.v], .agg #[.i b1_0, .int .u8 b1_1, .int .u8 b1_2, b1_3.v]] w4 fun t8 w5 => R (.returned (.bool (t8 == 0))) w5) : Calls Tryz.prog n_enthymemelaw04_same #[.agg #[.i a0_0, .int .u8 a0_1, .int .u8 a0_2, a0_3.v], .agg #[.i b1_0, .int .u8 b1_1, .int .u8 b1_2, b1_3.v]] w R := callsX X [] h
end enthymemelaw04_same
end Go.Proofs.YtknlbofiicflgaaGreat
