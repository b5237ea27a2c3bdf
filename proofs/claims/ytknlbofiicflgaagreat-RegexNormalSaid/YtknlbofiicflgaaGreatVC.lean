/- Printed by a program of ours (vcgen.py) from the dump: the conditions of the functions, and that they suffice. -/
import Derived.Test.YtknlbofiicflgaaGreatV
set_option linter.unusedVariables false
set_option maxRecDepth 100000
set_option maxHeartbeats 2000000
namespace Go.Proofs.YtknlbofiicflgaaGreat
open Go Go.W
namespace cmp_isNaN_int
noncomputable abbrev X : Fx := ⟨Tryz.prog, Tryz.f57, [], []⟩
theorem ok (x0 : Int) (w : World) (R : Post) (h : R (.returned (.bool (x0 != x0))) w) : Calls Tryz.prog n_cmp_isNaN_int #[.i x0] w R := callsX X [] h
end cmp_isNaN_int
namespace cmp_isNaN_byte
noncomputable abbrev X : Fx := ⟨Tryz.prog, Tryz.f58, [], []⟩
theorem ok (x0 : Int) (w : World) (R : Post) (h : R (.returned (.bool (x0 != x0))) w) : Calls Tryz.prog n_cmp_isNaN_byte #[.int .u8 x0] w R := callsX X [] h
end cmp_isNaN_byte
namespace cmp_Compare_int
noncomputable abbrev X : Fx := ⟨Tryz.prog, Tryz.f34, [], []⟩
theorem ok (x0 y1 : Int) (w : World) (R : Post) (h : ca1 n_cmp_isNaN_int #[.i x0] w fun t8 w1 => ca1 n_cmp_isNaN_int #[.i y1] w1 fun t10 w2 => sel t8 (sel t10 (R (.returned (.i 0)) w2) (R (.returned (.i (-1))) w2)) (sel t10 (R (.returned (.i 1)) w2) (sel (decide (x0 < y1)) (R (.returned (.i (-1))) w2) (sel (decide (x0 > y1)) (R (.returned (.i 1)) w2) (R (.returned (.i 0)) w2))))) : Calls Tryz.prog n_cmp_Compare_int #[.i x0, .i y1] w R := callsX X [] h
end cmp_Compare_int
namespace cmp_Compare_byte
noncomputable abbrev X : Fx := ⟨Tryz.prog, Tryz.f35, [], []⟩
theorem ok (x0 y1 : Int) (w : World) (R : Post) (h : ca1 n_cmp_isNaN_byte #[.int .u8 x0] w fun t8 w1 => ca1 n_cmp_isNaN_byte #[.int .u8 y1] w1 fun t10 w2 => sel t8 (sel t10 (R (.returned (.i 0)) w2) (R (.returned (.i (-1))) w2)) (sel t10 (R (.returned (.i 1)) w2) (sel (decide (x0 < y1)) (R (.returned (.i (-1))) w2) (sel (decide (x0 > y1)) (R (.returned (.i 1)) w2) (R (.returned (.i 0)) w2))))) : Calls Tryz.prog n_cmp_Compare_byte #[.int .u8 x0, .int .u8 y1] w R := callsX X [] h
end cmp_Compare_byte
namespace cmp_Or_int
noncomputable abbrev X : Fx := ⟨Tryz.prog, Tryz.f33, [], []⟩
abbrev P0 : Ps := [(3, .v [.I]), (6, .v [.s]), (7, .v [.I]), (8, .v [.I])]
def L0 (zero3 : Int) (t6 : Sl) (t7 t8 : Int) (w : World) (R : Post) : Prop := mkCur P0 0 (X.Sem (pth [0, 1, 1, 1, 2])) zero3 t6 t7 t8 w R
noncomputable def eL0 := entL X (pth [0, 1, 1, 1, 2]) P0 L0
theorem L0_step : ∀ (zero3 : Int) (t6 : Sl) (t7 t8 : Int) (w : World) (R : Post) (h : sel (decide (t8 < t7)) ((0 : Int) ≤ t8 ∧ t8 < ((t6.n : Nat) : Int) ∧ optP t6.a fun t10_p => ∃ t11 : Int, w.cell? (t10_p.add (Int.toNat t8 * 1)) = some (.i t11) ∧ 
  sel (t11 != zero3) (R (.returned (.i t11)) w) (L0 zero3 t6 t7 (IntKind.wrap .i64 (t8 + 1)) w R)) (R (.returned (.i zero3)) w)), L0 zero3 t6 t7 t8 w R := mp (stepL (X := X) [eL0] (pth [0, 1, 1, 1, 2]) P0)
theorem ok (vals0 : Sl) (w : World) (R : Post) (h : L0 0 vals0 ((vals0.n : Nat) : Int) 0 w R) : Calls Tryz.prog n_cmp_Or_int #[vals0.v] w R := callsX X [eL0] h
end cmp_Or_int
namespace regex_Compare
noncomputable abbrev X : Fx := ⟨Tryz.prog, Tryz.f13, [(1,[0,1,2,3,5,6,7,8,10,11,12,13,4,9,14,15,16,17])], [2, 3]⟩
theorem okT (a0_0 a0_1 a0_2 : Int) (a0_3 : Sl) (b1_0 b1_1 b1_2 : Int) (b1_3 : Sl) (w : World) (R : Post) (h : newV [] w fun b2 w1 => 
  newV [b2] w1 fun b3 w2 => 
  loc [b2, b3] w2 fun w3 => cf0 [b2, b3] n_cmp_Compare_int #[.i a0_0, .i b1_0] w3 fun t10 w4 => cf0 [b2, b3] n_cmp_Compare_byte #[.int .u8 a0_1, .int .u8 b1_1] w4 fun t15 w5 => cf0 [b2, b3] n_cmp_Compare_byte #[.int .u8 a0_2, .int .u8 b1_2] w5 fun t20 w6 => nwV w6 (.cells #[.i t10, .i t15, .i t20] ty_int) fun w7 => 
  cf0 [b2, b3] n_cmp_Or_int #[.slice (some (nb w6)) 3 3] w7 fun t22 w8 => sel (t22 != 0) (R (.returned (.i t22)) w8) (cf0 [b2, b3] n_slices_CompareFunc_sl_regex_Regex_sl_regex_Regex_regex_Regex_regex_Regex #[a0_3.v, b1_3.v, .func (.func n_regex_Compare) #[] #[]] w8 fun t30 w9 => R (.returned (.i t30)) w9)) : Calls Tryz.prog n_regex_Compare #[.agg #[.i a0_0, .int .u8 a0_1, .int .u8 a0_2, a0_3.v], .agg #[.i b1_0, .int .u8 b1_1, .int .u8 b1_2, b1_3.v]] w R := callsX X [] h
end regex_Compare
namespace slices_CompareFunc_sl_regex_Regex_sl_regex_Regex_regex_Regex_regex_Regex
noncomputable abbrev X : Fx := ⟨Tryz.prog, Tryz.f36, [], [8, 9]⟩
abbrev P0 : Ps := [(0, .v [.s]), (1, .v [.s]), (2, .v [.g n_regex_Compare 0 0]), (11, .v [.s]), (12, .v [.I]), (13, .v [.I])]
def L0T (s10 s21 t11 : Sl) (t12 t13 : Int) (w : World) (R : Post) : Prop := mkCur P0 0 (X.Sem (pth [0, 1, 1, 1, 1])) s10 s21 t11 t12 t13 w R
noncomputable def eL0 := entL X (pth [0, 1, 1, 1, 1]) P0 L0T
theorem L0T_step : ∀ (s10 s21 t11 : Sl) (t12 t13 : Int) (w : World) (R : Post) (h : sel (decide (t13 < t12)) ((0 : Int) ≤ t13 ∧ t13 < ((t11.n : Nat) : Int) ∧ optP t11.a fun t16_p => ld4_0 w (t16_p.add (Int.toNat t13 * 4)) fun t17_0 t17_1 t17_2 t17_3 => newV [] w fun b8 w1 => 
  sel (decide (t13 ≥ ((s21.n : Nat) : Int))) (loc [b8] w1 fun w5 => R (.returned (.i 1)) w5) ((0 : Int) ≤ t13 ∧ t13 < ((s21.n : Nat) : Int) ∧ optP s21.a fun t24_p => loc [b8] w1 fun w5 => ld4_0 w5 (t24_p.add (Int.toNat t13 * 4)) fun t25_0 t25_1 t25_2 t25_3 => newV [b8] w5 fun b9 w6 => 
  loc [b8, b9] w6 fun w10 => cf0 [b8, b9] n_regex_Compare #[.agg #[.i t17_0, .int .u8 t17_1, .int .u8 t17_2, t17_3.v], .agg #[.i t25_0, .int .u8 t25_1, .int .u8 t25_2, t25_3.v]] w10 fun t29 w11 => sel (t29 != 0) (R (.returned (.i t29)) w11) (L0T s10 s21 t11 t12 (IntKind.wrap .i64 (t13 + 1)) w11 R))) (sel (decide (((s10.n : Nat) : Int) < ((s21.n : Nat) : Int))) (R (.returned (.i (-1))) w) (R (.returned (.i 0)) w))), L0T s10 s21 t11 t12 t13 w R := mp (stepL (X := X) [eL0] (pth [0, 1, 1, 1, 1]) P0)
theorem okT (s10 s21 : Sl) (w : World) (R : Post) (h : L0T s10 s21 s10 ((s10.n : Nat) : Int) 0 w R) : Calls Tryz.prog n_slices_CompareFunc_sl_regex_Regex_sl_regex_Regex_regex_Regex_regex_Regex #[s10.v, s21.v, .func (.func n_regex_Compare) #[] #[]] w R := callsX X [eL0] h
end slices_CompareFunc_sl_regex_Regex_sl_regex_Regex_regex_Regex_regex_Regex
namespace regex_equal
noncomputable abbrev X : Fx := ⟨Tryz.prog, Tryz.f50, [], [2, 3]⟩
theorem okT (a0_0 a0_1 a0_2 : Int) (a0_3 : Sl) (b1_0 b1_1 b1_2 : Int) (b1_3 : Sl) (w : World) (R : Post) (h : newV [] w fun b2 w1 => 
  newV [b2] w1 fun b3 w2 => 
  cf0 [b2, b3] n_regex_Compare #[.agg #[.i a0_0, .int .u8 a0_1, .int .u8 a0_2, a0_3.v], .agg #[.i b1_0, .int .u8 b1_1, .int .u8 b1_2, b1_3.v]] w2 fun t7 w3 => R (.returned (.bool (t7 == 0))) w3) : Calls Tryz.prog n_regex_equal #[.agg #[.i a0_0, .int .u8 a0_1, .int .u8 a0_2, a0_3.v], .agg #[.i b1_0, .int .u8 b1_1, .int .u8 b1_2, b1_3.v]] w R := callsX X [] h
end regex_equal
end Go.Proofs.YtknlbofiicflgaaGreat
