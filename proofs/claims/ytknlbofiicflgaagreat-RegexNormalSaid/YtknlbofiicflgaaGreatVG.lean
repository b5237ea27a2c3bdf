/- Printed by a program of ours (vcgen.py) from the dump: the conditions of the functions, and that they suffice. -/
import Derived.Test.YtknlbofiicflgaaGreatV
set_option linter.unusedVariables false
set_option maxRecDepth 100000
set_option maxHeartbeats 2000000
namespace Go.Proofs.YtknlbofiicflgaaGreat
open Go Go.W
namespace enthymemeref04_Compare
noncomputable abbrev X : Fx := ⟨Tryz.prog, Tryz.f32, [(6,[0,1,2,3,4,5,6,7,8]), (8,[0,1,2,3,4,5,6,7,8]), (13,[0,1,2,3,4,5,6,7,8,9,10,11])], [2, 3]⟩
abbrev P0 : Ps := [(2, .l [.I, .Y, .Y, .s] ty_enthymemeref04_Regex), (3, .l [.I, .Y, .Y, .s] ty_enthymemeref04_Regex), (5, .v [.s]), (6, .v [.s]), (7, .v [.I])]
def L0T (a2 : Nat) (a2_0 a2_1 a2_2 : Int) (a2_3 : Sl) (b3 : Nat) (b3_0 b3_1 b3_2 : Int) (b3_3 x5 y6 : Sl) (i7 : Int) (w : World) (R : Post) : Prop := mkCur P0 0 (X.Sem (pth [0, 1, 1, 1, 3])) a2 a2_0 a2_1 a2_2 a2_3 b3 b3_0 b3_1 b3_2 b3_3 x5 y6 i7 w R
noncomputable def eL0 := entL X (pth [0, 1, 1, 1, 3]) P0 L0T
abbrev P1 : Ps := [(2, .l [.I, .Y, .Y, .s] ty_enthymemeref04_Regex), (3, .l [.I, .Y, .Y, .s] ty_enthymemeref04_Regex), (8, .v [.I])]
def L1T (a2 : Nat) (a2_0 a2_1 a2_2 : Int) (a2_3 : Sl) (b3 : Nat) (b3_0 b3_1 b3_2 : Int) (b3_3 : Sl) (i8 : Int) (w : World) (R : Post) : Prop := mkCur P1 0 (X.Sem (pth [0, 1, 1, 1, 4])) a2 a2_0 a2_1 a2_2 a2_3 b3 b3_0 b3_1 b3_2 b3_3 i8 w R
noncomputable def eL1 := entL X (pth [0, 1, 1, 1, 4]) P1 L1T
abbrev P2 : Ps := [(2, .l [.I, .Y, .Y, .s] ty_enthymemeref04_Regex), (3, .l [.I, .Y, .Y, .s] ty_enthymemeref04_Regex)]
abbrev S2T (a2 : Nat) (a2_0 a2_1 a2_2 : Int) (a2_3 : Sl) (b3 : Nat) (b3_0 b3_1 b3_2 : Int) (b3_3 : Sl) (w : World) (R : Post) : Prop :=
  sel (decide (((a2_3.n : Nat) : Int) < ((b3_3.n : Nat) : Int))) (R (.returned (.i (-1))) w) (sel (decide (((a2_3.n : Nat) : Int) > ((b3_3.n : Nat) : Int))) (R (.returned (.i 1)) w) (R (.returned (.i 0)) w))
noncomputable def eS2 := entS X [eL1, eL0] (pth [5]) P2 S2T
theorem L1T_step : ∀ (a2 : Nat) (a2_0 a2_1 a2_2 : Int) (a2_3 : Sl) (b3 : Nat) (b3_0 b3_1 b3_2 : Int) (b3_3 : Sl) (i8 : Int) (w : World) (R : Post) (h : sel (decide (i8 < ((a2_3.n : Nat) : Int))) (sel (decide (i8 < ((b3_3.n : Nat) : Int))) ((0 : Int) ≤ i8 ∧ i8 < ((a2_3.n : Nat) : Int) ∧ optP a2_3.a fun t67_p => loc [a2, b3] w fun w7 => ld4_0 w7 (t67_p.add (Int.toNat i8 * 4)) fun t68_0 t68_1 t68_2 t68_3 => (0 : Int) ≤ i8 ∧ i8 < ((b3_3.n : Nat) : Int) ∧ optP b3_3.a fun t72_p => ld4_0 w7 (t72_p.add (Int.toNat i8 * 4)) fun t73_0 t73_1 t73_2 t73_3 => cf0 [a2, b3] n_enthymemeref04_Compare #[.agg #[.i t68_0, .int .u8 t68_1, .int .u8 t68_2, t68_3.v], .agg #[.i t73_0, .int .u8 t73_1, .int .u8 t73_2, t73_3.v]] w7 fun t74 w8 => sel (t74 != 0) (R (.returned (.i t74)) w8) (L1T a2 a2_0 a2_1 a2_2 a2_3 b3 b3_0 b3_1 b3_2 b3_3 (IntKind.wrap .i64 (i8 + 1)) w8 R)) (S2T a2 a2_0 a2_1 a2_2 a2_3 b3 b3_0 b3_1 b3_2 b3_3 w R)) (S2T a2 a2_0 a2_1 a2_2 a2_3 b3 b3_0 b3_1 b3_2 b3_3 w R)), L1T a2 a2_0 a2_1 a2_2 a2_3 b3 b3_0 b3_1 b3_2 b3_3 i8 w R := mp (stepL (X := X) [eS2, eL1, eL0] (pth [0, 1, 1, 1, 4]) P1)
theorem L0T_step : ∀ (a2 : Nat) (a2_0 a2_1 a2_2 : Int) (a2_3 : Sl) (b3 : Nat) (b3_0 b3_1 b3_2 : Int) (b3_3 x5 y6 : Sl) (i7 : Int) (w : World) (R : Post) (h : sel (decide (i7 < 3)) ((0 : Int) ≤ i7 ∧ i7 < ((x5.n : Nat) : Int) ∧ optP x5.a fun t34_p => loc [a2, b3] w fun w5 => ∃ t35 : Int, w5.cell? (t34_p.add (Int.toNat i7 * 1)) = some (.i t35) ∧ 
  (0 : Int) ≤ i7 ∧ i7 < ((y6.n : Nat) : Int) ∧ optP y6.a fun t38_p => ∃ t39 : Int, w5.cell? (t38_p.add (Int.toNat i7 * 1)) = some (.i t39) ∧ 
  sel (decide (t35 < t39)) (R (.returned (.i (-1))) w5) ((0 : Int) ≤ i7 ∧ i7 < ((x5.n : Nat) : Int) ∧ optP x5.a fun t43_p => loc [a2, b3] w5 fun w6 => ∃ t44 : Int, w6.cell? (t43_p.add (Int.toNat i7 * 1)) = some (.i t44) ∧ 
  (0 : Int) ≤ i7 ∧ i7 < ((y6.n : Nat) : Int) ∧ optP y6.a fun t47_p => ∃ t48 : Int, w6.cell? (t47_p.add (Int.toNat i7 * 1)) = some (.i t48) ∧ 
  sel (decide (t44 > t48)) (R (.returned (.i 1)) w6) (L0T a2 a2_0 a2_1 a2_2 a2_3 b3 b3_0 b3_1 b3_2 b3_3 x5 y6 (IntKind.wrap .i64 (i7 + 1)) w6 R))) (L1T a2 a2_0 a2_1 a2_2 a2_3 b3 b3_0 b3_1 b3_2 b3_3 0 w R)), L0T a2 a2_0 a2_1 a2_2 a2_3 b3 b3_0 b3_1 b3_2 b3_3 x5 y6 i7 w R := mp (stepL (X := X) [eS2, eL1, eL0] (pth [0, 1, 1, 1, 3]) P0)
theorem okT (a0_0 a0_1 a0_2 : Int) (a0_3 : Sl) (b1_0 b1_1 b1_2 : Int) (b1_3 : Sl) (w : World) (R : Post) (h : newV [] w fun b2 w1 => 
  newV [b2] w1 fun b3 w2 => 
  nwV w2 (.cells #[.i a0_0, .i (IntKind.wrap .i64 a0_1), .i (IntKind.wrap .i64 a0_2)] ty_int) fun w3 => 
  nwV w3 (.cells #[.i b1_0, .i (IntKind.wrap .i64 b1_1), .i (IntKind.wrap .i64 b1_2)] ty_int) fun w4 => 
  L0T b2 a0_0 a0_1 a0_2 a0_3 b3 b1_0 b1_1 b1_2 b1_3 ⟨some (nb w2), 3, 3⟩ ⟨some (nb w3), 3, 3⟩ 0 w4 R) : Calls Tryz.prog n_enthymemeref04_Compare #[.agg #[.i a0_0, .int .u8 a0_1, .int .u8 a0_2, a0_3.v], .agg #[.i b1_0, .int .u8 b1_1, .int .u8 b1_2, b1_3.v]] w R := callsX X [eS2, eL1, eL0] h
end enthymemeref04_Compare
namespace enthymemeref04_maker_next
noncomputable abbrev X : Fx := ⟨Tryz.prog, Tryz.f42, [(2,[0,1,2,3,4,5,6,7,8,9,10,11])], []⟩
theorem ok (m0 : Addr) (n1 : Int) (w : World) (R : Post) (h : ∃ t8 : Int, w.cell? (m0.add 1) = some (.i t8) ∧ 
  stV w (m0.add 1) (.i (IntKind.wrap .i64 (t8 + 1))) fun w1 => 
  drV w1 fun w2 => ∃ t15 : Sl, w2.cell? (m0.add 0) = some (t15.v) ∧ 
  ∃ t19 : Int, w2.cell? (m0.add 1) = some (.i t19) ∧ 
  ca0 n_enthymemeref01_Pick #[t15.v, .i (IntKind.wrap .i64 (t19 - 1)), .i n1] w2 fun t22 w3 => R (.returned (.i t22)) w3) : Calls Tryz.prog n_enthymemeref04_maker_next #[.pointer (some m0), .i n1] w R := callsX X [] h
end enthymemeref04_maker_next
namespace enthymemeref04_maker_regex
noncomputable abbrev X : Fx := ⟨Tryz.prog, Tryz.f23, [(10,[0,1,2,3,4,5,6,7]), (20,[0,1,2,3,4,5,6,7,8,9]), (23,[0,1,2,3,4,5,6,7,8,9])], [4, 6]⟩
abbrev P0 : Ps := [(4, .l [.I, .Y, .Y, .s] ty_enthymemeref04_Regex), (6, .l [.I, .Y, .Y, .s] ty_enthymemeref04_Regex)]
abbrev S2T (t4 : Nat) (t4_0 t4_1 t4_2 : Int) (t4_3 : Sl) (out6 : Nat) (out6_0 out6_1 out6_2 : Int) (out6_3 : Sl) (w : World) (R : Post) : Prop :=
  loc [t4, out6] w fun w4 => R (.returned (.agg #[.i out6_0, .int .u8 out6_1, .int .u8 out6_2, out6_3.v])) w4
noncomputable def eS2 := entS X [] (pth [5]) P0 S2T
abbrev P1 : Ps := [(0, .v [.r]), (1, .v [.I]), (4, .l [.I, .Y, .Y, .s] ty_enthymemeref04_Regex), (6, .l [.I, .Y, .Y, .s] ty_enthymemeref04_Regex), (7, .v [.I]), (8, .v [.I])]
def L5T (m0 : Addr) (deep1 : Int) (t4 : Nat) (t4_0 t4_1 t4_2 : Int) (t4_3 : Sl) (out6 : Nat) (out6_0 out6_1 out6_2 : Int) (out6_3 : Sl) (many7 i8 : Int) (w : World) (R : Post) : Prop := mkCur P1 0 (X.Sem (pth [0, 1, 3, 1, 3, 1, 1, 1, 4])) m0 deep1 t4 t4_0 t4_1 t4_2 t4_3 out6 out6_0 out6_1 out6_2 out6_3 many7 i8 w R
noncomputable def eL5 := entL X (pth [0, 1, 3, 1, 3, 1, 1, 1, 4]) P1 L5T
theorem L5T_step : ∀ (m0 : Addr) (deep1 : Int) (t4 : Nat) (t4_0 t4_1 t4_2 : Int) (t4_3 : Sl) (out6 : Nat) (out6_0 out6_1 out6_2 : Int) (out6_3 : Sl) (many7 i8 : Int) (w : World) (R : Post) (h : sel (decide (i8 < many7)) (loc [t4, out6] w fun w1 => cf2 [t4, out6] n_enthymemeref04_maker_regex #[.pointer (some m0), .i (IntKind.wrap .i64 (deep1 - 1))] w1 fun t66_0 t66_1 t66_2 t66_3 w2 => nwV w2 (.cells #[.i t66_0, .int .u8 t66_1, .int .u8 t66_2, t66_3.v] ty_enthymemeref04_Regex) fun w3 => 
  ∃ (t68 : Sl) (w4 : World), Sem.run Tryz.prog (Builtin.append_ #[ty_sl_enthymemeref04_Regex, ty_sl_enthymemeref04_Regex] ty_sl_enthymemeref04_Regex #[out6_3.v, .slice (some (nb w2)) 1 1]) w3 = .ok (t68.v) w4 ∧ kept [t4, out6] w3 w4 ∧ loc [t4, out6] w4 fun w5 => L5T m0 deep1 t4 t4_0 t4_1 t4_2 t4_3 out6 out6_0 out6_1 out6_2 t68 many7 (IntKind.wrap .i64 (i8 + 1)) w5 R) (S2T t4 t4_0 t4_1 t4_2 t4_3 out6 out6_0 out6_1 out6_2 out6_3 w R)), L5T m0 deep1 t4 t4_0 t4_1 t4_2 t4_3 out6 out6_0 out6_1 out6_2 out6_3 many7 i8 w R := mp (stepL (X := X) [eL5, eS2] (pth [0, 1, 3, 1, 3, 1, 1, 1, 4]) P1)
abbrev P2 : Ps := [(0, .v [.r]), (1, .v [.I]), (4, .l [.I, .Y, .Y, .s] ty_enthymemeref04_Regex), (6, .l [.I, .Y, .Y, .s] ty_enthymemeref04_Regex), (7, .v [.I])]
abbrev S4T (m0 : Addr) (deep1 : Int) (t4 : Nat) (t4_0 t4_1 t4_2 : Int) (t4_3 : Sl) (out6 : Nat) (out6_0 out6_1 out6_2 : Int) (out6_3 : Sl) (many7 : Int) (w : World) (R : Post) : Prop :=
  L5T m0 deep1 t4 t4_0 t4_1 t4_2 t4_3 out6 out6_0 out6_1 out6_2 out6_3 many7 0 w R
noncomputable def eS4 := entS X [eL5, eS2] (pth [2, 1, 3, 1, 1, 1, 4]) P2 S4T
abbrev P3 : Ps := [(0, .v [.r]), (1, .v [.I]), (4, .l [.I, .Y, .Y, .s] ty_enthymemeref04_Regex), (6, .l [.I, .Y, .Y, .s] ty_enthymemeref04_Regex)]
abbrev S3T (m0 : Addr) (deep1 : Int) (t4 : Nat) (t4_0 t4_1 t4_2 : Int) (t4_3 : Sl) (out6 : Nat) (out6_0 out6_1 out6_2 : Int) (out6_3 : Sl) (w : World) (R : Post) : Prop :=
  cf0 [t4, out6] n_enthymemeref04_maker_next #[.pointer (some m0), .i 3] w fun t51 w1 => sel (deep1 == 4) (cf0 [t4, out6] n_enthymemeref04_maker_next #[.pointer (some m0), .i 4] w1 fun t55 w2 => S4T m0 deep1 t4 t4_0 t4_1 t4_2 t4_3 out6 out6_0 out6_1 out6_2 out6_3 t55 w2 R) (S4T m0 deep1 t4 t4_0 t4_1 t4_2 t4_3 out6 out6_0 out6_1 out6_2 out6_3 t51 w1 R)
noncomputable def eS3 := entS X [eS4, eL5, eS2] (pth [0, 1, 3, 1, 1, 1, 4]) P3 S3T
abbrev S7T (m0 : Addr) (deep1 : Int) (t4 : Nat) (t4_0 t4_1 t4_2 : Int) (t4_3 : Sl) (out6 : Nat) (out6_0 out6_1 out6_2 : Int) (out6_3 : Sl) (w : World) (R : Post) : Prop :=
  loc [t4, out6] w fun w1 => cf2 [t4, out6] n_enthymemeref04_maker_regex #[.pointer (some m0), .i (IntKind.wrap .i64 (deep1 - 1))] w1 fun t78_0 t78_1 t78_2 t78_3 w2 => nwV w2 (.cells #[.i t78_0, .int .u8 t78_1, .int .u8 t78_2, t78_3.v] ty_enthymemeref04_Regex) fun w3 => 
  ∃ (t80 : Sl) (w4 : World), Sem.run Tryz.prog (Builtin.append_ #[ty_sl_enthymemeref04_Regex, ty_sl_enthymemeref04_Regex] ty_sl_enthymemeref04_Regex #[out6_3.v, .slice (some (nb w2)) 1 1]) w3 = .ok (t80.v) w4 ∧ kept [t4, out6] w3 w4 ∧ loc [t4, out6] w4 fun w5 => S2T t4 t4_0 t4_1 t4_2 t4_3 out6 out6_0 out6_1 out6_2 t80 w5 R
noncomputable def eS7 := entS X [eS3, eS4, eL5, eS2] (pth [0, 1, 5, 1, 1, 1, 4]) P3 S7T
abbrev P4 : Ps := [(0, .v [.r]), (1, .v [.I]), (4, .l [.I, .Y, .Y, .s] ty_enthymemeref04_Regex), (6, .l [.I, .Y, .Y, .s] ty_enthymemeref04_Regex), (24, .v [.I])]
abbrev S6T (m0 : Addr) (deep1 : Int) (t4 : Nat) (t4_0 t4_1 t4_2 : Int) (t4_3 : Sl) (out6 : Nat) (out6_0 out6_1 out6_2 : Int) (out6_3 : Sl) (t24 : Int) (w : World) (R : Post) : Prop :=
  sel (t24 == 6) (sel (t24 == 6) (S7T m0 deep1 t4 t4_0 t4_1 t4_2 t4_3 out6 out6_0 out6_1 out6_2 out6_3 w R) (S2T t4 t4_0 t4_1 t4_2 t4_3 out6 out6_0 out6_1 out6_2 out6_3 w R)) (sel (t24 == 7) (S7T m0 deep1 t4 t4_0 t4_1 t4_2 t4_3 out6 out6_0 out6_1 out6_2 out6_3 w R) (S2T t4 t4_0 t4_1 t4_2 t4_3 out6 out6_0 out6_1 out6_2 out6_3 w R))
noncomputable def eS6 := entS X [eS7, eS3, eS4, eL5, eS2] (pth [4, 1, 1, 1, 4]) P4 S6T
abbrev P5 : Ps := [(0, .v [.r]), (1, .v [.I]), (4, .l [.I, .Y, .Y, .s] ty_enthymemeref04_Regex), (5, .v [.I])]
abbrev S1T (m0 : Addr) (deep1 : Int) (t4 : Nat) (t4_0 t4_1 t4_2 : Int) (t4_3 : Sl) (kind5 : Int) (w : World) (R : Post) : Prop :=
  newV [t4] w fun b6 w1 => 
  sel (kind5 == 2) (loc [t4, b6] w1 fun w5 => nwV w5 (.cells #[.int .u8 97, .int .u8 98, .int .u8 97, .int .u8 98, .int .u8 99, .int .u8 0, .int .u8 39, .int .u8 92, .int .u8 255, .int .u8 32] ty_uint8) fun w6 => 
  cf0 [t4, b6] n_enthymemeref04_maker_next #[.pointer (some m0), .i 10] w6 fun t29 w7 => (0 : Int) ≤ t29 ∧ t29 < ((10 : Nat) : Int) ∧ optP (some (nb w5)) fun t30_p => ∃ t31 : Int, w7.cell? (t30_p.add (Int.toNat t29 * 1)) = some (.int .u8 t31) ∧ 
  loc [t4, b6] w7 fun w9 => cf0 [t4, b6] n_enthymemeref04_maker_next #[.pointer (some m0), .i 4] w9 fun t37 w10 => sel (t37 == 0) (loc [t4, b6] w10 fun w11 => cf0 [t4, b6] n_enthymemeref04_maker_next #[.pointer (some m0), .i 256] w11 fun t42 w12 => loc [t4, b6] w12 fun w13 => S2T t4 t4_0 t4_1 t4_2 t4_3 b6 kind5 t31 (if t31 < IntKind.wrap .u8 t42 then IntKind.wrap .u8 t42 else t31) ⟨none, 0, 0⟩ w13 R) (S2T t4 t4_0 t4_1 t4_2 t4_3 b6 kind5 t31 t31 ⟨none, 0, 0⟩ w10 R)) (sel (kind5 == 3) (sel (kind5 == 3) (loc [t4, b6] w1 fun w5 => S3T m0 deep1 t4 t4_0 t4_1 t4_2 t4_3 b6 kind5 0 0 ⟨none, 0, 0⟩ w5 R) (loc [t4, b6] w1 fun w5 => S6T m0 deep1 t4 t4_0 t4_1 t4_2 t4_3 b6 kind5 0 0 ⟨none, 0, 0⟩ kind5 w5 R)) (sel (kind5 == 4) (sel (kind5 == 4) (loc [t4, b6] w1 fun w5 => S3T m0 deep1 t4 t4_0 t4_1 t4_2 t4_3 b6 kind5 0 0 ⟨none, 0, 0⟩ w5 R) (loc [t4, b6] w1 fun w5 => S6T m0 deep1 t4 t4_0 t4_1 t4_2 t4_3 b6 kind5 0 0 ⟨none, 0, 0⟩ kind5 w5 R)) (sel (kind5 == 5) (loc [t4, b6] w1 fun w5 => S3T m0 deep1 t4 t4_0 t4_1 t4_2 t4_3 b6 kind5 0 0 ⟨none, 0, 0⟩ w5 R) (loc [t4, b6] w1 fun w5 => S6T m0 deep1 t4 t4_0 t4_1 t4_2 t4_3 b6 kind5 0 0 ⟨none, 0, 0⟩ kind5 w5 R))))
noncomputable def eS1 := entS X [eS6, eS7, eS3, eS4, eL5, eS2] (pth [3]) P5 S1T
abbrev P6 : Ps := [(0, .v [.r]), (1, .v [.I]), (4, .l [.I, .Y, .Y, .s] ty_enthymemeref04_Regex)]
abbrev S0T (m0 : Addr) (deep1 : Int) (t4 : Nat) (t4_0 t4_1 t4_2 : Int) (t4_3 : Sl) (w : World) (R : Post) : Prop :=
  nwV w (.cells #[.i 2, .i 2, .i 2, .i 2, .i 1, .i 0] ty_int) fun w1 => 
  cf0 [t4] n_enthymemeref04_maker_next #[.pointer (some m0), .i 6] w1 fun t19 w2 => (0 : Int) ≤ t19 ∧ t19 < ((6 : Nat) : Int) ∧ optP (some (nb w)) fun t20_p => ∃ t21 : Int, w2.cell? (t20_p.add (Int.toNat t19 * 1)) = some (.i t21) ∧ 
  S1T m0 deep1 t4 t4_0 t4_1 t4_2 t4_3 t21 w2 R
noncomputable def eS0 := entS X [eS1, eS6, eS7, eS3, eS4, eL5, eS2] (pth [0, 1, 1, 1, 2]) P6 S0T
theorem okT (m0 : Addr) (deep1 : Int) (w : World) (R : Post) (h : newV [] w fun b4 w1 => 
  cf0 [b4] n_enthymemeref04_maker_next #[.pointer (some m0), .i 14] w1 fun t10 w2 => sel (decide (deep1 < 2)) (S0T m0 deep1 b4 0 0 0 ⟨none, 0, 0⟩ w2 R) (sel (decide (t10 > 7)) (S0T m0 deep1 b4 0 0 0 ⟨none, 0, 0⟩ w2 R) (S1T m0 deep1 b4 0 0 0 ⟨none, 0, 0⟩ t10 w2 R))) : Calls Tryz.prog n_enthymemeref04_maker_regex #[.pointer (some m0), .i deep1] w R := callsX X [eS0, eS1, eS6, eS7, eS3, eS4, eL5, eS2] h
end enthymemeref04_maker_regex
namespace enthymemeref04_Made
noncomputable abbrev X : Fx := ⟨Tryz.prog, Tryz.f5, [], [2]⟩
theorem okT (l0 : Sl) (w : World) (R : Post) (h : newV [] w fun b2 w1 => 
  nwV w1 (.cells #[l0.v, .i 0] ty_enthymemeref04_maker) fun w2 => 
  cf2 [b2] n_enthymemeref04_maker_regex #[.pointer (some (nb w1)), .i 4] w2 fun t8_0 t8_1 t8_2 t8_3 w3 => loc [b2] w3 fun w7 => R (.returned (.agg #[.i t8_0, .int .u8 t8_1, .int .u8 t8_2, t8_3.v])) w7) : Calls Tryz.prog n_enthymemeref04_Made #[l0.v] w R := callsX X [] h
end enthymemeref04_Made
namespace enthymemeref04_Spoilt
noncomputable abbrev X : Fx := ⟨Tryz.prog, Tryz.f6, [], [3, 6]⟩
abbrev P0 : Ps := [(3, .l [.I, .Y, .Y, .s] ty_enthymemeref04_Regex), (6, .l [.I, .Y, .Y, .s] ty_enthymemeref04_Regex)]
abbrev S0T (r3 : Nat) (r3_0 r3_1 r3_2 : Int) (r3_3 : Sl) (t6 : Nat) (t6_0 t6_1 t6_2 : Int) (t6_3 : Sl) (w : World) (R : Post) : Prop :=
  loc [r3, t6] w fun w4 => R (.returned (.agg #[.i r3_0, .int .u8 r3_1, .int .u8 r3_2, r3_3.v])) w4
noncomputable def eS0 := entS X [] (pth [2]) P0 S0T
abbrev P1 : Ps := [(2, .v [.I]), (3, .l [.I, .Y, .Y, .s] ty_enthymemeref04_Regex), (6, .l [.I, .Y, .Y, .s] ty_enthymemeref04_Regex), (7, .v [.I])]
def L1T (by2 : Int) (r3 : Nat) (r3_0 r3_1 r3_2 : Int) (r3_3 : Sl) (t6 : Nat) (t6_0 t6_1 t6_2 : Int) (t6_3 : Sl) (i7 : Int) (w : World) (R : Post) : Prop := mkCur P1 0 (X.Sem (pth [0, 1, 1, 1, 11, 1, 1, 1, 1])) by2 r3 r3_0 r3_1 r3_2 r3_3 t6 t6_0 t6_1 t6_2 t6_3 i7 w R
noncomputable def eL1 := entL X (pth [0, 1, 1, 1, 11, 1, 1, 1, 1]) P1 L1T
theorem L1T_step : ∀ (by2 : Int) (r3 : Nat) (r3_0 r3_1 r3_2 : Int) (r3_3 : Sl) (t6 : Nat) (t6_0 t6_1 t6_2 : Int) (t6_3 : Sl) (i7 : Int) (w : World) (R : Post) (h : cf0 [r3, t6] n_enthymemeref01_Around #[.i by2, .i 40] w fun t61 w13 => sel (decide (i7 < (IntKind.wrap .i64 (40 + t61)))) (nwV w13 (.cells #[.i r3_0, .int .u8 r3_1, .int .u8 r3_2, r3_3.v] ty_enthymemeref04_Regex) fun w14 => 
  loc [r3, t6] w14 fun w18 => L1T by2 r3 6 0 0 ⟨some (nb w13), 1, 1⟩ t6 t6_0 t6_1 t6_2 t6_3 (IntKind.wrap .i64 (i7 + 1)) w18 R) (S0T r3 r3_0 r3_1 r3_2 r3_3 t6 t6_0 t6_1 t6_2 t6_3 w13 R)), L1T by2 r3 r3_0 r3_1 r3_2 r3_3 t6 t6_0 t6_1 t6_2 t6_3 i7 w R := mp (stepL (X := X) [eL1, eS0] (pth [0, 1, 1, 1, 11, 1, 1, 1, 1]) P1)
abbrev P2 : Ps := [(2, .v [.I]), (3, .l [.I, .Y, .Y, .s] ty_enthymemeref04_Regex), (6, .l [.I, .Y, .Y, .s] ty_enthymemeref04_Regex), (8, .v [.s]), (9, .v [.I])]
def L2T (by2 : Int) (r3 : Nat) (r3_0 r3_1 r3_2 : Int) (r3_3 : Sl) (t6 : Nat) (t6_0 t6_1 t6_2 : Int) (t6_3 kids8 : Sl) (i9 : Int) (w : World) (R : Post) : Prop := mkCur P2 0 (X.Sem (pth [0, 1, 1, 1, 13, 1, 1, 1, 1])) by2 r3 r3_0 r3_1 r3_2 r3_3 t6 t6_0 t6_1 t6_2 t6_3 kids8 i9 w R
noncomputable def eL2 := entL X (pth [0, 1, 1, 1, 13, 1, 1, 1, 1]) P2 L2T
theorem L2T_step : ∀ (by2 : Int) (r3 : Nat) (r3_0 r3_1 r3_2 : Int) (r3_3 : Sl) (t6 : Nat) (t6_0 t6_1 t6_2 : Int) (t6_3 kids8 : Sl) (i9 : Int) (w : World) (R : Post) (h : cf0 [r3, t6] n_enthymemeref01_Around #[.i by2, .i 50] w fun t14 w19 => sel (decide (i9 < (IntKind.wrap .i64 (20 + t14)))) (nwV w19 (.cells #[.i 5, .int .u8 0, .int .u8 0, .slice none 0 0] ty_enthymemeref04_Regex) fun w20 => 
  ∃ (t22 : Sl) (w21 : World), Sem.run Tryz.prog (Builtin.append_ #[ty_sl_enthymemeref04_Regex, ty_sl_enthymemeref04_Regex] ty_sl_enthymemeref04_Regex #[kids8.v, .slice (some (nb w19)) 1 1]) w20 = .ok (t22.v) w21 ∧ kept [r3, t6] w20 w21 ∧ L2T by2 r3 r3_0 r3_1 r3_2 r3_3 t6 t6_0 t6_1 t6_2 t6_3 t22 (IntKind.wrap .i64 (i9 + 1)) w21 R) (nwV w19 (.cells #[.i r3_0, .int .u8 r3_1, .int .u8 r3_2, r3_3.v] ty_enthymemeref04_Regex) fun w22 => 
  ∃ (t26 : Sl) (w23 : World), Sem.run Tryz.prog (Builtin.append_ #[ty_sl_enthymemeref04_Regex, ty_sl_enthymemeref04_Regex] ty_sl_enthymemeref04_Regex #[kids8.v, .slice (some (nb w19)) 1 1]) w22 = .ok (t26.v) w23 ∧ kept [r3, t6] w22 w23 ∧ loc [r3, t6] w23 fun w27 => S0T r3 3 0 0 t26 t6 t6_0 t6_1 t6_2 t6_3 w27 R)), L2T by2 r3 r3_0 r3_1 r3_2 r3_3 t6 t6_0 t6_1 t6_2 t6_3 kids8 i9 w R := mp (stepL (X := X) [eL2, eL1, eS0] (pth [0, 1, 1, 1, 13, 1, 1, 1, 1]) P2)
theorem okT (r0_0 r0_1 r0_2 : Int) (r0_3 : Sl) (how1 by2 : Int) (w : World) (R : Post) (h : newV [] w fun b3 w1 => 
  newV [b3] w1 fun b6 w2 => 
  cf0 [b3, b6] n_enthymemeref01_Around #[.i how1, .i 7] w2 fun t11 w3 => sel (t11 == 0) (loc [b3, b6] w3 fun w4 => S0T b3 by2 r0_1 r0_2 r0_3 b6 0 0 0 ⟨none, 0, 0⟩ w4 R) (sel (t11 == 1) (loc [b3, b6] w3 fun w5 => S0T b3 r0_0 (IntKind.wrap .u8 by2) r0_2 r0_3 b6 0 0 0 ⟨none, 0, 0⟩ w5 R) (sel (t11 == 2) (loc [b3, b6] w3 fun w6 => S0T b3 r0_0 r0_1 (IntKind.wrap .u8 by2) r0_3 b6 0 0 0 ⟨none, 0, 0⟩ w6 R) (sel (t11 == 3) (nwV w3 (.cells #[] ty_enthymemeref04_Regex) fun w7 => 
  ∃ (t47 : Sl) (w8 : World), Sem.run Tryz.prog (Builtin.append_ #[ty_sl_enthymemeref04_Regex, ty_sl_enthymemeref04_Regex] ty_sl_enthymemeref04_Regex #[.slice (some (nb w3)) 0 0, r0_3.v]) w7 = .ok (t47.v) w8 ∧ kept [b3, b6] w7 w8 ∧ nwV w8 (.cells #[.i 2, .int .u8 3, .int .u8 (IntKind.wrap .u8 by2), .slice none 0 0] ty_enthymemeref04_Regex) fun w9 => 
  ∃ (t52 : Sl) (w10 : World), Sem.run Tryz.prog (Builtin.append_ #[ty_sl_enthymemeref04_Regex, ty_sl_enthymemeref04_Regex] ty_sl_enthymemeref04_Regex #[t47.v, .slice (some (nb w8)) 1 1]) w9 = .ok (t52.v) w10 ∧ kept [b3, b6] w9 w10 ∧ loc [b3, b6] w10 fun w11 => S0T b3 r0_0 r0_1 r0_2 t52 b6 0 0 0 ⟨none, 0, 0⟩ w11 R) (sel (t11 == 4) (loc [b3, b6] w3 fun w12 => S0T b3 r0_0 r0_1 r0_2 ⟨none, 0, 0⟩ b6 0 0 0 ⟨none, 0, 0⟩ w12 R) (sel (t11 == 5) (L1T by2 b3 r0_0 r0_1 r0_2 r0_3 b6 0 0 0 ⟨none, 0, 0⟩ 0 w3 R) (L2T by2 b3 r0_0 r0_1 r0_2 r0_3 b6 0 0 0 ⟨none, 0, 0⟩ ⟨none, 0, 0⟩ 0 w3 R))))))) : Calls Tryz.prog n_enthymemeref04_Spoilt #[.agg #[.i r0_0, .int .u8 r0_1, .int .u8 r0_2, r0_3.v], .i how1, .i by2] w R := callsX X [eL2, eL1, eS0] h
end enthymemeref04_Spoilt
namespace enthymemeref04_Word
noncomputable abbrev X : Fx := ⟨Tryz.prog, Tryz.f17, [], []⟩
abbrev P0 : Ps := [(3, .v [.I]), (4, .v [.s]), (5, .v [.I]), (6, .v [.I])]
def L1 (k3 : Int) (out4 : Sl) (many5 i6 : Int) (w : World) (R : Post) : Prop := mkCur P0 0 (X.Sem (pth [0, 1, 1, 1, 5])) k3 out4 many5 i6 w R
noncomputable def eL1 := entL X (pth [0, 1, 1, 1, 5]) P0 L1
abbrev S2 (k3 : Int) (out4 : Sl) (many5 i6 : Int) (w : World) (R : Post) : Prop :=
  L1 k3 out4 many5 (IntKind.wrap .i64 (i6 + 1)) w R
noncomputable def eS2 := entS X [eL1] (pth [2, 2, 1, 1, 5]) P0 S2
theorem L1_step : ∀ (k3 : Int) (out4 : Sl) (many5 i6 : Int) (w : World) (R : Post) (h : sel (decide (i6 < many5)) (nwV w (.cells #[.int .u8 97, .int .u8 98, .int .u8 97, .int .u8 98, .int .u8 99, .int .u8 0, .int .u8 39, .int .u8 255] ty_uint8) fun w1 => 
  (0 : Int) ≤ (Int.tmod k3 8) ∧ (Int.tmod k3 8) < ((8 : Nat) : Int) ∧ optP (some (nb w)) fun t22_p => ∃ t23 : Int, w1.cell? (t22_p.add (Int.toNat (Int.tmod k3 8) * 1)) = some (.int .u8 t23) ∧ 
  nwV w1 (.cells #[.int .u8 t23] ty_uint8) fun w2 => 
  ∃ (t25 : Sl) (w3 : World), Sem.run Tryz.prog (Builtin.append_ #[ty_sl_uint8, ty_sl_uint8] ty_sl_uint8 #[out4.v, .slice (some (nb w1)) 1 1]) w2 = .ok (t25.v) w3 ∧ S2 (IntKind.wrap .i64 (Int.tdiv k3 8)) t25 many5 i6 w3 R) (∃ t29 : ByteArray, Sem.run Tryz.prog (Go.convert ty_sl_uint8 ty_string (out4.v)) w = .ok (.string t29) w ∧ R (.returned (.string t29)) w)), L1 k3 out4 many5 i6 w R := mp (stepL (X := X) [eS2, eL1] (pth [0, 1, 1, 1, 5]) P0)
abbrev P1 : Ps := [(3, .v [.I]), (4, .v [.s]), (5, .v [.I])]
abbrev S0 (k3 : Int) (out4 : Sl) (many5 : Int) (w : World) (R : Post) : Prop :=
  L1 k3 out4 many5 0 w R
noncomputable def eS0 := entS X [eS2, eL1] (pth [5]) P1 S0
theorem ok (n0 : Int) (w : World) (R : Post) (h : ca0 n_enthymemeref01_Around #[.i n0, .i 16777216] w fun t8 w1 => S0 (IntKind.wrap .i64 (Int.tdiv t8 6)) ⟨none, 0, 0⟩ (Int.tmod t8 6) w1 R) : Calls Tryz.prog n_enthymemeref04_Word #[.i n0] w R := callsX X [eS0, eS2, eL1] h
end enthymemeref04_Word
namespace enthymemelaw04_own
noncomputable abbrev X : Fx := ⟨Tryz.prog, Tryz.f8, [(5,[0,1,2,3,4,5,6,7,8,9,10,11])], [1, 2, 3]⟩
abbrev P0 : Ps := [(1, .l [.I, .Y, .Y, .s] ty_enthymemeref04_Regex), (2, .l [.I, .Y, .Y, .s] ty_regex_Regex), (3, .l [.I, .Y, .Y, .s] ty_regex_Regex), (4, .v [.I])]
def L0T (r1 : Nat) (r1_0 r1_1 r1_2 : Int) (r1_3 : Sl) (t2 : Nat) (t2_0 t2_1 t2_2 : Int) (t2_3 : Sl) (out3 : Nat) (out3_0 out3_1 out3_2 : Int) (out3_3 : Sl) (i4 : Int) (w : World) (R : Post) : Prop := mkCur P0 0 (X.Sem (pth [0, 1, 1, 1, 2])) r1 r1_0 r1_1 r1_2 r1_3 t2 t2_0 t2_1 t2_2 t2_3 out3 out3_0 out3_1 out3_2 out3_3 i4 w R
noncomputable def eL0 := entL X (pth [0, 1, 1, 1, 2]) P0 L0T
theorem L0T_step : ∀ (r1 : Nat) (r1_0 r1_1 r1_2 : Int) (r1_3 : Sl) (t2 : Nat) (t2_0 t2_1 t2_2 : Int) (t2_3 : Sl) (out3 : Nat) (out3_0 out3_1 out3_2 : Int) (out3_3 : Sl) (i4 : Int) (w : World) (R : Post) (h : sel (decide (i4 < ((r1_3.n : Nat) : Int))) ((0 : Int) ≤ i4 ∧ i4 < ((r1_3.n : Nat) : Int) ∧ optP r1_3.a fun t24_p => loc [r1, t2, out3] w fun w8 => ld4_0 w8 (t24_p.add (Int.toNat i4 * 4)) fun t25_0 t25_1 t25_2 t25_3 => cf2 [r1, t2, out3] n_enthymemelaw04_own #[.agg #[.i t25_0, .int .u8 t25_1, .int .u8 t25_2, t25_3.v]] w8 fun t26_0 t26_1 t26_2 t26_3 w9 => nwV w9 (.cells #[.i t26_0, .int .u8 t26_1, .int .u8 t26_2, t26_3.v] ty_regex_Regex) fun w10 => 
  ∃ (t28 : Sl) (w11 : World), Sem.run Tryz.prog (Builtin.append_ #[ty_sl_regex_Regex, ty_sl_regex_Regex] ty_sl_regex_Regex #[out3_3.v, .slice (some (nb w9)) 1 1]) w10 = .ok (t28.v) w11 ∧ kept [r1, t2, out3] w10 w11 ∧ loc [r1, t2, out3] w11 fun w12 => L0T r1 r1_0 r1_1 r1_2 r1_3 t2 t2_0 t2_1 t2_2 t2_3 out3 out3_0 out3_1 out3_2 t28 (IntKind.wrap .i64 (i4 + 1)) w12 R) (loc [r1, t2, out3] w fun w16 => R (.returned (.agg #[.i out3_0, .int .u8 out3_1, .int .u8 out3_2, out3_3.v])) w16)), L0T r1 r1_0 r1_1 r1_2 r1_3 t2 t2_0 t2_1 t2_2 t2_3 out3 out3_0 out3_1 out3_2 out3_3 i4 w R := mp (stepL (X := X) [eL0] (pth [0, 1, 1, 1, 2]) P0)
theorem okT (r0_0 r0_1 r0_2 : Int) (r0_3 : Sl) (w : World) (R : Post) (h : newV [] w fun b1 w1 => 
  newV [b1] w1 fun b2 w2 => 
  newV [b1, b2] w2 fun b3 w3 => 
  loc [b1, b2, b3] w3 fun w7 => L0T b1 r0_0 r0_1 r0_2 r0_3 b2 0 0 0 ⟨none, 0, 0⟩ b3 r0_0 r0_1 r0_2 ⟨none, 0, 0⟩ 0 w7 R) : Calls Tryz.prog n_enthymemelaw04_own #[.agg #[.i r0_0, .int .u8 r0_1, .int .u8 r0_2, r0_3.v]] w R := callsX X [eL0] h
end enthymemelaw04_own
end Go.Proofs.YtknlbofiicflgaaGreat
