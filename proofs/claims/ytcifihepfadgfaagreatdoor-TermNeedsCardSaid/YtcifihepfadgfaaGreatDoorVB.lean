/- Printed by a program of ours (vcgen.py) from the dump: the conditions of the functions, and that they suffice. Printed by a program of ours (vcgen.py) from the dump: the conditions of the functions, and that they suffice. Printed by a program of ours (vcgen.py) from the dump: the conditions of the functions, and that they suffice. Printed by a program of ours (vcgen.py) from the dump: the conditions of the functions, and that they suffice. -/
import Derived.Test.YtcifihepfadgfaaGreatDoorV
set_option linter.unusedVariables false
set_option maxRecDepth 100000
set_option maxHeartbeats 2000000
namespace Go.Proofs.YtcifihepfadgfaaGreatDoor
open Go Go.W
namespace enthymemeref07_BV
noncomputable abbrev X : Fx := ⟨Tryz.prog, Tryz.f25, [], [2]⟩
theorem okT (n0 : Int) (w : World) (R : Post) (h : newV [] w fun b2 w1 => 
  loc [b2] w1 fun w4 => R (.returned (.agg #[.i 0, .i n0, .i 0])) w4) : Calls Tryz.prog n_enthymemeref07_BV #[.i n0] w R := callsX X [] h
end enthymemeref07_BV
namespace enthymemeref07_Strings
noncomputable abbrev X : Fx := ⟨Tryz.prog, Tryz.f75, [], [2]⟩
theorem okT (n0 : Int) (w : World) (R : Post) (h : newV [] w fun b2 w1 => 
  loc [b2] w1 fun w4 => R (.returned (.agg #[.i 1, .i n0, .i 0])) w4) : Calls Tryz.prog n_enthymemeref07_Strings #[.i n0] w R := callsX X [] h
end enthymemeref07_Strings
namespace enthymemeref07_has
noncomputable abbrev X : Fx := ⟨Tryz.prog, Tryz.f53, [], []⟩
theorem ok (l0 : Sl) (op1 : Int) (w : World) (R : Post) (h : ca0 n_enthymemeref01_Has #[l0.v, .i op1] w fun t7 w1 => R (.returned (.bool t7)) w1) : Calls Tryz.prog n_enthymemeref07_has #[l0.v, .i op1] w R := callsX X [] h
end enthymemeref07_has
namespace enthymemeref07_Kids
noncomputable abbrev X : Fx := ⟨Tryz.prog, Tryz.f77, [], []⟩
abbrev P0 : Ps := []
abbrev S0  (w : World) (R : Post) : Prop :=
  R (.returned (.i (-1))) w
noncomputable def eS0 := entS X [] (pth [0, 1, 1, 1, 1]) P0 S0
abbrev S1  (w : World) (R : Post) : Prop :=
  R (.returned (.i 1)) w
noncomputable def eS1 := entS X [eS0] (pth [0, 1, 1, 1, 1, 1, 3]) P0 S1
abbrev S3  (w : World) (R : Post) : Prop :=
  R (.returned (.i 3)) w
noncomputable def eS3 := entS X [eS1, eS0] (pth [0, 1, 3, 1, 1, 1, 3]) P0 S3
abbrev S4  (w : World) (R : Post) : Prop :=
  R (.returned (.i 2)) w
noncomputable def eS4 := entS X [eS3, eS1, eS0] (pth [4]) P0 S4
abbrev P1 : Ps := [(11, .v [.I])]
abbrev S2 (t11 : Int) (w : World) (R : Post) : Prop :=
  sel (t11 == 19) (sel (t11 == 19) (S3  w R) (S4  w R)) (sel (t11 == 25) (sel (t11 == 25) (S3  w R) (S4  w R)) (sel (t11 == 30) (sel (t11 == 30) (S3  w R) (S4  w R)) (sel (t11 == 32) (S3  w R) (S4  w R))))
noncomputable def eS2 := entS X [eS4, eS3, eS1, eS0] (pth [2, 1, 1, 1, 3]) P1 S2
theorem ok (op0 : Int) (w : World) (R : Post) (h : sel (decide (op0 < 0)) (S0  w R) (sel (decide (op0 > 34)) (S0  w R) (sel (decide (op0 ≤ 3)) (R (.returned (.i 0)) w) (sel (op0 == 4) (sel (op0 == 4) (S1  w R) (S2 op0 w R)) (sel (op0 == 5) (sel (op0 == 5) (S1  w R) (S2 op0 w R)) (sel (op0 == 21) (sel (op0 == 21) (S1  w R) (S2 op0 w R)) (sel (op0 == 22) (sel (op0 == 22) (S1  w R) (S2 op0 w R)) (sel (op0 == 23) (sel (op0 == 23) (S1  w R) (S2 op0 w R)) (sel (op0 == 27) (sel (op0 == 27) (S1  w R) (S2 op0 w R)) (sel (op0 == 28) (sel (op0 == 28) (S1  w R) (S2 op0 w R)) (sel (op0 == 33) (sel (op0 == 33) (S1  w R) (S2 op0 w R)) (sel (op0 == 34) (S1  w R) (S2 op0 w R))))))))))))) : Calls Tryz.prog n_enthymemeref07_Kids #[.i op0] w R := callsX X [eS2, eS4, eS3, eS1, eS0] h
end enthymemeref07_Kids
namespace enthymemeref07_Named
noncomputable abbrev X : Fx := ⟨Tryz.prog, Tryz.f86, [], []⟩
abbrev P0 : Ps := []
abbrev S0  (w : World) (R : Post) : Prop :=
  R (.returned (.bool false)) w
noncomputable def eS0 := entS X [] (pth [0, 1, 1, 1, 1]) P0 S0
abbrev P1 : Ps := [(0, .v [.st]), (3, .v [.I])]
def L1 (s0 : ByteArray) (i3 : Int) (w : World) (R : Post) : Prop := mkCur P1 0 (X.Sem (pth [0, 1, 1, 1, 2])) s0 i3 w R
noncomputable def eL1 := entL X (pth [0, 1, 1, 1, 2]) P1 L1
abbrev S4 (s0 : ByteArray) (i3 : Int) (w : World) (R : Post) : Prop :=
  L1 s0 (IntKind.wrap .i64 (i3 + 1)) w R
noncomputable def eS4 := entS X [eL1, eS0] (pth [2, 2, 1, 1, 2]) P1 S4
abbrev P2 : Ps := [(0, .v [.st]), (3, .v [.I]), (4, .v [.b]), (5, .v [.b])]
abbrev S3 (s0 : ByteArray) (i3 : Int) (letter4 other5 : Bool) (w : World) (R : Post) : Prop :=
  sel (!letter4) (sel (!other5) (R (.returned (.bool false)) w) (S4 s0 i3 w R)) (S4 s0 i3 w R)
noncomputable def eS3 := entS X [eS4, eL1, eS0] (pth [2, 2, 1, 2, 1, 1, 2]) P2 S3
abbrev P3 : Ps := [(0, .v [.st]), (3, .v [.I]), (4, .v [.b])]
abbrev S2 (s0 : ByteArray) (i3 : Int) (letter4 : Bool) (w : World) (R : Post) : Prop :=
  (0 : Int) ≤ i3 ∧ ∃ t42_b : UInt8, s0[Int.toNat i3]? = some t42_b ∧ sel (decide (((t42_b.toNat : Nat) : Int) ≥ 48)) ((0 : Int) ≤ i3 ∧ ∃ t47_b : UInt8, s0[Int.toNat i3]? = some t47_b ∧ sel (decide (((t47_b.toNat : Nat) : Int) ≤ 57)) (S3 s0 i3 letter4 true w R) ((0 : Int) ≤ i3 ∧ ∃ t53_b : UInt8, s0[Int.toNat i3]? = some t53_b ∧ S3 s0 i3 letter4 (((t53_b.toNat : Nat) : Int) == 45) w R)) ((0 : Int) ≤ i3 ∧ ∃ t53_x1_b : UInt8, s0[Int.toNat i3]? = some t53_x1_b ∧ S3 s0 i3 letter4 (((t53_x1_b.toNat : Nat) : Int) == 45) w R)
noncomputable def eS2 := entS X [eS3, eS4, eL1, eS0] (pth [1, 2, 1, 2, 1, 1, 2]) P3 S2
theorem L1_step : ∀ (s0 : ByteArray) (i3 : Int) (w : World) (R : Post) (h : sel (decide (i3 < ((s0.size : Nat) : Int))) ((0 : Int) ≤ i3 ∧ ∃ t32_b : UInt8, s0[Int.toNat i3]? = some t32_b ∧ sel (decide (((t32_b.toNat : Nat) : Int) ≥ 97)) ((0 : Int) ≤ i3 ∧ ∃ t37_b : UInt8, s0[Int.toNat i3]? = some t37_b ∧ S2 s0 i3 (decide (((t37_b.toNat : Nat) : Int) ≤ 122)) w R) (S2 s0 i3 false w R)) (R (.returned (.bool true)) w)), L1 s0 i3 w R := mp (stepL (X := X) [eS2, eS3, eS4, eL1, eS0] (pth [0, 1, 1, 1, 2]) P1)
theorem ok (s0 : ByteArray) (w : World) (R : Post) (h : sel (decide (((s0.size : Nat) : Int) < 1)) (S0  w R) (sel (decide (((s0.size : Nat) : Int) > 16)) (S0  w R) ((0 : Int) ≤ 0 ∧ ∃ t16_b : UInt8, s0[Int.toNat 0]? = some t16_b ∧ sel (decide (((t16_b.toNat : Nat) : Int) < 97)) (S0  w R) ((0 : Int) ≤ 0 ∧ ∃ t21_b : UInt8, s0[Int.toNat 0]? = some t21_b ∧ sel (decide (((t21_b.toNat : Nat) : Int) > 122)) (S0  w R) (L1 s0 0 w R))))) : Calls Tryz.prog n_enthymemeref07_Named #[.string s0] w R := callsX X [eS2, eS3, eS4, eL1, eS0] h
end enthymemeref07_Named
namespace enthymemeref06_within
noncomputable abbrev X : Fx := ⟨Tryz.prog, Tryz.f118, [], []⟩
theorem ok (n0 lo1 hi2 : Int) (w : World) (R : Post) (h : sel (decide (n0 ≥ lo1)) (R (.returned (.bool (decide (n0 ≤ hi2)))) w) (R (.returned (.bool false)) w)) : Calls Tryz.prog n_enthymemeref06_within #[.i n0, .i lo1, .i hi2] w R := callsX X [] h
end enthymemeref06_within
namespace enthymemeref06_ValidSort
noncomputable abbrev X : Fx := ⟨Tryz.prog, Tryz.f87, [], [1]⟩
abbrev P0 : Ps := [(3, .v [.b])]
abbrev S0T (fine3 : Bool) (w : World) (R : Post) : Prop :=
  sel (!fine3) (R (.returned (.i 9)) w) (R (.returned (.i 0)) w)
noncomputable def eS0 := entS X [] (pth [3]) P0 S0T
theorem okT (s0_0 s0_1 s0_2 : Int) (w : World) (R : Post) (h : newV [] w fun b1 w1 => 
  sel (s0_0 == 0) (cf0 [b1] n_enthymemeref06_within #[.i s0_1, .i 1, .i 64] w1 fun t10 w2 => sel t10 (S0T (s0_2 == 0) w2 R) (S0T false w2 R)) (sel (s0_0 == 1) (cf0 [b1] n_enthymemeref06_within #[.i s0_1, .i 0, .i 64] w1 fun t20 w3 => sel t20 (S0T (s0_2 == 0) w3 R) (S0T false w3 R)) (sel (s0_0 == 2) (cf0 [b1] n_enthymemeref06_within #[.i s0_1, .i 1, .i 64] w1 fun t30 w4 => sel t30 (cf0 [b1] n_enthymemeref06_within #[.i s0_2, .i 1, .i 16] w4 fun t34 w5 => S0T t34 w5 R) (S0T false w4 R)) (sel (s0_0 == 3) (cf0 [b1] n_enthymemeref06_within #[.i s0_1, .i 0, .i 64] w1 fun t40 w6 => sel t40 (cf0 [b1] n_enthymemeref06_within #[.i s0_2, .i 1, .i 16] w6 fun t44 w7 => S0T t44 w7 R) (S0T false w6 R)) (S0T false w1 R))))) : Calls Tryz.prog n_enthymemeref06_ValidSort #[.agg #[.i s0_0, .i s0_1, .i s0_2]] w R := callsX X [eS0] h
end enthymemeref06_ValidSort
namespace enthymemeref07_fields
noncomputable abbrev X : Fx := ⟨Tryz.prog, Tryz.f44, [(1,ls [0,1,3,4,5,2,6])], [3]⟩
abbrev P0 : Ps := [(0, .v [.s]), (3, .l [.I, .s, .I, .I, .U, .st, .I, .I, .I] ty_api_Node), (5, .v [.I])]
def L0T (g0 : Sl) (n3 : Nat) (n3_0 : Int) (n3_1 : Sl) (n3_2 n3_3 n3_4 : Int) (n3_5 : ByteArray) (n3_6 n3_7 n3_8 i5 : Int) (w : World) (R : Post) : Prop := mkCur P0 0 (X.Sem (pth [0, 1, 1, 1, 2])) g0 n3 n3_0 n3_1 n3_2 n3_3 n3_4 n3_5 n3_6 n3_7 n3_8 i5 w R
noncomputable def eL0 := entL X (pth [0, 1, 1, 1, 2]) P0 L0T
abbrev P1 : Ps := []
abbrev S1T  (w : World) (R : Post) : Prop :=
  R (.returned (.i 1)) w
noncomputable def eS1 := entS X [eL0] (pth [0, 1, 1, 2, 1, 2, 1, 1, 2]) P1 S1T
abbrev S2T  (w : World) (R : Post) : Prop :=
  R (.returned (.i 1)) w
noncomputable def eS2 := entS X [eS1, eL0] (pth [0, 1, 1, 1, 5]) P1 S2T
abbrev S3T  (w : World) (R : Post) : Prop :=
  R (.returned (.i 0)) w
noncomputable def eS3 := entS X [eS2, eS1, eL0] (pth [6]) P1 S3T
theorem L0T_step : ∀ (g0 : Sl) (n3 : Nat) (n3_0 : Int) (n3_1 : Sl) (n3_2 n3_3 n3_4 : Int) (n3_5 : ByteArray) (n3_6 n3_7 n3_8 i5 : Int) (w : World) (R : Post) (h : sel (decide (i5 < ((n3_1.n : Nat) : Int))) ((0 : Int) ≤ i5 ∧ i5 < ((n3_1.n : Nat) : Int) ∧ optP n3_1.a fun t25_p => ∃ t26 : Int, w.cell? (t25_p.add (Int.toNat i5 * 1)) = some (.i t26) ∧ 
  sel (decide (t26 < 0)) (S1T  w R) ((0 : Int) ≤ i5 ∧ i5 < ((n3_1.n : Nat) : Int) ∧ optP n3_1.a fun t32_p => ∃ t33 : Int, w.cell? (t32_p.add (Int.toNat i5 * 1)) = some (.i t33) ∧ 
  sel (decide (t33 ≥ ((g0.n : Nat) : Int))) (S1T  w R) (L0T g0 n3 n3_0 n3_1 n3_2 n3_3 n3_4 n3_5 n3_6 n3_7 n3_8 (IntKind.wrap .i64 (i5 + 1)) w R))) (nwV w (.cells #[.i 21, .i 22, .i 23, .i 28] ty_int) fun w4 => 
  cf0 [n3] n_enthymemeref07_has #[.slice (some (nb w)) 4 4, .i n3_0] w4 fun t41 w5 => nwV w5 (.cells #[.i 0, .i 2, .i 33] ty_int) fun w6 => 
  cf0 [n3] n_enthymemeref07_has #[.slice (some (nb w5)) 3 3, .i n3_0] w6 fun t45 w7 => sel (!t41) (sel (n3_2 != 0) (S2T  w7 R) (sel (n3_0 != 21) (sel (n3_3 != 0) (S2T  w7 R) (sel (n3_0 != 1) (sel (n3_4 != 0) (S2T  w7 R) (sel (!t45) (sel (!(n3_5.toList == (ByteArray.mk #[]).toList)) (S2T  w7 R) (S3T  w7 R)) (S3T  w7 R))) (sel (!t45) (sel (!(n3_5.toList == (ByteArray.mk #[]).toList)) (S2T  w7 R) (S3T  w7 R)) (S3T  w7 R)))) (sel (n3_0 != 1) (sel (n3_4 != 0) (S2T  w7 R) (sel (!t45) (sel (!(n3_5.toList == (ByteArray.mk #[]).toList)) (S2T  w7 R) (S3T  w7 R)) (S3T  w7 R))) (sel (!t45) (sel (!(n3_5.toList == (ByteArray.mk #[]).toList)) (S2T  w7 R) (S3T  w7 R)) (S3T  w7 R))))) (sel (n3_0 != 21) (sel (n3_3 != 0) (S2T  w7 R) (sel (n3_0 != 1) (sel (n3_4 != 0) (S2T  w7 R) (sel (!t45) (sel (!(n3_5.toList == (ByteArray.mk #[]).toList)) (S2T  w7 R) (S3T  w7 R)) (S3T  w7 R))) (sel (!t45) (sel (!(n3_5.toList == (ByteArray.mk #[]).toList)) (S2T  w7 R) (S3T  w7 R)) (S3T  w7 R)))) (sel (n3_0 != 1) (sel (n3_4 != 0) (S2T  w7 R) (sel (!t45) (sel (!(n3_5.toList == (ByteArray.mk #[]).toList)) (S2T  w7 R) (S3T  w7 R)) (S3T  w7 R))) (sel (!t45) (sel (!(n3_5.toList == (ByteArray.mk #[]).toList)) (S2T  w7 R) (S3T  w7 R)) (S3T  w7 R)))))), L0T g0 n3 n3_0 n3_1 n3_2 n3_3 n3_4 n3_5 n3_6 n3_7 n3_8 i5 w R := mp (stepL (X := X) [eS3, eS2, eS1, eL0] (pth [0, 1, 1, 1, 2]) P0)
theorem okT (g0 : Sl) (n1_0 : Int) (n1_1 : Sl) (n1_2 n1_3 n1_4 : Int) (n1_5 : ByteArray) (n1_6 n1_7 n1_8 : Int) (w : World) (R : Post) (h : newV [] w fun b3 w1 => 
  loc [b3] w1 fun w2 => cf1 [b3] n_enthymemeref07_Kids #[.i n1_0] w2 fun t10 w3 => sel (t10 != ((n1_1.n : Nat) : Int)) (R (.returned (.i 1)) w3) (L0T g0 b3 n1_0 n1_1 n1_2 n1_3 n1_4 n1_5 n1_6 n1_7 n1_8 0 w3 R)) : Calls Tryz.prog n_enthymemeref07_fields #[g0.v, .agg #[.i n1_0, n1_1.v, .i n1_2, .i n1_3, .u n1_4, .string n1_5, .i n1_6, .i n1_7, .i n1_8]] w R := callsX X [eS3, eS2, eS1, eL0] h
end enthymemeref07_fields
namespace enthymemeref07_leaf
noncomputable abbrev X : Fx := ⟨Tryz.prog, Tryz.f45, [(19,ls [0,1,2,3,4,5,6,7,8,9,10,11,12,13,14,15,16,17,18,19,20,21,22,23,24,25,26,27,28,29,30])], [3, 4]⟩
abbrev P0 : Ps := [(4, .l [.I, .I, .I] ty_api_Sort)]
abbrev S2T (t4 : Nat) (t4_0 t4_1 t4_2 : Int) (w : World) (R : Post) : Prop :=
  loc [t4] w fun w3 => R (.returned (.tuple #[.agg #[.i 0, .i 0, .i 0], .i 9])) w3
noncomputable def eS2 := entS X [] (pth [0, 1, 1, 1, 7]) P0 S2T
abbrev P1 : Ps := [(0, .v [.s]), (3, .l [.I, .s, .I, .I, .U, .st, .I, .I, .I] ty_api_Node), (4, .l [.I, .I, .I] ty_api_Sort), (9, .v [.I])]
def L5T (g0 : Sl) (n3 : Nat) (n3_0 : Int) (n3_1 : Sl) (n3_2 n3_3 n3_4 : Int) (n3_5 : ByteArray) (n3_6 n3_7 n3_8 : Int) (t4 : Nat) (t4_0 t4_1 t4_2 i9 : Int) (w : World) (R : Post) : Prop := mkCur P1 0 (X.Sem (pth [0, 1, 1, 1, 9])) g0 n3 n3_0 n3_1 n3_2 n3_3 n3_4 n3_5 n3_6 n3_7 n3_8 t4 t4_0 t4_1 t4_2 i9 w R
noncomputable def eL5 := entL X (pth [0, 1, 1, 1, 9]) P1 L5T
abbrev S6T (g0 : Sl) (n3 : Nat) (n3_0 : Int) (n3_1 : Sl) (n3_2 n3_3 n3_4 : Int) (n3_5 : ByteArray) (n3_6 n3_7 n3_8 : Int) (t4 : Nat) (t4_0 t4_1 t4_2 i9 : Int) (w : World) (R : Post) : Prop :=
  L5T g0 n3 n3_0 n3_1 n3_2 n3_3 n3_4 n3_5 n3_6 n3_7 n3_8 t4 t4_0 t4_1 t4_2 (IntKind.wrap .i64 (i9 + 1)) w R
noncomputable def eS6 := entS X [eL5, eS2] (pth [2, 2, 1, 1, 9]) P1 S6T
theorem L5T_step : ∀ (g0 : Sl) (n3 : Nat) (n3_0 : Int) (n3_1 : Sl) (n3_2 n3_3 n3_4 : Int) (n3_5 : ByteArray) (n3_6 n3_7 n3_8 : Int) (t4 : Nat) (t4_0 t4_1 t4_2 i9 : Int) (w : World) (R : Post) (h : sel (decide (i9 < ((g0.n : Nat) : Int))) (sel (n3_0 == 0) ((0 : Int) ≤ i9 ∧ i9 < ((g0.n : Nat) : Int) ∧ optP g0.a fun t101_p => loc [n3, t4] w fun w1 => ∃ t103 : Int, w1.cell? ((t101_p.add (Int.toNat i9 * 9)).add 0) = some (.i t103) ∧ 
  sel (t103 == 0) ((0 : Int) ≤ i9 ∧ i9 < ((g0.n : Nat) : Int) ∧ optP g0.a fun t109_p => ∃ t111 : ByteArray, w1.cell? ((t109_p.add (Int.toNat i9 * 9)).add 5) = some (.string t111) ∧ 
  sel (t111.toList == n3_5.toList) ((0 : Int) ≤ i9 ∧ i9 < ((g0.n : Nat) : Int) ∧ optP g0.a fun t119_p => ld3_2 w1 ((t119_p.add (Int.toNat i9 * 9)).add 6) fun t121_0 t121_1 t121_2 => sel (!((t121_0 == n3_6) && ((t121_1 == n3_7) && ((t121_2 == n3_8) && true)))) (loc [n3, t4] w1 fun w4 => R (.returned (.tuple #[.agg #[.i 0, .i 0, .i 0], .i 8])) w4) (S6T g0 n3 n3_0 n3_1 n3_2 n3_3 n3_4 n3_5 n3_6 n3_7 n3_8 t4 t4_0 t4_1 t4_2 i9 w1 R)) (S6T g0 n3 n3_0 n3_1 n3_2 n3_3 n3_4 n3_5 n3_6 n3_7 n3_8 t4 t4_0 t4_1 t4_2 i9 w1 R)) (S6T g0 n3 n3_0 n3_1 n3_2 n3_3 n3_4 n3_5 n3_6 n3_7 n3_8 t4 t4_0 t4_1 t4_2 i9 w1 R)) (loc [n3, t4] w fun w1 => S6T g0 n3 n3_0 n3_1 n3_2 n3_3 n3_4 n3_5 n3_6 n3_7 n3_8 t4 t4_0 t4_1 t4_2 i9 w1 R)) (loc [n3, t4] w fun w7 => R (.returned (.tuple #[.agg #[.i n3_6, .i n3_7, .i n3_8], .i 0])) w7)), L5T g0 n3 n3_0 n3_1 n3_2 n3_3 n3_4 n3_5 n3_6 n3_7 n3_8 t4 t4_0 t4_1 t4_2 i9 w R := mp (stepL (X := X) [eS6, eL5, eS2] (pth [0, 1, 1, 1, 9]) P1)
abbrev P2 : Ps := [(0, .v [.s]), (3, .l [.I, .s, .I, .I, .U, .st, .I, .I, .I] ty_api_Node), (4, .l [.I, .I, .I] ty_api_Sort)]
abbrev S4T (g0 : Sl) (n3 : Nat) (n3_0 : Int) (n3_1 : Sl) (n3_2 n3_3 n3_4 : Int) (n3_5 : ByteArray) (n3_6 n3_7 n3_8 : Int) (t4 : Nat) (t4_0 t4_1 t4_2 : Int) (w : World) (R : Post) : Prop :=
  L5T g0 n3 n3_0 n3_1 n3_2 n3_3 n3_4 n3_5 n3_6 n3_7 n3_8 t4 t4_0 t4_1 t4_2 0 w R
noncomputable def eS4 := entS X [eS6, eL5, eS2] (pth [9]) P2 S4T
abbrev S3T (g0 : Sl) (n3 : Nat) (n3_0 : Int) (n3_1 : Sl) (n3_2 n3_3 n3_4 : Int) (n3_5 : ByteArray) (n3_6 n3_7 n3_8 : Int) (t4 : Nat) (t4_0 t4_1 t4_2 : Int) (w : World) (R : Post) : Prop :=
  sel (n3_0 == 1) (sel (decide (n3_7 < 64)) (¬ (IntKind.wrap .u64 n3_7) < 0 ∧ sel (decide (n3_4 ≥ (IntKind.wrap .u64 (1 * 2 ^ (min (Int.toNat (IntKind.wrap .u64 n3_7)) (IntKind.bits .u64)))))) (loc [n3, t4] w fun w3 => R (.returned (.tuple #[.agg #[.i 0, .i 0, .i 0], .i 5])) w3) (S4T g0 n3 n3_0 n3_1 n3_2 n3_3 n3_4 n3_5 n3_6 n3_7 n3_8 t4 t4_0 t4_1 t4_2 w R)) (S4T g0 n3 n3_0 n3_1 n3_2 n3_3 n3_4 n3_5 n3_6 n3_7 n3_8 t4 t4_0 t4_1 t4_2 w R)) (S4T g0 n3 n3_0 n3_1 n3_2 n3_3 n3_4 n3_5 n3_6 n3_7 n3_8 t4 t4_0 t4_1 t4_2 w R)
noncomputable def eS3 := entS X [eS4, eS6, eL5, eS2] (pth [8]) P2 S3T
abbrev P3 : Ps := [(0, .v [.s]), (3, .l [.I, .s, .I, .I, .U, .st, .I, .I, .I] ty_api_Node), (4, .l [.I, .I, .I] ty_api_Sort), (8, .v [.b])]
abbrev S1T (g0 : Sl) (n3 : Nat) (n3_0 : Int) (n3_1 : Sl) (n3_2 n3_3 n3_4 : Int) (n3_5 : ByteArray) (n3_6 n3_7 n3_8 : Int) (t4 : Nat) (t4_0 t4_1 t4_2 : Int) (arrays8 : Bool) (w : World) (R : Post) : Prop :=
  sel (n3_0 == 1) (sel (n3_6 != 0) (S2T t4 t4_0 t4_1 t4_2 w R) (sel (n3_0 == 3) (sel (!arrays8) (S2T t4 t4_0 t4_1 t4_2 w R) (S3T g0 n3 n3_0 n3_1 n3_2 n3_3 n3_4 n3_5 n3_6 n3_7 n3_8 t4 t4_0 t4_1 t4_2 w R)) (S3T g0 n3 n3_0 n3_1 n3_2 n3_3 n3_4 n3_5 n3_6 n3_7 n3_8 t4 t4_0 t4_1 t4_2 w R))) (sel (n3_0 == 3) (sel (!arrays8) (S2T t4 t4_0 t4_1 t4_2 w R) (S3T g0 n3 n3_0 n3_1 n3_2 n3_3 n3_4 n3_5 n3_6 n3_7 n3_8 t4 t4_0 t4_1 t4_2 w R)) (S3T g0 n3 n3_0 n3_1 n3_2 n3_3 n3_4 n3_5 n3_6 n3_7 n3_8 t4 t4_0 t4_1 t4_2 w R))
noncomputable def eS1 := entS X [eS3, eS4, eS6, eL5, eS2] (pth [7]) P3 S1T
abbrev P4 : Ps := [(0, .v [.s]), (3, .l [.I, .s, .I, .I, .U, .st, .I, .I, .I] ty_api_Node), (4, .l [.I, .I, .I] ty_api_Sort), (6, .v [.b])]
abbrev S0T (g0 : Sl) (n3 : Nat) (n3_0 : Int) (n3_1 : Sl) (n3_2 n3_3 n3_4 : Int) (n3_5 : ByteArray) (n3_6 n3_7 n3_8 : Int) (t4 : Nat) (t4_0 t4_1 t4_2 : Int) (name6 : Bool) (w : World) (R : Post) : Prop :=
  sel (!name6) (loc [n3, t4] w fun w3 => R (.returned (.tuple #[.agg #[.i 0, .i 0, .i 0], .i 6])) w3) (cf1 [n3, t4] n_enthymemeref06_ValidSort #[.agg #[.i n3_6, .i n3_7, .i n3_8]] w fun t35 w4 => sel (t35 != 0) (loc [n3, t4] w4 fun w7 => R (.returned (.tuple #[.agg #[.i 0, .i 0, .i 0], .i t35])) w7) (sel (n3_6 == 2) (S1T g0 n3 n3_0 n3_1 n3_2 n3_3 n3_4 n3_5 n3_6 n3_7 n3_8 t4 t4_0 t4_1 t4_2 true w4 R) (S1T g0 n3 n3_0 n3_1 n3_2 n3_3 n3_4 n3_5 n3_6 n3_7 n3_8 t4 t4_0 t4_1 t4_2 (n3_6 == 3) w4 R)))
noncomputable def eS0 := entS X [eS1, eS3, eS4, eS6, eL5, eS2] (pth [3]) P4 S0T
theorem okT (g0 : Sl) (n1_0 : Int) (n1_1 : Sl) (n1_2 n1_3 n1_4 : Int) (n1_5 : ByteArray) (n1_6 n1_7 n1_8 : Int) (w : World) (R : Post) (h : newV [] w fun b3 w1 => 
  newV [b3] w1 fun b4 w2 => 
  sel (n1_0 == 2) (sel (decide (((n1_5.size : Nat) : Int) > 64)) (loc [b3, b4] w2 fun w5 => R (.returned (.tuple #[.agg #[.i 0, .i 0, .i 0], .i 5])) w5) (cf17 [b3, b4] n_enthymemeref07_Strings #[.i ((n1_5.size : Nat) : Int)] w2 fun t21_0 t21_1 t21_2 w6 => loc [b3, b4] w6 fun w9 => R (.returned (.tuple #[.agg #[.i t21_0, .i t21_1, .i t21_2], .i 0])) w9)) (sel (n1_0 != 0) (S0T g0 b3 n1_0 n1_1 n1_2 n1_3 n1_4 n1_5 n1_6 n1_7 n1_8 b4 0 0 0 true w2 R) (cf0 [b3, b4] n_enthymemeref07_Named #[.string n1_5] w2 fun t28 w10 => S0T g0 b3 n1_0 n1_1 n1_2 n1_3 n1_4 n1_5 n1_6 n1_7 n1_8 b4 0 0 0 t28 w10 R))) : Calls Tryz.prog n_enthymemeref07_leaf #[g0.v, .agg #[.i n1_0, n1_1.v, .i n1_2, .i n1_3, .u n1_4, .string n1_5, .i n1_6, .i n1_7, .i n1_8]] w R := callsX X [eS0, eS1, eS3, eS4, eS6, eL5, eS2] h
end enthymemeref07_leaf
namespace enthymemeref07_Element
noncomputable abbrev X : Fx := ⟨Tryz.prog, Tryz.f88, [], [1, 2]⟩
theorem okT (s0_0 s0_1 s0_2 : Int) (w : World) (R : Post) (h : newV [] w fun b1 w1 => 
  newV [b1] w1 fun b2 w2 => 
  sel (s0_0 == 2) (cf17 [b1, b2] n_enthymemeref07_BV #[.i s0_1] w2 fun t8_0 t8_1 t8_2 w3 => loc [b1, b2] w3 fun w6 => R (.returned (.agg #[.i t8_0, .i t8_1, .i t8_2])) w6) (cf17 [b1, b2] n_enthymemeref07_Strings #[.i s0_1] w2 fun t11_0 t11_1 t11_2 w7 => loc [b1, b2] w7 fun w10 => R (.returned (.agg #[.i t11_0, .i t11_1, .i t11_2])) w10)) : Calls Tryz.prog n_enthymemeref07_Element #[.agg #[.i s0_0, .i s0_1, .i s0_2]] w R := callsX X [] h
end enthymemeref07_Element
namespace enthymemeref07_fit
noncomputable abbrev X : Fx := ⟨Tryz.prog, Tryz.f46, [(13,ls [0,1,2,3,4,5,6,7,8,9,10,11,12,13,14,15]), (15,ls [0,1,2,3,4,5,6,7,8,9,10,11,12,13,14,15,16,17,18,19,20,21,22,23,24,25,26]), (19,ls [0,1,2,3,4,5,6,7,8,9,10]), (21,ls [0,1,2,3,4,5,6,7,8,9,10]), (23,ls [0,1,2,3,4,5,6,7,8,9,10,11,12,13,14,15,16,17,18,19,20,21,22,23,24,25,26,27]), (25,ls [0,1,2,3,4,5,6,7,8]), (34,ls [0,1,2,3,4,5,6,7,8,9,10,11,12,13,14,15]), (38,ls [0,1,2,3]), (39,ls [0,1,2,3,4,5,6,7,8])], [5]⟩
abbrev P0 : Ps := [(6, .v [.b])]
abbrev S1T (bv6 : Bool) (w : World) (R : Post) : Prop :=
  R (.returned (.bool bv6)) w
noncomputable def eS1 := entS X [] (pth [0, 1, 1, 1, 1, 1, 5]) P0 S1T
abbrev P1 : Ps := []
abbrev S3T  (w : World) (R : Post) : Prop :=
  R (.returned (.bool false)) w
noncomputable def eS3 := entS X [eS1] (pth [0, 1, 1, 2, 11, 1, 1, 1, 5]) P1 S3T
abbrev P2 : Ps := [(7, .v [.b])]
abbrev S4T (str7 : Bool) (w : World) (R : Post) : Prop :=
  R (.returned (.bool str7)) w
noncomputable def eS4 := entS X [eS3, eS1] (pth [0, 1, 15, 1, 1, 1, 5]) P2 S4T
abbrev P3 : Ps := [(1, .v [.s]), (7, .v [.b])]
abbrev S6T (k1 : Sl) (str7 : Bool) (w : World) (R : Post) : Prop :=
  sel str7 ((0 : Int) ≤ 1 ∧ 1 < ((k1.n : Nat) : Int) ∧ optP k1.a fun t162_p => ∃ t164 : Int, w.cell? ((t162_p.add (Int.toNat 1 * 3)).add 0) = some (.i t164) ∧ 
  R (.returned (.bool (t164 == 1))) w) (R (.returned (.bool false)) w)
noncomputable def eS6 := entS X [eS4, eS3, eS1] (pth [0, 1, 17, 1, 1, 1, 5]) P3 S6T
abbrev P4 : Ps := [(1, .v [.s]), (5, .l [.I, .I, .I] ty_api_Sort), (6, .v [.b]), (7, .v [.b]), (26, .v [.I])]
abbrev S7T (k1 : Sl) (x5 : Nat) (x5_0 x5_1 x5_2 : Int) (bv6 str7 : Bool) (t26 : Int) (w : World) (R : Post) : Prop :=
  sel (t26 == 30) (sel str7 ((0 : Int) ≤ 1 ∧ 1 < ((k1.n : Nat) : Int) ∧ optP k1.a fun t172_p => loc [x5] w fun w1 => ld3_2 w1 (t172_p.add (Int.toNat 1 * 3)) fun t173_0 t173_1 t173_2 => cf17 [x5] n_enthymemeref07_BV #[.i 7] w1 fun t174_0 t174_1 t174_2 w2 => hdW3 w2 (t172_p.add (Int.toNat 1 * 3)) (.i t173_0) (.i t173_1) (.i t173_2) fun _ => sel ((t173_0 == t174_0) && ((t173_1 == t174_1) && ((t173_2 == t174_2) && true))) ((0 : Int) ≤ 2 ∧ 2 < ((k1.n : Nat) : Int) ∧ optP k1.a fun t179_p => ld3_2 w2 (t179_p.add (Int.toNat 2 * 3)) fun t180_0 t180_1 t180_2 => cf17 [x5] n_enthymemeref07_BV #[.i 7] w2 fun t181_0 t181_1 t181_2 w3 => hdW3 w3 (t179_p.add (Int.toNat 2 * 3)) (.i t180_0) (.i t180_1) (.i t180_2) fun _ => R (.returned (.bool ((t180_0 == t181_0) && ((t180_1 == t181_1) && ((t180_2 == t181_2) && true))))) w3) (R (.returned (.bool false)) w2)) (loc [x5] w fun w1 => R (.returned (.bool false)) w1)) (sel (t26 == 32) (sel str7 ((0 : Int) ≤ 1 ∧ 1 < ((k1.n : Nat) : Int) ∧ optP k1.a fun t189_p => ∃ t191 : Int, w.cell? ((t189_p.add (Int.toNat 1 * 3)).add 0) = some (.i t191) ∧ 
  sel (t191 == 1) ((0 : Int) ≤ 2 ∧ 2 < ((k1.n : Nat) : Int) ∧ optP k1.a fun t196_p => ∃ t198 : Int, w.cell? ((t196_p.add (Int.toNat 2 * 3)).add 0) = some (.i t198) ∧ 
  R (.returned (.bool (t198 == 1))) w) (R (.returned (.bool false)) w)) (R (.returned (.bool false)) w)) (sel (t26 == 34) (loc [x5] w fun w4 => cf17 [x5] n_enthymemeref07_BV #[.i 8] w4 fun t204_0 t204_1 t204_2 w5 => R (.returned (.bool ((x5_0 == t204_0) && ((x5_1 == t204_1) && ((x5_2 == t204_2) && true))))) w5) (sel bv6 ((0 : Int) ≤ 1 ∧ 1 < ((k1.n : Nat) : Int) ∧ optP k1.a fun t210_p => loc [x5] w fun w6 => ld3_2 w6 (t210_p.add (Int.toNat 1 * 3)) fun t211_0 t211_1 t211_2 => R (.returned (.bool ((x5_0 == t211_0) && ((x5_1 == t211_1) && ((x5_2 == t211_2) && true))))) w6) (loc [x5] w fun w6 => R (.returned (.bool false)) w6))))
noncomputable def eS7 := entS X [eS6, eS4, eS3, eS1] (pth [18, 1, 1, 1, 5]) P4 S7T
abbrev S5T (k1 : Sl) (x5 : Nat) (x5_0 x5_1 x5_2 : Int) (bv6 str7 : Bool) (t26 : Int) (w : World) (R : Post) : Prop :=
  sel (t26 == 29) (sel (t26 == 29) (S6T k1 str7 w R) (S7T k1 x5 x5_0 x5_1 x5_2 bv6 str7 t26 w R)) (sel (t26 == 31) (S6T k1 str7 w R) (S7T k1 x5 x5_0 x5_1 x5_2 bv6 str7 t26 w R))
noncomputable def eS5 := entS X [eS7, eS6, eS4, eS3, eS1] (pth [16, 1, 1, 1, 5]) P4 S5T
abbrev P5 : Ps := [(1, .v [.s]), (5, .l [.I, .I, .I] ty_api_Sort), (6, .v [.b]), (7, .v [.b]), (8, .v [.b]), (26, .v [.I])]
abbrev S2T (k1 : Sl) (x5 : Nat) (x5_0 x5_1 x5_2 : Int) (bv6 str7 arrays8 : Bool) (t26 : Int) (w : World) (R : Post) : Prop :=
  sel (t26 == 18) ((0 : Int) ≤ 1 ∧ 1 < ((k1.n : Nat) : Int) ∧ optP k1.a fun t38_p => loc [x5] w fun w1 => ld3_2 w1 (t38_p.add (Int.toNat 1 * 3)) fun t39_0 t39_1 t39_2 => sel ((x5_0 == t39_0) && ((x5_1 == t39_1) && ((x5_2 == t39_2) && true))) (R (.returned (.bool true)) w1) (sel str7 ((0 : Int) ≤ 1 ∧ 1 < ((k1.n : Nat) : Int) ∧ optP k1.a fun t45_p => ∃ t47 : Int, w1.cell? ((t45_p.add (Int.toNat 1 * 3)).add 0) = some (.i t47) ∧ 
  R (.returned (.bool (t47 == 1))) w1) (R (.returned (.bool false)) w1))) (sel (t26 == 19) (loc [x5] w fun w2 => cf17 [x5] n_enthymemeref07_BV #[.i 1] w2 fun t54_0 t54_1 t54_2 w3 => sel ((x5_0 == t54_0) && ((x5_1 == t54_1) && ((x5_2 == t54_2) && true))) ((0 : Int) ≤ 1 ∧ 1 < ((k1.n : Nat) : Int) ∧ optP k1.a fun t58_p => ld3_2 w3 (t58_p.add (Int.toNat 1 * 3)) fun t59_0 t59_1 t59_2 => (0 : Int) ≤ 2 ∧ 2 < ((k1.n : Nat) : Int) ∧ optP k1.a fun t61_p => ld3_2 w3 (t61_p.add (Int.toNat 2 * 3)) fun t62_0 t62_1 t62_2 => sel ((t59_0 == t62_0) && ((t59_1 == t62_1) && ((t59_2 == t62_2) && true))) (R (.returned (.bool true)) w3) ((0 : Int) ≤ 1 ∧ 1 < ((k1.n : Nat) : Int) ∧ optP k1.a fun t66_p => ∃ t68 : Int, w3.cell? ((t66_p.add (Int.toNat 1 * 3)).add 0) = some (.i t68) ∧ 
  sel (t68 == 1) ((0 : Int) ≤ 2 ∧ 2 < ((k1.n : Nat) : Int) ∧ optP k1.a fun t72_p => ∃ t74 : Int, w3.cell? ((t72_p.add (Int.toNat 2 * 3)).add 0) = some (.i t74) ∧ 
  R (.returned (.bool (t74 == 1))) w3) (R (.returned (.bool false)) w3))) (R (.returned (.bool false)) w3)) (sel (t26 == 20) (sel bv6 ((0 : Int) ≤ 1 ∧ 1 < ((k1.n : Nat) : Int) ∧ optP k1.a fun t84_p => ∃ t86 : Int, w.cell? ((t84_p.add (Int.toNat 1 * 3)).add 0) = some (.i t86) ∧ 
  R (.returned (.bool (t86 == 0))) w) (R (.returned (.bool false)) w)) (sel (t26 == 24) (sel arrays8 ((0 : Int) ≤ 1 ∧ 1 < ((k1.n : Nat) : Int) ∧ optP k1.a fun t94_p => loc [x5] w fun w4 => ld3_2 w4 (t94_p.add (Int.toNat 1 * 3)) fun t95_0 t95_1 t95_2 => cf17 [x5] n_enthymemeref07_BV #[.i x5_2] w4 fun t98_0 t98_1 t98_2 w5 => hdW3 w5 (t94_p.add (Int.toNat 1 * 3)) (.i t95_0) (.i t95_1) (.i t95_2) fun _ => R (.returned (.bool ((t95_0 == t98_0) && ((t95_1 == t98_1) && ((t95_2 == t98_2) && true))))) w5) (loc [x5] w fun w4 => R (.returned (.bool false)) w4)) (sel (t26 == 25) (sel (!arrays8) (loc [x5] w fun w6 => S3T  w6 R) ((0 : Int) ≤ 1 ∧ 1 < ((k1.n : Nat) : Int) ∧ optP k1.a fun t107_p => loc [x5] w fun w6 => ld3_2 w6 (t107_p.add (Int.toNat 1 * 3)) fun t108_0 t108_1 t108_2 => cf17 [x5] n_enthymemeref07_BV #[.i x5_2] w6 fun t111_0 t111_1 t111_2 w7 => hdW3 w7 (t107_p.add (Int.toNat 1 * 3)) (.i t108_0) (.i t108_1) (.i t108_2) fun _ => sel (!((t108_0 == t111_0) && ((t108_1 == t111_1) && ((t108_2 == t111_2) && true)))) (S3T  w7 R) ((0 : Int) ≤ 2 ∧ 2 < ((k1.n : Nat) : Int) ∧ optP k1.a fun t115_p => loc [x5] w7 fun w8 => ld3_2 w8 (t115_p.add (Int.toNat 2 * 3)) fun t116_0 t116_1 t116_2 => cf17 [x5] n_enthymemeref07_Element #[.agg #[.i x5_0, .i x5_1, .i x5_2]] w8 fun t118_0 t118_1 t118_2 w9 => hdW3 w9 (t115_p.add (Int.toNat 2 * 3)) (.i t116_0) (.i t116_1) (.i t116_2) fun _ => sel ((t116_0 == t118_0) && ((t116_1 == t118_1) && ((t116_2 == t118_2) && true))) (R (.returned (.bool true)) w9) (sel (x5_0 == 3) ((0 : Int) ≤ 2 ∧ 2 < ((k1.n : Nat) : Int) ∧ optP k1.a fun t126_p => ∃ t128 : Int, w9.cell? ((t126_p.add (Int.toNat 2 * 3)).add 0) = some (.i t128) ∧ 
  sel (t128 == 1) ((0 : Int) ≤ 2 ∧ 2 < ((k1.n : Nat) : Int) ∧ optP k1.a fun t133_p => ∃ t135 : Int, w9.cell? ((t133_p.add (Int.toNat 2 * 3)).add 1) = some (.i t135) ∧ 
  R (.returned (.bool (decide (t135 ≤ x5_1)))) w9) (R (.returned (.bool false)) w9)) (R (.returned (.bool false)) w9))))) (sel (t26 == 26) (sel arrays8 ((0 : Int) ≤ 1 ∧ 1 < ((k1.n : Nat) : Int) ∧ optP k1.a fun t147_p => loc [x5] w fun w10 => ld3_2 w10 (t147_p.add (Int.toNat 1 * 3)) fun t148_0 t148_1 t148_2 => R (.returned (.bool ((x5_0 == t148_0) && ((x5_1 == t148_1) && ((x5_2 == t148_2) && true))))) w10) (loc [x5] w fun w10 => R (.returned (.bool false)) w10)) (sel (t26 == 27) (sel (t26 == 27) (S4T str7 w R) (S5T k1 x5 x5_0 x5_1 x5_2 bv6 str7 t26 w R)) (sel (t26 == 28) (sel (t26 == 28) (S4T str7 w R) (S5T k1 x5 x5_0 x5_1 x5_2 bv6 str7 t26 w R)) (sel (t26 == 33) (S4T str7 w R) (S5T k1 x5 x5_0 x5_1 x5_2 bv6 str7 t26 w R)))))))))
noncomputable def eS2 := entS X [eS5, eS7, eS6, eS4, eS3, eS1] (pth [2, 1, 1, 1, 5]) P5 S2T
abbrev P6 : Ps := [(0, .v [.I]), (1, .v [.s]), (5, .l [.I, .I, .I] ty_api_Sort), (6, .v [.b]), (7, .v [.b]), (8, .v [.b])]
abbrev S0T (op0 : Int) (k1 : Sl) (x5 : Nat) (x5_0 x5_1 x5_2 : Int) (bv6 str7 arrays8 : Bool) (w : World) (R : Post) : Prop :=
  sel (op0 == 4) (sel (op0 == 4) (S1T bv6 w R) (S2T k1 x5 x5_0 x5_1 x5_2 bv6 str7 arrays8 op0 w R)) (sel (op0 == 5) (sel (op0 == 5) (S1T bv6 w R) (S2T k1 x5 x5_0 x5_1 x5_2 bv6 str7 arrays8 op0 w R)) (sel (op0 == 21) (sel (op0 == 21) (S1T bv6 w R) (S2T k1 x5 x5_0 x5_1 x5_2 bv6 str7 arrays8 op0 w R)) (sel (op0 == 22) (sel (op0 == 22) (S1T bv6 w R) (S2T k1 x5 x5_0 x5_1 x5_2 bv6 str7 arrays8 op0 w R)) (sel (op0 == 23) (S1T bv6 w R) (S2T k1 x5 x5_0 x5_1 x5_2 bv6 str7 arrays8 op0 w R)))))
noncomputable def eS0 := entS X [eS2, eS5, eS7, eS6, eS4, eS3, eS1] (pth [5]) P6 S0T
theorem okT (op0 : Int) (k1 : Sl) (w : World) (R : Post) (h : (0 : Int) ≤ 0 ∧ 0 < ((k1.n : Nat) : Int) ∧ optP k1.a fun t10_p => ld3_2 w (t10_p.add (Int.toNat 0 * 3)) fun t11_0 t11_1 t11_2 => newV [] w fun b5 w1 => 
  sel (t11_0 == 2) (loc [b5] w1 fun w4 => S0T op0 k1 b5 t11_0 t11_1 t11_2 (t11_0 == 0) (t11_0 == 1) true w4 R) (loc [b5] w1 fun w4 => S0T op0 k1 b5 t11_0 t11_1 t11_2 (t11_0 == 0) (t11_0 == 1) (t11_0 == 3) w4 R)) : Calls Tryz.prog n_enthymemeref07_fit #[.i op0, k1.v] w R := callsX X [eS0, eS2, eS5, eS7, eS6, eS4, eS3, eS1] h
end enthymemeref07_fit
namespace enthymemeref07_result
noncomputable abbrev X : Fx := ⟨Tryz.prog, Tryz.f47, [(10,ls [0,1,2,3,4,5,6,7,8,9,10,11]), (13,ls [0,1,2,3,4,5,6,8,9,10,11,12,13,14,15,7,16,17]), (15,ls [0,1,2,3,4,5,7,8,9,6,10,11,12,13,14,15,16,17,18,19,20,21,22,23,24,25]), (18,ls [0,1,2,3,4,6,7,8,5,9,10,11,12,13,14,15,16,17,18]), (27,ls [1,2,3,0,4,5,6,7,8,9,10]), (29,ls [0,1,2,3,4,5,6,8,9,10,11,12,13,14,15,7,16,17]), (31,ls [0,1,2,3,4,5,6,8,9,10,11,12,13,14,15,7,16,17])], [2, 4, 6]⟩
abbrev P0 : Ps := [(4, .l [.I, .I, .I] ty_api_Sort)]
abbrev S0T (t4 : Nat) (t4_0 t4_1 t4_2 : Int) (w : World) (R : Post) : Prop :=
  cf17 [t4] n_enthymemeref07_BV #[.i 1] w fun t17_0 t17_1 t17_2 w1 => loc [t4] w1 fun w4 => R (.returned (.tuple #[.agg #[.i t17_0, .i t17_1, .i t17_2], .bool true])) w4
noncomputable def eS0 := entS X [] (pth [0, 1, 1, 1, 1, 1, 2]) P0 S0T
abbrev P1 : Ps := [(2, .l [.I, .s, .I, .I, .U, .st, .I, .I, .I] ty_api_Node), (4, .l [.I, .I, .I] ty_api_Sort), (6, .l [.I, .I, .I] ty_api_Sort)]
abbrev S2T (n2 : Nat) (n2_0 : Int) (n2_1 : Sl) (n2_2 n2_3 n2_4 : Int) (n2_5 : ByteArray) (n2_6 n2_7 n2_8 : Int) (t4 : Nat) (t4_0 t4_1 t4_2 : Int) (x6 : Nat) (x6_0 x6_1 x6_2 : Int) (w : World) (R : Post) : Prop :=
  loc [n2, t4, x6] w fun w1 => cf17 [n2, t4, x6] n_enthymemeref07_BV #[.i (IntKind.wrap .i64 (x6_1 + n2_2))] w1 fun t90_0 t90_1 t90_2 w2 => sel (decide (n2_2 ≥ 1)) (loc [n2, t4, x6] w2 fun w5 => R (.returned (.tuple #[.agg #[.i t90_0, .i t90_1, .i t90_2], .bool (decide (n2_2 ≤ (IntKind.wrap .i64 (64 - x6_1))))])) w5) (loc [n2, t4, x6] w2 fun w8 => R (.returned (.tuple #[.agg #[.i t90_0, .i t90_1, .i t90_2], .bool false])) w8)
noncomputable def eS2 := entS X [eS0] (pth [0, 1, 9, 1, 1, 1, 2]) P1 S2T
abbrev S4T (t4 : Nat) (t4_0 t4_1 t4_2 : Int) (w : World) (R : Post) : Prop :=
  cf17 [t4] n_enthymemeref07_BV #[.i 7] w fun t114_0 t114_1 t114_2 w1 => loc [t4] w1 fun w4 => R (.returned (.tuple #[.agg #[.i t114_0, .i t114_1, .i t114_2], .bool true])) w4
noncomputable def eS4 := entS X [eS2, eS0] (pth [0, 1, 15, 1, 1, 1, 2]) P0 S4T
abbrev P2 : Ps := [(1, .v [.s]), (2, .l [.I, .s, .I, .I, .U, .st, .I, .I, .I] ty_api_Node), (4, .l [.I, .I, .I] ty_api_Sort), (6, .l [.I, .I, .I] ty_api_Sort), (11, .v [.I])]
abbrev S5T (k1 : Sl) (n2 : Nat) (n2_0 : Int) (n2_1 : Sl) (n2_2 n2_3 n2_4 : Int) (n2_5 : ByteArray) (n2_6 n2_7 n2_8 : Int) (t4 : Nat) (t4_0 t4_1 t4_2 : Int) (x6 : Nat) (x6_0 x6_1 x6_2 t11 : Int) (w : World) (R : Post) : Prop :=
  sel (t11 == 28) (loc [n2, t4, x6] w fun w1 => cf17 [n2, t4, x6] n_enthymemeref07_BV #[.i 8] w1 fun t117_0 t117_1 t117_2 w2 => sel (decide (n2_2 ≥ 0)) (loc [n2, t4, x6] w2 fun w5 => R (.returned (.tuple #[.agg #[.i t117_0, .i t117_1, .i t117_2], .bool (decide (n2_2 ≤ 63))])) w5) (loc [n2, t4, x6] w2 fun w8 => R (.returned (.tuple #[.agg #[.i t117_0, .i t117_1, .i t117_2], .bool false])) w8)) (sel (t11 == 29) ((0 : Int) ≤ 1 ∧ 1 < ((k1.n : Nat) : Int) ∧ optP k1.a fun t131_p => loc [n2, t4, x6] w fun w9 => ∃ t133 : Int, w9.cell? ((t131_p.add (Int.toNat 1 * 3)).add 1) = some (.i t133) ∧ 
  (0 : Int) ≤ 1 ∧ 1 < ((k1.n : Nat) : Int) ∧ optP k1.a fun t139_p => ∃ t141 : Int, w9.cell? ((t139_p.add (Int.toNat 1 * 3)).add 1) = some (.i t141) ∧ 
  cf17 [n2, t4, x6] n_enthymemeref07_Strings #[.i (IntKind.wrap .i64 (x6_1 + t133))] w9 fun t135_0 t135_1 t135_2 w10 => w10.cell? ((t139_p.add (Int.toNat 1 * 3)).add 1) = some (.i t141) ∧ loc [n2, t4, x6] w10 fun w13 => w13.cell? ((t139_p.add (Int.toNat 1 * 3)).add 1) = some (.i t141) ∧ R (.returned (.tuple #[.agg #[.i t135_0, .i t135_1, .i t135_2], .bool (decide ((IntKind.wrap .i64 (x6_1 + t141)) ≤ 64))])) w13) (sel (t11 == 32) ((0 : Int) ≤ 2 ∧ 2 < ((k1.n : Nat) : Int) ∧ optP k1.a fun t149_p => loc [n2, t4, x6] w fun w14 => ∃ t151 : Int, w14.cell? ((t149_p.add (Int.toNat 2 * 3)).add 1) = some (.i t151) ∧ 
  (0 : Int) ≤ 2 ∧ 2 < ((k1.n : Nat) : Int) ∧ optP k1.a fun t157_p => ∃ t159 : Int, w14.cell? ((t157_p.add (Int.toNat 2 * 3)).add 1) = some (.i t159) ∧ 
  cf17 [n2, t4, x6] n_enthymemeref07_Strings #[.i (IntKind.wrap .i64 (x6_1 + t151))] w14 fun t153_0 t153_1 t153_2 w15 => w15.cell? ((t157_p.add (Int.toNat 2 * 3)).add 1) = some (.i t159) ∧ loc [n2, t4, x6] w15 fun w18 => w18.cell? ((t157_p.add (Int.toNat 2 * 3)).add 1) = some (.i t159) ∧ R (.returned (.tuple #[.agg #[.i t153_0, .i t153_1, .i t153_2], .bool (decide ((IntKind.wrap .i64 (x6_1 + t159)) ≤ 64))])) w18) (sel (t11 == 34) (cf17 [n2, t4, x6] n_enthymemeref07_Strings #[.i 1] w fun t164_0 t164_1 t164_2 w19 => loc [n2, t4, x6] w19 fun w22 => R (.returned (.tuple #[.agg #[.i t164_0, .i t164_1, .i t164_2], .bool true])) w22) (loc [n2, t4, x6] w fun w25 => R (.returned (.tuple #[.agg #[.i x6_0, .i x6_1, .i x6_2], .bool true])) w25))))
noncomputable def eS5 := entS X [eS4, eS2, eS0] (pth [16, 1, 1, 1, 2]) P2 S5T
abbrev S3T (k1 : Sl) (n2 : Nat) (n2_0 : Int) (n2_1 : Sl) (n2_2 n2_3 n2_4 : Int) (n2_5 : ByteArray) (n2_6 n2_7 n2_8 : Int) (t4 : Nat) (t4_0 t4_1 t4_2 : Int) (x6 : Nat) (x6_0 x6_1 x6_2 t11 : Int) (w : World) (R : Post) : Prop :=
  sel (t11 == 24) (cf17 [n2, t4, x6] n_enthymemeref07_Element #[.agg #[.i x6_0, .i x6_1, .i x6_2]] w fun t105_0 t105_1 t105_2 w1 => loc [n2, t4, x6] w1 fun w4 => R (.returned (.tuple #[.agg #[.i t105_0, .i t105_1, .i t105_2], .bool true])) w4) (sel (t11 == 26) (cf17 [n2, t4, x6] n_enthymemeref07_BV #[.i x6_2] w fun t110_0 t110_1 t110_2 w5 => loc [n2, t4, x6] w5 fun w8 => R (.returned (.tuple #[.agg #[.i t110_0, .i t110_1, .i t110_2], .bool true])) w8) (sel (t11 == 27) (sel (t11 == 27) (S4T t4 t4_0 t4_1 t4_2 w R) (S5T k1 n2 n2_0 n2_1 n2_2 n2_3 n2_4 n2_5 n2_6 n2_7 n2_8 t4 t4_0 t4_1 t4_2 x6 x6_0 x6_1 x6_2 t11 w R)) (sel (t11 == 31) (S4T t4 t4_0 t4_1 t4_2 w R) (S5T k1 n2 n2_0 n2_1 n2_2 n2_3 n2_4 n2_5 n2_6 n2_7 n2_8 t4 t4_0 t4_1 t4_2 x6 x6_0 x6_1 x6_2 t11 w R))))
noncomputable def eS3 := entS X [eS5, eS4, eS2, eS0] (pth [10, 1, 1, 1, 2]) P2 S3T
abbrev S1T (k1 : Sl) (n2 : Nat) (n2_0 : Int) (n2_1 : Sl) (n2_2 n2_3 n2_4 : Int) (n2_5 : ByteArray) (n2_6 n2_7 n2_8 : Int) (t4 : Nat) (t4_0 t4_1 t4_2 : Int) (x6 : Nat) (x6_0 x6_1 x6_2 t11 : Int) (w : World) (R : Post) : Prop :=
  sel (t11 == 19) ((0 : Int) ≤ 1 ∧ 1 < ((k1.n : Nat) : Int) ∧ optP k1.a fun t21_p => ∃ t23 : Int, w.cell? ((t21_p.add (Int.toNat 1 * 3)).add 0) = some (.i t23) ∧ 
  sel (t23 == 1) ((0 : Int) ≤ 1 ∧ 1 < ((k1.n : Nat) : Int) ∧ optP k1.a fun t26_p => loc [n2, t4, x6] w fun w1 => ∃ t28 : Int, w1.cell? ((t26_p.add (Int.toNat 1 * 3)).add 1) = some (.i t28) ∧ 
  (0 : Int) ≤ 2 ∧ 2 < ((k1.n : Nat) : Int) ∧ optP k1.a fun t30_p => ∃ t32 : Int, w1.cell? ((t30_p.add (Int.toNat 2 * 3)).add 1) = some (.i t32) ∧ 
  cf17 [n2, t4, x6] n_enthymemeref07_Strings #[.i (if t28 < t32 then t32 else t28)] w1 fun t34_0 t34_1 t34_2 w2 => loc [n2, t4, x6] w2 fun w5 => R (.returned (.tuple #[.agg #[.i t34_0, .i t34_1, .i t34_2], .bool true])) w5) ((0 : Int) ≤ 1 ∧ 1 < ((k1.n : Nat) : Int) ∧ optP k1.a fun t36_p => ld3_2 w (t36_p.add (Int.toNat 1 * 3)) fun t37_0 t37_1 t37_2 => loc [n2, t4, x6] w fun w8 => R (.returned (.tuple #[.agg #[.i t37_0, .i t37_1, .i t37_2], .bool true])) w8)) (sel (t11 == 20) ((0 : Int) ≤ 1 ∧ 1 < ((k1.n : Nat) : Int) ∧ optP k1.a fun t43_p => loc [n2, t4, x6] w fun w9 => ∃ t45 : Int, w9.cell? ((t43_p.add (Int.toNat 1 * 3)).add 1) = some (.i t45) ∧ 
  (0 : Int) ≤ 1 ∧ 1 < ((k1.n : Nat) : Int) ∧ optP k1.a fun t51_p => ∃ t53 : Int, w9.cell? ((t51_p.add (Int.toNat 1 * 3)).add 1) = some (.i t53) ∧ 
  cf17 [n2, t4, x6] n_enthymemeref07_BV #[.i (IntKind.wrap .i64 (x6_1 + t45))] w9 fun t47_0 t47_1 t47_2 w10 => w10.cell? ((t51_p.add (Int.toNat 1 * 3)).add 1) = some (.i t53) ∧ loc [n2, t4, x6] w10 fun w13 => w13.cell? ((t51_p.add (Int.toNat 1 * 3)).add 1) = some (.i t53) ∧ R (.returned (.tuple #[.agg #[.i t47_0, .i t47_1, .i t47_2], .bool (decide ((IntKind.wrap .i64 (x6_1 + t53)) ≤ 64))])) w13) (sel (t11 == 21) (loc [n2, t4, x6] w fun w14 => cf17 [n2, t4, x6] n_enthymemeref07_BV #[.i (IntKind.wrap .i64 ((IntKind.wrap .i64 (n2_2 - n2_3)) + 1))] w14 fun t64_0 t64_1 t64_2 w15 => sel (decide (n2_3 ≥ 0)) (sel (decide (n2_3 ≤ n2_2)) (loc [n2, t4, x6] w15 fun w18 => R (.returned (.tuple #[.agg #[.i t64_0, .i t64_1, .i t64_2], .bool (decide (n2_2 < x6_1))])) w18) (loc [n2, t4, x6] w15 fun w21 => R (.returned (.tuple #[.agg #[.i t64_0, .i t64_1, .i t64_2], .bool false])) w21)) (loc [n2, t4, x6] w15 fun w24 => R (.returned (.tuple #[.agg #[.i t64_0, .i t64_1, .i t64_2], .bool false])) w24)) (sel (t11 == 22) (sel (t11 == 22) (S2T n2 n2_0 n2_1 n2_2 n2_3 n2_4 n2_5 n2_6 n2_7 n2_8 t4 t4_0 t4_1 t4_2 x6 x6_0 x6_1 x6_2 w R) (S3T k1 n2 n2_0 n2_1 n2_2 n2_3 n2_4 n2_5 n2_6 n2_7 n2_8 t4 t4_0 t4_1 t4_2 x6 x6_0 x6_1 x6_2 t11 w R)) (sel (t11 == 23) (S2T n2 n2_0 n2_1 n2_2 n2_3 n2_4 n2_5 n2_6 n2_7 n2_8 t4 t4_0 t4_1 t4_2 x6 x6_0 x6_1 x6_2 w R) (S3T k1 n2 n2_0 n2_1 n2_2 n2_3 n2_4 n2_5 n2_6 n2_7 n2_8 t4 t4_0 t4_1 t4_2 x6 x6_0 x6_1 x6_2 t11 w R)))))
noncomputable def eS1 := entS X [eS3, eS5, eS4, eS2, eS0] (pth [2, 1, 1, 1, 2]) P2 S1T
theorem okT (n0_0 : Int) (n0_1 : Sl) (n0_2 n0_3 n0_4 : Int) (n0_5 : ByteArray) (n0_6 n0_7 n0_8 : Int) (k1 : Sl) (w : World) (R : Post) (h : newV [] w fun b2 w1 => 
  newV [b2] w1 fun b4 w2 => 
  (0 : Int) ≤ 0 ∧ 0 < ((k1.n : Nat) : Int) ∧ optP k1.a fun t8_p => ld3_2 w2 (t8_p.add (Int.toNat 0 * 3)) fun t9_0 t9_1 t9_2 => newV [b2, b4] w2 fun b6 w3 => 
  sel (n0_0 == 16) (sel (n0_0 == 16) (loc [b2, b4, b6] w3 fun w6 => S0T b4 0 0 0 w6 R) (loc [b2, b4, b6] w3 fun w6 => S1T k1 b2 n0_0 n0_1 n0_2 n0_3 n0_4 n0_5 n0_6 n0_7 n0_8 b4 0 0 0 b6 t9_0 t9_1 t9_2 n0_0 w6 R)) (sel (n0_0 == 17) (sel (n0_0 == 17) (loc [b2, b4, b6] w3 fun w6 => S0T b4 0 0 0 w6 R) (loc [b2, b4, b6] w3 fun w6 => S1T k1 b2 n0_0 n0_1 n0_2 n0_3 n0_4 n0_5 n0_6 n0_7 n0_8 b4 0 0 0 b6 t9_0 t9_1 t9_2 n0_0 w6 R)) (sel (n0_0 == 18) (sel (n0_0 == 18) (loc [b2, b4, b6] w3 fun w6 => S0T b4 0 0 0 w6 R) (loc [b2, b4, b6] w3 fun w6 => S1T k1 b2 n0_0 n0_1 n0_2 n0_3 n0_4 n0_5 n0_6 n0_7 n0_8 b4 0 0 0 b6 t9_0 t9_1 t9_2 n0_0 w6 R)) (sel (n0_0 == 33) (loc [b2, b4, b6] w3 fun w6 => S0T b4 0 0 0 w6 R) (loc [b2, b4, b6] w3 fun w6 => S1T k1 b2 n0_0 n0_1 n0_2 n0_3 n0_4 n0_5 n0_6 n0_7 n0_8 b4 0 0 0 b6 t9_0 t9_1 t9_2 n0_0 w6 R))))) : Calls Tryz.prog n_enthymemeref07_result #[.agg #[.i n0_0, n0_1.v, .i n0_2, .i n0_3, .u n0_4, .string n0_5, .i n0_6, .i n0_7, .i n0_8], k1.v] w R := callsX X [eS1, eS3, eS5, eS4, eS2, eS0] h
end enthymemeref07_result
namespace enthymemeref07_SortOf
noncomputable abbrev X : Fx := ⟨Tryz.prog, Tryz.f13, [], [3, 4, 10]⟩
abbrev P0 : Ps := [(0, .v [.s]), (3, .l [.I, .s, .I, .I, .U, .st, .I, .I, .I] ty_api_Node), (4, .l [.I, .I, .I] ty_api_Sort), (7, .v [.s]), (8, .v [.I])]
def L0T (g0 : Sl) (n3 : Nat) (n3_0 : Int) (n3_1 : Sl) (n3_2 n3_3 n3_4 : Int) (n3_5 : ByteArray) (n3_6 n3_7 n3_8 : Int) (t4 : Nat) (t4_0 t4_1 t4_2 : Int) (k7 : Sl) (i8 : Int) (w : World) (R : Post) : Prop := mkCur P0 0 (X.Sem (pth [0, 1, 1, 1, 5])) g0 n3 n3_0 n3_1 n3_2 n3_3 n3_4 n3_5 n3_6 n3_7 n3_8 t4 t4_0 t4_1 t4_2 k7 i8 w R
noncomputable def eL0 := entL X (pth [0, 1, 1, 1, 5]) P0 L0T
abbrev P1 : Ps := [(4, .l [.I, .I, .I] ty_api_Sort), (10, .l [.I, .I, .I] ty_api_Sort), (12, .v [.b])]
abbrev S1T (t4 : Nat) (t4_0 t4_1 t4_2 : Int) (s10 : Nat) (s10_0 s10_1 s10_2 : Int) (canonical12 : Bool) (w : World) (R : Post) : Prop :=
  sel (!canonical12) (loc [t4, s10] w fun w3 => R (.returned (.tuple #[.agg #[.i 0, .i 0, .i 0], .i 2])) w3) (loc [t4, s10] w fun w6 => R (.returned (.tuple #[.agg #[.i s10_0, .i s10_1, .i s10_2], .i 0])) w6)
noncomputable def eS1 := entS X [eL0] (pth [11]) P1 S1T
theorem L0T_step : ∀ (g0 : Sl) (n3 : Nat) (n3_0 : Int) (n3_1 : Sl) (n3_2 n3_3 n3_4 : Int) (n3_5 : ByteArray) (n3_6 n3_7 n3_8 : Int) (t4 : Nat) (t4_0 t4_1 t4_2 : Int) (k7 : Sl) (i8 : Int) (w : World) (R : Post) (h : sel (decide (i8 < ((n3_1.n : Nat) : Int))) ((0 : Int) ≤ i8 ∧ i8 < ((n3_1.n : Nat) : Int) ∧ optP n3_1.a fun t41_p => ∃ t42 : Int, w.cell? (t41_p.add (Int.toNat i8 * 1)) = some (.i t42) ∧ 
  (0 : Int) ≤ t42 ∧ t42 < ((g0.n : Nat) : Int) ∧ optP g0.a fun t43_p => ld3_2 w ((t43_p.add (Int.toNat t42 * 9)).add 6) fun t45_0 t45_1 t45_2 => nwV w (.cells #[.i t45_0, .i t45_1, .i t45_2] ty_api_Sort) fun w11 => 
  ∃ (t47 : Sl) (w12 : World), Sem.run Tryz.prog (Builtin.append_ #[ty_sl_api_Sort, ty_sl_api_Sort] ty_sl_api_Sort #[k7.v, .slice (some (nb w)) 1 1]) w11 = .ok (t47.v) w12 ∧ kept [n3, t4] w11 w12 ∧ L0T g0 n3 n3_0 n3_1 n3_2 n3_3 n3_4 n3_5 n3_6 n3_7 n3_8 t4 t4_0 t4_1 t4_2 t47 (IntKind.wrap .i64 (i8 + 1)) w12 R) (cf0 [n3, t4] n_enthymemeref07_fit #[.i n3_0, k7.v] w fun t51 w13 => sel (!t51) (loc [n3, t4] w13 fun w16 => R (.returned (.tuple #[.agg #[.i 0, .i 0, .i 0], .i 9])) w16) (cf18 [n3, t4] n_enthymemeref07_result #[.agg #[.i n3_0, n3_1.v, .i n3_2, .i n3_3, .u n3_4, .string n3_5, .i n3_6, .i n3_7, .i n3_8], k7.v] w13 fun t58_0_0 t58_0_1 t58_0_2 t58_1 w17 => newV [n3, t4] w17 fun b10 w18 => 
  sel (!t58_1) (loc [n3, t4, b10] w18 fun w24 => R (.returned (.tuple #[.agg #[.i 0, .i 0, .i 0], .i 5])) w24) (sel (n3_0 != 33) (loc [n3, t4, b10] w18 fun w21 => S1T t4 t4_0 t4_1 t4_2 b10 t58_0_0 t58_0_1 t58_0_2 true w21 R) (loc [n3, t4, b10] w18 fun w21 => cf0 [n3, t4, b10] n_enthymemeref04_Canonical #[.string n3_5] w21 fun t70 w25 => S1T t4 t4_0 t4_1 t4_2 b10 t58_0_0 t58_0_1 t58_0_2 t70 w25 R))))), L0T g0 n3 n3_0 n3_1 n3_2 n3_3 n3_4 n3_5 n3_6 n3_7 n3_8 t4 t4_0 t4_1 t4_2 k7 i8 w R := mp (stepL (X := X) [eS1, eL0] (pth [0, 1, 1, 1, 5]) P0)
theorem okT (g0 : Sl) (n1_0 : Int) (n1_1 : Sl) (n1_2 n1_3 n1_4 : Int) (n1_5 : ByteArray) (n1_6 n1_7 n1_8 : Int) (w : World) (R : Post) (h : newV [] w fun b3 w1 => 
  newV [b3] w1 fun b4 w2 => 
  cf1 [b3, b4] n_enthymemeref07_fields #[g0.v, .agg #[.i n1_0, n1_1.v, .i n1_2, .i n1_3, .u n1_4, .string n1_5, .i n1_6, .i n1_7, .i n1_8]] w2 fun t15 w3 => sel (t15 != 0) (loc [b3, b4] w3 fun w6 => R (.returned (.tuple #[.agg #[.i 0, .i 0, .i 0], .i t15])) w6) (sel (((n1_1.n : Nat) : Int) == 0) (cf19 [b3, b4] n_enthymemeref07_leaf #[g0.v, .agg #[.i n1_0, n1_1.v, .i n1_2, .i n1_3, .u n1_4, .string n1_5, .i n1_6, .i n1_7, .i n1_8]] w3 fun t26_0_0 t26_0_1 t26_0_2 t26_1 w7 => loc [b3, b4] w7 fun w10 => R (.returned (.tuple #[.agg #[.i t26_0_0, .i t26_0_1, .i t26_0_2], .i t26_1])) w10) (L0T g0 b3 n1_0 n1_1 n1_2 n1_3 n1_4 n1_5 n1_6 n1_7 n1_8 b4 0 0 0 ⟨none, 0, 0⟩ 0 w3 R))) : Calls Tryz.prog n_enthymemeref07_SortOf #[g0.v, .agg #[.i n1_0, n1_1.v, .i n1_2, .i n1_3, .u n1_4, .string n1_5, .i n1_6, .i n1_7, .i n1_8]] w R := callsX X [eS1, eL0] h
end enthymemeref07_SortOf
namespace enthymemeref07_Same
noncomputable abbrev X : Fx := ⟨Tryz.prog, Tryz.f52, [], [2, 3]⟩
theorem okT (a0_0 : Int) (a0_1 : Sl) (a0_2 a0_3 a0_4 : Int) (a0_5 : ByteArray) (a0_6 a0_7 a0_8 b1_0 : Int) (b1_1 : Sl) (b1_2 b1_3 b1_4 : Int) (b1_5 : ByteArray) (b1_6 b1_7 b1_8 : Int) (w : World) (R : Post) (h : newV [] w fun b2 w1 => 
  newV [b2] w1 fun b3 w2 => 
  sel (a0_0 == b1_0) (sel (a0_2 == b1_2) (sel (a0_3 == b1_3) (sel (a0_4 == b1_4) (sel (a0_5.toList == b1_5.toList) (sel ((a0_6 == b1_6) && ((a0_7 == b1_7) && ((a0_8 == b1_8) && true))) (cf0 [b2, b3] n_enthymemeref01_SameInts #[a0_1.v, b1_1.v] w2 fun t50 w3 => R (.returned (.bool t50)) w3) (R (.returned (.bool false)) w2)) (R (.returned (.bool false)) w2)) (R (.returned (.bool false)) w2)) (R (.returned (.bool false)) w2)) (R (.returned (.bool false)) w2)) (R (.returned (.bool false)) w2)) : Calls Tryz.prog n_enthymemeref07_Same #[.agg #[.i a0_0, a0_1.v, .i a0_2, .i a0_3, .u a0_4, .string a0_5, .i a0_6, .i a0_7, .i a0_8], .agg #[.i b1_0, b1_1.v, .i b1_2, .i b1_3, .u b1_4, .string b1_5, .i b1_6, .i b1_7, .i b1_8]] w R := callsX X [] h
end enthymemeref07_Same
namespace enthymemeref07_Index
noncomputable abbrev X : Fx := ⟨Tryz.prog, Tryz.f51, [(7,ls [0,1,2,3,4,5,6])], [3, 5]⟩
abbrev P0 : Ps := [(0, .v [.s]), (3, .l [.I, .s, .I, .I, .U, .st, .I, .I, .I] ty_api_Node), (7, .v [.I])]
def L1T (g0 : Sl) (n3 : Nat) (n3_0 : Int) (n3_1 : Sl) (n3_2 n3_3 n3_4 : Int) (n3_5 : ByteArray) (n3_6 n3_7 n3_8 i7 : Int) (w : World) (R : Post) : Prop := mkCur P0 0 (X.Sem (pth [0, 1, 1, 1, 3])) g0 n3 n3_0 n3_1 n3_2 n3_3 n3_4 n3_5 n3_6 n3_7 n3_8 i7 w R
noncomputable def eL1 := entL X (pth [0, 1, 1, 1, 3]) P0 L1T
theorem L1T_step : ∀ (g0 : Sl) (n3 : Nat) (n3_0 : Int) (n3_1 : Sl) (n3_2 n3_3 n3_4 : Int) (n3_5 : ByteArray) (n3_6 n3_7 n3_8 i7 : Int) (w : World) (R : Post) (h : sel (decide (i7 < ((g0.n : Nat) : Int))) ((0 : Int) ≤ i7 ∧ i7 < ((g0.n : Nat) : Int) ∧ optP g0.a fun t27_p => loc [n3] w fun w1 => ld9_3 w1 (t27_p.add (Int.toNat i7 * 9)) fun t28_0 t28_1 t28_2 t28_3 t28_4 t28_5 t28_6 t28_7 t28_8 => cf0 [n3] n_enthymemeref07_Same #[.agg #[.i t28_0, t28_1.v, .i t28_2, .i t28_3, .u t28_4, .string t28_5, .i t28_6, .i t28_7, .i t28_8], .agg #[.i n3_0, n3_1.v, .i n3_2, .i n3_3, .u n3_4, .string n3_5, .i n3_6, .i n3_7, .i n3_8]] w1 fun t30 w2 => sel t30 (R (.returned (.i i7)) w2) (L1T g0 n3 n3_0 n3_1 n3_2 n3_3 n3_4 n3_5 n3_6 n3_7 n3_8 (IntKind.wrap .i64 (i7 + 1)) w2 R)) (R (.returned (.i (-1))) w)), L1T g0 n3 n3_0 n3_1 n3_2 n3_3 n3_4 n3_5 n3_6 n3_7 n3_8 i7 w R := mp (stepL (X := X) [eL1] (pth [0, 1, 1, 1, 3]) P0)
abbrev P1 : Ps := [(0, .v [.s]), (3, .l [.I, .s, .I, .I, .U, .st, .I, .I, .I] ty_api_Node)]
abbrev S0T (g0 : Sl) (n3 : Nat) (n3_0 : Int) (n3_1 : Sl) (n3_2 n3_3 n3_4 : Int) (n3_5 : ByteArray) (n3_6 n3_7 n3_8 : Int) (w : World) (R : Post) : Prop :=
  L1T g0 n3 n3_0 n3_1 n3_2 n3_3 n3_4 n3_5 n3_6 n3_7 n3_8 0 w R
noncomputable def eS0 := entS X [eL1] (pth [3]) P1 S0T
theorem okT (g0 : Sl) (n1_0 : Int) (n1_1 : Sl) (n1_2 n1_3 n1_4 : Int) (n1_5 : ByteArray) (n1_6 n1_7 n1_8 : Int) (w : World) (R : Post) (h : newV [] w fun b3 w1 => 
  cf19 [b3] n_enthymemeref07_SortOf #[g0.v, .agg #[.i n1_0, n1_1.v, .i n1_2, .i n1_3, .u n1_4, .string n1_5, .i n1_6, .i n1_7, .i n1_8]] w1 fun t12_0_0 t12_0_1 t12_0_2 t12_1 w2 => newV [b3] w2 fun b5 w3 => 
  sel (t12_1 == 0) (loc [b3, b5] w3 fun w9 => S0T g0 b3 n1_0 n1_1 n1_2 n1_3 n1_4 n1_5 t12_0_0 t12_0_1 t12_0_2 w9 R) (loc [b3, b5] w3 fun w6 => S0T g0 b3 n1_0 n1_1 n1_2 n1_3 n1_4 n1_5 n1_6 n1_7 n1_8 w6 R)) : Calls Tryz.prog n_enthymemeref07_Index #[g0.v, .agg #[.i n1_0, n1_1.v, .i n1_2, .i n1_3, .u n1_4, .string n1_5, .i n1_6, .i n1_7, .i n1_8]] w R := callsX X [eS0, eL1] h
end enthymemeref07_Index
namespace enthymemeref07_Add
noncomputable abbrev X : Fx := ⟨Tryz.prog, Tryz.f15, [(10,(.sq [1,3,6,7] (.fork (.sq [0] (.fork (ls [2,4,5,8,9,10]) (ls [4,2,5,8,9,10]))) (ls [4,0,2,5,8,9,10]))))], [3, 7]⟩
theorem okT (g0 : Sl) (n1_0 : Int) (n1_1 : Sl) (n1_2 n1_3 n1_4 : Int) (n1_5 : ByteArray) (n1_6 n1_7 n1_8 : Int) (w : World) (R : Post) (h : newV [] w fun b3 w1 => 
  cf19 [b3] n_enthymemeref07_SortOf #[g0.v, .agg #[.i n1_0, n1_1.v, .i n1_2, .i n1_3, .u n1_4, .string n1_5, .i n1_6, .i n1_7, .i n1_8]] w1 fun t13_0_0 t13_0_1 t13_0_2 t13_1 w2 => newV [b3] w2 fun b7 w3 => 
  sel (t13_1 != 0) (loc [b3, b7] w3 fun w6 => R (.returned (.tuple #[.slice none 0 0, .i 0, .i t13_1])) w6) (loc [b3, b7] w3 fun w9 => cf1 [b3, b7] n_enthymemeref07_Index #[g0.v, .agg #[.i n1_0, n1_1.v, .i n1_2, .i n1_3, .u n1_4, .string n1_5, .i t13_0_0, .i t13_0_1, .i t13_0_2]] w9 fun t23 w10 => sel (decide (t23 ≥ 0)) (R (.returned (.tuple #[g0.v, .i t23, .i 0])) w10) (sel (decide (((g0.n : Nat) : Int) ≥ 4096)) (R (.returned (.tuple #[.slice none 0 0, .i 0, .i 4])) w10) (((loc [b3, b7] w10 fun w11 => nwV w11 (.cells #[] ty_api_Node) fun w12 => 
  ((∃ (t33 : Sl) (w13 : World), Sem.run Tryz.prog (Builtin.append_ #[ty_sl_api_Node, ty_sl_api_Node] ty_sl_api_Node #[.slice (some (nb w11)) 0 0, g0.v]) w12 = .ok (t33.v) w13 ∧ kept [b3, b7] w12 w13 ∧ nwV w13 (.cells #[.i n1_0, n1_1.v, .i n1_2, .i n1_3, .u n1_4, .string n1_5, .i t13_0_0, .i t13_0_1, .i t13_0_2] ty_api_Node) fun w14 => 
  ∃ (t36 : Sl) (w15 : World), Sem.run Tryz.prog (Builtin.append_ #[ty_sl_api_Node, ty_sl_api_Node] ty_sl_api_Node #[t33.v, .slice (some (nb w13)) 1 1]) w14 = .ok (t36.v) w15 ∧ kept [b3, b7] w14 w15 ∧ R (.returned (.tuple #[t36.v, .i ((g0.n : Nat) : Int), .i 0])) w15) ∧ (nwV w12 (.cells #[.i n1_0, n1_1.v, .i n1_2, .i n1_3, .u n1_4, .string n1_5, .i t13_0_0, .i t13_0_1, .i t13_0_2] ty_api_Node) fun w16 => 
  ∃ (t33_x1 : Sl) (w17 : World), Sem.run Tryz.prog (Builtin.append_ #[ty_sl_api_Node, ty_sl_api_Node] ty_sl_api_Node #[.slice (some (nb w11)) 0 0, g0.v]) w16 = .ok (t33_x1.v) w17 ∧ kept [b3, b7] w16 w17 ∧ ∃ (t36_x1 : Sl) (w18 : World), Sem.run Tryz.prog (Builtin.append_ #[ty_sl_api_Node, ty_sl_api_Node] ty_sl_api_Node #[t33_x1.v, .slice (some (nb w12)) 1 1]) w17 = .ok (t36_x1.v) w18 ∧ kept [b3, b7] w17 w18 ∧ R (.returned (.tuple #[t36_x1.v, .i ((g0.n : Nat) : Int), .i 0])) w18))) ∧ (loc [b3, b7] w10 fun w11 => nwV w11 (.cells #[.i n1_0, n1_1.v, .i n1_2, .i n1_3, .u n1_4, .string n1_5, .i t13_0_0, .i t13_0_1, .i t13_0_2] ty_api_Node) fun w19 => 
  nwV w19 (.cells #[] ty_api_Node) fun w20 => 
  ∃ (t33_x2 : Sl) (w21 : World), Sem.run Tryz.prog (Builtin.append_ #[ty_sl_api_Node, ty_sl_api_Node] ty_sl_api_Node #[.slice (some (nb w19)) 0 0, g0.v]) w20 = .ok (t33_x2.v) w21 ∧ kept [b3, b7] w20 w21 ∧ ∃ (t36_x2 : Sl) (w22 : World), Sem.run Tryz.prog (Builtin.append_ #[ty_sl_api_Node, ty_sl_api_Node] ty_sl_api_Node #[t33_x2.v, .slice (some (nb w11)) 1 1]) w21 = .ok (t36_x2.v) w22 ∧ kept [b3, b7] w21 w22 ∧ R (.returned (.tuple #[t36_x2.v, .i ((g0.n : Nat) : Int), .i 0])) w22)))))) : Calls Tryz.prog n_enthymemeref07_Add #[g0.v, .agg #[.i n1_0, n1_1.v, .i n1_2, .i n1_3, .u n1_4, .string n1_5, .i n1_6, .i n1_7, .i n1_8]] w R := callsX X [] h
end enthymemeref07_Add
namespace enthymemeref07_start
noncomputable abbrev X : Fx := ⟨Tryz.prog, Tryz.f38, [], []⟩
abbrev P0 : Ps := [(3, .v [.s])]
abbrev S1 (l3 : Sl) (w : World) (R : Post) : Prop :=
  R (.returned (l3.v)) w
noncomputable def eS1 := entS X [] (pth [4]) P0 S1
abbrev P1 : Ps := [(0, .v [.I]), (3, .v [.s])]
abbrev S0 (kind0 : Int) (l3 : Sl) (w : World) (R : Post) : Prop :=
  sel (decide (kind0 > 1)) (ca17 n_enthymemeref07_Strings #[.i 2] w fun t25_0 t25_1 t25_2 w1 => ca17 n_enthymemeref07_Strings #[.i 1] w1 fun t27_0 t27_1 t27_2 w2 => ca17 n_enthymemeref07_BV #[.i 7] w2 fun t29_0 t29_1 t29_2 w3 => nwV w3 (.cells #[.i 0, .slice none 0 0, .i 0, .i 0, .u 0, .string (ByteArray.mk #[115]), .i t25_0, .i t25_1, .i t25_2, .i 0, .slice none 0 0, .i 0, .i 0, .u 0, .string (ByteArray.mk #[116]), .i t27_0, .i t27_1, .i t27_2, .i 0, .slice none 0 0, .i 0, .i 0, .u 0, .string (ByteArray.mk #[105]), .i t29_0, .i t29_1, .i t29_2, .i 0, .slice none 0 0, .i 0, .i 0, .u 0, .string (ByteArray.mk #[122]), .i 3, .i 1, .i 1] ty_api_Node) fun w4 => 
  ∃ (t34 : Sl) (w5 : World), Sem.run Tryz.prog (Builtin.append_ #[ty_sl_api_Node, ty_sl_api_Node] ty_sl_api_Node #[l3.v, .slice (some (nb w3)) 4 4]) w4 = .ok (t34.v) w5 ∧ S1 t34 w5 R) (S1 l3 w R)
noncomputable def eS0 := entS X [eS1] (pth [3]) P1 S0
theorem ok (kind0 : Int) (w : World) (R : Post) (h : ca17 n_enthymemeref07_BV #[.i 2] w fun t4_0 t4_1 t4_2 w1 => ca17 n_enthymemeref07_BV #[.i 2] w1 fun t6_0 t6_1 t6_2 w2 => ca17 n_enthymemeref07_BV #[.i 1] w2 fun t8_0 t8_1 t8_2 w3 => ca17 n_enthymemeref07_BV #[.i 3] w3 fun t10_0 t10_1 t10_2 w4 => nwV w4 (.cells #[.i 0, .slice none 0 0, .i 0, .i 0, .u 0, .string (ByteArray.mk #[97]), .i t4_0, .i t4_1, .i t4_2, .i 0, .slice none 0 0, .i 0, .i 0, .u 0, .string (ByteArray.mk #[98]), .i t6_0, .i t6_1, .i t6_2, .i 0, .slice none 0 0, .i 0, .i 0, .u 0, .string (ByteArray.mk #[99]), .i t8_0, .i t8_1, .i t8_2, .i 0, .slice none 0 0, .i 0, .i 0, .u 0, .string (ByteArray.mk #[100]), .i t10_0, .i t10_1, .i t10_2] ty_api_Node) fun w5 => 
  sel (decide (kind0 > 0)) (nwV w5 (.cells #[.i 0, .slice none 0 0, .i 0, .i 0, .u 0, .string (ByteArray.mk #[109]), .i 2, .i 2, .i 1, .i 0, .slice none 0 0, .i 0, .i 0, .u 0, .string (ByteArray.mk #[110]), .i 2, .i 2, .i 1] ty_api_Node) fun w6 => 
  ∃ (t21 : Sl) (w7 : World), Sem.run Tryz.prog (Builtin.append_ #[ty_sl_api_Node, ty_sl_api_Node] ty_sl_api_Node #[.slice (some (nb w4)) 4 4, .slice (some (nb w5)) 2 2]) w6 = .ok (t21.v) w7 ∧ S0 kind0 t21 w7 R) (S0 kind0 ⟨some (nb w4), 4, 4⟩ w5 R)) : Calls Tryz.prog n_enthymemeref07_start #[.i kind0] w R := callsX X [eS0, eS1] h
end enthymemeref07_start
namespace enthymemeref07_Like
noncomputable abbrev X : Fx := ⟨Tryz.prog, Tryz.f78, [(5,ls [0,1,2,3,4,5,6])], [4]⟩
abbrev P0 : Ps := [(0, .v [.s]), (2, .v [.I]), (4, .l [.I, .I, .I] ty_api_Sort), (7, .v [.s]), (8, .v [.I])]
def L0T (g0 : Sl) (n2 : Int) (s4 : Nat) (s4_0 s4_1 s4_2 : Int) (l7 : Sl) (i8 : Int) (w : World) (R : Post) : Prop := mkCur P0 0 (X.Sem (pth [0, 1, 1, 1, 2])) g0 n2 s4 s4_0 s4_1 s4_2 l7 i8 w R
noncomputable def eL0 := entL X (pth [0, 1, 1, 1, 2]) P0 L0T
abbrev S1T (g0 : Sl) (n2 : Int) (s4 : Nat) (s4_0 s4_1 s4_2 : Int) (l7 : Sl) (i8 : Int) (w : World) (R : Post) : Prop :=
  L0T g0 n2 s4 s4_0 s4_1 s4_2 l7 (IntKind.wrap .i64 (i8 + 1)) w R
noncomputable def eS1 := entS X [eL0] (pth [2, 2, 1, 1, 2]) P0 S1T
theorem L0T_step : ∀ (g0 : Sl) (n2 : Int) (s4 : Nat) (s4_0 s4_1 s4_2 : Int) (l7 : Sl) (i8 : Int) (w : World) (R : Post) (h : sel (decide (i8 < ((g0.n : Nat) : Int))) ((0 : Int) ≤ i8 ∧ i8 < ((g0.n : Nat) : Int) ∧ optP g0.a fun t17_p => loc [s4] w fun w2 => ld3_2 w2 ((t17_p.add (Int.toNat i8 * 9)).add 6) fun t19_0 t19_1 t19_2 => sel ((t19_0 == s4_0) && ((t19_1 == s4_1) && ((t19_2 == s4_2) && true))) (nwV w2 (.cells #[.i i8] ty_int) fun w3 => 
  ∃ (t25 : Sl) (w4 : World), Sem.run Tryz.prog (Builtin.append_ #[ty_sl_int, ty_sl_int] ty_sl_int #[l7.v, .slice (some (nb w2)) 1 1]) w3 = .ok (t25.v) w4 ∧ kept [s4] w3 w4 ∧ S1T g0 n2 s4 s4_0 s4_1 s4_2 t25 i8 w4 R) (S1T g0 n2 s4 s4_0 s4_1 s4_2 l7 i8 w2 R)) (sel (((l7.n : Nat) : Int) == 0) (R (.returned (.i (-1))) w) (cf1 [s4] n_enthymemeref01_Around #[.i n2, .i ((l7.n : Nat) : Int)] w fun t33 w5 => (0 : Int) ≤ t33 ∧ t33 < ((l7.n : Nat) : Int) ∧ optP l7.a fun t34_p => ∃ t35 : Int, w5.cell? (t34_p.add (Int.toNat t33 * 1)) = some (.i t35) ∧ 
  R (.returned (.i t35)) w5))), L0T g0 n2 s4 s4_0 s4_1 s4_2 l7 i8 w R := mp (stepL (X := X) [eS1, eL0] (pth [0, 1, 1, 1, 2]) P0)
theorem okT (g0 : Sl) (s1_0 s1_1 s1_2 n2 : Int) (w : World) (R : Post) (h : newV [] w fun b4 w1 => 
  L0T g0 n2 b4 s1_0 s1_1 s1_2 ⟨none, 0, 0⟩ 0 w1 R) : Calls Tryz.prog n_enthymemeref07_Like #[g0.v, .agg #[.i s1_0, .i s1_1, .i s1_2], .i n2] w R := callsX X [eS1, eL0] h
end enthymemeref07_Like
namespace enthymemeref07_wanted
noncomputable abbrev X : Fx := ⟨Tryz.prog, Tryz.f79, [], [10, 11]⟩
abbrev P0 : Ps := [(4, .v [.I]), (10, .l [.I, .I, .I] ty_api_Sort)]
abbrev S0T (n4 : Int) (t10 : Nat) (t10_0 t10_1 t10_2 : Int) (w : World) (R : Post) : Prop :=
  cf1 [t10] n_enthymemeref01_Around #[.i n4, .i 3] w fun t56 w1 => cf17 [t10] n_enthymemeref07_Strings #[.i t56] w1 fun t57_0 t57_1 t57_2 w2 => loc [t10] w2 fun w5 => R (.returned (.agg #[.i t57_0, .i t57_1, .i t57_2])) w5
noncomputable def eS0 := entS X [] (pth [0, 1, 11, 1, 1, 1, 2]) P0 S0T
abbrev P1 : Ps := [(10, .l [.I, .I, .I] ty_api_Sort), (11, .l [.I, .I, .I] ty_api_Sort)]
abbrev S1T (t10 : Nat) (t10_0 t10_1 t10_2 : Int) (x11 : Nat) (x11_0 x11_1 x11_2 : Int) (w : World) (R : Post) : Prop :=
  loc [t10, x11] w fun w3 => R (.returned (.agg #[.i x11_0, .i x11_1, .i x11_2])) w3
noncomputable def eS1 := entS X [eS0] (pth [3]) P1 S1T
theorem okT (g0 : Sl) (op1 first2 kid3 n4 : Int) (w : World) (R : Post) (h : newV [] w fun b10 w1 => 
  (0 : Int) ≤ first2 ∧ first2 < ((g0.n : Nat) : Int) ∧ optP g0.a fun t14_p => ld3_2 w1 ((t14_p.add (Int.toNat first2 * 9)).add 6) fun t16_0 t16_1 t16_2 => newV [b10] w1 fun b11 w2 => 
  sel (op1 == 19) (loc [b10, b11] w2 fun w5 => cf1 [b10, b11] n_enthymemeref01_Around #[.i n4, .i ((g0.n : Nat) : Int)] w5 fun t24 w6 => (0 : Int) ≤ t24 ∧ t24 < ((g0.n : Nat) : Int) ∧ optP g0.a fun t25_p => ld3_2 w6 ((t25_p.add (Int.toNat t24 * 9)).add 6) fun t27_0 t27_1 t27_2 => loc [b10, b11] w6 fun w9 => R (.returned (.agg #[.i t27_0, .i t27_1, .i t27_2])) w9) (sel (op1 == 20) (loc [b10, b11] w2 fun w5 => cf1 [b10, b11] n_enthymemeref01_Around #[.i n4, .i 3] w5 fun t31 w10 => cf17 [b10, b11] n_enthymemeref07_BV #[.i (IntKind.wrap .i64 (1 + t31))] w10 fun t33_0 t33_1 t33_2 w11 => loc [b10, b11] w11 fun w14 => R (.returned (.agg #[.i t33_0, .i t33_1, .i t33_2])) w14) (sel (op1 == 24) (loc [b10, b11] w2 fun w5 => cf17 [b10, b11] n_enthymemeref07_BV #[.i t16_2] w5 fun t38_0 t38_1 t38_2 w15 => loc [b10, b11] w15 fun w18 => R (.returned (.agg #[.i t38_0, .i t38_1, .i t38_2])) w18) (sel (op1 == 25) (sel (kid3 == 1) (loc [b10, b11] w2 fun w5 => cf17 [b10, b11] n_enthymemeref07_BV #[.i t16_2] w5 fun t45_0 t45_1 t45_2 w19 => loc [b10, b11] w19 fun w22 => R (.returned (.agg #[.i t45_0, .i t45_1, .i t45_2])) w22) (loc [b10, b11] w2 fun w5 => cf17 [b10, b11] n_enthymemeref07_Element #[.agg #[.i t16_0, .i t16_1, .i t16_2]] w5 fun t47_0 t47_1 t47_2 w23 => loc [b10, b11] w23 fun w26 => R (.returned (.agg #[.i t47_0, .i t47_1, .i t47_2])) w26)) (sel (op1 == 30) (loc [b10, b11] w2 fun w5 => cf17 [b10, b11] n_enthymemeref07_BV #[.i 7] w5 fun t50_0 t50_1 t50_2 w27 => loc [b10, b11] w27 fun w30 => R (.returned (.agg #[.i t50_0, .i t50_1, .i t50_2])) w30) (sel (op1 == 29) (sel (op1 == 29) (loc [b10, b11] w2 fun w5 => S0T n4 b10 0 0 0 w5 R) (loc [b10, b11] w2 fun w5 => S1T b10 0 0 0 b11 t16_0 t16_1 t16_2 w5 R)) (sel (op1 == 31) (sel (op1 == 31) (loc [b10, b11] w2 fun w5 => S0T n4 b10 0 0 0 w5 R) (loc [b10, b11] w2 fun w5 => S1T b10 0 0 0 b11 t16_0 t16_1 t16_2 w5 R)) (sel (op1 == 32) (loc [b10, b11] w2 fun w5 => S0T n4 b10 0 0 0 w5 R) (loc [b10, b11] w2 fun w5 => S1T b10 0 0 0 b11 t16_0 t16_1 t16_2 w5 R))))))))) : Calls Tryz.prog n_enthymemeref07_wanted #[g0.v, .i op1, .i first2, .i kid3, .i n4] w R := callsX X [eS1, eS0] h
end enthymemeref07_wanted
namespace enthymemeref07_node
noncomputable abbrev X : Fx := ⟨Tryz.prog, Tryz.f39, [(38,ls [0,1,2,3,4,5,6,7,8,9,10,11,12])], [8, 10, 16]⟩
abbrev P0 : Ps := [(0, .v [.s]), (2, .v [.I]), (3, .v [.I]), (8, .l [.I, .s, .I, .I, .U, .st, .I, .I, .I] ty_api_Node), (10, .l [.I, .s, .I, .I, .U, .st, .I, .I, .I] ty_api_Node), (11, .v [.I]), (13, .v [.I]), (14, .v [.I])]
def L5T (g0 : Sl) (m2 k3 : Int) (t8 : Nat) (t8_0 : Int) (t8_1 : Sl) (t8_2 t8_3 t8_4 : Int) (t8_5 : ByteArray) (t8_6 t8_7 t8_8 : Int) (out10 : Nat) (out10_0 : Int) (out10_1 : Sl) (out10_2 out10_3 out10_4 : Int) (out10_5 : ByteArray) (out10_6 out10_7 out10_8 x11 many13 i14 : Int) (w : World) (R : Post) : Prop := mkCur P0 0 (X.Sem (pth [0, 1, 1, 1, 8])) g0 m2 k3 t8 t8_0 t8_1 t8_2 t8_3 t8_4 t8_5 t8_6 t8_7 t8_8 out10 out10_0 out10_1 out10_2 out10_3 out10_4 out10_5 out10_6 out10_7 out10_8 x11 many13 i14 w R
noncomputable def eL5 := entL X (pth [0, 1, 1, 1, 8]) P0 L5T
abbrev P1 : Ps := [(0, .v [.s]), (2, .v [.I]), (3, .v [.I]), (8, .l [.I, .s, .I, .I, .U, .st, .I, .I, .I] ty_api_Node), (10, .l [.I, .s, .I, .I, .U, .st, .I, .I, .I] ty_api_Node), (11, .v [.I]), (13, .v [.I]), (14, .v [.I]), (15, .v [.I])]
abbrev S7T (g0 : Sl) (m2 k3 : Int) (t8 : Nat) (t8_0 : Int) (t8_1 : Sl) (t8_2 t8_3 t8_4 : Int) (t8_5 : ByteArray) (t8_6 t8_7 t8_8 : Int) (out10 : Nat) (out10_0 : Int) (out10_1 : Sl) (out10_2 out10_3 out10_4 : Int) (out10_5 : ByteArray) (out10_6 out10_7 out10_8 x11 many13 i14 kid15 : Int) (w : World) (R : Post) : Prop :=
  sel (decide (kid15 < 0)) (loc [t8, out10] w fun w9 => R (.returned (.agg #[.i (-1), .slice none 0 0, .i 0, .i 0, .u 0, .s0, .i 0, .i 0, .i 0])) w9) (nwV w (.cells #[.i kid15] ty_int) fun w10 => 
  ∃ (t177 : Sl) (w11 : World), Sem.run Tryz.prog (Builtin.append_ #[ty_sl_int, ty_sl_int] ty_sl_int #[out10_1.v, .slice (some (nb w)) 1 1]) w10 = .ok (t177.v) w11 ∧ kept [t8, out10] w10 w11 ∧ loc [t8, out10] w11 fun w12 => L5T g0 m2 k3 t8 t8_0 t8_1 t8_2 t8_3 t8_4 t8_5 t8_6 t8_7 t8_8 out10 out10_0 t177 out10_2 out10_3 out10_4 out10_5 out10_6 out10_7 out10_8 x11 many13 (IntKind.wrap .i64 (i14 + 1)) w12 R)
noncomputable def eS7 := entS X [eL5] (pth [2, 2, 1, 2, 1, 1, 8]) P1 S7T
abbrev P2 : Ps := [(0, .v [.s]), (2, .v [.I]), (3, .v [.I]), (8, .l [.I, .s, .I, .I, .U, .st, .I, .I, .I] ty_api_Node), (10, .l [.I, .s, .I, .I, .U, .st, .I, .I, .I] ty_api_Node), (11, .v [.I]), (13, .v [.I]), (14, .v [.I]), (16, .l [.I, .I, .I] ty_api_Sort)]
abbrev S6T (g0 : Sl) (m2 k3 : Int) (t8 : Nat) (t8_0 : Int) (t8_1 : Sl) (t8_2 t8_3 t8_4 : Int) (t8_5 : ByteArray) (t8_6 t8_7 t8_8 : Int) (out10 : Nat) (out10_0 : Int) (out10_1 : Sl) (out10_2 out10_3 out10_4 : Int) (out10_5 : ByteArray) (out10_6 out10_7 out10_8 x11 many13 i14 : Int) (s16 : Nat) (s16_0 s16_1 s16_2 : Int) (w : World) (R : Post) : Prop :=
  (IntKind.wrap .i64 (1 + (IntKind.wrap .i64 (5 * i14)))) ≠ 0 ∧ loc [t8, out10, s16] w fun w1 => cf1 [t8, out10, s16] n_enthymemeref07_Like #[g0.v, .agg #[.i s16_0, .i s16_1, .i s16_2], .i (IntKind.wrap .i64 ((IntKind.wrap .i64 (Int.tdiv k3 (IntKind.wrap .i64 (1 + (IntKind.wrap .i64 (5 * i14)))))) + (IntKind.wrap .i64 (i14 * m2))))] w1 fun t169 w2 => S7T g0 m2 k3 t8 t8_0 t8_1 t8_2 t8_3 t8_4 t8_5 t8_6 t8_7 t8_8 out10 out10_0 out10_1 out10_2 out10_3 out10_4 out10_5 out10_6 out10_7 out10_8 x11 many13 i14 t169 w2 R
noncomputable def eS6 := entS X [eS7, eL5] (pth [2, 1, 1, 1, 1, 2, 1, 2, 1, 1, 8]) P2 S6T
theorem L5T_step : ∀ (g0 : Sl) (m2 k3 : Int) (t8 : Nat) (t8_0 : Int) (t8_1 : Sl) (t8_2 t8_3 t8_4 : Int) (t8_5 : ByteArray) (t8_6 t8_7 t8_8 : Int) (out10 : Nat) (out10_0 : Int) (out10_1 : Sl) (out10_2 out10_3 out10_4 : Int) (out10_5 : ByteArray) (out10_6 out10_7 out10_8 x11 many13 i14 : Int) (w : World) (R : Post) (h : sel (decide (i14 < many13)) (sel (decide (i14 > 0)) (sel (decide (x11 ≥ 0)) (cf17 [t8, out10] n_enthymemeref07_wanted #[g0.v, .i out10_0, .i x11, .i i14, .i m2] w fun t142_0 t142_1 t142_2 w1 => newV [t8, out10] w1 fun b16 w2 => 
  sel (out10_0 == 19) (sel (i14 == 2) ((0 : Int) ≤ 1 ∧ 1 < ((out10_1.n : Nat) : Int) ∧ optP out10_1.a fun t153_p => loc [t8, out10, b16] w2 fun w5 => ∃ t154 : Int, w5.cell? (t153_p.add (Int.toNat 1 * 1)) = some (.i t154) ∧ 
  (0 : Int) ≤ t154 ∧ t154 < ((g0.n : Nat) : Int) ∧ optP g0.a fun t155_p => ld3_2 w5 ((t155_p.add (Int.toNat t154 * 9)).add 6) fun t157_0 t157_1 t157_2 => loc [t8, out10, b16] w5 fun w8 => S6T g0 m2 k3 t8 t8_0 t8_1 t8_2 t8_3 t8_4 t8_5 t8_6 t8_7 t8_8 out10 out10_0 out10_1 out10_2 out10_3 out10_4 out10_5 out10_6 out10_7 out10_8 x11 many13 i14 b16 t157_0 t157_1 t157_2 w8 R) (loc [t8, out10, b16] w2 fun w5 => S6T g0 m2 k3 t8 t8_0 t8_1 t8_2 t8_3 t8_4 t8_5 t8_6 t8_7 t8_8 out10 out10_0 out10_1 out10_2 out10_3 out10_4 out10_5 out10_6 out10_7 out10_8 x11 many13 i14 b16 t142_0 t142_1 t142_2 w5 R)) (loc [t8, out10, b16] w2 fun w5 => S6T g0 m2 k3 t8 t8_0 t8_1 t8_2 t8_3 t8_4 t8_5 t8_6 t8_7 t8_8 out10 out10_0 out10_1 out10_2 out10_3 out10_4 out10_5 out10_6 out10_7 out10_8 x11 many13 i14 b16 t142_0 t142_1 t142_2 w5 R)) (S7T g0 m2 k3 t8 t8_0 t8_1 t8_2 t8_3 t8_4 t8_5 t8_6 t8_7 t8_8 out10 out10_0 out10_1 out10_2 out10_3 out10_4 out10_5 out10_6 out10_7 out10_8 x11 many13 i14 x11 w R)) (S7T g0 m2 k3 t8 t8_0 t8_1 t8_2 t8_3 t8_4 t8_5 t8_6 t8_7 t8_8 out10 out10_0 out10_1 out10_2 out10_3 out10_4 out10_5 out10_6 out10_7 out10_8 x11 many13 i14 x11 w R)) (loc [t8, out10] w fun w17 => R (.returned (.agg #[.i out10_0, out10_1.v, .i out10_2, .i out10_3, .u out10_4, .string out10_5, .i out10_6, .i out10_7, .i out10_8])) w17)), L5T g0 m2 k3 t8 t8_0 t8_1 t8_2 t8_3 t8_4 t8_5 t8_6 t8_7 t8_8 out10 out10_0 out10_1 out10_2 out10_3 out10_4 out10_5 out10_6 out10_7 out10_8 x11 many13 i14 w R := mp (stepL (X := X) [eS6, eS7, eL5] (pth [0, 1, 1, 1, 8]) P0)
abbrev P3 : Ps := [(0, .v [.s]), (2, .v [.I]), (3, .v [.I]), (8, .l [.I, .s, .I, .I, .U, .st, .I, .I, .I] ty_api_Node), (10, .l [.I, .s, .I, .I, .U, .st, .I, .I, .I] ty_api_Node), (11, .v [.I]), (13, .v [.I])]
abbrev S4T (g0 : Sl) (m2 k3 : Int) (t8 : Nat) (t8_0 : Int) (t8_1 : Sl) (t8_2 t8_3 t8_4 : Int) (t8_5 : ByteArray) (t8_6 t8_7 t8_8 : Int) (out10 : Nat) (out10_0 : Int) (out10_1 : Sl) (out10_2 out10_3 out10_4 : Int) (out10_5 : ByteArray) (out10_6 out10_7 out10_8 x11 many13 : Int) (w : World) (R : Post) : Prop :=
  L5T g0 m2 k3 t8 t8_0 t8_1 t8_2 t8_3 t8_4 t8_5 t8_6 t8_7 t8_8 out10 out10_0 out10_1 out10_2 out10_3 out10_4 out10_5 out10_6 out10_7 out10_8 x11 many13 0 w R
noncomputable def eS4 := entS X [eS6, eS7, eL5] (pth [8]) P3 S4T
abbrev P4 : Ps := [(0, .v [.s]), (1, .v [.I]), (2, .v [.I]), (3, .v [.I]), (8, .l [.I, .s, .I, .I, .U, .st, .I, .I, .I] ty_api_Node), (10, .l [.I, .s, .I, .I, .U, .st, .I, .I, .I] ty_api_Node), (11, .v [.I]), (13, .v [.I])]
abbrev S3T (g0 : Sl) (n1 m2 k3 : Int) (t8 : Nat) (t8_0 : Int) (t8_1 : Sl) (t8_2 t8_3 t8_4 : Int) (t8_5 : ByteArray) (t8_6 t8_7 t8_8 : Int) (out10 : Nat) (out10_0 : Int) (out10_1 : Sl) (out10_2 out10_3 out10_4 : Int) (out10_5 : ByteArray) (out10_6 out10_7 out10_8 x11 many13 : Int) (w : World) (R : Post) : Prop :=
  sel (out10_0 == 34) (cf17 [t8, out10] n_enthymemeref07_BV #[.i 8] w fun t120_0 t120_1 t120_2 w1 => cf1 [t8, out10] n_enthymemeref07_Like #[g0.v, .agg #[.i t120_0, .i t120_1, .i t120_2], .i (IntKind.wrap .i64 (Int.tdiv n1 64))] w1 fun t123 w2 => S4T g0 m2 k3 t8 t8_0 t8_1 t8_2 t8_3 t8_4 t8_5 t8_6 t8_7 t8_8 out10 out10_0 out10_1 out10_2 out10_3 out10_4 out10_5 out10_6 out10_7 out10_8 t123 many13 w2 R) (S4T g0 m2 k3 t8 t8_0 t8_1 t8_2 t8_3 t8_4 t8_5 t8_6 t8_7 t8_8 out10 out10_0 out10_1 out10_2 out10_3 out10_4 out10_5 out10_6 out10_7 out10_8 x11 many13 w R)
noncomputable def eS3 := entS X [eS4, eS6, eS7, eL5] (pth [7]) P4 S3T
abbrev P5 : Ps := [(0, .v [.s]), (1, .v [.I]), (2, .v [.I]), (3, .v [.I]), (8, .l [.I, .s, .I, .I, .U, .st, .I, .I, .I] ty_api_Node), (10, .l [.I, .s, .I, .I, .U, .st, .I, .I, .I] ty_api_Node), (11, .v [.I])]
abbrev S2T (g0 : Sl) (n1 m2 k3 : Int) (t8 : Nat) (t8_0 : Int) (t8_1 : Sl) (t8_2 t8_3 t8_4 : Int) (t8_5 : ByteArray) (t8_6 t8_7 t8_8 : Int) (out10 : Nat) (out10_0 : Int) (out10_1 : Sl) (out10_2 out10_3 out10_4 : Int) (out10_5 : ByteArray) (out10_6 out10_7 out10_8 x11 : Int) (w : World) (R : Post) : Prop :=
  cf1 [t8, out10] n_enthymemeref07_Kids #[.i out10_0] w fun t107 w1 => sel (out10_0 == 19) (cf17 [t8, out10] n_enthymemeref07_BV #[.i 1] w1 fun t112_0 t112_1 t112_2 w2 => cf1 [t8, out10] n_enthymemeref07_Like #[g0.v, .agg #[.i t112_0, .i t112_1, .i t112_2], .i (IntKind.wrap .i64 (Int.tdiv n1 64))] w2 fun t115 w3 => S3T g0 n1 m2 k3 t8 t8_0 t8_1 t8_2 t8_3 t8_4 t8_5 t8_6 t8_7 t8_8 out10 out10_0 out10_1 out10_2 out10_3 out10_4 out10_5 out10_6 out10_7 out10_8 t115 t107 w3 R) (S3T g0 n1 m2 k3 t8 t8_0 t8_1 t8_2 t8_3 t8_4 t8_5 t8_6 t8_7 t8_8 out10 out10_0 out10_1 out10_2 out10_3 out10_4 out10_5 out10_6 out10_7 out10_8 x11 t107 w1 R)
noncomputable def eS2 := entS X [eS3, eS4, eS6, eS7, eL5] (pth [5]) P5 S2T
abbrev P6 : Ps := [(0, .v [.s]), (1, .v [.I]), (2, .v [.I]), (3, .v [.I]), (8, .l [.I, .s, .I, .I, .U, .st, .I, .I, .I] ty_api_Node), (10, .l [.I, .s, .I, .I, .U, .st, .I, .I, .I] ty_api_Node), (11, .v [.I]), (12, .v [.I])]
abbrev S1T (g0 : Sl) (n1 m2 k3 : Int) (t8 : Nat) (t8_0 : Int) (t8_1 : Sl) (t8_2 t8_3 t8_4 : Int) (t8_5 : ByteArray) (t8_6 t8_7 t8_8 : Int) (out10 : Nat) (out10_0 : Int) (out10_1 : Sl) (out10_2 out10_3 out10_4 : Int) (out10_5 : ByteArray) (out10_6 out10_7 out10_8 x11 wv12 : Int) (w : World) (R : Post) : Prop :=
  cf17 [t8, out10] n_enthymemeref07_BV #[.i wv12] w fun t42_0 t42_1 t42_2 w1 => ¬ (IntKind.wrap .u64 (if 3 < wv12 then 3 else wv12)) < 0 ∧ loc [t8, out10] w1 fun w4 => cf1 [t8, out10] n_enthymemeref01_Around #[.i k3, .i (IntKind.wrap .i64 (1 * 2 ^ (min (Int.toNat (IntKind.wrap .u64 (if 3 < wv12 then 3 else wv12))) (IntKind.bits .i64))))] w4 fun t49 w5 => loc [t8, out10] w5 fun w6 => S2T g0 n1 m2 k3 t8 t8_0 t8_1 t8_2 t8_3 t8_4 t8_5 t8_6 t8_7 t8_8 out10 out10_0 out10_1 out10_2 out10_3 (IntKind.wrap .u64 t49) out10_5 t42_0 t42_1 t42_2 x11 w6 R
noncomputable def eS1 := entS X [eS2, eS3, eS4, eS6, eS7, eL5] (pth [2, 1, 1, 1, 1, 1, 4]) P6 S1T
abbrev S0T (g0 : Sl) (n1 m2 k3 : Int) (t8 : Nat) (t8_0 : Int) (t8_1 : Sl) (t8_2 t8_3 t8_4 : Int) (t8_5 : ByteArray) (t8_6 t8_7 t8_8 : Int) (out10 : Nat) (out10_0 : Int) (out10_1 : Sl) (out10_2 out10_3 out10_4 : Int) (out10_5 : ByteArray) (out10_6 out10_7 out10_8 x11 wv12 : Int) (w : World) (R : Post) : Prop :=
  sel ((Int.tmod k3 7) == 0) (S1T g0 n1 m2 k3 t8 t8_0 t8_1 t8_2 t8_3 t8_4 t8_5 t8_6 t8_7 t8_8 out10 out10_0 out10_1 out10_2 out10_3 out10_4 out10_5 out10_6 out10_7 out10_8 x11 7 w R) (S1T g0 n1 m2 k3 t8 t8_0 t8_1 t8_2 t8_3 t8_4 t8_5 t8_6 t8_7 t8_8 out10 out10_0 out10_1 out10_2 out10_3 out10_4 out10_5 out10_6 out10_7 out10_8 x11 wv12 w R)
noncomputable def eS0 := entS X [eS1, eS2, eS3, eS4, eS6, eS7, eL5] (pth [1, 1, 1, 1, 1, 1, 4]) P6 S0T
abbrev S8T (g0 : Sl) (n1 m2 k3 : Int) (t8 : Nat) (t8_0 : Int) (t8_1 : Sl) (t8_2 t8_3 t8_4 : Int) (t8_5 : ByteArray) (t8_6 t8_7 t8_8 : Int) (out10 : Nat) (out10_0 : Int) (out10_1 : Sl) (out10_2 out10_3 out10_4 : Int) (out10_5 : ByteArray) (out10_6 out10_7 out10_8 x11 : Int) (w : World) (R : Post) : Prop :=
  cf1 [t8, out10] n_enthymemeref01_Around #[.i m2, .i 2] w fun t92 w1 => loc [t8, out10] w1 fun w2 => S2T g0 n1 m2 k3 t8 t8_0 t8_1 t8_2 t8_3 t8_4 t8_5 t8_6 t8_7 t8_8 out10 out10_0 out10_1 (IntKind.wrap .i64 (1 + t92)) out10_3 out10_4 out10_5 out10_6 out10_7 out10_8 x11 w2 R
noncomputable def eS8 := entS X [eS0, eS1, eS2, eS3, eS4, eS6, eS7, eL5] (pth [0, 1, 9, 1, 1, 1, 4]) P5 S8T
abbrev P7 : Ps := [(0, .v [.s]), (1, .v [.I]), (2, .v [.I]), (3, .v [.I]), (8, .l [.I, .s, .I, .I, .U, .st, .I, .I, .I] ty_api_Node), (10, .l [.I, .s, .I, .I, .U, .st, .I, .I, .I] ty_api_Node), (11, .v [.I]), (32, .v [.I])]
abbrev S9T (g0 : Sl) (n1 m2 k3 : Int) (t8 : Nat) (t8_0 : Int) (t8_1 : Sl) (t8_2 t8_3 t8_4 : Int) (t8_5 : ByteArray) (t8_6 t8_7 t8_8 : Int) (out10 : Nat) (out10_0 : Int) (out10_1 : Sl) (out10_2 out10_3 out10_4 : Int) (out10_5 : ByteArray) (out10_6 out10_7 out10_8 x11 t32 : Int) (w : World) (R : Post) : Prop :=
  sel (t32 == 28) (cf1 [t8, out10] n_enthymemeref01_Around #[.i m2, .i 3] w fun t98 w1 => loc [t8, out10] w1 fun w2 => S2T g0 n1 m2 k3 t8 t8_0 t8_1 t8_2 t8_3 t8_4 t8_5 t8_6 t8_7 t8_8 out10 out10_0 out10_1 t98 out10_3 out10_4 out10_5 out10_6 out10_7 out10_8 x11 w2 R) (sel (t32 == 33) (cf15 [t8, out10] n_enthymemeref04_Text #[.i m2] w fun t103 w3 => loc [t8, out10] w3 fun w4 => S2T g0 n1 m2 k3 t8 t8_0 t8_1 t8_2 t8_3 t8_4 t8_5 t8_6 t8_7 t8_8 out10 out10_0 out10_1 out10_2 out10_3 out10_4 t103 out10_6 out10_7 out10_8 x11 w4 R) (S2T g0 n1 m2 k3 t8 t8_0 t8_1 t8_2 t8_3 t8_4 t8_5 t8_6 t8_7 t8_8 out10 out10_0 out10_1 out10_2 out10_3 out10_4 out10_5 out10_6 out10_7 out10_8 x11 w R))
noncomputable def eS9 := entS X [eS8, eS0, eS1, eS2, eS3, eS4, eS6, eS7, eL5] (pth [10, 1, 1, 1, 4]) P7 S9T
theorem okT (g0 : Sl) (n1 m2 k3 : Int) (w : World) (R : Post) (h : newV [] w fun b8 w1 => 
  nwV w1 (.cells #[.i 4, .i 5, .i 6, .i 7, .i 8, .i 9, .i 10, .i 11, .i 12, .i 13, .i 14, .i 15, .i 16, .i 17, .i 18, .i 19, .i 20, .i 21, .i 22, .i 23, .i 24, .i 25, .i 26, .i 27, .i 28, .i 29, .i 30, .i 31, .i 32, .i 33, .i 34, .i 1, .i 2, .i 3, .i 18, .i 18, .i 16, .i 6, .i 24, .i 25] ty_int) fun w2 => 
  cf1 [b8] n_enthymemeref01_Around #[.i n1, .i ((40 : Nat) : Int)] w2 fun t22 w3 => (0 : Int) ≤ t22 ∧ t22 < ((40 : Nat) : Int) ∧ optP (some (nb w1)) fun t23_p => ∃ t24 : Int, w3.cell? (t23_p.add (Int.toNat t22 * 1)) = some (.i t24) ∧ 
  newV [b8] w3 fun b10 w4 => 
  loc [b8, b10] w4 fun w13 => cf1 [b8, b10] n_enthymemeref01_Around #[.i (IntKind.wrap .i64 (Int.tdiv n1 64)), .i ((g0.n : Nat) : Int)] w13 fun t30 w14 => sel (t24 == 1) (cf1 [b8, b10] n_enthymemeref01_Around #[.i m2, .i 3] w14 fun t36 w15 => S0T g0 n1 m2 k3 b8 0 ⟨none, 0, 0⟩ 0 0 0 (ByteArray.mk #[]) 0 0 0 b10 t24 ⟨none, 0, 0⟩ 0 0 0 (ByteArray.mk #[]) 0 0 0 t30 (IntKind.wrap .i64 (1 + t36)) w15 R) (sel (t24 == 2) (nwV w14 (.cells #[.s0, .string (ByteArray.mk #[97]), .string (ByteArray.mk #[97, 98]), .string (ByteArray.mk #[98]), .string (ByteArray.mk #[0]), .string (ByteArray.mk #[97, 97])] ty_string) fun w16 => 
  cf1 [b8, b10] n_enthymemeref01_Around #[.i m2, .i 6] w16 fun t56 w17 => (0 : Int) ≤ t56 ∧ t56 < ((6 : Nat) : Int) ∧ optP (some (nb w14)) fun t57_p => ∃ t58 : ByteArray, w17.cell? (t57_p.add (Int.toNat t56 * 1)) = some (.string t58) ∧ 
  loc [b8, b10] w17 fun w18 => S2T g0 n1 m2 k3 b8 0 ⟨none, 0, 0⟩ 0 0 0 (ByteArray.mk #[]) 0 0 0 b10 t24 ⟨none, 0, 0⟩ 0 0 0 t58 0 0 0 t30 w18 R) (sel (t24 == 3) (nwV w14 (.cells #[.i 2, .i 2, .i 1, .i 3, .i 1, .i 1] ty_api_Sort) fun w19 => 
  cf1 [b8, b10] n_enthymemeref01_Around #[.i m2, .i 2] w19 fun t66 w20 => (0 : Int) ≤ t66 ∧ t66 < ((2 : Nat) : Int) ∧ optP (some (nb w14)) fun t67_p => ld3_2 w20 (t67_p.add (Int.toNat t66 * 3)) fun t68_0 t68_1 t68_2 => loc [b8, b10] w20 fun w23 => S2T g0 n1 m2 k3 b8 0 ⟨none, 0, 0⟩ 0 0 0 (ByteArray.mk #[]) 0 0 0 b10 t24 ⟨none, 0, 0⟩ 0 0 0 (ByteArray.mk #[]) t68_0 t68_1 t68_2 t30 w23 R) (sel (t24 == 21) ((0 : Int) ≤ t30 ∧ t30 < ((g0.n : Nat) : Int) ∧ optP g0.a fun t75_p => ∃ t78 : Int, w14.cell? (((t75_p.add (Int.toNat t30 * 9)).add 6).add 1) = some (.i t78) ∧ 
  cf1 [b8, b10] n_enthymemeref01_Around #[.i m2, .i (if 1 < t78 then t78 else 1)] w14 fun t80 w24 => loc [b8, b10] w24 fun w25 => cf1 [b8, b10] n_enthymemeref01_Around #[.i k3, .i (IntKind.wrap .i64 (t80 + 1))] w25 fun t86 w26 => loc [b8, b10] w26 fun w27 => S2T g0 n1 m2 k3 b8 0 ⟨none, 0, 0⟩ 0 0 0 (ByteArray.mk #[]) 0 0 0 b10 t24 ⟨none, 0, 0⟩ t80 t86 0 (ByteArray.mk #[]) 0 0 0 t30 w27 R) (sel (t24 == 22) (sel (t24 == 22) (S8T g0 n1 m2 k3 b8 0 ⟨none, 0, 0⟩ 0 0 0 (ByteArray.mk #[]) 0 0 0 b10 t24 ⟨none, 0, 0⟩ 0 0 0 (ByteArray.mk #[]) 0 0 0 t30 w14 R) (S9T g0 n1 m2 k3 b8 0 ⟨none, 0, 0⟩ 0 0 0 (ByteArray.mk #[]) 0 0 0 b10 t24 ⟨none, 0, 0⟩ 0 0 0 (ByteArray.mk #[]) 0 0 0 t30 t24 w14 R)) (sel (t24 == 23) (S8T g0 n1 m2 k3 b8 0 ⟨none, 0, 0⟩ 0 0 0 (ByteArray.mk #[]) 0 0 0 b10 t24 ⟨none, 0, 0⟩ 0 0 0 (ByteArray.mk #[]) 0 0 0 t30 w14 R) (S9T g0 n1 m2 k3 b8 0 ⟨none, 0, 0⟩ 0 0 0 (ByteArray.mk #[]) 0 0 0 b10 t24 ⟨none, 0, 0⟩ 0 0 0 (ByteArray.mk #[]) 0 0 0 t30 t24 w14 R))))))) : Calls Tryz.prog n_enthymemeref07_node #[g0.v, .i n1, .i m2, .i k3] w R := callsX X [eS9, eS8, eS0, eS1, eS2, eS3, eS4, eS6, eS7, eL5] h
end enthymemeref07_node
namespace enthymemeref07_size
noncomputable abbrev X : Fx := ⟨Tryz.prog, Tryz.f41, [], []⟩
abbrev P0 : Ps := [(0, .v [.s]), (1, .v [.I]), (5, .v [.I]), (6, .v [.I])]
def L0 (g0 : Sl) (i1 n5 k6 : Int) (w : World) (R : Post) : Prop := mkCur P0 0 (X.Sem (pth [0, 1, 1, 1, 2])) g0 i1 n5 k6 w R
noncomputable def eL0 := entL X (pth [0, 1, 1, 1, 2]) P0 L0
abbrev S1 (g0 : Sl) (i1 n5 k6 : Int) (w : World) (R : Post) : Prop :=
  L0 g0 i1 n5 (IntKind.wrap .i64 (k6 + 1)) w R
noncomputable def eS1 := entS X [eL0] (pth [2, 2, 1, 1, 2]) P0 S1
theorem L0_step : ∀ (g0 : Sl) (i1 n5 k6 : Int) (w : World) (R : Post) (h : (0 : Int) ≤ i1 ∧ i1 < ((g0.n : Nat) : Int) ∧ optP g0.a fun t10_p => ∃ t12 : Sl, w.cell? ((t10_p.add (Int.toNat i1 * 9)).add 1) = some (t12.v) ∧ 
  sel (decide (k6 < ((t12.n : Nat) : Int))) ((0 : Int) ≤ i1 ∧ i1 < ((g0.n : Nat) : Int) ∧ optP g0.a fun t21_p => ∃ t23 : Sl, w.cell? ((t21_p.add (Int.toNat i1 * 9)).add 1) = some (t23.v) ∧ 
  (0 : Int) ≤ k6 ∧ k6 < ((t23.n : Nat) : Int) ∧ optP t23.a fun t25_p => ∃ t26 : Int, w.cell? (t25_p.add (Int.toNat k6 * 1)) = some (.i t26) ∧ 
  ca1 n_enthymemeref07_size #[g0.v, .i t26] w fun t27 w1 => S1 g0 i1 (IntKind.wrap .i64 (n5 + t27)) k6 w1 R) (R (.returned (.i n5)) w)), L0 g0 i1 n5 k6 w R := mp (stepL (X := X) [eS1, eL0] (pth [0, 1, 1, 1, 2]) P0)
theorem ok (g0 : Sl) (i1 : Int) (w : World) (R : Post) (h : L0 g0 i1 1 0 w R) : Calls Tryz.prog n_enthymemeref07_size #[g0.v, .i i1] w R := callsX X [eS1, eL0] h
end enthymemeref07_size
namespace enthymemeref07_within
noncomputable abbrev X : Fx := ⟨Tryz.prog, Tryz.f40, [], [3]⟩
theorem okT (kind0 s1_0 s1_1 s1_2 : Int) (w : World) (R : Post) (h : newV [] w fun b3 w1 => 
  sel (s1_0 == 0) (R (.returned (.bool true)) w1) (sel (decide (kind0 > 0)) (sel (s1_0 == 2) (R (.returned (.bool true)) w1) (R (.returned (.bool (decide (kind0 > 1)))) w1)) (R (.returned (.bool (decide (kind0 > 1)))) w1))) : Calls Tryz.prog n_enthymemeref07_within #[.i kind0, .agg #[.i s1_0, .i s1_1, .i s1_2]] w R := callsX X [] h
end enthymemeref07_within
namespace enthymemeref07_Made
noncomputable abbrev X : Fx := ⟨Tryz.prog, Tryz.f9, [(5,(.sq [0,1,2,3,4,5,6,7,8,9,10,11,12,13,14] (.fork (ls [15,16,17]) (ls [16,15,17]))))], [9]⟩
abbrev P0 : Ps := [(0, .v [.s]), (1, .v [.I]), (2, .v [.I]), (7, .v [.s]), (8, .v [.I])]
def L0T (l0 : Sl) (kind1 most2 : Int) (g7 : Sl) (i8 : Int) (w : World) (R : Post) : Prop := mkCur P0 0 (X.Sem (pth [0, 1, 1, 1, 2])) l0 kind1 most2 g7 i8 w R
noncomputable def eL0 := entL X (pth [0, 1, 1, 1, 2]) P0 L0T
abbrev S2T (l0 : Sl) (kind1 most2 : Int) (g7 : Sl) (i8 : Int) (w : World) (R : Post) : Prop :=
  L0T l0 kind1 most2 g7 (IntKind.wrap .i64 (i8 + 3)) w R
noncomputable def eS2 := entS X [eL0] (pth [2, 2, 1, 1, 2]) P0 S2T
abbrev P1 : Ps := [(0, .v [.s]), (1, .v [.I]), (2, .v [.I]), (7, .v [.s]), (8, .v [.I]), (9, .l [.I, .s, .I, .I, .U, .st, .I, .I, .I] ty_api_Node)]
abbrev S1T (l0 : Sl) (kind1 most2 : Int) (g7 : Sl) (i8 : Int) (n9 : Nat) (n9_0 : Int) (n9_1 : Sl) (n9_2 n9_3 n9_4 : Int) (n9_5 : ByteArray) (n9_6 n9_7 n9_8 : Int) (w : World) (R : Post) : Prop :=
  cf20 [n9] n_enthymemeref07_Add #[g7.v, .agg #[.i n9_0, n9_1.v, .i n9_2, .i n9_3, .u n9_4, .string n9_5, .i n9_6, .i n9_7, .i n9_8]] w fun t47_0 t47_1 t47_2 w1 => sel (t47_2 == 0) ((0 : Int) ≤ t47_1 ∧ t47_1 < ((t47_0.n : Nat) : Int) ∧ optP t47_0.a fun t57_p => ld3_2 w1 ((t57_p.add (Int.toNat t47_1 * 9)).add 6) fun t59_0 t59_1 t59_2 => cf0 [n9] n_enthymemeref07_within #[.i kind1, .agg #[.i t59_0, .i t59_1, .i t59_2]] w1 fun t60 w2 => sel t60 ((0 : Int) ≤ t47_1 ∧ t47_1 < ((t47_0.n : Nat) : Int) ∧ optP t47_0.a fun t65_p => ∃ t68 : Int, w2.cell? (((t65_p.add (Int.toNat t47_1 * 9)).add 6).add 1) = some (.i t68) ∧ 
  sel (decide (t68 ≤ 16)) (cf1 [n9] n_enthymemeref07_size #[t47_0.v, .i t47_1] w2 fun t74 w3 => sel (decide (t74 ≤ 400)) (S2T l0 kind1 most2 t47_0 i8 w3 R) (S2T l0 kind1 most2 g7 i8 w3 R)) (S2T l0 kind1 most2 g7 i8 w2 R)) (S2T l0 kind1 most2 g7 i8 w2 R)) (S2T l0 kind1 most2 g7 i8 w1 R)
noncomputable def eS1 := entS X [eS2, eL0] (pth [1, 2, 1, 2, 1, 1, 2]) P1 S1T
abbrev P2 : Ps := [(7, .v [.s])]
abbrev S3T (g7 : Sl) (w : World) (R : Post) : Prop :=
  R (.returned (g7.v)) w
noncomputable def eS3 := entS X [eS1, eS2, eL0] (pth [3]) P2 S3T
theorem L0T_step : ∀ (l0 : Sl) (kind1 most2 : Int) (g7 : Sl) (i8 : Int) (w : World) (R : Post) (h : sel (decide ((IntKind.wrap .i64 (i8 + 2)) < ((l0.n : Nat) : Int))) (sel (decide (i8 < (IntKind.wrap .i64 (3 * most2)))) (drV w fun w2 => (0 : Int) ≤ i8 ∧ i8 < ((l0.n : Nat) : Int) ∧ optP l0.a fun t31_p => ∃ t32 : Int, w2.cell? (t31_p.add (Int.toNat i8 * 1)) = some (.i t32) ∧ 
  (0 : Int) ≤ (IntKind.wrap .i64 (i8 + 1)) ∧ (IntKind.wrap .i64 (i8 + 1)) < ((l0.n : Nat) : Int) ∧ optP l0.a fun t36_p => ∃ t37 : Int, w2.cell? (t36_p.add (Int.toNat (IntKind.wrap .i64 (i8 + 1)) * 1)) = some (.i t37) ∧ 
  (0 : Int) ≤ (IntKind.wrap .i64 (i8 + 2)) ∧ (IntKind.wrap .i64 (i8 + 2)) < ((l0.n : Nat) : Int) ∧ optP l0.a fun t41_p => ∃ t42 : Int, w2.cell? (t41_p.add (Int.toNat (IntKind.wrap .i64 (i8 + 2)) * 1)) = some (.i t42) ∧ 
  ((ca21 n_enthymemeref07_node #[g7.v, .i t32, .i t37, .i t42] w2 fun t43_0 t43_1 t43_2 t43_3 t43_4 t43_5 t43_6 t43_7 t43_8 w3 => newV [] w3 fun b9 w4 => 
  loc [b9] w4 fun w13 => S1T l0 kind1 most2 g7 i8 b9 t43_0 t43_1 t43_2 t43_3 t43_4 t43_5 t43_6 t43_7 t43_8 w13 R) ∧ (newV [] w2 fun b9_ w14 => 
  w14.cell? (t41_p.add (Int.toNat (IntKind.wrap .i64 (i8 + 2)) * 1)) = some (.i t42) ∧ w14.cell? (t36_p.add (Int.toNat (IntKind.wrap .i64 (i8 + 1)) * 1)) = some (.i t37) ∧ w14.cell? (t31_p.add (Int.toNat i8 * 1)) = some (.i t32) ∧ cf21 [b9_] n_enthymemeref07_node #[g7.v, .i t32, .i t37, .i t42] w14 fun t43_x1_0 t43_x1_1 t43_x1_2 t43_x1_3 t43_x1_4 t43_x1_5 t43_x1_6 t43_x1_7 t43_x1_8 w15 => loc [b9_] w15 fun w24 => S1T l0 kind1 most2 g7 i8 b9_ t43_x1_0 t43_x1_1 t43_x1_2 t43_x1_3 t43_x1_4 t43_x1_5 t43_x1_6 t43_x1_7 t43_x1_8 w24 R))) (S3T g7 w R)) (S3T g7 w R)), L0T l0 kind1 most2 g7 i8 w R := mp (stepL (X := X) [eS3, eS1, eS2, eL0] (pth [0, 1, 1, 1, 2]) P0)
theorem okT (l0 : Sl) (kind1 most2 : Int) (w : World) (R : Post) (h : ca3 n_enthymemeref07_start #[.i kind1] w fun t14 w1 => L0T l0 kind1 most2 t14 0 w1 R) : Calls Tryz.prog n_enthymemeref07_Made #[l0.v, .i kind1, .i most2] w R := callsX X [eS3, eS1, eS2, eL0] h
end enthymemeref07_Made
namespace enthymemeref07_Needs
noncomputable abbrev X : Fx := ⟨Tryz.prog, Tryz.f21, [], []⟩
abbrev P0 : Ps := [(0, .v [.s]), (1, .v [.s]), (5, .v [.s]), (6, .v [.I])]
def L0 (g0 roots1 out5 : Sl) (i6 : Int) (w : World) (R : Post) : Prop := mkCur P0 0 (X.Sem (pth [0, 1, 1, 1, 2])) g0 roots1 out5 i6 w R
noncomputable def eL0 := entL X (pth [0, 1, 1, 1, 2]) P0 L0
abbrev P1 : Ps := [(0, .v [.s]), (1, .v [.s]), (5, .v [.s]), (6, .v [.I]), (7, .v [.b]), (8, .v [.I])]
def L1 (g0 roots1 out5 : Sl) (i6 : Int) (in7 : Bool) (k8 : Int) (w : World) (R : Post) : Prop := mkCur P1 0 (X.Sem (pth [0, 1, 1, 1, 1, 2, 1, 2, 1, 1, 2])) g0 roots1 out5 i6 in7 k8 w R
noncomputable def eL1 := entL X (pth [0, 1, 1, 1, 1, 2, 1, 2, 1, 1, 2]) P1 L1
abbrev S2 (g0 roots1 out5 : Sl) (i6 : Int) (in7 : Bool) (k8 : Int) (w : World) (R : Post) : Prop :=
  L1 g0 roots1 out5 i6 in7 (IntKind.wrap .i64 (k8 + 1)) w R
noncomputable def eS2 := entS X [eL1, eL0] (pth [2, 2, 1, 1, 1, 2, 1, 2, 1, 1, 2]) P1 S2
abbrev S3 (g0 roots1 out5 : Sl) (i6 : Int) (w : World) (R : Post) : Prop :=
  L0 g0 roots1 out5 (IntKind.wrap .i64 (i6 - 1)) w R
noncomputable def eS3 := entS X [eS2, eL1, eL0] (pth [2, 2, 1, 1, 2]) P0 S3
theorem L1_step : ∀ (g0 roots1 out5 : Sl) (i6 : Int) (in7 : Bool) (k8 : Int) (w : World) (R : Post) (h : sel (decide (k8 < ((out5.n : Nat) : Int))) ((0 : Int) ≤ k8 ∧ k8 < ((out5.n : Nat) : Int) ∧ optP out5.a fun t29_p => ∃ t30 : Int, w.cell? (t29_p.add (Int.toNat k8 * 1)) = some (.i t30) ∧ 
  (0 : Int) ≤ t30 ∧ t30 < ((g0.n : Nat) : Int) ∧ optP g0.a fun t31_p => ∃ t33 : Sl, w.cell? ((t31_p.add (Int.toNat t30 * 9)).add 1) = some (t33.v) ∧ 
  ca0 n_enthymemeref07_has #[t33.v, .i i6] w fun t35 w2 => sel in7 (S2 g0 roots1 out5 i6 true k8 w2 R) (S2 g0 roots1 out5 i6 t35 k8 w2 R)) (sel in7 (nwV w (.cells #[.i i6] ty_int) fun w3 => 
  ∃ (t44 : Sl) (w4 : World), Sem.run Tryz.prog (Builtin.append_ #[ty_sl_int, ty_sl_int] ty_sl_int #[.slice (some (nb w)) 1 1, out5.v]) w3 = .ok (t44.v) w4 ∧ S3 g0 roots1 t44 i6 w4 R) (S3 g0 roots1 out5 i6 w R))), L1 g0 roots1 out5 i6 in7 k8 w R := mp (stepL (X := X) [eS3, eS2, eL1, eL0] (pth [0, 1, 1, 1, 1, 2, 1, 2, 1, 1, 2]) P1)
theorem L0_step : ∀ (g0 roots1 out5 : Sl) (i6 : Int) (w : World) (R : Post) (h : sel (decide (i6 ≥ 0)) (ca0 n_enthymemeref07_has #[roots1.v, .i i6] w fun t19 w1 => L1 g0 roots1 out5 i6 t19 0 w1 R) (R (.returned (out5.v)) w)), L0 g0 roots1 out5 i6 w R := mp (stepL (X := X) [eS3, eS2, eL1, eL0] (pth [0, 1, 1, 1, 2]) P0)
theorem ok (g0 roots1 : Sl) (w : World) (R : Post) (h : L0 g0 roots1 ⟨none, 0, 0⟩ (IntKind.wrap .i64 (((g0.n : Nat) : Int) - 1)) w R) : Calls Tryz.prog n_enthymemeref07_Needs #[g0.v, roots1.v] w R := callsX X [eS3, eS2, eL1, eL0] h
end enthymemeref07_Needs
namespace enthymemeref07_Vars
noncomputable abbrev X : Fx := ⟨Tryz.prog, Tryz.f23, [], []⟩
abbrev P0 : Ps := [(0, .v [.s]), (3, .v [.s]), (4, .v [.I])]
def L0 (g0 out3 : Sl) (i4 : Int) (w : World) (R : Post) : Prop := mkCur P0 0 (X.Sem (pth [0, 1, 1, 1, 2])) g0 out3 i4 w R
noncomputable def eL0 := entL X (pth [0, 1, 1, 1, 2]) P0 L0
abbrev S1 (g0 out3 : Sl) (i4 : Int) (w : World) (R : Post) : Prop :=
  L0 g0 out3 (IntKind.wrap .i64 (i4 + 1)) w R
noncomputable def eS1 := entS X [eL0] (pth [2, 2, 1, 1, 2]) P0 S1
theorem L0_step : ∀ (g0 out3 : Sl) (i4 : Int) (w : World) (R : Post) (h : sel (decide (i4 < ((g0.n : Nat) : Int))) ((0 : Int) ≤ i4 ∧ i4 < ((g0.n : Nat) : Int) ∧ optP g0.a fun t13_p => ∃ t15 : Int, w.cell? ((t13_p.add (Int.toNat i4 * 9)).add 0) = some (.i t15) ∧ 
  sel (t15 == 0) (nwV w (.cells #[.i i4] ty_int) fun w1 => 
  ∃ (t20 : Sl) (w2 : World), Sem.run Tryz.prog (Builtin.append_ #[ty_sl_int, ty_sl_int] ty_sl_int #[out3.v, .slice (some (nb w)) 1 1]) w1 = .ok (t20.v) w2 ∧ S1 g0 t20 i4 w2 R) (S1 g0 out3 i4 w R)) (R (.returned (out3.v)) w)), L0 g0 out3 i4 w R := mp (stepL (X := X) [eS1, eL0] (pth [0, 1, 1, 1, 2]) P0)
theorem ok (g0 : Sl) (w : World) (R : Post) (h : L0 g0 ⟨none, 0, 0⟩ 0 w R) : Calls Tryz.prog n_enthymemeref07_Vars #[g0.v] w R := callsX X [eS1, eL0] h
end enthymemeref07_Vars
end Go.Proofs.YtcifihepfadgfaaGreatDoor
set_option linter.unusedVariables false
set_option maxRecDepth 100000
set_option maxHeartbeats 2000000
namespace Go.Proofs.YtcifihepfadgfaaGreatDoor
open Go Go.W
namespace value_ValidSort
noncomputable abbrev X : Fx := ⟨Tryz.prog, Tryz.f109, [], [1]⟩
abbrev P0 : Ps := []
abbrev S1T  (w : World) (R : Post) : Prop :=
  R (.returned (.i 9)) w
noncomputable def eS1 := entS X [] (pth [0, 1, 1, 1, 3]) P0 S1T
abbrev S2T  (w : World) (R : Post) : Prop :=
  R (.returned (.i 9)) w
noncomputable def eS2 := entS X [eS1] (pth [0, 1, 1, 1, 4]) P0 S2T
abbrev S3T  (w : World) (R : Post) : Prop :=
  R (.returned (.i 0)) w
noncomputable def eS3 := entS X [eS2, eS1] (pth [5]) P0 S3T
abbrev P1 : Ps := [(1, .l [.I, .I, .I] ty_api_Sort), (3, .v [.I]), (4, .v [.I]), (5, .v [.b])]
abbrev S0T (s1 : Nat) (s1_0 s1_1 s1_2 least3 most4 : Int) (index5 : Bool) (w : World) (R : Post) : Prop :=
  sel (decide (s1_1 < least3)) (S1T  w R) (sel (decide (s1_1 > most4)) (S1T  w R) (sel index5 (sel (decide (s1_2 < 1)) (S2T  w R) (sel (decide (s1_2 > 16)) (S2T  w R) (sel (!index5) (sel (s1_2 != 0) (S2T  w R) (S3T  w R)) (S3T  w R)))) (sel (!index5) (sel (s1_2 != 0) (S2T  w R) (S3T  w R)) (S3T  w R))))
noncomputable def eS0 := entS X [eS3, eS2, eS1] (pth [3]) P1 S0T
theorem okT (s0_0 s0_1 s0_2 : Int) (w : World) (R : Post) (h : newV [] w fun b1 w1 => 
  sel (s0_0 == 0) (S0T b1 s0_0 s0_1 s0_2 1 64 false w1 R) (sel (s0_0 == 1) (S0T b1 s0_0 s0_1 s0_2 0 64 false w1 R) (sel (s0_0 == 2) (S0T b1 s0_0 s0_1 s0_2 1 64 true w1 R) (sel (s0_0 == 3) (S0T b1 s0_0 s0_1 s0_2 0 64 true w1 R) (R (.returned (.i 9)) w1))))) : Calls Tryz.prog n_value_ValidSort #[.agg #[.i s0_0, .i s0_1, .i s0_2]] w R := callsX X [eS0, eS3, eS2, eS1] h
end value_ValidSort
namespace term_isName
noncomputable abbrev X : Fx := ⟨Tryz.prog, Tryz.f108, [], []⟩
abbrev P0 : Ps := []
abbrev S0  (w : World) (R : Post) : Prop :=
  R (.returned (.bool false)) w
noncomputable def eS0 := entS X [] (pth [0, 1, 1, 1, 1]) P0 S0
abbrev P1 : Ps := [(0, .v [.st]), (3, .v [.I])]
def L1 (s0 : ByteArray) (i3 : Int) (w : World) (R : Post) : Prop := mkCur P1 0 (X.Sem (pth [0, 1, 1, 1, 2])) s0 i3 w R
noncomputable def eL1 := entL X (pth [0, 1, 1, 1, 2]) P1 L1
abbrev S4  (w : World) (R : Post) : Prop :=
  R (.returned (.bool false)) w
noncomputable def eS4 := entS X [eL1, eS0] (pth [0, 1, 3, 2, 1, 2, 1, 1, 2]) P0 S4
abbrev S5 (s0 : ByteArray) (i3 : Int) (w : World) (R : Post) : Prop :=
  L1 s0 (IntKind.wrap .i64 (i3 + 1)) w R
noncomputable def eS5 := entS X [eS4, eL1, eS0] (pth [2, 2, 1, 1, 2]) P1 S5
abbrev P2 : Ps := [(0, .v [.st]), (3, .v [.I]), (4, .v [.Y]), (5, .v [.b])]
abbrev S3 (s0 : ByteArray) (i3 c4 : Int) (letter5 : Bool) (w : World) (R : Post) : Prop :=
  sel (!letter5) (sel (i3 == 0) (S4  w R) (sel (c4 != 45) (sel (decide (c4 < 48)) (S4  w R) (sel (decide (c4 > 57)) (S4  w R) (S5 s0 i3 w R))) (S5 s0 i3 w R))) (S5 s0 i3 w R)
noncomputable def eS3 := entS X [eS5, eS4, eL1, eS0] (pth [2, 2, 1, 2, 1, 1, 2]) P2 S3
abbrev P3 : Ps := [(0, .v [.st]), (3, .v [.I]), (4, .v [.Y])]
abbrev S2 (s0 : ByteArray) (i3 c4 : Int) (w : World) (R : Post) : Prop :=
  sel (decide (c4 ≥ 97)) (S3 s0 i3 c4 (decide (c4 ≤ 122)) w R) (S3 s0 i3 c4 false w R)
noncomputable def eS2 := entS X [eS3, eS5, eS4, eL1, eS0] (pth [1, 2, 1, 2, 1, 1, 2]) P3 S2
theorem L1_step : ∀ (s0 : ByteArray) (i3 : Int) (w : World) (R : Post) (h : sel (decide (i3 < ((s0.size : Nat) : Int))) ((0 : Int) ≤ i3 ∧ ∃ t22_b : UInt8, s0[Int.toNat i3]? = some t22_b ∧ S2 s0 i3 ((t22_b.toNat : Nat) : Int) w R) (R (.returned (.bool true)) w)), L1 s0 i3 w R := mp (stepL (X := X) [eS2, eS3, eS5, eS4, eL1, eS0] (pth [0, 1, 1, 1, 2]) P1)
theorem ok (s0 : ByteArray) (w : World) (R : Post) (h : sel (decide (((s0.size : Nat) : Int) < 1)) (S0  w R) (sel (decide (((s0.size : Nat) : Int) > 16)) (S0  w R) (L1 s0 0 w R))) : Calls Tryz.prog n_term_isName #[.string s0] w R := callsX X [eS2, eS3, eS5, eS4, eL1, eS0] h
end term_isName
namespace term_fieldsFit
noncomputable abbrev X : Fx := ⟨Tryz.prog, Tryz.f80, [], []⟩
abbrev P0 : Ps := [(0, .v [.r]), (3, .v [.b]), (4, .v [.b]), (5, .v [.b]), (6, .v [.b])]
abbrev S1 (n0 : Addr) (hasN3 hasM4 hasU5 hasText6 : Bool) (w : World) (R : Post) : Prop :=
  sel hasN3 (sel hasM4 (sel hasU5 (sel hasText6 (R (.returned (.bool true)) w) (∃ t57 : ByteArray, w.cell? (n0.add 5) = some (.string t57) ∧ 
  R (.returned (.bool (t57.toList == (ByteArray.mk #[]).toList))) w)) (∃ t47 : Int, w.cell? (n0.add 4) = some (.u t47) ∧ 
  sel (t47 == 0) (sel hasText6 (R (.returned (.bool true)) w) (∃ t57_x1 : ByteArray, w.cell? (n0.add 5) = some (.string t57_x1) ∧ 
  R (.returned (.bool (t57_x1.toList == (ByteArray.mk #[]).toList))) w)) (R (.returned (.bool false)) w))) (∃ t37 : Int, w.cell? (n0.add 3) = some (.i t37) ∧ 
  sel (t37 == 0) (sel hasU5 (sel hasText6 (R (.returned (.bool true)) w) (∃ t57_x2 : ByteArray, w.cell? (n0.add 5) = some (.string t57_x2) ∧ 
  R (.returned (.bool (t57_x2.toList == (ByteArray.mk #[]).toList))) w)) (∃ t47_x1 : Int, w.cell? (n0.add 4) = some (.u t47_x1) ∧ 
  sel (t47_x1 == 0) (sel hasText6 (R (.returned (.bool true)) w) (∃ t57_x3 : ByteArray, w.cell? (n0.add 5) = some (.string t57_x3) ∧ 
  R (.returned (.bool (t57_x3.toList == (ByteArray.mk #[]).toList))) w)) (R (.returned (.bool false)) w))) (R (.returned (.bool false)) w))) (∃ t28 : Int, w.cell? (n0.add 2) = some (.i t28) ∧ 
  sel (t28 == 0) (sel hasM4 (sel hasU5 (sel hasText6 (R (.returned (.bool true)) w) (∃ t57_x4 : ByteArray, w.cell? (n0.add 5) = some (.string t57_x4) ∧ 
  R (.returned (.bool (t57_x4.toList == (ByteArray.mk #[]).toList))) w)) (∃ t47_x2 : Int, w.cell? (n0.add 4) = some (.u t47_x2) ∧ 
  sel (t47_x2 == 0) (sel hasText6 (R (.returned (.bool true)) w) (∃ t57_x5 : ByteArray, w.cell? (n0.add 5) = some (.string t57_x5) ∧ 
  R (.returned (.bool (t57_x5.toList == (ByteArray.mk #[]).toList))) w)) (R (.returned (.bool false)) w))) (∃ t37_x1 : Int, w.cell? (n0.add 3) = some (.i t37_x1) ∧ 
  sel (t37_x1 == 0) (sel hasU5 (sel hasText6 (R (.returned (.bool true)) w) (∃ t57_x6 : ByteArray, w.cell? (n0.add 5) = some (.string t57_x6) ∧ 
  R (.returned (.bool (t57_x6.toList == (ByteArray.mk #[]).toList))) w)) (∃ t47_x3 : Int, w.cell? (n0.add 4) = some (.u t47_x3) ∧ 
  sel (t47_x3 == 0) (sel hasText6 (R (.returned (.bool true)) w) (∃ t57_x7 : ByteArray, w.cell? (n0.add 5) = some (.string t57_x7) ∧ 
  R (.returned (.bool (t57_x7.toList == (ByteArray.mk #[]).toList))) w)) (R (.returned (.bool false)) w))) (R (.returned (.bool false)) w))) (R (.returned (.bool false)) w))
noncomputable def eS1 := entS X [] (pth [3]) P0 S1
abbrev P1 : Ps := [(0, .v [.r]), (3, .v [.b]), (4, .v [.b]), (5, .v [.b])]
abbrev S0 (n0 : Addr) (hasN3 hasM4 hasU5 : Bool) (w : World) (R : Post) : Prop :=
  S1 n0 hasN3 hasM4 hasU5 true w R
noncomputable def eS0 := entS X [eS1] (pth [0, 1, 1, 1, 1, 1, 2]) P1 S0
abbrev P2 : Ps := [(0, .v [.r]), (4, .v [.b]), (5, .v [.b]), (6, .v [.b])]
abbrev S3 (n0 : Addr) (hasM4 hasU5 hasText6 : Bool) (w : World) (R : Post) : Prop :=
  S1 n0 true hasM4 hasU5 hasText6 w R
noncomputable def eS3 := entS X [eS0, eS1] (pth [0, 1, 7, 1, 1, 1, 2]) P2 S3
abbrev P3 : Ps := [(0, .v [.r]), (3, .v [.b]), (4, .v [.b]), (5, .v [.b]), (6, .v [.b]), (10, .v [.I])]
abbrev S2 (n0 : Addr) (hasN3 hasM4 hasU5 hasText6 : Bool) (t10 : Int) (w : World) (R : Post) : Prop :=
  sel (t10 == 1) (S1 n0 hasN3 hasM4 true hasText6 w R) (sel (t10 == 21) (S1 n0 true true hasU5 hasText6 w R) (sel (t10 == 22) (sel (t10 == 22) (S3 n0 hasM4 hasU5 hasText6 w R) (S1 n0 hasN3 hasM4 hasU5 hasText6 w R)) (sel (t10 == 23) (sel (t10 == 23) (S3 n0 hasM4 hasU5 hasText6 w R) (S1 n0 hasN3 hasM4 hasU5 hasText6 w R)) (sel (t10 == 28) (S3 n0 hasM4 hasU5 hasText6 w R) (S1 n0 hasN3 hasM4 hasU5 hasText6 w R)))))
noncomputable def eS2 := entS X [eS3, eS0, eS1] (pth [2, 1, 1, 1, 2]) P3 S2
theorem ok (n0 : Addr) (w : World) (R : Post) (h : ∃ t10 : Int, w.cell? (n0.add 0) = some (.i t10) ∧ 
  sel (t10 == 0) (sel (t10 == 0) (S0 n0 false false false w R) (S2 n0 false false false false t10 w R)) (sel (t10 == 2) (sel (t10 == 2) (S0 n0 false false false w R) (S2 n0 false false false false t10 w R)) (sel (t10 == 33) (S0 n0 false false false w R) (S2 n0 false false false false t10 w R)))) : Calls Tryz.prog n_term_fieldsFit #[.pointer (some n0)] w R := callsX X [eS2, eS3, eS0, eS1] h
end term_fieldsFit
namespace term_bv
noncomputable abbrev X : Fx := ⟨Tryz.prog, Tryz.f114, [], [2]⟩
theorem okT (wv0 : Int) (w : World) (R : Post) (h : newV [] w fun b2 w1 => 
  loc [b2] w1 fun w4 => R (.returned (.agg #[.i 0, .i wv0, .i 0])) w4) : Calls Tryz.prog n_term_bv #[.i wv0] w R := callsX X [] h
end term_bv
namespace term_str
noncomputable abbrev X : Fx := ⟨Tryz.prog, Tryz.f110, [], [2]⟩
theorem okT (n0 : Int) (w : World) (R : Post) (h : newV [] w fun b2 w1 => 
  loc [b2] w1 fun w4 => R (.returned (.agg #[.i 1, .i n0, .i 0])) w4) : Calls Tryz.prog n_term_str #[.i n0] w R := callsX X [] h
end term_str
namespace term_isBV
noncomputable abbrev X : Fx := ⟨Tryz.prog, Tryz.f113, [], [1]⟩
theorem okT (s0_0 s0_1 s0_2 : Int) (w : World) (R : Post) (h : newV [] w fun b1 w1 => 
  R (.returned (.bool (s0_0 == 0))) w1) : Calls Tryz.prog n_term_isBV #[.agg #[.i s0_0, .i s0_1, .i s0_2]] w R := callsX X [] h
end term_isBV
namespace term_isStr
noncomputable abbrev X : Fx := ⟨Tryz.prog, Tryz.f116, [], [1]⟩
theorem okT (s0_0 s0_1 s0_2 : Int) (w : World) (R : Post) (h : newV [] w fun b1 w1 => 
  R (.returned (.bool (s0_0 == 1))) w1) : Calls Tryz.prog n_term_isStr #[.agg #[.i s0_0, .i s0_1, .i s0_2]] w R := callsX X [] h
end term_isStr
namespace term_isArray
noncomputable abbrev X : Fx := ⟨Tryz.prog, Tryz.f111, [], [1]⟩
theorem okT (s0_0 s0_1 s0_2 : Int) (w : World) (R : Post) (h : newV [] w fun b1 w1 => 
  sel (s0_0 == 2) (R (.returned (.bool true)) w1) (R (.returned (.bool (s0_0 == 3))) w1)) : Calls Tryz.prog n_term_isArray #[.agg #[.i s0_0, .i s0_1, .i s0_2]] w R := callsX X [] h
end term_isArray
namespace term_alike
noncomputable abbrev X : Fx := ⟨Tryz.prog, Tryz.f115, [], [2, 3]⟩
theorem okT (x0_0 x0_1 x0_2 y1_0 y1_1 y1_2 : Int) (w : World) (R : Post) (h : newV [] w fun b2 w1 => 
  newV [b2] w1 fun b3 w2 => 
  sel ((x0_0 == y1_0) && ((x0_1 == y1_1) && ((x0_2 == y1_2) && true))) (R (.returned (.bool true)) w2) (cf0 [b2, b3] n_term_isStr #[.agg #[.i x0_0, .i x0_1, .i x0_2]] w2 fun t10 w3 => sel t10 (cf0 [b2, b3] n_term_isStr #[.agg #[.i y1_0, .i y1_1, .i y1_2]] w3 fun t13 w4 => R (.returned (.bool t13)) w4) (R (.returned (.bool false)) w3))) : Calls Tryz.prog n_term_alike #[.agg #[.i x0_0, .i x0_1, .i x0_2], .agg #[.i y1_0, .i y1_1, .i y1_2]] w R := callsX X [] h
end term_alike
namespace term_result
noncomputable abbrev X : Fx := ⟨Tryz.prog, Tryz.f112, [], [3, 6]⟩
theorem okT (s0_0 s0_1 s0_2 : Int) (sorts1 ranges2 : Bool) (w : World) (R : Post) (h : newV [] w fun b3 w1 => 
  newV [b3] w1 fun b6 w2 => 
  sel (!sorts1) (loc [b3, b6] w2 fun w5 => R (.returned (.tuple #[.agg #[.i s0_0, .i s0_1, .i s0_2], .i 9])) w5) (sel (!ranges2) (loc [b3, b6] w2 fun w8 => R (.returned (.tuple #[.agg #[.i s0_0, .i s0_1, .i s0_2], .i 5])) w8) (loc [b3, b6] w2 fun w11 => R (.returned (.tuple #[.agg #[.i s0_0, .i s0_1, .i s0_2], .i 0])) w11))) : Calls Tryz.prog n_term_result #[.agg #[.i s0_0, .i s0_1, .i s0_2], .bool sorts1, .bool ranges2] w R := callsX X [] h
end term_result
namespace term_sortOfVar
noncomputable abbrev X : Fx := ⟨Tryz.prog, Tryz.f81, [(7,ls [0,1,2,3,4,5,6,7,8])], []⟩
abbrev P0 : Ps := [(0, .v [.r]), (4, .v [.r])]
abbrev S0 (n0 t4 : Addr) (w : World) (R : Post) : Prop :=
  ld3_2 w (n0.add 6) fun t56_0 t56_1 t56_2 => stW3 w t4 (.i t56_0) (.i t56_1) (.i t56_2) fun w3 => ld3_2 w3 t4 fun r4_0 r4_1 r4_2 => R (.returned (.tuple #[.agg #[.i r4_0, .i r4_1, .i r4_2], .i 0])) w3
noncomputable def eS0 := entS X [] (pth [4]) P0 S0
theorem ok (n0 : Addr) (lookup1 : Fv) (w : World) (R : Post) (h : nwV w (.cells #[.i 0, .i 0, .i 0] ty_api_Sort) fun w1 => 
  ∃ t12 : ByteArray, w1.cell? (n0.add 5) = some (.string t12) ∧ 
  ca0 n_term_isName #[.string t12] w1 fun t13 w2 => sel (!t13) (ld3_2 w2 (n0.add 6) fun t18_0 t18_1 t18_2 => stW3 w2 (nb w) (.i t18_0) (.i t18_1) (.i t18_2) fun w5 => ld3_2 w5 (nb w) fun r4_0 r4_1 r4_2 => R (.returned (.tuple #[.agg #[.i r4_0, .i r4_1, .i r4_2], .i 6])) w5) (ld3_2 w2 (n0.add 6) fun t22_0 t22_1 t22_2 => ca1 n_value_ValidSort #[.agg #[.i t22_0, .i t22_1, .i t22_2]] w2 fun t23 w6 => sel (t23 != 0) (ld3_2 w6 (n0.add 6) fun t29_0 t29_1 t29_2 => stW3 w6 (nb w) (.i t29_0) (.i t29_1) (.i t29_2) fun w9 => ld3_2 w9 (nb w) fun r4_0 r4_1 r4_2 => R (.returned (.tuple #[.agg #[.i r4_0, .i r4_1, .i r4_2], .i t23])) w9) (∃ t36 : ByteArray, w6.cell? (n0.add 5) = some (.string t36) ∧ 
  AndT (callable Tryz.prog lookup1.n) (Calls Tryz.prog lookup1.n (lookup1.bs ++ #[.string t36] ++ lookup1.cs) w6 fun r_ w10 => ∃ t37_0_0 : Int, ∃ t37_0_1 : Int, ∃ t37_0_2 : Int, ∃ t37_1 : Bool, r_ = .returned (.tuple #[.agg #[.i t37_0_0, .i t37_0_1, .i t37_0_2], .bool t37_1]) ∧ 
  nwV w10 (.cells #[.i 0, .i 0, .i 0] ty_api_Sort) fun w11 => 
  stW3 w11 (nb w10) (.i t37_0_0) (.i t37_0_1) (.i t37_0_2) fun w14 => drV w14 fun w15 => sel t37_1 (ld3_2 w15 (nb w10) fun t42_0 t42_1 t42_2 => ld3_2 w15 (n0.add 6) fun t46_0 t46_1 t46_2 => sel (!((t42_0 == t46_0) && ((t42_1 == t46_1) && ((t42_2 == t46_2) && true)))) (ld3_2 w15 (n0.add 6) fun t52_0 t52_1 t52_2 => stW3 w15 (nb w) (.i t52_0) (.i t52_1) (.i t52_2) fun w18 => ld3_2 w18 (nb w) fun r4_0 r4_1 r4_2 => R (.returned (.tuple #[.agg #[.i r4_0, .i r4_1, .i r4_2], .i 8])) w18) (S0 n0 (nb w) w15 R)) (S0 n0 (nb w) w15 R))))) : Calls Tryz.prog n_term_sortOfVar #[.pointer (some n0), lookup1.v] w R := callsX X [eS0] h
end term_sortOfVar
namespace term_sortOfLeaf
noncomputable abbrev X : Fx := ⟨Tryz.prog, Tryz.f82, [(14,ls [0,1,2,3,4,5,6,7,8,9,10,11,12,13,14,15,16,17,18])], [2]⟩
abbrev P0 : Ps := [(0, .v [.r]), (2, .l [.I, .I, .I] ty_api_Sort)]
abbrev S0T (n0 : Addr) (t2 : Nat) (t2_0 t2_1 t2_2 : Int) (w : World) (R : Post) : Prop :=
  ld3_2 w (n0.add 6) fun t93_0 t93_1 t93_2 => loc [t2] w fun w3 => R (.returned (.tuple #[.agg #[.i t93_0, .i t93_1, .i t93_2], .i 0])) w3
noncomputable def eS0 := entS X [] (pth [6]) P0 S0T
theorem okT (n0 : Addr) (w : World) (R : Post) (h : newV [] w fun b2 w1 => 
  ∃ t8 : Int, w1.cell? (n0.add 0) = some (.i t8) ∧ 
  sel (t8 == 2) (∃ t13 : ByteArray, w1.cell? (n0.add 5) = some (.string t13) ∧ 
  sel (decide (((t13.size : Nat) : Int) > 64)) (ld3_2 w1 (n0.add 6) fun t19_0 t19_1 t19_2 => loc [b2] w1 fun w4 => R (.returned (.tuple #[.agg #[.i t19_0, .i t19_1, .i t19_2], .i 5])) w4) (∃ t23 : ByteArray, w1.cell? (n0.add 5) = some (.string t23) ∧ 
  cf17 [b2] n_term_str #[.i ((t23.size : Nat) : Int)] w1 fun t25_0 t25_1 t25_2 w5 => loc [b2] w5 fun w8 => R (.returned (.tuple #[.agg #[.i t25_0, .i t25_1, .i t25_2], .i 0])) w8)) (ld3_2 w1 (n0.add 6) fun t29_0 t29_1 t29_2 => cf1 [b2] n_value_ValidSort #[.agg #[.i t29_0, .i t29_1, .i t29_2]] w1 fun t30 w9 => sel (t30 != 0) (ld3_2 w9 (n0.add 6) fun t36_0 t36_1 t36_2 => loc [b2] w9 fun w12 => R (.returned (.tuple #[.agg #[.i t36_0, .i t36_1, .i t36_2], .i t30])) w12) (∃ t41 : Int, w9.cell? (n0.add 0) = some (.i t41) ∧ 
  sel (t41 == 3) (ld3_2 w9 (n0.add 6) fun t46_0 t46_1 t46_2 => cf0 [b2] n_term_isArray #[.agg #[.i t46_0, .i t46_1, .i t46_2]] w9 fun t47 w13 => sel (!t47) (ld3_2 w13 (n0.add 6) fun t52_0 t52_1 t52_2 => loc [b2] w13 fun w16 => R (.returned (.tuple #[.agg #[.i t52_0, .i t52_1, .i t52_2], .i 9])) w16) (ld3_2 w13 (n0.add 6) fun t56_0 t56_1 t56_2 => loc [b2] w13 fun w19 => R (.returned (.tuple #[.agg #[.i t56_0, .i t56_1, .i t56_2], .i 0])) w19)) (∃ t61 : Int, w9.cell? ((n0.add 6).add 0) = some (.i t61) ∧ 
  sel (t61 != 0) (ld3_2 w9 (n0.add 6) fun t66_0 t66_1 t66_2 => loc [b2] w9 fun w22 => R (.returned (.tuple #[.agg #[.i t66_0, .i t66_1, .i t66_2], .i 9])) w22) (loc [b2] w9 fun w23 => ∃ t71 : Int, w23.cell? ((n0.add 6).add 1) = some (.i t71) ∧ 
  sel (decide (t71 < 64)) (∃ t77 : Int, w23.cell? (n0.add 4) = some (.u t77) ∧ 
  ∃ t82 : Int, w23.cell? ((n0.add 6).add 1) = some (.i t82) ∧ 
  ¬ t82 < 0 ∧ sel ((Int.fdiv t77 (2 ^ (min (Int.toNat t82) (IntKind.bits .u64)))) != 0) (ld3_2 w23 (n0.add 6) fun t89_0 t89_1 t89_2 => loc [b2] w23 fun w26 => R (.returned (.tuple #[.agg #[.i t89_0, .i t89_1, .i t89_2], .i 5])) w26) (S0T n0 b2 0 0 0 w23 R)) (S0T n0 b2 0 0 0 w23 R)))))) : Calls Tryz.prog n_term_sortOfLeaf #[.pointer (some n0)] w R := callsX X [eS0] h
end term_sortOfLeaf
namespace term_sortOfBits
noncomputable abbrev X : Fx := ⟨Tryz.prog, Tryz.f83, [(4,ls [0,1,2,3,4,5,6,7]), (7,ls [1,0,2,3,4,5,6,7,8,9,10,11,12]), (9,ls [1,2,0,3,4,5,6,7,8]), (14,ls [0,1,2,3,4,5,6,7,8,9,10,11,12,13]), (16,ls [0,1,2,3,4,6,12,13,14,15,16,17,5,7,8,9,10,11,18,19,20,21,22]), (18,ls [0,1,2,3,4,5,6,7,8,9,11,13,14,15,16,17,10,12,18,19,20,21,22,23,24,25,26,27,28,29,30,31,32,33,34,35,36,37,38,39,40,41,42]), (21,ls [0,1,2,3,4,5,6,8,10,11,12,13,14,7,9,15,16,17,18,19,20,21,22,23,24,25,26,27,28,29]), (22,ls [0,1,2,3,4,5,6,7,8,9,10,11,12])], [5, 6, 7, 8, 10]⟩
abbrev P0 : Ps := [(5, .l [.I, .I, .I] ty_api_Sort), (8, .l [.I, .I, .I] ty_api_Sort)]
abbrev S0T (x5 : Nat) (x5_0 x5_1 x5_2 : Int) (t8 : Nat) (t8_0 t8_1 t8_2 : Int) (w : World) (R : Post) : Prop :=
  loc [x5, t8] w fun w1 => cf0 [x5, t8] n_term_isBV #[.agg #[.i x5_0, .i x5_1, .i x5_2]] w1 fun t20 w2 => cf19 [x5, t8] n_term_result #[.agg #[.i x5_0, .i x5_1, .i x5_2], .bool t20, .bool true] w2 fun t21_0_0 t21_0_1 t21_0_2 t21_1 w3 => loc [x5, t8] w3 fun w6 => R (.returned (.tuple #[.agg #[.i t21_0_0, .i t21_0_1, .i t21_0_2], .i t21_1])) w6
noncomputable def eS0 := entS X [] (pth [0, 1, 1, 1, 1, 1, 1]) P0 S0T
abbrev P1 : Ps := [(5, .l [.I, .I, .I] ty_api_Sort), (6, .l [.I, .I, .I] ty_api_Sort), (8, .l [.I, .I, .I] ty_api_Sort)]
abbrev S2T (x5 : Nat) (x5_0 x5_1 x5_2 : Int) (y6 : Nat) (y6_0 y6_1 y6_2 : Int) (t8 : Nat) (t8_0 t8_1 t8_2 : Int) (w : World) (R : Post) : Prop :=
  loc [x5, y6, t8] w fun w1 => cf17 [x5, y6, t8] n_term_bv #[.i 1] w1 fun t27_0 t27_1 t27_2 w2 => cf0 [x5, y6, t8] n_term_isBV #[.agg #[.i x5_0, .i x5_1, .i x5_2]] w2 fun t29 w3 => sel t29 (cf19 [x5, y6, t8] n_term_result #[.agg #[.i t27_0, .i t27_1, .i t27_2], .bool ((x5_0 == y6_0) && ((x5_1 == y6_1) && ((x5_2 == y6_2) && true))), .bool true] w3 fun t35_0_0 t35_0_1 t35_0_2 t35_1 w4 => loc [x5, y6, t8] w4 fun w7 => R (.returned (.tuple #[.agg #[.i t35_0_0, .i t35_0_1, .i t35_0_2], .i t35_1])) w7) (cf19 [x5, y6, t8] n_term_result #[.agg #[.i t27_0, .i t27_1, .i t27_2], .bool false, .bool true] w3 fun t35_x1_0_0 t35_x1_0_1 t35_x1_0_2 t35_x1_1 w8 => loc [x5, y6, t8] w8 fun w11 => R (.returned (.tuple #[.agg #[.i t35_x1_0_0, .i t35_x1_0_1, .i t35_x1_0_2], .i t35_x1_1])) w11)
noncomputable def eS2 := entS X [eS0] (pth [0, 1, 3, 1, 1, 1, 1]) P1 S2T
abbrev P2 : Ps := [(5, .l [.I, .I, .I] ty_api_Sort), (6, .l [.I, .I, .I] ty_api_Sort), (7, .l [.I, .I, .I] ty_api_Sort), (8, .l [.I, .I, .I] ty_api_Sort), (10, .l [.I, .I, .I] ty_api_Sort)]
abbrev S4T (x5 : Nat) (x5_0 x5_1 x5_2 : Int) (y6 : Nat) (y6_0 y6_1 y6_2 : Int) (z7 : Nat) (z7_0 z7_1 z7_2 : Int) (t8 : Nat) (t8_0 t8_1 t8_2 : Int) (s10 : Nat) (s10_0 s10_1 s10_2 : Int) (w : World) (R : Post) : Prop :=
  loc [x5, y6, z7, t8, s10] w fun w1 => cf17 [x5, y6, z7, t8, s10] n_term_bv #[.i 1] w1 fun t64_0 t64_1 t64_2 w2 => sel ((x5_0 == t64_0) && ((x5_1 == t64_1) && ((x5_2 == t64_2) && true))) (cf0 [x5, y6, z7, t8, s10] n_term_alike #[.agg #[.i y6_0, .i y6_1, .i y6_2], .agg #[.i z7_0, .i z7_1, .i z7_2]] w2 fun t69 w3 => cf19 [x5, y6, z7, t8, s10] n_term_result #[.agg #[.i s10_0, .i s10_1, .i s10_2], .bool t69, .bool true] w3 fun t71_0_0 t71_0_1 t71_0_2 t71_1 w4 => loc [x5, y6, z7, t8, s10] w4 fun w7 => R (.returned (.tuple #[.agg #[.i t71_0_0, .i t71_0_1, .i t71_0_2], .i t71_1])) w7) (cf19 [x5, y6, z7, t8, s10] n_term_result #[.agg #[.i s10_0, .i s10_1, .i s10_2], .bool false, .bool true] w2 fun t71_x1_0_0 t71_x1_0_1 t71_x1_0_2 t71_x1_1 w8 => loc [x5, y6, z7, t8, s10] w8 fun w11 => R (.returned (.tuple #[.agg #[.i t71_x1_0_0, .i t71_x1_0_1, .i t71_x1_0_2], .i t71_x1_1])) w11)
noncomputable def eS4 := entS X [eS2, eS0] (pth [2, 1, 7, 1, 1, 1, 1]) P2 S4T
abbrev P3 : Ps := [(0, .v [.r]), (5, .l [.I, .I, .I] ty_api_Sort), (8, .l [.I, .I, .I] ty_api_Sort)]
abbrev S5T (n0 : Addr) (x5 : Nat) (x5_0 x5_1 x5_2 : Int) (t8 : Nat) (t8_0 t8_1 t8_2 : Int) (w : World) (R : Post) : Prop :=
  loc [x5, t8] w fun w1 => ∃ t148 : Int, w1.cell? (n0.add 2) = some (.i t148) ∧ 
  ∃ t156 : Int, w1.cell? (n0.add 2) = some (.i t156) ∧ 
  cf17 [x5, t8] n_term_bv #[.i (IntKind.wrap .i64 (x5_1 + t148))] w1 fun t150_0 t150_1 t150_2 w2 => w2.cell? (n0.add 2) = some (.i t156) ∧ cf0 [x5, t8] n_term_isBV #[.agg #[.i x5_0, .i x5_1, .i x5_2]] w2 fun t152 w3 => w3.cell? (n0.add 2) = some (.i t156) ∧ sel (decide (1 ≤ t156)) (∃ t162 : Int, w3.cell? (n0.add 2) = some (.i t162) ∧ 
  cf19 [x5, t8] n_term_result #[.agg #[.i t150_0, .i t150_1, .i t150_2], .bool t152, .bool (decide (t162 ≤ (IntKind.wrap .i64 (64 - x5_1))))] w3 fun t168_0_0 t168_0_1 t168_0_2 t168_1 w4 => loc [x5, t8] w4 fun w7 => R (.returned (.tuple #[.agg #[.i t168_0_0, .i t168_0_1, .i t168_0_2], .i t168_1])) w7) (cf19 [x5, t8] n_term_result #[.agg #[.i t150_0, .i t150_1, .i t150_2], .bool t152, .bool false] w3 fun t168_x1_0_0 t168_x1_0_1 t168_x1_0_2 t168_x1_1 w8 => loc [x5, t8] w8 fun w11 => R (.returned (.tuple #[.agg #[.i t168_x1_0_0, .i t168_x1_0_1, .i t168_x1_0_2], .i t168_x1_1])) w11)
noncomputable def eS5 := entS X [eS4, eS2, eS0] (pth [0, 1, 13, 1, 1, 1, 1]) P3 S5T
abbrev S6T (x5 : Nat) (x5_0 x5_1 x5_2 : Int) (y6 : Nat) (y6_0 y6_1 y6_2 : Int) (t8 : Nat) (t8_0 t8_1 t8_2 : Int) (w : World) (R : Post) : Prop :=
  loc [x5, y6, t8] w fun w1 => cf0 [x5, y6, t8] n_term_isBV #[.agg #[.i x5_0, .i x5_1, .i x5_2]] w1 fun t173 w2 => sel t173 (cf19 [x5, y6, t8] n_term_result #[.agg #[.i x5_0, .i x5_1, .i x5_2], .bool ((x5_0 == y6_0) && ((x5_1 == y6_1) && ((x5_2 == y6_2) && true))), .bool true] w2 fun t179_0_0 t179_0_1 t179_0_2 t179_1 w3 => loc [x5, y6, t8] w3 fun w6 => R (.returned (.tuple #[.agg #[.i t179_0_0, .i t179_0_1, .i t179_0_2], .i t179_1])) w6) (cf19 [x5, y6, t8] n_term_result #[.agg #[.i x5_0, .i x5_1, .i x5_2], .bool false, .bool true] w2 fun t179_x1_0_0 t179_x1_0_1 t179_x1_0_2 t179_x1_1 w7 => loc [x5, y6, t8] w7 fun w10 => R (.returned (.tuple #[.agg #[.i t179_x1_0_0, .i t179_x1_0_1, .i t179_x1_0_2], .i t179_x1_1])) w10)
noncomputable def eS6 := entS X [eS5, eS4, eS2, eS0] (pth [2]) P1 S6T
abbrev P4 : Ps := [(0, .v [.r]), (5, .l [.I, .I, .I] ty_api_Sort), (6, .l [.I, .I, .I] ty_api_Sort), (7, .l [.I, .I, .I] ty_api_Sort), (8, .l [.I, .I, .I] ty_api_Sort), (14, .v [.I])]
abbrev S3T (n0 : Addr) (x5 : Nat) (x5_0 x5_1 x5_2 : Int) (y6 : Nat) (y6_0 y6_1 y6_2 : Int) (z7 : Nat) (z7_0 z7_1 z7_2 : Int) (t8 : Nat) (t8_0 t8_1 t8_2 t14 : Int) (w : World) (R : Post) : Prop :=
  sel (t14 == 18) (loc [x5, y6, z7, t8] w fun w1 => cf17 [x5, y6, z7, t8] n_term_bv #[.i 1] w1 fun t40_0 t40_1 t40_2 w2 => cf0 [x5, y6, z7, t8] n_term_alike #[.agg #[.i x5_0, .i x5_1, .i x5_2], .agg #[.i y6_0, .i y6_1, .i y6_2]] w2 fun t43 w3 => cf19 [x5, y6, z7, t8] n_term_result #[.agg #[.i t40_0, .i t40_1, .i t40_2], .bool t43, .bool true] w3 fun t44_0_0 t44_0_1 t44_0_2 t44_1 w4 => loc [x5, y6, z7, t8] w4 fun w7 => R (.returned (.tuple #[.agg #[.i t44_0_0, .i t44_0_1, .i t44_0_2], .i t44_1])) w7) (sel (t14 == 19) (newV [x5, y6, z7, t8] w fun b10 w8 => 
  loc [x5, y6, z7, t8, b10] w8 fun w11 => cf0 [x5, y6, z7, t8, b10] n_term_isStr #[.agg #[.i y6_0, .i y6_1, .i y6_2]] w11 fun t51 w12 => sel t51 (cf0 [x5, y6, z7, t8, b10] n_term_isStr #[.agg #[.i z7_0, .i z7_1, .i z7_2]] w12 fun t54 w13 => sel t54 (cf17 [x5, y6, z7, t8, b10] n_term_str #[.i (if y6_1 < z7_1 then z7_1 else y6_1)] w13 fun t61_0 t61_1 t61_2 w14 => loc [x5, y6, z7, t8, b10] w14 fun w17 => S4T x5 x5_0 x5_1 x5_2 y6 y6_0 y6_1 y6_2 z7 z7_0 z7_1 z7_2 t8 t8_0 t8_1 t8_2 b10 t61_0 t61_1 t61_2 w17 R) (S4T x5 x5_0 x5_1 x5_2 y6 y6_0 y6_1 y6_2 z7 z7_0 z7_1 z7_2 t8 t8_0 t8_1 t8_2 b10 y6_0 y6_1 y6_2 w13 R)) (S4T x5 x5_0 x5_1 x5_2 y6 y6_0 y6_1 y6_2 z7 z7_0 z7_1 z7_2 t8 t8_0 t8_1 t8_2 b10 y6_0 y6_1 y6_2 w12 R)) (sel (t14 == 20) (loc [x5, y6, z7, t8] w fun w18 => cf17 [x5, y6, z7, t8] n_term_bv #[.i (IntKind.wrap .i64 (x5_1 + y6_1))] w18 fun t81_0 t81_1 t81_2 w19 => cf0 [x5, y6, z7, t8] n_term_isBV #[.agg #[.i x5_0, .i x5_1, .i x5_2]] w19 fun t83 w20 => sel t83 (cf0 [x5, y6, z7, t8] n_term_isBV #[.agg #[.i y6_0, .i y6_1, .i y6_2]] w20 fun t86 w21 => cf19 [x5, y6, z7, t8] n_term_result #[.agg #[.i t81_0, .i t81_1, .i t81_2], .bool t86, .bool (decide ((IntKind.wrap .i64 (x5_1 + y6_1)) ≤ 64))] w21 fun t94_0_0 t94_0_1 t94_0_2 t94_1 w22 => loc [x5, y6, z7, t8] w22 fun w25 => R (.returned (.tuple #[.agg #[.i t94_0_0, .i t94_0_1, .i t94_0_2], .i t94_1])) w25) (cf19 [x5, y6, z7, t8] n_term_result #[.agg #[.i t81_0, .i t81_1, .i t81_2], .bool false, .bool (decide ((IntKind.wrap .i64 (x5_1 + y6_1)) ≤ 64))] w20 fun t94_x1_0_0 t94_x1_0_1 t94_x1_0_2 t94_x1_1 w26 => loc [x5, y6, z7, t8] w26 fun w29 => R (.returned (.tuple #[.agg #[.i t94_x1_0_0, .i t94_x1_0_1, .i t94_x1_0_2], .i t94_x1_1])) w29)) (sel (t14 == 21) (loc [x5, y6, z7, t8] w fun w30 => ∃ t102 : Int, w30.cell? (n0.add 2) = some (.i t102) ∧ 
  ∃ t106 : Int, w30.cell? (n0.add 3) = some (.i t106) ∧ 
  ∃ t115 : Int, w30.cell? (n0.add 3) = some (.i t115) ∧ 
  cf17 [x5, y6, z7, t8] n_term_bv #[.i (IntKind.wrap .i64 ((IntKind.wrap .i64 (t102 - t106)) + 1))] w30 fun t109_0 t109_1 t109_2 w31 => w31.cell? (n0.add 3) = some (.i t115) ∧ cf0 [x5, y6, z7, t8] n_term_isBV #[.agg #[.i x5_0, .i x5_1, .i x5_2]] w31 fun t111 w32 => w32.cell? (n0.add 3) = some (.i t115) ∧ sel (decide (0 ≤ t115)) (∃ t121 : Int, w32.cell? (n0.add 3) = some (.i t121) ∧ 
  ∃ t125 : Int, w32.cell? (n0.add 2) = some (.i t125) ∧ 
  sel (decide (t121 ≤ t125)) (∃ t132 : Int, w32.cell? (n0.add 2) = some (.i t132) ∧ 
  cf19 [x5, y6, z7, t8] n_term_result #[.agg #[.i t109_0, .i t109_1, .i t109_2], .bool t111, .bool (decide (t132 < x5_1))] w32 fun t137_0_0 t137_0_1 t137_0_2 t137_1 w33 => loc [x5, y6, z7, t8] w33 fun w36 => R (.returned (.tuple #[.agg #[.i t137_0_0, .i t137_0_1, .i t137_0_2], .i t137_1])) w36) (cf19 [x5, y6, z7, t8] n_term_result #[.agg #[.i t109_0, .i t109_1, .i t109_2], .bool t111, .bool false] w32 fun t137_x1_0_0 t137_x1_0_1 t137_x1_0_2 t137_x1_1 w37 => loc [x5, y6, z7, t8] w37 fun w40 => R (.returned (.tuple #[.agg #[.i t137_x1_0_0, .i t137_x1_0_1, .i t137_x1_0_2], .i t137_x1_1])) w40)) (cf19 [x5, y6, z7, t8] n_term_result #[.agg #[.i t109_0, .i t109_1, .i t109_2], .bool t111, .bool false] w32 fun t137_x2_0_0 t137_x2_0_1 t137_x2_0_2 t137_x2_1 w41 => loc [x5, y6, z7, t8] w41 fun w44 => R (.returned (.tuple #[.agg #[.i t137_x2_0_0, .i t137_x2_0_1, .i t137_x2_0_2], .i t137_x2_1])) w44)) (sel (t14 == 22) (sel (t14 == 22) (S5T n0 x5 x5_0 x5_1 x5_2 t8 t8_0 t8_1 t8_2 w R) (S6T x5 x5_0 x5_1 x5_2 y6 y6_0 y6_1 y6_2 t8 t8_0 t8_1 t8_2 w R)) (sel (t14 == 23) (S5T n0 x5 x5_0 x5_1 x5_2 t8 t8_0 t8_1 t8_2 w R) (S6T x5 x5_0 x5_1 x5_2 y6 y6_0 y6_1 y6_2 t8 t8_0 t8_1 t8_2 w R))))))
noncomputable def eS3 := entS X [eS6, eS5, eS4, eS2, eS0] (pth [4, 1, 1, 1, 1]) P4 S3T
abbrev S1T (n0 : Addr) (x5 : Nat) (x5_0 x5_1 x5_2 : Int) (y6 : Nat) (y6_0 y6_1 y6_2 : Int) (z7 : Nat) (z7_0 z7_1 z7_2 : Int) (t8 : Nat) (t8_0 t8_1 t8_2 t14 : Int) (w : World) (R : Post) : Prop :=
  sel (t14 == 16) (sel (t14 == 16) (S2T x5 x5_0 x5_1 x5_2 y6 y6_0 y6_1 y6_2 t8 t8_0 t8_1 t8_2 w R) (S3T n0 x5 x5_0 x5_1 x5_2 y6 y6_0 y6_1 y6_2 z7 z7_0 z7_1 z7_2 t8 t8_0 t8_1 t8_2 t14 w R)) (sel (t14 == 17) (S2T x5 x5_0 x5_1 x5_2 y6 y6_0 y6_1 y6_2 t8 t8_0 t8_1 t8_2 w R) (S3T n0 x5 x5_0 x5_1 x5_2 y6 y6_0 y6_1 y6_2 z7 z7_0 z7_1 z7_2 t8 t8_0 t8_1 t8_2 t14 w R))
noncomputable def eS1 := entS X [eS3, eS6, eS5, eS4, eS2, eS0] (pth [2, 1, 1, 1, 1]) P4 S1T
theorem okT (n0 : Addr) (x1_0 x1_1 x1_2 y2_0 y2_1 y2_2 z3_0 z3_1 z3_2 : Int) (w : World) (R : Post) (h : newV [] w fun b5 w1 => 
  newV [b5] w1 fun b6 w2 => 
  newV [b5, b6] w2 fun b7 w3 => 
  newV [b5, b6, b7] w3 fun b8 w4 => 
  ∃ t14 : Int, w4.cell? (n0.add 0) = some (.i t14) ∧ 
  sel (t14 == 4) (sel (t14 == 4) (S0T b5 x1_0 x1_1 x1_2 b8 0 0 0 w4 R) (S1T n0 b5 x1_0 x1_1 x1_2 b6 y2_0 y2_1 y2_2 b7 z3_0 z3_1 z3_2 b8 0 0 0 t14 w4 R)) (sel (t14 == 5) (S0T b5 x1_0 x1_1 x1_2 b8 0 0 0 w4 R) (S1T n0 b5 x1_0 x1_1 x1_2 b6 y2_0 y2_1 y2_2 b7 z3_0 z3_1 z3_2 b8 0 0 0 t14 w4 R))) : Calls Tryz.prog n_term_sortOfBits #[.pointer (some n0), .agg #[.i x1_0, .i x1_1, .i x1_2], .agg #[.i y2_0, .i y2_1, .i y2_2], .agg #[.i z3_0, .i z3_1, .i z3_2]] w R := callsX X [eS1, eS3, eS6, eS5, eS4, eS2, eS0] h
end term_sortOfBits
namespace term_sortOfArrays
noncomputable abbrev X : Fx := ⟨Tryz.prog, Tryz.f84, [(2,ls [0,1,3,2,4,5,6,7,8,9,10,11,12,13,14]), (6,ls [0,1,2,3,4,5,6,7,8,9]), (10,ls [0,1,2,3,4,5,6,7,8,9,10,11,12,13,14,15,16,17]), (11,ls [0,1,2,3,4,5,6,7,8,9,10,11])], [5, 6, 7, 8, 10]⟩
abbrev P0 : Ps := [(0, .v [.r]), (5, .l [.I, .I, .I] ty_api_Sort), (7, .l [.I, .I, .I] ty_api_Sort), (8, .l [.I, .I, .I] ty_api_Sort), (10, .l [.I, .I, .I] ty_api_Sort), (11, .v [.b])]
abbrev S1T (n0 : Addr) (x5 : Nat) (x5_0 x5_1 x5_2 : Int) (z7 : Nat) (z7_0 z7_1 z7_2 : Int) (t8 : Nat) (t8_0 t8_1 t8_2 : Int) (element10 : Nat) (element10_0 element10_1 element10_2 : Int) (fits11 : Bool) (w : World) (R : Post) : Prop :=
  ∃ t51 : Int, w.cell? (n0.add 0) = some (.i t51) ∧ 
  sel (t51 == 24) (cf19 [x5, z7, t8, element10] n_term_result #[.agg #[.i element10_0, .i element10_1, .i element10_2], .bool fits11, .bool true] w fun t55_0_0 t55_0_1 t55_0_2 t55_1 w1 => loc [x5, z7, t8, element10] w1 fun w4 => R (.returned (.tuple #[.agg #[.i t55_0_0, .i t55_0_1, .i t55_0_2], .i t55_1])) w4) (sel (x5_0 == 3) (sel fits11 (loc [x5, z7, t8, element10] w fun w5 => cf0 [x5, z7, t8, element10] n_term_isStr #[.agg #[.i z7_0, .i z7_1, .i z7_2]] w5 fun t65 w6 => sel t65 (cf19 [x5, z7, t8, element10] n_term_result #[.agg #[.i x5_0, .i x5_1, .i x5_2], .bool (decide (z7_1 ≤ x5_1)), .bool true] w6 fun t74_0_0 t74_0_1 t74_0_2 t74_1 w7 => loc [x5, z7, t8, element10] w7 fun w10 => R (.returned (.tuple #[.agg #[.i t74_0_0, .i t74_0_1, .i t74_0_2], .i t74_1])) w10) (cf19 [x5, z7, t8, element10] n_term_result #[.agg #[.i x5_0, .i x5_1, .i x5_2], .bool false, .bool true] w6 fun t74_x1_0_0 t74_x1_0_1 t74_x1_0_2 t74_x1_1 w11 => loc [x5, z7, t8, element10] w11 fun w14 => R (.returned (.tuple #[.agg #[.i t74_x1_0_0, .i t74_x1_0_1, .i t74_x1_0_2], .i t74_x1_1])) w14)) (loc [x5, z7, t8, element10] w fun w5 => cf19 [x5, z7, t8, element10] n_term_result #[.agg #[.i x5_0, .i x5_1, .i x5_2], .bool false, .bool true] w5 fun t74_x2_0_0 t74_x2_0_1 t74_x2_0_2 t74_x2_1 w15 => loc [x5, z7, t8, element10] w15 fun w18 => R (.returned (.tuple #[.agg #[.i t74_x2_0_0, .i t74_x2_0_1, .i t74_x2_0_2], .i t74_x2_1])) w18)) (sel fits11 (loc [x5, z7, t8, element10] w fun w19 => cf19 [x5, z7, t8, element10] n_term_result #[.agg #[.i x5_0, .i x5_1, .i x5_2], .bool ((z7_0 == element10_0) && ((z7_1 == element10_1) && ((z7_2 == element10_2) && true))), .bool true] w19 fun t84_0_0 t84_0_1 t84_0_2 t84_1 w20 => loc [x5, z7, t8, element10] w20 fun w23 => R (.returned (.tuple #[.agg #[.i t84_0_0, .i t84_0_1, .i t84_0_2], .i t84_1])) w23) (loc [x5, z7, t8, element10] w fun w19 => cf19 [x5, z7, t8, element10] n_term_result #[.agg #[.i x5_0, .i x5_1, .i x5_2], .bool false, .bool true] w19 fun t84_x1_0_0 t84_x1_0_1 t84_x1_0_2 t84_x1_1 w24 => loc [x5, z7, t8, element10] w24 fun w27 => R (.returned (.tuple #[.agg #[.i t84_x1_0_0, .i t84_x1_0_1, .i t84_x1_0_2], .i t84_x1_1])) w27)))
noncomputable def eS1 := entS X [] (pth [5]) P0 S1T
abbrev P1 : Ps := [(0, .v [.r]), (5, .l [.I, .I, .I] ty_api_Sort), (6, .l [.I, .I, .I] ty_api_Sort), (7, .l [.I, .I, .I] ty_api_Sort), (8, .l [.I, .I, .I] ty_api_Sort), (10, .l [.I, .I, .I] ty_api_Sort)]
abbrev S0T (n0 : Addr) (x5 : Nat) (x5_0 x5_1 x5_2 : Int) (y6 : Nat) (y6_0 y6_1 y6_2 : Int) (z7 : Nat) (z7_0 z7_1 z7_2 : Int) (t8 : Nat) (t8_0 t8_1 t8_2 : Int) (element10 : Nat) (element10_0 element10_1 element10_2 : Int) (w : World) (R : Post) : Prop :=
  loc [x5, y6, z7, t8, element10] w fun w1 => cf0 [x5, y6, z7, t8, element10] n_term_isArray #[.agg #[.i x5_0, .i x5_1, .i x5_2]] w1 fun t40 w2 => sel t40 (cf17 [x5, y6, z7, t8, element10] n_term_bv #[.i x5_2] w2 fun t45_0 t45_1 t45_2 w3 => S1T n0 x5 x5_0 x5_1 x5_2 z7 z7_0 z7_1 z7_2 t8 t8_0 t8_1 t8_2 element10 element10_0 element10_1 element10_2 ((y6_0 == t45_0) && ((y6_1 == t45_1) && ((y6_2 == t45_2) && true))) w3 R) (S1T n0 x5 x5_0 x5_1 x5_2 z7 z7_0 z7_1 z7_2 t8 t8_0 t8_1 t8_2 element10 element10_0 element10_1 element10_2 false w2 R)
noncomputable def eS0 := entS X [eS1] (pth [4]) P1 S0T
theorem okT (n0 : Addr) (x1_0 x1_1 x1_2 y2_0 y2_1 y2_2 z3_0 z3_1 z3_2 : Int) (w : World) (R : Post) (h : newV [] w fun b5 w1 => 
  newV [b5] w1 fun b6 w2 => 
  newV [b5, b6] w2 fun b7 w3 => 
  newV [b5, b6, b7] w3 fun b8 w4 => 
  ∃ t15 : Int, w4.cell? (n0.add 0) = some (.i t15) ∧ 
  sel (t15 == 26) (loc [b5, b6, b7, b8] w4 fun w5 => cf17 [b5, b6, b7, b8] n_term_bv #[.i x1_2] w5 fun t19_0 t19_1 t19_2 w6 => cf0 [b5, b6, b7, b8] n_term_isArray #[.agg #[.i x1_0, .i x1_1, .i x1_2]] w6 fun t21 w7 => sel t21 (cf19 [b5, b6, b7, b8] n_term_result #[.agg #[.i t19_0, .i t19_1, .i t19_2], .bool ((x1_0 == y2_0) && ((x1_1 == y2_1) && ((x1_2 == y2_2) && true))), .bool true] w7 fun t27_0_0 t27_0_1 t27_0_2 t27_1 w8 => loc [b5, b6, b7, b8] w8 fun w11 => R (.returned (.tuple #[.agg #[.i t27_0_0, .i t27_0_1, .i t27_0_2], .i t27_1])) w11) (cf19 [b5, b6, b7, b8] n_term_result #[.agg #[.i t19_0, .i t19_1, .i t19_2], .bool false, .bool true] w7 fun t27_x1_0_0 t27_x1_0_1 t27_x1_0_2 t27_x1_1 w12 => loc [b5, b6, b7, b8] w12 fun w15 => R (.returned (.tuple #[.agg #[.i t27_x1_0_0, .i t27_x1_0_1, .i t27_x1_0_2], .i t27_x1_1])) w15)) (cf17 [b5, b6, b7, b8] n_term_bv #[.i x1_1] w4 fun t32_0 t32_1 t32_2 w16 => newV [b5, b6, b7, b8] w16 fun b10 w17 => 
  sel (x1_0 == 3) (loc [b5, b6, b7, b8, b10] w17 fun w20 => cf17 [b5, b6, b7, b8, b10] n_term_str #[.i x1_1] w20 fun t38_0 t38_1 t38_2 w21 => loc [b5, b6, b7, b8, b10] w21 fun w24 => S0T n0 b5 x1_0 x1_1 x1_2 b6 y2_0 y2_1 y2_2 b7 z3_0 z3_1 z3_2 b8 0 0 0 b10 t38_0 t38_1 t38_2 w24 R) (loc [b5, b6, b7, b8, b10] w17 fun w20 => S0T n0 b5 x1_0 x1_1 x1_2 b6 y2_0 y2_1 y2_2 b7 z3_0 z3_1 z3_2 b8 0 0 0 b10 t32_0 t32_1 t32_2 w20 R))) : Calls Tryz.prog n_term_sortOfArrays #[.pointer (some n0), .agg #[.i x1_0, .i x1_1, .i x1_2], .agg #[.i y2_0, .i y2_1, .i y2_2], .agg #[.i z3_0, .i z3_1, .i z3_2]] w R := callsX X [eS0, eS1] h
end term_sortOfArrays
namespace term_sortOfStrings
noncomputable abbrev X : Fx := ⟨Tryz.prog, Tryz.f85, [(3,ls [1,0,2,3,4,5,6,7]), (5,ls [1,3,4,5,6,7,0,2,8,9,10,11,12,13,14,15,16,17,18,19]), (7,ls [0,1,2,3,4,6,12,13,14,15,16,17,5,7,8,9,10,11,18,19,20,21,22]), (9,ls [0,1,2,3,4,5,6,7,8,9,10,11,12,13,14,15,16,17]), (11,ls [1,0,2,3,4,5,6,7,8,9,10,11]), (13,ls [0,1,2,3,4,6,16,17,18,19,20,21,5,7,8,9,10,11,12,13,14,15,22,23,24,25,26]), (15,ls [1,0,2,3,4,5,6,7,8])], [5, 6, 7, 8]⟩
theorem okT (n0 : Addr) (x1_0 x1_1 x1_2 y2_0 y2_1 y2_2 z3_0 z3_1 z3_2 : Int) (w : World) (R : Post) (h : newV [] w fun b5 w1 => 
  newV [b5] w1 fun b6 w2 => 
  newV [b5, b6] w2 fun b7 w3 => 
  newV [b5, b6, b7] w3 fun b8 w4 => 
  ∃ t13 : Int, w4.cell? (n0.add 0) = some (.i t13) ∧ 
  sel (t13 == 27) (loc [b5, b6, b7, b8] w4 fun w5 => cf17 [b5, b6, b7, b8] n_term_bv #[.i 7] w5 fun t16_0 t16_1 t16_2 w6 => cf0 [b5, b6, b7, b8] n_term_isStr #[.agg #[.i x1_0, .i x1_1, .i x1_2]] w6 fun t18 w7 => cf19 [b5, b6, b7, b8] n_term_result #[.agg #[.i t16_0, .i t16_1, .i t16_2], .bool t18, .bool true] w7 fun t19_0_0 t19_0_1 t19_0_2 t19_1 w8 => loc [b5, b6, b7, b8] w8 fun w11 => R (.returned (.tuple #[.agg #[.i t19_0_0, .i t19_0_1, .i t19_0_2], .i t19_1])) w11) (sel (t13 == 28) (loc [b5, b6, b7, b8] w4 fun w12 => ∃ t30 : Int, w12.cell? (n0.add 2) = some (.i t30) ∧ 
  cf17 [b5, b6, b7, b8] n_term_bv #[.i 8] w12 fun t24_0 t24_1 t24_2 w13 => w13.cell? (n0.add 2) = some (.i t30) ∧ cf0 [b5, b6, b7, b8] n_term_isStr #[.agg #[.i x1_0, .i x1_1, .i x1_2]] w13 fun t26 w14 => w14.cell? (n0.add 2) = some (.i t30) ∧ sel (decide (0 ≤ t30)) (∃ t36 : Int, w14.cell? (n0.add 2) = some (.i t36) ∧ 
  cf19 [b5, b6, b7, b8] n_term_result #[.agg #[.i t24_0, .i t24_1, .i t24_2], .bool t26, .bool (decide (t36 < 64))] w14 fun t39_0_0 t39_0_1 t39_0_2 t39_1 w15 => loc [b5, b6, b7, b8] w15 fun w18 => R (.returned (.tuple #[.agg #[.i t39_0_0, .i t39_0_1, .i t39_0_2], .i t39_1])) w18) (cf19 [b5, b6, b7, b8] n_term_result #[.agg #[.i t24_0, .i t24_1, .i t24_2], .bool t26, .bool false] w14 fun t39_x1_0_0 t39_x1_0_1 t39_x1_0_2 t39_x1_1 w19 => loc [b5, b6, b7, b8] w19 fun w22 => R (.returned (.tuple #[.agg #[.i t39_x1_0_0, .i t39_x1_0_1, .i t39_x1_0_2], .i t39_x1_1])) w22)) (sel (t13 == 29) (loc [b5, b6, b7, b8] w4 fun w23 => cf17 [b5, b6, b7, b8] n_term_str #[.i (IntKind.wrap .i64 (x1_1 + y2_1))] w23 fun t49_0 t49_1 t49_2 w24 => cf0 [b5, b6, b7, b8] n_term_isStr #[.agg #[.i x1_0, .i x1_1, .i x1_2]] w24 fun t51 w25 => sel t51 (cf0 [b5, b6, b7, b8] n_term_isStr #[.agg #[.i y2_0, .i y2_1, .i y2_2]] w25 fun t54 w26 => cf19 [b5, b6, b7, b8] n_term_result #[.agg #[.i t49_0, .i t49_1, .i t49_2], .bool t54, .bool (decide ((IntKind.wrap .i64 (x1_1 + y2_1)) ≤ 64))] w26 fun t62_0_0 t62_0_1 t62_0_2 t62_1 w27 => loc [b5, b6, b7, b8] w27 fun w30 => R (.returned (.tuple #[.agg #[.i t62_0_0, .i t62_0_1, .i t62_0_2], .i t62_1])) w30) (cf19 [b5, b6, b7, b8] n_term_result #[.agg #[.i t49_0, .i t49_1, .i t49_2], .bool false, .bool (decide ((IntKind.wrap .i64 (x1_1 + y2_1)) ≤ 64))] w25 fun t62_x1_0_0 t62_x1_0_1 t62_x1_0_2 t62_x1_1 w31 => loc [b5, b6, b7, b8] w31 fun w34 => R (.returned (.tuple #[.agg #[.i t62_x1_0_0, .i t62_x1_0_1, .i t62_x1_0_2], .i t62_x1_1])) w34)) (sel (t13 == 30) (loc [b5, b6, b7, b8] w4 fun w35 => cf0 [b5, b6, b7, b8] n_term_isStr #[.agg #[.i x1_0, .i x1_1, .i x1_2]] w35 fun t69 w36 => sel t69 (cf17 [b5, b6, b7, b8] n_term_bv #[.i 7] w36 fun t72_0 t72_1 t72_2 w37 => sel ((y2_0 == t72_0) && ((y2_1 == t72_1) && ((y2_2 == t72_2) && true))) (cf17 [b5, b6, b7, b8] n_term_bv #[.i 7] w37 fun t77_0 t77_1 t77_2 w38 => cf19 [b5, b6, b7, b8] n_term_result #[.agg #[.i x1_0, .i x1_1, .i x1_2], .bool ((z3_0 == t77_0) && ((z3_1 == t77_1) && ((z3_2 == t77_2) && true))), .bool true] w38 fun t80_0_0 t80_0_1 t80_0_2 t80_1 w39 => loc [b5, b6, b7, b8] w39 fun w42 => R (.returned (.tuple #[.agg #[.i t80_0_0, .i t80_0_1, .i t80_0_2], .i t80_1])) w42) (cf19 [b5, b6, b7, b8] n_term_result #[.agg #[.i x1_0, .i x1_1, .i x1_2], .bool false, .bool true] w37 fun t80_x1_0_0 t80_x1_0_1 t80_x1_0_2 t80_x1_1 w43 => loc [b5, b6, b7, b8] w43 fun w46 => R (.returned (.tuple #[.agg #[.i t80_x1_0_0, .i t80_x1_0_1, .i t80_x1_0_2], .i t80_x1_1])) w46)) (cf19 [b5, b6, b7, b8] n_term_result #[.agg #[.i x1_0, .i x1_1, .i x1_2], .bool false, .bool true] w36 fun t80_x2_0_0 t80_x2_0_1 t80_x2_0_2 t80_x2_1 w47 => loc [b5, b6, b7, b8] w47 fun w50 => R (.returned (.tuple #[.agg #[.i t80_x2_0_0, .i t80_x2_0_1, .i t80_x2_0_2], .i t80_x2_1])) w50)) (sel (t13 == 31) (loc [b5, b6, b7, b8] w4 fun w51 => cf17 [b5, b6, b7, b8] n_term_bv #[.i 7] w51 fun t85_0 t85_1 t85_2 w52 => cf0 [b5, b6, b7, b8] n_term_isStr #[.agg #[.i x1_0, .i x1_1, .i x1_2]] w52 fun t87 w53 => sel t87 (cf0 [b5, b6, b7, b8] n_term_isStr #[.agg #[.i y2_0, .i y2_1, .i y2_2]] w53 fun t90 w54 => cf19 [b5, b6, b7, b8] n_term_result #[.agg #[.i t85_0, .i t85_1, .i t85_2], .bool t90, .bool true] w54 fun t92_0_0 t92_0_1 t92_0_2 t92_1 w55 => loc [b5, b6, b7, b8] w55 fun w58 => R (.returned (.tuple #[.agg #[.i t92_0_0, .i t92_0_1, .i t92_0_2], .i t92_1])) w58) (cf19 [b5, b6, b7, b8] n_term_result #[.agg #[.i t85_0, .i t85_1, .i t85_2], .bool false, .bool true] w53 fun t92_x1_0_0 t92_x1_0_1 t92_x1_0_2 t92_x1_1 w59 => loc [b5, b6, b7, b8] w59 fun w62 => R (.returned (.tuple #[.agg #[.i t92_x1_0_0, .i t92_x1_0_1, .i t92_x1_0_2], .i t92_x1_1])) w62)) (sel (t13 == 32) (loc [b5, b6, b7, b8] w4 fun w63 => cf17 [b5, b6, b7, b8] n_term_str #[.i (IntKind.wrap .i64 (x1_1 + z3_1))] w63 fun t102_0 t102_1 t102_2 w64 => cf0 [b5, b6, b7, b8] n_term_isStr #[.agg #[.i x1_0, .i x1_1, .i x1_2]] w64 fun t104 w65 => sel t104 (cf0 [b5, b6, b7, b8] n_term_isStr #[.agg #[.i y2_0, .i y2_1, .i y2_2]] w65 fun t107 w66 => sel t107 (cf0 [b5, b6, b7, b8] n_term_isStr #[.agg #[.i z3_0, .i z3_1, .i z3_2]] w66 fun t111 w67 => cf19 [b5, b6, b7, b8] n_term_result #[.agg #[.i t102_0, .i t102_1, .i t102_2], .bool t111, .bool (decide ((IntKind.wrap .i64 (x1_1 + z3_1)) ≤ 64))] w67 fun t119_0_0 t119_0_1 t119_0_2 t119_1 w68 => loc [b5, b6, b7, b8] w68 fun w71 => R (.returned (.tuple #[.agg #[.i t119_0_0, .i t119_0_1, .i t119_0_2], .i t119_1])) w71) (cf19 [b5, b6, b7, b8] n_term_result #[.agg #[.i t102_0, .i t102_1, .i t102_2], .bool false, .bool (decide ((IntKind.wrap .i64 (x1_1 + z3_1)) ≤ 64))] w66 fun t119_x1_0_0 t119_x1_0_1 t119_x1_0_2 t119_x1_1 w72 => loc [b5, b6, b7, b8] w72 fun w75 => R (.returned (.tuple #[.agg #[.i t119_x1_0_0, .i t119_x1_0_1, .i t119_x1_0_2], .i t119_x1_1])) w75)) (cf19 [b5, b6, b7, b8] n_term_result #[.agg #[.i t102_0, .i t102_1, .i t102_2], .bool false, .bool (decide ((IntKind.wrap .i64 (x1_1 + z3_1)) ≤ 64))] w65 fun t119_x2_0_0 t119_x2_0_1 t119_x2_0_2 t119_x2_1 w76 => loc [b5, b6, b7, b8] w76 fun w79 => R (.returned (.tuple #[.agg #[.i t119_x2_0_0, .i t119_x2_0_1, .i t119_x2_0_2], .i t119_x2_1])) w79)) (sel (t13 == 34) (loc [b5, b6, b7, b8] w4 fun w80 => cf17 [b5, b6, b7, b8] n_term_str #[.i 1] w80 fun t124_0 t124_1 t124_2 w81 => cf17 [b5, b6, b7, b8] n_term_bv #[.i 8] w81 fun t126_0 t126_1 t126_2 w82 => cf19 [b5, b6, b7, b8] n_term_result #[.agg #[.i t124_0, .i t124_1, .i t124_2], .bool ((x1_0 == t126_0) && ((x1_1 == t126_1) && ((x1_2 == t126_2) && true))), .bool true] w82 fun t128_0_0 t128_0_1 t128_0_2 t128_1 w83 => loc [b5, b6, b7, b8] w83 fun w86 => R (.returned (.tuple #[.agg #[.i t128_0_0, .i t128_0_1, .i t128_0_2], .i t128_1])) w86) (cf0 [b5, b6, b7, b8] n_term_isStr #[.agg #[.i x1_0, .i x1_1, .i x1_2]] w4 fun t132 w87 => sel (!t132) (loc [b5, b6, b7, b8] w87 fun w90 => R (.returned (.tuple #[.agg #[.i x1_0, .i x1_1, .i x1_2], .i 9])) w90) (∃ t138 : ByteArray, w87.cell? (n0.add 5) = some (.string t138) ∧ 
  cf0 [b5, b6, b7, b8] n_term_isNormal #[.string t138] w87 fun t139 w91 => sel (!t139) (loc [b5, b6, b7, b8] w91 fun w94 => R (.returned (.tuple #[.agg #[.i x1_0, .i x1_1, .i x1_2], .i 2])) w94) (cf17 [b5, b6, b7, b8] n_term_bv #[.i 1] w91 fun t142_0 t142_1 t142_2 w95 => loc [b5, b6, b7, b8] w95 fun w98 => R (.returned (.tuple #[.agg #[.i t142_0, .i t142_1, .i t142_2], .i 0])) w98)))))))))) : Calls Tryz.prog n_term_sortOfStrings #[.pointer (some n0), .agg #[.i x1_0, .i x1_1, .i x1_2], .agg #[.i y2_0, .i y2_1, .i y2_2], .agg #[.i z3_0, .i z3_1, .i z3_2]] w R := callsX X [] h
end term_sortOfStrings
namespace term_sortOf
noncomputable abbrev X : Fx := ⟨Tryz.prog, Tryz.f42, [(1,ls [0,1,2,3,4,5,6,7,8,9,10,11,12,13,14,15,16,17])], [6, 11]⟩
abbrev P0 : Ps := [(6, .l [.I, .I, .I] ty_api_Sort)]
abbrev S0T (t6 : Nat) (t6_0 t6_1 t6_2 : Int) (w : World) (R : Post) : Prop :=
  loc [t6] w fun w3 => R (.returned (.tuple #[.agg #[.i 0, .i 0, .i 0], .i 1])) w3
noncomputable def eS0 := entS X [] (pth [0, 1, 1, 1, 1]) P0 S0T
abbrev P1 : Ps := [(0, .v [.s]), (2, .v [.f]), (4, .v [.r]), (6, .l [.I, .I, .I] ty_api_Sort), (8, .v [.r]), (34, .v [.I]), (35, .v [.I])]
def L1T (nodes0 : Sl) (lookup2 : Fv) (n4 : Addr) (t6 : Nat) (t6_0 t6_1 t6_2 : Int) (kids8 : Addr) (t34 t35 : Int) (w : World) (R : Post) : Prop := mkCur P1 0 (X.Sem (pth [0, 1, 1, 1, 3])) nodes0 lookup2 n4 t6 t6_0 t6_1 t6_2 kids8 t34 t35 w R
noncomputable def eL1 := entL X (pth [0, 1, 1, 1, 3]) P1 L1T
abbrev S2T (t6 : Nat) (t6_0 t6_1 t6_2 : Int) (w : World) (R : Post) : Prop :=
  loc [t6] w fun w3 => R (.returned (.tuple #[.agg #[.i 0, .i 0, .i 0], .i 1])) w3
noncomputable def eS2 := entS X [eL1, eS0] (pth [0, 1, 1, 1, 2, 2, 2, 2, 1, 1, 3]) P0 S2T
abbrev P2 : Ps := [(6, .l [.I, .I, .I] ty_api_Sort), (11, .l [.I, .I, .I] ty_api_Sort), (12, .v [.I])]
abbrev S3T (t6 : Nat) (t6_0 t6_1 t6_2 : Int) (s11 : Nat) (s11_0 s11_1 s11_2 e12 : Int) (w : World) (R : Post) : Prop :=
  sel (e12 != 0) (loc [t6, s11] w fun w3 => R (.returned (.tuple #[.agg #[.i 0, .i 0, .i 0], .i e12])) w3) (loc [t6, s11] w fun w6 => R (.returned (.tuple #[.agg #[.i s11_0, .i s11_1, .i s11_2], .i 0])) w6)
noncomputable def eS3 := entS X [eS2, eL1, eS0] (pth [8]) P2 S3T
theorem L1T_step : ∀ (nodes0 : Sl) (lookup2 : Fv) (n4 : Addr) (t6 : Nat) (t6_0 t6_1 t6_2 : Int) (kids8 : Addr) (t34 t35 : Int) (w : World) (R : Post) (h : sel (decide (t35 < t34)) (∃ t39 : Sl, w.cell? (n4.add 1) = some (t39.v) ∧ 
  (0 : Int) ≤ t35 ∧ t35 < ((t39.n : Nat) : Int) ∧ optP t39.a fun t41_p => ∃ t42 : Int, w.cell? (t41_p.add (Int.toNat t35 * 1)) = some (.i t42) ∧ 
  sel (decide (t42 < 0)) (S2T t6 t6_0 t6_1 t6_2 w R) (sel (decide (t42 ≥ ((nodes0.n : Nat) : Int))) (S2T t6 t6_0 t6_1 t6_2 w R) ((0 : Int) ≤ t42 ∧ t42 < ((nodes0.n : Nat) : Int) ∧ optP nodes0.a fun t55_p => ld3_2 w ((t55_p.add (Int.toNat t42 * 9)).add 6) fun t57_0 t57_1 t57_2 => (0 : Int) ≤ t35 ∧ t35 < ((3 : Nat) : Int) ∧ stV w (kids8.add (Int.toNat t35 * 3)) (.i t57_0) fun w5 => kept [t6] w w5 ∧ 
  stV w5 ((kids8.add (Int.toNat t35 * 3)).add 1) (.i t57_1) fun w6 => kept [t6] w5 w6 ∧ 
  stV w6 ((kids8.add (Int.toNat t35 * 3)).add 2) (.i t57_2) fun w7 => kept [t6] w6 w7 ∧ 
  L1T nodes0 lookup2 n4 t6 t6_0 t6_1 t6_2 kids8 t34 (IntKind.wrap .i64 (t35 + 1)) w7 R))) (cf0 [t6] n_term_fieldsFit #[.pointer (some n4)] w fun t60 w8 => sel (!t60) (loc [t6] w8 fun w11 => R (.returned (.tuple #[.agg #[.i 0, .i 0, .i 0], .i 1])) w11) (newV [t6] w8 fun b11 w12 => 
  ∃ t75 : Int, w12.cell? (n4.add 0) = some (.i t75) ∧ 
  sel (t75 == 0) (cf19 [t6, b11] n_term_sortOfVar #[.pointer (some n4), lookup2.v] w12 fun t79_0_0 t79_0_1 t79_0_2 t79_1 w13 => loc [t6, b11] w13 fun w16 => S3T t6 t6_0 t6_1 t6_2 b11 t79_0_0 t79_0_1 t79_0_2 t79_1 w16 R) (∃ t84 : Int, w12.cell? (n4.add 0) = some (.i t84) ∧ 
  sel (decide (t84 ≤ 3)) (cf19 [t6, b11] n_term_sortOfLeaf #[.pointer (some n4)] w12 fun t87_0_0 t87_0_1 t87_0_2 t87_1 w17 => loc [t6, b11] w17 fun w20 => S3T t6 t6_0 t6_1 t6_2 b11 t87_0_0 t87_0_1 t87_0_2 t87_1 w20 R) (∃ t92 : Int, w12.cell? (n4.add 0) = some (.i t92) ∧ 
  sel (decide (t92 ≤ 23)) ((0 : Int) ≤ 0 ∧ 0 < ((3 : Nat) : Int) ∧ ld3_2 w12 (kids8.add (Int.toNat 0 * 3)) fun t96_0 t96_1 t96_2 => (0 : Int) ≤ 1 ∧ 1 < ((3 : Nat) : Int) ∧ ld3_2 w12 (kids8.add (Int.toNat 1 * 3)) fun t98_0 t98_1 t98_2 => (0 : Int) ≤ 2 ∧ 2 < ((3 : Nat) : Int) ∧ ld3_2 w12 (kids8.add (Int.toNat 2 * 3)) fun t100_0 t100_1 t100_2 => cf19 [t6, b11] n_term_sortOfBits #[.pointer (some n4), .agg #[.i t96_0, .i t96_1, .i t96_2], .agg #[.i t98_0, .i t98_1, .i t98_2], .agg #[.i t100_0, .i t100_1, .i t100_2]] w12 fun t101_0_0 t101_0_1 t101_0_2 t101_1 w21 => loc [t6, b11] w21 fun w24 => S3T t6 t6_0 t6_1 t6_2 b11 t101_0_0 t101_0_1 t101_0_2 t101_1 w24 R) (∃ t106 : Int, w12.cell? (n4.add 0) = some (.i t106) ∧ 
  sel (decide (t106 ≤ 26)) ((0 : Int) ≤ 0 ∧ 0 < ((3 : Nat) : Int) ∧ ld3_2 w12 (kids8.add (Int.toNat 0 * 3)) fun t110_0 t110_1 t110_2 => (0 : Int) ≤ 1 ∧ 1 < ((3 : Nat) : Int) ∧ ld3_2 w12 (kids8.add (Int.toNat 1 * 3)) fun t112_0 t112_1 t112_2 => (0 : Int) ≤ 2 ∧ 2 < ((3 : Nat) : Int) ∧ ld3_2 w12 (kids8.add (Int.toNat 2 * 3)) fun t114_0 t114_1 t114_2 => cf19 [t6, b11] n_term_sortOfArrays #[.pointer (some n4), .agg #[.i t110_0, .i t110_1, .i t110_2], .agg #[.i t112_0, .i t112_1, .i t112_2], .agg #[.i t114_0, .i t114_1, .i t114_2]] w12 fun t115_0_0 t115_0_1 t115_0_2 t115_1 w25 => loc [t6, b11] w25 fun w28 => S3T t6 t6_0 t6_1 t6_2 b11 t115_0_0 t115_0_1 t115_0_2 t115_1 w28 R) ((0 : Int) ≤ 0 ∧ 0 < ((3 : Nat) : Int) ∧ ld3_2 w12 (kids8.add (Int.toNat 0 * 3)) fun t65_0 t65_1 t65_2 => (0 : Int) ≤ 1 ∧ 1 < ((3 : Nat) : Int) ∧ ld3_2 w12 (kids8.add (Int.toNat 1 * 3)) fun t67_0 t67_1 t67_2 => (0 : Int) ≤ 2 ∧ 2 < ((3 : Nat) : Int) ∧ ld3_2 w12 (kids8.add (Int.toNat 2 * 3)) fun t69_0 t69_1 t69_2 => cf19 [t6, b11] n_term_sortOfStrings #[.pointer (some n4), .agg #[.i t65_0, .i t65_1, .i t65_2], .agg #[.i t67_0, .i t67_1, .i t67_2], .agg #[.i t69_0, .i t69_1, .i t69_2]] w12 fun t70_0_0 t70_0_1 t70_0_2 t70_1 w29 => loc [t6, b11] w29 fun w32 => S3T t6 t6_0 t6_1 t6_2 b11 t70_0_0 t70_0_1 t70_0_2 t70_1 w32 R))))))), L1T nodes0 lookup2 n4 t6 t6_0 t6_1 t6_2 kids8 t34 t35 w R := mp (stepL (X := X) [eS3, eS2, eL1, eS0] (pth [0, 1, 1, 1, 3]) P1)
theorem okT (nodes0 : Sl) (n1_0 : Int) (n1_1 : Sl) (n1_2 n1_3 n1_4 : Int) (n1_5 : ByteArray) (n1_6 n1_7 n1_8 : Int) (lookup2 : Fv) (w : World) (R : Post) (h : nwV w (.cells #[.i n1_0, n1_1.v, .i n1_2, .i n1_3, .u n1_4, .string n1_5, .i n1_6, .i n1_7, .i n1_8] ty_api_Node) fun w1 => 
  newV [] w1 fun b6 w2 => 
  loc [b6] w2 fun w3 => ∃ t14 : Int, w3.cell? ((nb w).add 0) = some (.i t14) ∧ 
  sel (decide (t14 < 0)) (S0T b6 0 0 0 w3 R) (∃ t18 : Int, w3.cell? ((nb w).add 0) = some (.i t18) ∧ 
  sel (decide (t18 ≥ 35)) (S0T b6 0 0 0 w3 R) (∃ t23 : Sl, w3.cell? ((nb w).add 1) = some (t23.v) ∧ 
  ∃ t26 : Int, w3.cell? ((nb w).add 0) = some (.i t26) ∧ 
  (0 : Int) ≤ t26 ∧ t26 < ((35 : Nat) : Int) ∧ ∃ t28 : Int, w3.cell? ((Addr.mk 0 0 none).add (Int.toNat t26 * 1)) = some (.i t28) ∧ 
  sel (((t23.n : Nat) : Int) != t28) (S0T b6 0 0 0 w3 R) (nwV w3 (.cells #[.i 0, .i 0, .i 0, .i 0, .i 0, .i 0, .i 0, .i 0, .i 0] ty_3_api_Sort) fun w4 => 
  ∃ t33 : Sl, w4.cell? ((nb w).add 1) = some (t33.v) ∧ 
  L1T nodes0 lookup2 (nb w) b6 0 0 0 (nb w3) ((t33.n : Nat) : Int) 0 w4 R)))) : Calls Tryz.prog n_term_sortOf #[nodes0.v, .agg #[.i n1_0, n1_1.v, .i n1_2, .i n1_3, .u n1_4, .string n1_5, .i n1_6, .i n1_7, .i n1_8], lookup2.v] w R := callsX X [eS3, eS2, eL1, eS0] h
end term_sortOf
namespace term_SortOf_1
noncomputable abbrev X : Fx := ⟨Tryz.prog, Tryz.f43, [], [3]⟩
abbrev P0 : Ps := [(0, .v [.st]), (1, .v [.r]), (3, .l [.I, .I, .I] ty_api_Sort), (8, .v [.I]), (9, .v [.I])]
def L0T (name0 : ByteArray) (t1 : Addr) (t3 : Nat) (t3_0 t3_1 t3_2 t8 t9 : Int) (w : World) (R : Post) : Prop := mkCur P0 0 (X.Sem (pth [0, 1, 1, 1, 1])) name0 t1 t3 t3_0 t3_1 t3_2 t8 t9 w R
noncomputable def eL0 := entL X (pth [0, 1, 1, 1, 1]) P0 L0T
abbrev S1T (name0 : ByteArray) (t1 : Addr) (t3 : Nat) (t3_0 t3_1 t3_2 t8 t9 : Int) (w : World) (R : Post) : Prop :=
  L0T name0 t1 t3 t3_0 t3_1 t3_2 t8 (IntKind.wrap .i64 (t9 + 1)) w R
noncomputable def eS1 := entS X [eL0] (pth [3, 2, 1, 1, 1]) P0 S1T
theorem L0T_step : ∀ (name0 : ByteArray) (t1 : Addr) (t3 : Nat) (t3_0 t3_1 t3_2 t8 t9 : Int) (w : World) (R : Post) (h : sel (decide (t9 < t8)) (∃ t13 : Sl, w.cell? (t1.add 0) = some (t13.v) ∧ 
  (0 : Int) ≤ t9 ∧ t9 < ((t13.n : Nat) : Int) ∧ optP t13.a fun t15_p => ∃ t17 : Int, w.cell? ((t15_p.add (Int.toNat t9 * 9)).add 0) = some (.i t17) ∧ 
  sel (t17 == 0) (∃ t21 : Sl, w.cell? (t1.add 0) = some (t21.v) ∧ 
  (0 : Int) ≤ t9 ∧ t9 < ((t21.n : Nat) : Int) ∧ optP t21.a fun t23_p => ∃ t25 : ByteArray, w.cell? ((t23_p.add (Int.toNat t9 * 9)).add 5) = some (.string t25) ∧ 
  sel (t25.toList == name0.toList) (∃ t30 : Sl, w.cell? (t1.add 0) = some (t30.v) ∧ 
  (0 : Int) ≤ t9 ∧ t9 < ((t30.n : Nat) : Int) ∧ optP t30.a fun t32_p => ld3_2 w ((t32_p.add (Int.toNat t9 * 9)).add 6) fun t34_0 t34_1 t34_2 => loc [t3] w fun w4 => R (.returned (.tuple #[.agg #[.i t34_0, .i t34_1, .i t34_2], .bool true])) w4) (S1T name0 t1 t3 t3_0 t3_1 t3_2 t8 t9 w R)) (S1T name0 t1 t3 t3_0 t3_1 t3_2 t8 t9 w R)) (loc [t3] w fun w7 => R (.returned (.tuple #[.agg #[.i 0, .i 0, .i 0], .bool false])) w7)), L0T name0 t1 t3 t3_0 t3_1 t3_2 t8 t9 w R := mp (stepL (X := X) [eS1, eL0] (pth [0, 1, 1, 1, 1]) P0)
theorem okT (name0 : ByteArray) (t1 : Addr) (w : World) (R : Post) (h : newV [] w fun b3 w1 => 
  ∃ t7 : Sl, w1.cell? (t1.add 0) = some (t7.v) ∧ 
  L0T name0 t1 b3 0 0 0 ((t7.n : Nat) : Int) 0 w1 R) : Calls Tryz.prog n_term_SortOf_1 #[.string name0, .pointer (some t1)] w R := callsX X [eS1, eL0] h
end term_SortOf_1
namespace term_SortOf
noncomputable abbrev X : Fx := ⟨Tryz.prog, Tryz.f12, [], [3, 4]⟩
theorem okT (g0_0 : Sl) (n1_0 : Int) (n1_1 : Sl) (n1_2 n1_3 n1_4 : Int) (n1_5 : ByteArray) (n1_6 n1_7 n1_8 : Int) (w : World) (R : Post) (h : nwV w (.cells #[g0_0.v] ty_term_Graph) fun w1 => 
  newV [] w1 fun b3 w2 => 
  newV [b3] w2 fun b4 w3 => 
  ∃ t7 : Sl, w3.cell? ((nb w).add 0) = some (t7.v) ∧ 
  cf19 [b3, b4] n_term_sortOf #[t7.v, .agg #[.i n1_0, n1_1.v, .i n1_2, .i n1_3, .u n1_4, .string n1_5, .i n1_6, .i n1_7, .i n1_8], .func (.func n_term_SortOf_1) #[] #[.pointer (some (nb w))]] w3 fun t10_0_0 t10_0_1 t10_0_2 t10_1 w4 => loc [b3, b4] w4 fun w7 => R (.returned (.tuple #[.agg #[.i t10_0_0, .i t10_0_1, .i t10_0_2], .i t10_1])) w7) : Calls Tryz.prog n_term_SortOf #[.agg #[g0_0.v], .agg #[.i n1_0, n1_1.v, .i n1_2, .i n1_3, .u n1_4, .string n1_5, .i n1_6, .i n1_7, .i n1_8]] w R := callsX X [] h
end term_SortOf
namespace slices_Equal_sl_int_int
noncomputable abbrev X : Fx := ⟨Tryz.prog, Tryz.f128, [(6,ls [0,1,2,3,4,5,6,7,8])], []⟩
abbrev P0 : Ps := [(0, .v [.s]), (1, .v [.s]), (12, .v [.I]), (13, .v [.I])]
def L0 (s10 s21 : Sl) (t12 t13 : Int) (w : World) (R : Post) : Prop := mkCur P0 0 (X.Sem (pth [0, 1, 1, 1, 2])) s10 s21 t12 t13 w R
noncomputable def eL0 := entL X (pth [0, 1, 1, 1, 2]) P0 L0
theorem L0_step : ∀ (s10 s21 : Sl) (t12 t13 : Int) (w : World) (R : Post) (h : sel (decide (t13 < t12)) (drV w fun w1 => (0 : Int) ≤ t13 ∧ t13 < ((s10.n : Nat) : Int) ∧ optP s10.a fun t18_p => ∃ t19 : Int, w1.cell? (t18_p.add (Int.toNat t13 * 1)) = some (.i t19) ∧ 
  (0 : Int) ≤ t13 ∧ t13 < ((s21.n : Nat) : Int) ∧ optP s21.a fun t22_p => ∃ t23 : Int, w1.cell? (t22_p.add (Int.toNat t13 * 1)) = some (.i t23) ∧ 
  sel (t19 != t23) (R (.returned (.bool false)) w1) (L0 s10 s21 t12 (IntKind.wrap .i64 (t13 + 1)) w1 R)) (R (.returned (.bool true)) w)), L0 s10 s21 t12 t13 w R := mp (stepL (X := X) [eL0] (pth [0, 1, 1, 1, 2]) P0)
theorem ok (s10 s21 : Sl) (w : World) (R : Post) (h : sel (((s10.n : Nat) : Int) != ((s21.n : Nat) : Int)) (R (.returned (.bool false)) w) (L0 s10 s21 ((s10.n : Nat) : Int) 0 w R)) : Calls Tryz.prog n_slices_Equal_sl_int_int #[s10.v, s21.v] w R := callsX X [eL0] h
end slices_Equal_sl_int_int
namespace term_sameNode
noncomputable abbrev X : Fx := ⟨Tryz.prog, Tryz.f92, [(1,ls [0,1,2,3,4,5,6,7,8,9,10,11,12,13,14,15,16,17,18,19,20,21,22,23,24,25,26,27,28,29,30,31,32,33,34,35,36,37,38,39,40,41,42,43,44,45,46,47,48,49,50,51,52,53,54,55,56,57,58,59,60,61,62,63,64,65,66,67,68,69,70,71,72,73,74,75])], []⟩
theorem ok (a0 b1 : Addr) (w : World) (R : Post) (h : drV w fun w1 => ∃ t8 : Int, w1.cell? (a0.add 0) = some (.i t8) ∧ 
  ∃ t12 : Int, w1.cell? (b1.add 0) = some (.i t12) ∧ 
  sel (t8 == t12) (∃ t18 : Int, w1.cell? (a0.add 2) = some (.i t18) ∧ 
  ∃ t22 : Int, w1.cell? (b1.add 2) = some (.i t22) ∧ 
  sel (t18 == t22) (∃ t29 : Int, w1.cell? (a0.add 3) = some (.i t29) ∧ 
  ∃ t33 : Int, w1.cell? (b1.add 3) = some (.i t33) ∧ 
  sel (t29 == t33) (∃ t40 : Int, w1.cell? (a0.add 4) = some (.u t40) ∧ 
  ∃ t44 : Int, w1.cell? (b1.add 4) = some (.u t44) ∧ 
  sel (t40 == t44) (ld3_2 w1 (a0.add 6) fun t51_0 t51_1 t51_2 => ld3_2 w1 (b1.add 6) fun t55_0 t55_1 t55_2 => sel ((t51_0 == t55_0) && ((t51_1 == t55_1) && ((t51_2 == t55_2) && true))) (∃ t62 : Sl, w1.cell? (a0.add 1) = some (t62.v) ∧ 
  ∃ t66 : Sl, w1.cell? (b1.add 1) = some (t66.v) ∧ 
  ca0 n_slices_Equal_sl_int_int #[t62.v, t66.v] w1 fun t67 w2 => w2.cell? (b1.add 3) = some (.i t33) ∧ w2.cell? (a0.add 3) = some (.i t29) ∧ w2.cell? (b1.add 2) = some (.i t22) ∧ w2.cell? (a0.add 2) = some (.i t18) ∧ w2.cell? (b1.add 0) = some (.i t12) ∧ w2.cell? (a0.add 0) = some (.i t8) ∧ sel t67 (∃ t73 : ByteArray, w2.cell? (a0.add 5) = some (.string t73) ∧ 
  ∃ t77 : ByteArray, w2.cell? (b1.add 5) = some (.string t77) ∧ 
  R (.returned (.bool (t73.toList == t77.toList))) w2) (R (.returned (.bool false)) w2)) (R (.returned (.bool false)) w1)) (R (.returned (.bool false)) w1)) (R (.returned (.bool false)) w1)) (R (.returned (.bool false)) w1)) (R (.returned (.bool false)) w1)) : Calls Tryz.prog n_term_sameNode #[.pointer (some a0), .pointer (some b1)] w R := callsX X [] h
end term_sameNode
namespace term_search
noncomputable abbrev X : Fx := ⟨Tryz.prog, Tryz.f49, [], [2]⟩
abbrev P0 : Ps := [(1, .v [.r]), (2, .l [.s] ty_term_Graph), (8, .v [.I]), (9, .v [.I])]
def L0T (n1 : Addr) (g2 : Nat) (g2_0 : Sl) (t8 t9 : Int) (w : World) (R : Post) : Prop := mkCur P0 0 (X.Sem (pth [0, 1, 1, 1, 1])) n1 g2 g2_0 t8 t9 w R
noncomputable def eL0 := entL X (pth [0, 1, 1, 1, 1]) P0 L0T
theorem L0T_step : ∀ (n1 : Addr) (g2 : Nat) (g2_0 : Sl) (t8 t9 : Int) (w : World) (R : Post) (h : sel (decide (t9 < t8)) ((0 : Int) ≤ t9 ∧ t9 < ((g2_0.n : Nat) : Int) ∧ optP g2_0.a fun t15_p => cf0 [g2] n_term_sameNode #[.pointer (some (t15_p.add (Int.toNat t9 * 9))), .pointer (some n1)] w fun t17 w2 => sel t17 (R (.returned (.i t9)) w2) (L0T n1 g2 g2_0 t8 (IntKind.wrap .i64 (t9 + 1)) w2 R)) (R (.returned (.i (-1))) w)), L0T n1 g2 g2_0 t8 t9 w R := mp (stepL (X := X) [eL0] (pth [0, 1, 1, 1, 1]) P0)
theorem okT (g0_0 : Sl) (n1 : Addr) (w : World) (R : Post) (h : newV [] w fun b2 w1 => 
  L0T n1 b2 g0_0 ((g0_0.n : Nat) : Int) 0 w1 R) : Calls Tryz.prog n_term_search #[.agg #[g0_0.v], .pointer (some n1)] w R := callsX X [eL0] h
end term_search
namespace slices_Clone_sl_int_int
noncomputable abbrev X : Fx := ⟨Tryz.prog, Tryz.f50, [], []⟩
theorem ok (s0 : Sl) (w : World) (R : Post) (h : sel s0.a.isNone (R (.returned (.slice none 0 0)) w) (nwV w (.cells #[] ty_int) fun w1 => 
  ∃ (t7 : Sl) (w2 : World), Sem.run Tryz.prog (Builtin.append_ #[ty_sl_int, ty_sl_int] ty_sl_int #[.slice (some (nb w)) 0 0, s0.v]) w1 = .ok (t7.v) w2 ∧ R (.returned (t7.v)) w2)) : Calls Tryz.prog n_slices_Clone_sl_int_int #[s0.v] w R := callsX X [] h
end slices_Clone_sl_int_int
namespace term_Add
noncomputable abbrev X : Fx := ⟨Tryz.prog, Tryz.f14, [(14,ls [0,1,2,3,4,5,6,7])], [2, 4, 7]⟩
theorem okT (g0_0 : Sl) (n1_0 : Int) (n1_1 : Sl) (n1_2 n1_3 n1_4 : Int) (n1_5 : ByteArray) (n1_6 n1_7 n1_8 : Int) (w : World) (R : Post) (h : newV [] w fun b2 w1 => 
  nwV w1 (.cells #[.i n1_0, n1_1.v, .i n1_2, .i n1_3, .u n1_4, .string n1_5, .i n1_6, .i n1_7, .i n1_8] ty_api_Node) fun w2 => 
  newV [b2] w2 fun b4 w3 => 
  ld9_3 w3 (nb w1) fun t13_0 t13_1 t13_2 t13_3 t13_4 t13_5 t13_6 t13_7 t13_8 => cf19 [b2, b4] n_term_SortOf #[.agg #[g0_0.v], .agg #[.i t13_0, t13_1.v, .i t13_2, .i t13_3, .u t13_4, .string t13_5, .i t13_6, .i t13_7, .i t13_8]] w3 fun t14_0_0 t14_0_1 t14_0_2 t14_1 w4 => newV [b2, b4] w4 fun b7 w5 => 
  sel (t14_1 != 0) (loc [b2, b4, b7] w5 fun w9 => R (.returned (.tuple #[.agg #[.slice none 0 0], .i 0, .i t14_1])) w9) (loc [b2, b4, b7] w5 fun w8 => stV w8 ((nb w1).add 6) (.i t14_0_0) fun w10 => kept [b2, b4, b7] w8 w10 ∧ 
  stV w10 (((nb w1).add 6).add 1) (.i t14_0_1) fun w11 => kept [b2, b4, b7] w10 w11 ∧ 
  stV w11 (((nb w1).add 6).add 2) (.i t14_0_2) fun w12 => kept [b2, b4, b7] w11 w12 ∧ 
  cf1 [b2, b4, b7] n_term_search #[.agg #[g0_0.v], .pointer (some (nb w1))] w12 fun t24 w13 => sel (decide (t24 ≥ 0)) (loc [b2, b4, b7] w13 fun w14 => R (.returned (.tuple #[.agg #[g0_0.v], .i t24, .i 0])) w14) (sel (decide (((g0_0.n : Nat) : Int) ≥ 4096)) (loc [b2, b4, b7] w13 fun w15 => R (.returned (.tuple #[.agg #[.slice none 0 0], .i 0, .i 4])) w15) (∃ t35 : Sl, w13.cell? ((nb w1).add 1) = some (t35.v) ∧ 
  cf3 [b2, b4, b7] n_slices_Clone_sl_int_int #[t35.v] w13 fun t36 w16 => stV w16 ((nb w1).add 1) (t36.v) fun w17 => kept [b2, b4, b7] w16 w17 ∧ 
  ∃ (t42 : Sl) (w18 : World), Sem.run Tryz.prog (Instr.makeSlice ty_sl_api_Node (.i (IntKind.wrap .i64 (((g0_0.n : Nat) : Int) + 1))) (.i (IntKind.wrap .i64 (((g0_0.n : Nat) : Int) + 1)))) w17 = .ok (t42.v) w18 ∧ kept [b2, b4, b7] w17 w18 ∧ ∃ (t46 : Int) (w19 : World), Sem.run Tryz.prog (Builtin.copy_ #[ty_sl_api_Node, ty_sl_api_Node] ty_int #[t42.v, g0_0.v]) w18 = .ok (.i t46) w19 ∧ kept [b2, b4, b7] w18 w19 ∧ ld9_3 w19 (nb w1) fun t51_0 t51_1 t51_2 t51_3 t51_4 t51_5 t51_6 t51_7 t51_8 => (0 : Int) ≤ ((g0_0.n : Nat) : Int) ∧ ((g0_0.n : Nat) : Int) < ((t42.n : Nat) : Int) ∧ optP t42.a fun t52_p => stV w19 (t52_p.add (Int.toNat ((g0_0.n : Nat) : Int) * 9)) (.i t51_0) fun w20 => kept [b2, b4, b7] w19 w20 ∧ 
  stV w20 ((t52_p.add (Int.toNat ((g0_0.n : Nat) : Int) * 9)).add 1) (t51_1.v) fun w21 => kept [b2, b4, b7] w20 w21 ∧ 
  stV w21 ((t52_p.add (Int.toNat ((g0_0.n : Nat) : Int) * 9)).add 2) (.i t51_2) fun w22 => kept [b2, b4, b7] w21 w22 ∧ 
  stV w22 ((t52_p.add (Int.toNat ((g0_0.n : Nat) : Int) * 9)).add 3) (.i t51_3) fun w23 => kept [b2, b4, b7] w22 w23 ∧ 
  stV w23 ((t52_p.add (Int.toNat ((g0_0.n : Nat) : Int) * 9)).add 4) (.u t51_4) fun w24 => kept [b2, b4, b7] w23 w24 ∧ 
  stV w24 ((t52_p.add (Int.toNat ((g0_0.n : Nat) : Int) * 9)).add 5) (.string t51_5) fun w25 => kept [b2, b4, b7] w24 w25 ∧ 
  stV w25 ((t52_p.add (Int.toNat ((g0_0.n : Nat) : Int) * 9)).add 6) (.i t51_6) fun w26 => kept [b2, b4, b7] w25 w26 ∧ 
  stV w26 ((t52_p.add (Int.toNat ((g0_0.n : Nat) : Int) * 9)).add 7) (.i t51_7) fun w27 => kept [b2, b4, b7] w26 w27 ∧ 
  stV w27 ((t52_p.add (Int.toNat ((g0_0.n : Nat) : Int) * 9)).add 8) (.i t51_8) fun w28 => kept [b2, b4, b7] w27 w28 ∧ 
  loc [b2, b4, b7] w28 fun w30 => R (.returned (.tuple #[.agg #[t42.v], .i ((g0_0.n : Nat) : Int), .i 0])) w30)))) : Calls Tryz.prog n_term_Add #[.agg #[g0_0.v], .agg #[.i n1_0, n1_1.v, .i n1_2, .i n1_3, .u n1_4, .string n1_5, .i n1_6, .i n1_7, .i n1_8]] w R := callsX X [] h
end term_Add
namespace term_Needs
noncomputable abbrev X : Fx := ⟨Tryz.prog, Tryz.f19, [], [2]⟩
abbrev P0 : Ps := [(2, .l [.s] ty_term_Graph), (6, .v [.s]), (19, .v [.s]), (20, .v [.I]), (21, .v [.I])]
def L0T (g2 : Nat) (g2_0 marked6 t19 : Sl) (t20 t21 : Int) (w : World) (R : Post) : Prop := mkCur P0 0 (X.Sem (pth [0, 1, 1, 1, 2])) g2 g2_0 marked6 t19 t20 t21 w R
noncomputable def eL0 := entL X (pth [0, 1, 1, 1, 2]) P0 L0T
abbrev P1 : Ps := []
abbrev S1T  (w : World) (R : Post) : Prop :=
  R (.returned (.tuple #[.slice none 0 0, .i 7])) w
noncomputable def eS1 := entS X [eL0] (pth [0, 1, 1, 1, 1, 2, 2, 2, 1, 1, 2]) P1 S1T
abbrev P2 : Ps := [(2, .l [.s] ty_term_Graph), (6, .v [.s]), (9, .v [.I])]
def L2T (g2 : Nat) (g2_0 marked6 : Sl) (i9 : Int) (w : World) (R : Post) : Prop := mkCur P2 0 (X.Sem (pth [0, 1, 1, 1, 3])) g2 g2_0 marked6 i9 w R
noncomputable def eL2 := entL X (pth [0, 1, 1, 1, 3]) P2 L2T
abbrev S3T (g2 : Nat) (g2_0 marked6 : Sl) (i9 : Int) (w : World) (R : Post) : Prop :=
  L2T g2 g2_0 marked6 (IntKind.wrap .i64 (i9 - 1)) w R
noncomputable def eS3 := entS X [eL2, eS1, eL0] (pth [2, 2, 1, 1, 3]) P2 S3T
abbrev P3 : Ps := [(2, .l [.s] ty_term_Graph), (6, .v [.s]), (9, .v [.I]), (56, .v [.s]), (57, .v [.I]), (58, .v [.I])]
def L4T (g2 : Nat) (g2_0 marked6 : Sl) (i9 : Int) (t56 : Sl) (t57 t58 : Int) (w : World) (R : Post) : Prop := mkCur P3 0 (X.Sem (pth [0, 1, 2, 2, 1, 2, 1, 1, 3])) g2 g2_0 marked6 i9 t56 t57 t58 w R
noncomputable def eL4 := entL X (pth [0, 1, 2, 2, 1, 2, 1, 1, 3]) P3 L4T
theorem L4T_step : ∀ (g2 : Nat) (g2_0 marked6 : Sl) (i9 : Int) (t56 : Sl) (t57 t58 : Int) (w : World) (R : Post) (h : sel (decide (t58 < t57)) ((0 : Int) ≤ t58 ∧ t58 < ((t56.n : Nat) : Int) ∧ optP t56.a fun t60_p => ∃ t61 : Int, w.cell? (t60_p.add (Int.toNat t58 * 1)) = some (.i t61) ∧ 
  (0 : Int) ≤ t61 ∧ t61 < ((marked6.n : Nat) : Int) ∧ optP marked6.a fun t64_p => stV w (t64_p.add (Int.toNat t61 * 1)) (.bool true) fun w4 => kept [g2] w w4 ∧ 
  L4T g2 g2_0 marked6 i9 t56 t57 (IntKind.wrap .i64 (t58 + 1)) w4 R) (S3T g2 g2_0 marked6 i9 w R)), L4T g2 g2_0 marked6 i9 t56 t57 t58 w R := mp (stepL (X := X) [eL4, eS3, eL2, eS1, eL0] (pth [0, 1, 2, 2, 1, 2, 1, 1, 3]) P3)
abbrev P4 : Ps := [(12, .v [.s]), (66, .v [.s]), (67, .v [.I]), (68, .v [.I])]
def L5T (l12 t66 : Sl) (t67 t68 : Int) (w : World) (R : Post) : Prop := mkCur P4 0 (X.Sem (pth [0, 1, 1, 1, 5])) l12 t66 t67 t68 w R
noncomputable def eL5 := entL X (pth [0, 1, 1, 1, 5]) P4 L5T
abbrev S6T (l12 t66 : Sl) (t67 t68 : Int) (w : World) (R : Post) : Prop :=
  L5T l12 t66 t67 (IntKind.wrap .i64 (t68 + 1)) w R
noncomputable def eS6 := entS X [eL5, eL4, eS3, eL2, eS1, eL0] (pth [3, 2, 1, 1, 5]) P4 S6T
theorem L5T_step : ∀ (l12 t66 : Sl) (t67 t68 : Int) (w : World) (R : Post) (h : sel (decide (t68 < t67)) ((0 : Int) ≤ t68 ∧ t68 < ((t66.n : Nat) : Int) ∧ optP t66.a fun t71_p => ∃ t72 : Bool, w.cell? (t71_p.add (Int.toNat t68 * 1)) = some (.bool t72) ∧ 
  sel t72 (nwV w (.cells #[.i t68] ty_int) fun w5 => 
  ∃ (t77 : Sl) (w6 : World), Sem.run Tryz.prog (Builtin.append_ #[ty_sl_int, ty_sl_int] ty_sl_int #[l12.v, .slice (some (nb w)) 1 1]) w5 = .ok (t77.v) w6 ∧ S6T t77 t66 t67 t68 w6 R) (S6T l12 t66 t67 t68 w R)) (R (.returned (.tuple #[l12.v, .i 0])) w)), L5T l12 t66 t67 t68 w R := mp (stepL (X := X) [eS6, eL5, eL4, eS3, eL2, eS1, eL0] (pth [0, 1, 1, 1, 5]) P4)
theorem L2T_step : ∀ (g2 : Nat) (g2_0 marked6 : Sl) (i9 : Int) (w : World) (R : Post) (h : sel (decide (i9 ≥ 0)) ((0 : Int) ≤ i9 ∧ i9 < ((marked6.n : Nat) : Int) ∧ optP marked6.a fun t48_p => ∃ t49 : Bool, w.cell? (t48_p.add (Int.toNat i9 * 1)) = some (.bool t49) ∧ 
  sel (!t49) (S3T g2 g2_0 marked6 i9 w R) ((0 : Int) ≤ i9 ∧ i9 < ((g2_0.n : Nat) : Int) ∧ optP g2_0.a fun t54_p => ∃ t56 : Sl, w.cell? ((t54_p.add (Int.toNat i9 * 9)).add 1) = some (t56.v) ∧ 
  L4T g2 g2_0 marked6 i9 t56 ((t56.n : Nat) : Int) 0 w R)) (L5T ⟨none, 0, 0⟩ marked6 ((marked6.n : Nat) : Int) 0 w R)), L2T g2 g2_0 marked6 i9 w R := mp (stepL (X := X) [eS6, eL5, eL4, eS3, eL2, eS1, eL0] (pth [0, 1, 1, 1, 3]) P2)
theorem L0T_step : ∀ (g2 : Nat) (g2_0 marked6 t19 : Sl) (t20 t21 : Int) (w : World) (R : Post) (h : sel (decide (t21 < t20)) ((0 : Int) ≤ t21 ∧ t21 < ((t19.n : Nat) : Int) ∧ optP t19.a fun t23_p => ∃ t24 : Int, w.cell? (t23_p.add (Int.toNat t21 * 1)) = some (.i t24) ∧ 
  sel (decide (t24 < 0)) (S1T  w R) (sel (decide (t24 ≥ ((g2_0.n : Nat) : Int))) (S1T  w R) ((0 : Int) ≤ t24 ∧ t24 < ((marked6.n : Nat) : Int) ∧ optP marked6.a fun t36_p => stV w (t36_p.add (Int.toNat t24 * 1)) (.bool true) fun w3 => kept [g2] w w3 ∧ 
  L0T g2 g2_0 marked6 t19 t20 (IntKind.wrap .i64 (t21 + 1)) w3 R))) (L2T g2 g2_0 marked6 (IntKind.wrap .i64 (((g2_0.n : Nat) : Int) - 1)) w R)), L0T g2 g2_0 marked6 t19 t20 t21 w R := mp (stepL (X := X) [eS6, eL5, eL4, eS3, eL2, eS1, eL0] (pth [0, 1, 1, 1, 2]) P0)
theorem okT (g0_0 roots1 : Sl) (w : World) (R : Post) (h : newV [] w fun b2 w1 => 
  ∃ (t18 : Sl) (w2 : World), Sem.run Tryz.prog (Instr.makeSlice ty_sl_bool (.i ((g0_0.n : Nat) : Int)) (.i ((g0_0.n : Nat) : Int))) w1 = .ok (t18.v) w2 ∧ kept [b2] w1 w2 ∧ L0T b2 g0_0 t18 roots1 ((roots1.n : Nat) : Int) 0 w2 R) : Calls Tryz.prog n_term_Needs #[.agg #[g0_0.v], roots1.v] w R := callsX X [eS6, eL5, eL4, eS3, eL2, eS1, eL0] h
end term_Needs
namespace term_Vars
noncomputable abbrev X : Fx := ⟨Tryz.prog, Tryz.f22, [], [1]⟩
abbrev P0 : Ps := [(1, .l [.s] ty_term_Graph), (3, .v [.s]), (7, .v [.I]), (8, .v [.I])]
def L0T (g1 : Nat) (g1_0 l3 : Sl) (t7 t8 : Int) (w : World) (R : Post) : Prop := mkCur P0 0 (X.Sem (pth [0, 1, 1, 1, 2])) g1 g1_0 l3 t7 t8 w R
noncomputable def eL0 := entL X (pth [0, 1, 1, 1, 2]) P0 L0T
abbrev S1T (g1 : Nat) (g1_0 l3 : Sl) (t7 t8 : Int) (w : World) (R : Post) : Prop :=
  L0T g1 g1_0 l3 t7 (IntKind.wrap .i64 (t8 + 1)) w R
noncomputable def eS1 := entS X [eL0] (pth [3, 2, 1, 1, 2]) P0 S1T
theorem L0T_step : ∀ (g1 : Nat) (g1_0 l3 : Sl) (t7 t8 : Int) (w : World) (R : Post) (h : sel (decide (t8 < t7)) ((0 : Int) ≤ t8 ∧ t8 < ((g1_0.n : Nat) : Int) ∧ optP g1_0.a fun t14_p => ∃ t16 : Int, w.cell? ((t14_p.add (Int.toNat t8 * 9)).add 0) = some (.i t16) ∧ 
  sel (t16 == 0) (nwV w (.cells #[.i t8] ty_int) fun w2 => 
  ∃ (t21 : Sl) (w3 : World), Sem.run Tryz.prog (Builtin.append_ #[ty_sl_int, ty_sl_int] ty_sl_int #[l3.v, .slice (some (nb w)) 1 1]) w2 = .ok (t21.v) w3 ∧ kept [g1] w2 w3 ∧ S1T g1 g1_0 t21 t7 t8 w3 R) (S1T g1 g1_0 l3 t7 t8 w R)) (R (.returned (l3.v)) w)), L0T g1 g1_0 l3 t7 t8 w R := mp (stepL (X := X) [eS1, eL0] (pth [0, 1, 1, 1, 2]) P0)
theorem okT (g0_0 : Sl) (w : World) (R : Post) (h : newV [] w fun b1 w1 => 
  L0T b1 g0_0 ⟨none, 0, 0⟩ ((g0_0.n : Nat) : Int) 0 w1 R) : Calls Tryz.prog n_term_Vars #[.agg #[g0_0.v]] w R := callsX X [eS1, eL0] h
end term_Vars
end Go.Proofs.YtcifihepfadgfaaGreatDoor
set_option linter.unusedVariables false
set_option maxRecDepth 100000
set_option maxHeartbeats 2000000
namespace Go.Proofs.YtcifihepfadgfaaGreatDoor
open Go Go.W
namespace enthymemelaw07_lives
noncomputable abbrev X : Fx := ⟨Tryz.prog, Tryz.f18, [], [1, 4, 7, 10, 12]⟩
abbrev P0 : Ps := []
abbrev S0T  (w : World) (R : Post) : Prop :=
  R (.returned (.bool false)) w
noncomputable def eS0 := entS X [] (pth [0, 1, 1, 1, 4]) P0 S0T
theorem okT  (w : World) (R : Post) (h : ca22 n_term_Add #[.agg #[.slice none 0 0], .agg #[.i 0, .slice none 0 0, .i 0, .i 0, .u 0, .string (ByteArray.mk #[120]), .i 0, .i 8, .i 0]] w fun t18_0_0 t18_1 t18_2 w1 => newV [] w1 fun b1 w2 => 
  loc [b1] w2 fun w3 => nwV w3 (.cells #[.i 0] ty_int) fun w4 => 
  cf22 [b1] n_term_Add #[.agg #[t18_0_0.v], .agg #[.i 4, .slice (some (nb w3)) 1 1, .i 0, .i 0, .u 0, .s0, .i 0, .i 0, .i 0]] w4 fun t26_0_0 t26_1 t26_2 w5 => newV [b1] w5 fun b4 w6 => 
  loc [b1, b4] w6 fun w7 => nwV w7 (.cells #[.i 0] ty_int) fun w8 => 
  cf22 [b1, b4] n_term_Add #[.agg #[t26_0_0.v], .agg #[.i 4, .slice (some (nb w7)) 1 1, .i 0, .i 0, .u 0, .s0, .i 0, .i 0, .i 0]] w8 fun t34_0_0 t34_1 t34_2 w9 => newV [b1, b4] w9 fun b7 w10 => 
  sel (t18_2 != 0) (loc [b1, b4, b7] w10 fun w11 => S0T  w11 R) (sel (t26_2 != 0) (loc [b1, b4, b7] w10 fun w11 => S0T  w11 R) (sel (t34_2 != 0) (loc [b1, b4, b7] w10 fun w11 => S0T  w11 R) (sel (t26_1 != 1) (loc [b1, b4, b7] w10 fun w11 => S0T  w11 R) (sel (t34_1 != 1) (loc [b1, b4, b7] w10 fun w11 => S0T  w11 R) (sel (((t34_0_0.n : Nat) : Int) != 2) (loc [b1, b4, b7] w10 fun w11 => S0T  w11 R) (loc [b1, b4, b7] w10 fun w11 => nwV w11 (.cells #[.i 0, .i 1] ty_int) fun w12 => 
  cf19 [b1, b4, b7] n_term_SortOf #[.agg #[t34_0_0.v], .agg #[.i 20, .slice (some (nb w11)) 2 2, .i 0, .i 0, .u 0, .s0, .i 0, .i 0, .i 0]] w12 fun t66_0_0 t66_0_1 t66_0_2 t66_1 w13 => newV [b1, b4, b7] w13 fun b10 w14 => 
  loc [b1, b4, b7, b10] w14 fun w17 => nwV w17 (.cells #[.i 0] ty_int) fun w18 => 
  cf19 [b1, b4, b7, b10] n_term_SortOf #[.agg #[t34_0_0.v], .agg #[.i 21, .slice (some (nb w17)) 1 1, .i 8, .i 0, .u 0, .s0, .i 0, .i 0, .i 0]] w18 fun t73_0_0 t73_0_1 t73_0_2 t73_1 w19 => newV [b1, b4, b7, b10] w19 fun b12 w20 => 
  sel (t66_1 == 0) (sel ((t66_0_0 == 0) && ((t66_0_1 == 16) && ((t66_0_2 == 0) && true))) (loc [b1, b4, b7, b10, b12] w20 fun w23 => R (.returned (.bool (t73_1 == 5))) w23) (loc [b1, b4, b7, b10, b12] w20 fun w23 => R (.returned (.bool false)) w23)) (loc [b1, b4, b7, b10, b12] w20 fun w23 => R (.returned (.bool false)) w23)))))))) : Calls Tryz.prog n_enthymemelaw07_lives #[] w R := callsX X [eS0] h
end enthymemelaw07_lives
end Go.Proofs.YtcifihepfadgfaaGreatDoor
set_option linter.unusedVariables false
set_option maxRecDepth 100000
set_option maxHeartbeats 2000000
namespace Go.Proofs.YtcifihepfadgfaaGreatDoor
open Go Go.W
namespace enthymemelaw07_TermNeeds
noncomputable abbrev X : Fx := ⟨Tryz.prog, Tryz.f4, [(13,(.sq [0,2,4,5,6,7] (.fork (.sq [1] (.fork (ls [3,8,9,10,11,12,13,14,15]) (ls [8,3,9,10,11,12,13,14,15]))) (ls [8,1,3,9,10,11,12,13,14,15]))))], [10]⟩
abbrev P0 : Ps := [(2, .v [.s]), (3, .v [.I]), (9, .v [.s]), (10, .l [.s] ty_term_Graph), (11, .v [.s]), (12, .v [.I])]
def L0T (roots2 : Sl) (other3 : Int) (g9 : Sl) (x10 : Nat) (x10_0 some11 : Sl) (i12 : Int) (w : World) (R : Post) : Prop := mkCur P0 0 (X.Sem (pth [0, 1, 1, 1, 4])) roots2 other3 g9 x10 x10_0 some11 i12 w R
noncomputable def eL0 := entL X (pth [0, 1, 1, 1, 4]) P0 L0T
abbrev P1 : Ps := [(9, .v [.s]), (10, .l [.s] ty_term_Graph), (11, .v [.s]), (13, .v [.s]), (14, .v [.I]), (15, .v [.s]), (16, .v [.I])]
def L2T (g9 : Sl) (x10 : Nat) (x10_0 some11 a13 : Sl) (e14 : Int) (lists15 : Sl) (i16 : Int) (w : World) (R : Post) : Prop := mkCur P1 0 (X.Sem (pth [0, 1, 1, 1, 7])) g9 x10 x10_0 some11 a13 e14 lists15 i16 w R
noncomputable def eL2 := entL X (pth [0, 1, 1, 1, 7]) P1 L2T
abbrev P2 : Ps := []
abbrev S5T  (w : World) (R : Post) : Prop :=
  R (.returned (.bool false)) w
noncomputable def eS5 := entS X [eL2, eL0] (pth [0, 1, 3, 2, 1, 2, 1, 1, 7]) P2 S5T
abbrev S6T (g9 : Sl) (x10 : Nat) (x10_0 some11 a13 : Sl) (e14 : Int) (lists15 : Sl) (i16 : Int) (w : World) (R : Post) : Prop :=
  L2T g9 x10 x10_0 some11 a13 e14 lists15 (IntKind.wrap .i64 (i16 + 1)) w R
noncomputable def eS6 := entS X [eS5, eL2, eL0] (pth [2, 2, 1, 1, 7]) P1 S6T
abbrev P3 : Ps := [(9, .v [.s]), (10, .l [.s] ty_term_Graph), (11, .v [.s]), (13, .v [.s]), (14, .v [.I]), (15, .v [.s]), (16, .v [.I]), (17, .v [.s]), (18, .v [.I]), (19, .v [.b])]
abbrev S4T (g9 : Sl) (x10 : Nat) (x10_0 some11 a13 : Sl) (e14 : Int) (lists15 : Sl) (i16 : Int) (b17 : Sl) (f18 : Int) (out19 : Bool) (w : World) (R : Post) : Prop :=
  sel (!((f18 == 7) == out19)) (S5T  w R) (sel out19 (sel (((b17.n : Nat) : Int) != 0) (S5T  w R) (S6T g9 x10 x10_0 some11 a13 e14 lists15 i16 w R)) (S6T g9 x10 x10_0 some11 a13 e14 lists15 i16 w R))
noncomputable def eS4 := entS X [eS6, eS5, eL2, eL0] (pth [2, 2, 1, 2, 1, 1, 7]) P3 S4T
abbrev P4 : Ps := [(9, .v [.s]), (10, .l [.s] ty_term_Graph), (11, .v [.s]), (13, .v [.s]), (14, .v [.I]), (15, .v [.s]), (16, .v [.I]), (17, .v [.s]), (18, .v [.I])]
abbrev S3T (g9 : Sl) (x10 : Nat) (x10_0 some11 a13 : Sl) (e14 : Int) (lists15 : Sl) (i16 : Int) (b17 : Sl) (f18 : Int) (w : World) (R : Post) : Prop :=
  (0 : Int) ≤ i16 ∧ i16 < ((lists15.n : Nat) : Int) ∧ optP lists15.a fun t76_p => ∃ t77 : Int, w.cell? (t76_p.add (Int.toNat i16 * 1)) = some (.i t77) ∧ 
  sel (decide (t77 < 0)) (S4T g9 x10 x10_0 some11 a13 e14 lists15 i16 b17 f18 true w R) ((0 : Int) ≤ i16 ∧ i16 < ((lists15.n : Nat) : Int) ∧ optP lists15.a fun t82_p => ∃ t83 : Int, w.cell? (t82_p.add (Int.toNat i16 * 1)) = some (.i t83) ∧ 
  S4T g9 x10 x10_0 some11 a13 e14 lists15 i16 b17 f18 (decide (t83 ≥ ((g9.n : Nat) : Int))) w R)
noncomputable def eS3 := entS X [eS4, eS6, eS5, eL2, eL0] (pth [1, 2, 1, 2, 1, 1, 7]) P4 S3T
theorem L2T_step : ∀ (g9 : Sl) (x10 : Nat) (x10_0 some11 a13 : Sl) (e14 : Int) (lists15 : Sl) (i16 : Int) (w : World) (R : Post) (h : sel (decide (i16 < 3)) ((0 : Int) ≤ i16 ∧ i16 < ((lists15.n : Nat) : Int) ∧ optP lists15.a fun t67_p => loc [x10] w fun w3 => ∃ t68 : Int, w3.cell? (t67_p.add (Int.toNat i16 * 1)) = some (.i t68) ∧ 
  ((nwV w3 (.cells #[] ty_int) fun w4 => 
  w4.cell? (t67_p.add (Int.toNat i16 * 1)) = some (.i t68) ∧ ((∃ (t64 : Sl) (w5 : World), Sem.run Tryz.prog (Builtin.append_ #[ty_sl_int, ty_sl_int] ty_sl_int #[.slice (some (nb w3)) 0 0, some11.v]) w4 = .ok (t64.v) w5 ∧ kept [x10] w4 w5 ∧ w5.cell? (t67_p.add (Int.toNat i16 * 1)) = some (.i t68) ∧ nwV w5 (.cells #[.i t68] ty_int) fun w6 => 
  ∃ (t70 : Sl) (w7 : World), Sem.run Tryz.prog (Builtin.append_ #[ty_sl_int, ty_sl_int] ty_sl_int #[t64.v, .slice (some (nb w5)) 1 1]) w6 = .ok (t70.v) w7 ∧ kept [x10] w6 w7 ∧ cf23 [x10] n_term_Needs #[.agg #[x10_0.v], t70.v] w7 fun t71_0 t71_1 w8 => S3T g9 x10 x10_0 some11 a13 e14 lists15 i16 t71_0 t71_1 w8 R) ∧ (nwV w4 (.cells #[.i t68] ty_int) fun w9 => 
  ∃ (t64_x1 : Sl) (w10 : World), Sem.run Tryz.prog (Builtin.append_ #[ty_sl_int, ty_sl_int] ty_sl_int #[.slice (some (nb w3)) 0 0, some11.v]) w9 = .ok (t64_x1.v) w10 ∧ kept [x10] w9 w10 ∧ ∃ (t70_x1 : Sl) (w11 : World), Sem.run Tryz.prog (Builtin.append_ #[ty_sl_int, ty_sl_int] ty_sl_int #[t64_x1.v, .slice (some (nb w4)) 1 1]) w10 = .ok (t70_x1.v) w11 ∧ kept [x10] w10 w11 ∧ cf23 [x10] n_term_Needs #[.agg #[x10_0.v], t70_x1.v] w11 fun t71_x1_0 t71_x1_1 w12 => S3T g9 x10 x10_0 some11 a13 e14 lists15 i16 t71_x1_0 t71_x1_1 w12 R))) ∧ (nwV w3 (.cells #[.i t68] ty_int) fun w13 => 
  nwV w13 (.cells #[] ty_int) fun w14 => 
  ∃ (t64_x2 : Sl) (w15 : World), Sem.run Tryz.prog (Builtin.append_ #[ty_sl_int, ty_sl_int] ty_sl_int #[.slice (some (nb w13)) 0 0, some11.v]) w14 = .ok (t64_x2.v) w15 ∧ kept [x10] w14 w15 ∧ ∃ (t70_x2 : Sl) (w16 : World), Sem.run Tryz.prog (Builtin.append_ #[ty_sl_int, ty_sl_int] ty_sl_int #[t64_x2.v, .slice (some (nb w3)) 1 1]) w15 = .ok (t70_x2.v) w16 ∧ kept [x10] w15 w16 ∧ cf23 [x10] n_term_Needs #[.agg #[x10_0.v], t70_x2.v] w16 fun t71_x2_0 t71_x2_1 w17 => S3T g9 x10 x10_0 some11 a13 e14 lists15 i16 t71_x2_0 t71_x2_1 w17 R))) (sel (e14 == 0) (cf3 [x10] n_enthymemeref07_Needs #[g9.v, some11.v] w fun t106 w18 => cf0 [x10] n_enthymemeref01_SameInts #[a13.v, t106.v] w18 fun t107 w19 => sel t107 (cf3 [x10] n_term_Vars #[.agg #[x10_0.v]] w19 fun t111 w20 => cf3 [x10] n_enthymemeref07_Vars #[g9.v] w20 fun t113 w21 => cf0 [x10] n_enthymemeref01_SameInts #[t111.v, t113.v] w21 fun t114 w22 => sel t114 (cf0 [x10] n_enthymemelaw07_lives #[] w22 fun t117 w23 => R (.returned (.bool t117)) w23) (R (.returned (.bool false)) w22)) (R (.returned (.bool false)) w19)) (R (.returned (.bool false)) w))), L2T g9 x10 x10_0 some11 a13 e14 lists15 i16 w R := mp (stepL (X := X) [eS3, eS4, eS6, eS5, eL2, eL0] (pth [0, 1, 1, 1, 7]) P1)
abbrev P5 : Ps := [(3, .v [.I]), (9, .v [.s]), (10, .l [.s] ty_term_Graph), (11, .v [.s])]
abbrev S1T (other3 : Int) (g9 : Sl) (x10 : Nat) (x10_0 some11 : Sl) (w : World) (R : Post) : Prop :=
  cf23 [x10] n_term_Needs #[.agg #[x10_0.v], some11.v] w fun t49_0 t49_1 w1 => nwV w1 (.cells #[.i (-1), .i ((g9.n : Nat) : Int), .i other3] ty_int) fun w2 => 
  L2T g9 x10 x10_0 some11 t49_0 t49_1 ⟨some (nb w1), 3, 3⟩ 0 w2 R
noncomputable def eS1 := entS X [eS3, eS4, eS6, eS5, eL2, eL0] (pth [5]) P5 S1T
theorem L0T_step : ∀ (roots2 : Sl) (other3 : Int) (g9 : Sl) (x10 : Nat) (x10_0 some11 : Sl) (i12 : Int) (w : World) (R : Post) (h : sel (decide (i12 < ((roots2.n : Nat) : Int))) (sel (decide (i12 < 4)) ((0 : Int) ≤ i12 ∧ i12 < ((roots2.n : Nat) : Int) ∧ optP roots2.a fun t39_p => ∃ t40 : Int, w.cell? (t39_p.add (Int.toNat i12 * 1)) = some (.i t40) ∧ 
  cf1 [x10] n_enthymemeref01_Around #[.i t40, .i ((g9.n : Nat) : Int)] w fun t43 w5 => nwV w5 (.cells #[.i t43] ty_int) fun w6 => 
  ∃ (t45 : Sl) (w7 : World), Sem.run Tryz.prog (Builtin.append_ #[ty_sl_int, ty_sl_int] ty_sl_int #[some11.v, .slice (some (nb w5)) 1 1]) w6 = .ok (t45.v) w7 ∧ kept [x10] w6 w7 ∧ L0T roots2 other3 g9 x10 x10_0 t45 (IntKind.wrap .i64 (i12 + 1)) w7 R) (S1T other3 g9 x10 x10_0 some11 w R)) (S1T other3 g9 x10 x10_0 some11 w R)), L0T roots2 other3 g9 x10 x10_0 some11 i12 w R := mp (stepL (X := X) [eS1, eS3, eS4, eS6, eS5, eL2, eL0] (pth [0, 1, 1, 1, 4]) P0)
theorem okT (l0 : Sl) (kind1 : Int) (roots2 : Sl) (other3 : Int) (w : World) (R : Post) (h : ca1 n_enthymemeref01_Around #[.i kind1, .i 3] w fun t22 w1 => ca3 n_enthymemeref07_Made #[l0.v, .i t22, .i 15] w1 fun t23 w2 => newV [] w2 fun b10 w3 => 
  loc [b10] w3 fun w4 => L0T roots2 other3 t23 b10 t23 ⟨none, 0, 0⟩ 0 w4 R) : Calls Tryz.prog n_enthymemelaw07_TermNeeds #[l0.v, .i kind1, roots2.v, .i other3] w R := callsX X [eS1, eS3, eS4, eS6, eS5, eL2, eL0] h
end enthymemelaw07_TermNeeds
end Go.Proofs.YtcifihepfadgfaaGreatDoor
