/- Printed by a program of ours (vcgen.py) from the dump: the conditions of the functions, and that they suffice. -/
import Derived.Test.YtknlbofiicflgaaGreatVG
set_option linter.unusedVariables false
set_option maxRecDepth 100000
set_option maxHeartbeats 2000000
namespace Go.Proofs.YtknlbofiicflgaaGreat
open Go Go.W
namespace enthymemeref04_Nodes
noncomputable abbrev X : Fx := ⟨Tryz.prog, Tryz.f14, [], [1]⟩
abbrev P0 : Ps := [(1, .l [.I, .Y, .Y, .s] ty_enthymemeref04_Regex), (3, .v [.I]), (4, .v [.I])]
def L0T (r1 : Nat) (r1_0 r1_1 r1_2 : Int) (r1_3 : Sl) (n3 i4 : Int) (w : World) (R : Post) : Prop := mkCur P0 0 (X.Sem (pth [0, 1, 1, 1, 2])) r1 r1_0 r1_1 r1_2 r1_3 n3 i4 w R
noncomputable def eL0 := entL X (pth [0, 1, 1, 1, 2]) P0 L0T
abbrev S1T (r1 : Nat) (r1_0 r1_1 r1_2 : Int) (r1_3 : Sl) (n3 i4 : Int) (w : World) (R : Post) : Prop :=
  L0T r1 r1_0 r1_1 r1_2 r1_3 n3 (IntKind.wrap .i64 (i4 + 1)) w R
noncomputable def eS1 := entS X [eL0] (pth [2, 2, 1, 1, 2]) P0 S1T
theorem L0T_step : ∀ (r1 : Nat) (r1_0 r1_1 r1_2 : Int) (r1_3 : Sl) (n3 i4 : Int) (w : World) (R : Post) (h : sel (decide (i4 < ((r1_3.n : Nat) : Int))) ((0 : Int) ≤ i4 ∧ i4 < ((r1_3.n : Nat) : Int) ∧ optP r1_3.a fun t16_p => ld4_0 w (t16_p.add (Int.toNat i4 * 4)) fun t17_0 t17_1 t17_2 t17_3 => cf0 [r1] n_enthymemeref04_Nodes #[.agg #[.i t17_0, .int .u8 t17_1, .int .u8 t17_2, t17_3.v]] w fun t18 w2 => S1T r1 r1_0 r1_1 r1_2 r1_3 (IntKind.wrap .i64 (n3 + t18)) i4 w2 R) (R (.returned (.i n3)) w)), L0T r1 r1_0 r1_1 r1_2 r1_3 n3 i4 w R := mp (stepL (X := X) [eS1, eL0] (pth [0, 1, 1, 1, 2]) P0)
theorem okT (r0_0 r0_1 r0_2 : Int) (r0_3 : Sl) (w : World) (R : Post) (h : newV [] w fun b1 w1 => 
  L0T b1 r0_0 r0_1 r0_2 r0_3 1 0 w1 R) : Calls Tryz.prog n_enthymemeref04_Nodes #[.agg #[.i r0_0, .int .u8 r0_1, .int .u8 r0_2, r0_3.v]] w R := callsX X [eS1, eL0] h
end enthymemeref04_Nodes
namespace enthymemeref04_good
noncomputable abbrev X : Fx := ⟨Tryz.prog, Tryz.f31, [(3,[0,1,2,3,4,5,6,7,8,9,10,11,12,13,14,15,16,17,18,19,20,21,22,23,24,25,26,27,28,29])], [1]⟩
abbrev P0 : Ps := []
abbrev S0T  (w : World) (R : Post) : Prop :=
  R (.returned (.bool false)) w
noncomputable def eS0 := entS X [] (pth [0, 1, 1, 1, 3]) P0 S0T
abbrev S1T  (w : World) (R : Post) : Prop :=
  R (.returned (.bool false)) w
noncomputable def eS1 := entS X [eS0] (pth [0, 1, 1, 1, 4]) P0 S1T
abbrev P1 : Ps := [(1, .l [.I, .Y, .Y, .s] ty_enthymemeref04_Regex), (5, .v [.I])]
def L3T (r1 : Nat) (r1_0 r1_1 r1_2 : Int) (r1_3 : Sl) (i5 : Int) (w : World) (R : Post) : Prop := mkCur P1 0 (X.Sem (pth [0, 1, 1, 1, 5])) r1 r1_0 r1_1 r1_2 r1_3 i5 w R
noncomputable def eL3 := entL X (pth [0, 1, 1, 1, 5]) P1 L3T
theorem L3T_step : ∀ (r1 : Nat) (r1_0 r1_1 r1_2 : Int) (r1_3 : Sl) (i5 : Int) (w : World) (R : Post) (h : sel (decide (i5 < ((r1_3.n : Nat) : Int))) ((0 : Int) ≤ i5 ∧ i5 < ((r1_3.n : Nat) : Int) ∧ optP r1_3.a fun t64_p => ld4_0 w (t64_p.add (Int.toNat i5 * 4)) fun t65_0 t65_1 t65_2 t65_3 => cf1 [r1] n_enthymemeref04_good #[.agg #[.i t65_0, .int .u8 t65_1, .int .u8 t65_2, t65_3.v]] w fun t66 w1 => sel (!t66) (R (.returned (.bool false)) w1) (L3T r1 r1_0 r1_1 r1_2 r1_3 (IntKind.wrap .i64 (i5 + 1)) w1 R)) (R (.returned (.bool true)) w)), L3T r1 r1_0 r1_1 r1_2 r1_3 i5 w R := mp (stepL (X := X) [eL3, eS1, eS0] (pth [0, 1, 1, 1, 5]) P1)
abbrev P2 : Ps := [(1, .l [.I, .Y, .Y, .s] ty_enthymemeref04_Regex)]
abbrev S2T (r1 : Nat) (r1_0 r1_1 r1_2 : Int) (r1_3 : Sl) (w : World) (R : Post) : Prop :=
  L3T r1 r1_0 r1_1 r1_2 r1_3 0 w R
noncomputable def eS2 := entS X [eL3, eS1, eS0] (pth [5]) P2 S2T
theorem okT (r0_0 r0_1 r0_2 : Int) (r0_3 : Sl) (w : World) (R : Post) (h : newV [] w fun b1 w1 => 
  nwV w1 (.cells #[.i 0, .i 0, .i 0, .i 64, .i 64, .i 64, .i 1, .i 1] ty_int) fun w2 => 
  nwV w2 (.cells #[.i 0, .i 0, .i 0, .i 0, .i 0, .i 0, .i 1, .i 1] ty_int) fun w3 => 
  sel (decide (r0_0 < 0)) (loc [b1] w3 fun w4 => S0T  w4 R) (sel (decide (r0_0 > 7)) (loc [b1] w3 fun w4 => S0T  w4 R) ((0 : Int) ≤ r0_0 ∧ r0_0 < ((8 : Nat) : Int) ∧ optP (some (nb w2)) fun t24_p => loc [b1] w3 fun w4 => ∃ t25 : Int, w4.cell? (t24_p.add (Int.toNat r0_0 * 1)) = some (.i t25) ∧ 
  sel (decide (((r0_3.n : Nat) : Int) < t25)) (S0T  w4 R) ((0 : Int) ≤ r0_0 ∧ r0_0 < ((8 : Nat) : Int) ∧ optP (some (nb w1)) fun t35_p => ∃ t36 : Int, w4.cell? (t35_p.add (Int.toNat r0_0 * 1)) = some (.i t36) ∧ 
  sel (decide (((r0_3.n : Nat) : Int) > t36)) (S0T  w4 R) (sel (decide (r0_1 > r0_2)) (S1T  w4 R) (sel (r0_0 != 2) (sel (decide (r0_2 > 0)) (S1T  w4 R) (S2T b1 r0_0 r0_1 r0_2 r0_3 w4 R)) (S2T b1 r0_0 r0_1 r0_2 r0_3 w4 R))))))) : Calls Tryz.prog n_enthymemeref04_good #[.agg #[.i r0_0, .int .u8 r0_1, .int .u8 r0_2, r0_3.v]] w R := callsX X [eS2, eL3, eS1, eS0] h
end enthymemeref04_good
namespace enthymemeref04_Valid
noncomputable abbrev X : Fx := ⟨Tryz.prog, Tryz.f11, [], [1]⟩
theorem okT (r0_0 r0_1 r0_2 : Int) (r0_3 : Sl) (w : World) (R : Post) (h : newV [] w fun b1 w1 => 
  cf0 [b1] n_enthymemeref04_Nodes #[.agg #[.i r0_0, .int .u8 r0_1, .int .u8 r0_2, r0_3.v]] w1 fun t5 w2 => sel (decide (t5 > 64)) (R (.returned (.i 4)) w2) (cf1 [b1] n_enthymemeref04_good #[.agg #[.i r0_0, .int .u8 r0_1, .int .u8 r0_2, r0_3.v]] w2 fun t8 w3 => sel (!t8) (R (.returned (.i 1)) w3) (R (.returned (.i 0)) w3))) : Calls Tryz.prog n_enthymemeref04_Valid #[.agg #[.i r0_0, .int .u8 r0_1, .int .u8 r0_2, r0_3.v]] w R := callsX X [] h
end enthymemeref04_Valid
namespace enthymemeref04_match
noncomputable abbrev X : Fx := ⟨Tryz.prog, Tryz.f40, [(7,[0,1,2,3,4,5,6,7,8,9,10,11,12,13,14,15,16,17]), (14,[0,1,2,3,4,5,6,7,8]), (15,[0,1,2,3,4,5,6,7,8,9,10]), (23,[0,1,2,3,4,5,7,8,9,6,10]), (31,[0,1,2,3,4,5,6,7,8]), (32,[0,1,2,3,4,5,6,7])], [2]⟩
abbrev P0 : Ps := [(1, .v [.st]), (2, .l [.I, .Y, .Y, .s] ty_enthymemeref04_Regex), (5, .v [.I])]
def L0T (s1 : ByteArray) (r2 : Nat) (r2_0 r2_1 r2_2 : Int) (r2_3 : Sl) (i5 : Int) (w : World) (R : Post) : Prop := mkCur P0 0 (X.Sem (pth [0, 1, 1, 1, 1, 1, 7, 1, 1, 1, 1])) s1 r2 r2_0 r2_1 r2_2 r2_3 i5 w R
noncomputable def eL0 := entL X (pth [0, 1, 1, 1, 1, 1, 7, 1, 1, 1, 1]) P0 L0T
abbrev S1T (s1 : ByteArray) (r2 : Nat) (r2_0 r2_1 r2_2 : Int) (r2_3 : Sl) (i5 : Int) (w : World) (R : Post) : Prop :=
  L0T s1 r2 r2_0 r2_1 r2_2 r2_3 (IntKind.wrap .i64 (i5 + 1)) w R
noncomputable def eS1 := entS X [eL0] (pth [2, 2, 1, 1, 1, 1, 7, 1, 1, 1, 1]) P0 S1T
theorem L0T_step : ∀ (s1 : ByteArray) (r2 : Nat) (r2_0 r2_1 r2_2 : Int) (r2_3 : Sl) (i5 : Int) (w : World) (R : Post) (h : sel (decide (i5 ≤ ((s1.size : Nat) : Int))) ((0 : Int) ≤ 0 ∧ 0 < ((r2_3.n : Nat) : Int) ∧ optP r2_3.a fun t53_p => loc [r2] w fun w3 => ld4_0 w3 (t53_p.add (Int.toNat 0 * 4)) fun t54_0 t54_1 t54_2 t54_3 => (0 : Int) ≤ i5 ∧ i5 ≤ ((s1.size : Nat) : Int) ∧ cf1 [r2] n_enthymemeref04_match #[.agg #[.i t54_0, .int .u8 t54_1, .int .u8 t54_2, t54_3.v], .string (s1.extract 0 (Int.toNat i5))] w3 fun t58 w4 => sel t58 ((0 : Int) ≤ 1 ∧ 1 ≤ ((r2_3.n : Nat) : Int) ∧ (0 : Int) ≤ i5 ∧ i5 ≤ ((s1.size : Nat) : Int) ∧ loc [r2] w4 fun w5 => cf1 [r2] n_enthymemeref04_match #[.agg #[.i 3, .int .u8 0, .int .u8 0, .slice (if r2_3.c = (Int.toNat 1) then r2_3.a else r2_3.a.map (·.add ((Int.toNat 1) * 4))) (r2_3.n - (Int.toNat 1)) (r2_3.c - (Int.toNat 1))], .string (s1.extract (Int.toNat i5) s1.size)] w5 fun t68 w6 => sel t68 (R (.returned (.bool true)) w6) (S1T s1 r2 r2_0 r2_1 r2_2 r2_3 i5 w6 R)) (loc [r2] w4 fun w5 => S1T s1 r2 r2_0 r2_1 r2_2 r2_3 i5 w5 R)) (R (.returned (.bool false)) w)), L0T s1 r2 r2_0 r2_1 r2_2 r2_3 i5 w R := mp (stepL (X := X) [eS1, eL0] (pth [0, 1, 1, 1, 1, 1, 7, 1, 1, 1, 1]) P0)
abbrev P1 : Ps := [(1, .v [.st]), (2, .l [.I, .Y, .Y, .s] ty_enthymemeref04_Regex), (7, .v [.I])]
def L3T (s1 : ByteArray) (r2 : Nat) (r2_0 r2_1 r2_2 : Int) (r2_3 : Sl) (i7 : Int) (w : World) (R : Post) : Prop := mkCur P1 0 (X.Sem (pth [0, 1, 1, 2, 9, 1, 1, 1, 1])) s1 r2 r2_0 r2_1 r2_2 r2_3 i7 w R
noncomputable def eL3 := entL X (pth [0, 1, 1, 2, 9, 1, 1, 1, 1]) P1 L3T
theorem L3T_step : ∀ (s1 : ByteArray) (r2 : Nat) (r2_0 r2_1 r2_2 : Int) (r2_3 : Sl) (i7 : Int) (w : World) (R : Post) (h : sel (decide (i7 < ((r2_3.n : Nat) : Int))) ((0 : Int) ≤ i7 ∧ i7 < ((r2_3.n : Nat) : Int) ∧ optP r2_3.a fun t83_p => loc [r2] w fun w1 => ld4_0 w1 (t83_p.add (Int.toNat i7 * 4)) fun t84_0 t84_1 t84_2 t84_3 => cf1 [r2] n_enthymemeref04_match #[.agg #[.i t84_0, .int .u8 t84_1, .int .u8 t84_2, t84_3.v], .string s1] w1 fun t86 w2 => sel (t86 == (r2_0 == 4)) (R (.returned (.bool (r2_0 == 4))) w2) (L3T s1 r2 r2_0 r2_1 r2_2 r2_3 (IntKind.wrap .i64 (i7 + 1)) w2 R)) (R (.returned (.bool (r2_0 == 5))) w)), L3T s1 r2 r2_0 r2_1 r2_2 r2_3 i7 w R := mp (stepL (X := X) [eL3, eS1, eL0] (pth [0, 1, 1, 2, 9, 1, 1, 1, 1]) P1)
abbrev P2 : Ps := [(1, .v [.st]), (2, .l [.I, .Y, .Y, .s] ty_enthymemeref04_Regex)]
abbrev S2T (s1 : ByteArray) (r2 : Nat) (r2_0 r2_1 r2_2 : Int) (r2_3 : Sl) (w : World) (R : Post) : Prop :=
  L3T s1 r2 r2_0 r2_1 r2_2 r2_3 0 w R
noncomputable def eS2 := entS X [eL3, eS1, eL0] (pth [0, 1, 9, 1, 1, 1, 1]) P2 S2T
abbrev P3 : Ps := [(1, .v [.st]), (2, .l [.I, .Y, .Y, .s] ty_enthymemeref04_Regex), (8, .v [.I])]
def L5T (s1 : ByteArray) (r2 : Nat) (r2_0 r2_1 r2_2 : Int) (r2_3 : Sl) (i8 : Int) (w : World) (R : Post) : Prop := mkCur P3 0 (X.Sem (pth [0, 1, 1, 1, 2])) s1 r2 r2_0 r2_1 r2_2 r2_3 i8 w R
noncomputable def eL5 := entL X (pth [0, 1, 1, 1, 2]) P3 L5T
abbrev S6T (s1 : ByteArray) (r2 : Nat) (r2_0 r2_1 r2_2 : Int) (r2_3 : Sl) (i8 : Int) (w : World) (R : Post) : Prop :=
  L5T s1 r2 r2_0 r2_1 r2_2 r2_3 (IntKind.wrap .i64 (i8 + 1)) w R
noncomputable def eS6 := entS X [eL5, eS2, eL3, eS1, eL0] (pth [2, 2, 1, 1, 2]) P3 S6T
theorem L5T_step : ∀ (s1 : ByteArray) (r2 : Nat) (r2_0 r2_1 r2_2 : Int) (r2_3 : Sl) (i8 : Int) (w : World) (R : Post) (h : sel (decide (i8 ≤ ((s1.size : Nat) : Int))) ((0 : Int) ≤ 0 ∧ 0 < ((r2_3.n : Nat) : Int) ∧ optP r2_3.a fun t114_p => loc [r2] w fun w2 => ld4_0 w2 (t114_p.add (Int.toNat 0 * 4)) fun t115_0 t115_1 t115_2 t115_3 => (0 : Int) ≤ i8 ∧ i8 ≤ ((s1.size : Nat) : Int) ∧ cf1 [r2] n_enthymemeref04_match #[.agg #[.i t115_0, .int .u8 t115_1, .int .u8 t115_2, t115_3.v], .string (s1.extract 0 (Int.toNat i8))] w2 fun t119 w3 => sel t119 ((0 : Int) ≤ i8 ∧ i8 ≤ ((s1.size : Nat) : Int) ∧ loc [r2] w3 fun w4 => cf1 [r2] n_enthymemeref04_match #[.agg #[.i r2_0, .int .u8 r2_1, .int .u8 r2_2, r2_3.v], .string (s1.extract (Int.toNat i8) s1.size)] w4 fun t126 w5 => sel t126 (R (.returned (.bool true)) w5) (S6T s1 r2 r2_0 r2_1 r2_2 r2_3 i8 w5 R)) (loc [r2] w3 fun w4 => S6T s1 r2 r2_0 r2_1 r2_2 r2_3 i8 w4 R)) (R (.returned (.bool (s1.toList == (ByteArray.mk #[]).toList))) w)), L5T s1 r2 r2_0 r2_1 r2_2 r2_3 i8 w R := mp (stepL (X := X) [eS6, eL5, eS2, eL3, eS1, eL0] (pth [0, 1, 1, 1, 2]) P3)
abbrev P4 : Ps := [(1, .v [.st]), (2, .l [.I, .Y, .Y, .s] ty_enthymemeref04_Regex), (11, .v [.I])]
abbrev S4T (s1 : ByteArray) (r2 : Nat) (r2_0 r2_1 r2_2 : Int) (r2_3 : Sl) (t11 : Int) (w : World) (R : Post) : Prop :=
  sel (t11 == 6) ((0 : Int) ≤ 0 ∧ 0 < ((r2_3.n : Nat) : Int) ∧ optP r2_3.a fun t101_p => ld4_0 w (t101_p.add (Int.toNat 0 * 4)) fun t102_0 t102_1 t102_2 t102_3 => cf1 [r2] n_enthymemeref04_match #[.agg #[.i t102_0, .int .u8 t102_1, .int .u8 t102_2, t102_3.v], .string s1] w fun t104 w1 => R (.returned (.bool (!t104))) w1) (L5T s1 r2 r2_0 r2_1 r2_2 r2_3 1 w R)
noncomputable def eS4 := entS X [eS6, eL5, eS2, eL3, eS1, eL0] (pth [10, 1, 1, 1, 1]) P4 S4T
theorem okT (r0_0 r0_1 r0_2 : Int) (r0_3 : Sl) (s1 : ByteArray) (w : World) (R : Post) (h : newV [] w fun b2 w1 => 
  sel (r0_0 == 0) (R (.returned (.bool false)) w1) (sel (r0_0 == 1) (R (.returned (.bool (s1.toList == (ByteArray.mk #[]).toList))) w1) (sel (r0_0 == 2) (sel (((s1.size : Nat) : Int) == 1) ((0 : Int) ≤ 0 ∧ ∃ t27_b : UInt8, s1[Int.toNat 0]? = some t27_b ∧ sel (decide (r0_1 ≤ ((t27_b.toNat : Nat) : Int))) ((0 : Int) ≤ 0 ∧ ∃ t32_b : UInt8, s1[Int.toNat 0]? = some t32_b ∧ loc [b2] w1 fun w2 => R (.returned (.bool (decide (((t32_b.toNat : Nat) : Int) ≤ r0_2)))) w2) (loc [b2] w1 fun w2 => R (.returned (.bool false)) w2)) (loc [b2] w1 fun w2 => R (.returned (.bool false)) w2)) (sel (r0_0 == 3) (sel (((r0_3.n : Nat) : Int) == 0) (R (.returned (.bool (s1.toList == (ByteArray.mk #[]).toList))) w1) (L0T s1 b2 r0_0 r0_1 r0_2 r0_3 0 w1 R)) (sel (r0_0 == 4) (sel (r0_0 == 4) (S2T s1 b2 r0_0 r0_1 r0_2 r0_3 w1 R) (S4T s1 b2 r0_0 r0_1 r0_2 r0_3 r0_0 w1 R)) (sel (r0_0 == 5) (S2T s1 b2 r0_0 r0_1 r0_2 r0_3 w1 R) (S4T s1 b2 r0_0 r0_1 r0_2 r0_3 r0_0 w1 R))))))) : Calls Tryz.prog n_enthymemeref04_match #[.agg #[.i r0_0, .int .u8 r0_1, .int .u8 r0_2, r0_3.v], .string s1] w R := callsX X [eS4, eS6, eL5, eS2, eL3, eS1, eL0] h
end enthymemeref04_match
namespace enthymemeref04_Match
noncomputable abbrev X : Fx := ⟨Tryz.prog, Tryz.f19, [], [2]⟩
theorem okT (r0_0 r0_1 r0_2 : Int) (r0_3 : Sl) (s1 : ByteArray) (w : World) (R : Post) (h : newV [] w fun b2 w1 => 
  cf0 [b2] n_enthymemeref04_Valid #[.agg #[.i r0_0, .int .u8 r0_1, .int .u8 r0_2, r0_3.v]] w1 fun t8 w2 => sel (t8 != 0) (R (.returned (.tuple #[.bool false, .i t8])) w2) (sel (decide (((s1.size : Nat) : Int) > 64)) (R (.returned (.tuple #[.bool false, .i 4])) w2) (cf1 [b2] n_enthymemeref04_match #[.agg #[.i r0_0, .int .u8 r0_1, .int .u8 r0_2, r0_3.v], .string s1] w2 fun t17 w3 => R (.returned (.tuple #[.bool t17, .i 0])) w3))) : Calls Tryz.prog n_enthymemeref04_Match #[.agg #[.i r0_0, .int .u8 r0_1, .int .u8 r0_2, r0_3.v], .string s1] w R := callsX X [] h
end enthymemeref04_Match
namespace enthymemeref04_Nullable
noncomputable abbrev X : Fx := ⟨Tryz.prog, Tryz.f21, [], [1]⟩
theorem okT (r0_0 r0_1 r0_2 : Int) (r0_3 : Sl) (w : World) (R : Post) (h : newV [] w fun b1 w1 => 
  cf0 [b1] n_enthymemeref04_Valid #[.agg #[.i r0_0, .int .u8 r0_1, .int .u8 r0_2, r0_3.v]] w1 fun t6 w2 => sel (t6 != 0) (R (.returned (.tuple #[.bool false, .i t6])) w2) (cf1 [b1] n_enthymemeref04_match #[.agg #[.i r0_0, .int .u8 r0_1, .int .u8 r0_2, r0_3.v], .s0] w2 fun t11 w3 => R (.returned (.tuple #[.bool t11, .i 0])) w3)) : Calls Tryz.prog n_enthymemeref04_Nullable #[.agg #[.i r0_0, .int .u8 r0_1, .int .u8 r0_2, r0_3.v]] w R := callsX X [] h
end enthymemeref04_Nullable
end Go.Proofs.YtknlbofiicflgaaGreat
