/- Printed by a program of ours (vcgen.py) from the dump: the conditions of the functions, and that they suffice. -/
import Derived.Test.YtknlbofiicflgaaGreatVL
import Derived.Test.YtknlbofiicflgaaGreatVG
import Derived.Test.YtknlbofiicflgaaGreatVM
import Derived.Test.YtknlbofiicflgaaGreatVH
import Derived.Test.YtknlbofiicflgaaGreatVI
import Derived.Test.YtknlbofiicflgaaGreatVW
set_option linter.unusedVariables false
set_option maxRecDepth 100000
set_option maxHeartbeats 2000000
namespace Go.Proofs.YtknlbofiicflgaaGreat
open Go Go.W
namespace enthymemelaw04_RegexNormal
noncomputable abbrev X : Fx := ⟨Tryz.prog, Tryz.f3, [(2,[0,1,2,3,4,5,6]), (8,[0,1,2,3,6,7,8,9,4,5,10,11,12,13,14,15,16,17,18,19,20,21,22]), (12,[0,1,2,3,4,5,6,7,8,9,12,13,14,15,10,11,16,17,18,19]), (17,[0,1,2,3,5,6,7,8,4,9,10,11,12,13,14,15]), (18,[0,1,2,3,4,5,6,7,8,9,10,11])], [9, 12, 14, 16]⟩
abbrev P0 : Ps := [(3, .v [.s]), (10, .v [.s]), (11, .v [.I])]
def L0T (words3 all10 : Sl) (i11 : Int) (w : World) (R : Post) : Prop := mkCur P0 0 (X.Sem (pth [0, 1, 1, 1, 3])) words3 all10 i11 w R
noncomputable def eL0 := entL X (pth [0, 1, 1, 1, 3]) P0 L0T
abbrev P1 : Ps := []
abbrev S1T  (w : World) (R : Post) : Prop :=
  R (.returned (.bool false)) w
noncomputable def eS1 := entS X [eL0] (pth [0, 1, 1, 1, 2, 2, 1, 2, 1, 1, 3]) P1 S1T
abbrev S2T (words3 all10 : Sl) (i11 : Int) (w : World) (R : Post) : Prop :=
  L0T words3 all10 (IntKind.wrap .i64 (i11 + 1)) w R
noncomputable def eS2 := entS X [eS1, eL0] (pth [2, 2, 1, 1, 3]) P0 S2T
abbrev S3T  (w : World) (R : Post) : Prop :=
  R (.returned (.bool false)) w
noncomputable def eS3 := entS X [eS2, eS1, eL0] (pth [0, 1, 1, 1, 5, 2, 1, 2, 1, 1, 3]) P1 S3T
abbrev P2 : Ps := [(3, .v [.s]), (10, .v [.s]), (11, .v [.I]), (12, .l [.I, .Y, .Y, .s] ty_regex_Regex), (18, .v [.I])]
def L4T (words3 all10 : Sl) (i11 : Int) (a12 : Nat) (a12_0 a12_1 a12_2 : Int) (a12_3 : Sl) (k18 : Int) (w : World) (R : Post) : Prop := mkCur P2 0 (X.Sem (pth [0, 1, 7, 2, 1, 2, 1, 1, 3])) words3 all10 i11 a12 a12_0 a12_1 a12_2 a12_3 k18 w R
noncomputable def eL4 := entL X (pth [0, 1, 7, 2, 1, 2, 1, 1, 3]) P2 L4T
abbrev S5T  (w : World) (R : Post) : Prop :=
  R (.returned (.bool false)) w
noncomputable def eS5 := entS X [eL4, eS3, eS2, eS1, eL0] (pth [0, 1, 3, 2, 1, 2, 7, 2, 1, 2, 1, 1, 3]) P1 S5T
theorem L4T_step : ∀ (words3 all10 : Sl) (i11 : Int) (a12 : Nat) (a12_0 a12_1 a12_2 : Int) (a12_3 : Sl) (k18 : Int) (w : World) (R : Post) (h : sel (decide (k18 < ((words3.n : Nat) : Int))) (sel (decide (k18 < 6)) ((0 : Int) ≤ i11 ∧ i11 < ((all10.n : Nat) : Int) ∧ optP all10.a fun t115_p => loc [a12] w fun w39 => ld4_0 w39 (t115_p.add (Int.toNat i11 * 4)) fun t116_0 t116_1 t116_2 t116_3 => (0 : Int) ≤ k18 ∧ k18 < ((words3.n : Nat) : Int) ∧ optP words3.a fun t120_p => ∃ t121 : Int, w39.cell? (t120_p.add (Int.toNat k18 * 1)) = some (.i t121) ∧ 
  cf2 [a12] n_enthymemelaw04_own #[.agg #[.i t116_0, .int .u8 t116_1, .int .u8 t116_2, t116_3.v]] w39 fun t117_0 t117_1 t117_2 t117_3 w40 => w40.cell? (t120_p.add (Int.toNat k18 * 1)) = some (.i t121) ∧ cf15 [a12] n_enthymemeref04_Word #[.i t121] w40 fun t122 w41 => cf14 [a12] n_regex_Match #[.agg #[.i t117_0, .int .u8 t117_1, .int .u8 t117_2, t117_3.v], .string t122] w41 fun t123_0 t123_1 w42 => (0 : Int) ≤ k18 ∧ k18 < ((words3.n : Nat) : Int) ∧ optP words3.a fun t130_p => loc [a12] w42 fun w43 => ∃ t131 : Int, w43.cell? (t130_p.add (Int.toNat k18 * 1)) = some (.i t131) ∧ 
  cf15 [a12] n_enthymemeref04_Word #[.i t131] w43 fun t132 w44 => cf14 [a12] n_regex_Match #[.agg #[.i a12_0, .int .u8 a12_1, .int .u8 a12_2, a12_3.v], .string t132] w44 fun t133_0 t133_1 w45 => sel (t123_1 != 0) (S5T  w45 R) (sel (t133_1 != 0) (S5T  w45 R) (sel (!(t123_0 == t133_0)) (S5T  w45 R) (L4T words3 all10 i11 a12 a12_0 a12_1 a12_2 a12_3 (IntKind.wrap .i64 (k18 + 1)) w45 R)))) (S2T words3 all10 i11 w R)) (S2T words3 all10 i11 w R)), L4T words3 all10 i11 a12 a12_0 a12_1 a12_2 a12_3 k18 w R := mp (stepL (X := X) [eS5, eL4, eS3, eS2, eS1, eL0] (pth [0, 1, 7, 2, 1, 2, 1, 1, 3]) P2)
theorem L0T_step : ∀ (words3 all10 : Sl) (i11 : Int) (w : World) (R : Post) (h : sel (decide (i11 < 2)) ((0 : Int) ≤ i11 ∧ i11 < ((all10.n : Nat) : Int) ∧ optP all10.a fun t38_p => ld4_0 w (t38_p.add (Int.toNat i11 * 4)) fun t39_0 t39_1 t39_2 t39_3 => ca2 n_enthymemelaw04_own #[.agg #[.i t39_0, .int .u8 t39_1, .int .u8 t39_2, t39_3.v]] w fun t40_0 t40_1 t40_2 t40_3 w10 => ca6 n_regex_Normal #[.agg #[.i t40_0, .int .u8 t40_1, .int .u8 t40_2, t40_3.v]] w10 fun t41_0_0 t41_0_1 t41_0_2 t41_0_3 t41_1 w11 => newV [] w11 fun b12 w12 => 
  (0 : Int) ≤ i11 ∧ i11 < ((all10.n : Nat) : Int) ∧ optP all10.a fun t47_p => loc [b12] w12 fun w16 => ld4_0 w16 (t47_p.add (Int.toNat i11 * 4)) fun t48_0 t48_1 t48_2 t48_3 => cf6 [b12] n_enthymemeref04_Normal #[.agg #[.i t48_0, .int .u8 t48_1, .int .u8 t48_2, t48_3.v]] w16 fun t49_0_0 t49_0_1 t49_0_2 t49_0_3 t49_1 w17 => newV [b12] w17 fun b14 w18 => 
  (0 : Int) ≤ i11 ∧ i11 < ((all10.n : Nat) : Int) ∧ optP all10.a fun t54_p => loc [b12, b14] w18 fun w23 => ld4_0 w23 (t54_p.add (Int.toNat i11 * 4)) fun t55_0 t55_1 t55_2 t55_3 => (0 : Int) ≤ i11 ∧ i11 < ((all10.n : Nat) : Int) ∧ optP all10.a fun t60_p => ld4_0 w23 (t60_p.add (Int.toNat i11 * 4)) fun t61_0 t61_1 t61_2 t61_3 => cf2 [b12, b14] n_enthymemelaw04_own #[.agg #[.i t55_0, .int .u8 t55_1, .int .u8 t55_2, t55_3.v]] w23 fun t56_0 t56_1 t56_2 t56_3 w24 => hdW4 w24 (t60_p.add (Int.toNat i11 * 4)) (.i t61_0) (.int .u8 t61_1) (.int .u8 t61_2) (t61_3.v) fun _ => cf0 [b12, b14] n_regex_Valid #[.agg #[.i t56_0, .int .u8 t56_1, .int .u8 t56_2, t56_3.v]] w24 fun t57 w25 => hdW4 w25 (t60_p.add (Int.toNat i11 * 4)) (.i t61_0) (.int .u8 t61_1) (.int .u8 t61_2) (t61_3.v) fun _ => cf0 [b12, b14] n_enthymemeref04_Valid #[.agg #[.i t61_0, .int .u8 t61_1, .int .u8 t61_2, t61_3.v]] w25 fun t62 w26 => sel (t57 != t62) (S1T  w26 R) (sel (t41_1 != t49_1) (S1T  w26 R) (cf1 [b12, b14] n_enthymemelaw04_same #[.agg #[.i t41_0_0, .int .u8 t41_0_1, .int .u8 t41_0_2, t41_0_3.v], .agg #[.i t49_0_0, .int .u8 t49_0_1, .int .u8 t49_0_2, t49_0_3.v]] w26 fun t72 w27 => sel (!t72) (S1T  w27 R) (sel (t41_1 != 0) (S2T words3 all10 i11 w27 R) (cf6 [b12, b14] n_regex_Normal #[.agg #[.i t41_0_0, .int .u8 t41_0_1, .int .u8 t41_0_2, t41_0_3.v]] w27 fun t79_0_0 t79_0_1 t79_0_2 t79_0_3 t79_1 w28 => newV [b12, b14] w28 fun b16 w29 => 
  sel (t79_1 != 0) (loc [b12, b14, b16] w29 fun w34 => S3T  w34 R) (loc [b12, b14, b16] w29 fun w34 => cf0 [b12, b14, b16] n_regex_Compare #[.agg #[.i t41_0_0, .int .u8 t41_0_1, .int .u8 t41_0_2, t41_0_3.v], .agg #[.i t79_0_0, .int .u8 t79_0_1, .int .u8 t79_0_2, t79_0_3.v]] w34 fun t87 w35 => sel (t87 != 0) (S3T  w35 R) ((0 : Int) ≤ i11 ∧ i11 < ((all10.n : Nat) : Int) ∧ optP all10.a fun t96_p => ld4_0 w35 (t96_p.add (Int.toNat i11 * 4)) fun t97_0 t97_1 t97_2 t97_3 => cf2 [b12, b14, b16] n_enthymemelaw04_plain #[.agg #[.i t41_0_0, .int .u8 t41_0_1, .int .u8 t41_0_2, t41_0_3.v]] w35 fun t92_0 t92_1 t92_2 t92_3 w36 => hdW4 w36 (t96_p.add (Int.toNat i11 * 4)) (.i t97_0) (.int .u8 t97_1) (.int .u8 t97_2) (t97_3.v) fun _ => cf0 [b12, b14, b16] n_enthymemeref04_Nodes #[.agg #[.i t92_0, .int .u8 t92_1, .int .u8 t92_2, t92_3.v]] w36 fun t93 w37 => hdW4 w37 (t96_p.add (Int.toNat i11 * 4)) (.i t97_0) (.int .u8 t97_1) (.int .u8 t97_2) (t97_3.v) fun _ => cf0 [b12, b14, b16] n_enthymemeref04_Nodes #[.agg #[.i t97_0, .int .u8 t97_1, .int .u8 t97_2, t97_3.v]] w37 fun t98 w38 => sel (decide (t93 > (IntKind.wrap .i64 (2 * t98)))) (S3T  w38 R) (L4T words3 all10 i11 b12 t41_0_0 t41_0_1 t41_0_2 t41_0_3 0 w38 R)))))))) (ca1 n_enthymemelaw04_lives #[] w fun t147 w46 => R (.returned (.bool t147)) w46)), L0T words3 all10 i11 w R := mp (stepL (X := X) [eS5, eL4, eS3, eS2, eS1, eL0] (pth [0, 1, 1, 1, 3]) P0)
theorem okT (l0 : Sl) (how1 by2 : Int) (words3 : Sl) (w : World) (R : Post) (h : ca2 n_enthymemeref04_Made #[l0.v] w fun t24_0 t24_1 t24_2 t24_3 w1 => newV [] w1 fun b9 w2 => 
  loc [b9] w2 fun w7 => cf2 [b9] n_enthymemeref04_Spoilt #[.agg #[.i t24_0, .int .u8 t24_1, .int .u8 t24_2, t24_3.v], .i how1, .i by2] w7 fun t29_0 t29_1 t29_2 t29_3 w8 => nwV w8 (.cells #[.i t24_0, .int .u8 t24_1, .int .u8 t24_2, t24_3.v, .i t29_0, .int .u8 t29_1, .int .u8 t29_2, t29_3.v] ty_enthymemeref04_Regex) fun w9 => 
  L0T words3 ⟨some (nb w8), 2, 2⟩ 0 w9 R) : Calls Tryz.prog n_enthymemelaw04_RegexNormal #[l0.v, .i how1, .i by2, words3.v] w R := callsX X [eS5, eL4, eS3, eS2, eS1, eL0] h
end enthymemelaw04_RegexNormal
end Go.Proofs.YtknlbofiicflgaaGreat
