/- Printed by a program of ours (vcgen.py) from the dump: the conditions of the functions, and that they suffice. Printed by a program of ours (vcgen.py) from the dump: the conditions of the functions, and that they suffice. Printed by a program of ours (vcgen.py) from the dump: the conditions of the functions, and that they suffice. Printed by a program of ours (vcgen.py) from the dump: the conditions of the functions, and that they suffice. Printed by a program of ours (vcgen.py) from the dump: the conditions of the functions, and that they suffice. Printed by a program of ours (vcgen.py) from the dump: the conditions of the functions, and that they suffice. -/
import Derived.Test.YtnpkhgljhcnpcaaGreatDoorV
set_option linter.unusedVariables false
set_option linter.unusedVariables false
set_option maxRecDepth 100000
set_option maxHeartbeats 2000000
namespace Go.Proofs.YtnpkhgljhcnpcaaGreatDoor
open Go Go.W
namespace enthymemeref06_within
noncomputable abbrev X : Fx := ⟨Tryz.prog, Tryz.f32, [], []⟩
theorem ok (n0 lo1 hi2 : Int) (w : World) (R : Post) (h : sel (decide (n0 ≥ lo1)) (R (.returned (.bool (decide (n0 ≤ hi2)))) w) (R (.returned (.bool false)) w)) : Calls Tryz.prog n_enthymemeref06_within #[.i n0, .i lo1, .i hi2] w R := callsX X [] h
end enthymemeref06_within
namespace enthymemeref06_ValidSort
noncomputable abbrev X : Fx := ⟨Tryz.prog, Tryz.f15, [], [1]⟩
abbrev P0 : Ps := [(3, .v [.b])]
abbrev S0T (fine3 : Bool) (w : World) (R : Post) : Prop :=
  sel (!fine3) (R (.returned (.i 9)) w) (R (.returned (.i 0)) w)
noncomputable def eS0 := entS X [] (pth [3]) P0 S0T
theorem okT (s0_0 s0_1 s0_2 : Int) (w : World) (R : Post) (h : newV [] w fun b1 w1 => 
  sel (s0_0 == 0) (cf0 [b1] n_enthymemeref06_within #[.i s0_1, .i 1, .i 64] w1 fun t10 w2 => sel t10 (S0T (s0_2 == 0) w2 R) (S0T false w2 R)) (sel (s0_0 == 1) (cf0 [b1] n_enthymemeref06_within #[.i s0_1, .i 0, .i 64] w1 fun t20 w3 => sel t20 (S0T (s0_2 == 0) w3 R) (S0T false w3 R)) (sel (s0_0 == 2) (cf0 [b1] n_enthymemeref06_within #[.i s0_1, .i 1, .i 64] w1 fun t30 w4 => sel t30 (cf0 [b1] n_enthymemeref06_within #[.i s0_2, .i 1, .i 16] w4 fun t34 w5 => S0T t34 w5 R) (S0T false w4 R)) (sel (s0_0 == 3) (cf0 [b1] n_enthymemeref06_within #[.i s0_1, .i 0, .i 64] w1 fun t40 w6 => sel t40 (cf0 [b1] n_enthymemeref06_within #[.i s0_2, .i 1, .i 16] w6 fun t44 w7 => S0T t44 w7 R) (S0T false w6 R)) (S0T false w1 R))))) : Calls Tryz.prog n_enthymemeref06_ValidSort #[.agg #[.i s0_0, .i s0_1, .i s0_2]] w R := callsX X [eS0] h
end enthymemeref06_ValidSort
end Go.Proofs.YtnpkhgljhcnpcaaGreatDoor
set_option linter.unusedVariables false
set_option maxRecDepth 100000
set_option maxHeartbeats 2000000
namespace Go.Proofs.YtnpkhgljhcnpcaaGreatDoor
open Go Go.W
namespace value_ValidSort
noncomputable abbrev X : Fx := ⟨Tryz.prog, Tryz.f13, [], [1]⟩
abbrev P0 : Ps := []
abbrev S1T  (w : World) (R : Post) : Prop :=
  R (.returned (.i 9)) w
noncomputable def eS1 := entS X [] (pth [0, 1, 1, 1, 3]) P0 S1T
abbrev S2T  (w : World) (R : Post) : Prop :=
  R (.returned (.i 9)) w
noncomputable def eS2 := entS X [eS1] (pth [0, 1, 1, 1, 4]) P0 S2T
abbrev S3T  (w : World) (R : Post) : Prop :=
  R (.returned (.i 0)) w
noncomputable def eS3 := entS X [eS2, eS1] (pth [5]) P0 S3T
abbrev P1 : Ps := [(1, .l [.I, .I, .I] ty_api_Sort), (3, .v [.I]), (4, .v [.I]), (5, .v [.b])]
abbrev S0T (s1 : Nat) (s1_0 s1_1 s1_2 least3 most4 : Int) (index5 : Bool) (w : World) (R : Post) : Prop :=
  sel (decide (s1_1 < least3)) (S1T  w R) (sel (decide (s1_1 > most4)) (S1T  w R) (sel index5 (sel (decide (s1_2 < 1)) (S2T  w R) (sel (decide (s1_2 > 16)) (S2T  w R) (sel (!index5) (sel (s1_2 != 0) (S2T  w R) (S3T  w R)) (S3T  w R)))) (sel (!index5) (sel (s1_2 != 0) (S2T  w R) (S3T  w R)) (S3T  w R))))
noncomputable def eS0 := entS X [eS3, eS2, eS1] (pth [3]) P1 S0T
theorem okT (s0_0 s0_1 s0_2 : Int) (w : World) (R : Post) (h : newV [] w fun b1 w1 => 
  sel (s0_0 == 0) (S0T b1 s0_0 s0_1 s0_2 1 64 false w1 R) (sel (s0_0 == 1) (S0T b1 s0_0 s0_1 s0_2 0 64 false w1 R) (sel (s0_0 == 2) (S0T b1 s0_0 s0_1 s0_2 1 64 true w1 R) (sel (s0_0 == 3) (S0T b1 s0_0 s0_1 s0_2 0 64 true w1 R) (R (.returned (.i 9)) w1))))) : Calls Tryz.prog n_value_ValidSort #[.agg #[.i s0_0, .i s0_1, .i s0_2]] w R := callsX X [eS0, eS3, eS2, eS1] h
end value_ValidSort
namespace term_isName
noncomputable abbrev X : Fx := ⟨Tryz.prog, Tryz.f114, [], []⟩
abbrev P0 : Ps := []
abbrev S0  (w : World) (R : Post) : Prop :=
  R (.returned (.bool false)) w
noncomputable def eS0 := entS X [] (pth [0, 1, 1, 1, 1]) P0 S0
abbrev P1 : Ps := [(0, .v [.st]), (3, .v [.I])]
def L1 (s0 : ByteArray) (i3 : Int) (w : World) (R : Post) : Prop := mkCur P1 0 (X.Sem (pth [0, 1, 1, 1, 2])) s0 i3 w R
noncomputable def eL1 := entL X (pth [0, 1, 1, 1, 2]) P1 L1
abbrev S4  (w : World) (R : Post) : Prop :=
  R (.returned (.bool false)) w
noncomputable def eS4 := entS X [eL1, eS0] (pth [0, 1, 3, 2, 1, 2, 1, 1, 2]) P0 S4
abbrev S5 (s0 : ByteArray) (i3 : Int) (w : World) (R : Post) : Prop :=
  L1 s0 (IntKind.wrap .i64 (i3 + 1)) w R
noncomputable def eS5 := entS X [eS4, eL1, eS0] (pth [2, 2, 1, 1, 2]) P1 S5
abbrev P2 : Ps := [(0, .v [.st]), (3, .v [.I]), (4, .v [.Y]), (5, .v [.b])]
abbrev S3 (s0 : ByteArray) (i3 c4 : Int) (letter5 : Bool) (w : World) (R : Post) : Prop :=
  sel (!letter5) (sel (i3 == 0) (S4  w R) (sel (c4 != 45) (sel (decide (c4 < 48)) (S4  w R) (sel (decide (c4 > 57)) (S4  w R) (S5 s0 i3 w R))) (S5 s0 i3 w R))) (S5 s0 i3 w R)
noncomputable def eS3 := entS X [eS5, eS4, eL1, eS0] (pth [2, 2, 1, 2, 1, 1, 2]) P2 S3
abbrev P3 : Ps := [(0, .v [.st]), (3, .v [.I]), (4, .v [.Y])]
abbrev S2 (s0 : ByteArray) (i3 c4 : Int) (w : World) (R : Post) : Prop :=
  sel (decide (c4 ≥ 97)) (S3 s0 i3 c4 (decide (c4 ≤ 122)) w R) (S3 s0 i3 c4 false w R)
noncomputable def eS2 := entS X [eS3, eS5, eS4, eL1, eS0] (pth [1, 2, 1, 2, 1, 1, 2]) P3 S2
theorem L1_step : ∀ (s0 : ByteArray) (i3 : Int) (w : World) (R : Post) (h : sel (decide (i3 < ((s0.size : Nat) : Int))) ((0 : Int) ≤ i3 ∧ ∃ t22_b : UInt8, s0[Int.toNat i3]? = some t22_b ∧ S2 s0 i3 ((t22_b.toNat : Nat) : Int) w R) (R (.returned (.bool true)) w)), L1 s0 i3 w R := mp (stepL (X := X) [eS2, eS3, eS5, eS4, eL1, eS0] (pth [0, 1, 1, 1, 2]) P1)
theorem ok (s0 : ByteArray) (w : World) (R : Post) (h : sel (decide (((s0.size : Nat) : Int) < 1)) (S0  w R) (sel (decide (((s0.size : Nat) : Int) > 16)) (S0  w R) (L1 s0 0 w R))) : Calls Tryz.prog n_term_isName #[.string s0] w R := callsX X [eS2, eS3, eS5, eS4, eL1, eS0] h
end term_isName
namespace term_fieldsFit
noncomputable abbrev X : Fx := ⟨Tryz.prog, Tryz.f85, [], []⟩
abbrev P0 : Ps := [(0, .v [.r]), (3, .v [.b]), (4, .v [.b]), (5, .v [.b]), (6, .v [.b])]
abbrev S1 (n0 : Addr) (hasN3 hasM4 hasU5 hasText6 : Bool) (w : World) (R : Post) : Prop :=
  sel hasN3 (sel hasM4 (sel hasU5 (sel hasText6 (R (.returned (.bool true)) w) (∃ t57 : ByteArray, w.cell? (n0.add 5) = some (.string t57) ∧ 
  R (.returned (.bool (t57.toList == (ByteArray.mk #[]).toList))) w)) (∃ t47 : Int, w.cell? (n0.add 4) = some (.u t47) ∧ 
  sel (t47 == 0) (sel hasText6 (R (.returned (.bool true)) w) (∃ t57_x1 : ByteArray, w.cell? (n0.add 5) = some (.string t57_x1) ∧ 
  R (.returned (.bool (t57_x1.toList == (ByteArray.mk #[]).toList))) w)) (R (.returned (.bool false)) w))) (∃ t37 : Int, w.cell? (n0.add 3) = some (.i t37) ∧ 
  sel (t37 == 0) (sel hasU5 (sel hasText6 (R (.returned (.bool true)) w) (∃ t57_x2 : ByteArray, w.cell? (n0.add 5) = some (.string t57_x2) ∧ 
  R (.returned (.bool (t57_x2.toList == (ByteArray.mk #[]).toList))) w)) (∃ t47_x1 : Int, w.cell? (n0.add 4) = some (.u t47_x1) ∧ 
  sel (t47_x1 == 0) (sel hasText6 (R (.returned (.bool true)) w) (∃ t57_x3 : ByteArray, w.cell? (n0.add 5) = some (.string t57_x3) ∧ 
  R (.returned (.bool (t57_x3.toList == (ByteArray.mk #[]).toList))) w)) (R (.returned (.bool false)) w))) (R (.returned (.bool false)) w))) (∃ t28 : Int, w.cell? (n0.add 2) = some (.i t28) ∧ 
  sel (t28 == 0) (sel hasM4 (sel hasU5 (sel hasText6 (R (.returned (.bool true)) w) (∃ t57_x4 : ByteArray, w.cell? (n0.add 5) = some (.string t57_x4) ∧ 
  R (.returned (.bool (t57_x4.toList == (ByteArray.mk #[]).toList))) w)) (∃ t47_x2 : Int, w.cell? (n0.add 4) = some (.u t47_x2) ∧ 
  sel (t47_x2 == 0) (sel hasText6 (R (.returned (.bool true)) w) (∃ t57_x5 : ByteArray, w.cell? (n0.add 5) = some (.string t57_x5) ∧ 
  R (.returned (.bool (t57_x5.toList == (ByteArray.mk #[]).toList))) w)) (R (.returned (.bool false)) w))) (∃ t37_x1 : Int, w.cell? (n0.add 3) = some (.i t37_x1) ∧ 
  sel (t37_x1 == 0) (sel hasU5 (sel hasText6 (R (.returned (.bool true)) w) (∃ t57_x6 : ByteArray, w.cell? (n0.add 5) = some (.string t57_x6) ∧ 
  R (.returned (.bool (t57_x6.toList == (ByteArray.mk #[]).toList))) w)) (∃ t47_x3 : Int, w.cell? (n0.add 4) = some (.u t47_x3) ∧ 
  sel (t47_x3 == 0) (sel hasText6 (R (.returned (.bool true)) w) (∃ t57_x7 : ByteArray, w.cell? (n0.add 5) = some (.string t57_x7) ∧ 
  R (.returned (.bool (t57_x7.toList == (ByteArray.mk #[]).toList))) w)) (R (.returned (.bool false)) w))) (R (.returned (.bool false)) w))) (R (.returned (.bool false)) w))
noncomputable def eS1 := entS X [] (pth [3]) P0 S1
abbrev P1 : Ps := [(0, .v [.r]), (3, .v [.b]), (4, .v [.b]), (5, .v [.b])]
abbrev S0 (n0 : Addr) (hasN3 hasM4 hasU5 : Bool) (w : World) (R : Post) : Prop :=
  S1 n0 hasN3 hasM4 hasU5 true w R
noncomputable def eS0 := entS X [eS1] (pth [0, 1, 1, 1, 1, 1, 2]) P1 S0
abbrev P2 : Ps := [(0, .v [.r]), (4, .v [.b]), (5, .v [.b]), (6, .v [.b])]
abbrev S3 (n0 : Addr) (hasM4 hasU5 hasText6 : Bool) (w : World) (R : Post) : Prop :=
  S1 n0 true hasM4 hasU5 hasText6 w R
noncomputable def eS3 := entS X [eS0, eS1] (pth [0, 1, 7, 1, 1, 1, 2]) P2 S3
abbrev P3 : Ps := [(0, .v [.r]), (3, .v [.b]), (4, .v [.b]), (5, .v [.b]), (6, .v [.b]), (10, .v [.I])]
abbrev S2 (n0 : Addr) (hasN3 hasM4 hasU5 hasText6 : Bool) (t10 : Int) (w : World) (R : Post) : Prop :=
  sel (t10 == 1) (S1 n0 hasN3 hasM4 true hasText6 w R) (sel (t10 == 21) (S1 n0 true true hasU5 hasText6 w R) (sel (t10 == 22) (sel (t10 == 22) (S3 n0 hasM4 hasU5 hasText6 w R) (S1 n0 hasN3 hasM4 hasU5 hasText6 w R)) (sel (t10 == 23) (sel (t10 == 23) (S3 n0 hasM4 hasU5 hasText6 w R) (S1 n0 hasN3 hasM4 hasU5 hasText6 w R)) (sel (t10 == 28) (S3 n0 hasM4 hasU5 hasText6 w R) (S1 n0 hasN3 hasM4 hasU5 hasText6 w R)))))
noncomputable def eS2 := entS X [eS3, eS0, eS1] (pth [2, 1, 1, 1, 2]) P3 S2
theorem ok (n0 : Addr) (w : World) (R : Post) (h : ∃ t10 : Int, w.cell? (n0.add 0) = some (.i t10) ∧ 
  sel (t10 == 0) (sel (t10 == 0) (S0 n0 false false false w R) (S2 n0 false false false false t10 w R)) (sel (t10 == 2) (sel (t10 == 2) (S0 n0 false false false w R) (S2 n0 false false false false t10 w R)) (sel (t10 == 33) (S0 n0 false false false w R) (S2 n0 false false false false t10 w R)))) : Calls Tryz.prog n_term_fieldsFit #[.pointer (some n0)] w R := callsX X [eS2, eS3, eS0, eS1] h
end term_fieldsFit
namespace term_bv
noncomputable abbrev X : Fx := ⟨Tryz.prog, Tryz.f119, [], [2]⟩
theorem okT (wv0 : Int) (w : World) (R : Post) (h : newV [] w fun b2 w1 => 
  loc [b2] w1 fun w4 => R (.returned (.agg #[.i 0, .i wv0, .i 0])) w4) : Calls Tryz.prog n_term_bv #[.i wv0] w R := callsX X [] h
end term_bv
namespace term_str
noncomputable abbrev X : Fx := ⟨Tryz.prog, Tryz.f115, [], [2]⟩
theorem okT (n0 : Int) (w : World) (R : Post) (h : newV [] w fun b2 w1 => 
  loc [b2] w1 fun w4 => R (.returned (.agg #[.i 1, .i n0, .i 0])) w4) : Calls Tryz.prog n_term_str #[.i n0] w R := callsX X [] h
end term_str
namespace term_isBV
noncomputable abbrev X : Fx := ⟨Tryz.prog, Tryz.f118, [], [1]⟩
theorem okT (s0_0 s0_1 s0_2 : Int) (w : World) (R : Post) (h : newV [] w fun b1 w1 => 
  R (.returned (.bool (s0_0 == 0))) w1) : Calls Tryz.prog n_term_isBV #[.agg #[.i s0_0, .i s0_1, .i s0_2]] w R := callsX X [] h
end term_isBV
namespace term_isStr
noncomputable abbrev X : Fx := ⟨Tryz.prog, Tryz.f121, [], [1]⟩
theorem okT (s0_0 s0_1 s0_2 : Int) (w : World) (R : Post) (h : newV [] w fun b1 w1 => 
  R (.returned (.bool (s0_0 == 1))) w1) : Calls Tryz.prog n_term_isStr #[.agg #[.i s0_0, .i s0_1, .i s0_2]] w R := callsX X [] h
end term_isStr
namespace term_isArray
noncomputable abbrev X : Fx := ⟨Tryz.prog, Tryz.f116, [], [1]⟩
theorem okT (s0_0 s0_1 s0_2 : Int) (w : World) (R : Post) (h : newV [] w fun b1 w1 => 
  sel (s0_0 == 2) (R (.returned (.bool true)) w1) (R (.returned (.bool (s0_0 == 3))) w1)) : Calls Tryz.prog n_term_isArray #[.agg #[.i s0_0, .i s0_1, .i s0_2]] w R := callsX X [] h
end term_isArray
namespace term_alike
noncomputable abbrev X : Fx := ⟨Tryz.prog, Tryz.f120, [], [2, 3]⟩
theorem okT (x0_0 x0_1 x0_2 y1_0 y1_1 y1_2 : Int) (w : World) (R : Post) (h : newV [] w fun b2 w1 => 
  newV [b2] w1 fun b3 w2 => 
  sel ((x0_0 == y1_0) && ((x0_1 == y1_1) && ((x0_2 == y1_2) && true))) (R (.returned (.bool true)) w2) (cf0 [b2, b3] n_term_isStr #[.agg #[.i x0_0, .i x0_1, .i x0_2]] w2 fun t10 w3 => sel t10 (cf0 [b2, b3] n_term_isStr #[.agg #[.i y1_0, .i y1_1, .i y1_2]] w3 fun t13 w4 => R (.returned (.bool t13)) w4) (R (.returned (.bool false)) w3))) : Calls Tryz.prog n_term_alike #[.agg #[.i x0_0, .i x0_1, .i x0_2], .agg #[.i y1_0, .i y1_1, .i y1_2]] w R := callsX X [] h
end term_alike
namespace term_result
noncomputable abbrev X : Fx := ⟨Tryz.prog, Tryz.f117, [], [3, 6]⟩
theorem okT (s0_0 s0_1 s0_2 : Int) (sorts1 ranges2 : Bool) (w : World) (R : Post) (h : newV [] w fun b3 w1 => 
  newV [b3] w1 fun b6 w2 => 
  sel (!sorts1) (loc [b3, b6] w2 fun w5 => R (.returned (.tuple #[.agg #[.i s0_0, .i s0_1, .i s0_2], .i 9])) w5) (sel (!ranges2) (loc [b3, b6] w2 fun w8 => R (.returned (.tuple #[.agg #[.i s0_0, .i s0_1, .i s0_2], .i 5])) w8) (loc [b3, b6] w2 fun w11 => R (.returned (.tuple #[.agg #[.i s0_0, .i s0_1, .i s0_2], .i 0])) w11))) : Calls Tryz.prog n_term_result #[.agg #[.i s0_0, .i s0_1, .i s0_2], .bool sorts1, .bool ranges2] w R := callsX X [] h
end term_result
namespace term_sortOfVar
noncomputable abbrev X : Fx := ⟨Tryz.prog, Tryz.f86, [(7,ls [0,1,2,3,4,5,6,7,8])], []⟩
abbrev P0 : Ps := [(0, .v [.r]), (4, .v [.r])]
abbrev S0 (n0 t4 : Addr) (w : World) (R : Post) : Prop :=
  ld3_2 w (n0.add 6) fun t56_0 t56_1 t56_2 => stW3 w t4 (.i t56_0) (.i t56_1) (.i t56_2) fun w3 => ld3_2 w3 t4 fun r4_0 r4_1 r4_2 => R (.returned (.tuple #[.agg #[.i r4_0, .i r4_1, .i r4_2], .i 0])) w3
noncomputable def eS0 := entS X [] (pth [4]) P0 S0
theorem ok (n0 : Addr) (lookup1 : Fv) (w : World) (R : Post) (h : nwV w (.cells #[.i 0, .i 0, .i 0] ty_api_Sort) fun w1 => 
  ∃ t12 : ByteArray, w1.cell? (n0.add 5) = some (.string t12) ∧ 
  ca0 n_term_isName #[.string t12] w1 fun t13 w2 => sel (!t13) (ld3_2 w2 (n0.add 6) fun t18_0 t18_1 t18_2 => stW3 w2 (nb w) (.i t18_0) (.i t18_1) (.i t18_2) fun w5 => ld3_2 w5 (nb w) fun r4_0 r4_1 r4_2 => R (.returned (.tuple #[.agg #[.i r4_0, .i r4_1, .i r4_2], .i 6])) w5) (ld3_2 w2 (n0.add 6) fun t22_0 t22_1 t22_2 => ca1 n_value_ValidSort #[.agg #[.i t22_0, .i t22_1, .i t22_2]] w2 fun t23 w6 => sel (t23 != 0) (ld3_2 w6 (n0.add 6) fun t29_0 t29_1 t29_2 => stW3 w6 (nb w) (.i t29_0) (.i t29_1) (.i t29_2) fun w9 => ld3_2 w9 (nb w) fun r4_0 r4_1 r4_2 => R (.returned (.tuple #[.agg #[.i r4_0, .i r4_1, .i r4_2], .i t23])) w9) (∃ t36 : ByteArray, w6.cell? (n0.add 5) = some (.string t36) ∧ 
  AndT (callable Tryz.prog lookup1.n) (Calls Tryz.prog lookup1.n (lookup1.bs ++ #[.string t36] ++ lookup1.cs) w6 fun r_ w10 => ∃ t37_0_0 : Int, ∃ t37_0_1 : Int, ∃ t37_0_2 : Int, ∃ t37_1 : Bool, r_ = .returned (.tuple #[.agg #[.i t37_0_0, .i t37_0_1, .i t37_0_2], .bool t37_1]) ∧ 
  nwV w10 (.cells #[.i 0, .i 0, .i 0] ty_api_Sort) fun w11 => 
  stW3 w11 (nb w10) (.i t37_0_0) (.i t37_0_1) (.i t37_0_2) fun w14 => drV w14 fun w15 => sel t37_1 (ld3_2 w15 (nb w10) fun t42_0 t42_1 t42_2 => ld3_2 w15 (n0.add 6) fun t46_0 t46_1 t46_2 => sel (!((t42_0 == t46_0) && ((t42_1 == t46_1) && ((t42_2 == t46_2) && true)))) (ld3_2 w15 (n0.add 6) fun t52_0 t52_1 t52_2 => stW3 w15 (nb w) (.i t52_0) (.i t52_1) (.i t52_2) fun w18 => ld3_2 w18 (nb w) fun r4_0 r4_1 r4_2 => R (.returned (.tuple #[.agg #[.i r4_0, .i r4_1, .i r4_2], .i 8])) w18) (S0 n0 (nb w) w15 R)) (S0 n0 (nb w) w15 R))))) : Calls Tryz.prog n_term_sortOfVar #[.pointer (some n0), lookup1.v] w R := callsX X [eS0] h
end term_sortOfVar
namespace term_sortOfLeaf
noncomputable abbrev X : Fx := ⟨Tryz.prog, Tryz.f87, [(14,ls [0,1,2,3,4,5,6,7,8,9,10,11,12,13,14,15,16,17,18])], [2]⟩
abbrev P0 : Ps := [(0, .v [.r]), (2, .l [.I, .I, .I] ty_api_Sort)]
abbrev S0T (n0 : Addr) (t2 : Nat) (t2_0 t2_1 t2_2 : Int) (w : World) (R : Post) : Prop :=
  ld3_2 w (n0.add 6) fun t93_0 t93_1 t93_2 => loc [t2] w fun w3 => R (.returned (.tuple #[.agg #[.i t93_0, .i t93_1, .i t93_2], .i 0])) w3
noncomputable def eS0 := entS X [] (pth [6]) P0 S0T
theorem okT (n0 : Addr) (w : World) (R : Post) (h : newV [] w fun b2 w1 => 
  ∃ t8 : Int, w1.cell? (n0.add 0) = some (.i t8) ∧ 
  sel (t8 == 2) (∃ t13 : ByteArray, w1.cell? (n0.add 5) = some (.string t13) ∧ 
  sel (decide (((t13.size : Nat) : Int) > 64)) (ld3_2 w1 (n0.add 6) fun t19_0 t19_1 t19_2 => loc [b2] w1 fun w4 => R (.returned (.tuple #[.agg #[.i t19_0, .i t19_1, .i t19_2], .i 5])) w4) (∃ t23 : ByteArray, w1.cell? (n0.add 5) = some (.string t23) ∧ 
  cf17 [b2] n_term_str #[.i ((t23.size : Nat) : Int)] w1 fun t25_0 t25_1 t25_2 w5 => loc [b2] w5 fun w8 => R (.returned (.tuple #[.agg #[.i t25_0, .i t25_1, .i t25_2], .i 0])) w8)) (ld3_2 w1 (n0.add 6) fun t29_0 t29_1 t29_2 => cf1 [b2] n_value_ValidSort #[.agg #[.i t29_0, .i t29_1, .i t29_2]] w1 fun t30 w9 => sel (t30 != 0) (ld3_2 w9 (n0.add 6) fun t36_0 t36_1 t36_2 => loc [b2] w9 fun w12 => R (.returned (.tuple #[.agg #[.i t36_0, .i t36_1, .i t36_2], .i t30])) w12) (∃ t41 : Int, w9.cell? (n0.add 0) = some (.i t41) ∧ 
  sel (t41 == 3) (ld3_2 w9 (n0.add 6) fun t46_0 t46_1 t46_2 => cf0 [b2] n_term_isArray #[.agg #[.i t46_0, .i t46_1, .i t46_2]] w9 fun t47 w13 => sel (!t47) (ld3_2 w13 (n0.add 6) fun t52_0 t52_1 t52_2 => loc [b2] w13 fun w16 => R (.returned (.tuple #[.agg #[.i t52_0, .i t52_1, .i t52_2], .i 9])) w16) (ld3_2 w13 (n0.add 6) fun t56_0 t56_1 t56_2 => loc [b2] w13 fun w19 => R (.returned (.tuple #[.agg #[.i t56_0, .i t56_1, .i t56_2], .i 0])) w19)) (∃ t61 : Int, w9.cell? ((n0.add 6).add 0) = some (.i t61) ∧ 
  sel (t61 != 0) (ld3_2 w9 (n0.add 6) fun t66_0 t66_1 t66_2 => loc [b2] w9 fun w22 => R (.returned (.tuple #[.agg #[.i t66_0, .i t66_1, .i t66_2], .i 9])) w22) (loc [b2] w9 fun w23 => ∃ t71 : Int, w23.cell? ((n0.add 6).add 1) = some (.i t71) ∧ 
  sel (decide (t71 < 64)) (∃ t77 : Int, w23.cell? (n0.add 4) = some (.u t77) ∧ 
  ∃ t82 : Int, w23.cell? ((n0.add 6).add 1) = some (.i t82) ∧ 
  ¬ t82 < 0 ∧ sel ((Int.fdiv t77 (2 ^ (min (Int.toNat t82) (IntKind.bits .u64)))) != 0) (ld3_2 w23 (n0.add 6) fun t89_0 t89_1 t89_2 => loc [b2] w23 fun w26 => R (.returned (.tuple #[.agg #[.i t89_0, .i t89_1, .i t89_2], .i 5])) w26) (S0T n0 b2 0 0 0 w23 R)) (S0T n0 b2 0 0 0 w23 R)))))) : Calls Tryz.prog n_term_sortOfLeaf #[.pointer (some n0)] w R := callsX X [eS0] h
end term_sortOfLeaf
namespace term_sortOfBits
noncomputable abbrev X : Fx := ⟨Tryz.prog, Tryz.f88, [(4,ls [0,1,2,3,4,5,6,7]), (7,ls [1,0,2,3,4,5,6,7,8,9,10,11,12]), (9,ls [1,2,0,3,4,5,6,7,8]), (14,ls [0,1,2,3,4,5,6,7,8,9,10,11,12,13]), (16,ls [0,1,2,3,4,6,12,13,14,15,16,17,5,7,8,9,10,11,18,19,20,21,22]), (18,ls [0,1,2,3,4,5,6,7,8,9,11,13,14,15,16,17,10,12,18,19,20,21,22,23,24,25,26,27,28,29,30,31,32,33,34,35,36,37,38,39,40,41,42]), (21,ls [0,1,2,3,4,5,6,8,10,11,12,13,14,7,9,15,16,17,18,19,20,21,22,23,24,25,26,27,28,29]), (22,ls [0,1,2,3,4,5,6,7,8,9,10,11,12])], [5, 6, 7, 8, 10]⟩
abbrev P0 : Ps := [(5, .l [.I, .I, .I] ty_api_Sort), (8, .l [.I, .I, .I] ty_api_Sort)]
abbrev S0T (x5 : Nat) (x5_0 x5_1 x5_2 : Int) (t8 : Nat) (t8_0 t8_1 t8_2 : Int) (w : World) (R : Post) : Prop :=
  loc [x5, t8] w fun w1 => cf0 [x5, t8] n_term_isBV #[.agg #[.i x5_0, .i x5_1, .i x5_2]] w1 fun t20 w2 => cf19 [x5, t8] n_term_result #[.agg #[.i x5_0, .i x5_1, .i x5_2], .bool t20, .bool true] w2 fun t21_0_0 t21_0_1 t21_0_2 t21_1 w3 => loc [x5, t8] w3 fun w6 => R (.returned (.tuple #[.agg #[.i t21_0_0, .i t21_0_1, .i t21_0_2], .i t21_1])) w6
noncomputable def eS0 := entS X [] (pth [0, 1, 1, 1, 1, 1, 1]) P0 S0T
abbrev P1 : Ps := [(5, .l [.I, .I, .I] ty_api_Sort), (6, .l [.I, .I, .I] ty_api_Sort), (8, .l [.I, .I, .I] ty_api_Sort)]
abbrev S2T (x5 : Nat) (x5_0 x5_1 x5_2 : Int) (y6 : Nat) (y6_0 y6_1 y6_2 : Int) (t8 : Nat) (t8_0 t8_1 t8_2 : Int) (w : World) (R : Post) : Prop :=
  loc [x5, y6, t8] w fun w1 => cf17 [x5, y6, t8] n_term_bv #[.i 1] w1 fun t27_0 t27_1 t27_2 w2 => cf0 [x5, y6, t8] n_term_isBV #[.agg #[.i x5_0, .i x5_1, .i x5_2]] w2 fun t29 w3 => sel t29 (cf19 [x5, y6, t8] n_term_result #[.agg #[.i t27_0, .i t27_1, .i t27_2], .bool ((x5_0 == y6_0) && ((x5_1 == y6_1) && ((x5_2 == y6_2) && true))), .bool true] w3 fun t35_0_0 t35_0_1 t35_0_2 t35_1 w4 => loc [x5, y6, t8] w4 fun w7 => R (.returned (.tuple #[.agg #[.i t35_0_0, .i t35_0_1, .i t35_0_2], .i t35_1])) w7) (cf19 [x5, y6, t8] n_term_result #[.agg #[.i t27_0, .i t27_1, .i t27_2], .bool false, .bool true] w3 fun t35_x1_0_0 t35_x1_0_1 t35_x1_0_2 t35_x1_1 w8 => loc [x5, y6, t8] w8 fun w11 => R (.returned (.tuple #[.agg #[.i t35_x1_0_0, .i t35_x1_0_1, .i t35_x1_0_2], .i t35_x1_1])) w11)
noncomputable def eS2 := entS X [eS0] (pth [0, 1, 3, 1, 1, 1, 1]) P1 S2T
abbrev P2 : Ps := [(5, .l [.I, .I, .I] ty_api_Sort), (6, .l [.I, .I, .I] ty_api_Sort), (7, .l [.I, .I, .I] ty_api_Sort), (8, .l [.I, .I, .I] ty_api_Sort), (10, .l [.I, .I, .I] ty_api_Sort)]
abbrev S4T (x5 : Nat) (x5_0 x5_1 x5_2 : Int) (y6 : Nat) (y6_0 y6_1 y6_2 : Int) (z7 : Nat) (z7_0 z7_1 z7_2 : Int) (t8 : Nat) (t8_0 t8_1 t8_2 : Int) (s10 : Nat) (s10_0 s10_1 s10_2 : Int) (w : World) (R : Post) : Prop :=
  loc [x5, y6, z7, t8, s10] w fun w1 => cf17 [x5, y6, z7, t8, s10] n_term_bv #[.i 1] w1 fun t64_0 t64_1 t64_2 w2 => sel ((x5_0 == t64_0) && ((x5_1 == t64_1) && ((x5_2 == t64_2) && true))) (cf0 [x5, y6, z7, t8, s10] n_term_alike #[.agg #[.i y6_0, .i y6_1, .i y6_2], .agg #[.i z7_0, .i z7_1, .i z7_2]] w2 fun t69 w3 => cf19 [x5, y6, z7, t8, s10] n_term_result #[.agg #[.i s10_0, .i s10_1, .i s10_2], .bool t69, .bool true] w3 fun t71_0_0 t71_0_1 t71_0_2 t71_1 w4 => loc [x5, y6, z7, t8, s10] w4 fun w7 => R (.returned (.tuple #[.agg #[.i t71_0_0, .i t71_0_1, .i t71_0_2], .i t71_1])) w7) (cf19 [x5, y6, z7, t8, s10] n_term_result #[.agg #[.i s10_0, .i s10_1, .i s10_2], .bool false, .bool true] w2 fun t71_x1_0_0 t71_x1_0_1 t71_x1_0_2 t71_x1_1 w8 => loc [x5, y6, z7, t8, s10] w8 fun w11 => R (.returned (.tuple #[.agg #[.i t71_x1_0_0, .i t71_x1_0_1, .i t71_x1_0_2], .i t71_x1_1])) w11)
noncomputable def eS4 := entS X [eS2, eS0] (pth [2, 1, 7, 1, 1, 1, 1]) P2 S4T
abbrev P3 : Ps := [(0, .v [.r]), (5, .l [.I, .I, .I] ty_api_Sort), (8, .l [.I, .I, .I] ty_api_Sort)]
abbrev S5T (n0 : Addr) (x5 : Nat) (x5_0 x5_1 x5_2 : Int) (t8 : Nat) (t8_0 t8_1 t8_2 : Int) (w : World) (R : Post) : Prop :=
  loc [x5, t8] w fun w1 => ∃ t148 : Int, w1.cell? (n0.add 2) = some (.i t148) ∧ 
  ∃ t156 : Int, w1.cell? (n0.add 2) = some (.i t156) ∧ 
  cf17 [x5, t8] n_term_bv #[.i (IntKind.wrap .i64 (x5_1 + t148))] w1 fun t150_0 t150_1 t150_2 w2 => w2.cell? (n0.add 2) = some (.i t156) ∧ cf0 [x5, t8] n_term_isBV #[.agg #[.i x5_0, .i x5_1, .i x5_2]] w2 fun t152 w3 => w3.cell? (n0.add 2) = some (.i t156) ∧ sel (decide (1 ≤ t156)) (∃ t162 : Int, w3.cell? (n0.add 2) = some (.i t162) ∧ 
  cf19 [x5, t8] n_term_result #[.agg #[.i t150_0, .i t150_1, .i t150_2], .bool t152, .bool (decide (t162 ≤ (IntKind.wrap .i64 (64 - x5_1))))] w3 fun t168_0_0 t168_0_1 t168_0_2 t168_1 w4 => loc [x5, t8] w4 fun w7 => R (.returned (.tuple #[.agg #[.i t168_0_0, .i t168_0_1, .i t168_0_2], .i t168_1])) w7) (cf19 [x5, t8] n_term_result #[.agg #[.i t150_0, .i t150_1, .i t150_2], .bool t152, .bool false] w3 fun t168_x1_0_0 t168_x1_0_1 t168_x1_0_2 t168_x1_1 w8 => loc [x5, t8] w8 fun w11 => R (.returned (.tuple #[.agg #[.i t168_x1_0_0, .i t168_x1_0_1, .i t168_x1_0_2], .i t168_x1_1])) w11)
noncomputable def eS5 := entS X [eS4, eS2, eS0] (pth [0, 1, 13, 1, 1, 1, 1]) P3 S5T
abbrev S6T (x5 : Nat) (x5_0 x5_1 x5_2 : Int) (y6 : Nat) (y6_0 y6_1 y6_2 : Int) (t8 : Nat) (t8_0 t8_1 t8_2 : Int) (w : World) (R : Post) : Prop :=
  loc [x5, y6, t8] w fun w1 => cf0 [x5, y6, t8] n_term_isBV #[.agg #[.i x5_0, .i x5_1, .i x5_2]] w1 fun t173 w2 => sel t173 (cf19 [x5, y6, t8] n_term_result #[.agg #[.i x5_0, .i x5_1, .i x5_2], .bool ((x5_0 == y6_0) && ((x5_1 == y6_1) && ((x5_2 == y6_2) && true))), .bool true] w2 fun t179_0_0 t179_0_1 t179_0_2 t179_1 w3 => loc [x5, y6, t8] w3 fun w6 => R (.returned (.tuple #[.agg #[.i t179_0_0, .i t179_0_1, .i t179_0_2], .i t179_1])) w6) (cf19 [x5, y6, t8] n_term_result #[.agg #[.i x5_0, .i x5_1, .i x5_2], .bool false, .bool true] w2 fun t179_x1_0_0 t179_x1_0_1 t179_x1_0_2 t179_x1_1 w7 => loc [x5, y6, t8] w7 fun w10 => R (.returned (.tuple #[.agg #[.i t179_x1_0_0, .i t179_x1_0_1, .i t179_x1_0_2], .i t179_x1_1])) w10)
noncomputable def eS6 := entS X [eS5, eS4, eS2, eS0] (pth [2]) P1 S6T
abbrev P4 : Ps := [(0, .v [.r]), (5, .l [.I, .I, .I] ty_api_Sort), (6, .l [.I, .I, .I] ty_api_Sort), (7, .l [.I, .I, .I] ty_api_Sort), (8, .l [.I, .I, .I] ty_api_Sort), (14, .v [.I])]
abbrev S3T (n0 : Addr) (x5 : Nat) (x5_0 x5_1 x5_2 : Int) (y6 : Nat) (y6_0 y6_1 y6_2 : Int) (z7 : Nat) (z7_0 z7_1 z7_2 : Int) (t8 : Nat) (t8_0 t8_1 t8_2 t14 : Int) (w : World) (R : Post) : Prop :=
  sel (t14 == 18) (loc [x5, y6, z7, t8] w fun w1 => cf17 [x5, y6, z7, t8] n_term_bv #[.i 1] w1 fun t40_0 t40_1 t40_2 w2 => cf0 [x5, y6, z7, t8] n_term_alike #[.agg #[.i x5_0, .i x5_1, .i x5_2], .agg #[.i y6_0, .i y6_1, .i y6_2]] w2 fun t43 w3 => cf19 [x5, y6, z7, t8] n_term_result #[.agg #[.i t40_0, .i t40_1, .i t40_2], .bool t43, .bool true] w3 fun t44_0_0 t44_0_1 t44_0_2 t44_1 w4 => loc [x5, y6, z7, t8] w4 fun w7 => R (.returned (.tuple #[.agg #[.i t44_0_0, .i t44_0_1, .i t44_0_2], .i t44_1])) w7) (sel (t14 == 19) (newV [x5, y6, z7, t8] w fun b10 w8 => 
  loc [x5, y6, z7, t8, b10] w8 fun w11 => cf0 [x5, y6, z7, t8, b10] n_term_isStr #[.agg #[.i y6_0, .i y6_1, .i y6_2]] w11 fun t51 w12 => sel t51 (cf0 [x5, y6, z7, t8, b10] n_term_isStr #[.agg #[.i z7_0, .i z7_1, .i z7_2]] w12 fun t54 w13 => sel t54 (cf17 [x5, y6, z7, t8, b10] n_term_str #[.i (if y6_1 < z7_1 then z7_1 else y6_1)] w13 fun t61_0 t61_1 t61_2 w14 => loc [x5, y6, z7, t8, b10] w14 fun w17 => S4T x5 x5_0 x5_1 x5_2 y6 y6_0 y6_1 y6_2 z7 z7_0 z7_1 z7_2 t8 t8_0 t8_1 t8_2 b10 t61_0 t61_1 t61_2 w17 R) (S4T x5 x5_0 x5_1 x5_2 y6 y6_0 y6_1 y6_2 z7 z7_0 z7_1 z7_2 t8 t8_0 t8_1 t8_2 b10 y6_0 y6_1 y6_2 w13 R)) (S4T x5 x5_0 x5_1 x5_2 y6 y6_0 y6_1 y6_2 z7 z7_0 z7_1 z7_2 t8 t8_0 t8_1 t8_2 b10 y6_0 y6_1 y6_2 w12 R)) (sel (t14 == 20) (loc [x5, y6, z7, t8] w fun w18 => cf17 [x5, y6, z7, t8] n_term_bv #[.i (IntKind.wrap .i64 (x5_1 + y6_1))] w18 fun t81_0 t81_1 t81_2 w19 => cf0 [x5, y6, z7, t8] n_term_isBV #[.agg #[.i x5_0, .i x5_1, .i x5_2]] w19 fun t83 w20 => sel t83 (cf0 [x5, y6, z7, t8] n_term_isBV #[.agg #[.i y6_0, .i y6_1, .i y6_2]] w20 fun t86 w21 => cf19 [x5, y6, z7, t8] n_term_result #[.agg #[.i t81_0, .i t81_1, .i t81_2], .bool t86, .bool (decide ((IntKind.wrap .i64 (x5_1 + y6_1)) ≤ 64))] w21 fun t94_0_0 t94_0_1 t94_0_2 t94_1 w22 => loc [x5, y6, z7, t8] w22 fun w25 => R (.returned (.tuple #[.agg #[.i t94_0_0, .i t94_0_1, .i t94_0_2], .i t94_1])) w25) (cf19 [x5, y6, z7, t8] n_term_result #[.agg #[.i t81_0, .i t81_1, .i t81_2], .bool false, .bool (decide ((IntKind.wrap .i64 (x5_1 + y6_1)) ≤ 64))] w20 fun t94_x1_0_0 t94_x1_0_1 t94_x1_0_2 t94_x1_1 w26 => loc [x5, y6, z7, t8] w26 fun w29 => R (.returned (.tuple #[.agg #[.i t94_x1_0_0, .i t94_x1_0_1, .i t94_x1_0_2], .i t94_x1_1])) w29)) (sel (t14 == 21) (loc [x5, y6, z7, t8] w fun w30 => ∃ t102 : Int, w30.cell? (n0.add 2) = some (.i t102) ∧ 
  ∃ t106 : Int, w30.cell? (n0.add 3) = some (.i t106) ∧ 
  ∃ t115 : Int, w30.cell? (n0.add 3) = some (.i t115) ∧ 
  cf17 [x5, y6, z7, t8] n_term_bv #[.i (IntKind.wrap .i64 ((IntKind.wrap .i64 (t102 - t106)) + 1))] w30 fun t109_0 t109_1 t109_2 w31 => w31.cell? (n0.add 3) = some (.i t115) ∧ cf0 [x5, y6, z7, t8] n_term_isBV #[.agg #[.i x5_0, .i x5_1, .i x5_2]] w31 fun t111 w32 => w32.cell? (n0.add 3) = some (.i t115) ∧ sel (decide (0 ≤ t115)) (∃ t121 : Int, w32.cell? (n0.add 3) = some (.i t121) ∧ 
  ∃ t125 : Int, w32.cell? (n0.add 2) = some (.i t125) ∧ 
  sel (decide (t121 ≤ t125)) (∃ t132 : Int, w32.cell? (n0.add 2) = some (.i t132) ∧ 
  cf19 [x5, y6, z7, t8] n_term_result #[.agg #[.i t109_0, .i t109_1, .i t109_2], .bool t111, .bool (decide (t132 < x5_1))] w32 fun t137_0_0 t137_0_1 t137_0_2 t137_1 w33 => loc [x5, y6, z7, t8] w33 fun w36 => R (.returned (.tuple #[.agg #[.i t137_0_0, .i t137_0_1, .i t137_0_2], .i t137_1])) w36) (cf19 [x5, y6, z7, t8] n_term_result #[.agg #[.i t109_0, .i t109_1, .i t109_2], .bool t111, .bool false] w32 fun t137_x1_0_0 t137_x1_0_1 t137_x1_0_2 t137_x1_1 w37 => loc [x5, y6, z7, t8] w37 fun w40 => R (.returned (.tuple #[.agg #[.i t137_x1_0_0, .i t137_x1_0_1, .i t137_x1_0_2], .i t137_x1_1])) w40)) (cf19 [x5, y6, z7, t8] n_term_result #[.agg #[.i t109_0, .i t109_1, .i t109_2], .bool t111, .bool false] w32 fun t137_x2_0_0 t137_x2_0_1 t137_x2_0_2 t137_x2_1 w41 => loc [x5, y6, z7, t8] w41 fun w44 => R (.returned (.tuple #[.agg #[.i t137_x2_0_0, .i t137_x2_0_1, .i t137_x2_0_2], .i t137_x2_1])) w44)) (sel (t14 == 22) (sel (t14 == 22) (S5T n0 x5 x5_0 x5_1 x5_2 t8 t8_0 t8_1 t8_2 w R) (S6T x5 x5_0 x5_1 x5_2 y6 y6_0 y6_1 y6_2 t8 t8_0 t8_1 t8_2 w R)) (sel (t14 == 23) (S5T n0 x5 x5_0 x5_1 x5_2 t8 t8_0 t8_1 t8_2 w R) (S6T x5 x5_0 x5_1 x5_2 y6 y6_0 y6_1 y6_2 t8 t8_0 t8_1 t8_2 w R))))))
noncomputable def eS3 := entS X [eS6, eS5, eS4, eS2, eS0] (pth [4, 1, 1, 1, 1]) P4 S3T
abbrev S1T (n0 : Addr) (x5 : Nat) (x5_0 x5_1 x5_2 : Int) (y6 : Nat) (y6_0 y6_1 y6_2 : Int) (z7 : Nat) (z7_0 z7_1 z7_2 : Int) (t8 : Nat) (t8_0 t8_1 t8_2 t14 : Int) (w : World) (R : Post) : Prop :=
  sel (t14 == 16) (sel (t14 == 16) (S2T x5 x5_0 x5_1 x5_2 y6 y6_0 y6_1 y6_2 t8 t8_0 t8_1 t8_2 w R) (S3T n0 x5 x5_0 x5_1 x5_2 y6 y6_0 y6_1 y6_2 z7 z7_0 z7_1 z7_2 t8 t8_0 t8_1 t8_2 t14 w R)) (sel (t14 == 17) (S2T x5 x5_0 x5_1 x5_2 y6 y6_0 y6_1 y6_2 t8 t8_0 t8_1 t8_2 w R) (S3T n0 x5 x5_0 x5_1 x5_2 y6 y6_0 y6_1 y6_2 z7 z7_0 z7_1 z7_2 t8 t8_0 t8_1 t8_2 t14 w R))
noncomputable def eS1 := entS X [eS3, eS6, eS5, eS4, eS2, eS0] (pth [2, 1, 1, 1, 1]) P4 S1T
theorem okT (n0 : Addr) (x1_0 x1_1 x1_2 y2_0 y2_1 y2_2 z3_0 z3_1 z3_2 : Int) (w : World) (R : Post) (h : newV [] w fun b5 w1 => 
  newV [b5] w1 fun b6 w2 => 
  newV [b5, b6] w2 fun b7 w3 => 
  newV [b5, b6, b7] w3 fun b8 w4 => 
  ∃ t14 : Int, w4.cell? (n0.add 0) = some (.i t14) ∧ 
  sel (t14 == 4) (sel (t14 == 4) (S0T b5 x1_0 x1_1 x1_2 b8 0 0 0 w4 R) (S1T n0 b5 x1_0 x1_1 x1_2 b6 y2_0 y2_1 y2_2 b7 z3_0 z3_1 z3_2 b8 0 0 0 t14 w4 R)) (sel (t14 == 5) (S0T b5 x1_0 x1_1 x1_2 b8 0 0 0 w4 R) (S1T n0 b5 x1_0 x1_1 x1_2 b6 y2_0 y2_1 y2_2 b7 z3_0 z3_1 z3_2 b8 0 0 0 t14 w4 R))) : Calls Tryz.prog n_term_sortOfBits #[.pointer (some n0), .agg #[.i x1_0, .i x1_1, .i x1_2], .agg #[.i y2_0, .i y2_1, .i y2_2], .agg #[.i z3_0, .i z3_1, .i z3_2]] w R := callsX X [eS1, eS3, eS6, eS5, eS4, eS2, eS0] h
end term_sortOfBits
namespace term_sortOfArrays
noncomputable abbrev X : Fx := ⟨Tryz.prog, Tryz.f89, [(2,ls [0,1,3,2,4,5,6,7,8,9,10,11,12,13,14]), (6,ls [0,1,2,3,4,5,6,7,8,9]), (10,ls [0,1,2,3,4,5,6,7,8,9,10,11,12,13,14,15,16,17]), (11,ls [0,1,2,3,4,5,6,7,8,9,10,11])], [5, 6, 7, 8, 10]⟩
abbrev P0 : Ps := [(0, .v [.r]), (5, .l [.I, .I, .I] ty_api_Sort), (7, .l [.I, .I, .I] ty_api_Sort), (8, .l [.I, .I, .I] ty_api_Sort), (10, .l [.I, .I, .I] ty_api_Sort), (11, .v [.b])]
abbrev S1T (n0 : Addr) (x5 : Nat) (x5_0 x5_1 x5_2 : Int) (z7 : Nat) (z7_0 z7_1 z7_2 : Int) (t8 : Nat) (t8_0 t8_1 t8_2 : Int) (element10 : Nat) (element10_0 element10_1 element10_2 : Int) (fits11 : Bool) (w : World) (R : Post) : Prop :=
  ∃ t51 : Int, w.cell? (n0.add 0) = some (.i t51) ∧ 
  sel (t51 == 24) (cf19 [x5, z7, t8, element10] n_term_result #[.agg #[.i element10_0, .i element10_1, .i element10_2], .bool fits11, .bool true] w fun t55_0_0 t55_0_1 t55_0_2 t55_1 w1 => loc [x5, z7, t8, element10] w1 fun w4 => R (.returned (.tuple #[.agg #[.i t55_0_0, .i t55_0_1, .i t55_0_2], .i t55_1])) w4) (sel (x5_0 == 3) (sel fits11 (loc [x5, z7, t8, element10] w fun w5 => cf0 [x5, z7, t8, element10] n_term_isStr #[.agg #[.i z7_0, .i z7_1, .i z7_2]] w5 fun t65 w6 => sel t65 (cf19 [x5, z7, t8, element10] n_term_result #[.agg #[.i x5_0, .i x5_1, .i x5_2], .bool (decide (z7_1 ≤ x5_1)), .bool true] w6 fun t74_0_0 t74_0_1 t74_0_2 t74_1 w7 => loc [x5, z7, t8, element10] w7 fun w10 => R (.returned (.tuple #[.agg #[.i t74_0_0, .i t74_0_1, .i t74_0_2], .i t74_1])) w10) (cf19 [x5, z7, t8, element10] n_term_result #[.agg #[.i x5_0, .i x5_1, .i x5_2], .bool false, .bool true] w6 fun t74_x1_0_0 t74_x1_0_1 t74_x1_0_2 t74_x1_1 w11 => loc [x5, z7, t8, element10] w11 fun w14 => R (.returned (.tuple #[.agg #[.i t74_x1_0_0, .i t74_x1_0_1, .i t74_x1_0_2], .i t74_x1_1])) w14)) (loc [x5, z7, t8, element10] w fun w5 => cf19 [x5, z7, t8, element10] n_term_result #[.agg #[.i x5_0, .i x5_1, .i x5_2], .bool false, .bool true] w5 fun t74_x2_0_0 t74_x2_0_1 t74_x2_0_2 t74_x2_1 w15 => loc [x5, z7, t8, element10] w15 fun w18 => R (.returned (.tuple #[.agg #[.i t74_x2_0_0, .i t74_x2_0_1, .i t74_x2_0_2], .i t74_x2_1])) w18)) (sel fits11 (loc [x5, z7, t8, element10] w fun w19 => cf19 [x5, z7, t8, element10] n_term_result #[.agg #[.i x5_0, .i x5_1, .i x5_2], .bool ((z7_0 == element10_0) && ((z7_1 == element10_1) && ((z7_2 == element10_2) && true))), .bool true] w19 fun t84_0_0 t84_0_1 t84_0_2 t84_1 w20 => loc [x5, z7, t8, element10] w20 fun w23 => R (.returned (.tuple #[.agg #[.i t84_0_0, .i t84_0_1, .i t84_0_2], .i t84_1])) w23) (loc [x5, z7, t8, element10] w fun w19 => cf19 [x5, z7, t8, element10] n_term_result #[.agg #[.i x5_0, .i x5_1, .i x5_2], .bool false, .bool true] w19 fun t84_x1_0_0 t84_x1_0_1 t84_x1_0_2 t84_x1_1 w24 => loc [x5, z7, t8, element10] w24 fun w27 => R (.returned (.tuple #[.agg #[.i t84_x1_0_0, .i t84_x1_0_1, .i t84_x1_0_2], .i t84_x1_1])) w27)))
noncomputable def eS1 := entS X [] (pth [5]) P0 S1T
abbrev P1 : Ps := [(0, .v [.r]), (5, .l [.I, .I, .I] ty_api_Sort), (6, .l [.I, .I, .I] ty_api_Sort), (7, .l [.I, .I, .I] ty_api_Sort), (8, .l [.I, .I, .I] ty_api_Sort), (10, .l [.I, .I, .I] ty_api_Sort)]
abbrev S0T (n0 : Addr) (x5 : Nat) (x5_0 x5_1 x5_2 : Int) (y6 : Nat) (y6_0 y6_1 y6_2 : Int) (z7 : Nat) (z7_0 z7_1 z7_2 : Int) (t8 : Nat) (t8_0 t8_1 t8_2 : Int) (element10 : Nat) (element10_0 element10_1 element10_2 : Int) (w : World) (R : Post) : Prop :=
  loc [x5, y6, z7, t8, element10] w fun w1 => cf0 [x5, y6, z7, t8, element10] n_term_isArray #[.agg #[.i x5_0, .i x5_1, .i x5_2]] w1 fun t40 w2 => sel t40 (cf17 [x5, y6, z7, t8, element10] n_term_bv #[.i x5_2] w2 fun t45_0 t45_1 t45_2 w3 => S1T n0 x5 x5_0 x5_1 x5_2 z7 z7_0 z7_1 z7_2 t8 t8_0 t8_1 t8_2 element10 element10_0 element10_1 element10_2 ((y6_0 == t45_0) && ((y6_1 == t45_1) && ((y6_2 == t45_2) && true))) w3 R) (S1T n0 x5 x5_0 x5_1 x5_2 z7 z7_0 z7_1 z7_2 t8 t8_0 t8_1 t8_2 element10 element10_0 element10_1 element10_2 false w2 R)
noncomputable def eS0 := entS X [eS1] (pth [4]) P1 S0T
theorem okT (n0 : Addr) (x1_0 x1_1 x1_2 y2_0 y2_1 y2_2 z3_0 z3_1 z3_2 : Int) (w : World) (R : Post) (h : newV [] w fun b5 w1 => 
  newV [b5] w1 fun b6 w2 => 
  newV [b5, b6] w2 fun b7 w3 => 
  newV [b5, b6, b7] w3 fun b8 w4 => 
  ∃ t15 : Int, w4.cell? (n0.add 0) = some (.i t15) ∧ 
  sel (t15 == 26) (loc [b5, b6, b7, b8] w4 fun w5 => cf17 [b5, b6, b7, b8] n_term_bv #[.i x1_2] w5 fun t19_0 t19_1 t19_2 w6 => cf0 [b5, b6, b7, b8] n_term_isArray #[.agg #[.i x1_0, .i x1_1, .i x1_2]] w6 fun t21 w7 => sel t21 (cf19 [b5, b6, b7, b8] n_term_result #[.agg #[.i t19_0, .i t19_1, .i t19_2], .bool ((x1_0 == y2_0) && ((x1_1 == y2_1) && ((x1_2 == y2_2) && true))), .bool true] w7 fun t27_0_0 t27_0_1 t27_0_2 t27_1 w8 => loc [b5, b6, b7, b8] w8 fun w11 => R (.returned (.tuple #[.agg #[.i t27_0_0, .i t27_0_1, .i t27_0_2], .i t27_1])) w11) (cf19 [b5, b6, b7, b8] n_term_result #[.agg #[.i t19_0, .i t19_1, .i t19_2], .bool false, .bool true] w7 fun t27_x1_0_0 t27_x1_0_1 t27_x1_0_2 t27_x1_1 w12 => loc [b5, b6, b7, b8] w12 fun w15 => R (.returned (.tuple #[.agg #[.i t27_x1_0_0, .i t27_x1_0_1, .i t27_x1_0_2], .i t27_x1_1])) w15)) (cf17 [b5, b6, b7, b8] n_term_bv #[.i x1_1] w4 fun t32_0 t32_1 t32_2 w16 => newV [b5, b6, b7, b8] w16 fun b10 w17 => 
  sel (x1_0 == 3) (loc [b5, b6, b7, b8, b10] w17 fun w20 => cf17 [b5, b6, b7, b8, b10] n_term_str #[.i x1_1] w20 fun t38_0 t38_1 t38_2 w21 => loc [b5, b6, b7, b8, b10] w21 fun w24 => S0T n0 b5 x1_0 x1_1 x1_2 b6 y2_0 y2_1 y2_2 b7 z3_0 z3_1 z3_2 b8 0 0 0 b10 t38_0 t38_1 t38_2 w24 R) (loc [b5, b6, b7, b8, b10] w17 fun w20 => S0T n0 b5 x1_0 x1_1 x1_2 b6 y2_0 y2_1 y2_2 b7 z3_0 z3_1 z3_2 b8 0 0 0 b10 t32_0 t32_1 t32_2 w20 R))) : Calls Tryz.prog n_term_sortOfArrays #[.pointer (some n0), .agg #[.i x1_0, .i x1_1, .i x1_2], .agg #[.i y2_0, .i y2_1, .i y2_2], .agg #[.i z3_0, .i z3_1, .i z3_2]] w R := callsX X [eS0, eS1] h
end term_sortOfArrays
namespace term_sortOfStrings
noncomputable abbrev X : Fx := ⟨Tryz.prog, Tryz.f90, [(3,ls [1,0,2,3,4,5,6,7]), (5,ls [1,3,4,5,6,7,0,2,8,9,10,11,12,13,14,15,16,17,18,19]), (7,ls [0,1,2,3,4,6,12,13,14,15,16,17,5,7,8,9,10,11,18,19,20,21,22]), (9,ls [0,1,2,3,4,5,6,7,8,9,10,11,12,13,14,15,16,17]), (11,ls [1,0,2,3,4,5,6,7,8,9,10,11]), (13,ls [0,1,2,3,4,6,16,17,18,19,20,21,5,7,8,9,10,11,12,13,14,15,22,23,24,25,26]), (15,ls [1,0,2,3,4,5,6,7,8])], [5, 6, 7, 8]⟩
theorem okT (n0 : Addr) (x1_0 x1_1 x1_2 y2_0 y2_1 y2_2 z3_0 z3_1 z3_2 : Int) (w : World) (R : Post) (h : newV [] w fun b5 w1 => 
  newV [b5] w1 fun b6 w2 => 
  newV [b5, b6] w2 fun b7 w3 => 
  newV [b5, b6, b7] w3 fun b8 w4 => 
  ∃ t13 : Int, w4.cell? (n0.add 0) = some (.i t13) ∧ 
  sel (t13 == 27) (loc [b5, b6, b7, b8] w4 fun w5 => cf17 [b5, b6, b7, b8] n_term_bv #[.i 7] w5 fun t16_0 t16_1 t16_2 w6 => cf0 [b5, b6, b7, b8] n_term_isStr #[.agg #[.i x1_0, .i x1_1, .i x1_2]] w6 fun t18 w7 => cf19 [b5, b6, b7, b8] n_term_result #[.agg #[.i t16_0, .i t16_1, .i t16_2], .bool t18, .bool true] w7 fun t19_0_0 t19_0_1 t19_0_2 t19_1 w8 => loc [b5, b6, b7, b8] w8 fun w11 => R (.returned (.tuple #[.agg #[.i t19_0_0, .i t19_0_1, .i t19_0_2], .i t19_1])) w11) (sel (t13 == 28) (loc [b5, b6, b7, b8] w4 fun w12 => ∃ t30 : Int, w12.cell? (n0.add 2) = some (.i t30) ∧ 
  cf17 [b5, b6, b7, b8] n_term_bv #[.i 8] w12 fun t24_0 t24_1 t24_2 w13 => w13.cell? (n0.add 2) = some (.i t30) ∧ cf0 [b5, b6, b7, b8] n_term_isStr #[.agg #[.i x1_0, .i x1_1, .i x1_2]] w13 fun t26 w14 => w14.cell? (n0.add 2) = some (.i t30) ∧ sel (decide (0 ≤ t30)) (∃ t36 : Int, w14.cell? (n0.add 2) = some (.i t36) ∧ 
  cf19 [b5, b6, b7, b8] n_term_result #[.agg #[.i t24_0, .i t24_1, .i t24_2], .bool t26, .bool (decide (t36 < 64))] w14 fun t39_0_0 t39_0_1 t39_0_2 t39_1 w15 => loc [b5, b6, b7, b8] w15 fun w18 => R (.returned (.tuple #[.agg #[.i t39_0_0, .i t39_0_1, .i t39_0_2], .i t39_1])) w18) (cf19 [b5, b6, b7, b8] n_term_result #[.agg #[.i t24_0, .i t24_1, .i t24_2], .bool t26, .bool false] w14 fun t39_x1_0_0 t39_x1_0_1 t39_x1_0_2 t39_x1_1 w19 => loc [b5, b6, b7, b8] w19 fun w22 => R (.returned (.tuple #[.agg #[.i t39_x1_0_0, .i t39_x1_0_1, .i t39_x1_0_2], .i t39_x1_1])) w22)) (sel (t13 == 29) (loc [b5, b6, b7, b8] w4 fun w23 => cf17 [b5, b6, b7, b8] n_term_str #[.i (IntKind.wrap .i64 (x1_1 + y2_1))] w23 fun t49_0 t49_1 t49_2 w24 => cf0 [b5, b6, b7, b8] n_term_isStr #[.agg #[.i x1_0, .i x1_1, .i x1_2]] w24 fun t51 w25 => sel t51 (cf0 [b5, b6, b7, b8] n_term_isStr #[.agg #[.i y2_0, .i y2_1, .i y2_2]] w25 fun t54 w26 => cf19 [b5, b6, b7, b8] n_term_result #[.agg #[.i t49_0, .i t49_1, .i t49_2], .bool t54, .bool (decide ((IntKind.wrap .i64 (x1_1 + y2_1)) ≤ 64))] w26 fun t62_0_0 t62_0_1 t62_0_2 t62_1 w27 => loc [b5, b6, b7, b8] w27 fun w30 => R (.returned (.tuple #[.agg #[.i t62_0_0, .i t62_0_1, .i t62_0_2], .i t62_1])) w30) (cf19 [b5, b6, b7, b8] n_term_result #[.agg #[.i t49_0, .i t49_1, .i t49_2], .bool false, .bool (decide ((IntKind.wrap .i64 (x1_1 + y2_1)) ≤ 64))] w25 fun t62_x1_0_0 t62_x1_0_1 t62_x1_0_2 t62_x1_1 w31 => loc [b5, b6, b7, b8] w31 fun w34 => R (.returned (.tuple #[.agg #[.i t62_x1_0_0, .i t62_x1_0_1, .i t62_x1_0_2], .i t62_x1_1])) w34)) (sel (t13 == 30) (loc [b5, b6, b7, b8] w4 fun w35 => cf0 [b5, b6, b7, b8] n_term_isStr #[.agg #[.i x1_0, .i x1_1, .i x1_2]] w35 fun t69 w36 => sel t69 (cf17 [b5, b6, b7, b8] n_term_bv #[.i 7] w36 fun t72_0 t72_1 t72_2 w37 => sel ((y2_0 == t72_0) && ((y2_1 == t72_1) && ((y2_2 == t72_2) && true))) (cf17 [b5, b6, b7, b8] n_term_bv #[.i 7] w37 fun t77_0 t77_1 t77_2 w38 => cf19 [b5, b6, b7, b8] n_term_result #[.agg #[.i x1_0, .i x1_1, .i x1_2], .bool ((z3_0 == t77_0) && ((z3_1 == t77_1) && ((z3_2 == t77_2) && true))), .bool true] w38 fun t80_0_0 t80_0_1 t80_0_2 t80_1 w39 => loc [b5, b6, b7, b8] w39 fun w42 => R (.returned (.tuple #[.agg #[.i t80_0_0, .i t80_0_1, .i t80_0_2], .i t80_1])) w42) (cf19 [b5, b6, b7, b8] n_term_result #[.agg #[.i x1_0, .i x1_1, .i x1_2], .bool false, .bool true] w37 fun t80_x1_0_0 t80_x1_0_1 t80_x1_0_2 t80_x1_1 w43 => loc [b5, b6, b7, b8] w43 fun w46 => R (.returned (.tuple #[.agg #[.i t80_x1_0_0, .i t80_x1_0_1, .i t80_x1_0_2], .i t80_x1_1])) w46)) (cf19 [b5, b6, b7, b8] n_term_result #[.agg #[.i x1_0, .i x1_1, .i x1_2], .bool false, .bool true] w36 fun t80_x2_0_0 t80_x2_0_1 t80_x2_0_2 t80_x2_1 w47 => loc [b5, b6, b7, b8] w47 fun w50 => R (.returned (.tuple #[.agg #[.i t80_x2_0_0, .i t80_x2_0_1, .i t80_x2_0_2], .i t80_x2_1])) w50)) (sel (t13 == 31) (loc [b5, b6, b7, b8] w4 fun w51 => cf17 [b5, b6, b7, b8] n_term_bv #[.i 7] w51 fun t85_0 t85_1 t85_2 w52 => cf0 [b5, b6, b7, b8] n_term_isStr #[.agg #[.i x1_0, .i x1_1, .i x1_2]] w52 fun t87 w53 => sel t87 (cf0 [b5, b6, b7, b8] n_term_isStr #[.agg #[.i y2_0, .i y2_1, .i y2_2]] w53 fun t90 w54 => cf19 [b5, b6, b7, b8] n_term_result #[.agg #[.i t85_0, .i t85_1, .i t85_2], .bool t90, .bool true] w54 fun t92_0_0 t92_0_1 t92_0_2 t92_1 w55 => loc [b5, b6, b7, b8] w55 fun w58 => R (.returned (.tuple #[.agg #[.i t92_0_0, .i t92_0_1, .i t92_0_2], .i t92_1])) w58) (cf19 [b5, b6, b7, b8] n_term_result #[.agg #[.i t85_0, .i t85_1, .i t85_2], .bool false, .bool true] w53 fun t92_x1_0_0 t92_x1_0_1 t92_x1_0_2 t92_x1_1 w59 => loc [b5, b6, b7, b8] w59 fun w62 => R (.returned (.tuple #[.agg #[.i t92_x1_0_0, .i t92_x1_0_1, .i t92_x1_0_2], .i t92_x1_1])) w62)) (sel (t13 == 32) (loc [b5, b6, b7, b8] w4 fun w63 => cf17 [b5, b6, b7, b8] n_term_str #[.i (IntKind.wrap .i64 (x1_1 + z3_1))] w63 fun t102_0 t102_1 t102_2 w64 => cf0 [b5, b6, b7, b8] n_term_isStr #[.agg #[.i x1_0, .i x1_1, .i x1_2]] w64 fun t104 w65 => sel t104 (cf0 [b5, b6, b7, b8] n_term_isStr #[.agg #[.i y2_0, .i y2_1, .i y2_2]] w65 fun t107 w66 => sel t107 (cf0 [b5, b6, b7, b8] n_term_isStr #[.agg #[.i z3_0, .i z3_1, .i z3_2]] w66 fun t111 w67 => cf19 [b5, b6, b7, b8] n_term_result #[.agg #[.i t102_0, .i t102_1, .i t102_2], .bool t111, .bool (decide ((IntKind.wrap .i64 (x1_1 + z3_1)) ≤ 64))] w67 fun t119_0_0 t119_0_1 t119_0_2 t119_1 w68 => loc [b5, b6, b7, b8] w68 fun w71 => R (.returned (.tuple #[.agg #[.i t119_0_0, .i t119_0_1, .i t119_0_2], .i t119_1])) w71) (cf19 [b5, b6, b7, b8] n_term_result #[.agg #[.i t102_0, .i t102_1, .i t102_2], .bool false, .bool (decide ((IntKind.wrap .i64 (x1_1 + z3_1)) ≤ 64))] w66 fun t119_x1_0_0 t119_x1_0_1 t119_x1_0_2 t119_x1_1 w72 => loc [b5, b6, b7, b8] w72 fun w75 => R (.returned (.tuple #[.agg #[.i t119_x1_0_0, .i t119_x1_0_1, .i t119_x1_0_2], .i t119_x1_1])) w75)) (cf19 [b5, b6, b7, b8] n_term_result #[.agg #[.i t102_0, .i t102_1, .i t102_2], .bool false, .bool (decide ((IntKind.wrap .i64 (x1_1 + z3_1)) ≤ 64))] w65 fun t119_x2_0_0 t119_x2_0_1 t119_x2_0_2 t119_x2_1 w76 => loc [b5, b6, b7, b8] w76 fun w79 => R (.returned (.tuple #[.agg #[.i t119_x2_0_0, .i t119_x2_0_1, .i t119_x2_0_2], .i t119_x2_1])) w79)) (sel (t13 == 34) (loc [b5, b6, b7, b8] w4 fun w80 => cf17 [b5, b6, b7, b8] n_term_str #[.i 1] w80 fun t124_0 t124_1 t124_2 w81 => cf17 [b5, b6, b7, b8] n_term_bv #[.i 8] w81 fun t126_0 t126_1 t126_2 w82 => cf19 [b5, b6, b7, b8] n_term_result #[.agg #[.i t124_0, .i t124_1, .i t124_2], .bool ((x1_0 == t126_0) && ((x1_1 == t126_1) && ((x1_2 == t126_2) && true))), .bool true] w82 fun t128_0_0 t128_0_1 t128_0_2 t128_1 w83 => loc [b5, b6, b7, b8] w83 fun w86 => R (.returned (.tuple #[.agg #[.i t128_0_0, .i t128_0_1, .i t128_0_2], .i t128_1])) w86) (cf0 [b5, b6, b7, b8] n_term_isStr #[.agg #[.i x1_0, .i x1_1, .i x1_2]] w4 fun t132 w87 => sel (!t132) (loc [b5, b6, b7, b8] w87 fun w90 => R (.returned (.tuple #[.agg #[.i x1_0, .i x1_1, .i x1_2], .i 9])) w90) (∃ t138 : ByteArray, w87.cell? (n0.add 5) = some (.string t138) ∧ 
  cf0 [b5, b6, b7, b8] n_term_isNormal #[.string t138] w87 fun t139 w91 => sel (!t139) (loc [b5, b6, b7, b8] w91 fun w94 => R (.returned (.tuple #[.agg #[.i x1_0, .i x1_1, .i x1_2], .i 2])) w94) (cf17 [b5, b6, b7, b8] n_term_bv #[.i 1] w91 fun t142_0 t142_1 t142_2 w95 => loc [b5, b6, b7, b8] w95 fun w98 => R (.returned (.tuple #[.agg #[.i t142_0, .i t142_1, .i t142_2], .i 0])) w98)))))))))) : Calls Tryz.prog n_term_sortOfStrings #[.pointer (some n0), .agg #[.i x1_0, .i x1_1, .i x1_2], .agg #[.i y2_0, .i y2_1, .i y2_2], .agg #[.i z3_0, .i z3_1, .i z3_2]] w R := callsX X [] h
end term_sortOfStrings
namespace term_sortOf
noncomputable abbrev X : Fx := ⟨Tryz.prog, Tryz.f65, [(1,ls [0,1,2,3,4,5,6,7,8,9,10,11,12,13,14,15,16,17])], [6, 11]⟩
abbrev P0 : Ps := [(6, .l [.I, .I, .I] ty_api_Sort)]
abbrev S0T (t6 : Nat) (t6_0 t6_1 t6_2 : Int) (w : World) (R : Post) : Prop :=
  loc [t6] w fun w3 => R (.returned (.tuple #[.agg #[.i 0, .i 0, .i 0], .i 1])) w3
noncomputable def eS0 := entS X [] (pth [0, 1, 1, 1, 1]) P0 S0T
abbrev P1 : Ps := [(0, .v [.s]), (2, .v [.f]), (4, .v [.r]), (6, .l [.I, .I, .I] ty_api_Sort), (8, .v [.r]), (34, .v [.I]), (35, .v [.I])]
def L1T (nodes0 : Sl) (lookup2 : Fv) (n4 : Addr) (t6 : Nat) (t6_0 t6_1 t6_2 : Int) (kids8 : Addr) (t34 t35 : Int) (w : World) (R : Post) : Prop := mkCur P1 0 (X.Sem (pth [0, 1, 1, 1, 3])) nodes0 lookup2 n4 t6 t6_0 t6_1 t6_2 kids8 t34 t35 w R
noncomputable def eL1 := entL X (pth [0, 1, 1, 1, 3]) P1 L1T
abbrev S2T (t6 : Nat) (t6_0 t6_1 t6_2 : Int) (w : World) (R : Post) : Prop :=
  loc [t6] w fun w3 => R (.returned (.tuple #[.agg #[.i 0, .i 0, .i 0], .i 1])) w3
noncomputable def eS2 := entS X [eL1, eS0] (pth [0, 1, 1, 1, 2, 2, 2, 2, 1, 1, 3]) P0 S2T
abbrev P2 : Ps := [(6, .l [.I, .I, .I] ty_api_Sort), (11, .l [.I, .I, .I] ty_api_Sort), (12, .v [.I])]
abbrev S3T (t6 : Nat) (t6_0 t6_1 t6_2 : Int) (s11 : Nat) (s11_0 s11_1 s11_2 e12 : Int) (w : World) (R : Post) : Prop :=
  sel (e12 != 0) (loc [t6, s11] w fun w3 => R (.returned (.tuple #[.agg #[.i 0, .i 0, .i 0], .i e12])) w3) (loc [t6, s11] w fun w6 => R (.returned (.tuple #[.agg #[.i s11_0, .i s11_1, .i s11_2], .i 0])) w6)
noncomputable def eS3 := entS X [eS2, eL1, eS0] (pth [8]) P2 S3T
theorem L1T_step : ∀ (nodes0 : Sl) (lookup2 : Fv) (n4 : Addr) (t6 : Nat) (t6_0 t6_1 t6_2 : Int) (kids8 : Addr) (t34 t35 : Int) (w : World) (R : Post) (h : sel (decide (t35 < t34)) (∃ t39 : Sl, w.cell? (n4.add 1) = some (t39.v) ∧ 
  (0 : Int) ≤ t35 ∧ t35 < ((t39.n : Nat) : Int) ∧ optP t39.a fun t41_p => ∃ t42 : Int, w.cell? (t41_p.add (Int.toNat t35 * 1)) = some (.i t42) ∧ 
  sel (decide (t42 < 0)) (S2T t6 t6_0 t6_1 t6_2 w R) (sel (decide (t42 ≥ ((nodes0.n : Nat) : Int))) (S2T t6 t6_0 t6_1 t6_2 w R) ((0 : Int) ≤ t42 ∧ t42 < ((nodes0.n : Nat) : Int) ∧ optP nodes0.a fun t55_p => ld3_2 w ((t55_p.add (Int.toNat t42 * 9)).add 6) fun t57_0 t57_1 t57_2 => (0 : Int) ≤ t35 ∧ t35 < ((3 : Nat) : Int) ∧ stV w (kids8.add (Int.toNat t35 * 3)) (.i t57_0) fun w5 => kept [t6] w w5 ∧ 
  stV w5 ((kids8.add (Int.toNat t35 * 3)).add 1) (.i t57_1) fun w6 => kept [t6] w5 w6 ∧ 
  stV w6 ((kids8.add (Int.toNat t35 * 3)).add 2) (.i t57_2) fun w7 => kept [t6] w6 w7 ∧ 
  L1T nodes0 lookup2 n4 t6 t6_0 t6_1 t6_2 kids8 t34 (IntKind.wrap .i64 (t35 + 1)) w7 R))) (cf0 [t6] n_term_fieldsFit #[.pointer (some n4)] w fun t60 w8 => sel (!t60) (loc [t6] w8 fun w11 => R (.returned (.tuple #[.agg #[.i 0, .i 0, .i 0], .i 1])) w11) (newV [t6] w8 fun b11 w12 => 
  ∃ t75 : Int, w12.cell? (n4.add 0) = some (.i t75) ∧ 
  sel (t75 == 0) (cf19 [t6, b11] n_term_sortOfVar #[.pointer (some n4), lookup2.v] w12 fun t79_0_0 t79_0_1 t79_0_2 t79_1 w13 => loc [t6, b11] w13 fun w16 => S3T t6 t6_0 t6_1 t6_2 b11 t79_0_0 t79_0_1 t79_0_2 t79_1 w16 R) (∃ t84 : Int, w12.cell? (n4.add 0) = some (.i t84) ∧ 
  sel (decide (t84 ≤ 3)) (cf19 [t6, b11] n_term_sortOfLeaf #[.pointer (some n4)] w12 fun t87_0_0 t87_0_1 t87_0_2 t87_1 w17 => loc [t6, b11] w17 fun w20 => S3T t6 t6_0 t6_1 t6_2 b11 t87_0_0 t87_0_1 t87_0_2 t87_1 w20 R) (∃ t92 : Int, w12.cell? (n4.add 0) = some (.i t92) ∧ 
  sel (decide (t92 ≤ 23)) ((0 : Int) ≤ 0 ∧ 0 < ((3 : Nat) : Int) ∧ ld3_2 w12 (kids8.add (Int.toNat 0 * 3)) fun t96_0 t96_1 t96_2 => (0 : Int) ≤ 1 ∧ 1 < ((3 : Nat) : Int) ∧ ld3_2 w12 (kids8.add (Int.toNat 1 * 3)) fun t98_0 t98_1 t98_2 => (0 : Int) ≤ 2 ∧ 2 < ((3 : Nat) : Int) ∧ ld3_2 w12 (kids8.add (Int.toNat 2 * 3)) fun t100_0 t100_1 t100_2 => cf19 [t6, b11] n_term_sortOfBits #[.pointer (some n4), .agg #[.i t96_0, .i t96_1, .i t96_2], .agg #[.i t98_0, .i t98_1, .i t98_2], .agg #[.i t100_0, .i t100_1, .i t100_2]] w12 fun t101_0_0 t101_0_1 t101_0_2 t101_1 w21 => loc [t6, b11] w21 fun w24 => S3T t6 t6_0 t6_1 t6_2 b11 t101_0_0 t101_0_1 t101_0_2 t101_1 w24 R) (∃ t106 : Int, w12.cell? (n4.add 0) = some (.i t106) ∧ 
  sel (decide (t106 ≤ 26)) ((0 : Int) ≤ 0 ∧ 0 < ((3 : Nat) : Int) ∧ ld3_2 w12 (kids8.add (Int.toNat 0 * 3)) fun t110_0 t110_1 t110_2 => (0 : Int) ≤ 1 ∧ 1 < ((3 : Nat) : Int) ∧ ld3_2 w12 (kids8.add (Int.toNat 1 * 3)) fun t112_0 t112_1 t112_2 => (0 : Int) ≤ 2 ∧ 2 < ((3 : Nat) : Int) ∧ ld3_2 w12 (kids8.add (Int.toNat 2 * 3)) fun t114_0 t114_1 t114_2 => cf19 [t6, b11] n_term_sortOfArrays #[.pointer (some n4), .agg #[.i t110_0, .i t110_1, .i t110_2], .agg #[.i t112_0, .i t112_1, .i t112_2], .agg #[.i t114_0, .i t114_1, .i t114_2]] w12 fun t115_0_0 t115_0_1 t115_0_2 t115_1 w25 => loc [t6, b11] w25 fun w28 => S3T t6 t6_0 t6_1 t6_2 b11 t115_0_0 t115_0_1 t115_0_2 t115_1 w28 R) ((0 : Int) ≤ 0 ∧ 0 < ((3 : Nat) : Int) ∧ ld3_2 w12 (kids8.add (Int.toNat 0 * 3)) fun t65_0 t65_1 t65_2 => (0 : Int) ≤ 1 ∧ 1 < ((3 : Nat) : Int) ∧ ld3_2 w12 (kids8.add (Int.toNat 1 * 3)) fun t67_0 t67_1 t67_2 => (0 : Int) ≤ 2 ∧ 2 < ((3 : Nat) : Int) ∧ ld3_2 w12 (kids8.add (Int.toNat 2 * 3)) fun t69_0 t69_1 t69_2 => cf19 [t6, b11] n_term_sortOfStrings #[.pointer (some n4), .agg #[.i t65_0, .i t65_1, .i t65_2], .agg #[.i t67_0, .i t67_1, .i t67_2], .agg #[.i t69_0, .i t69_1, .i t69_2]] w12 fun t70_0_0 t70_0_1 t70_0_2 t70_1 w29 => loc [t6, b11] w29 fun w32 => S3T t6 t6_0 t6_1 t6_2 b11 t70_0_0 t70_0_1 t70_0_2 t70_1 w32 R))))))), L1T nodes0 lookup2 n4 t6 t6_0 t6_1 t6_2 kids8 t34 t35 w R := mp (stepL (X := X) [eS3, eS2, eL1, eS0] (pth [0, 1, 1, 1, 3]) P1)
theorem okT (nodes0 : Sl) (n1_0 : Int) (n1_1 : Sl) (n1_2 n1_3 n1_4 : Int) (n1_5 : ByteArray) (n1_6 n1_7 n1_8 : Int) (lookup2 : Fv) (w : World) (R : Post) (h : nwV w (.cells #[.i n1_0, n1_1.v, .i n1_2, .i n1_3, .u n1_4, .string n1_5, .i n1_6, .i n1_7, .i n1_8] ty_api_Node) fun w1 => 
  newV [] w1 fun b6 w2 => 
  loc [b6] w2 fun w3 => ∃ t14 : Int, w3.cell? ((nb w).add 0) = some (.i t14) ∧ 
  sel (decide (t14 < 0)) (S0T b6 0 0 0 w3 R) (∃ t18 : Int, w3.cell? ((nb w).add 0) = some (.i t18) ∧ 
  sel (decide (t18 ≥ 35)) (S0T b6 0 0 0 w3 R) (∃ t23 : Sl, w3.cell? ((nb w).add 1) = some (t23.v) ∧ 
  ∃ t26 : Int, w3.cell? ((nb w).add 0) = some (.i t26) ∧ 
  (0 : Int) ≤ t26 ∧ t26 < ((35 : Nat) : Int) ∧ ∃ t28 : Int, w3.cell? ((Addr.mk 0 0 none).add (Int.toNat t26 * 1)) = some (.i t28) ∧ 
  sel (((t23.n : Nat) : Int) != t28) (S0T b6 0 0 0 w3 R) (nwV w3 (.cells #[.i 0, .i 0, .i 0, .i 0, .i 0, .i 0, .i 0, .i 0, .i 0] ty_3_api_Sort) fun w4 => 
  ∃ t33 : Sl, w4.cell? ((nb w).add 1) = some (t33.v) ∧ 
  L1T nodes0 lookup2 (nb w) b6 0 0 0 (nb w3) ((t33.n : Nat) : Int) 0 w4 R)))) : Calls Tryz.prog n_term_sortOf #[nodes0.v, .agg #[.i n1_0, n1_1.v, .i n1_2, .i n1_3, .u n1_4, .string n1_5, .i n1_6, .i n1_7, .i n1_8], lookup2.v] w R := callsX X [eS3, eS2, eL1, eS0] h
end term_sortOf
end Go.Proofs.YtnpkhgljhcnpcaaGreatDoor
set_option linter.unusedVariables false
set_option maxRecDepth 100000
set_option maxHeartbeats 2000000
namespace Go.Proofs.YtnpkhgljhcnpcaaGreatDoor
open Go Go.W
namespace slices_Clone_sl_byte_byte
noncomputable abbrev X : Fx := ⟨Tryz.prog, Tryz.f113, [], []⟩
theorem ok (s0 : Sl) (w : World) (R : Post) (h : sel s0.a.isNone (R (.returned (.slice none 0 0)) w) (nwV w (.cells #[] ty_uint8) fun w1 => 
  ∃ (t7 : Sl) (w2 : World), Sem.run Tryz.prog (Builtin.append_ #[ty_sl_uint8, ty_sl_uint8] ty_sl_uint8 #[.slice (some (nb w)) 0 0, s0.v]) w1 = .ok (t7.v) w2 ∧ R (.returned (t7.v)) w2)) : Calls Tryz.prog n_slices_Clone_sl_byte_byte #[s0.v] w R := callsX X [] h
end slices_Clone_sl_byte_byte
namespace wire_Writer_Uint
noncomputable abbrev X : Fx := ⟨Tryz.prog, Tryz.f111, [], []⟩
abbrev P0 : Ps := [(0, .v [.r]), (1, .v [.U])]
def L0 (wv0 : Addr) (n1 : Int) (w : World) (R : Post) : Prop := mkCur P0 0 (X.Sem (pth [0, 2])) wv0 n1 w R
noncomputable def eL0 := entL X (pth [0, 2]) P0 L0
theorem L0_step : ∀ (wv0 : Addr) (n1 : Int) (w : World) (R : Post) (h : sel (decide (n1 ≥ 128)) (∃ t10 : Sl, w.cell? (wv0.add 0) = some (t10.v) ∧ 
  nwV w (.cells #[.int .u8 (bOr .u8 (IntKind.wrap .u8 n1) 128)] ty_uint8) fun w1 => 
  ∃ (t15 : Sl) (w2 : World), Sem.run Tryz.prog (Builtin.append_ #[ty_sl_uint8, ty_sl_uint8] ty_sl_uint8 #[t10.v, .slice (some (nb w)) 1 1]) w1 = .ok (t15.v) w2 ∧ stV w2 (wv0.add 0) (t15.v) fun w3 => 
  L0 wv0 (Int.fdiv n1 (2 ^ (7))) w3 R) (∃ t24 : Sl, w.cell? (wv0.add 0) = some (t24.v) ∧ 
  nwV w (.cells #[.int .u8 (IntKind.wrap .u8 n1)] ty_uint8) fun w4 => 
  ∃ (t28 : Sl) (w5 : World), Sem.run Tryz.prog (Builtin.append_ #[ty_sl_uint8, ty_sl_uint8] ty_sl_uint8 #[t24.v, .slice (some (nb w)) 1 1]) w4 = .ok (t28.v) w5 ∧ stV w5 (wv0.add 0) (t28.v) fun w6 => 
  R (.returned (.tuple #[])) w6)), L0 wv0 n1 w R := mp (stepL (X := X) [eL0] (pth [0, 2]) P0)
theorem ok (wv0 : Addr) (n1 : Int) (w : World) (R : Post) (h : L0 wv0 n1 w R) : Calls Tryz.prog n_wire_Writer_Uint #[.pointer (some wv0), .u n1] w R := callsX X [eL0] h
end wire_Writer_Uint
namespace wire_Writer_Int
noncomputable abbrev X : Fx := ⟨Tryz.prog, Tryz.f109, [], []⟩
theorem ok (wv0 : Addr) (n1 : Int) (w : World) (R : Post) (h : ca4 n_wire_Writer_Uint #[.pointer (some wv0), .u (bXor .u64 (IntKind.wrap .u64 ((IntKind.wrap .u64 n1) * 2 ^ (1))) (IntKind.wrap .u64 (Int.fdiv n1 (2 ^ (63)))))] w fun w1 => R (.returned (.tuple #[])) w1) : Calls Tryz.prog n_wire_Writer_Int #[.pointer (some wv0), .i n1] w R := callsX X [] h
end wire_Writer_Int
namespace wire_Writer_Ints
noncomputable abbrev X : Fx := ⟨Tryz.prog, Tryz.f110, [], []⟩
abbrev P0 : Ps := [(0, .v [.r]), (11, .v [.s]), (12, .v [.I]), (13, .v [.I])]
def L0 (wv0 : Addr) (t11 : Sl) (t12 t13 : Int) (w : World) (R : Post) : Prop := mkCur P0 0 (X.Sem (pth [0, 1, 2])) wv0 t11 t12 t13 w R
noncomputable def eL0 := entL X (pth [0, 1, 2]) P0 L0
theorem L0_step : ∀ (wv0 : Addr) (t11 : Sl) (t12 t13 : Int) (w : World) (R : Post) (h : sel (decide (t13 < t12)) ((0 : Int) ≤ t13 ∧ t13 < ((t11.n : Nat) : Int) ∧ optP t11.a fun t15_p => ∃ t16 : Int, w.cell? (t15_p.add (Int.toNat t13 * 1)) = some (.i t16) ∧ 
  ca4 n_wire_Writer_Int #[.pointer (some wv0), .i t16] w fun w2 => L0 wv0 t11 t12 (IntKind.wrap .i64 (t13 + 1)) w2 R) (R (.returned (.tuple #[])) w)), L0 wv0 t11 t12 t13 w R := mp (stepL (X := X) [eL0] (pth [0, 1, 2]) P0)
theorem ok (wv0 : Addr) (l1 : Sl) (w : World) (R : Post) (h : ca4 n_wire_Writer_Uint #[.pointer (some wv0), .u (IntKind.wrap .u64 ((l1.n : Nat) : Int))] w fun w1 => L0 wv0 l1 ((l1.n : Nat) : Int) 0 w1 R) : Calls Tryz.prog n_wire_Writer_Ints #[.pointer (some wv0), l1.v] w R := callsX X [eL0] h
end wire_Writer_Ints
namespace wire_Writer_Text
noncomputable abbrev X : Fx := ⟨Tryz.prog, Tryz.f112, [], []⟩
theorem ok (wv0 : Addr) (s1 : ByteArray) (w : World) (R : Post) (h : ca4 n_wire_Writer_Uint #[.pointer (some wv0), .u (IntKind.wrap .u64 ((s1.size : Nat) : Int))] w fun w1 => ∃ t13 : Sl, w1.cell? (wv0.add 0) = some (t13.v) ∧ 
  ∃ (t15 : Sl) (w2 : World), Sem.run Tryz.prog (Builtin.append_ #[ty_sl_uint8, ty_string] ty_sl_uint8 #[t13.v, .string s1]) w1 = .ok (t15.v) w2 ∧ stV w2 (wv0.add 0) (t15.v) fun w3 => 
  R (.returned (.tuple #[])) w3) : Calls Tryz.prog n_wire_Writer_Text #[.pointer (some wv0), .string s1] w R := callsX X [] h
end wire_Writer_Text
namespace wire_Writer_Done
noncomputable abbrev X : Fx := ⟨Tryz.prog, Tryz.f84, [], []⟩
theorem ok (wv0 : Addr) (w : World) (R : Post) (h : ∃ t6 : Sl, w.cell? (wv0.add 0) = some (t6.v) ∧ 
  ca3 n_slices_Clone_sl_byte_byte #[t6.v] w fun t7 w1 => R (.returned (t7.v)) w1) : Calls Tryz.prog n_wire_Writer_Done #[.pointer (some wv0)] w R := callsX X [] h
end wire_Writer_Done
namespace term_write
noncomputable abbrev X : Fx := ⟨Tryz.prog, Tryz.f83, [], []⟩
theorem ok (wv0 n1 : Addr) (w : World) (R : Post) (h : ∃ t8 : Int, w.cell? (n1.add 0) = some (.i t8) ∧ 
  ca4 n_wire_Writer_Int #[.pointer (some wv0), .i t8] w fun w1 => ∃ t14 : Sl, w1.cell? (n1.add 1) = some (t14.v) ∧ 
  ca4 n_wire_Writer_Ints #[.pointer (some wv0), t14.v] w1 fun w2 => ∃ t20 : Int, w2.cell? (n1.add 2) = some (.i t20) ∧ 
  ca4 n_wire_Writer_Int #[.pointer (some wv0), .i t20] w2 fun w3 => ∃ t26 : Int, w3.cell? (n1.add 3) = some (.i t26) ∧ 
  ca4 n_wire_Writer_Int #[.pointer (some wv0), .i t26] w3 fun w4 => ∃ t32 : Int, w4.cell? (n1.add 4) = some (.u t32) ∧ 
  ca4 n_wire_Writer_Uint #[.pointer (some wv0), .u t32] w4 fun w5 => ∃ t38 : ByteArray, w5.cell? (n1.add 5) = some (.string t38) ∧ 
  ca4 n_wire_Writer_Text #[.pointer (some wv0), .string t38] w5 fun w6 => ∃ t45 : Int, w6.cell? ((n1.add 6).add 0) = some (.i t45) ∧ 
  ca4 n_wire_Writer_Int #[.pointer (some wv0), .i t45] w6 fun w7 => ∃ t52 : Int, w7.cell? ((n1.add 6).add 1) = some (.i t52) ∧ 
  ca4 n_wire_Writer_Int #[.pointer (some wv0), .i t52] w7 fun w8 => ∃ t59 : Int, w8.cell? ((n1.add 6).add 2) = some (.i t59) ∧ 
  ca4 n_wire_Writer_Int #[.pointer (some wv0), .i t59] w8 fun w9 => R (.returned (.tuple #[])) w9) : Calls Tryz.prog n_term_write #[.pointer (some wv0), .pointer (some n1)] w R := callsX X [] h
end term_write
namespace term_keyOf
noncomputable abbrev X : Fx := ⟨Tryz.prog, Tryz.f64, [], []⟩
theorem ok (n0 : Addr) (w : World) (R : Post) (h : nwV w (.cells #[.slice none 0 0] ty_wire_Writer) fun w1 => 
  ca4 n_term_write #[.pointer (some (nb w)), .pointer (some n0)] w1 fun w2 => ca3 n_wire_Writer_Done #[.pointer (some (nb w))] w2 fun t6 w3 => ∃ t7 : ByteArray, Sem.run Tryz.prog (Go.convert ty_sl_uint8 ty_string (t6.v)) w3 = .ok (.string t7) w3 ∧ R (.returned (.string t7)) w3) : Calls Tryz.prog n_term_keyOf #[.pointer (some n0)] w R := callsX X [] h
end term_keyOf
namespace term_builder_sortOf_1
noncomputable abbrev X : Fx := ⟨Tryz.prog, Tryz.f66, [], [3, 5]⟩
theorem okT (name0 : ByteArray) (t1 : Addr) (w : World) (R : Post) (h : newV [] w fun b3 w1 => 
  ∃ t8 : Option Addr, w1.cell? t1 = some (.pointer t8) ∧ 
  optP t8 fun t9_p => ∃ t11 : Option Nat, w1.cell? (t9_p.add 2) = some (.map t11) ∧ 
  ∃ t13_0_0 : Int, ∃ t13_0_1 : Int, ∃ t13_0_2 : Int, ∃ t13_1 : Bool, Sem.run Tryz.prog (Instr.lookup ty_map_string_api_Sort (.map t11) (.string name0) true) w1 = .ok (.tuple #[.agg #[.i t13_0_0, .i t13_0_1, .i t13_0_2], .bool t13_1]) w1 ∧ newV [b3] w1 fun b5 w2 => 
  loc [b3, b5] w2 fun w8 => R (.returned (.tuple #[.agg #[.i t13_0_0, .i t13_0_1, .i t13_0_2], .bool t13_1])) w8) : Calls Tryz.prog n_term_builder_sortOf_1 #[.string name0, .pointer (some t1)] w R := callsX X [] h
end term_builder_sortOf_1
namespace term_builder_sortOf
noncomputable abbrev X : Fx := ⟨Tryz.prog, Tryz.f43, [(1,ls [0,1,2,3,4,5,6,7,8,9,10])], [3, 4]⟩
theorem okT (b0 : Addr) (n1_0 : Int) (n1_1 : Sl) (n1_2 n1_3 n1_4 : Int) (n1_5 : ByteArray) (n1_6 n1_7 n1_8 : Int) (w : World) (R : Post) (h : nwV w (.cells #[.pointer (some b0)] ty_p_term_builder) fun w1 => 
  newV [] w1 fun b3 w2 => 
  newV [b3] w2 fun b4 w3 => 
  loc [b3, b4] w3 fun w4 => ∃ t6 : Option Addr, w4.cell? (nb w) = some (.pointer t6) ∧ 
  optP t6 fun t7_p => ∃ t9 : Sl, w4.cell? (t7_p.add 0) = some (t9.v) ∧ 
  cf19 [b3, b4] n_term_sortOf #[t9.v, .agg #[.i n1_0, n1_1.v, .i n1_2, .i n1_3, .u n1_4, .string n1_5, .i n1_6, .i n1_7, .i n1_8], .func (.func n_term_builder_sortOf_1) #[] #[.pointer (some (nb w))]] w4 fun t12_0_0 t12_0_1 t12_0_2 t12_1 w5 => loc [b3, b4] w5 fun w8 => R (.returned (.tuple #[.agg #[.i t12_0_0, .i t12_0_1, .i t12_0_2], .i t12_1])) w8) : Calls Tryz.prog n_term_builder_sortOf #[.pointer (some b0), .agg #[.i n1_0, n1_1.v, .i n1_2, .i n1_3, .u n1_4, .string n1_5, .i n1_6, .i n1_7, .i n1_8]] w R := callsX X [] h
end term_builder_sortOf
namespace term_builder_find
noncomputable abbrev X : Fx := ⟨Tryz.prog, Tryz.f44, [(1,ls [0,1,2,3,4,5,6,7,8,9,10])], []⟩
theorem ok (b0 : Addr) (n1_0 : Int) (n1_1 : Sl) (n1_2 n1_3 n1_4 : Int) (n1_5 : ByteArray) (n1_6 n1_7 n1_8 : Int) (w : World) (R : Post) (h : nwV w (.cells #[.i n1_0, n1_1.v, .i n1_2, .i n1_3, .u n1_4, .string n1_5, .i n1_6, .i n1_7, .i n1_8] ty_api_Node) fun w1 => 
  drV w1 fun w2 => ∃ t12 : Option Nat, w2.cell? (b0.add 1) = some (.map t12) ∧ 
  ca15 n_term_keyOf #[.pointer (some (nb w))] w2 fun t13 w3 => w3.cell? (b0.add 1) = some (.map t12) ∧ ∃ t14_0 : Int, ∃ t14_1 : Bool, Sem.run Tryz.prog (Instr.lookup ty_map_string_int (.map t12) (.string t13) true) w3 = .ok (.tuple #[.i t14_0, .bool t14_1]) w3 ∧ R (.returned (.tuple #[.i t14_0, .bool t14_1])) w3) : Calls Tryz.prog n_term_builder_find #[.pointer (some b0), .agg #[.i n1_0, n1_1.v, .i n1_2, .i n1_3, .u n1_4, .string n1_5, .i n1_6, .i n1_7, .i n1_8]] w R := callsX X [] h
end term_builder_find
namespace term_builder_put
noncomputable abbrev X : Fx := ⟨Tryz.prog, Tryz.f42, [(1,ls [0,1,2,3,5,6,7,8,9,4,10]), (3,ls [0,1,2,3,4,5,6,7,8]), (4,ls [0,1,2,3,4,5,6,7,8,9,10])], []⟩
abbrev P0 : Ps := [(0, .v [.r]), (3, .v [.r])]
abbrev S0 (b0 n3 : Addr) (w : World) (R : Post) : Prop :=
  drV w fun w1 => ∃ t30 : Sl, w1.cell? (b0.add 0) = some (t30.v) ∧ 
  ld9_3 w1 n3 fun t31_0 t31_1 t31_2 t31_3 t31_4 t31_5 t31_6 t31_7 t31_8 => nwV w1 (.cells #[.i t31_0, t31_1.v, .i t31_2, .i t31_3, .u t31_4, .string t31_5, .i t31_6, .i t31_7, .i t31_8] ty_api_Node) fun w2 => 
  w2.cell? (b0.add 0) = some (t30.v) ∧ ∃ (t33 : Sl) (w3 : World), Sem.run Tryz.prog (Builtin.append_ #[ty_sl_api_Node, ty_sl_api_Node] ty_sl_api_Node #[t30.v, .slice (some (nb w1)) 1 1]) w2 = .ok (t33.v) w3 ∧ stV w3 (b0.add 0) (t33.v) fun w4 => 
  ∃ t39 : Sl, w4.cell? (b0.add 0) = some (t39.v) ∧ 
  R (.returned (.i (IntKind.wrap .i64 (((t39.n : Nat) : Int) - 1)))) w4
noncomputable def eS0 := entS X [] (pth [3]) P0 S0
theorem ok (b0 : Addr) (n1_0 : Int) (n1_1 : Sl) (n1_2 n1_3 n1_4 : Int) (n1_5 : ByteArray) (n1_6 n1_7 n1_8 : Int) (w : World) (R : Post) (h : nwV w (.cells #[.i n1_0, n1_1.v, .i n1_2, .i n1_3, .u n1_4, .string n1_5, .i n1_6, .i n1_7, .i n1_8] ty_api_Node) fun w1 => 
  drV w1 fun w2 => ∃ t8 : Option Nat, w2.cell? (b0.add 1) = some (.map t8) ∧ 
  ∃ t13 : Sl, w2.cell? (b0.add 0) = some (t13.v) ∧ 
  ca15 n_term_keyOf #[.pointer (some (nb w))] w2 fun t9 w3 => w3.cell? (b0.add 0) = some (t13.v) ∧ w3.cell? (b0.add 1) = some (.map t8) ∧ ∃ (w4 : World), Sem.run Tryz.prog (Instr.mapUpdate ty_map_string_int (.map t8) (.string t9) (.i ((t13.n : Nat) : Int))) w3 = .ok () w4 ∧ ∃ t16 : Int, w4.cell? ((nb w).add 0) = some (.i t16) ∧ 
  sel (t16 == 0) (drV w4 fun w5 => ∃ t21 : Option Nat, w5.cell? (b0.add 2) = some (.map t21) ∧ 
  ∃ t23 : ByteArray, w5.cell? ((nb w).add 5) = some (.string t23) ∧ 
  ld3_2 w5 ((nb w).add 6) fun t25_0 t25_1 t25_2 => ∃ (w6 : World), Sem.run Tryz.prog (Instr.mapUpdate ty_map_string_api_Sort (.map t21) (.string t23) (.agg #[.i t25_0, .i t25_1, .i t25_2])) w5 = .ok () w6 ∧ S0 b0 (nb w) w6 R) (S0 b0 (nb w) w4 R)) : Calls Tryz.prog n_term_builder_put #[.pointer (some b0), .agg #[.i n1_0, n1_1.v, .i n1_2, .i n1_3, .u n1_4, .string n1_5, .i n1_6, .i n1_7, .i n1_8]] w R := callsX X [eS0] h
end term_builder_put
namespace term_newBuilder
noncomputable abbrev X : Fx := ⟨Tryz.prog, Tryz.f22, [], [1, 5]⟩
abbrev P0 : Ps := [(3, .v [.r]), (11, .v [.s]), (12, .v [.I]), (13, .v [.I])]
def L0T (b3 : Addr) (t11 : Sl) (t12 t13 : Int) (w : World) (R : Post) : Prop := mkCur P0 0 (X.Sem (pth [0, 1, 1, 1, 2])) b3 t11 t12 t13 w R
noncomputable def eL0 := entL X (pth [0, 1, 1, 1, 2]) P0 L0T
theorem L0T_step : ∀ (b3 : Addr) (t11 : Sl) (t12 t13 : Int) (w : World) (R : Post) (h : sel (decide (t13 < t12)) ((0 : Int) ≤ t13 ∧ t13 < ((t11.n : Nat) : Int) ∧ optP t11.a fun t15_p => ld9_3 w (t15_p.add (Int.toNat t13 * 9)) fun t16_0 t16_1 t16_2 t16_3 t16_4 t16_5 t16_6 t16_7 t16_8 => newV [] w fun b5 w5 => 
  loc [b5] w5 fun w14 => cf1 [b5] n_term_builder_put #[.pointer (some b3), .agg #[.i t16_0, t16_1.v, .i t16_2, .i t16_3, .u t16_4, .string t16_5, .i t16_6, .i t16_7, .i t16_8]] w14 fun t19 w15 => L0T b3 t11 t12 (IntKind.wrap .i64 (t13 + 1)) w15 R) (R (.returned (.pointer (some b3))) w)), L0T b3 t11 t12 t13 w R := mp (stepL (X := X) [eL0] (pth [0, 1, 1, 1, 2]) P0)
theorem okT (g0_0 : Sl) (w : World) (R : Post) (h : newV [] w fun b1 w1 => 
  nwV w1 (.map #[] 0) fun w2 => 
  nwV w2 (.map #[] 0) fun w3 => 
  nwV w3 (.cells #[.slice none 0 0, .map (some w1.heap.size), .map (some w2.heap.size)] ty_term_builder) fun w4 => 
  L0T (nb w3) g0_0 ((g0_0.n : Nat) : Int) 0 w4 R) : Calls Tryz.prog n_term_newBuilder #[.agg #[g0_0.v]] w R := callsX X [eL0] h
end term_newBuilder
namespace term_Valid
noncomputable abbrev X : Fx := ⟨Tryz.prog, Tryz.f26, [], [1, 5, 6]⟩
abbrev P0 : Ps := [(3, .v [.p]), (17, .v [.s]), (18, .v [.I]), (19, .v [.I])]
def L0T (b3 : Option Addr) (t17 : Sl) (t18 t19 : Int) (w : World) (R : Post) : Prop := mkCur P0 0 (X.Sem (pth [0, 1, 1, 1, 3])) b3 t17 t18 t19 w R
noncomputable def eL0 := entL X (pth [0, 1, 1, 1, 3]) P0 L0T
theorem L0T_step : ∀ (b3 : Option Addr) (t17 : Sl) (t18 t19 : Int) (w : World) (R : Post) (h : sel (decide (t19 < t18)) ((0 : Int) ≤ t19 ∧ t19 < ((t17.n : Nat) : Int) ∧ optP t17.a fun t21_p => ld9_3 w (t21_p.add (Int.toNat t19 * 9)) fun t22_0 t22_1 t22_2 t22_3 t22_4 t22_5 t22_6 t22_7 t22_8 => newV [] w fun b5 w3 => 
  loc [b5] w3 fun w12 => cf19 [b5] n_term_builder_sortOf #[.pointer b3, .agg #[.i t22_0, t22_1.v, .i t22_2, .i t22_3, .u t22_4, .string t22_5, .i t22_6, .i t22_7, .i t22_8]] w12 fun t26_0_0 t26_0_1 t26_0_2 t26_1 w13 => newV [b5] w13 fun b6 w14 => 
  sel (t26_1 != 0) (loc [b5, b6] w14 fun w17 => R (.returned (.i t26_1)) w17) (sel (!((t26_0_0 == t22_6) && ((t26_0_1 == t22_7) && ((t26_0_2 == t22_8) && true)))) (loc [b5, b6] w14 fun w17 => R (.returned (.i 9)) w17) (loc [b5, b6] w14 fun w17 => cf6 [b5, b6] n_term_builder_find #[.pointer b3, .agg #[.i t22_0, t22_1.v, .i t22_2, .i t22_3, .u t22_4, .string t22_5, .i t22_6, .i t22_7, .i t22_8]] w17 fun t39_0 t39_1 w18 => sel t39_1 (R (.returned (.i 8)) w18) (cf1 [b5, b6] n_term_builder_put #[.pointer b3, .agg #[.i t22_0, t22_1.v, .i t22_2, .i t22_3, .u t22_4, .string t22_5, .i t22_6, .i t22_7, .i t22_8]] w18 fun t45 w19 => L0T b3 t17 t18 (IntKind.wrap .i64 (t19 + 1)) w19 R)))) (R (.returned (.i 0)) w)), L0T b3 t17 t18 t19 w R := mp (stepL (X := X) [eL0] (pth [0, 1, 1, 1, 3]) P0)
theorem okT (g0_0 : Sl) (w : World) (R : Post) (h : newV [] w fun b1 w1 => 
  sel (decide (((g0_0.n : Nat) : Int) > 4096)) (R (.returned (.i 4)) w1) (cf9 [b1] n_term_newBuilder #[.agg #[.slice none 0 0]] w1 fun t15 w2 => L0T t15 g0_0 ((g0_0.n : Nat) : Int) 0 w2 R)) : Calls Tryz.prog n_term_Valid #[.agg #[g0_0.v]] w R := callsX X [eL0] h
end term_Valid
end Go.Proofs.YtnpkhgljhcnpcaaGreatDoor
set_option linter.unusedVariables false
set_option maxRecDepth 100000
set_option maxHeartbeats 2000000
namespace Go.Proofs.YtnpkhgljhcnpcaaGreatDoor
open Go Go.W
namespace strings_Builder_copyCheck
noncomputable def C0 : Code := (Tryz.f49.body).getD .skip
/-- (*strings.Builder).copyCheck -/
noncomputable def C1:=C0.sn
noncomputable def C2:=C1.fs
noncomputable def C3:=C1.sn
noncomputable def C4:=C3.sn
noncomputable def C5:=C4.fs
noncomputable def C6:=C4.sn
theorem ok (b0 : Addr) (w : World) (R : Post) (h : ∃ t5 : Option Addr, w.cell? (b0.add 0) = some (.pointer t5) ∧ 
  sel t5.isNone (∃ t9 : Option Addr, Sem.run Tryz.prog (Go.convert ty_p_strings_Builder ty_unsafe_Pointer (.pointer (some b0))) w = .ok (.pointer t9) w ∧ ∃ t10 : Option Addr, ∃ w1 : World, Sem.run Tryz.prog (callFunc n_internal_abi_NoEscape #[.pointer t9]) w = .ok (.value (.pointer t10)) w1 ∧ 
  ∃ t11 : Option Addr, Sem.run Tryz.prog (Go.convert ty_unsafe_Pointer ty_p_strings_Builder (.pointer t10)) w1 = .ok (.pointer t11) w1 ∧ stV w1 (b0.add 0) (.pointer t11) fun w2 => 
  R (.returned (.tuple #[])) w2) (∃ t17 : Option Addr, w.cell? (b0.add 0) = some (.pointer t17) ∧ 
  ∃ t19 : Bool, Sem.run Tryz.prog (binOp .neq ty_p_strings_Builder (.pointer t17) (.pointer (some b0))) w = .ok (.bool t19) w ∧ sel t19 (False) (R (.returned (.tuple #[])) w))) : Calls Tryz.prog n_strings_Builder_copyCheck #[.pointer (some b0)] w R :=
  calls_of_WP' (R := R) (fn := Tryz.f49) (c := C0) (args := [.pointer (some b0)]) (by kernel_rfl) (by kernel_rfl) (by kernel_rfl) (sr C0 (show (fun (E : Env) (w : World) => srK Tryz.prog C0 (fun E w => condK (Env.val E (.tmp 6)) (rgK Tryz.prog C2 (fun E w => retVC Tryz.prog Tryz.f49 E w (fun v => R (.returned v) w)) E w) (srK Tryz.prog C3 (fun E w => condK (Env.val E (.tmp 19)) (False) (retVC Tryz.prog Tryz.f49 E w (fun v => R (.returned v) w))) E w)) E w) (envOf 0 [.pointer (some b0)]) w from mp h) fun _ _ hK => (cn C1 hK (fun hK => (rg C2 (by kernel_rfl) hK fun _ _ a hA hK => retVC_sound hA hK)) (fun hK => (sr C3 hK fun _ _ hK => (cn C4 hK (fun hK => (False.elim hK)) (fun hK => (sk C6 fun a hA => retVC_sound hA hK)))))))
end strings_Builder_copyCheck
namespace strings_Builder_grow
noncomputable abbrev X : Fx := ⟨Tryz.prog, Tryz.f50, [(0,ls [0,1,2,3,4,5,6,7,9,10,11,12,13,8,14,15])], []⟩
abbrev P0 : Ps := [(0, .v [.r]), (4, .v [.s])]
abbrev S0 (b0 : Addr) (buf4 : Sl) (w : World) (R : Post) : Prop :=
  ∃ t24 : Sl, w.cell? (b0.add 1) = some (t24.v) ∧ 
  ∃ (t25 : Int) (w1 : World), Sem.run Tryz.prog (Builtin.copy_ #[ty_sl_uint8, ty_sl_uint8] ty_int #[buf4.v, t24.v]) w = .ok (.i t25) w1 ∧ stV w1 (b0.add 1) (buf4.v) fun w2 => 
  R (.returned (.tuple #[])) w2
noncomputable def eS0 := entS X [] (pth [1]) P0 S0
theorem ok (b0 : Addr) (n1 : Int) (w : World) (R : Post) (h : drV w fun w1 => ∃ t8 : Sl, w1.cell? (b0.add 1) = some (t8.v) ∧ 
  ∃ t17 : Sl, w1.cell? (b0.add 1) = some (t17.v) ∧ 
  ∃ t13 : Sl, ∃ w2 : World, Sem.run Tryz.prog (callFunc n_internal_bytealg_MakeNoZero #[.i (IntKind.wrap .i64 ((IntKind.wrap .i64 (2 * ((t8.c : Nat) : Int))) + n1))]) w1 = .ok (.value (t13.v)) w2 ∧ 
  w2.cell? (b0.add 1) = some (t17.v) ∧ (0 : Int) ≤ ((t17.n : Nat) : Int) ∧ ((t17.n : Nat) : Int) ≤ ((t13.c : Nat) : Int) ∧ S0 b0 ⟨(if t13.c = 0 then t13.a else t13.a.map (·.add (0 * 1))), ((Int.toNat ((t17.n : Nat) : Int)) - 0), (t13.c - 0)⟩ w2 R) : Calls Tryz.prog n_strings_Builder_grow #[.pointer (some b0), .i n1] w R := callsX X [eS0] h
end strings_Builder_grow
namespace strings_Builder_Grow
noncomputable def C0 : Code := (Tryz.f28.body).getD .skip
/-- (*strings.Builder).Grow -/
noncomputable def C1:=C0.sn
noncomputable def C2:=C1.fs
noncomputable def C3:=C1.sn
noncomputable def C4:=C3.sn
noncomputable def C5:=C4.fs
noncomputable def C6:=C2.sn
noncomputable def C7:=C6.fs
noncomputable def C8:=C6.sn
noncomputable def C9:=C4.sn
theorem ok (b0 : Addr) (n1 : Int) (w : World) (R : Post) (h : ca4 n_strings_Builder_copyCheck #[.pointer (some b0)] w fun w1 => sel (decide (n1 < 0)) (False) (drV w1 fun w2 => ∃ t12 : Sl, w2.cell? (b0.add 1) = some (t12.v) ∧ 
  ∃ t17 : Sl, w2.cell? (b0.add 1) = some (t17.v) ∧ 
  sel (decide ((IntKind.wrap .i64 (((t12.c : Nat) : Int) - ((t17.n : Nat) : Int))) < n1)) (ca4 n_strings_Builder_grow #[.pointer (some b0), .i n1] w2 fun w3 => R (.returned (.tuple #[])) w3) (R (.returned (.tuple #[])) w2))) : Calls Tryz.prog n_strings_Builder_Grow #[.pointer (some b0), .i n1] w R :=
  calls_of_WP' (R := R) (fn := Tryz.f28) (c := C0) (args := [.pointer (some b0), .i n1]) (by kernel_rfl) (by kernel_rfl) (by kernel_rfl) (sr C0 (show (fun (E : Env) (w : World) => srK Tryz.prog C0 (fun E w => srK Tryz.prog C2 (fun E w => condK (Env.val E (.tmp 7)) (False) (sdK Tryz.prog C3 [0, 1, 2, 3, 4, 5, 6, 7, 8, 9, 10, 11, 12] (fun E w => condK (Env.val E (.tmp 21)) (rgK Tryz.prog C5 (fun E w => retVC Tryz.prog Tryz.f28 E w (fun v => R (.returned v) w)) E w) (retVC Tryz.prog Tryz.f28 E w (fun v => R (.returned v) w))) E w)) E w) E w) (envOf 0 [.pointer (some b0), .i n1]) w from mp h) fun _ _ hK => (sq C1 (sr C2 hK fun _ _ hK => (cn C6 hK (fun hK => (False.elim hK)) (fun hK => (sk C8 fun a hA => nx hA (sd C3 (by kernel_rfl) hK fun _ _ hK => (cn C4 hK (fun hK => (rg C5 (by kernel_rfl) hK fun _ _ a hA hK => retVC_sound hA hK)) (fun hK => (sk C9 fun a hA => retVC_sound hA hK))))))))))
end strings_Builder_Grow
namespace strings_Builder_WriteByte
noncomputable abbrev X : Fx := ⟨Tryz.prog, Tryz.f52, [], []⟩
theorem ok (b0 : Addr) (c1 : Int) (w : World) (R : Post) (h : ca4 n_strings_Builder_copyCheck #[.pointer (some b0)] w fun w1 => ∃ t11 : Sl, w1.cell? (b0.add 1) = some (t11.v) ∧ 
  nwV w1 (.cells #[.int .u8 c1] ty_uint8) fun w2 => 
  ∃ (t14 : Sl) (w3 : World), Sem.run Tryz.prog (Builtin.append_ #[ty_sl_uint8, ty_sl_uint8] ty_sl_uint8 #[t11.v, .slice (some (nb w1)) 1 1]) w2 = .ok (t14.v) w3 ∧ stV w3 (b0.add 1) (t14.v) fun w4 => 
  R (.returned (.nilIface)) w4) : Calls Tryz.prog n_strings_Builder_WriteByte #[.pointer (some b0), .int .u8 c1] w R := callsX X [] h
end strings_Builder_WriteByte
namespace strings_Builder_WriteString
noncomputable abbrev X : Fx := ⟨Tryz.prog, Tryz.f51, [], []⟩
theorem ok (b0 : Addr) (s1 : ByteArray) (w : World) (R : Post) (h : ca4 n_strings_Builder_copyCheck #[.pointer (some b0)] w fun w1 => ∃ t12 : Sl, w1.cell? (b0.add 1) = some (t12.v) ∧ 
  ∃ (t14 : Sl) (w2 : World), Sem.run Tryz.prog (Builtin.append_ #[ty_sl_uint8, ty_string] ty_sl_uint8 #[t12.v, .string s1]) w1 = .ok (t14.v) w2 ∧ stV w2 (b0.add 1) (t14.v) fun w3 => 
  R (.returned (.tuple #[.i ((s1.size : Nat) : Int), .nilIface])) w3) : Calls Tryz.prog n_strings_Builder_WriteString #[.pointer (some b0), .string s1] w R := callsX X [] h
end strings_Builder_WriteString
namespace strings_Builder_String
noncomputable abbrev X : Fx := ⟨Tryz.prog, Tryz.f30, [(1,ls [0,1,2,3,5,6,7,8,9,4,10,11])], []⟩
theorem ok (b0 : Addr) (w : World) (R : Post) (h : drV w fun w1 => ∃ t6 : Sl, w1.cell? (b0.add 1) = some (t6.v) ∧ 
  ∃ t11 : Sl, w1.cell? (b0.add 1) = some (t11.v) ∧ 
  ∃ (t7 : Option Addr) (w2 : World), Sem.run Tryz.prog (Builtin.unsafeSliceData_ #[ty_sl_uint8] ty_p_uint8 #[t6.v]) w1 = .ok (.pointer t7) w2 ∧ w2.cell? (b0.add 1) = some (t11.v) ∧ ∃ (t13 : ByteArray) (w3 : World), Sem.run Tryz.prog (Builtin.unsafeString_ #[ty_p_uint8, ty_int] ty_string #[.pointer t7, .i ((t11.n : Nat) : Int)]) w2 = .ok (.string t13) w3 ∧ R (.returned (.string t13)) w3) : Calls Tryz.prog n_strings_Builder_String #[.pointer (some b0)] w R := callsX X [] h
end strings_Builder_String
end Go.Proofs.YtnpkhgljhcnpcaaGreatDoor
set_option linter.unusedVariables false
set_option maxRecDepth 100000
set_option maxHeartbeats 2000000
namespace Go.Proofs.YtnpkhgljhcnpcaaGreatDoor
open Go Go.W
namespace internal_strconv_small
noncomputable abbrev X : Fx := ⟨Tryz.prog, Tryz.f94, [], []⟩
theorem ok (i0 : Int) (w : World) (R : Post) (h : sel (decide (i0 < 10)) ((0 : Int) ≤ (IntKind.wrap .i64 (i0 + 1)) ∧ (IntKind.wrap .i64 (i0 + 1)) ≤ (((ByteArray.mk #[48, 49, 50, 51, 52, 53, 54, 55, 56, 57, 97, 98, 99, 100, 101, 102, 103, 104, 105, 106, 107, 108, 109, 110, 111, 112, 113, 114, 115, 116, 117, 118, 119, 120, 121, 122]).size : Nat) : Int) ∧ (0 : Int) ≤ i0 ∧ i0 ≤ (((Int.toNat (IntKind.wrap .i64 (i0 + 1))) : Nat) : Int) ∧ R (.returned (.string ((ByteArray.mk #[48, 49, 50, 51, 52, 53, 54, 55, 56, 57, 97, 98, 99, 100, 101, 102, 103, 104, 105, 106, 107, 108, 109, 110, 111, 112, 113, 114, 115, 116, 117, 118, 119, 120, 121, 122]).extract (Int.toNat i0) (Int.toNat (IntKind.wrap .i64 (i0 + 1)))))) w) ((0 : Int) ≤ (IntKind.wrap .i64 ((IntKind.wrap .i64 (i0 * 2)) + 2)) ∧ (IntKind.wrap .i64 ((IntKind.wrap .i64 (i0 * 2)) + 2)) ≤ (((ByteArray.mk #[48, 48, 48, 49, 48, 50, 48, 51, 48, 52, 48, 53, 48, 54, 48, 55, 48, 56, 48, 57, 49, 48, 49, 49, 49, 50, 49, 51, 49, 52, 49, 53, 49, 54, 49, 55, 49, 56, 49, 57, 50, 48, 50, 49, 50, 50, 50, 51, 50, 52, 50, 53, 50, 54, 50, 55, 50, 56, 50, 57, 51, 48, 51, 49, 51, 50, 51, 51, 51, 52, 51, 53, 51, 54, 51, 55, 51, 56, 51, 57, 52, 48, 52, 49, 52, 50, 52, 51, 52, 52, 52, 53, 52, 54, 52, 55, 52, 56, 52, 57, 53, 48, 53, 49, 53, 50, 53, 51, 53, 52, 53, 53, 53, 54, 53, 55, 53, 56, 53, 57, 54, 48, 54, 49, 54, 50, 54, 51, 54, 52, 54, 53, 54, 54, 54, 55, 54, 56, 54, 57, 55, 48, 55, 49, 55, 50, 55, 51, 55, 52, 55, 53, 55, 54, 55, 55, 55, 56, 55, 57, 56, 48, 56, 49, 56, 50, 56, 51, 56, 52, 56, 53, 56, 54, 56, 55, 56, 56, 56, 57, 57, 48, 57, 49, 57, 50, 57, 51, 57, 52, 57, 53, 57, 54, 57, 55, 57, 56, 57, 57]).size : Nat) : Int) ∧ (0 : Int) ≤ (IntKind.wrap .i64 (i0 * 2)) ∧ (IntKind.wrap .i64 (i0 * 2)) ≤ (((Int.toNat (IntKind.wrap .i64 ((IntKind.wrap .i64 (i0 * 2)) + 2))) : Nat) : Int) ∧ R (.returned (.string ((ByteArray.mk #[48, 48, 48, 49, 48, 50, 48, 51, 48, 52, 48, 53, 48, 54, 48, 55, 48, 56, 48, 57, 49, 48, 49, 49, 49, 50, 49, 51, 49, 52, 49, 53, 49, 54, 49, 55, 49, 56, 49, 57, 50, 48, 50, 49, 50, 50, 50, 51, 50, 52, 50, 53, 50, 54, 50, 55, 50, 56, 50, 57, 51, 48, 51, 49, 51, 50, 51, 51, 51, 52, 51, 53, 51, 54, 51, 55, 51, 56, 51, 57, 52, 48, 52, 49, 52, 50, 52, 51, 52, 52, 52, 53, 52, 54, 52, 55, 52, 56, 52, 57, 53, 48, 53, 49, 53, 50, 53, 51, 53, 52, 53, 53, 53, 54, 53, 55, 53, 56, 53, 57, 54, 48, 54, 49, 54, 50, 54, 51, 54, 52, 54, 53, 54, 54, 54, 55, 54, 56, 54, 57, 55, 48, 55, 49, 55, 50, 55, 51, 55, 52, 55, 53, 55, 54, 55, 55, 55, 56, 55, 57, 56, 48, 56, 49, 56, 50, 56, 51, 56, 52, 56, 53, 56, 54, 56, 55, 56, 56, 56, 57, 57, 48, 57, 49, 57, 50, 57, 51, 57, 52, 57, 53, 57, 54, 57, 55, 57, 56, 57, 57]).extract (Int.toNat (IntKind.wrap .i64 (i0 * 2))) (Int.toNat (IntKind.wrap .i64 ((IntKind.wrap .i64 (i0 * 2)) + 2)))))) w)) : Calls Tryz.prog n_internal_strconv_small #[.i i0] w R := callsX X [] h
end internal_strconv_small
namespace internal_strconv_FormatInt
noncomputable def C0 : Code := (Tryz.f73.body).getD .skip
/-- internal/strconv.FormatInt -/
noncomputable def C1:=C0.sn
noncomputable def C2:=C1.fs
noncomputable def C3:=C2.sn
noncomputable def C4:=C3.fs
noncomputable def C5:=C4.fs
noncomputable def C6:=C5.sn
noncomputable def C7:=C6.fs
noncomputable def C8:=C7.sn
noncomputable def C9:=C6.sn
noncomputable def C10:=C4.sn
noncomputable def C11:=C3.sn
noncomputable def C12:=C1.sn
theorem ok (i0 base1 : Int) (w : World) (R : Post) (h : sel (base1 == 10) (sel (decide (0 ≤ i0)) (sel (decide (i0 < 100)) (ca15 n_internal_strconv_small #[.i i0] w fun t19 w1 => R (.returned (.string t19)) w1) (False)) (False)) (False)) : Calls Tryz.prog n_internal_strconv_FormatInt #[.i i0, .i base1] w R :=
  calls_of_WP' (R := R) (fn := Tryz.f73) (c := C0) (args := [.i i0, .i base1]) (by kernel_rfl) (by kernel_rfl) (by kernel_rfl) (sr C0 (show (fun (E : Env) (w : World) => srK Tryz.prog C0 (fun E w => srK Tryz.prog C2 (fun E w => condK (Env.val E (.tmp 11)) (srK Tryz.prog C5 (fun E w => condK (Env.val E (.tmp 17)) (srK Tryz.prog C7 (fun E w => retVC Tryz.prog Tryz.f73 E w (fun v => R (.returned v) w)) E w) (False)) E w) (False)) E w) E w) (envOf 0 [.i i0, .i base1]) w from mp h) fun _ _ hK => (sq C1 (sr C2 hK fun _ _ hK => (cn C3 hK (fun hK => (sq C4 (sr C5 hK fun _ _ hK => (cn C6 hK (fun hK => (sr C7 hK fun _ _ hK => (rt C8 fun a hA => retVC_sound hA hK))) (fun hK => (sk C9 fun a hA => nx hA (False.elim hK))))))) (fun hK => (sk C11 fun a hA => nx hA (False.elim hK)))))))
end internal_strconv_FormatInt
namespace internal_strconv_Itoa
noncomputable abbrev X : Fx := ⟨Tryz.prog, Tryz.f53, [], []⟩
theorem ok (i0 : Int) (w : World) (R : Post) (h : ca15 n_internal_strconv_FormatInt #[.i i0, .i 10] w fun t4 w1 => R (.returned (.string t4)) w1) : Calls Tryz.prog n_internal_strconv_Itoa #[.i i0] w R := callsX X [] h
end internal_strconv_Itoa
namespace strconv_Itoa
noncomputable abbrev X : Fx := ⟨Tryz.prog, Tryz.f31, [], []⟩
theorem ok (i0 : Int) (w : World) (R : Post) (h : ca15 n_internal_strconv_Itoa #[.i i0] w fun t4 w1 => R (.returned (.string t4)) w1) : Calls Tryz.prog n_strconv_Itoa #[.i i0] w R := callsX X [] h
end strconv_Itoa
namespace enthymemeref01_Decimal
noncomputable abbrev X : Fx := ⟨Tryz.prog, Tryz.f33, [], []⟩
abbrev P0 : Ps := [(0, .v [.I]), (3, .v [.st]), (4, .v [.st]), (5, .v [.I])]
def L1 (n0 : Int) (digits3 s4 : ByteArray) (k5 : Int) (w : World) (R : Post) : Prop := mkCur P0 0 (X.Sem (pth [0, 1, 1, 1, 4])) n0 digits3 s4 k5 w R
noncomputable def eL1 := entL X (pth [0, 1, 1, 1, 4]) P0 L1
abbrev S3 (n0 : Int) (digits3 s4 : ByteArray) (k5 : Int) (w : World) (R : Post) : Prop :=
  L1 n0 digits3 s4 (IntKind.wrap .i64 (Int.tdiv k5 10)) w R
noncomputable def eS3 := entS X [eL1] (pth [2, 2, 1, 1, 4]) P0 S3
abbrev P1 : Ps := [(0, .v [.I]), (3, .v [.st]), (4, .v [.st]), (5, .v [.I]), (6, .v [.I])]
abbrev S2 (n0 : Int) (digits3 s4 : ByteArray) (k5 d6 : Int) (w : World) (R : Post) : Prop :=
  (0 : Int) ≤ (IntKind.wrap .i64 (d6 + 1)) ∧ (IntKind.wrap .i64 (d6 + 1)) ≤ ((digits3.size : Nat) : Int) ∧ (0 : Int) ≤ d6 ∧ d6 ≤ (((Int.toNat (IntKind.wrap .i64 (d6 + 1))) : Nat) : Int) ∧ ¬ ((((digits3.extract (Int.toNat d6) (Int.toNat (IntKind.wrap .i64 (d6 + 1)))).size + s4.size : Nat) : Int) > IntKind.i64.max) ∧ S3 n0 digits3 ((digits3.extract (Int.toNat d6) (Int.toNat (IntKind.wrap .i64 (d6 + 1)))) ++ s4) k5 w R
noncomputable def eS2 := entS X [eS3, eL1] (pth [2, 2, 1, 2, 1, 1, 4]) P1 S2
theorem L1_step : ∀ (n0 : Int) (digits3 s4 : ByteArray) (k5 : Int) (w : World) (R : Post) (h : sel (k5 != 0) (sel (decide ((Int.tmod k5 10) < 0)) (S2 n0 digits3 s4 k5 (IntKind.wrap .i64 (0 - (Int.tmod k5 10))) w R) (S2 n0 digits3 s4 k5 (Int.tmod k5 10) w R)) (sel (decide (n0 < 0)) (¬ ((((ByteArray.mk #[45]).size + s4.size : Nat) : Int) > IntKind.i64.max) ∧ R (.returned (.string ((ByteArray.mk #[45]) ++ s4))) w) (R (.returned (.string s4)) w))), L1 n0 digits3 s4 k5 w R := mp (stepL (X := X) [eS2, eS3, eL1] (pth [0, 1, 1, 1, 4]) P0)
abbrev P2 : Ps := [(0, .v [.I]), (3, .v [.st])]
abbrev S0 (n0 : Int) (digits3 : ByteArray) (w : World) (R : Post) : Prop :=
  L1 n0 digits3 (ByteArray.mk #[]) n0 w R
noncomputable def eS0 := entS X [eS2, eS3, eL1] (pth [3]) P2 S0
theorem ok (n0 : Int) (w : World) (R : Post) (h : sel (n0 == 0) (R (.returned (.string (ByteArray.mk #[48]))) w) (S0 n0 (ByteArray.mk #[48, 49, 50, 51, 52, 53, 54, 55, 56, 57]) w R)) : Calls Tryz.prog n_enthymemeref01_Decimal #[.i n0] w R := callsX X [eS0, eS2, eS3, eL1] h
end enthymemeref01_Decimal
namespace print_sortText
noncomputable abbrev X : Fx := ⟨Tryz.prog, Tryz.f14, [(1,ls [0,1,3,4,2,5,6,7])], [1]⟩
theorem okT (s0_0 s0_1 s0_2 : Int) (w : World) (R : Post) (h : newV [] w fun b1 w1 => 
  loc [b1] w1 fun w2 => cf15 [b1] n_strconv_Itoa #[.i s0_1] w2 fun t7 w3 => cf15 [b1] n_strconv_Itoa #[.i s0_2] w3 fun t10 w4 => sel (s0_0 == 0) (¬ ((((ByteArray.mk #[40, 98, 118, 32]).size + t7.size : Nat) : Int) > IntKind.i64.max) ∧ ¬ (((((ByteArray.mk #[40, 98, 118, 32]) ++ t7).size + (ByteArray.mk #[41]).size : Nat) : Int) > IntKind.i64.max) ∧ R (.returned (.string (((ByteArray.mk #[40, 98, 118, 32]) ++ t7) ++ (ByteArray.mk #[41])))) w4) (sel (s0_0 == 1) (¬ ((((ByteArray.mk #[40, 115, 116, 114, 32]).size + t7.size : Nat) : Int) > IntKind.i64.max) ∧ ¬ (((((ByteArray.mk #[40, 115, 116, 114, 32]) ++ t7).size + (ByteArray.mk #[41]).size : Nat) : Int) > IntKind.i64.max) ∧ R (.returned (.string (((ByteArray.mk #[40, 115, 116, 114, 32]) ++ t7) ++ (ByteArray.mk #[41])))) w4) (sel (s0_0 == 2) (¬ ((((ByteArray.mk #[40, 97, 114, 114, 32]).size + t10.size : Nat) : Int) > IntKind.i64.max) ∧ ¬ (((((ByteArray.mk #[40, 97, 114, 114, 32]) ++ t10).size + (ByteArray.mk #[32]).size : Nat) : Int) > IntKind.i64.max) ∧ ¬ ((((((ByteArray.mk #[40, 97, 114, 114, 32]) ++ t10) ++ (ByteArray.mk #[32])).size + t7.size : Nat) : Int) > IntKind.i64.max) ∧ ¬ (((((((ByteArray.mk #[40, 97, 114, 114, 32]) ++ t10) ++ (ByteArray.mk #[32])) ++ t7).size + (ByteArray.mk #[41]).size : Nat) : Int) > IntKind.i64.max) ∧ R (.returned (.string (((((ByteArray.mk #[40, 97, 114, 114, 32]) ++ t10) ++ (ByteArray.mk #[32])) ++ t7) ++ (ByteArray.mk #[41])))) w4) (¬ ((((ByteArray.mk #[40, 97, 114, 115, 32]).size + t10.size : Nat) : Int) > IntKind.i64.max) ∧ ¬ (((((ByteArray.mk #[40, 97, 114, 115, 32]) ++ t10).size + (ByteArray.mk #[32]).size : Nat) : Int) > IntKind.i64.max) ∧ ¬ ((((((ByteArray.mk #[40, 97, 114, 115, 32]) ++ t10) ++ (ByteArray.mk #[32])).size + t7.size : Nat) : Int) > IntKind.i64.max) ∧ ¬ (((((((ByteArray.mk #[40, 97, 114, 115, 32]) ++ t10) ++ (ByteArray.mk #[32])) ++ t7).size + (ByteArray.mk #[41]).size : Nat) : Int) > IntKind.i64.max) ∧ R (.returned (.string (((((ByteArray.mk #[40, 97, 114, 115, 32]) ++ t10) ++ (ByteArray.mk #[32])) ++ t7) ++ (ByteArray.mk #[41])))) w4)))) : Calls Tryz.prog n_print_sortText #[.agg #[.i s0_0, .i s0_1, .i s0_2]] w R := callsX X [] h
end print_sortText
namespace print_Sort
noncomputable abbrev X : Fx := ⟨Tryz.prog, Tryz.f6, [], [1]⟩
theorem okT (s0_0 s0_1 s0_2 : Int) (w : World) (R : Post) (h : newV [] w fun b1 w1 => 
  cf1 [b1] n_value_ValidSort #[.agg #[.i s0_0, .i s0_1, .i s0_2]] w1 fun t6 w2 => sel (t6 != 0) (R (.returned (.tuple #[.s0, .i t6])) w2) (cf15 [b1] n_print_sortText #[.agg #[.i s0_0, .i s0_1, .i s0_2]] w2 fun t11 w3 => R (.returned (.tuple #[.string t11, .i 0])) w3)) : Calls Tryz.prog n_print_Sort #[.agg #[.i s0_0, .i s0_1, .i s0_2]] w R := callsX X [] h
end print_Sort
namespace enthymemeref10_Sort
noncomputable abbrev X : Fx := ⟨Tryz.prog, Tryz.f16, [], [1]⟩
abbrev P0 : Ps := [(1, .l [.I, .I, .I] ty_api_Sort), (4, .v [.st])]
abbrev S1T (s1 : Nat) (s1_0 s1_1 s1_2 : Int) (out4 : ByteArray) (w : World) (R : Post) : Prop :=
  cf15 [s1] n_enthymemeref01_Decimal #[.i s1_1] w fun t25 w1 => ¬ (((out4.size + t25.size : Nat) : Int) > IntKind.i64.max) ∧ ¬ ((((out4 ++ t25).size + (ByteArray.mk #[41]).size : Nat) : Int) > IntKind.i64.max) ∧ R (.returned (.string ((out4 ++ t25) ++ (ByteArray.mk #[41])))) w1
noncomputable def eS1 := entS X [] (pth [4]) P0 S1T
abbrev S0T (s1 : Nat) (s1_0 s1_1 s1_2 : Int) (out4 : ByteArray) (w : World) (R : Post) : Prop :=
  sel (decide (s1_0 > 1)) (cf15 [s1] n_enthymemeref01_Decimal #[.i s1_2] w fun t19 w1 => ¬ (((out4.size + t19.size : Nat) : Int) > IntKind.i64.max) ∧ ¬ ((((out4 ++ t19).size + (ByteArray.mk #[32]).size : Nat) : Int) > IntKind.i64.max) ∧ S1T s1 s1_0 s1_1 s1_2 ((out4 ++ t19) ++ (ByteArray.mk #[32])) w1 R) (S1T s1 s1_0 s1_1 s1_2 out4 w R)
noncomputable def eS0 := entS X [eS1] (pth [3]) P0 S0T
theorem okT (s0_0 s0_1 s0_2 : Int) (w : World) (R : Post) (h : newV [] w fun b1 w1 => 
  nwV w1 (.cells #[.string (ByteArray.mk #[98, 118]), .string (ByteArray.mk #[115, 116, 114]), .string (ByteArray.mk #[97, 114, 114]), .string (ByteArray.mk #[97, 114, 115])] ty_string) fun w2 => 
  (0 : Int) ≤ s0_0 ∧ s0_0 < ((4 : Nat) : Int) ∧ optP (some (nb w1)) fun t9_p => ∃ t10 : ByteArray, w2.cell? (t9_p.add (Int.toNat s0_0 * 1)) = some (.string t10) ∧ 
  ¬ ((((ByteArray.mk #[40]).size + t10.size : Nat) : Int) > IntKind.i64.max) ∧ ¬ (((((ByteArray.mk #[40]) ++ t10).size + (ByteArray.mk #[32]).size : Nat) : Int) > IntKind.i64.max) ∧ S0T b1 s0_0 s0_1 s0_2 (((ByteArray.mk #[40]) ++ t10) ++ (ByteArray.mk #[32])) w2 R) : Calls Tryz.prog n_enthymemeref10_Sort #[.agg #[.i s0_0, .i s0_1, .i s0_2]] w R := callsX X [eS0, eS1] h
end enthymemeref10_Sort
namespace enthymemeref11_Sort
noncomputable abbrev X : Fx := ⟨Tryz.prog, Tryz.f7, [], [1]⟩
theorem okT (s0_0 s0_1 s0_2 : Int) (w : World) (R : Post) (h : newV [] w fun b1 w1 => 
  cf1 [b1] n_enthymemeref06_ValidSort #[.agg #[.i s0_0, .i s0_1, .i s0_2]] w1 fun t6 w2 => sel (t6 != 0) (R (.returned (.tuple #[.s0, .i t6])) w2) (cf15 [b1] n_enthymemeref10_Sort #[.agg #[.i s0_0, .i s0_1, .i s0_2]] w2 fun t11 w3 => R (.returned (.tuple #[.string t11, .i 0])) w3)) : Calls Tryz.prog n_enthymemeref11_Sort #[.agg #[.i s0_0, .i s0_1, .i s0_2]] w R := callsX X [] h
end enthymemeref11_Sort
namespace print_capped
noncomputable abbrev X : Fx := ⟨Tryz.prog, Tryz.f70, [], []⟩
theorem ok (n0 : Int) (w : World) (R : Post) (h : R (.returned (.i (if 65537 < n0 then 65537 else n0))) w) : Calls Tryz.prog n_print_capped #[.i n0] w R := callsX X [] h
end print_capped
namespace bits_mask
noncomputable abbrev X : Fx := ⟨Tryz.prog, Tryz.f92, [], []⟩
theorem ok (wv0 : Int) (w : World) (R : Post) (h : ¬ (IntKind.wrap .i64 (64 - wv0)) < 0 ∧ R (.returned (.u (Int.fdiv 18446744073709551615 (2 ^ (min (Int.toNat (IntKind.wrap .i64 (64 - wv0))) (IntKind.bits .u64)))))) w) : Calls Tryz.prog n_bits_mask #[.i wv0] w R := callsX X [] h
end bits_mask
namespace bits_Valid
noncomputable abbrev X : Fx := ⟨Tryz.prog, Tryz.f91, [], []⟩
abbrev P0 : Ps := []
abbrev S0  (w : World) (R : Post) : Prop :=
  R (.returned (.i 1)) w
noncomputable def eS0 := entS X [] (pth [0, 1, 1, 1, 1]) P0 S0
theorem ok (u0 wv1 : Int) (w : World) (R : Post) (h : sel (decide (wv1 < 1)) (S0  w R) (sel (decide (wv1 > 64)) (S0  w R) (ca24 n_bits_mask #[.i wv1] w fun t13 w1 => sel (decide (u0 > t13)) (R (.returned (.i 5)) w1) (R (.returned (.i 0)) w1)))) : Calls Tryz.prog n_bits_Valid #[.u u0, .i wv1] w R := callsX X [eS0] h
end bits_Valid
namespace bits_Text
noncomputable abbrev X : Fx := ⟨Tryz.prog, Tryz.f67, [(13,ls [0,1,2,3,4,5,6,7,8,9,10,11,12,13,14,15])], []⟩
abbrev P0 : Ps := [(0, .v [.U]), (8, .v [.I]), (9, .v [.I]), (10, .v [.s]), (31, .v [.I]), (32, .v [.I])]
def L2 (u0 size8 n9 : Int) (b10 : Sl) (t31 t32 : Int) (w : World) (R : Post) : Prop := mkCur P0 0 (X.Sem (pth [0, 1, 1, 1, 7])) u0 size8 n9 b10 t31 t32 w R
noncomputable def eL2 := entL X (pth [0, 1, 1, 1, 7]) P0 L2
theorem L2_step : ∀ (u0 size8 n9 : Int) (b10 : Sl) (t31 t32 : Int) (w : World) (R : Post) (h : sel (decide (t32 < t31)) (drV w fun w4 => ¬ (IntKind.wrap .i64 ((IntKind.wrap .i64 ((IntKind.wrap .i64 (n9 - 1)) - t32)) * size8)) < 0 ∧ ca24 n_bits_mask #[.i size8] w4 fun t45 w5 => (0 : Int) ≤ (bAnd .u64 (Int.fdiv u0 (2 ^ (min (Int.toNat (IntKind.wrap .i64 ((IntKind.wrap .i64 ((IntKind.wrap .i64 (n9 - 1)) - t32)) * size8))) (IntKind.bits .u64)))) t45) ∧ ∃ t47_b : UInt8, (ByteArray.mk #[48, 49, 50, 51, 52, 53, 54, 55, 56, 57, 97, 98, 99, 100, 101, 102])[Int.toNat (bAnd .u64 (Int.fdiv u0 (2 ^ (min (Int.toNat (IntKind.wrap .i64 ((IntKind.wrap .i64 ((IntKind.wrap .i64 (n9 - 1)) - t32)) * size8))) (IntKind.bits .u64)))) t45)]? = some t47_b ∧ nwV w5 (.cells #[.int .u8 ((t47_b.toNat : Nat) : Int)] ty_uint8) fun w6 => 
  ∃ (t49 : Sl) (w7 : World), Sem.run Tryz.prog (Builtin.append_ #[ty_sl_uint8, ty_sl_uint8] ty_sl_uint8 #[b10.v, .slice (some (nb w5)) 1 1]) w6 = .ok (t49.v) w7 ∧ L2 u0 size8 n9 t49 t31 (IntKind.wrap .i64 (t32 + 1)) w7 R) (∃ t52 : ByteArray, Sem.run Tryz.prog (Go.convert ty_sl_uint8 ty_string (b10.v)) w = .ok (.string t52) w ∧ R (.returned (.tuple #[.string t52, .i 0])) w)), L2 u0 size8 n9 b10 t31 t32 w R := mp (stepL (X := X) [eL2] (pth [0, 1, 1, 1, 7]) P0)
abbrev P1 : Ps := [(0, .v [.U]), (7, .v [.Y]), (8, .v [.I]), (9, .v [.I])]
abbrev S1 (u0 mark7 size8 n9 : Int) (w : World) (R : Post) : Prop :=
  ∃ (t26 : Sl) (w1 : World), Sem.run Tryz.prog (Instr.makeSlice ty_sl_uint8 (.i 0) (.i (IntKind.wrap .i64 (n9 + 2)))) w = .ok (t26.v) w1 ∧ nwV w1 (.cells #[.int .u8 35, .int .u8 mark7] ty_uint8) fun w2 => 
  ∃ (t30 : Sl) (w3 : World), Sem.run Tryz.prog (Builtin.append_ #[ty_sl_uint8, ty_sl_uint8] ty_sl_uint8 #[t26.v, .slice (some (nb w1)) 2 2]) w2 = .ok (t30.v) w3 ∧ L2 u0 size8 n9 t30 n9 0 w3 R
noncomputable def eS1 := entS X [eL2] (pth [5]) P1 S1
abbrev P2 : Ps := [(0, .v [.U]), (1, .v [.I]), (7, .v [.Y]), (8, .v [.I])]
abbrev S0 (u0 wv1 mark7 size8 : Int) (w : World) (R : Post) : Prop :=
  size8 ≠ 0 ∧ S1 u0 mark7 size8 (IntKind.wrap .i64 (Int.tdiv wv1 size8)) w R
noncomputable def eS0 := entS X [eS1, eL2] (pth [4]) P2 S0
theorem ok (u0 wv1 : Int) (w : World) (R : Post) (h : ca1 n_bits_Valid #[.u u0, .i wv1] w fun t14 w1 => sel (t14 != 0) (R (.returned (.tuple #[.s0, .i t14])) w1) (sel ((Int.tmod wv1 4) == 0) (S0 u0 wv1 120 4 w1 R) (S0 u0 wv1 98 1 w1 R))) : Calls Tryz.prog n_bits_Text #[.u u0, .i wv1] w R := callsX X [eS0, eS1, eL2] h
end bits_Text
namespace print_operationWords
noncomputable abbrev X : Fx := ⟨Tryz.prog, Tryz.f46, [], []⟩
theorem ok  (w : World) (R : Post) (h : nwV w (.map #[] 0) fun w1 => 
  ∃ (w2 : World), Sem.run Tryz.prog (Instr.mapUpdate ty_map_int_string (.map (some w.heap.size)) (.i 4) (.string (ByteArray.mk #[110, 111, 116]))) w1 = .ok () w2 ∧ ∃ (w3 : World), Sem.run Tryz.prog (Instr.mapUpdate ty_map_int_string (.map (some w.heap.size)) (.i 5) (.string (ByteArray.mk #[110, 101, 103]))) w2 = .ok () w3 ∧ ∃ (w4 : World), Sem.run Tryz.prog (Instr.mapUpdate ty_map_int_string (.map (some w.heap.size)) (.i 6) (.string (ByteArray.mk #[97, 110, 100]))) w3 = .ok () w4 ∧ ∃ (w5 : World), Sem.run Tryz.prog (Instr.mapUpdate ty_map_int_string (.map (some w.heap.size)) (.i 7) (.string (ByteArray.mk #[111, 114]))) w4 = .ok () w5 ∧ ∃ (w6 : World), Sem.run Tryz.prog (Instr.mapUpdate ty_map_int_string (.map (some w.heap.size)) (.i 8) (.string (ByteArray.mk #[120, 111, 114]))) w5 = .ok () w6 ∧ ∃ (w7 : World), Sem.run Tryz.prog (Instr.mapUpdate ty_map_int_string (.map (some w.heap.size)) (.i 9) (.string (ByteArray.mk #[97, 100, 100]))) w6 = .ok () w7 ∧ ∃ (w8 : World), Sem.run Tryz.prog (Instr.mapUpdate ty_map_int_string (.map (some w.heap.size)) (.i 10) (.string (ByteArray.mk #[109, 117, 108]))) w7 = .ok () w8 ∧ ∃ (w9 : World), Sem.run Tryz.prog (Instr.mapUpdate ty_map_int_string (.map (some w.heap.size)) (.i 11) (.string (ByteArray.mk #[117, 100, 105, 118]))) w8 = .ok () w9 ∧ ∃ (w10 : World), Sem.run Tryz.prog (Instr.mapUpdate ty_map_int_string (.map (some w.heap.size)) (.i 12) (.string (ByteArray.mk #[117, 114, 101, 109]))) w9 = .ok () w10 ∧ ∃ (w11 : World), Sem.run Tryz.prog (Instr.mapUpdate ty_map_int_string (.map (some w.heap.size)) (.i 13) (.string (ByteArray.mk #[115, 104, 108]))) w10 = .ok () w11 ∧ ∃ (w12 : World), Sem.run Tryz.prog (Instr.mapUpdate ty_map_int_string (.map (some w.heap.size)) (.i 14) (.string (ByteArray.mk #[108, 115, 104, 114]))) w11 = .ok () w12 ∧ ∃ (w13 : World), Sem.run Tryz.prog (Instr.mapUpdate ty_map_int_string (.map (some w.heap.size)) (.i 15) (.string (ByteArray.mk #[97, 115, 104, 114]))) w12 = .ok () w13 ∧ ∃ (w14 : World), Sem.run Tryz.prog (Instr.mapUpdate ty_map_int_string (.map (some w.heap.size)) (.i 16) (.string (ByteArray.mk #[117, 108, 116]))) w13 = .ok () w14 ∧ ∃ (w15 : World), Sem.run Tryz.prog (Instr.mapUpdate ty_map_int_string (.map (some w.heap.size)) (.i 17) (.string (ByteArray.mk #[115, 108, 116]))) w14 = .ok () w15 ∧ ∃ (w16 : World), Sem.run Tryz.prog (Instr.mapUpdate ty_map_int_string (.map (some w.heap.size)) (.i 18) (.string (ByteArray.mk #[101, 113]))) w15 = .ok () w16 ∧ ∃ (w17 : World), Sem.run Tryz.prog (Instr.mapUpdate ty_map_int_string (.map (some w.heap.size)) (.i 19) (.string (ByteArray.mk #[105, 116, 101]))) w16 = .ok () w17 ∧ ∃ (w18 : World), Sem.run Tryz.prog (Instr.mapUpdate ty_map_int_string (.map (some w.heap.size)) (.i 20) (.string (ByteArray.mk #[99, 111, 110, 99, 97, 116]))) w17 = .ok () w18 ∧ ∃ (w19 : World), Sem.run Tryz.prog (Instr.mapUpdate ty_map_int_string (.map (some w.heap.size)) (.i 21) (.string (ByteArray.mk #[101, 120, 116, 114, 97, 99, 116]))) w18 = .ok () w19 ∧ ∃ (w20 : World), Sem.run Tryz.prog (Instr.mapUpdate ty_map_int_string (.map (some w.heap.size)) (.i 22) (.string (ByteArray.mk #[122, 101, 120, 116]))) w19 = .ok () w20 ∧ ∃ (w21 : World), Sem.run Tryz.prog (Instr.mapUpdate ty_map_int_string (.map (some w.heap.size)) (.i 23) (.string (ByteArray.mk #[115, 101, 120, 116]))) w20 = .ok () w21 ∧ ∃ (w22 : World), Sem.run Tryz.prog (Instr.mapUpdate ty_map_int_string (.map (some w.heap.size)) (.i 24) (.string (ByteArray.mk #[115, 101, 108, 101, 99, 116]))) w21 = .ok () w22 ∧ ∃ (w23 : World), Sem.run Tryz.prog (Instr.mapUpdate ty_map_int_string (.map (some w.heap.size)) (.i 25) (.string (ByteArray.mk #[115, 116, 111, 114, 101]))) w22 = .ok () w23 ∧ ∃ (w24 : World), Sem.run Tryz.prog (Instr.mapUpdate ty_map_int_string (.map (some w.heap.size)) (.i 26) (.string (ByteArray.mk #[100, 105, 102, 102]))) w23 = .ok () w24 ∧ ∃ (w25 : World), Sem.run Tryz.prog (Instr.mapUpdate ty_map_int_string (.map (some w.heap.size)) (.i 27) (.string (ByteArray.mk #[108, 101, 110]))) w24 = .ok () w25 ∧ ∃ (w26 : World), Sem.run Tryz.prog (Instr.mapUpdate ty_map_int_string (.map (some w.heap.size)) (.i 28) (.string (ByteArray.mk #[98, 121, 116, 101]))) w25 = .ok () w26 ∧ ∃ (w27 : World), Sem.run Tryz.prog (Instr.mapUpdate ty_map_int_string (.map (some w.heap.size)) (.i 29) (.string (ByteArray.mk #[99, 97, 116]))) w26 = .ok () w27 ∧ ∃ (w28 : World), Sem.run Tryz.prog (Instr.mapUpdate ty_map_int_string (.map (some w.heap.size)) (.i 30) (.string (ByteArray.mk #[115, 117, 98]))) w27 = .ok () w28 ∧ ∃ (w29 : World), Sem.run Tryz.prog (Instr.mapUpdate ty_map_int_string (.map (some w.heap.size)) (.i 31) (.string (ByteArray.mk #[102, 105, 110, 100]))) w28 = .ok () w29 ∧ ∃ (w30 : World), Sem.run Tryz.prog (Instr.mapUpdate ty_map_int_string (.map (some w.heap.size)) (.i 32) (.string (ByteArray.mk #[114, 101, 112, 108, 97, 99, 101]))) w29 = .ok () w30 ∧ ∃ (w31 : World), Sem.run Tryz.prog (Instr.mapUpdate ty_map_int_string (.map (some w.heap.size)) (.i 33) (.string (ByteArray.mk #[105, 110]))) w30 = .ok () w31 ∧ ∃ (w32 : World), Sem.run Tryz.prog (Instr.mapUpdate ty_map_int_string (.map (some w.heap.size)) (.i 34) (.string (ByteArray.mk #[99, 104, 97, 114]))) w31 = .ok () w32 ∧ R (.returned (.map (some w.heap.size))) w32) : Calls Tryz.prog n_print_operationWords #[] w R := callsX X [] h
end print_operationWords
namespace print_nodeHead
noncomputable abbrev X : Fx := ⟨Tryz.prog, Tryz.f47, [(15,ls [0,1,2,6,7,3,4,5,8,9,10,11])], [2]⟩
abbrev P0 : Ps := [(9, .v [.st])]
abbrev S1T (s9 : ByteArray) (w : World) (R : Post) : Prop :=
  R (.returned (.string s9)) w
noncomputable def eS1 := entS X [] (pth [4]) P0 S1T
abbrev P1 : Ps := [(2, .l [.I, .s, .I, .I, .U, .st, .I, .I, .I] ty_api_Node), (9, .v [.st])]
abbrev S2T (n2 : Nat) (n2_0 : Int) (n2_1 : Sl) (n2_2 n2_3 n2_4 : Int) (n2_5 : ByteArray) (n2_6 n2_7 n2_8 : Int) (s9 : ByteArray) (w : World) (R : Post) : Prop :=
  cf15 [n2] n_strconv_Itoa #[.i n2_2] w fun t73 w1 => ¬ ((((ByteArray.mk #[32]).size + t73.size : Nat) : Int) > IntKind.i64.max) ∧ ¬ (((s9.size + ((ByteArray.mk #[32]) ++ t73).size : Nat) : Int) > IntKind.i64.max) ∧ S1T (s9 ++ ((ByteArray.mk #[32]) ++ t73)) w1 R
noncomputable def eS2 := entS X [eS1] (pth [0, 1, 3, 1, 1, 1, 3]) P1 S2T
abbrev P2 : Ps := [(2, .l [.I, .s, .I, .I, .U, .st, .I, .I, .I] ty_api_Node), (9, .v [.st]), (52, .v [.I])]
abbrev S3T (n2 : Nat) (n2_0 : Int) (n2_1 : Sl) (n2_2 n2_3 n2_4 : Int) (n2_5 : ByteArray) (n2_6 n2_7 n2_8 : Int) (s9 : ByteArray) (t52 : Int) (w : World) (R : Post) : Prop :=
  sel (t52 == 33) (cf22 [n2] n_lexer_Quote #[.string n2_5] w fun t81_0 t81_1 w1 => ¬ ((((ByteArray.mk #[32]).size + t81_0.size : Nat) : Int) > IntKind.i64.max) ∧ ¬ (((s9.size + ((ByteArray.mk #[32]) ++ t81_0).size : Nat) : Int) > IntKind.i64.max) ∧ S1T (s9 ++ ((ByteArray.mk #[32]) ++ t81_0)) w1 R) (S1T s9 w R)
noncomputable def eS3 := entS X [eS2, eS1] (pth [4, 1, 1, 1, 3]) P2 S3T
abbrev S0T (n2 : Nat) (n2_0 : Int) (n2_1 : Sl) (n2_2 n2_3 n2_4 : Int) (n2_5 : ByteArray) (n2_6 n2_7 n2_8 : Int) (s9 : ByteArray) (w : World) (R : Post) : Prop :=
  sel (n2_0 == 21) (loc [n2] w fun w1 => cf15 [n2] n_strconv_Itoa #[.i n2_2] w1 fun t58 w2 => ¬ ((((ByteArray.mk #[32]).size + t58.size : Nat) : Int) > IntKind.i64.max) ∧ ¬ (((((ByteArray.mk #[32]) ++ t58).size + (ByteArray.mk #[32]).size : Nat) : Int) > IntKind.i64.max) ∧ cf15 [n2] n_strconv_Itoa #[.i n2_3] w2 fun t63 w3 => ¬ ((((((ByteArray.mk #[32]) ++ t58) ++ (ByteArray.mk #[32])).size + t63.size : Nat) : Int) > IntKind.i64.max) ∧ ¬ (((s9.size + ((((ByteArray.mk #[32]) ++ t58) ++ (ByteArray.mk #[32])) ++ t63).size : Nat) : Int) > IntKind.i64.max) ∧ S1T (s9 ++ ((((ByteArray.mk #[32]) ++ t58) ++ (ByteArray.mk #[32])) ++ t63)) w3 R) (sel (n2_0 == 22) (sel (n2_0 == 22) (S2T n2 n2_0 n2_1 n2_2 n2_3 n2_4 n2_5 n2_6 n2_7 n2_8 s9 w R) (S3T n2 n2_0 n2_1 n2_2 n2_3 n2_4 n2_5 n2_6 n2_7 n2_8 s9 n2_0 w R)) (sel (n2_0 == 23) (sel (n2_0 == 23) (S2T n2 n2_0 n2_1 n2_2 n2_3 n2_4 n2_5 n2_6 n2_7 n2_8 s9 w R) (S3T n2 n2_0 n2_1 n2_2 n2_3 n2_4 n2_5 n2_6 n2_7 n2_8 s9 n2_0 w R)) (sel (n2_0 == 28) (S2T n2 n2_0 n2_1 n2_2 n2_3 n2_4 n2_5 n2_6 n2_7 n2_8 s9 w R) (S3T n2 n2_0 n2_1 n2_2 n2_3 n2_4 n2_5 n2_6 n2_7 n2_8 s9 n2_0 w R))))
noncomputable def eS0 := entS X [eS3, eS2, eS1] (pth [3]) P1 S0T
theorem okT (n0_0 : Int) (n0_1 : Sl) (n0_2 n0_3 n0_4 : Int) (n0_5 : ByteArray) (n0_6 n0_7 n0_8 : Int) (words1 : Option Nat) (w : World) (R : Post) (h : newV [] w fun b2 w1 => 
  sel (n0_0 == 0) (R (.returned (.string n0_5)) w1) (sel (n0_0 == 1) (cf22 [b2] n_bits_Text #[.u n0_4, .i n0_7] w1 fun t26_0 t26_1 w2 => R (.returned (.string t26_0)) w2) (sel (n0_0 == 2) (cf22 [b2] n_lexer_Quote #[.string n0_5] w1 fun t35_0 t35_1 w3 => R (.returned (.string t35_0)) w3) (sel (n0_0 == 3) (cf15 [b2] n_print_sortText #[.agg #[.i n0_6, .i n0_7, .i n0_8]] w1 fun t43 w4 => ¬ ((((ByteArray.mk #[40, 122, 101, 114, 111, 32]).size + t43.size : Nat) : Int) > IntKind.i64.max) ∧ ¬ (((((ByteArray.mk #[40, 122, 101, 114, 111, 32]) ++ t43).size + (ByteArray.mk #[41]).size : Nat) : Int) > IntKind.i64.max) ∧ R (.returned (.string (((ByteArray.mk #[40, 122, 101, 114, 111, 32]) ++ t43) ++ (ByteArray.mk #[41])))) w4) (∃ t49 : ByteArray, Sem.run Tryz.prog (Instr.lookup ty_map_int_string (.map words1) (.i n0_0) false) w1 = .ok (.string t49) w1 ∧ ¬ ((((ByteArray.mk #[40]).size + t49.size : Nat) : Int) > IntKind.i64.max) ∧ S0T b2 n0_0 n0_1 n0_2 n0_3 n0_4 n0_5 n0_6 n0_7 n0_8 ((ByteArray.mk #[40]) ++ t49) w1 R))))) : Calls Tryz.prog n_print_nodeHead #[.agg #[.i n0_0, n0_1.v, .i n0_2, .i n0_3, .u n0_4, .string n0_5, .i n0_6, .i n0_7, .i n0_8], .map words1] w R := callsX X [eS0, eS3, eS2, eS1] h
end print_nodeHead
namespace print_printer_measure_1
noncomputable abbrev X : Fx := ⟨Tryz.prog, Tryz.f69, [], []⟩
theorem ok (part0 n1 : Int) (t2 : Addr) (w : World) (R : Post) (h : (0 : Int) ≤ part0 ∧ part0 < ((4 : Nat) : Int) ∧ ∃ t8 : Int, w.cell? (t2.add (Int.toNat part0 * 1)) = some (.i t8) ∧ 
  ca1 n_print_capped #[.i (IntKind.wrap .i64 (t8 + n1))] w fun t11 w1 => (0 : Int) ≤ part0 ∧ part0 < ((4 : Nat) : Int) ∧ stV w1 (t2.add (Int.toNat part0 * 1)) (.i t11) fun w2 => 
  R (.returned (.tuple #[])) w2) : Calls Tryz.prog n_print_printer_measure_1 #[.i part0, .i n1, .pointer (some t2)] w R := callsX X [] h
end print_printer_measure_1
namespace print_printer_measure
noncomputable abbrev X : Fx := ⟨Tryz.prog, Tryz.f48, [], [5]⟩
abbrev P0 : Ps := [(0, .v [.r]), (1, .v [.I]), (11, .v [.I]), (78, .v [.a 4, .I, .I, .I, .I]), (79, .v [.I])]
def L1T (p0 : Addr) (i1 sum11 t78_0 t78_1 t78_2 t78_3 t79 : Int) (w : World) (R : Post) : Prop := mkCur P0 0 (X.Sem (pth [0, 1, 1, 1, 6])) p0 i1 sum11 t78_0 t78_1 t78_2 t78_3 t79 w R
noncomputable def eL1 := entL X (pth [0, 1, 1, 1, 6]) P0 L1T
theorem L1T_step : ∀ (p0 : Addr) (i1 sum11 t78_0 t78_1 t78_2 t78_3 t79 : Int) (w : World) (R : Post) (h : sel (decide (t79 < 4)) ((0 : Int) ≤ t79 ∧ t79 < ((4 : Nat) : Int) ∧ ∃ t81_b : Int, (#[.i t78_0, .i t78_1, .i t78_2, .i t78_3] : Array Value)[Int.toNat t79]? = some (.i t81_b) ∧ ca1 n_print_capped #[.i (IntKind.wrap .i64 (sum11 + t81_b))] w fun t85 w1 => L1T p0 i1 t85 t78_0 t78_1 t78_2 t78_3 (IntKind.wrap .i64 (t79 + 1)) w1 R) (∃ t90 : Sl, w.cell? (p0.add 2) = some (t90.v) ∧ 
  (0 : Int) ≤ i1 ∧ i1 < ((t90.n : Nat) : Int) ∧ optP t90.a fun t93_p => stV w (t93_p.add (Int.toNat i1 * 1)) (.i sum11) fun w2 => 
  R (.returned (.tuple #[])) w2)), L1T p0 i1 sum11 t78_0 t78_1 t78_2 t78_3 t79 w R := mp (stepL (X := X) [eL1] (pth [0, 1, 1, 1, 6]) P0)
abbrev P1 : Ps := [(0, .v [.r]), (1, .v [.I]), (6, .v [.r])]
abbrev S0T (p0 : Addr) (i1 : Int) (parts6 : Addr) (w : World) (R : Post) : Prop :=
  ld4_4 w parts6 fun t78_0 t78_1 t78_2 t78_3 => L1T p0 i1 0 t78_0 t78_1 t78_2 t78_3 0 w R
noncomputable def eS0 := entS X [eL1] (pth [5]) P1 S0T
abbrev P2 : Ps := [(0, .v [.r]), (1, .v [.I]), (6, .v [.r]), (7, .v [.g n_print_printer_measure_1 0 1, .r]), (8, .v [.I]), (41, .v [.s]), (42, .v [.I]), (43, .v [.I])]
def L2T (p0 : Addr) (i1 : Int) (parts6 count7_c0 : Addr) (deepest8 : Int) (t41 : Sl) (t42 t43 : Int) (w : World) (R : Post) : Prop := mkCur P2 0 (X.Sem (pth [0, 1, 1, 1, 1, 1, 3, 2, 4])) p0 i1 parts6 count7_c0 deepest8 t41 t42 t43 w R
noncomputable def eL2 := entL X (pth [0, 1, 1, 1, 1, 1, 3, 2, 4]) P2 L2T
abbrev S3T (p0 : Addr) (i1 : Int) (parts6 count7_c0 : Addr) (deepest8 : Int) (t41 : Sl) (t42 t43 : Int) (w : World) (R : Post) : Prop :=
  L2T p0 i1 parts6 count7_c0 deepest8 t41 t42 (IntKind.wrap .i64 (t43 + 1)) w R
noncomputable def eS3 := entS X [eL2, eS0, eL1] (pth [3, 2, 1, 1, 1, 1, 3, 2, 4]) P2 S3T
theorem L2T_step : ∀ (p0 : Addr) (i1 : Int) (parts6 count7_c0 : Addr) (deepest8 : Int) (t41 : Sl) (t42 t43 : Int) (w : World) (R : Post) (h : sel (decide (t43 < t42)) ((0 : Int) ≤ t43 ∧ t43 < ((t41.n : Nat) : Int) ∧ optP t41.a fun t45_p => ∃ t46 : Int, w.cell? (t45_p.add (Int.toNat t43 * 1)) = some (.i t46) ∧ 
  ca4 n_print_printer_measure_1 #[.i 1, .i 1, .pointer (some count7_c0)] w fun w5 => ∃ t53 : Sl, w5.cell? (p0.add 2) = some (t53.v) ∧ 
  (0 : Int) ≤ t46 ∧ t46 < ((t53.n : Nat) : Int) ∧ optP t53.a fun t55_p => ∃ t56 : Int, w5.cell? (t55_p.add (Int.toNat t46 * 1)) = some (.i t56) ∧ 
  ca4 n_print_printer_measure_1 #[.i 2, .i t56, .pointer (some count7_c0)] w5 fun w6 => ∃ t62 : Sl, w6.cell? (p0.add 3) = some (t62.v) ∧ 
  (0 : Int) ≤ t46 ∧ t46 < ((t62.n : Nat) : Int) ∧ optP t62.a fun t64_p => ∃ t65 : Int, w6.cell? (t64_p.add (Int.toNat t46 * 1)) = some (.i t65) ∧ 
  S3T p0 i1 parts6 count7_c0 (if deepest8 < t65 then t65 else deepest8) t41 t42 t43 w6 R) (ca4 n_print_printer_measure_1 #[.i 3, .i 1, .pointer (some count7_c0)] w fun w7 => ∃ t73 : Sl, w7.cell? (p0.add 3) = some (t73.v) ∧ 
  (0 : Int) ≤ i1 ∧ i1 < ((t73.n : Nat) : Int) ∧ optP t73.a fun t77_p => stV w7 (t77_p.add (Int.toNat i1 * 1)) (.i (IntKind.wrap .i64 (deepest8 + 1))) fun w8 => 
  S0T p0 i1 parts6 w8 R)), L2T p0 i1 parts6 count7_c0 deepest8 t41 t42 t43 w R := mp (stepL (X := X) [eS3, eL2, eS0, eL1] (pth [0, 1, 1, 1, 1, 1, 3, 2, 4]) P2)
theorem okT (p0 : Addr) (i1 node2_0 : Int) (node2_1 : Sl) (node2_2 node2_3 node2_4 : Int) (node2_5 : ByteArray) (node2_6 node2_7 node2_8 : Int) (w : World) (R : Post) (h : newV [] w fun b5 w1 => 
  nwV w1 (.cells #[.i 0, .i 0, .i 0, .i 0] ty_4_int) fun w2 => 
  ∃ t19 : Sl, w2.cell? (p0.add 1) = some (t19.v) ∧ 
  (0 : Int) ≤ i1 ∧ i1 < ((t19.n : Nat) : Int) ∧ optP t19.a fun t21_p => ∃ t22 : ByteArray, w2.cell? (t21_p.add (Int.toNat i1 * 1)) = some (.string t22) ∧ 
  cf4 [b5] n_print_printer_measure_1 #[.i 0, .i ((t22.size : Nat) : Int), .pointer (some (nb w1))] w2 fun w3 => sel (node2_0 == 3) (∃ t32 : Sl, w3.cell? (p0.add 3) = some (t32.v) ∧ 
  (0 : Int) ≤ i1 ∧ i1 < ((t32.n : Nat) : Int) ∧ optP t32.a fun t34_p => stV w3 (t34_p.add (Int.toNat i1 * 1)) (.i 1) fun w4 => kept [b5] w3 w4 ∧ 
  S0T p0 i1 (nb w1) w4 R) (sel (decide (((node2_1.n : Nat) : Int) > 0)) (L2T p0 i1 (nb w1) (nb w1) 0 node2_1 ((node2_1.n : Nat) : Int) 0 w3 R) (S0T p0 i1 (nb w1) w3 R))) : Calls Tryz.prog n_print_printer_measure #[.pointer (some p0), .i i1, .agg #[.i node2_0, node2_1.v, .i node2_2, .i node2_3, .u node2_4, .string node2_5, .i node2_6, .i node2_7, .i node2_8]] w R := callsX X [eS3, eL2, eS0, eL1] h
end print_printer_measure
namespace print_newPrinter
noncomputable def C0 : Code := (Tryz.f27.body).getD .skip
noncomputable def C1:=C0.sn
noncomputable def C2:=C1.sn
noncomputable def C3:=C2.sn
noncomputable def C4:=C3.sn
noncomputable def C5:=C4.fs
noncomputable def C6:=C5.sn
noncomputable def C7:=C6.fs
noncomputable def C8:=C7.fs
noncomputable def C9:=C4.sn
abbrev Q0 (R : Post) : ExP := (Exit.then (wpx Tryz.prog (cx 47) C9 (bodyPost Tryz.prog Tryz.f27 R)) (bodyPost Tryz.prog Tryz.f27 R))
abbrev Q1 (R : Post) : ExP := (Exit.inBlock 0 (Q0 R))
/-- the head of the loop, node.go:33 -/
def L1 (p4 : Option Addr) (words5 : Option Nat) (t25 : Sl) (t26 t27 : Int) (w : World) (R : Post) : Prop := LP Tryz.prog (cx 47) C8 (Q1 R) [(4, .pointer p4), (5, .map words5), (25, t25.v), (26, .i t26), (27, .i t27)] w
def KE_L1 (E : Env) (w : World) (R : Post) : Prop := W.asPtr (Env.get? E 4) fun p4 => W.asMap (Env.get? E 5) fun words5 => W.asSlice (Env.get? E 25) fun t25 => W.asInt .i64 (Env.get? E 26) fun t26 => W.asInt .i64 (Env.get? E 27) fun t27 => L1 p4 words5 t25 t26 t27 w R
theorem KE_L1_ok : LOk Tryz.prog 47 KE_L1 C8 Q1 := by
  intro R E w h
  obtain ⟨p4, hq4, h_1⟩ := W.asPtr_elim h
  obtain ⟨words5, hq5, h_2⟩ := W.asMap_elim h_1
  obtain ⟨t25, hq25, h_3⟩ := W.asSlice_elim h_2
  obtain ⟨t26, hq26, h_4⟩ := W.asInt_elim h_3
  obtain ⟨t27, hq27, h_5⟩ := W.asInt_elim h_4
  intro a ha
  exact h_5 a (ha.cons hq4 (ha.cons hq5 (ha.cons hq25 (ha.cons hq26 (ha.cons hq27 ha.nil)))))
noncomputable def C10:=C8.sn
noncomputable def C11:=C10.sn
noncomputable def C12:=C11.fs
noncomputable def C13:=C12.fs
noncomputable def C14:=C13.sn
noncomputable def C15:=C14.sn
noncomputable def C16:=C11.sn
noncomputable def C17:=C10.fs
noncomputable def C18:=C17.fs
noncomputable def C19:=C17.sn
noncomputable def C20:=C9.sn
theorem L1_step (p4 : Option Addr) (words5 : Option Nat) (t25 : Sl) (t26 t27 : Int) (w : World) (R : Post) (h : sel (decide (t27 < t26)) ((0 : Int) ≤ t27 ∧ t27 < ((t25.n : Nat) : Int) ∧ optP t25.a fun t30_p => ld9_3 w (t30_p.add (Int.toNat t27 * 9)) fun t31_0 t31_1 t31_2 t31_3 t31_4 t31_5 t31_6 t31_7 t31_8 => nwV w (.cells #[.i 0, .slice none 0 0, .i 0, .i 0, .u 0, .s0, .i 0, .i 0, .i 0] ty_api_Node) fun w2 => 
  stW9 w2 (nb w) (.i t31_0) (t31_1.v) (.i t31_2) (.i t31_3) (.u t31_4) (.string t31_5) (.i t31_6) (.i t31_7) (.i t31_8) fun w11 => drV w11 fun w12 => optP p4 fun t33_p => ∃ t35 : Sl, w12.cell? (t33_p.add 1) = some (t35.v) ∧ 
  ld9_3 w12 (nb w) fun t37_0 t37_1 t37_2 t37_3 t37_4 t37_5 t37_6 t37_7 t37_8 => ca15 n_print_nodeHead #[.agg #[.i t37_0, t37_1.v, .i t37_2, .i t37_3, .u t37_4, .string t37_5, .i t37_6, .i t37_7, .i t37_8], .map words5] w12 fun t39 w13 => w13.cell? (t33_p.add 1) = some (t35.v) ∧ (0 : Int) ≤ t27 ∧ t27 < ((t35.n : Nat) : Int) ∧ optP t35.a fun t40_p => stV w13 (t40_p.add (Int.toNat t27 * 1)) (.string t39) fun w14 => 
  ld9_3 w14 (nb w) fun t43_0 t43_1 t43_2 t43_3 t43_4 t43_5 t43_6 t43_7 t43_8 => ca4 n_print_printer_measure #[.pointer p4, .i t27, .agg #[.i t43_0, t43_1.v, .i t43_2, .i t43_3, .u t43_4, .string t43_5, .i t43_6, .i t43_7, .i t43_8]] w14 fun w15 => L1 p4 words5 t25 t26 (IntKind.wrap .i64 (t27 + 1)) w15 R) (R (.returned (.pointer p4)) w)) : L1 p4 words5 t25 t26 t27 w R :=
  LP.step (n := (cx 47)) (c := C8) (E := [(4, .pointer p4), (5, .map words5), (25, t25.v), (26, .i t26), (27, .i t27)]) (w := w) (sr C8 (show (fun (E : Env) (w : World) => srK Tryz.prog C8 (fun E w => condK (Env.val E (.tmp 28)) (srK Tryz.prog C13 (fun E w => sdK Tryz.prog C14 [0, 1, 2, 3, 4, 5, 6, 7, 8, 9] (fun E w => rgK Tryz.prog C15 (fun E w => rgK Tryz.prog C16 (fun E w => KE_L1 E w R) E w) E w) E w) E w) (srK Tryz.prog C9 (fun E w => retVC Tryz.prog Tryz.f27 E w (fun v => R (.returned v) w)) E w)) E w) [(4, .pointer p4), (5, .map words5), (25, t25.v), (26, .i t26), (27, .i t27)] w from mp h) fun _ _ hK => (sq C10 (cn C17 hK (fun hK => (sk C18 fun a hA => nx hA (sq C11 (bk C12 1 (by kernel_rfl) (sr C13 hK fun _ _ hK => (sd C14 (by kernel_rfl) hK fun _ _ hK => (rg C15 (by kernel_rfl) hK fun _ _ a hA hK => nx hA (rg C16 (by kernel_rfl) hK fun _ _ a hA hK => KE_L1_ok R _ _ hK a hA)))))))) (fun hK => (xt C19 0 (by kernel_rfl) fun a hA => nx hA (sr C9 hK fun _ _ hK => (rt C20 fun a hA => retVC_sound hA hK)))))))
abbrev Q2 (R : Post) : ExP := (bodyPost Tryz.prog Tryz.f27 R)
/-- node.go:32 -/
abbrev S0 (g1 : Addr) (p4 : Option Addr) (w : World) (R : Post) : Prop :=
  ca12 n_print_operationWords #[] w fun t23 w1 => ∃ t25 : Sl, w1.cell? (g1.add 0) = some (t25.v) ∧ 
  L1 p4 t23 t25 ((t25.n : Nat) : Int) 0 w1 R
def KE_S0 (E : Env) (w : World) (R : Post) : Prop := W.asRef (Env.get? E 1) fun g1 => W.asPtr (Env.get? E 4) fun p4 => S0 g1 p4 w R
theorem KE_S0_ok : KOk Tryz.prog 47 KE_S0 C3 Q2 := by
  intro R E w h
  obtain ⟨g1, hq1, h_1⟩ := W.asRef_elim h
  obtain ⟨p4, hq4, h_2⟩ := W.asPtr_elim h_1
  exact fun a ha => WP.at (E := [(1, .pointer (some g1)), (4, .pointer p4)]) (sr C3 (K := fun E w => srK Tryz.prog C5 (fun E w => KE_L1 E w R) E w) (mp h_2) fun _ _ hK => (sq C4 (sr C5 hK fun _ _ hK => (bk C6 0 (by kernel_rfl) (lp C7 (by kernel_rfl) (KE_L1_ok R _ _ hK)))))) (ha.cons hq1 (ha.cons hq4 ha.nil))
/-- enthymeme/print.newPrinter -/
theorem ok (g0_0 : Sl) (w : World) (R : Post) (h : nwV w (.cells #[g0_0.v] ty_term_Graph) fun w1 => 
  ∃ t9 : Sl, w1.cell? ((nb w).add 0) = some (t9.v) ∧ 
  siK Tryz.prog C2 (fun E w => KE_S0 E w R) [(3, .i ((t9.n : Nat) : Int)), (10, .i ((t9.n : Nat) : Int)), (9, t9.v), (8, .pointer (some ((nb w).add 0))), (2, .pointer none), (1, .pointer (some (nb w))), (0, .agg #[g0_0.v])] w1) : Calls Tryz.prog n_print_newPrinter #[.agg #[g0_0.v]] w R :=
  calls_of_WP' (R := R) (fn := Tryz.f27) (c := C0) (args := [.agg #[g0_0.v]]) (by kernel_rfl) (by kernel_rfl) (by kernel_rfl) (sr C0 (show (fun (E : Env) (w : World) => srK Tryz.prog C0 (fun E w => srK Tryz.prog C1 (fun E w => siK Tryz.prog C2 (fun E w => KE_S0 E w R) E w) E w) E w) (envOf 0 [.agg #[g0_0.v]]) w from mp h) fun _ _ hK => (sr C1 hK fun _ _ hK => (si C2 (by kernel_rfl) hK fun _ _ hK => (KE_S0_ok R _ _ hK))))
end print_newPrinter
namespace print_printer_write
noncomputable abbrev X : Fx := ⟨Tryz.prog, Tryz.f29, [], []⟩
abbrev P0 : Ps := [(0, .v [.r]), (1, .v [.r]), (6, .v [.s]), (27, .v [.s]), (28, .v [.I]), (29, .v [.I])]
def L0 (p0 b1 : Addr) (kids6 t27 : Sl) (t28 t29 : Int) (w : World) (R : Post) : Prop := mkCur P0 0 (X.Sem (pth [0, 1, 1, 1, 2])) p0 b1 kids6 t27 t28 t29 w R
noncomputable def eL0 := entL X (pth [0, 1, 1, 1, 2]) P0 L0
theorem L0_step : ∀ (p0 b1 : Addr) (kids6 t27 : Sl) (t28 t29 : Int) (w : World) (R : Post) (h : sel (decide (t29 < t28)) ((0 : Int) ≤ t29 ∧ t29 < ((t27.n : Nat) : Int) ∧ optP t27.a fun t31_p => ∃ t32 : Int, w.cell? (t31_p.add (Int.toNat t29 * 1)) = some (.i t32) ∧ 
  ca10 n_strings_Builder_WriteByte #[.pointer (some b1), .int .u8 32] w fun t34 w2 => ca4 n_print_printer_write #[.pointer (some p0), .pointer (some b1), .i t32] w2 fun w3 => L0 p0 b1 kids6 t27 t28 (IntKind.wrap .i64 (t29 + 1)) w3 R) (sel (decide (((kids6.n : Nat) : Int) > 0)) (ca10 n_strings_Builder_WriteByte #[.pointer (some b1), .int .u8 41] w fun t44 w4 => R (.returned (.tuple #[])) w4) (R (.returned (.tuple #[])) w))), L0 p0 b1 kids6 t27 t28 t29 w R := mp (stepL (X := X) [eL0] (pth [0, 1, 1, 1, 2]) P0)
theorem ok (p0 b1 : Addr) (node2 : Int) (w : World) (R : Post) (h : ∃ t13 : Sl, w.cell? (p0.add 1) = some (t13.v) ∧ 
  (0 : Int) ≤ node2 ∧ node2 < ((t13.n : Nat) : Int) ∧ optP t13.a fun t15_p => ∃ t16 : ByteArray, w.cell? (t15_p.add (Int.toNat node2 * 1)) = some (.string t16) ∧ 
  ca25 n_strings_Builder_WriteString #[.pointer (some b1), .string t16] w fun t17_0 t17_1 w1 => ∃ t22 : Sl, w1.cell? ((p0.add 0).add 0) = some (t22.v) ∧ 
  (0 : Int) ≤ node2 ∧ node2 < ((t22.n : Nat) : Int) ∧ optP t22.a fun t24_p => ∃ t26 : Sl, w1.cell? ((t24_p.add (Int.toNat node2 * 9)).add 1) = some (t26.v) ∧ 
  L0 p0 b1 t26 t26 ((t26.n : Nat) : Int) 0 w1 R) : Calls Tryz.prog n_print_printer_write #[.pointer (some p0), .pointer (some b1), .i node2] w R := callsX X [eL0] h
end print_printer_write
namespace print_Term
noncomputable abbrev X : Fx := ⟨Tryz.prog, Tryz.f12, [], [2]⟩
abbrev P0 : Ps := []
abbrev S0T  (w : World) (R : Post) : Prop :=
  R (.returned (.tuple #[.s0, .i 7])) w
noncomputable def eS0 := entS X [] (pth [0, 1, 1, 1, 2]) P0 S0T
abbrev S1T  (w : World) (R : Post) : Prop :=
  R (.returned (.tuple #[.s0, .i 4])) w
noncomputable def eS1 := entS X [eS0] (pth [0, 1, 1, 1, 4]) P0 S1T
theorem okT (g0_0 : Sl) (node1 : Int) (w : World) (R : Post) (h : newV [] w fun b2 w1 => 
  cf1 [b2] n_term_Valid #[.agg #[g0_0.v]] w1 fun t10 w2 => sel (t10 != 0) (R (.returned (.tuple #[.s0, .i t10])) w2) (sel (decide (node1 < 0)) (S0T  w2 R) (sel (decide (node1 ≥ ((g0_0.n : Nat) : Int))) (S0T  w2 R) (cf9 [b2] n_print_newPrinter #[.agg #[g0_0.v]] w2 fun t24 w3 => optP t24 fun t26_p => ∃ t28 : Sl, w3.cell? (t26_p.add 3) = some (t28.v) ∧ 
  (0 : Int) ≤ node1 ∧ node1 < ((t28.n : Nat) : Int) ∧ optP t28.a fun t30_p => ∃ t31 : Int, w3.cell? (t30_p.add (Int.toNat node1 * 1)) = some (.i t31) ∧ 
  sel (decide (t31 > 64)) (S1T  w3 R) (optP t24 fun t35_p => ∃ t37 : Sl, w3.cell? (t35_p.add 2) = some (t37.v) ∧ 
  (0 : Int) ≤ node1 ∧ node1 < ((t37.n : Nat) : Int) ∧ optP t37.a fun t39_p => ∃ t40 : Int, w3.cell? (t39_p.add (Int.toNat node1 * 1)) = some (.i t40) ∧ 
  sel (decide (t40 > 65536)) (S1T  w3 R) (nwV w3 (.cells #[.pointer none, .slice none 0 0] ty_strings_Builder) fun w4 => 
  optP t24 fun t44_p => ∃ t46 : Sl, w4.cell? (t44_p.add 2) = some (t46.v) ∧ 
  (0 : Int) ≤ node1 ∧ node1 < ((t46.n : Nat) : Int) ∧ optP t46.a fun t48_p => ∃ t49 : Int, w4.cell? (t48_p.add (Int.toNat node1 * 1)) = some (.i t49) ∧ 
  cf4 [b2] n_strings_Builder_Grow #[.pointer (some (nb w3)), .i t49] w4 fun w5 => cf4 [b2] n_print_printer_write #[.pointer t24, .pointer (some (nb w3)), .i node1] w5 fun w6 => cf15 [b2] n_strings_Builder_String #[.pointer (some (nb w3))] w6 fun t54 w7 => R (.returned (.tuple #[.string t54, .i 0])) w7)))))) : Calls Tryz.prog n_print_Term #[.agg #[g0_0.v], .i node1] w R := callsX X [eS1, eS0] h
end print_Term
end Go.Proofs.YtnpkhgljhcnpcaaGreatDoor
set_option linter.unusedVariables false
set_option maxRecDepth 100000
set_option maxHeartbeats 2000000
namespace Go.Proofs.YtnpkhgljhcnpcaaGreatDoor
open Go Go.W
namespace enthymemelaw11_lives
noncomputable abbrev X : Fx := ⟨Tryz.prog, Tryz.f8, [], [1, 2]⟩
theorem okT  (w : World) (R : Post) (h : newV [] w fun b1 w1 => 
  loc [b1] w1 fun w4 => nwV w4 (.cells #[.i 0, .i 1] ty_int) fun w5 => 
  nwV w5 (.cells #[.i 0, .slice none 0 0, .i 0, .i 0, .u 0, .string (ByteArray.mk #[120]), .i 0, .i 4, .i 0, .i 1, .slice none 0 0, .i 0, .i 0, .u 5, .s0, .i 0, .i 4, .i 0, .i 6, .slice (some (nb w4)) 2 2, .i 0, .i 0, .u 0, .s0, .i 0, .i 4, .i 0] ty_api_Node) fun w6 => 
  newV [b1] w6 fun b2 w7 => 
  loc [b1, b2] w7 fun w8 => cf22 [b1, b2] n_print_Term #[.agg #[.slice (some (nb w5)) 3 3], .i 2] w8 fun t17_0 t17_1 w9 => sel (t17_1 == 0) (R (.returned (.bool (t17_0.toList == (ByteArray.mk #[40, 97, 110, 100, 32, 120, 32, 35, 120, 53, 41]).toList))) w9) (R (.returned (.bool false)) w9)) : Calls Tryz.prog n_enthymemelaw11_lives #[] w R := callsX X [] h
end enthymemelaw11_lives
namespace enthymemelaw11_PrintSorts
noncomputable abbrev X : Fx := ⟨Tryz.prog, Tryz.f3, [(7,ls [0,1,2,3,4,5,6,7,8,9,10,11,12,13,14,15,16,17,18])], [11]⟩
abbrev P0 : Ps := [(7, .v [.s]), (8, .v [.s]), (9, .v [.s]), (10, .v [.I])]
def L0T (kinds7 numbers8 indices9 : Sl) (i10 : Int) (w : World) (R : Post) : Prop := mkCur P0 0 (X.Sem (pth [0, 1, 1, 1, 4])) kinds7 numbers8 indices9 i10 w R
noncomputable def eL0 := entL X (pth [0, 1, 1, 1, 4]) P0 L0T
abbrev P1 : Ps := []
abbrev S1T  (w : World) (R : Post) : Prop :=
  R (.returned (.bool false)) w
noncomputable def eS1 := entS X [eL0] (pth [0, 1, 4, 2, 1, 2, 1, 1, 4]) P1 S1T
theorem L0T_step : ∀ (kinds7 numbers8 indices9 : Sl) (i10 : Int) (w : World) (R : Post) (h : sel (decide (i10 < 210)) (drV w fun w6 => (0 : Int) ≤ (Int.tmod i10 7) ∧ (Int.tmod i10 7) < ((kinds7.n : Nat) : Int) ∧ optP kinds7.a fun t33_p => ∃ t34 : Int, w6.cell? (t33_p.add (Int.toNat (Int.tmod i10 7) * 1)) = some (.i t34) ∧ 
  (0 : Int) ≤ (Int.tmod (IntKind.wrap .i64 (Int.tdiv i10 7)) 6) ∧ (Int.tmod (IntKind.wrap .i64 (Int.tdiv i10 7)) 6) < ((numbers8.n : Nat) : Int) ∧ optP numbers8.a fun t39_p => ∃ t40 : Int, w6.cell? (t39_p.add (Int.toNat (Int.tmod (IntKind.wrap .i64 (Int.tdiv i10 7)) 6) * 1)) = some (.i t40) ∧ 
  (0 : Int) ≤ (IntKind.wrap .i64 (Int.tdiv i10 42)) ∧ (IntKind.wrap .i64 (Int.tdiv i10 42)) < ((indices9.n : Nat) : Int) ∧ optP indices9.a fun t44_p => ∃ t45 : Int, w6.cell? (t44_p.add (Int.toNat (IntKind.wrap .i64 (Int.tdiv i10 42)) * 1)) = some (.i t45) ∧ 
  newV [] w6 fun b11 w7 => 
  w7.cell? (t44_p.add (Int.toNat (IntKind.wrap .i64 (Int.tdiv i10 42)) * 1)) = some (.i t45) ∧ w7.cell? (t39_p.add (Int.toNat (Int.tmod (IntKind.wrap .i64 (Int.tdiv i10 7)) 6) * 1)) = some (.i t40) ∧ w7.cell? (t33_p.add (Int.toNat (Int.tmod i10 7) * 1)) = some (.i t34) ∧ loc [b11] w7 fun w10 => cf22 [b11] n_print_Sort #[.agg #[.i t34, .i t40, .i t45]] w10 fun t49_0 t49_1 w11 => cf22 [b11] n_enthymemeref11_Sort #[.agg #[.i t34, .i t40, .i t45]] w11 fun t54_0 t54_1 w12 => sel (!(t49_0.toList == t54_0.toList)) (S1T  w12 R) (sel (t49_1 != t54_1) (S1T  w12 R) (L0T kinds7 numbers8 indices9 (IntKind.wrap .i64 (i10 + 1)) w12 R))) (ca0 n_enthymemelaw11_lives #[] w fun t65 w13 => R (.returned (.bool t65)) w13)), L0T kinds7 numbers8 indices9 i10 w R := mp (stepL (X := X) [eS1, eL0] (pth [0, 1, 1, 1, 4]) P0)
theorem okT (kind0 n1 index2 : Int) (w : World) (R : Post) (h : nwV w (.cells #[.i 0, .i 1, .i 2, .i 3, .i 4, .i (-1), .i kind0] ty_int) fun w1 => 
  ca1 n_enthymemeref01_Around #[.i n1, .i 66] w1 fun t19 w2 => nwV w2 (.cells #[.i t19, .i n1, .i 0, .i 1, .i 64, .i 65] ty_int) fun w3 => 
  ca1 n_enthymemeref01_Around #[.i index2, .i 18] w3 fun t23 w4 => nwV w4 (.cells #[.i 0, .i t23, .i index2, .i 16, .i 17] ty_int) fun w5 => 
  L0T ⟨some (nb w), 7, 7⟩ ⟨some (nb w2), 6, 6⟩ ⟨some (nb w4), 5, 5⟩ 0 w5 R) : Calls Tryz.prog n_enthymemelaw11_PrintSorts #[.i kind0, .i n1, .i index2] w R := callsX X [eS1, eL0] h
end enthymemelaw11_PrintSorts
end Go.Proofs.YtnpkhgljhcnpcaaGreatDoor
