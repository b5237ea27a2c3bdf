/- Printed by a program of ours (vcgen.py) from the dump: the conditions of the functions, and that they suffice. -/
import Derived.Test.YtknlbofiicflgaaGreatVC
set_option linter.unusedVariables false
set_option maxRecDepth 100000
set_option maxHeartbeats 2000000
namespace Go.Proofs.YtknlbofiicflgaaGreat
open Go Go.W
namespace regex_countdown
noncomputable abbrev X : Fx := ⟨Tryz.prog, Tryz.f56, [], [2]⟩
abbrev P0 : Ps := [(1, .v [.I]), (2, .l [.I, .Y, .Y, .s] ty_regex_Regex), (5, .v [.I])]
def L1T (left1 : Int) (r2 : Nat) (r2_0 r2_1 r2_2 : Int) (r2_3 : Sl) (i5 : Int) (w : World) (R : Post) : Prop := mkCur P0 0 (X.Sem (pth [0, 1, 1, 1, 2])) left1 r2 r2_0 r2_1 r2_2 r2_3 i5 w R
noncomputable def eL1 := entL X (pth [0, 1, 1, 1, 2]) P0 L1T
abbrev P1 : Ps := [(1, .v [.I])]
abbrev S2T (left1 : Int) (w : World) (R : Post) : Prop :=
  R (.returned (.i left1)) w
noncomputable def eS2 := entS X [eL1] (pth [3]) P1 S2T
theorem L1T_step : ∀ (left1 : Int) (r2 : Nat) (r2_0 r2_1 r2_2 : Int) (r2_3 : Sl) (i5 : Int) (w : World) (R : Post) (h : sel (decide (i5 < ((r2_3.n : Nat) : Int))) (sel (decide (left1 ≥ 0)) ((0 : Int) ≤ i5 ∧ i5 < ((r2_3.n : Nat) : Int) ∧ optP r2_3.a fun t22_p => ld4_0 w (t22_p.add (Int.toNat i5 * 4)) fun t23_0 t23_1 t23_2 t23_3 => cf0 [r2] n_regex_countdown #[.agg #[.i t23_0, .int .u8 t23_1, .int .u8 t23_2, t23_3.v], .i left1] w fun t25 w1 => L1T t25 r2 r2_0 r2_1 r2_2 r2_3 (IntKind.wrap .i64 (i5 + 1)) w1 R) (S2T left1 w R)) (S2T left1 w R)), L1T left1 r2 r2_0 r2_1 r2_2 r2_3 i5 w R := mp (stepL (X := X) [eS2, eL1] (pth [0, 1, 1, 1, 2]) P0)
abbrev P2 : Ps := [(1, .v [.I]), (2, .l [.I, .Y, .Y, .s] ty_regex_Regex)]
abbrev S0T (left1 : Int) (r2 : Nat) (r2_0 r2_1 r2_2 : Int) (r2_3 : Sl) (w : World) (R : Post) : Prop :=
  L1T left1 r2 r2_0 r2_1 r2_2 r2_3 0 w R
noncomputable def eS0 := entS X [eS2, eL1] (pth [2]) P2 S0T
theorem okT (r0_0 r0_1 r0_2 : Int) (r0_3 : Sl) (left1 : Int) (w : World) (R : Post) (h : newV [] w fun b2 w1 => 
  S0T (IntKind.wrap .i64 (left1 - 1)) b2 r0_0 r0_1 r0_2 r0_3 w1 R) : Calls Tryz.prog n_regex_countdown #[.agg #[.i r0_0, .int .u8 r0_1, .int .u8 r0_2, r0_3.v], .i left1] w R := callsX X [eS0, eS2, eL1] h
end regex_countdown
namespace regex_tooLarge
noncomputable abbrev X : Fx := ⟨Tryz.prog, Tryz.f29, [], [1]⟩
theorem okT (r0_0 r0_1 r0_2 : Int) (r0_3 : Sl) (w : World) (R : Post) (h : newV [] w fun b1 w1 => 
  cf0 [b1] n_regex_countdown #[.agg #[.i r0_0, .int .u8 r0_1, .int .u8 r0_2, r0_3.v], .i 64] w1 fun t4 w2 => R (.returned (.bool (decide (t4 < 0)))) w2) : Calls Tryz.prog n_regex_tooLarge #[.agg #[.i r0_0, .int .u8 r0_1, .int .u8 r0_2, r0_3.v]] w R := callsX X [] h
end regex_tooLarge
namespace regex_proper
noncomputable abbrev X : Fx := ⟨Tryz.prog, Tryz.f30, [], [1, 4]⟩
abbrev P0 : Ps := []
abbrev S0T  (w : World) (R : Post) : Prop :=
  R (.returned (.bool false)) w
noncomputable def eS0 := entS X [] (pth [0, 1, 1, 1, 1]) P0 S0T
abbrev P1 : Ps := [(1, .l [.I, .Y, .Y, .s] ty_regex_Regex)]
abbrev S2T (r1 : Nat) (r1_0 r1_1 r1_2 : Int) (r1_3 : Sl) (w : World) (R : Post) : Prop :=
  R (.returned (.bool (((r1_3.n : Nat) : Int) == 0))) w
noncomputable def eS2 := entS X [eS0] (pth [0, 1, 1, 1, 1, 1, 2]) P1 S2T
abbrev P2 : Ps := [(52, .v [.s]), (53, .v [.I]), (54, .v [.I])]
def L5T (t52 : Sl) (t53 t54 : Int) (w : World) (R : Post) : Prop := mkCur P2 0 (X.Sem (pth [0, 1, 1, 1, 3])) t52 t53 t54 w R
noncomputable def eL5 := entL X (pth [0, 1, 1, 1, 3]) P2 L5T
theorem L5T_step : ∀ (t52 : Sl) (t53 t54 : Int) (w : World) (R : Post) (h : sel (decide (t54 < t53)) ((0 : Int) ≤ t54 ∧ t54 < ((t52.n : Nat) : Int) ∧ optP t52.a fun t56_p => ld4_0 w (t56_p.add (Int.toNat t54 * 4)) fun t57_0 t57_1 t57_2 t57_3 => newV [] w fun b4 w1 => 
  loc [b4] w1 fun w5 => cf1 [b4] n_regex_proper #[.agg #[.i t57_0, .int .u8 t57_1, .int .u8 t57_2, t57_3.v]] w5 fun t59 w6 => sel (!t59) (R (.returned (.bool false)) w6) (L5T t52 t53 (IntKind.wrap .i64 (t54 + 1)) w6 R)) (R (.returned (.bool true)) w)), L5T t52 t53 t54 w R := mp (stepL (X := X) [eL5, eS2, eS0] (pth [0, 1, 1, 1, 3]) P2)
abbrev S4T (r1 : Nat) (r1_0 r1_1 r1_2 : Int) (r1_3 : Sl) (w : World) (R : Post) : Prop :=
  L5T r1_3 ((r1_3.n : Nat) : Int) 0 w R
noncomputable def eS4 := entS X [eL5, eS2, eS0] (pth [3]) P1 S4T
abbrev S7T (r1 : Nat) (r1_0 r1_1 r1_2 : Int) (r1_3 : Sl) (w : World) (R : Post) : Prop :=
  sel (((r1_3.n : Nat) : Int) != 1) (R (.returned (.bool false)) w) (S4T r1 r1_0 r1_1 r1_2 r1_3 w R)
noncomputable def eS7 := entS X [eS4, eL5, eS2, eS0] (pth [0, 1, 7, 1, 1, 1, 2]) P1 S7T
abbrev S8T  (w : World) (R : Post) : Prop :=
  R (.returned (.bool false)) w
noncomputable def eS8 := entS X [eS7, eS4, eL5, eS2, eS0] (pth [8, 1, 1, 1, 2]) P0 S8T
abbrev P3 : Ps := [(1, .l [.I, .Y, .Y, .s] ty_regex_Regex), (19, .v [.I])]
abbrev S6T (r1 : Nat) (r1_0 r1_1 r1_2 : Int) (r1_3 : Sl) (t19 : Int) (w : World) (R : Post) : Prop :=
  sel (t19 == 6) (sel (t19 == 6) (S7T r1 r1_0 r1_1 r1_2 r1_3 w R) (S8T  w R)) (sel (t19 == 7) (S7T r1 r1_0 r1_1 r1_2 r1_3 w R) (S8T  w R))
noncomputable def eS6 := entS X [eS8, eS7, eS4, eL5, eS2, eS0] (pth [6, 1, 1, 1, 2]) P3 S6T
abbrev S3T (r1 : Nat) (r1_0 r1_1 r1_2 : Int) (r1_3 : Sl) (t19 : Int) (w : World) (R : Post) : Prop :=
  sel (t19 == 2) (sel (((r1_3.n : Nat) : Int) == 0) (R (.returned (.bool (decide (r1_1 ≤ r1_2)))) w) (R (.returned (.bool false)) w)) (sel (t19 == 3) (sel (t19 == 3) (S4T r1 r1_0 r1_1 r1_2 r1_3 w R) (S6T r1 r1_0 r1_1 r1_2 r1_3 t19 w R)) (sel (t19 == 4) (sel (t19 == 4) (S4T r1 r1_0 r1_1 r1_2 r1_3 w R) (S6T r1 r1_0 r1_1 r1_2 r1_3 t19 w R)) (sel (t19 == 5) (S4T r1 r1_0 r1_1 r1_2 r1_3 w R) (S6T r1 r1_0 r1_1 r1_2 r1_3 t19 w R))))
noncomputable def eS3 := entS X [eS6, eS8, eS7, eS4, eL5, eS2, eS0] (pth [2, 1, 1, 1, 2]) P3 S3T
abbrev S1T (r1 : Nat) (r1_0 r1_1 r1_2 : Int) (r1_3 : Sl) (w : World) (R : Post) : Prop :=
  sel (r1_0 == 0) (sel (r1_0 == 0) (S2T r1 r1_0 r1_1 r1_2 r1_3 w R) (S3T r1 r1_0 r1_1 r1_2 r1_3 r1_0 w R)) (sel (r1_0 == 1) (S2T r1 r1_0 r1_1 r1_2 r1_3 w R) (S3T r1 r1_0 r1_1 r1_2 r1_3 r1_0 w R))
noncomputable def eS1 := entS X [eS3, eS6, eS8, eS7, eS4, eL5, eS2, eS0] (pth [2]) P1 S1T
theorem okT (r0_0 r0_1 r0_2 : Int) (r0_3 : Sl) (w : World) (R : Post) (h : newV [] w fun b1 w1 => 
  sel (r0_0 != 2) (sel (r0_1 != 0) (S0T  w1 R) (sel (r0_2 != 0) (S0T  w1 R) (S1T b1 r0_0 r0_1 r0_2 r0_3 w1 R))) (S1T b1 r0_0 r0_1 r0_2 r0_3 w1 R)) : Calls Tryz.prog n_regex_proper #[.agg #[.i r0_0, .int .u8 r0_1, .int .u8 r0_2, r0_3.v]] w R := callsX X [eS1, eS3, eS6, eS8, eS7, eS4, eL5, eS2, eS0] h
end regex_proper
namespace regex_Valid
noncomputable abbrev X : Fx := ⟨Tryz.prog, Tryz.f10, [], [1]⟩
theorem okT (r0_0 r0_1 r0_2 : Int) (r0_3 : Sl) (w : World) (R : Post) (h : newV [] w fun b1 w1 => 
  cf1 [b1] n_regex_tooLarge #[.agg #[.i r0_0, .int .u8 r0_1, .int .u8 r0_2, r0_3.v]] w1 fun t4 w2 => sel t4 (R (.returned (.i 4)) w2) (cf1 [b1] n_regex_proper #[.agg #[.i r0_0, .int .u8 r0_1, .int .u8 r0_2, r0_3.v]] w2 fun t6 w3 => sel (!t6) (R (.returned (.i 1)) w3) (R (.returned (.i 0)) w3))) : Calls Tryz.prog n_regex_Valid #[.agg #[.i r0_0, .int .u8 r0_1, .int .u8 r0_2, r0_3.v]] w R := callsX X [] h
end regex_Valid
namespace regex_clone
noncomputable abbrev X : Fx := ⟨Tryz.prog, Tryz.f43, [], [1, 2, 5]⟩
abbrev P0 : Ps := [(1, .l [.I, .Y, .Y, .s] ty_regex_Regex), (2, .l [.I, .Y, .Y, .s] ty_regex_Regex), (3, .v [.s]), (7, .v [.s]), (8, .v [.I]), (9, .v [.I])]
def L0T (r1 : Nat) (r1_0 r1_1 r1_2 : Int) (r1_3 : Sl) (t2 : Nat) (t2_0 t2_1 t2_2 : Int) (t2_3 kids3 t7 : Sl) (t8 t9 : Int) (w : World) (R : Post) : Prop := mkCur P0 0 (X.Sem (pth [0, 1, 1, 1, 2])) r1 r1_0 r1_1 r1_2 r1_3 t2 t2_0 t2_1 t2_2 t2_3 kids3 t7 t8 t9 w R
noncomputable def eL0 := entL X (pth [0, 1, 1, 1, 2]) P0 L0T
theorem L0T_step : ∀ (r1 : Nat) (r1_0 r1_1 r1_2 : Int) (r1_3 : Sl) (t2 : Nat) (t2_0 t2_1 t2_2 : Int) (t2_3 kids3 t7 : Sl) (t8 t9 : Int) (w : World) (R : Post) (h : sel (decide (t9 < t8)) ((0 : Int) ≤ t9 ∧ t9 < ((t7.n : Nat) : Int) ∧ optP t7.a fun t11_p => ld4_0 w (t11_p.add (Int.toNat t9 * 4)) fun t12_0 t12_1 t12_2 t12_3 => newV [r1, t2] w fun b5 w3 => 
  loc [r1, t2, b5] w3 fun w7 => cf2 [r1, t2, b5] n_regex_clone #[.agg #[.i t12_0, .int .u8 t12_1, .int .u8 t12_2, t12_3.v]] w7 fun t15_0 t15_1 t15_2 t15_3 w8 => nwV w8 (.cells #[.i t15_0, .int .u8 t15_1, .int .u8 t15_2, t15_3.v] ty_regex_Regex) fun w9 => 
  ∃ (t17 : Sl) (w10 : World), Sem.run Tryz.prog (Builtin.append_ #[ty_sl_regex_Regex, ty_sl_regex_Regex] ty_sl_regex_Regex #[kids3.v, .slice (some (nb w8)) 1 1]) w9 = .ok (t17.v) w10 ∧ kept [r1, t2, b5] w9 w10 ∧ L0T r1 r1_0 r1_1 r1_2 r1_3 t2 t2_0 t2_1 t2_2 t2_3 t17 t7 t8 (IntKind.wrap .i64 (t9 + 1)) w10 R) (loc [r1, t2] w fun w14 => R (.returned (.agg #[.i r1_0, .int .u8 r1_1, .int .u8 r1_2, kids3.v])) w14)), L0T r1 r1_0 r1_1 r1_2 r1_3 t2 t2_0 t2_1 t2_2 t2_3 kids3 t7 t8 t9 w R := mp (stepL (X := X) [eL0] (pth [0, 1, 1, 1, 2]) P0)
theorem okT (r0_0 r0_1 r0_2 : Int) (r0_3 : Sl) (w : World) (R : Post) (h : newV [] w fun b1 w1 => 
  newV [b1] w1 fun b2 w2 => 
  L0T b1 r0_0 r0_1 r0_2 r0_3 b2 0 0 0 ⟨none, 0, 0⟩ ⟨none, 0, 0⟩ r0_3 ((r0_3.n : Nat) : Int) 0 w2 R) : Calls Tryz.prog n_regex_clone #[.agg #[.i r0_0, .int .u8 r0_1, .int .u8 r0_2, r0_3.v]] w R := callsX X [eL0] h
end regex_clone
namespace regex_limited
noncomputable abbrev X : Fx := ⟨Tryz.prog, Tryz.f24, [], [1, 2]⟩
theorem okT (r0_0 r0_1 r0_2 : Int) (r0_3 : Sl) (w : World) (R : Post) (h : newV [] w fun b1 w1 => 
  newV [b1] w1 fun b2 w2 => 
  cf1 [b1, b2] n_regex_tooLarge #[.agg #[.i r0_0, .int .u8 r0_1, .int .u8 r0_2, r0_3.v]] w2 fun t5 w3 => sel t5 (loc [b1, b2] w3 fun w7 => R (.returned (.tuple #[.agg #[.i 0, .int .u8 0, .int .u8 0, .slice none 0 0], .i 4])) w7) (cf2 [b1, b2] n_regex_clone #[.agg #[.i r0_0, .int .u8 r0_1, .int .u8 r0_2, r0_3.v]] w3 fun t8_0 t8_1 t8_2 t8_3 w8 => loc [b1, b2] w8 fun w12 => R (.returned (.tuple #[.agg #[.i t8_0, .int .u8 t8_1, .int .u8 t8_2, t8_3.v], .i 0])) w12)) : Calls Tryz.prog n_regex_limited #[.agg #[.i r0_0, .int .u8 r0_1, .int .u8 r0_2, r0_3.v]] w R := callsX X [] h
end regex_limited
namespace regex_nullable
noncomputable abbrev X : Fx := ⟨Tryz.prog, Tryz.f41, [], [1, 4]⟩
abbrev P0 : Ps := []
abbrev S0T  (w : World) (R : Post) : Prop :=
  R (.returned (.bool true)) w
noncomputable def eS0 := entS X [] (pth [0, 1, 1, 1, 1, 1, 1]) P0 S0T
abbrev P1 : Ps := [(14, .v [.s]), (15, .v [.I]), (16, .v [.I])]
def L3T (t14 : Sl) (t15 t16 : Int) (w : World) (R : Post) : Prop := mkCur P1 0 (X.Sem (pth [0, 1, 1, 2, 3, 1, 1, 1, 1])) t14 t15 t16 w R
noncomputable def eL3 := entL X (pth [0, 1, 1, 2, 3, 1, 1, 1, 1]) P1 L3T
theorem L3T_step : ∀ (t14 : Sl) (t15 t16 : Int) (w : World) (R : Post) (h : sel (decide (t16 < t15)) ((0 : Int) ≤ t16 ∧ t16 < ((t14.n : Nat) : Int) ∧ optP t14.a fun t18_p => ld4_0 w (t18_p.add (Int.toNat t16 * 4)) fun t19_0 t19_1 t19_2 t19_3 => newV [] w fun b4 w1 => 
  loc [b4] w1 fun w5 => cf1 [b4] n_regex_nullable #[.agg #[.i t19_0, .int .u8 t19_1, .int .u8 t19_2, t19_3.v]] w5 fun t21 w6 => sel (!t21) (R (.returned (.bool false)) w6) (L3T t14 t15 (IntKind.wrap .i64 (t16 + 1)) w6 R)) (R (.returned (.bool true)) w)), L3T t14 t15 t16 w R := mp (stepL (X := X) [eL3, eS0] (pth [0, 1, 1, 2, 3, 1, 1, 1, 1]) P1)
abbrev P2 : Ps := [(1, .l [.I, .Y, .Y, .s] ty_regex_Regex)]
abbrev S2T (r1 : Nat) (r1_0 r1_1 r1_2 : Int) (r1_3 : Sl) (w : World) (R : Post) : Prop :=
  L3T r1_3 ((r1_3.n : Nat) : Int) 0 w R
noncomputable def eS2 := entS X [eL3, eS0] (pth [0, 1, 3, 1, 1, 1, 1]) P2 S2T
abbrev P3 : Ps := [(1, .l [.I, .Y, .Y, .s] ty_regex_Regex), (6, .v [.I])]
abbrev S4T (r1 : Nat) (r1_0 r1_1 r1_2 : Int) (r1_3 : Sl) (t6 : Int) (w : World) (R : Post) : Prop :=
  sel (t6 == 4) (cf1 [r1] n_slices_ContainsFunc_sl_regex_Regex_regex_Regex #[r1_3.v, .func (.func n_regex_nullable) #[] #[]] w fun t28 w1 => R (.returned (.bool t28)) w1) (sel (t6 == 6) ((0 : Int) ≤ 0 ∧ 0 < ((r1_3.n : Nat) : Int) ∧ optP r1_3.a fun t33_p => ld4_0 w (t33_p.add (Int.toNat 0 * 4)) fun t34_0 t34_1 t34_2 t34_3 => cf1 [r1] n_regex_nullable #[.agg #[.i t34_0, .int .u8 t34_1, .int .u8 t34_2, t34_3.v]] w fun t35 w2 => R (.returned (.bool (!t35))) w2) (R (.returned (.bool false)) w))
noncomputable def eS4 := entS X [eS2, eL3, eS0] (pth [4, 1, 1, 1, 1]) P3 S4T
abbrev S1T (r1 : Nat) (r1_0 r1_1 r1_2 : Int) (r1_3 : Sl) (t6 : Int) (w : World) (R : Post) : Prop :=
  sel (t6 == 3) (sel (t6 == 3) (S2T r1 r1_0 r1_1 r1_2 r1_3 w R) (S4T r1 r1_0 r1_1 r1_2 r1_3 t6 w R)) (sel (t6 == 5) (S2T r1 r1_0 r1_1 r1_2 r1_3 w R) (S4T r1 r1_0 r1_1 r1_2 r1_3 t6 w R))
noncomputable def eS1 := entS X [eS4, eS2, eL3, eS0] (pth [2, 1, 1, 1, 1]) P3 S1T
theorem okT (r0_0 r0_1 r0_2 : Int) (r0_3 : Sl) (w : World) (R : Post) (h : newV [] w fun b1 w1 => 
  sel (r0_0 == 1) (sel (r0_0 == 1) (S0T  w1 R) (S1T b1 r0_0 r0_1 r0_2 r0_3 r0_0 w1 R)) (sel (r0_0 == 7) (S0T  w1 R) (S1T b1 r0_0 r0_1 r0_2 r0_3 r0_0 w1 R))) : Calls Tryz.prog n_regex_nullable #[.agg #[.i r0_0, .int .u8 r0_1, .int .u8 r0_2, r0_3.v]] w R := callsX X [eS1, eS4, eS2, eL3, eS0] h
end regex_nullable
end Go.Proofs.YtknlbofiicflgaaGreat
