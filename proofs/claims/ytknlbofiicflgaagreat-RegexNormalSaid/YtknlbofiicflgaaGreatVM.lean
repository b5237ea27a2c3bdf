/- Printed by a program of ours (vcgen.py) from the dump: the conditions of the functions, and that they suffice. -/
import Derived.Test.YtknlbofiicflgaaGreatVD
set_option linter.unusedVariables false
set_option maxRecDepth 100000
set_option maxHeartbeats 2000000
namespace Go.Proofs.YtknlbofiicflgaaGreat
open Go Go.W
namespace regex_meet
noncomputable abbrev X : Fx := ⟨Tryz.prog, Tryz.f65, [], []⟩
abbrev P0 : Ps := [(0, .v [.s]), (1, .v [.s]), (2, .v [.I]), (3, .v [.I]), (9, .v [.I])]
def L0 (a0 b1 : Sl) (i2 j3 m9 : Int) (w : World) (R : Post) : Prop := mkCur P0 0 (X.Sem (pth [0, 1, 1, 1, 1])) a0 b1 i2 j3 m9 w R
noncomputable def eL0 := entL X (pth [0, 1, 1, 1, 1]) P0 L0
abbrev S1 (a0 b1 : Sl) (i2 j3 m9 : Int) (w : World) (R : Post) : Prop :=
  L0 a0 b1 i2 j3 (IntKind.wrap .i64 (m9 + 1)) w R
noncomputable def eS1 := entS X [eL0] (pth [2, 2, 1, 1, 1]) P0 S1
theorem L0_step : ∀ (a0 b1 : Sl) (i2 j3 m9 : Int) (w : World) (R : Post) (h : sel (decide (m9 ≤ j3)) ((0 : Int) ≤ i2 ∧ i2 < ((a0.n : Nat) : Int) ∧ optP a0.a fun t18_p => ∃ t19 : Sl, w.cell? (t18_p.add (Int.toNat i2 * 1)) = some (t19.v) ∧ 
  (0 : Int) ≤ m9 ∧ m9 < ((t19.n : Nat) : Int) ∧ optP t19.a fun t21_p => ∃ t22 : Bool, w.cell? (t21_p.add (Int.toNat m9 * 1)) = some (.bool t22) ∧ 
  sel t22 ((0 : Int) ≤ m9 ∧ m9 < ((b1.n : Nat) : Int) ∧ optP b1.a fun t26_p => ∃ t27 : Sl, w.cell? (t26_p.add (Int.toNat m9 * 1)) = some (t27.v) ∧ 
  (0 : Int) ≤ j3 ∧ j3 < ((t27.n : Nat) : Int) ∧ optP t27.a fun t29_p => ∃ t30 : Bool, w.cell? (t29_p.add (Int.toNat j3 * 1)) = some (.bool t30) ∧ 
  sel t30 (R (.returned (.bool true)) w) (S1 a0 b1 i2 j3 m9 w R)) (S1 a0 b1 i2 j3 m9 w R)) (R (.returned (.bool false)) w)), L0 a0 b1 i2 j3 m9 w R := mp (stepL (X := X) [eS1, eL0] (pth [0, 1, 1, 1, 1]) P0)
theorem ok (a0 b1 : Sl) (i2 j3 : Int) (w : World) (R : Post) (h : L0 a0 b1 i2 j3 i2 w R) : Calls Tryz.prog n_regex_meet #[a0.v, b1.v, .i i2, .i j3] w R := callsX X [eS1, eL0] h
end regex_meet
namespace regex_table
noncomputable abbrev X : Fx := ⟨Tryz.prog, Tryz.f59, [(9,[0,1,2,3,4,5,6,7,8,9,10])], []⟩
abbrev P0 : Ps := [(0, .v [.st]), (1, .v [.f]), (5, .v [.s]), (13, .v [.I]), (14, .v [.I])]
def L0 (s0 : ByteArray) (f1 : Fv) (t5 : Sl) (t13 t14 : Int) (w : World) (R : Post) : Prop := mkCur P0 0 (X.Sem (pth [0, 1, 1, 1, 2])) s0 f1 t5 t13 t14 w R
noncomputable def eL0 := entL X (pth [0, 1, 1, 1, 2]) P0 L0
abbrev P1 : Ps := [(0, .v [.st]), (1, .v [.f]), (5, .v [.s]), (6, .v [.I]), (7, .v [.I]), (13, .v [.I]), (14, .v [.I])]
def L1 (s0 : ByteArray) (f1 : Fv) (t5 : Sl) (i6 j7 t13 t14 : Int) (w : World) (R : Post) : Prop := mkCur P1 0 (X.Sem (pth [0, 1, 3, 2, 2, 2, 1, 1, 2])) s0 f1 t5 i6 j7 t13 t14 w R
noncomputable def eL1 := entL X (pth [0, 1, 3, 2, 2, 2, 1, 1, 2]) P1 L1
theorem L1_step : ∀ (s0 : ByteArray) (f1 : Fv) (t5 : Sl) (i6 j7 t13 t14 : Int) (w : World) (R : Post) (h : sel (decide (j7 ≤ ((s0.size : Nat) : Int))) (drV w fun w4 => (0 : Int) ≤ i6 ∧ i6 < ((t5.n : Nat) : Int) ∧ optP t5.a fun t33_p => ∃ t34 : Sl, w4.cell? (t33_p.add (Int.toNat i6 * 1)) = some (t34.v) ∧ 
  AndT (callable Tryz.prog f1.n) (Calls Tryz.prog f1.n (f1.bs ++ #[.i i6, .i j7] ++ f1.cs) w4 fun r_ w5 => ∃ t39 : Bool, r_ = .returned (.bool t39) ∧ 
  w5.cell? (t33_p.add (Int.toNat i6 * 1)) = some (t34.v) ∧ (0 : Int) ≤ j7 ∧ j7 < ((t34.n : Nat) : Int) ∧ optP t34.a fun t40_p => stV w5 (t40_p.add (Int.toNat j7 * 1)) (.bool t39) fun w6 => 
  L1 s0 f1 t5 i6 (IntKind.wrap .i64 (j7 + 1)) t13 t14 w6 R)) (L0 s0 f1 t5 t13 (IntKind.wrap .i64 (t14 + 1)) w R)), L1 s0 f1 t5 i6 j7 t13 t14 w R := mp (stepL (X := X) [eL1, eL0] (pth [0, 1, 3, 2, 2, 2, 1, 1, 2]) P1)
theorem L0_step : ∀ (s0 : ByteArray) (f1 : Fv) (t5 : Sl) (t13 t14 : Int) (w : World) (R : Post) (h : sel (decide (t14 < t13)) (∃ (t22 : Sl) (w2 : World), Sem.run Tryz.prog (Instr.makeSlice ty_sl_bool (.i (IntKind.wrap .i64 (((s0.size : Nat) : Int) + 1))) (.i (IntKind.wrap .i64 (((s0.size : Nat) : Int) + 1)))) w = .ok (t22.v) w2 ∧ (0 : Int) ≤ t14 ∧ t14 < ((t5.n : Nat) : Int) ∧ optP t5.a fun t23_p => stV w2 (t23_p.add (Int.toNat t14 * 1)) (t22.v) fun w3 => 
  L1 s0 f1 t5 t14 t14 t13 t14 w3 R) (R (.returned (t5.v)) w)), L0 s0 f1 t5 t13 t14 w R := mp (stepL (X := X) [eL1, eL0] (pth [0, 1, 1, 1, 2]) P0)
theorem ok (s0 : ByteArray) (f1 : Fv) (w : World) (R : Post) (h : ∃ (t11 : Sl) (w1 : World), Sem.run Tryz.prog (Instr.makeSlice ty_sl_sl_bool (.i (IntKind.wrap .i64 (((s0.size : Nat) : Int) + 1))) (.i (IntKind.wrap .i64 (((s0.size : Nat) : Int) + 1)))) w = .ok (t11.v) w1 ∧ L0 s0 f1 t11 ((t11.n : Nat) : Int) 0 w1 R) : Calls Tryz.prog n_regex_table #[.string s0, f1.v] w R := callsX X [eL1, eL0] h
end regex_table
namespace regex_spans_1
noncomputable abbrev X : Fx := ⟨Tryz.prog, Tryz.f60, [], []⟩
theorem ok (i0 j1 : Int) (w : World) (R : Post) (h : R (.returned (.bool false)) w) : Calls Tryz.prog n_regex_spans_1 #[.i i0, .i j1] w R := callsX X [] h
end regex_spans_1
namespace regex_spans_2
noncomputable abbrev X : Fx := ⟨Tryz.prog, Tryz.f61, [], []⟩
theorem ok (i0 j1 : Int) (w : World) (R : Post) (h : R (.returned (.bool (i0 == j1))) w) : Calls Tryz.prog n_regex_spans_2 #[.i i0, .i j1] w R := callsX X [] h
end regex_spans_2
namespace regex_spans_3
noncomputable abbrev X : Fx := ⟨Tryz.prog, Tryz.f62, [(1,[0,1,2,3,4,5,6,7,8,9,10,11,12,13,14,15,16,17,18,19,20])], []⟩
theorem ok (i0 j1 : Int) (t2 t3 : Addr) (w : World) (R : Post) (h : drV w fun w1 => sel (j1 == (IntKind.wrap .i64 (i0 + 1))) (∃ t13 : Int, w1.cell? (t2.add 1) = some (.int .u8 t13) ∧ 
  ∃ t14 : ByteArray, w1.cell? t3 = some (.string t14) ∧ 
  (0 : Int) ≤ i0 ∧ ∃ t16_b : UInt8, t14[Int.toNat i0]? = some t16_b ∧ sel (decide (t13 ≤ ((t16_b.toNat : Nat) : Int))) (∃ t20 : ByteArray, w1.cell? t3 = some (.string t20) ∧ 
  (0 : Int) ≤ i0 ∧ ∃ t22_b : UInt8, t20[Int.toNat i0]? = some t22_b ∧ ∃ t24 : Int, w1.cell? (t2.add 2) = some (.int .u8 t24) ∧ 
  R (.returned (.bool (decide (((t22_b.toNat : Nat) : Int) ≤ t24)))) w1) (R (.returned (.bool false)) w1)) (R (.returned (.bool false)) w1)) : Calls Tryz.prog n_regex_spans_3 #[.i i0, .i j1, .pointer (some t2), .pointer (some t3)] w R := callsX X [] h
end regex_spans_3
namespace regex_spans_4
noncomputable abbrev X : Fx := ⟨Tryz.prog, Tryz.f63, [], []⟩
theorem ok (i0 j1 : Int) (w : World) (R : Post) (h : R (.returned (.bool (i0 == j1))) w) : Calls Tryz.prog n_regex_spans_4 #[.i i0, .i j1] w R := callsX X [] h
end regex_spans_4
namespace regex_spans_5
noncomputable abbrev X : Fx := ⟨Tryz.prog, Tryz.f64, [], []⟩
theorem ok (i0 j1 : Int) (t2 t3 : Addr) (w : World) (R : Post) (h : ∃ t7 : Sl, w.cell? t2 = some (t7.v) ∧ 
  ∃ t8 : Sl, w.cell? t3 = some (t8.v) ∧ 
  ca1 n_regex_meet #[t7.v, t8.v, .i i0, .i j1] w fun t11 w1 => R (.returned (.bool t11)) w1) : Calls Tryz.prog n_regex_spans_5 #[.i i0, .i j1, .pointer (some t2), .pointer (some t3)] w R := callsX X [] h
end regex_spans_5
namespace regex_spans_6
noncomputable abbrev X : Fx := ⟨Tryz.prog, Tryz.f66, [], []⟩
theorem ok (i0 j1 : Int) (t2 : Addr) (w : World) (R : Post) (h : ∃ t6 : Bool, w.cell? t2 = some (.bool t6) ∧ 
  R (.returned (.bool t6)) w) : Calls Tryz.prog n_regex_spans_6 #[.i i0, .i j1, .pointer (some t2)] w R := callsX X [] h
end regex_spans_6
namespace regex_spans_7
noncomputable abbrev X : Fx := ⟨Tryz.prog, Tryz.f67, [], []⟩
theorem ok (i0 j1 : Int) (t2 t3 t4 : Addr) (w : World) (R : Post) (h : ∃ t8 : Bool, w.cell? t2 = some (.bool t8) ∧ 
  sel t8 (∃ t10 : Sl, w.cell? t3 = some (t10.v) ∧ 
  (0 : Int) ≤ i0 ∧ i0 < ((t10.n : Nat) : Int) ∧ optP t10.a fun t12_p => ∃ t13 : Sl, w.cell? (t12_p.add (Int.toNat i0 * 1)) = some (t13.v) ∧ 
  (0 : Int) ≤ j1 ∧ j1 < ((t13.n : Nat) : Int) ∧ optP t13.a fun t15_p => ∃ t16 : Bool, w.cell? (t15_p.add (Int.toNat j1 * 1)) = some (.bool t16) ∧ 
  sel t16 (∃ t19 : Sl, w.cell? t4 = some (t19.v) ∧ 
  (0 : Int) ≤ i0 ∧ i0 < ((t19.n : Nat) : Int) ∧ optP t19.a fun t21_p => ∃ t22 : Sl, w.cell? (t21_p.add (Int.toNat i0 * 1)) = some (t22.v) ∧ 
  (0 : Int) ≤ j1 ∧ j1 < ((t22.n : Nat) : Int) ∧ optP t22.a fun t24_p => ∃ t25 : Bool, w.cell? (t24_p.add (Int.toNat j1 * 1)) = some (.bool t25) ∧ 
  sel t25 (R (.returned (.bool true)) w) (∃ t28 : Bool, w.cell? t2 = some (.bool t28) ∧ 
  sel (!t28) (∃ t31 : Sl, w.cell? t3 = some (t31.v) ∧ 
  (0 : Int) ≤ i0 ∧ i0 < ((t31.n : Nat) : Int) ∧ optP t31.a fun t33_p => ∃ t34 : Sl, w.cell? (t33_p.add (Int.toNat i0 * 1)) = some (t34.v) ∧ 
  (0 : Int) ≤ j1 ∧ j1 < ((t34.n : Nat) : Int) ∧ optP t34.a fun t36_p => ∃ t37 : Bool, w.cell? (t36_p.add (Int.toNat j1 * 1)) = some (.bool t37) ∧ 
  sel t37 (R (.returned (.bool true)) w) (∃ t39 : Sl, w.cell? t4 = some (t39.v) ∧ 
  (0 : Int) ≤ i0 ∧ i0 < ((t39.n : Nat) : Int) ∧ optP t39.a fun t41_p => ∃ t42 : Sl, w.cell? (t41_p.add (Int.toNat i0 * 1)) = some (t42.v) ∧ 
  (0 : Int) ≤ j1 ∧ j1 < ((t42.n : Nat) : Int) ∧ optP t42.a fun t44_p => ∃ t45 : Bool, w.cell? (t44_p.add (Int.toNat j1 * 1)) = some (.bool t45) ∧ 
  R (.returned (.bool t45)) w)) (R (.returned (.bool false)) w))) (∃ t28_x1 : Bool, w.cell? t2 = some (.bool t28_x1) ∧ 
  sel (!t28_x1) (∃ t31_x1 : Sl, w.cell? t3 = some (t31_x1.v) ∧ 
  (0 : Int) ≤ i0 ∧ i0 < ((t31_x1.n : Nat) : Int) ∧ optP t31_x1.a fun t33_x1_p => ∃ t34_x1 : Sl, w.cell? (t33_x1_p.add (Int.toNat i0 * 1)) = some (t34_x1.v) ∧ 
  (0 : Int) ≤ j1 ∧ j1 < ((t34_x1.n : Nat) : Int) ∧ optP t34_x1.a fun t36_x1_p => ∃ t37_x1 : Bool, w.cell? (t36_x1_p.add (Int.toNat j1 * 1)) = some (.bool t37_x1) ∧ 
  sel t37_x1 (R (.returned (.bool true)) w) (∃ t39_x1 : Sl, w.cell? t4 = some (t39_x1.v) ∧ 
  (0 : Int) ≤ i0 ∧ i0 < ((t39_x1.n : Nat) : Int) ∧ optP t39_x1.a fun t41_x1_p => ∃ t42_x1 : Sl, w.cell? (t41_x1_p.add (Int.toNat i0 * 1)) = some (t42_x1.v) ∧ 
  (0 : Int) ≤ j1 ∧ j1 < ((t42_x1.n : Nat) : Int) ∧ optP t42_x1.a fun t44_x1_p => ∃ t45_x1 : Bool, w.cell? (t44_x1_p.add (Int.toNat j1 * 1)) = some (.bool t45_x1) ∧ 
  R (.returned (.bool t45_x1)) w)) (R (.returned (.bool false)) w))) (∃ t28_x2 : Bool, w.cell? t2 = some (.bool t28_x2) ∧ 
  sel (!t28_x2) (∃ t31_x2 : Sl, w.cell? t3 = some (t31_x2.v) ∧ 
  (0 : Int) ≤ i0 ∧ i0 < ((t31_x2.n : Nat) : Int) ∧ optP t31_x2.a fun t33_x2_p => ∃ t34_x2 : Sl, w.cell? (t33_x2_p.add (Int.toNat i0 * 1)) = some (t34_x2.v) ∧ 
  (0 : Int) ≤ j1 ∧ j1 < ((t34_x2.n : Nat) : Int) ∧ optP t34_x2.a fun t36_x2_p => ∃ t37_x2 : Bool, w.cell? (t36_x2_p.add (Int.toNat j1 * 1)) = some (.bool t37_x2) ∧ 
  sel t37_x2 (R (.returned (.bool true)) w) (∃ t39_x2 : Sl, w.cell? t4 = some (t39_x2.v) ∧ 
  (0 : Int) ≤ i0 ∧ i0 < ((t39_x2.n : Nat) : Int) ∧ optP t39_x2.a fun t41_x2_p => ∃ t42_x2 : Sl, w.cell? (t41_x2_p.add (Int.toNat i0 * 1)) = some (t42_x2.v) ∧ 
  (0 : Int) ≤ j1 ∧ j1 < ((t42_x2.n : Nat) : Int) ∧ optP t42_x2.a fun t44_x2_p => ∃ t45_x2 : Bool, w.cell? (t44_x2_p.add (Int.toNat j1 * 1)) = some (.bool t45_x2) ∧ 
  R (.returned (.bool t45_x2)) w)) (R (.returned (.bool false)) w))) : Calls Tryz.prog n_regex_spans_7 #[.i i0, .i j1, .pointer (some t2), .pointer (some t3), .pointer (some t4)] w R := callsX X [] h
end regex_spans_7
namespace regex_spans_8
noncomputable abbrev X : Fx := ⟨Tryz.prog, Tryz.f68, [], []⟩
theorem ok (i0 j1 : Int) (t2 : Addr) (w : World) (R : Post) (h : ∃ t6 : Sl, w.cell? t2 = some (t6.v) ∧ 
  (0 : Int) ≤ i0 ∧ i0 < ((t6.n : Nat) : Int) ∧ optP t6.a fun t8_p => ∃ t9 : Sl, w.cell? (t8_p.add (Int.toNat i0 * 1)) = some (t9.v) ∧ 
  (0 : Int) ≤ j1 ∧ j1 < ((t9.n : Nat) : Int) ∧ optP t9.a fun t11_p => ∃ t12 : Bool, w.cell? (t11_p.add (Int.toNat j1 * 1)) = some (.bool t12) ∧ 
  R (.returned (.bool (!t12))) w) : Calls Tryz.prog n_regex_spans_8 #[.i i0, .i j1, .pointer (some t2)] w R := callsX X [] h
end regex_spans_8
namespace regex_repeated_1
noncomputable abbrev X : Fx := ⟨Tryz.prog, Tryz.f83, [], []⟩
theorem ok (i0 j1 : Int) (w : World) (R : Post) (h : R (.returned (.bool (i0 == j1))) w) : Calls Tryz.prog n_regex_repeated_1 #[.i i0, .i j1] w R := callsX X [] h
end regex_repeated_1
namespace regex_repeated
noncomputable abbrev X : Fx := ⟨Tryz.prog, Tryz.f69, [(11,[0,1,2,3,4,5,6,7,8,9,10,11,12,13,14,15,16,17,18,19,20,21,22])], []⟩
abbrev P0 : Ps := [(0, .v [.s]), (1, .v [.st]), (5, .v [.s]), (6, .v [.I])]
def L0 (a0 : Sl) (s1 : ByteArray) (t5 : Sl) (i6 : Int) (w : World) (R : Post) : Prop := mkCur P0 0 (X.Sem (pth [0, 1, 1, 1, 2])) a0 s1 t5 i6 w R
noncomputable def eL0 := entL X (pth [0, 1, 1, 1, 2]) P0 L0
abbrev P1 : Ps := [(0, .v [.s]), (1, .v [.st]), (5, .v [.s]), (6, .v [.I]), (7, .v [.I])]
def L1 (a0 : Sl) (s1 : ByteArray) (t5 : Sl) (i6 j7 : Int) (w : World) (R : Post) : Prop := mkCur P1 0 (X.Sem (pth [0, 1, 1, 2, 1, 2, 1, 1, 2])) a0 s1 t5 i6 j7 w R
noncomputable def eL1 := entL X (pth [0, 1, 1, 2, 1, 2, 1, 1, 2]) P1 L1
abbrev P2 : Ps := [(0, .v [.s]), (1, .v [.st]), (5, .v [.s]), (6, .v [.I]), (7, .v [.I]), (8, .v [.I])]
def L2 (a0 : Sl) (s1 : ByteArray) (t5 : Sl) (i6 j7 m8 : Int) (w : World) (R : Post) : Prop := mkCur P2 0 (X.Sem (pth [0, 1, 1, 2, 1, 2, 1, 2, 1, 2, 1, 1, 2])) a0 s1 t5 i6 j7 m8 w R
noncomputable def eL2 := entL X (pth [0, 1, 1, 2, 1, 2, 1, 2, 1, 2, 1, 1, 2]) P2 L2
abbrev S3 (a0 : Sl) (s1 : ByteArray) (t5 : Sl) (i6 j7 m8 : Int) (w : World) (R : Post) : Prop :=
  L2 a0 s1 t5 i6 j7 (IntKind.wrap .i64 (m8 + 1)) w R
noncomputable def eS3 := entS X [eL2, eL1, eL0] (pth [2, 2, 1, 2, 1, 2, 1, 2, 1, 2, 1, 1, 2]) P2 S3
abbrev S4 (a0 : Sl) (s1 : ByteArray) (t5 : Sl) (i6 j7 : Int) (w : World) (R : Post) : Prop :=
  L1 a0 s1 t5 i6 (IntKind.wrap .i64 (j7 + 1)) w R
noncomputable def eS4 := entS X [eS3, eL2, eL1, eL0] (pth [2, 2, 1, 2, 1, 2, 1, 1, 2]) P1 S4
theorem L2_step : ∀ (a0 : Sl) (s1 : ByteArray) (t5 : Sl) (i6 j7 m8 : Int) (w : World) (R : Post) (h : sel (decide (m8 ≤ j7)) ((0 : Int) ≤ i6 ∧ i6 < ((t5.n : Nat) : Int) ∧ optP t5.a fun t34_p => ∃ t35 : Sl, w.cell? (t34_p.add (Int.toNat i6 * 1)) = some (t35.v) ∧ 
  (0 : Int) ≤ j7 ∧ j7 < ((t35.n : Nat) : Int) ∧ optP t35.a fun t37_p => ∃ t38 : Bool, w.cell? (t37_p.add (Int.toNat j7 * 1)) = some (.bool t38) ∧ 
  sel (!t38) (drV w fun w2 => (0 : Int) ≤ i6 ∧ i6 < ((t5.n : Nat) : Int) ∧ optP t5.a fun t45_p => ∃ t46 : Sl, w2.cell? (t45_p.add (Int.toNat i6 * 1)) = some (t46.v) ∧ 
  (0 : Int) ≤ i6 ∧ i6 < ((a0.n : Nat) : Int) ∧ optP a0.a fun t50_p => ∃ t51 : Sl, w2.cell? (t50_p.add (Int.toNat i6 * 1)) = some (t51.v) ∧ 
  (0 : Int) ≤ m8 ∧ m8 < ((t51.n : Nat) : Int) ∧ optP t51.a fun t53_p => ∃ t54 : Bool, w2.cell? (t53_p.add (Int.toNat m8 * 1)) = some (.bool t54) ∧ 
  sel t54 ((0 : Int) ≤ m8 ∧ m8 < ((t5.n : Nat) : Int) ∧ optP t5.a fun t58_p => ∃ t59 : Sl, w2.cell? (t58_p.add (Int.toNat m8 * 1)) = some (t59.v) ∧ 
  (0 : Int) ≤ j7 ∧ j7 < ((t59.n : Nat) : Int) ∧ optP t59.a fun t61_p => ∃ t62 : Bool, w2.cell? (t61_p.add (Int.toNat j7 * 1)) = some (.bool t62) ∧ 
  (0 : Int) ≤ j7 ∧ j7 < ((t46.n : Nat) : Int) ∧ optP t46.a fun t64_p => stV w2 (t64_p.add (Int.toNat j7 * 1)) (.bool t62) fun w3 => 
  S3 a0 s1 t5 i6 j7 m8 w3 R) ((0 : Int) ≤ j7 ∧ j7 < ((t46.n : Nat) : Int) ∧ optP t46.a fun t64_x1_p => stV w2 (t64_x1_p.add (Int.toNat j7 * 1)) (.bool false) fun w4 => 
  S3 a0 s1 t5 i6 j7 m8 w4 R)) (S4 a0 s1 t5 i6 j7 w R)) (S4 a0 s1 t5 i6 j7 w R)), L2 a0 s1 t5 i6 j7 m8 w R := mp (stepL (X := X) [eS4, eS3, eL2, eL1, eL0] (pth [0, 1, 1, 2, 1, 2, 1, 2, 1, 2, 1, 1, 2]) P2)
theorem L1_step : ∀ (a0 : Sl) (s1 : ByteArray) (t5 : Sl) (i6 j7 : Int) (w : World) (R : Post) (h : sel (decide (j7 ≤ ((s1.size : Nat) : Int))) (L2 a0 s1 t5 i6 j7 (IntKind.wrap .i64 (i6 + 1)) w R) (L0 a0 s1 t5 (IntKind.wrap .i64 (i6 - 1)) w R)), L1 a0 s1 t5 i6 j7 w R := mp (stepL (X := X) [eS4, eS3, eL2, eL1, eL0] (pth [0, 1, 1, 2, 1, 2, 1, 1, 2]) P1)
theorem L0_step : ∀ (a0 : Sl) (s1 : ByteArray) (t5 : Sl) (i6 : Int) (w : World) (R : Post) (h : sel (decide (i6 ≥ 0)) (L1 a0 s1 t5 i6 (IntKind.wrap .i64 (i6 + 1)) w R) (R (.returned (t5.v)) w)), L0 a0 s1 t5 i6 w R := mp (stepL (X := X) [eS4, eS3, eL2, eL1, eL0] (pth [0, 1, 1, 1, 2]) P0)
theorem ok (a0 : Sl) (s1 : ByteArray) (w : World) (R : Post) (h : ca3 n_regex_table #[.string s1, .func (.func n_regex_repeated_1) #[] #[]] w fun t10 w1 => L0 a0 s1 t10 (IntKind.wrap .i64 (((s1.size : Nat) : Int) - 1)) w1 R) : Calls Tryz.prog n_regex_repeated #[a0.v, .string s1] w R := callsX X [eS4, eS3, eL2, eL1, eL0] h
end regex_repeated
namespace regex_spans
noncomputable def C0 : Code := (Tryz.f37.body).getD .skip
noncomputable def C1:=C0.sn
noncomputable def C2:=C1.fs
noncomputable def C3:=C2.sn
noncomputable def C4:=C3.fs
noncomputable def C5:=C4.sn
noncomputable def C6:=C5.sn
noncomputable def C7:=C6.sn
noncomputable def C8:=C7.sn
noncomputable def C9:=C8.sn
noncomputable def C10:=C9.sn
noncomputable def C11:=C10.sn
noncomputable def C12:=C11.fs
noncomputable def C13:=C12.sn
noncomputable def C14:=C13.fs
noncomputable def C15:=C14.sn
noncomputable def C16:=C15.fs
noncomputable def C17:=C16.fs
noncomputable def C18:=C1.sn
abbrev Q0 (R : Post) : ExP := (Exit.then (wpx Tryz.prog (cx 96) C18 (bodyPost Tryz.prog Tryz.f37 R)) (bodyPost Tryz.prog Tryz.f37 R))
noncomputable def C19:=C13.sn
abbrev Q1 (R : Post) : ExP := (Exit.then (wpx Tryz.prog (cx 96) C19 (Exit.inBlock 0 (Q0 R))) (Exit.inBlock 0 (Q0 R)))
abbrev Q2 (R : Post) : ExP := (Exit.inBlock 1 (Q1 R))
/-- the head of the loop, regex.go:279 -/
def L0 (s3 : Addr) (t5 t37 : Sl) (t38 t39 : Int) (w : World) (R : Post) : Prop := LP Tryz.prog (cx 96) C17 (Q2 R) [(3, .pointer (some s3)), (5, t5.v), (37, t37.v), (38, .i t38), (39, .i t39)] w
def KE_L0 (E : Env) (w : World) (R : Post) : Prop := W.asRef (Env.get? E 3) fun s3 => W.asSlice (Env.get? E 5) fun t5 => W.asSlice (Env.get? E 37) fun t37 => W.asInt .i64 (Env.get? E 38) fun t38 => W.asInt .i64 (Env.get? E 39) fun t39 => L0 s3 t5 t37 t38 t39 w R
theorem KE_L0_ok : LOk Tryz.prog 96 KE_L0 C17 Q2 := by
  intro R E w h
  obtain ⟨s3, hq3, h_1⟩ := W.asRef_elim h
  obtain ⟨t5, hq5, h_2⟩ := W.asSlice_elim h_1
  obtain ⟨t37, hq37, h_3⟩ := W.asSlice_elim h_2
  obtain ⟨t38, hq38, h_4⟩ := W.asInt_elim h_3
  obtain ⟨t39, hq39, h_5⟩ := W.asInt_elim h_4
  intro a ha
  exact h_5 a (ha.cons hq3 (ha.cons hq5 (ha.cons hq37 (ha.cons hq38 (ha.cons hq39 ha.nil)))))
noncomputable def C20:=C17.sn
noncomputable def C21:=C20.sn
noncomputable def C22:=C21.fs
noncomputable def C23:=C22.fs
noncomputable def C24:=C23.sn
noncomputable def C25:=C24.sn
noncomputable def C26:=C21.sn
noncomputable def C27:=C20.fs
noncomputable def C28:=C27.fs
noncomputable def C29:=C27.sn
noncomputable def C30:=C19.sn
theorem L0_step (s3 : Addr) (t5 t37 : Sl) (t38 t39 : Int) (w : World) (R : Post) (h : sel (decide (t39 < t38)) ((0 : Int) ≤ t39 ∧ t39 < ((t37.n : Nat) : Int) ∧ optP t37.a fun t41_p => ld4_0 w (t41_p.add (Int.toNat t39 * 4)) fun t42_0 t42_1 t42_2 t42_3 => nwV w (.cells #[.i 0, .int .u8 0, .int .u8 0, .slice none 0 0] ty_regex_Regex) fun w7 => 
  stW4 w7 (nb w) (.i t42_0) (.int .u8 t42_1) (.int .u8 t42_2) (t42_3.v) fun w11 => ld4_0 w11 (nb w) fun t44_0 t44_1 t44_2 t44_3 => ∃ t45 : ByteArray, w11.cell? s3 = some (.string t45) ∧ 
  ca3 n_regex_spans #[.agg #[.i t44_0, .int .u8 t44_1, .int .u8 t44_2, t44_3.v], .string t45] w11 fun t46 w12 => nwV w12 (.cells #[.slice none 0 0] ty_sl_sl_bool) fun w13 => 
  nwV w13 (.cells #[.slice none 0 0] ty_sl_sl_bool) fun w14 => 
  stV w14 (nb w12) (t5.v) fun w15 => 
  stV w15 (nb w13) (t46.v) fun w16 => 
  ∃ t47 : ByteArray, w16.cell? s3 = some (.string t47) ∧ 
  ca3 n_regex_table #[.string t47, .func (.func n_regex_spans_5) #[] #[.pointer (some (nb w12)), .pointer (some (nb w13))]] w16 fun t49 w17 => L0 s3 t49 t37 t38 (IntKind.wrap .i64 (t39 + 1)) w17 R) (R (.returned (t5.v)) w)) : L0 s3 t5 t37 t38 t39 w R :=
  LP.step (n := (cx 96)) (c := C17) (E := [(3, .pointer (some s3)), (5, t5.v), (37, t37.v), (38, .i t38), (39, .i t39)]) (w := w) (sr C17 (show (fun (E : Env) (w : World) => srK Tryz.prog C17 (fun E w => condK (Env.val E (.tmp 40)) (srK Tryz.prog C23 (fun E w => srK Tryz.prog C24 (fun E w => rgK Tryz.prog C25 (fun E w => rgK Tryz.prog C26 (fun E w => KE_L0 E w R) E w) E w) E w) E w) (srK Tryz.prog C19 (fun E w => retVC Tryz.prog Tryz.f37 E w (fun v => R (.returned v) w)) E w)) E w) [(3, .pointer (some s3)), (5, t5.v), (37, t37.v), (38, .i t38), (39, .i t39)] w from mp h) fun _ _ hK => (sq C20 (cn C27 hK (fun hK => (sk C28 fun a hA => nx hA (sq C21 (bk C22 2 (by kernel_rfl) (sr C23 hK fun _ _ hK => (sr C24 hK fun _ _ hK => (rg C25 (by kernel_rfl) hK fun _ _ a hA hK => nx hA (rg C26 (by kernel_rfl) hK fun _ _ a hA hK => KE_L0_ok R _ _ hK a hA)))))))) (fun hK => (xt C29 1 (by kernel_rfl) fun a hA => nx hA (sr C19 hK fun _ _ hK => (rt C30 fun a hA => retVC_sound hA hK)))))))
noncomputable def C31:=C11.sn
noncomputable def C32:=C31.sn
noncomputable def C33:=C32.fs
noncomputable def C34:=C33.sn
noncomputable def C35:=C34.sn
noncomputable def C36:=C35.fs
noncomputable def C37:=C36.sn
noncomputable def C38:=C37.fs
noncomputable def C39:=C38.fs
noncomputable def C40:=C35.sn
abbrev Q3 (R : Post) : ExP := (Exit.then (wpx Tryz.prog (cx 96) C40 (Exit.inBlock 0 (Q0 R))) (Exit.inBlock 0 (Q0 R)))
abbrev Q4 (R : Post) : ExP := (Exit.inBlock 3 (Q3 R))
/-- the head of the loop, regex.go:287 -/
def L2 (s3 all10 : Addr) (t11 t62 : Sl) (t63 t64 : Int) (w : World) (R : Post) : Prop := LP Tryz.prog (cx 96) C39 (Q4 R) [(3, .pointer (some s3)), (10, .pointer (some all10)), (11, t11.v), (62, t62.v), (63, .i t63), (64, .i t64)] w
def KE_L2 (E : Env) (w : World) (R : Post) : Prop := W.asRef (Env.get? E 3) fun s3 => W.asRef (Env.get? E 10) fun all10 => W.asSlice (Env.get? E 11) fun t11 => W.asSlice (Env.get? E 62) fun t62 => W.asInt .i64 (Env.get? E 63) fun t63 => W.asInt .i64 (Env.get? E 64) fun t64 => L2 s3 all10 t11 t62 t63 t64 w R
theorem KE_L2_ok : LOk Tryz.prog 96 KE_L2 C39 Q4 := by
  intro R E w h
  obtain ⟨s3, hq3, h_1⟩ := W.asRef_elim h
  obtain ⟨all10, hq10, h_2⟩ := W.asRef_elim h_1
  obtain ⟨t11, hq11, h_3⟩ := W.asSlice_elim h_2
  obtain ⟨t62, hq62, h_4⟩ := W.asSlice_elim h_3
  obtain ⟨t63, hq63, h_5⟩ := W.asInt_elim h_4
  obtain ⟨t64, hq64, h_6⟩ := W.asInt_elim h_5
  intro a ha
  exact h_6 a (ha.cons hq3 (ha.cons hq10 (ha.cons hq11 (ha.cons hq62 (ha.cons hq63 (ha.cons hq64 ha.nil))))))
noncomputable def C41:=C39.sn
noncomputable def C42:=C41.sn
noncomputable def C43:=C42.fs
noncomputable def C44:=C43.fs
noncomputable def C45:=C44.sn
noncomputable def C46:=C45.sn
noncomputable def C47:=C42.sn
noncomputable def C48:=C41.fs
noncomputable def C49:=C48.fs
noncomputable def C50:=C48.sn
noncomputable def C51:=C40.sn
theorem L2_step (s3 all10 : Addr) (t11 t62 : Sl) (t63 t64 : Int) (w : World) (R : Post) (h : sel (decide (t64 < t63)) ((0 : Int) ≤ t64 ∧ t64 < ((t62.n : Nat) : Int) ∧ optP t62.a fun t66_p => ld4_0 w (t66_p.add (Int.toNat t64 * 4)) fun t67_0 t67_1 t67_2 t67_3 => nwV w (.cells #[.i 0, .int .u8 0, .int .u8 0, .slice none 0 0] ty_regex_Regex) fun w4 => 
  stW4 w4 (nb w) (.i t67_0) (.int .u8 t67_1) (.int .u8 t67_2) (t67_3.v) fun w8 => ld4_0 w8 (nb w) fun t69_0 t69_1 t69_2 t69_3 => ∃ t70 : ByteArray, w8.cell? s3 = some (.string t70) ∧ 
  ca3 n_regex_spans #[.agg #[.i t69_0, .int .u8 t69_1, .int .u8 t69_2, t69_3.v], .string t70] w8 fun t71 w9 => nwV w9 (.cells #[.slice none 0 0] ty_sl_sl_bool) fun w10 => 
  nwV w10 (.cells #[.slice none 0 0] ty_sl_sl_bool) fun w11 => 
  stV w11 (nb w9) (t11.v) fun w12 => 
  stV w12 (nb w10) (t71.v) fun w13 => 
  ∃ t72 : ByteArray, w13.cell? s3 = some (.string t72) ∧ 
  ca3 n_regex_table #[.string t72, .func (.func n_regex_spans_7) #[] #[.pointer (some all10), .pointer (some (nb w9)), .pointer (some (nb w10))]] w13 fun t74 w14 => L2 s3 all10 t74 t62 t63 (IntKind.wrap .i64 (t64 + 1)) w14 R) (R (.returned (t11.v)) w)) : L2 s3 all10 t11 t62 t63 t64 w R :=
  LP.step (n := (cx 96)) (c := C39) (E := [(3, .pointer (some s3)), (10, .pointer (some all10)), (11, t11.v), (62, t62.v), (63, .i t63), (64, .i t64)]) (w := w) (sr C39 (show (fun (E : Env) (w : World) => srK Tryz.prog C39 (fun E w => condK (Env.val E (.tmp 65)) (srK Tryz.prog C44 (fun E w => srK Tryz.prog C45 (fun E w => rgK Tryz.prog C46 (fun E w => rgK Tryz.prog C47 (fun E w => KE_L2 E w R) E w) E w) E w) E w) (srK Tryz.prog C40 (fun E w => retVC Tryz.prog Tryz.f37 E w (fun v => R (.returned v) w)) E w)) E w) [(3, .pointer (some s3)), (10, .pointer (some all10)), (11, t11.v), (62, t62.v), (63, .i t63), (64, .i t64)] w from mp h) fun _ _ hK => (sq C41 (cn C48 hK (fun hK => (sk C49 fun a hA => nx hA (sq C42 (bk C43 4 (by kernel_rfl) (sr C44 hK fun _ _ hK => (sr C45 hK fun _ _ hK => (rg C46 (by kernel_rfl) hK fun _ _ a hA hK => nx hA (rg C47 (by kernel_rfl) hK fun _ _ a hA hK => KE_L2_ok R _ _ hK a hA)))))))) (fun hK => (xt C50 3 (by kernel_rfl) fun a hA => nx hA (sr C40 hK fun _ _ hK => (rt C51 fun a hA => retVC_sound hA hK)))))))
abbrev Q5 (R : Post) : ExP := (Exit.inBlock 0 (Q0 R))
/-- regex.go:285 -/
abbrev S1 (r2 s3 : Addr) (w : World) (R : Post) : Prop :=
  ∃ t56 : Int, w.cell? (r2.add 0) = some (.i t56) ∧ 
  nwV w (.cells #[.bool false] ty_bool) fun w1 => 
  stV w1 (nb w) (.bool (t56 == 5)) fun w2 => 
  ∃ t58 : ByteArray, w2.cell? s3 = some (.string t58) ∧ 
  ca3 n_regex_table #[.string t58, .func (.func n_regex_spans_6) #[] #[.pointer (some (nb w))]] w2 fun t60 w3 => ∃ t62 : Sl, w3.cell? (r2.add 3) = some (t62.v) ∧ 
  L2 s3 (nb w) t60 t62 ((t62.n : Nat) : Int) 0 w3 R
def KE_S1 (E : Env) (w : World) (R : Post) : Prop := W.asRef (Env.get? E 2) fun r2 => W.asRef (Env.get? E 3) fun s3 => S1 r2 s3 w R
theorem KE_S1_ok : KOk Tryz.prog 96 KE_S1 C33 Q5 := by
  intro R E w h
  obtain ⟨r2, hq2, h_1⟩ := W.asRef_elim h
  obtain ⟨s3, hq3, h_2⟩ := W.asRef_elim h_1
  exact fun a ha => WP.at (E := [(2, .pointer (some r2)), (3, .pointer (some s3))]) (sr C33 (K := fun E w => srK Tryz.prog C34 (fun E w => srK Tryz.prog C36 (fun E w => KE_L2 E w R) E w) E w) (mp h_2) fun _ _ hK => (sr C34 hK fun _ _ hK => (sq C35 (sr C36 hK fun _ _ hK => (bk C37 3 (by kernel_rfl) (lp C38 (by kernel_rfl) (KE_L2_ok R _ _ hK))))))) (ha.cons hq2 (ha.cons hq3 ha.nil))
noncomputable def C52:=C32.sn
noncomputable def C53:=C52.sn
noncomputable def C54:=C53.fs
noncomputable def C55:=C54.sn
noncomputable def C56:=C55.sn
/-- regex.go:294 -/
abbrev S4 (s3 a16 : Addr) (w : World) (R : Post) : Prop :=
  ∃ t85 : ByteArray, w.cell? s3 = some (.string t85) ∧ 
  ca3 n_regex_table #[.string t85, .func (.func n_regex_spans_8) #[] #[.pointer (some a16)]] w fun t87 w1 => R (.returned (t87.v)) w1
def KE_S4 (E : Env) (w : World) (R : Post) : Prop := W.asRef (Env.get? E 3) fun s3 => W.asRef (Env.get? E 16) fun a16 => S4 s3 a16 w R
theorem KE_S4_ok : KOk Tryz.prog 96 KE_S4 C55 Q5 := by
  intro R E w h
  obtain ⟨s3, hq3, h_1⟩ := W.asRef_elim h
  obtain ⟨a16, hq16, h_2⟩ := W.asRef_elim h_1
  exact fun a ha => WP.at (E := [(3, .pointer (some s3)), (16, .pointer (some a16))]) (sr C55 (K := fun E w => retVC Tryz.prog Tryz.f37 E w (fun v => R (.returned v) w)) (mp h_2) fun _ _ hK => (rt C56 fun a hA => retVC_sound hA hK)) (ha.cons hq3 (ha.cons hq16 ha.nil))
noncomputable def C57:=C53.sn
noncomputable def C58:=C18.sn
/-- regex.go:292 -/
abbrev S3 (r2 s3 : Addr) (t18 : Int) (w : World) (R : Post) : Prop :=
  sel (t18 == 6) (drV w fun w1 => ∃ t80 : Sl, w1.cell? (r2.add 3) = some (t80.v) ∧ 
  (0 : Int) ≤ 0 ∧ 0 < ((t80.n : Nat) : Int) ∧ optP t80.a fun t81_p => ld4_0 w1 (t81_p.add (Int.toNat 0 * 4)) fun t82_0 t82_1 t82_2 t82_3 => ∃ t83 : ByteArray, w1.cell? s3 = some (.string t83) ∧ 
  ((ca3 n_regex_spans #[.agg #[.i t82_0, .int .u8 t82_1, .int .u8 t82_2, t82_3.v], .string t83] w1 fun t84 w2 => nwV w2 (.cells #[.slice none 0 0] ty_sl_sl_bool) fun w3 => 
  stV w3 (nb w2) (t84.v) fun w4 => 
  S4 s3 (nb w2) w4 R) ∧ (nwV w1 (.cells #[.slice none 0 0] ty_sl_sl_bool) fun w5 => 
  w5.cell? s3 = some (.string t83) ∧ hdW4 w5 (t81_p.add (Int.toNat 0 * 4)) (.i t82_0) (.int .u8 t82_1) (.int .u8 t82_2) (t82_3.v) fun _ => w5.cell? (r2.add 3) = some (t80.v) ∧ ca3 n_regex_spans #[.agg #[.i t82_0, .int .u8 t82_1, .int .u8 t82_2, t82_3.v], .string t83] w5 fun t84_x1 w6 => stV w6 (nb w1) (t84_x1.v) fun w7 => 
  S4 s3 (nb w1) w7 R))) (drV w fun w8 => ∃ t89 : Sl, w8.cell? (r2.add 3) = some (t89.v) ∧ 
  (0 : Int) ≤ 0 ∧ 0 < ((t89.n : Nat) : Int) ∧ optP t89.a fun t90_p => ld4_0 w8 (t90_p.add (Int.toNat 0 * 4)) fun t91_0 t91_1 t91_2 t91_3 => ∃ t92 : ByteArray, w8.cell? s3 = some (.string t92) ∧ 
  ∃ t94 : ByteArray, w8.cell? s3 = some (.string t94) ∧ 
  ca3 n_regex_spans #[.agg #[.i t91_0, .int .u8 t91_1, .int .u8 t91_2, t91_3.v], .string t92] w8 fun t93 w9 => w9.cell? s3 = some (.string t94) ∧ ca3 n_regex_repeated #[t93.v, .string t94] w9 fun t95 w10 => R (.returned (t95.v)) w10)
def KE_S3 (E : Env) (w : World) (R : Post) : Prop := W.asRef (Env.get? E 2) fun r2 => W.asRef (Env.get? E 3) fun s3 => W.asInt .i64 (Env.get? E 18) fun t18 => S3 r2 s3 t18 w R
theorem KE_S3_ok : KOk Tryz.prog 96 KE_S3 C52 Q5 := by
  intro R E w h
  obtain ⟨r2, hq2, h_1⟩ := W.asRef_elim h
  obtain ⟨s3, hq3, h_2⟩ := W.asRef_elim h_1
  obtain ⟨t18, hq18, h_3⟩ := W.asInt_elim h_2
  exact fun a ha => WP.at (E := [(2, .pointer (some r2)), (3, .pointer (some s3)), (18, .i t18)]) (sr C52 (K := fun E w => condK (Env.val E (.tmp 77)) (stK Tryz.prog C54 (.one 0 (.one 1 (.one 2 (.one 3 (.one 4 (.fork (.one 5 (.one 6 (.one 7 .nil))) (.one 6 (.one 5 (.one 7 .nil))))))))) (fun E w => KE_S4 E w R) E w) (sdK Tryz.prog C18 [0, 1, 2, 3, 4, 6, 5, 7, 8] (fun E w => retVC Tryz.prog Tryz.f37 E w (fun v => R (.returned v) w)) E w)) (mp h_3) fun _ _ hK => (cn C53 hK (fun hK => (st C54 (by kernel_rfl) hK fun _ _ hK => (KE_S4_ok R _ _ hK))) (fun hK => (sk C57 fun a hA => nx hA (sd C18 (by kernel_rfl) hK fun _ _ hK => (rt C58 fun a hA => retVC_sound hA hK)))))) (ha.cons hq2 (ha.cons hq3 (ha.cons hq18 ha.nil)))
/-- enthymeme/regex.spans -/
noncomputable def C59:=C5.fs
noncomputable def C60:=C7.fs
noncomputable def C61:=C9.fs
noncomputable def C62:=C31.fs
noncomputable def C63:=C62.sn
noncomputable def C64:=C63.sn
noncomputable def C65:=C59.sn
noncomputable def C66:=C60.sn
noncomputable def C67:=C61.sn
noncomputable def C68:=C63.fs
theorem ok (r0_0 r0_1 r0_2 : Int) (r0_3 : Sl) (s1 : ByteArray) (w : World) (R : Post) (h : nwV w (.cells #[.i r0_0, .int .u8 r0_1, .int .u8 r0_2, r0_3.v] ty_regex_Regex) fun w1 => 
  nwV w1 (.cells #[.string s1] ty_string) fun w2 => 
  ∃ t18 : Int, w2.cell? ((nb w).add 0) = some (.i t18) ∧ 
  sel (t18 == 0) (∃ t21 : ByteArray, w2.cell? (nb w1) = some (.string t21) ∧ 
  ca3 n_regex_table #[.string t21, .func (.func n_regex_spans_1) #[] #[]] w2 fun t22 w3 => R (.returned (t22.v)) w3) (sel (t18 == 1) (∃ t25 : ByteArray, w2.cell? (nb w1) = some (.string t25) ∧ 
  ca3 n_regex_table #[.string t25, .func (.func n_regex_spans_2) #[] #[]] w2 fun t26 w4 => R (.returned (t26.v)) w4) (sel (t18 == 2) (∃ t29 : ByteArray, w2.cell? (nb w1) = some (.string t29) ∧ 
  ca3 n_regex_table #[.string t29, .func (.func n_regex_spans_3) #[] #[.pointer (some (nb w)), .pointer (some (nb w1))]] w2 fun t31 w5 => R (.returned (t31.v)) w5) (sel (t18 == 3) (∃ t34 : ByteArray, w2.cell? (nb w1) = some (.string t34) ∧ 
  ca3 n_regex_table #[.string t34, .func (.func n_regex_spans_4) #[] #[]] w2 fun t35 w6 => ∃ t37 : Sl, w6.cell? ((nb w).add 3) = some (t37.v) ∧ 
  L0 (nb w1) t35 t37 ((t37.n : Nat) : Int) 0 w6 R) (sel (t18 == 4) (sel (t18 == 4) (S1 (nb w) (nb w1) w2 R) (S3 (nb w) (nb w1) t18 w2 R)) (sel (t18 == 5) (S1 (nb w) (nb w1) w2 R) (S3 (nb w) (nb w1) t18 w2 R))))))) : Calls Tryz.prog n_regex_spans #[.agg #[.i r0_0, .int .u8 r0_1, .int .u8 r0_2, r0_3.v], .string s1] w R :=
  calls_of_WP' (R := R) (fn := Tryz.f37) (c := C0) (args := [.agg #[.i r0_0, .int .u8 r0_1, .int .u8 r0_2, r0_3.v], .string s1]) (by kernel_rfl) (by kernel_rfl) (by kernel_rfl) (sr C0 (show (fun (E : Env) (w : World) => srK Tryz.prog C0 (fun E w => srK Tryz.prog C2 (fun E w => srK Tryz.prog C4 (fun E w => condK (Env.val E (.tmp 19)) (srK Tryz.prog C59 (fun E w => retVC Tryz.prog Tryz.f37 E w (fun v => R (.returned v) w)) E w) (srK Tryz.prog C6 (fun E w => condK (Env.val E (.tmp 23)) (srK Tryz.prog C60 (fun E w => retVC Tryz.prog Tryz.f37 E w (fun v => R (.returned v) w)) E w) (srK Tryz.prog C8 (fun E w => condK (Env.val E (.tmp 27)) (srK Tryz.prog C61 (fun E w => retVC Tryz.prog Tryz.f37 E w (fun v => R (.returned v) w)) E w) (srK Tryz.prog C10 (fun E w => condK (Env.val E (.tmp 32)) (srK Tryz.prog C12 (fun E w => srK Tryz.prog C14 (fun E w => KE_L0 E w R) E w) E w) (srK Tryz.prog C62 (fun E w => condK (Env.val E (.tmp 52)) (condK (Env.val E (.tmp 52)) (KE_S1 E w R) (KE_S3 E w R)) (rgK Tryz.prog C64 (fun E w => condK (Env.val E (.tmp 52)) (KE_S1 E w R) (KE_S3 E w R)) E w)) E w)) E w)) E w)) E w)) E w) E w) E w) (envOf 0 [.agg #[.i r0_0, .int .u8 r0_1, .int .u8 r0_2, r0_3.v], .string s1]) w from mp h) fun _ _ hK => (sq C1 (sr C2 hK fun _ _ hK => (bk C3 0 (by kernel_rfl) (sr C4 hK fun _ _ hK => (cn C5 hK (fun hK => (sr C59 hK fun _ _ hK => (rt C65 fun a hA => retVC_sound hA hK))) (fun hK => (sr C6 hK fun _ _ hK => (cn C7 hK (fun hK => (sr C60 hK fun _ _ hK => (rt C66 fun a hA => retVC_sound hA hK))) (fun hK => (sr C8 hK fun _ _ hK => (cn C9 hK (fun hK => (sr C61 hK fun _ _ hK => (rt C67 fun a hA => retVC_sound hA hK))) (fun hK => (sr C10 hK fun _ _ hK => (cn C11 hK (fun hK => (sr C12 hK fun _ _ hK => (sq C13 (sr C14 hK fun _ _ hK => (bk C15 1 (by kernel_rfl) (lp C16 (by kernel_rfl) (KE_L0_ok R _ _ hK))))))) (fun hK => (sq C31 (sr C62 hK fun _ _ hK => (cn C63 hK (fun hK => (sk C68 fun a hA => nx hA (cn C32 hK (fun hK => (KE_S1_ok R _ _ hK)) (fun hK => (KE_S3_ok R _ _ hK))))) (fun hK => (rg C64 (by kernel_rfl) hK fun _ _ a hA hK => nx hA (cn C32 hK (fun hK => (KE_S1_ok R _ _ hK)) (fun hK => (KE_S3_ok R _ _ hK))))))))))))))))))))))))
end regex_spans
namespace regex_Match
noncomputable abbrev X : Fx := ⟨Tryz.prog, Tryz.f16, [], [2]⟩
theorem okT (r0_0 r0_1 r0_2 : Int) (r0_3 : Sl) (s1 : ByteArray) (w : World) (R : Post) (h : newV [] w fun b2 w1 => 
  cf0 [b2] n_regex_Valid #[.agg #[.i r0_0, .int .u8 r0_1, .int .u8 r0_2, r0_3.v]] w1 fun t8 w2 => sel (t8 != 0) (R (.returned (.tuple #[.bool false, .i t8])) w2) (sel (decide (((s1.size : Nat) : Int) > 64)) (R (.returned (.tuple #[.bool false, .i 4])) w2) (cf3 [b2] n_regex_spans #[.agg #[.i r0_0, .int .u8 r0_1, .int .u8 r0_2, r0_3.v], .string s1] w2 fun t17 w3 => (0 : Int) ≤ 0 ∧ 0 < ((t17.n : Nat) : Int) ∧ optP t17.a fun t18_p => ∃ t19 : Sl, w3.cell? (t18_p.add (Int.toNat 0 * 1)) = some (t19.v) ∧ 
  (0 : Int) ≤ ((s1.size : Nat) : Int) ∧ ((s1.size : Nat) : Int) < ((t19.n : Nat) : Int) ∧ optP t19.a fun t22_p => ∃ t23 : Bool, w3.cell? (t22_p.add (Int.toNat ((s1.size : Nat) : Int) * 1)) = some (.bool t23) ∧ 
  R (.returned (.tuple #[.bool t23, .i 0])) w3))) : Calls Tryz.prog n_regex_Match #[.agg #[.i r0_0, .int .u8 r0_1, .int .u8 r0_2, r0_3.v], .string s1] w R := callsX X [] h
end regex_Match
end Go.Proofs.YtknlbofiicflgaaGreat
