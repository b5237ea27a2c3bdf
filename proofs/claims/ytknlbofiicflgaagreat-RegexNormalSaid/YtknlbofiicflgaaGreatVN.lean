/- Printed by a program of ours (vcgen.py) from the dump: the conditions of the functions, and that they suffice. -/
import Derived.Test.YtknlbofiicflgaaGreatVD
set_option linter.unusedVariables false
set_option maxRecDepth 100000
set_option maxHeartbeats 2000000
namespace Go.Proofs.YtknlbofiicflgaaGreat
open Go Go.W
namespace regex_flat_1
noncomputable abbrev X : Fx := ⟨Tryz.prog, Tryz.f77, [], [2]⟩
theorem okT (k0_0 k0_1 k0_2 : Int) (k0_3 : Sl) (t1 : Addr) (w : World) (R : Post) (h : newV [] w fun b2 w1 => 
  ld4_0 w1 t1 fun t5_0 t5_1 t5_2 t5_3 => cf1 [b2] n_regex_equal #[.agg #[.i k0_0, .int .u8 k0_1, .int .u8 k0_2, k0_3.v], .agg #[.i t5_0, .int .u8 t5_1, .int .u8 t5_2, t5_3.v]] w1 fun t6 w2 => R (.returned (.bool t6)) w2) : Calls Tryz.prog n_regex_flat_1 #[.agg #[.i k0_0, .int .u8 k0_1, .int .u8 k0_2, k0_3.v], .pointer (some t1)] w R := callsX X [] h
end regex_flat_1
namespace slices_IndexFunc_sl_regex_Regex_regex_Regex
noncomputable abbrev X : Fx := ⟨Tryz.prog, Tryz.f78, [], []⟩
abbrev P0 : Ps := [(0, .v [.s]), (1, .v [.f]), (7, .v [.I]), (8, .v [.I])]
def L0 (s0 : Sl) (f1 : Fv) (t7 t8 : Int) (w : World) (R : Post) : Prop := mkCur P0 0 (X.Sem (pth [0, 1, 1, 1, 1])) s0 f1 t7 t8 w R
noncomputable def eL0 := entL X (pth [0, 1, 1, 1, 1]) P0 L0
theorem L0_step : ∀ (s0 : Sl) (f1 : Fv) (t7 t8 : Int) (w : World) (R : Post) (h : sel (decide (t8 < t7)) ((0 : Int) ≤ t8 ∧ t8 < ((s0.n : Nat) : Int) ∧ optP s0.a fun t14_p => ld4_0 w (t14_p.add (Int.toNat t8 * 4)) fun t15_0 t15_1 t15_2 t15_3 => AndT (callable Tryz.prog f1.n) (Calls Tryz.prog f1.n (f1.bs ++ #[.agg #[.i t15_0, .int .u8 t15_1, .int .u8 t15_2, t15_3.v]] ++ f1.cs) w fun r_ w1 => ∃ t16 : Bool, r_ = .returned (.bool t16) ∧ 
  sel t16 (R (.returned (.i t8)) w1) (L0 s0 f1 t7 (IntKind.wrap .i64 (t8 + 1)) w1 R))) (R (.returned (.i (-1))) w)), L0 s0 f1 t7 t8 w R := mp (stepL (X := X) [eL0] (pth [0, 1, 1, 1, 1]) P0)
theorem ok (s0 : Sl) (f1 : Fv) (w : World) (R : Post) (h : L0 s0 f1 ((s0.n : Nat) : Int) 0 w R) : Calls Tryz.prog n_slices_IndexFunc_sl_regex_Regex_regex_Regex #[s0.v, f1.v] w R := callsX X [eL0] h
end slices_IndexFunc_sl_regex_Regex_regex_Regex
namespace slices_ContainsFunc_sl_regex_Regex_regex_Regex
noncomputable abbrev X : Fx := ⟨Tryz.prog, Tryz.f48, [], []⟩
theorem ok (s0 : Sl) (f1 : Fv) (w : World) (R : Post) (h : ca0 n_slices_IndexFunc_sl_regex_Regex_regex_Regex #[s0.v, f1.v] w fun t7 w1 => R (.returned (.bool (decide (t7 ≥ 0)))) w1) : Calls Tryz.prog n_slices_ContainsFunc_sl_regex_Regex_regex_Regex #[s0.v, f1.v] w R := callsX X [] h
end slices_ContainsFunc_sl_regex_Regex_regex_Regex
namespace slices_DeleteFunc_sl_regex_Regex_regex_Regex
noncomputable abbrev X : Fx := ⟨Tryz.prog, Tryz.f76, [], [7]⟩
abbrev P0 : Ps := [(0, .v [.s]), (1, .v [.g n_regex_flat_1 0 1, .r]), (5, .v [.I]), (6, .v [.I])]
def L0T (s0 : Sl) (del1_c0 : Addr) (i5 j6 : Int) (w : World) (R : Post) : Prop := mkCur P0 0 (X.Sem (pth [0, 1, 1, 1, 3])) s0 del1_c0 i5 j6 w R
noncomputable def eL0 := entL X (pth [0, 1, 1, 1, 3]) P0 L0T
abbrev S1T (s0 : Sl) (del1_c0 : Addr) (i5 j6 : Int) (w : World) (R : Post) : Prop :=
  L0T s0 del1_c0 i5 (IntKind.wrap .i64 (j6 + 1)) w R
noncomputable def eS1 := entS X [eL0] (pth [2, 2, 1, 1, 3]) P0 S1T
theorem L0T_step : ∀ (s0 : Sl) (del1_c0 : Addr) (i5 j6 : Int) (w : World) (R : Post) (h : sel (decide (j6 < ((s0.n : Nat) : Int))) ((0 : Int) ≤ j6 ∧ j6 < ((s0.n : Nat) : Int) ∧ optP s0.a fun t24_p => ld4_0 w (t24_p.add (Int.toNat j6 * 4)) fun t25_0 t25_1 t25_2 t25_3 => newV [] w fun b7 w2 => 
  loc [b7] w2 fun w6 => cf1 [b7] n_regex_flat_1 #[.agg #[.i t25_0, .int .u8 t25_1, .int .u8 t25_2, t25_3.v], .pointer (some del1_c0)] w6 fun t28 w7 => sel (!t28) ((0 : Int) ≤ i5 ∧ i5 < ((s0.n : Nat) : Int) ∧ optP s0.a fun t33_p => stV w7 (t33_p.add (Int.toNat i5 * 4)) (.i t25_0) fun w8 => kept [b7] w7 w8 ∧ 
  stV w8 ((t33_p.add (Int.toNat i5 * 4)).add 1) (.int .u8 t25_1) fun w9 => kept [b7] w8 w9 ∧ 
  stV w9 ((t33_p.add (Int.toNat i5 * 4)).add 2) (.int .u8 t25_2) fun w10 => kept [b7] w9 w10 ∧ 
  stV w10 ((t33_p.add (Int.toNat i5 * 4)).add 3) (t25_3.v) fun w11 => kept [b7] w10 w11 ∧ 
  S1T s0 del1_c0 (IntKind.wrap .i64 (i5 + 1)) j6 w11 R) (S1T s0 del1_c0 i5 j6 w7 R)) ((0 : Int) ≤ i5 ∧ i5 ≤ ((s0.n : Nat) : Int) ∧ ∃ (w12 : World), Sem.run Tryz.prog (Builtin.clear_ #[ty_sl_regex_Regex] ty_ #[.slice (if s0.c = (Int.toNat i5) then s0.a else s0.a.map (·.add ((Int.toNat i5) * 4))) (s0.n - (Int.toNat i5)) (s0.c - (Int.toNat i5))]) w = .ok (.tuple #[]) w12 ∧ (0 : Int) ≤ i5 ∧ i5 ≤ ((s0.c : Nat) : Int) ∧ R (.returned (.slice (if s0.c = 0 then s0.a else s0.a.map (·.add (0 * 4))) ((Int.toNat i5) - 0) (s0.c - 0))) w12)), L0T s0 del1_c0 i5 j6 w R := mp (stepL (X := X) [eS1, eL0] (pth [0, 1, 1, 1, 3]) P0)
theorem okT (s0 : Sl) (del1_c0 : Addr) (w : World) (R : Post) (h : ca0 n_slices_IndexFunc_sl_regex_Regex_regex_Regex #[s0.v, .func (.func n_regex_flat_1) #[] #[.pointer (some del1_c0)]] w fun t10 w1 => sel (t10 == (-1)) (R (.returned (s0.v)) w1) (L0T s0 del1_c0 t10 (IntKind.wrap .i64 (t10 + 1)) w1 R)) : Calls Tryz.prog n_slices_DeleteFunc_sl_regex_Regex_regex_Regex #[s0.v, .func (.func n_regex_flat_1) #[] #[.pointer (some del1_c0)]] w R := callsX X [eS1, eL0] h
end slices_DeleteFunc_sl_regex_Regex_regex_Regex
namespace slices_CompactFunc_sl_regex_Regex_regex_Regex
noncomputable abbrev X : Fx := ⟨Tryz.prog, Tryz.f52, [(6,[0,1,2,3,4,5,6,7,8,9,10]), (11,[0,1,2,3,4,5,6,7,8,9,10,11])], []⟩
abbrev P0 : Ps := [(0, .v [.s]), (1, .v [.g n_regex_equal 0 0]), (5, .v [.I])]
def L0 (s0 : Sl) (k5 : Int) (w : World) (R : Post) : Prop := mkCur P0 0 (X.Sem (pth [0, 1, 1, 1, 2])) s0 k5 w R
noncomputable def eL0 := entL X (pth [0, 1, 1, 1, 2]) P0 L0
abbrev P1 : Ps := [(0, .v [.s]), (1, .v [.g n_regex_equal 0 0]), (5, .v [.I]), (6, .v [.s]), (7, .v [.I])]
def L2 (s0 : Sl) (k5 : Int) (s26 : Sl) (k27 : Int) (w : World) (R : Post) : Prop := mkCur P1 0 (X.Sem (pth [0, 1, 1, 1, 1, 1, 1, 2, 1, 2, 1, 1, 2])) s0 k5 s26 k27 w R
noncomputable def eL2 := entL X (pth [0, 1, 1, 1, 1, 1, 1, 2, 1, 2, 1, 1, 2]) P1 L2
abbrev S3 (s0 : Sl) (k5 : Int) (s26 : Sl) (k27 : Int) (w : World) (R : Post) : Prop :=
  L2 s0 k5 s26 (IntKind.wrap .i64 (k27 + 1)) w R
noncomputable def eS3 := entS X [eL2, eL0] (pth [2, 2, 1, 1, 1, 1, 1, 2, 1, 2, 1, 1, 2]) P1 S3
theorem L2_step : ∀ (s0 : Sl) (k5 : Int) (s26 : Sl) (k27 : Int) (w : World) (R : Post) (h : sel (decide (k27 < ((s26.n : Nat) : Int))) (drV w fun w1 => (0 : Int) ≤ k27 ∧ k27 < ((s26.n : Nat) : Int) ∧ optP s26.a fun t41_p => ld4_0 w1 (t41_p.add (Int.toNat k27 * 4)) fun t42_0 t42_1 t42_2 t42_3 => (0 : Int) ≤ (IntKind.wrap .i64 (k27 - 1)) ∧ (IntKind.wrap .i64 (k27 - 1)) < ((s26.n : Nat) : Int) ∧ optP s26.a fun t46_p => ld4_0 w1 (t46_p.add (Int.toNat (IntKind.wrap .i64 (k27 - 1)) * 4)) fun t47_0 t47_1 t47_2 t47_3 => ca1 n_regex_equal #[.agg #[.i t42_0, .int .u8 t42_1, .int .u8 t42_2, t42_3.v], .agg #[.i t47_0, .int .u8 t47_1, .int .u8 t47_2, t47_3.v]] w1 fun t48 w2 => sel (!t48) ((0 : Int) ≤ k27 ∧ k27 < ((s26.n : Nat) : Int) ∧ optP s26.a fun t54_p => ld4_0 w2 (t54_p.add (Int.toNat k27 * 4)) fun t55_0 t55_1 t55_2 t55_3 => (0 : Int) ≤ k5 ∧ k5 < ((s0.n : Nat) : Int) ∧ optP s0.a fun t56_p => stW4 w2 (t56_p.add (Int.toNat k5 * 4)) (.i t55_0) (.int .u8 t55_1) (.int .u8 t55_2) (t55_3.v) fun w6 => S3 s0 (IntKind.wrap .i64 (k5 + 1)) s26 k27 w6 R) (S3 s0 k5 s26 k27 w2 R)) ((0 : Int) ≤ k5 ∧ k5 ≤ ((s0.n : Nat) : Int) ∧ ∃ (w7 : World), Sem.run Tryz.prog (Builtin.clear_ #[ty_sl_regex_Regex] ty_ #[.slice (if s0.c = (Int.toNat k5) then s0.a else s0.a.map (·.add ((Int.toNat k5) * 4))) (s0.n - (Int.toNat k5)) (s0.c - (Int.toNat k5))]) w = .ok (.tuple #[]) w7 ∧ (0 : Int) ≤ k5 ∧ k5 ≤ ((s0.c : Nat) : Int) ∧ R (.returned (.slice (if s0.c = 0 then s0.a else s0.a.map (·.add (0 * 4))) ((Int.toNat k5) - 0) (s0.c - 0))) w7)), L2 s0 k5 s26 k27 w R := mp (stepL (X := X) [eS3, eL2, eL0] (pth [0, 1, 1, 1, 1, 1, 1, 2, 1, 2, 1, 1, 2]) P1)
abbrev P2 : Ps := [(0, .v [.s]), (1, .v [.g n_regex_equal 0 0]), (5, .v [.I]), (6, .v [.s])]
abbrev S1 (s0 : Sl) (k5 : Int) (s26 : Sl) (w : World) (R : Post) : Prop :=
  L2 s0 k5 s26 1 w R
noncomputable def eS1 := entS X [eS3, eL2, eL0] (pth [1, 1, 1, 2, 1, 2, 1, 1, 2]) P2 S1
theorem L0_step : ∀ (s0 : Sl) (k5 : Int) (w : World) (R : Post) (h : sel (decide (k5 < ((s0.n : Nat) : Int))) (drV w fun w1 => (0 : Int) ≤ k5 ∧ k5 < ((s0.n : Nat) : Int) ∧ optP s0.a fun t21_p => ld4_0 w1 (t21_p.add (Int.toNat k5 * 4)) fun t22_0 t22_1 t22_2 t22_3 => (0 : Int) ≤ (IntKind.wrap .i64 (k5 - 1)) ∧ (IntKind.wrap .i64 (k5 - 1)) < ((s0.n : Nat) : Int) ∧ optP s0.a fun t26_p => ld4_0 w1 (t26_p.add (Int.toNat (IntKind.wrap .i64 (k5 - 1)) * 4)) fun t27_0 t27_1 t27_2 t27_3 => ca1 n_regex_equal #[.agg #[.i t22_0, .int .u8 t22_1, .int .u8 t22_2, t22_3.v], .agg #[.i t27_0, .int .u8 t27_1, .int .u8 t27_2, t27_3.v]] w1 fun t28 w2 => sel t28 ((0 : Int) ≤ k5 ∧ k5 ≤ ((s0.n : Nat) : Int) ∧ S1 s0 k5 ⟨(if s0.c = (Int.toNat k5) then s0.a else s0.a.map (·.add ((Int.toNat k5) * 4))), (s0.n - (Int.toNat k5)), (s0.c - (Int.toNat k5))⟩ w2 R) (L0 s0 (IntKind.wrap .i64 (k5 + 1)) w2 R)) (R (.returned (s0.v)) w)), L0 s0 k5 w R := mp (stepL (X := X) [eS1, eS3, eL2, eL0] (pth [0, 1, 1, 1, 2]) P0)
theorem ok (s0 : Sl) (w : World) (R : Post) (h : sel (decide (((s0.n : Nat) : Int) < 2)) (R (.returned (s0.v)) w) (L0 s0 1 w R)) : Calls Tryz.prog n_slices_CompactFunc_sl_regex_Regex_regex_Regex #[s0.v, .func (.func n_regex_equal) #[] #[]] w R := callsX X [eS1, eS3, eL2, eL0] h
end slices_CompactFunc_sl_regex_Regex_regex_Regex
namespace regex_flat
noncomputable abbrev X : Fx := ⟨Tryz.prog, Tryz.f47, [], [2, 7]⟩
abbrev P0 : Ps := [(2, .l [.I, .Y, .Y, .s] ty_regex_Regex), (3, .v [.r]), (5, .v [.s]), (9, .v [.s]), (10, .v [.I]), (11, .v [.I])]
def L0T (r2 : Nat) (r2_0 r2_1 r2_2 : Int) (r2_3 : Sl) (unit3 : Addr) (l5 t9 : Sl) (t10 t11 : Int) (w : World) (R : Post) : Prop := mkCur P0 0 (X.Sem (pth [0, 1, 1, 1, 2])) r2 r2_0 r2_1 r2_2 r2_3 unit3 l5 t9 t10 t11 w R
noncomputable def eL0 := entL X (pth [0, 1, 1, 1, 2]) P0 L0T
abbrev S1T (r2 : Nat) (r2_0 r2_1 r2_2 : Int) (r2_3 : Sl) (unit3 : Addr) (l5 t9 : Sl) (t10 t11 : Int) (w : World) (R : Post) : Prop :=
  L0T r2 r2_0 r2_1 r2_2 r2_3 unit3 l5 t9 t10 (IntKind.wrap .i64 (t11 + 1)) w R
noncomputable def eS1 := entS X [eL0] (pth [3, 2, 1, 1, 2]) P0 S1T
theorem L0T_step : ∀ (r2 : Nat) (r2_0 r2_1 r2_2 : Int) (r2_3 : Sl) (unit3 : Addr) (l5 t9 : Sl) (t10 t11 : Int) (w : World) (R : Post) (h : sel (decide (t11 < t10)) ((0 : Int) ≤ t11 ∧ t11 < ((t9.n : Nat) : Int) ∧ optP t9.a fun t13_p => ld4_0 w (t13_p.add (Int.toNat t11 * 4)) fun t14_0 t14_1 t14_2 t14_3 => newV [r2] w fun b7 w3 => 
  sel (t14_0 == r2_0) (loc [r2, b7] w3 fun w7 => ∃ (t23 : Sl) (w8 : World), Sem.run Tryz.prog (Builtin.append_ #[ty_sl_regex_Regex, ty_sl_regex_Regex] ty_sl_regex_Regex #[l5.v, t14_3.v]) w7 = .ok (t23.v) w8 ∧ kept [r2, b7] w7 w8 ∧ S1T r2 r2_0 r2_1 r2_2 r2_3 unit3 t23 t9 t10 t11 w8 R) (loc [r2, b7] w3 fun w7 => nwV w7 (.cells #[.i t14_0, .int .u8 t14_1, .int .u8 t14_2, t14_3.v] ty_regex_Regex) fun w9 => 
  ∃ (t27 : Sl) (w10 : World), Sem.run Tryz.prog (Builtin.append_ #[ty_sl_regex_Regex, ty_sl_regex_Regex] ty_sl_regex_Regex #[l5.v, .slice (some (nb w7)) 1 1]) w9 = .ok (t27.v) w10 ∧ kept [r2, b7] w9 w10 ∧ S1T r2 r2_0 r2_1 r2_2 r2_3 unit3 t27 t9 t10 t11 w10 R)) (cf3 [r2] n_slices_DeleteFunc_sl_regex_Regex_regex_Regex #[l5.v, .func (.func n_regex_flat_1) #[] #[.pointer (some unit3)]] w fun t31 w11 => R (.returned (t31.v)) w11)), L0T r2 r2_0 r2_1 r2_2 r2_3 unit3 l5 t9 t10 t11 w R := mp (stepL (X := X) [eS1, eL0] (pth [0, 1, 1, 1, 2]) P0)
theorem okT (r0_0 r0_1 r0_2 : Int) (r0_3 : Sl) (unit1_0 unit1_1 unit1_2 : Int) (unit1_3 : Sl) (w : World) (R : Post) (h : newV [] w fun b2 w1 => 
  nwV w1 (.cells #[.i unit1_0, .int .u8 unit1_1, .int .u8 unit1_2, unit1_3.v] ty_regex_Regex) fun w2 => 
  L0T b2 r0_0 r0_1 r0_2 r0_3 (nb w1) ⟨none, 0, 0⟩ r0_3 ((r0_3.n : Nat) : Int) 0 w2 R) : Calls Tryz.prog n_regex_flat #[.agg #[.i r0_0, .int .u8 r0_1, .int .u8 r0_2, r0_3.v], .agg #[.i unit1_0, .int .u8 unit1_1, .int .u8 unit1_2, unit1_3.v]] w R := callsX X [eS1, eL0] h
end regex_flat
namespace regex_forms_1
noncomputable abbrev X : Fx := ⟨Tryz.prog, Tryz.f44, [], [1, 2]⟩
theorem okT (r0_0 r0_1 r0_2 : Int) (r0_3 : Sl) (w : World) (R : Post) (h : newV [] w fun b1 w1 => 
  newV [b1] w1 fun b2 w2 => 
  loc [b1, b2] w2 fun w6 => R (.returned (.agg #[.i r0_0, .int .u8 r0_1, .int .u8 r0_2, r0_3.v])) w6) : Calls Tryz.prog n_regex_forms_1 #[.agg #[.i r0_0, .int .u8 r0_1, .int .u8 r0_2, r0_3.v]] w R := callsX X [] h
end regex_forms_1
namespace regex_forms_2
noncomputable abbrev X : Fx := ⟨Tryz.prog, Tryz.f45, [], []⟩
theorem ok (unit0_0 unit0_1 unit0_2 : Int) (unit0_3 : Sl) (zero1_0 zero1_1 zero1_2 : Int) (zero1_3 : Sl) (w : World) (R : Post) (h : nwV w (.cells #[.i unit0_0, .int .u8 unit0_1, .int .u8 unit0_2, unit0_3.v] ty_regex_Regex) fun w1 => 
  nwV w1 (.cells #[.i zero1_0, .int .u8 zero1_1, .int .u8 zero1_2, zero1_3.v] ty_regex_Regex) fun w2 => 
  R (.returned (.func (.func n_regex_forms_2_1) #[] #[.pointer (some (nb w)), .pointer (some (nb w1))])) w2) : Calls Tryz.prog n_regex_forms_2 #[.agg #[.i unit0_0, .int .u8 unit0_1, .int .u8 unit0_2, unit0_3.v], .agg #[.i zero1_0, .int .u8 zero1_1, .int .u8 zero1_2, zero1_3.v]] w R := callsX X [] h
end regex_forms_2
namespace regex_forms_2_1
noncomputable abbrev X : Fx := ⟨Tryz.prog, Tryz.f46, [], [3, 4]⟩
abbrev P0 : Ps := [(1, .v [.r]), (3, .l [.I, .Y, .Y, .s] ty_regex_Regex), (4, .l [.I, .Y, .Y, .s] ty_regex_Regex), (5, .v [.s])]
abbrev S0T (t1 : Addr) (r3 : Nat) (r3_0 r3_1 r3_2 : Int) (r3_3 : Sl) (t4 : Nat) (t4_0 t4_1 t4_2 : Int) (t4_3 kids5 : Sl) (w : World) (R : Post) : Prop :=
  sel (((kids5.n : Nat) : Int) == 0) (ld4_0 w t1 fun t24_0 t24_1 t24_2 t24_3 => loc [r3, t4] w fun w4 => R (.returned (.agg #[.i t24_0, .int .u8 t24_1, .int .u8 t24_2, t24_3.v])) w4) (sel (((kids5.n : Nat) : Int) == 1) ((0 : Int) ≤ 0 ∧ 0 < ((kids5.n : Nat) : Int) ∧ optP kids5.a fun t28_p => ld4_0 w (t28_p.add (Int.toNat 0 * 4)) fun t29_0 t29_1 t29_2 t29_3 => loc [r3, t4] w fun w8 => R (.returned (.agg #[.i t29_0, .int .u8 t29_1, .int .u8 t29_2, t29_3.v])) w8) (loc [r3, t4] w fun w12 => R (.returned (.agg #[.i r3_0, .int .u8 0, .int .u8 0, kids5.v])) w12))
noncomputable def eS0 := entS X [] (pth [4]) P0 S0T
theorem okT (r0_0 r0_1 r0_2 : Int) (r0_3 : Sl) (t1 t2 : Addr) (w : World) (R : Post) (h : newV [] w fun b3 w1 => 
  newV [b3] w1 fun b4 w2 => 
  ld4_0 w2 t1 fun t7_0 t7_1 t7_2 t7_3 => cf3 [b3, b4] n_regex_flat #[.agg #[.i r0_0, .int .u8 r0_1, .int .u8 r0_2, r0_3.v], .agg #[.i t7_0, .int .u8 t7_1, .int .u8 t7_2, t7_3.v]] w2 fun t8 w3 => cf1 [b3, b4] n_slices_ContainsFunc_sl_regex_Regex_regex_Regex #[t8.v, .func (.func n_regex_forms_2_1_1) #[] #[.pointer (some t2)]] w3 fun t11 w4 => sel t11 (ld4_0 w4 t2 fun t12_0 t12_1 t12_2 t12_3 => loc [b3, b4] w4 fun w8 => R (.returned (.agg #[.i t12_0, .int .u8 t12_1, .int .u8 t12_2, t12_3.v])) w8) (sel (r0_0 != 3) (cf4 [b3, b4] n_slices_SortFunc_sl_regex_Regex_regex_Regex #[t8.v, .func (.func n_regex_Compare) #[] #[]] w4 fun w9 => cf3 [b3, b4] n_slices_CompactFunc_sl_regex_Regex_regex_Regex #[t8.v, .func (.func n_regex_equal) #[] #[]] w9 fun t19 w10 => S0T t1 b3 r0_0 r0_1 r0_2 r0_3 b4 0 0 0 ⟨none, 0, 0⟩ t19 w10 R) (S0T t1 b3 r0_0 r0_1 r0_2 r0_3 b4 0 0 0 ⟨none, 0, 0⟩ t8 w4 R))) : Calls Tryz.prog n_regex_forms_2_1 #[.agg #[.i r0_0, .int .u8 r0_1, .int .u8 r0_2, r0_3.v], .pointer (some t1), .pointer (some t2)] w R := callsX X [eS0] h
end regex_forms_2_1
namespace regex_forms_2_1_1
noncomputable abbrev X : Fx := ⟨Tryz.prog, Tryz.f49, [], [2]⟩
theorem okT (k0_0 k0_1 k0_2 : Int) (k0_3 : Sl) (t1 : Addr) (w : World) (R : Post) (h : newV [] w fun b2 w1 => 
  ld4_0 w1 t1 fun t5_0 t5_1 t5_2 t5_3 => cf1 [b2] n_regex_equal #[.agg #[.i k0_0, .int .u8 k0_1, .int .u8 k0_2, k0_3.v], .agg #[.i t5_0, .int .u8 t5_1, .int .u8 t5_2, t5_3.v]] w1 fun t6 w2 => R (.returned (.bool t6)) w2) : Calls Tryz.prog n_regex_forms_2_1_1 #[.agg #[.i k0_0, .int .u8 k0_1, .int .u8 k0_2, k0_3.v], .pointer (some t1)] w R := callsX X [] h
end regex_forms_2_1_1
namespace regex_forms_3
noncomputable abbrev X : Fx := ⟨Tryz.prog, Tryz.f53, [], [1, 2]⟩
theorem okT (r0_0 r0_1 r0_2 : Int) (r0_3 : Sl) (w : World) (R : Post) (h : newV [] w fun b1 w1 => 
  newV [b1] w1 fun b2 w2 => 
  (0 : Int) ≤ 0 ∧ 0 < ((r0_3.n : Nat) : Int) ∧ optP r0_3.a fun t5_p => ∃ t7 : Int, w2.cell? ((t5_p.add (Int.toNat 0 * 4)).add 0) = some (.i t7) ∧ 
  sel (t7 == 6) ((0 : Int) ≤ 0 ∧ 0 < ((r0_3.n : Nat) : Int) ∧ optP r0_3.a fun t11_p => ∃ t13 : Sl, w2.cell? ((t11_p.add (Int.toNat 0 * 4)).add 3) = some (t13.v) ∧ 
  (0 : Int) ≤ 0 ∧ 0 < ((t13.n : Nat) : Int) ∧ optP t13.a fun t14_p => ld4_0 w2 (t14_p.add (Int.toNat 0 * 4)) fun t15_0 t15_1 t15_2 t15_3 => loc [b1, b2] w2 fun w6 => R (.returned (.agg #[.i t15_0, .int .u8 t15_1, .int .u8 t15_2, t15_3.v])) w6) (loc [b1, b2] w2 fun w10 => R (.returned (.agg #[.i r0_0, .int .u8 r0_1, .int .u8 r0_2, r0_3.v])) w10)) : Calls Tryz.prog n_regex_forms_3 #[.agg #[.i r0_0, .int .u8 r0_1, .int .u8 r0_2, r0_3.v]] w R := callsX X [] h
end regex_forms_3
namespace regex_forms_4
noncomputable abbrev X : Fx := ⟨Tryz.prog, Tryz.f54, [], [3, 4, 5]⟩
abbrev P0 : Ps := [(1, .v [.r]), (4, .l [.I, .Y, .Y, .s] ty_regex_Regex)]
abbrev S0T (t1 : Addr) (t4 : Nat) (t4_0 t4_1 t4_2 : Int) (t4_3 : Sl) (w : World) (R : Post) : Prop :=
  ld4_0 w t1 fun t18_0 t18_1 t18_2 t18_3 => loc [t4] w fun w4 => R (.returned (.agg #[.i t18_0, .int .u8 t18_1, .int .u8 t18_2, t18_3.v])) w4
noncomputable def eS0 := entS X [] (pth [0, 1, 1, 1, 2]) P0 S0T
abbrev P1 : Ps := [(4, .l [.I, .Y, .Y, .s] ty_regex_Regex), (5, .l [.I, .Y, .Y, .s] ty_regex_Regex)]
abbrev S1T (t4 : Nat) (t4_0 t4_1 t4_2 : Int) (t4_3 : Sl) (k5 : Nat) (k5_0 k5_1 k5_2 : Int) (k5_3 : Sl) (w : World) (R : Post) : Prop :=
  loc [t4, k5] w fun w4 => R (.returned (.agg #[.i k5_0, .int .u8 k5_1, .int .u8 k5_2, k5_3.v])) w4
noncomputable def eS1 := entS X [eS0] (pth [0, 1, 1, 1, 3]) P1 S1T
theorem okT (r0_0 r0_1 r0_2 : Int) (r0_3 : Sl) (t1 t2 : Addr) (w : World) (R : Post) (h : newV [] w fun b3 w1 => 
  newV [b3] w1 fun b4 w2 => 
  (0 : Int) ≤ 0 ∧ 0 < ((r0_3.n : Nat) : Int) ∧ optP r0_3.a fun t8_p => ld4_0 w2 (t8_p.add (Int.toNat 0 * 4)) fun t9_0 t9_1 t9_2 t9_3 => newV [b3, b4] w2 fun b5 w3 => 
  sel (t9_0 == 0) (loc [b3, b4, b5] w3 fun w7 => S0T t1 b4 0 0 0 ⟨none, 0, 0⟩ w7 R) (sel (t9_0 == 1) (loc [b3, b4, b5] w3 fun w7 => S0T t1 b4 0 0 0 ⟨none, 0, 0⟩ w7 R) (sel (t9_0 == 7) (loc [b3, b4, b5] w3 fun w7 => S1T b4 0 0 0 ⟨none, 0, 0⟩ b5 t9_0 t9_1 t9_2 t9_3 w7 R) (loc [b3, b4, b5] w3 fun w7 => ld4_0 w7 t2 fun t24_0 t24_1 t24_2 t24_3 => cf1 [b3, b4, b5] n_regex_equal #[.agg #[.i t9_0, .int .u8 t9_1, .int .u8 t9_2, t9_3.v], .agg #[.i t24_0, .int .u8 t24_1, .int .u8 t24_2, t24_3.v]] w7 fun t25 w8 => sel t25 (S1T b4 0 0 0 ⟨none, 0, 0⟩ b5 t9_0 t9_1 t9_2 t9_3 w8 R) (loc [b3, b4, b5] w8 fun w12 => R (.returned (.agg #[.i r0_0, .int .u8 r0_1, .int .u8 r0_2, r0_3.v])) w12))))) : Calls Tryz.prog n_regex_forms_4 #[.agg #[.i r0_0, .int .u8 r0_1, .int .u8 r0_2, r0_3.v], .pointer (some t1), .pointer (some t2)] w R := callsX X [eS1, eS0] h
end regex_forms_4
namespace regex_normal
noncomputable abbrev X : Fx := ⟨Tryz.prog, Tryz.f25, [(5,[0,1,2,3,4,5,6,7,8])], []⟩
abbrev P0 : Ps := [(0, .v [.m]), (3, .v [.r]), (4, .v [.r]), (5, .v [.r]), (16, .v [.s]), (17, .v [.I]), (18, .v [.I])]
def L0 (f0 : Option Nat) (r3 t4 n5 : Addr) (t16 : Sl) (t17 t18 : Int) (w : World) (R : Post) : Prop := mkCur P0 0 (X.Sem (pth [0, 1, 1, 1, 2])) f0 r3 t4 n5 t16 t17 t18 w R
noncomputable def eL0 := entL X (pth [0, 1, 1, 1, 2]) P0 L0
theorem L0_step : ∀ (f0 : Option Nat) (r3 t4 n5 : Addr) (t16 : Sl) (t17 t18 : Int) (w : World) (R : Post) (h : sel (decide (t18 < t17)) ((0 : Int) ≤ t18 ∧ t18 < ((t16.n : Nat) : Int) ∧ optP t16.a fun t20_p => ld4_0 w (t20_p.add (Int.toNat t18 * 4)) fun t21_0 t21_1 t21_2 t21_3 => nwV w (.cells #[.i 0, .int .u8 0, .int .u8 0, .slice none 0 0] ty_regex_Regex) fun w8 => 
  stW4 w8 (nb w) (.i t21_0) (.int .u8 t21_1) (.int .u8 t21_2) (t21_3.v) fun w12 => drV w12 fun w13 => ∃ t23 : Sl, w13.cell? (n5.add 3) = some (t23.v) ∧ 
  ld4_0 w13 (nb w) fun t25_0 t25_1 t25_2 t25_3 => ca2 n_regex_normal #[.map f0, .agg #[.i t25_0, .int .u8 t25_1, .int .u8 t25_2, t25_3.v]] w13 fun t26_0 t26_1 t26_2 t26_3 w14 => w14.cell? (n5.add 3) = some (t23.v) ∧ nwV w14 (.cells #[.i t26_0, .int .u8 t26_1, .int .u8 t26_2, t26_3.v] ty_regex_Regex) fun w15 => 
  w15.cell? (n5.add 3) = some (t23.v) ∧ ∃ (t28 : Sl) (w16 : World), Sem.run Tryz.prog (Builtin.append_ #[ty_sl_regex_Regex, ty_sl_regex_Regex] ty_sl_regex_Regex #[t23.v, .slice (some (nb w14)) 1 1]) w15 = .ok (t28.v) w16 ∧ stV w16 (n5.add 3) (t28.v) fun w17 => 
  L0 f0 r3 t4 n5 t16 t17 (IntKind.wrap .i64 (t18 + 1)) w17 R) (∃ t33 : Int, w.cell? (r3.add 0) = some (.i t33) ∧ 
  ∃ t34_x1 : Fv, Sem.run Tryz.prog (Instr.lookup ty_map_int_func_regex_Regex_regex_Regex (.map f0) (.i t33) false) w = .ok (t34_x1.v) w ∧ ld4_0 w n5 fun t35_0 t35_1 t35_2 t35_3 => AndT (callable Tryz.prog t34_x1.n) (Calls Tryz.prog t34_x1.n (t34_x1.bs ++ #[.agg #[.i t35_0, .int .u8 t35_1, .int .u8 t35_2, t35_3.v]] ++ t34_x1.cs) w fun r_ w18 => ∃ t36_0 : Int, ∃ t36_1 : Int, ∃ t36_2 : Int, ∃ t36_3 : Sl, r_ = .returned (.agg #[.i t36_0, .int .u8 t36_1, .int .u8 t36_2, t36_3.v]) ∧ 
  stW4 w18 t4 (.i t36_0) (.int .u8 t36_1) (.int .u8 t36_2) (t36_3.v) fun w22 => ld4_0 w22 t4 fun r4_0 r4_1 r4_2 r4_3 => R (.returned (.agg #[.i r4_0, .int .u8 r4_1, .int .u8 r4_2, r4_3.v])) w22))), L0 f0 r3 t4 n5 t16 t17 t18 w R := mp (stepL (X := X) [eL0] (pth [0, 1, 1, 1, 2]) P0)
theorem ok (f0 : Option Nat) (r1_0 r1_1 r1_2 : Int) (r1_3 : Sl) (w : World) (R : Post) (h : nwV w (.cells #[.i r1_0, .int .u8 r1_1, .int .u8 r1_2, r1_3.v] ty_regex_Regex) fun w1 => 
  nwV w1 (.cells #[.i 0, .int .u8 0, .int .u8 0, .slice none 0 0] ty_regex_Regex) fun w2 => 
  ∃ t9 : Int, w2.cell? ((nb w).add 0) = some (.i t9) ∧ 
  ∃ t11 : Int, w2.cell? ((nb w).add 1) = some (.int .u8 t11) ∧ 
  ∃ t13 : Int, w2.cell? ((nb w).add 2) = some (.int .u8 t13) ∧ 
  nwV w2 (.cells #[.i 0, .int .u8 0, .int .u8 0, .slice none 0 0] ty_regex_Regex) fun w3 => 
  stW4 w3 (nb w2) (.i t9) (.int .u8 t11) (.int .u8 t13) (.slice none 0 0) fun w7 => ∃ t16 : Sl, w7.cell? ((nb w).add 3) = some (t16.v) ∧ 
  L0 f0 (nb w) (nb w1) (nb w2) t16 ((t16.n : Nat) : Int) 0 w7 R) : Calls Tryz.prog n_regex_normal #[.map f0, .agg #[.i r1_0, .int .u8 r1_1, .int .u8 r1_2, r1_3.v]] w R := callsX X [eL0] h
end regex_normal
namespace regex_derive
noncomputable abbrev X : Fx := ⟨Tryz.prog, Tryz.f74, [(13,[0,1,2,5,6,7,8,9,3,4,10,11]), (14,[0,1,2,3,4,5,6,7,8,9,10]), (23,[0,1,2,3,4,5,6,7,8,9]), (27,[0,1,2,3,4,5,7,6,8,9,10])], []⟩
abbrev P0 : Ps := [(6, .v [.r])]
abbrev S0 (t6 : Addr) (w : World) (R : Post) : Prop :=
  stW4 w t6 (.i 0) (.int .u8 0) (.int .u8 0) (.slice none 0 0) fun w4 => ld4_0 w4 t6 fun r6_0 r6_1 r6_2 r6_3 => R (.returned (.agg #[.i r6_0, .int .u8 r6_1, .int .u8 r6_2, r6_3.v])) w4
noncomputable def eS0 := entS X [] (pth [1, 1, 1, 1, 1, 1, 2]) P0 S0
abbrev P1 : Ps := [(0, .v [.m]), (2, .v [.Y]), (4, .v [.r]), (6, .v [.r]), (7, .v [.r]), (37, .v [.s]), (38, .v [.I]), (39, .v [.I])]
def L1 (f0 : Option Nat) (c2 : Int) (r4 t6 d7 : Addr) (t37 : Sl) (t38 t39 : Int) (w : World) (R : Post) : Prop := mkCur P1 0 (X.Sem (pth [0, 1, 2, 1, 3, 1, 1, 1, 2])) f0 c2 r4 t6 d7 t37 t38 t39 w R
noncomputable def eL1 := entL X (pth [0, 1, 2, 1, 3, 1, 1, 1, 2]) P1 L1
abbrev P2 : Ps := [(0, .v [.m]), (6, .v [.r]), (7, .v [.r])]
abbrev S2 (f0 : Option Nat) (t6 d7 : Addr) (w : World) (R : Post) : Prop :=
  ∃ t105 : Int, w.cell? (d7.add 0) = some (.i t105) ∧ 
  ∃ t106_x1 : Fv, Sem.run Tryz.prog (Instr.lookup ty_map_int_func_regex_Regex_regex_Regex (.map f0) (.i t105) false) w = .ok (t106_x1.v) w ∧ ld4_0 w d7 fun t107_0 t107_1 t107_2 t107_3 => AndT (callable Tryz.prog t106_x1.n) (Calls Tryz.prog t106_x1.n (t106_x1.bs ++ #[.agg #[.i t107_0, .int .u8 t107_1, .int .u8 t107_2, t107_3.v]] ++ t106_x1.cs) w fun r_ w1 => ∃ t108_0 : Int, ∃ t108_1 : Int, ∃ t108_2 : Int, ∃ t108_3 : Sl, r_ = .returned (.agg #[.i t108_0, .int .u8 t108_1, .int .u8 t108_2, t108_3.v]) ∧ 
  stW4 w1 t6 (.i t108_0) (.int .u8 t108_1) (.int .u8 t108_2) (t108_3.v) fun w5 => ld4_0 w5 t6 fun r6_0 r6_1 r6_2 r6_3 => R (.returned (.agg #[.i r6_0, .int .u8 r6_1, .int .u8 r6_2, r6_3.v])) w5)
noncomputable def eS2 := entS X [eL1, eS0] (pth [3]) P2 S2
theorem L1_step : ∀ (f0 : Option Nat) (c2 : Int) (r4 t6 d7 : Addr) (t37 : Sl) (t38 t39 : Int) (w : World) (R : Post) (h : sel (decide (t39 < t38)) ((0 : Int) ≤ t39 ∧ t39 < ((t37.n : Nat) : Int) ∧ optP t37.a fun t42_p => ld4_0 w (t42_p.add (Int.toNat t39 * 4)) fun t43_0 t43_1 t43_2 t43_3 => nwV w (.cells #[.i 0, .int .u8 0, .int .u8 0, .slice none 0 0] ty_regex_Regex) fun w13 => 
  stW4 w13 (nb w) (.i t43_0) (.int .u8 t43_1) (.int .u8 t43_2) (t43_3.v) fun w17 => drV w17 fun w18 => ld4_0 w18 (nb w) fun t45_0 t45_1 t45_2 t45_3 => ∃ t50 : Sl, w18.cell? (r4.add 3) = some (t50.v) ∧ 
  (0 : Int) ≤ (IntKind.wrap .i64 (t39 + 1)) ∧ (IntKind.wrap .i64 (t39 + 1)) ≤ ((t50.n : Nat) : Int) ∧ ca2 n_regex_derive #[.map f0, .agg #[.i t45_0, .int .u8 t45_1, .int .u8 t45_2, t45_3.v], .int .u8 c2] w18 fun t47_0 t47_1 t47_2 t47_3 w19 => w19.cell? (r4.add 3) = some (t50.v) ∧ nwV w19 (.cells #[.i t47_0, .int .u8 t47_1, .int .u8 t47_2, t47_3.v] ty_regex_Regex) fun w20 => 
  w20.cell? (r4.add 3) = some (t50.v) ∧ ∃ (t54 : Sl) (w21 : World), Sem.run Tryz.prog (Builtin.append_ #[ty_sl_regex_Regex, ty_sl_regex_Regex] ty_sl_regex_Regex #[.slice (some (nb w19)) 1 1, .slice (if t50.c = (Int.toNat (IntKind.wrap .i64 (t39 + 1))) then t50.a else t50.a.map (·.add ((Int.toNat (IntKind.wrap .i64 (t39 + 1))) * 4))) (t50.n - (Int.toNat (IntKind.wrap .i64 (t39 + 1)))) (t50.c - (Int.toNat (IntKind.wrap .i64 (t39 + 1))))]) w20 = .ok (t54.v) w21 ∧ drV w21 fun w22 => ∃ t56 : Sl, w22.cell? (d7.add 3) = some (t56.v) ∧ 
  ∃ t58_x1 : Fv, Sem.run Tryz.prog (Instr.lookup ty_map_int_func_regex_Regex_regex_Regex (.map f0) (.i 3) false) w22 = .ok (t58_x1.v) w22 ∧ AndT (callable Tryz.prog t58_x1.n) (Calls Tryz.prog t58_x1.n (t58_x1.bs ++ #[.agg #[.i 3, .int .u8 0, .int .u8 0, t54.v]] ++ t58_x1.cs) w22 fun r_ w23 => ∃ t61_0 : Int, ∃ t61_1 : Int, ∃ t61_2 : Int, ∃ t61_3 : Sl, r_ = .returned (.agg #[.i t61_0, .int .u8 t61_1, .int .u8 t61_2, t61_3.v]) ∧ 
  w23.cell? (d7.add 3) = some (t56.v) ∧ nwV w23 (.cells #[.i t61_0, .int .u8 t61_1, .int .u8 t61_2, t61_3.v] ty_regex_Regex) fun w24 => 
  w24.cell? (d7.add 3) = some (t56.v) ∧ ∃ (t63 : Sl) (w25 : World), Sem.run Tryz.prog (Builtin.append_ #[ty_sl_regex_Regex, ty_sl_regex_Regex] ty_sl_regex_Regex #[t56.v, .slice (some (nb w23)) 1 1]) w24 = .ok (t63.v) w25 ∧ stV w25 (d7.add 3) (t63.v) fun w26 => 
  ld4_0 w26 (nb w) fun t65_0 t65_1 t65_2 t65_3 => ca1 n_regex_nullable #[.agg #[.i t65_0, .int .u8 t65_1, .int .u8 t65_2, t65_3.v]] w26 fun t66 w27 => sel (!t66) (S2 f0 t6 d7 w27 R) (L1 f0 c2 r4 t6 d7 t37 t38 (IntKind.wrap .i64 (t39 + 1)) w27 R))) (S2 f0 t6 d7 w R)), L1 f0 c2 r4 t6 d7 t37 t38 t39 w R := mp (stepL (X := X) [eS2, eL1, eS0] (pth [0, 1, 2, 1, 3, 1, 1, 1, 2]) P1)
abbrev P3 : Ps := [(0, .v [.m]), (2, .v [.Y]), (6, .v [.r]), (7, .v [.r]), (74, .v [.s]), (75, .v [.I]), (76, .v [.I])]
def L4 (f0 : Option Nat) (c2 : Int) (t6 d7 : Addr) (t74 : Sl) (t75 t76 : Int) (w : World) (R : Post) : Prop := mkCur P3 0 (X.Sem (pth [0, 1, 1, 1, 5, 1, 1, 1, 2])) f0 c2 t6 d7 t74 t75 t76 w R
noncomputable def eL4 := entL X (pth [0, 1, 1, 1, 5, 1, 1, 1, 2]) P3 L4
theorem L4_step : ∀ (f0 : Option Nat) (c2 : Int) (t6 d7 : Addr) (t74 : Sl) (t75 t76 : Int) (w : World) (R : Post) (h : sel (decide (t76 < t75)) ((0 : Int) ≤ t76 ∧ t76 < ((t74.n : Nat) : Int) ∧ optP t74.a fun t78_p => ld4_0 w (t78_p.add (Int.toNat t76 * 4)) fun t79_0 t79_1 t79_2 t79_3 => nwV w (.cells #[.i 0, .int .u8 0, .int .u8 0, .slice none 0 0] ty_regex_Regex) fun w1 => 
  stW4 w1 (nb w) (.i t79_0) (.int .u8 t79_1) (.int .u8 t79_2) (t79_3.v) fun w5 => drV w5 fun w6 => ∃ t81 : Sl, w6.cell? (d7.add 3) = some (t81.v) ∧ 
  ld4_0 w6 (nb w) fun t83_0 t83_1 t83_2 t83_3 => ca2 n_regex_derive #[.map f0, .agg #[.i t83_0, .int .u8 t83_1, .int .u8 t83_2, t83_3.v], .int .u8 c2] w6 fun t85_0 t85_1 t85_2 t85_3 w7 => w7.cell? (d7.add 3) = some (t81.v) ∧ nwV w7 (.cells #[.i t85_0, .int .u8 t85_1, .int .u8 t85_2, t85_3.v] ty_regex_Regex) fun w8 => 
  w8.cell? (d7.add 3) = some (t81.v) ∧ ∃ (t87 : Sl) (w9 : World), Sem.run Tryz.prog (Builtin.append_ #[ty_sl_regex_Regex, ty_sl_regex_Regex] ty_sl_regex_Regex #[t81.v, .slice (some (nb w7)) 1 1]) w8 = .ok (t87.v) w9 ∧ stV w9 (d7.add 3) (t87.v) fun w10 => 
  L4 f0 c2 t6 d7 t74 t75 (IntKind.wrap .i64 (t76 + 1)) w10 R) (S2 f0 t6 d7 w R)), L4 f0 c2 t6 d7 t74 t75 t76 w R := mp (stepL (X := X) [eL4, eS2, eL1, eS0] (pth [0, 1, 1, 1, 5, 1, 1, 1, 2]) P3)
abbrev P4 : Ps := [(0, .v [.m]), (2, .v [.Y]), (4, .v [.r]), (6, .v [.r]), (7, .v [.r])]
abbrev S3 (f0 : Option Nat) (c2 : Int) (r4 t6 d7 : Addr) (w : World) (R : Post) : Prop :=
  ∃ t74 : Sl, w.cell? (r4.add 3) = some (t74.v) ∧ 
  L4 f0 c2 t6 d7 t74 ((t74.n : Nat) : Int) 0 w R
noncomputable def eS3 := entS X [eL4, eS2, eL1, eS0] (pth [0, 1, 5, 1, 1, 1, 2]) P4 S3
abbrev P5 : Ps := [(0, .v [.m]), (2, .v [.Y]), (4, .v [.r]), (6, .v [.r]), (7, .v [.r]), (17, .v [.I])]
abbrev S5 (f0 : Option Nat) (c2 : Int) (r4 t6 d7 : Addr) (t17 : Int) (w : World) (R : Post) : Prop :=
  sel (t17 == 7) (stV w (d7.add 0) (.i 3) fun w1 => 
  drV w1 fun w2 => ∃ t95 : Sl, w2.cell? (r4.add 3) = some (t95.v) ∧ 
  (0 : Int) ≤ 0 ∧ 0 < ((t95.n : Nat) : Int) ∧ optP t95.a fun t96_p => ld4_0 w2 (t96_p.add (Int.toNat 0 * 4)) fun t97_0 t97_1 t97_2 t97_3 => ld4_0 w2 r4 fun t100_0 t100_1 t100_2 t100_3 => ca2 n_regex_derive #[.map f0, .agg #[.i t97_0, .int .u8 t97_1, .int .u8 t97_2, t97_3.v], .int .u8 c2] w2 fun t99_0 t99_1 t99_2 t99_3 w3 => hdW4 w3 r4 (.i t100_0) (.int .u8 t100_1) (.int .u8 t100_2) (t100_3.v) fun _ => nwV w3 (.cells #[.i t99_0, .int .u8 t99_1, .int .u8 t99_2, t99_3.v, .i t100_0, .int .u8 t100_1, .int .u8 t100_2, t100_3.v] ty_regex_Regex) fun w4 => 
  stV w4 (d7.add 3) (.slice (some (nb w3)) 2 2) fun w5 => 
  S2 f0 t6 d7 w5 R) (stW4 w t6 (.i 0) (.int .u8 0) (.int .u8 0) (.slice none 0 0) fun w9 => ld4_0 w9 t6 fun r6_0 r6_1 r6_2 r6_3 => R (.returned (.agg #[.i r6_0, .int .u8 r6_1, .int .u8 r6_2, r6_3.v])) w9)
noncomputable def eS5 := entS X [eS3, eL4, eS2, eL1, eS0] (pth [6, 1, 1, 1, 2]) P5 S5
theorem ok (f0 : Option Nat) (r1_0 r1_1 r1_2 : Int) (r1_3 : Sl) (c2 : Int) (w : World) (R : Post) (h : nwV w (.cells #[.i r1_0, .int .u8 r1_1, .int .u8 r1_2, r1_3.v] ty_regex_Regex) fun w1 => 
  nwV w1 (.cells #[.i 0, .int .u8 0, .int .u8 0, .slice none 0 0] ty_regex_Regex) fun w2 => 
  ∃ t14 : Int, w2.cell? ((nb w).add 0) = some (.i t14) ∧ 
  nwV w2 (.cells #[.i 0, .int .u8 0, .int .u8 0, .slice none 0 0] ty_regex_Regex) fun w3 => 
  stW4 w3 (nb w2) (.i t14) (.int .u8 0) (.int .u8 0) (.slice none 0 0) fun w7 => ∃ t17 : Int, w7.cell? ((nb w).add 0) = some (.i t17) ∧ 
  sel (t17 == 2) (∃ t22 : Int, w7.cell? ((nb w).add 1) = some (.int .u8 t22) ∧ 
  sel (decide (t22 ≤ c2)) (∃ t28 : Int, w7.cell? ((nb w).add 2) = some (.int .u8 t28) ∧ 
  sel (decide (c2 ≤ t28)) (stW4 w7 (nb w1) (.i 1) (.int .u8 0) (.int .u8 0) (.slice none 0 0) fun w11 => ld4_0 w11 (nb w1) fun r6_0 r6_1 r6_2 r6_3 => R (.returned (.agg #[.i r6_0, .int .u8 r6_1, .int .u8 r6_2, r6_3.v])) w11) (S0 (nb w1) w7 R)) (S0 (nb w1) w7 R)) (sel (t17 == 3) (stV w7 ((nb w2).add 0) (.i 4) fun w12 => 
  ∃ t37 : Sl, w12.cell? ((nb w).add 3) = some (t37.v) ∧ 
  L1 f0 c2 (nb w) (nb w1) (nb w2) t37 ((t37.n : Nat) : Int) 0 w12 R) (sel (t17 == 4) (sel (t17 == 4) (S3 f0 c2 (nb w) (nb w1) (nb w2) w7 R) (S5 f0 c2 (nb w) (nb w1) (nb w2) t17 w7 R)) (sel (t17 == 5) (sel (t17 == 5) (S3 f0 c2 (nb w) (nb w1) (nb w2) w7 R) (S5 f0 c2 (nb w) (nb w1) (nb w2) t17 w7 R)) (sel (t17 == 6) (S3 f0 c2 (nb w) (nb w1) (nb w2) w7 R) (S5 f0 c2 (nb w) (nb w1) (nb w2) t17 w7 R)))))) : Calls Tryz.prog n_regex_derive #[.map f0, .agg #[.i r1_0, .int .u8 r1_1, .int .u8 r1_2, r1_3.v], .int .u8 c2] w R := callsX X [eS5, eS3, eL4, eS2, eL1, eS0] h
end regex_derive
namespace regex_Derive
noncomputable abbrev X : Fx := ⟨Tryz.prog, Tryz.f39, [], [2, 4]⟩
theorem okT (r0_0 r0_1 r0_2 : Int) (r0_3 : Sl) (c1 : Int) (w : World) (R : Post) (h : newV [] w fun b2 w1 => 
  newV [b2] w1 fun b4 w2 => 
  cf0 [b2, b4] n_regex_Valid #[.agg #[.i r0_0, .int .u8 r0_1, .int .u8 r0_2, r0_3.v]] w2 fun t9 w3 => sel (t9 != 0) (loc [b2, b4] w3 fun w7 => R (.returned (.tuple #[.agg #[.i 0, .int .u8 0, .int .u8 0, .slice none 0 0], .i t9])) w7) (cf5 [b2, b4] n_regex_forms #[] w3 fun t14 w8 => cf2 [b2, b4] n_regex_normal #[.map t14, .agg #[.i r0_0, .int .u8 r0_1, .int .u8 r0_2, r0_3.v]] w8 fun t18_0 t18_1 t18_2 t18_3 w9 => cf2 [b2, b4] n_regex_derive #[.map t14, .agg #[.i t18_0, .int .u8 t18_1, .int .u8 t18_2, t18_3.v], .int .u8 c1] w9 fun t20_0 t20_1 t20_2 t20_3 w10 => cf6 [b2, b4] n_regex_limited #[.agg #[.i t20_0, .int .u8 t20_1, .int .u8 t20_2, t20_3.v]] w10 fun t21_0_0 t21_0_1 t21_0_2 t21_0_3 t21_1 w11 => loc [b2, b4] w11 fun w15 => R (.returned (.tuple #[.agg #[.i t21_0_0, .int .u8 t21_0_1, .int .u8 t21_0_2, t21_0_3.v], .i t21_1])) w15)) : Calls Tryz.prog n_regex_Derive #[.agg #[.i r0_0, .int .u8 r0_1, .int .u8 r0_2, r0_3.v], .int .u8 c1] w R := callsX X [] h
end regex_Derive
end Go.Proofs.YtknlbofiicflgaaGreat
