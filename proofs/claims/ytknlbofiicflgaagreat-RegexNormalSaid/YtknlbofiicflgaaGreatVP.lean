/- Printed by a program of ours (vcgen.py) from the dump: the conditions of the functions, and that they suffice. -/
import Derived.Test.YtknlbofiicflgaaGreatVD
set_option linter.unusedVariables false
set_option maxRecDepth 100000
set_option maxHeartbeats 2000000
namespace Go.Proofs.YtknlbofiicflgaaGreat
open Go Go.W
namespace regex_small
noncomputable abbrev X : Fx := ⟨Tryz.prog, Tryz.f104, [], []⟩
theorem ok (c0 : Int) (w : World) (R : Post) (h : sel (decide (c0 ≥ 97)) (R (.returned (.bool (decide (c0 ≤ 122)))) w) (R (.returned (.bool false)) w)) : Calls Tryz.prog n_regex_small #[.int .u8 c0] w R := callsX X [] h
end regex_small
namespace regex_plain
noncomputable abbrev X : Fx := ⟨Tryz.prog, Tryz.f113, [], []⟩
theorem ok (c0 : Int) (w : World) (R : Post) (h : sel (decide (c0 ≥ 32)) (sel (decide (c0 ≤ 126)) (sel (c0 != 39) (R (.returned (.bool (c0 != 92))) w) (R (.returned (.bool false)) w)) (R (.returned (.bool false)) w)) (R (.returned (.bool false)) w)) : Calls Tryz.prog n_regex_plain #[.int .u8 c0] w R := callsX X [] h
end regex_plain
namespace strings_IndexByte
noncomputable abbrev X : Fx := ⟨Tryz.prog, Tryz.f103, [], []⟩
theorem ok (s0 : ByteArray) (c1 : Int) (w : World) (R : Post) (h : ca0 n_internal_stringslite_IndexByte #[.string s0, .int .u8 c1] w fun t7 w1 => R (.returned (.i t7)) w1) : Calls Tryz.prog n_strings_IndexByte #[.string s0, .int .u8 c1] w R := callsX X [] h
end strings_IndexByte
namespace internal_stringslite_IndexByte
noncomputable abbrev X : Fx := ⟨Tryz.prog, Tryz.f112, [], []⟩
theorem ok (s0 : ByteArray) (c1 : Int) (w : World) (R : Post) (h : ∃ t7 : Int, ∃ w1 : World, Sem.run Tryz.prog (callFunc n_internal_bytealg_IndexByteString #[.string s0, .int .u8 c1]) w = .ok (.value (.i t7)) w1 ∧ 
  R (.returned (.i t7)) w1) : Calls Tryz.prog n_internal_stringslite_IndexByte #[.string s0, .int .u8 c1] w R := callsX X [] h
end internal_stringslite_IndexByte
namespace regex_byteAt
noncomputable abbrev X : Fx := ⟨Tryz.prog, Tryz.f105, [(4,[0,1,2,3,5,6,7,8,4,9,10,11])], []⟩
abbrev P0 : Ps := []
abbrev S1  (w : World) (R : Post) : Prop :=
  R (.returned (.tuple #[.int .u8 0, .i 0, .bool false])) w
noncomputable def eS1 := entS X [] (pth [3]) P0 S1
abbrev P1 : Ps := [(0, .v [.st]), (1, .v [.I])]
abbrev S0 (s0 : ByteArray) (i1 : Int) (w : World) (R : Post) : Prop :=
  sel (decide ((IntKind.wrap .i64 (i1 + 3)) < ((s0.size : Nat) : Int))) ((0 : Int) ≤ i1 ∧ ∃ t46_b : UInt8, s0[Int.toNat i1]? = some t46_b ∧ sel (((t46_b.toNat : Nat) : Int) == 92) ((0 : Int) ≤ (IntKind.wrap .i64 (i1 + 1)) ∧ ∃ t53_b : UInt8, s0[Int.toNat (IntKind.wrap .i64 (i1 + 1))]? = some t53_b ∧ sel (((t53_b.toNat : Nat) : Int) == 120) (drV w fun w1 => (0 : Int) ≤ (IntKind.wrap .i64 (i1 + 2)) ∧ ∃ t59_b : UInt8, s0[Int.toNat (IntKind.wrap .i64 (i1 + 2))]? = some t59_b ∧ (0 : Int) ≤ (IntKind.wrap .i64 (i1 + 3)) ∧ ∃ t64_b : UInt8, s0[Int.toNat (IntKind.wrap .i64 (i1 + 3))]? = some t64_b ∧ ca0 n_strings_IndexByte #[.string (ByteArray.mk #[48, 49, 50, 51, 52, 53, 54, 55, 56, 57, 97, 98, 99, 100, 101, 102]), .int .u8 ((t59_b.toNat : Nat) : Int)] w1 fun t60 w2 => ca0 n_strings_IndexByte #[.string (ByteArray.mk #[48, 49, 50, 51, 52, 53, 54, 55, 56, 57, 97, 98, 99, 100, 101, 102]), .int .u8 ((t64_b.toNat : Nat) : Int)] w2 fun t65 w3 => sel (decide (t60 ≥ 0)) (sel (decide (t65 ≥ 0)) (R (.returned (.tuple #[.int .u8 (IntKind.wrap .u8 (bOr .i64 (IntKind.wrap .i64 (t60 * 2 ^ (4))) t65)), .i 4, .bool true])) w3) (S1  w3 R)) (S1  w3 R)) (S1  w R)) (S1  w R)) (S1  w R)
noncomputable def eS0 := entS X [eS1] (pth [2]) P1 S0
theorem ok (s0 : ByteArray) (i1 : Int) (w : World) (R : Post) (h : sel (decide ((IntKind.wrap .i64 (i1 + 2)) < ((s0.size : Nat) : Int))) ((0 : Int) ≤ i1 ∧ ∃ t17_b : UInt8, s0[Int.toNat i1]? = some t17_b ∧ sel (((t17_b.toNat : Nat) : Int) == 39) ((0 : Int) ≤ (IntKind.wrap .i64 (i1 + 1)) ∧ ∃ t24_b : UInt8, s0[Int.toNat (IntKind.wrap .i64 (i1 + 1))]? = some t24_b ∧ ca1 n_regex_plain #[.int .u8 ((t24_b.toNat : Nat) : Int)] w fun t25 w1 => sel t25 ((0 : Int) ≤ (IntKind.wrap .i64 (i1 + 2)) ∧ ∃ t31_b : UInt8, s0[Int.toNat (IntKind.wrap .i64 (i1 + 2))]? = some t31_b ∧ sel (((t31_b.toNat : Nat) : Int) == 39) ((0 : Int) ≤ (IntKind.wrap .i64 (i1 + 1)) ∧ ∃ t37_b : UInt8, s0[Int.toNat (IntKind.wrap .i64 (i1 + 1))]? = some t37_b ∧ R (.returned (.tuple #[.int .u8 ((t37_b.toNat : Nat) : Int), .i 3, .bool true])) w1) (S0 s0 i1 w1 R)) (S0 s0 i1 w1 R)) (S0 s0 i1 w R)) (S0 s0 i1 w R)) : Calls Tryz.prog n_regex_byteAt #[.string s0, .i i1] w R := callsX X [eS0, eS1] h
end regex_byteAt
namespace regex_tokenAt
noncomputable abbrev X : Fx := ⟨Tryz.prog, Tryz.f85, [], [4]⟩
abbrev P0 : Ps := [(0, .v [.st]), (1, .v [.I]), (4, .l [.Y, .Y, .Y, .st, .I] ty_regex_token), (7, .v [.I])]
def L1T (s0 : ByteArray) (i1 : Int) (t4 : Nat) (t4_0 t4_1 t4_2 : Int) (t4_3 : ByteArray) (t4_4 j7 : Int) (w : World) (R : Post) : Prop := mkCur P0 0 (X.Sem (pth [0, 2, 1, 1, 3, 2, 2])) s0 i1 t4 t4_0 t4_1 t4_2 t4_3 t4_4 j7 w R
noncomputable def eL1 := entL X (pth [0, 2, 1, 1, 3, 2, 2]) P0 L1T
abbrev S2T (s0 : ByteArray) (i1 : Int) (t4 : Nat) (t4_0 t4_1 t4_2 : Int) (t4_3 : ByteArray) (t4_4 j7 : Int) (w : World) (R : Post) : Prop :=
  (0 : Int) ≤ j7 ∧ j7 ≤ ((s0.size : Nat) : Int) ∧ (0 : Int) ≤ i1 ∧ i1 ≤ (((Int.toNat j7) : Nat) : Int) ∧ loc [t4] w fun w5 => R (.returned (.tuple #[.agg #[.int .u8 119, .int .u8 0, .int .u8 0, .string (s0.extract (Int.toNat i1) (Int.toNat j7)), .i i1], .i (IntKind.wrap .i64 (j7 - i1))])) w5
noncomputable def eS2 := entS X [eL1] (pth [2, 1, 3, 2, 2]) P0 S2T
theorem L1T_step : ∀ (s0 : ByteArray) (i1 : Int) (t4 : Nat) (t4_0 t4_1 t4_2 : Int) (t4_3 : ByteArray) (t4_4 j7 : Int) (w : World) (R : Post) (h : sel (decide (j7 < ((s0.size : Nat) : Int))) ((0 : Int) ≤ j7 ∧ ∃ t50_b : UInt8, s0[Int.toNat j7]? = some t50_b ∧ cf1 [t4] n_regex_small #[.int .u8 ((t50_b.toNat : Nat) : Int)] w fun t51 w8 => sel t51 (L1T s0 i1 t4 t4_0 t4_1 t4_2 t4_3 t4_4 (IntKind.wrap .i64 (j7 + 1)) w8 R) (S2T s0 i1 t4 t4_0 t4_1 t4_2 t4_3 t4_4 j7 w8 R)) (S2T s0 i1 t4 t4_0 t4_1 t4_2 t4_3 t4_4 j7 w R)), L1T s0 i1 t4 t4_0 t4_1 t4_2 t4_3 t4_4 j7 w R := mp (stepL (X := X) [eS2, eL1] (pth [0, 2, 1, 1, 3, 2, 2]) P0)
abbrev P1 : Ps := [(1, .v [.I]), (4, .l [.Y, .Y, .Y, .st, .I] ty_regex_token)]
abbrev S4T (i1 : Int) (t4 : Nat) (t4_0 t4_1 t4_2 : Int) (t4_3 : ByteArray) (t4_4 : Int) (w : World) (R : Post) : Prop :=
  loc [t4] w fun w5 => R (.returned (.tuple #[.agg #[.int .u8 63, .int .u8 0, .int .u8 0, .s0, .i i1], .i 1])) w5
noncomputable def eS4 := entS X [eS2, eL1] (pth [3]) P1 S4T
abbrev P2 : Ps := [(0, .v [.st]), (1, .v [.I]), (4, .l [.Y, .Y, .Y, .st, .I] ty_regex_token), (8, .v [.Y]), (10, .v [.b]), (11, .v [.I]), (12, .v [.Y])]
abbrev S5T (s0 : ByteArray) (i1 : Int) (t4 : Nat) (t4_0 t4_1 t4_2 : Int) (t4_3 : ByteArray) (t4_4 lo8 : Int) (ok10 : Bool) (j11 hi12 : Int) (w : World) (R : Post) : Prop :=
  sel (!ok10) (S4T i1 t4 t4_0 t4_1 t4_2 t4_3 t4_4 w R) (sel (decide (j11 ≥ ((s0.size : Nat) : Int))) (S4T i1 t4 t4_0 t4_1 t4_2 t4_3 t4_4 w R) ((0 : Int) ≤ j11 ∧ ∃ t116_b : UInt8, s0[Int.toNat j11]? = some t116_b ∧ sel (((t116_b.toNat : Nat) : Int) != 93) (S4T i1 t4 t4_0 t4_1 t4_2 t4_3 t4_4 w R) (sel (decide (lo8 > hi12)) (S4T i1 t4 t4_0 t4_1 t4_2 t4_3 t4_4 w R) (loc [t4] w fun w5 => R (.returned (.tuple #[.agg #[.int .u8 114, .int .u8 lo8, .int .u8 hi12, .s0, .i i1], .i (IntKind.wrap .i64 ((IntKind.wrap .i64 (j11 + 1)) - i1))])) w5))))
noncomputable def eS5 := entS X [eS4, eS2, eL1] (pth [5, 1, 5, 2, 2]) P2 S5T
abbrev P3 : Ps := [(0, .v [.st]), (1, .v [.I]), (4, .l [.Y, .Y, .Y, .st, .I] ty_regex_token), (8, .v [.Y]), (10, .v [.b]), (11, .v [.I])]
abbrev S3T (s0 : ByteArray) (i1 : Int) (t4 : Nat) (t4_0 t4_1 t4_2 : Int) (t4_3 : ByteArray) (t4_4 lo8 : Int) (ok10 : Bool) (j11 : Int) (w : World) (R : Post) : Prop :=
  sel (!ok10) (S4T i1 t4 t4_0 t4_1 t4_2 t4_3 t4_4 w R) (sel (decide (j11 ≥ ((s0.size : Nat) : Int))) (S4T i1 t4 t4_0 t4_1 t4_2 t4_3 t4_4 w R) ((0 : Int) ≤ j11 ∧ ∃ t90_b : UInt8, s0[Int.toNat j11]? = some t90_b ∧ sel (((t90_b.toNat : Nat) : Int) != 45) (S4T i1 t4 t4_0 t4_1 t4_2 t4_3 t4_4 w R) (cf9 [t4] n_regex_byteAt #[.string s0, .i (IntKind.wrap .i64 (j11 + 1))] w fun t97_0 t97_1 t97_2 w1 => S5T s0 i1 t4 t4_0 t4_1 t4_2 t4_3 t4_4 lo8 t97_2 (IntKind.wrap .i64 (j11 + (IntKind.wrap .i64 (1 + t97_1)))) t97_0 w1 R)))
noncomputable def eS3 := entS X [eS5, eS4, eS2, eL1] (pth [2, 1, 5, 2, 2]) P3 S3T
abbrev P4 : Ps := [(0, .v [.st]), (1, .v [.I]), (4, .l [.Y, .Y, .Y, .st, .I] ty_regex_token), (6, .v [.Y])]
abbrev S0T (s0 : ByteArray) (i1 : Int) (t4 : Nat) (t4_0 t4_1 t4_2 : Int) (t4_3 : ByteArray) (t4_4 c6 : Int) (w : World) (R : Post) : Prop :=
  cf0 [t4] n_strings_IndexByte #[.string (ByteArray.mk #[40, 41, 44, 124, 38, 33, 42]), .int .u8 c6] w fun t34 w1 => sel (decide (t34 ≥ 0)) (loc [t4] w1 fun w6 => R (.returned (.tuple #[.agg #[.int .u8 c6, .int .u8 0, .int .u8 0, .s0, .i i1], .i 1])) w6) (cf1 [t4] n_regex_small #[.int .u8 c6] w1 fun t41 w7 => sel t41 (L1T s0 i1 t4 t4_0 t4_1 t4_2 t4_3 t4_4 i1 w7 R) (sel (c6 == 91) (cf9 [t4] n_regex_byteAt #[.string s0, .i (IntKind.wrap .i64 (i1 + 1))] w7 fun t71_0 t71_1 t71_2 w9 => S3T s0 i1 t4 t4_0 t4_1 t4_2 t4_3 t4_4 t71_0 t71_2 (IntKind.wrap .i64 ((IntKind.wrap .i64 (i1 + 1)) + t71_1)) w9 R) (cf9 [t4] n_regex_byteAt #[.string s0, .i i1] w7 fun t22_0 t22_1 t22_2 w10 => sel t22_2 (loc [t4] w10 fun w15 => R (.returned (.tuple #[.agg #[.int .u8 114, .int .u8 t22_0, .int .u8 t22_0, .s0, .i i1], .i t22_1])) w15) (S4T i1 t4 t4_0 t4_1 t4_2 t4_3 t4_4 w10 R))))
noncomputable def eS0 := entS X [eS3, eS5, eS4, eS2, eL1] (pth [2]) P4 S0T
theorem okT (s0 : ByteArray) (i1 : Int) (w : World) (R : Post) (h : newV [] w fun b4 w1 => 
  (0 : Int) ≤ i1 ∧ ∃ t18_b : UInt8, s0[Int.toNat i1]? = some t18_b ∧ S0T s0 i1 b4 0 0 0 (ByteArray.mk #[]) 0 ((t18_b.toNat : Nat) : Int) w1 R) : Calls Tryz.prog n_regex_tokenAt #[.string s0, .i i1] w R := callsX X [eS0, eS3, eS5, eS4, eS2, eL1] h
end regex_tokenAt
namespace regex_tokens_1
noncomputable def C0 : Code := (Tryz.f84.body).getD .skip
noncomputable def C1:=C0.fs
noncomputable def C2:=C1.sn
noncomputable def C3:=C2.fs
noncomputable def C4:=C3.fs
noncomputable def C5:=C0.sn
abbrev Q0 (R : Post) : ExP := (Exit.then (wpx Tryz.prog (cx 39) C5 (bodyPost Tryz.prog Tryz.f84 R)) (bodyPost Tryz.prog Tryz.f84 R))
abbrev Q1 (R : Post) : ExP := (Exit.inBlock 0 (Q0 R))
/-- the head of the loop, text.go:36 -/
def L0 (yield0 : Nat) (t1 : Addr) (i3 : Int) (w : World) (R : Post) : Prop := LP Tryz.prog (cx 39) C4 (Q1 R) [(0, .func (.yield yield0) #[] #[]), (1, .pointer (some t1)), (3, .i i3)] w
def KE_L0 (E : Env) (w : World) (R : Post) : Prop := W.asYield (Env.get? E 0) fun yield0 => W.asRef (Env.get? E 1) fun t1 => W.asInt .i64 (Env.get? E 3) fun i3 => L0 yield0 t1 i3 w R
theorem KE_L0_ok : LOk Tryz.prog 39 KE_L0 C4 Q1 := by
  intro R E w h
  obtain ⟨yield0, hq0, h_1⟩ := W.asYield_elim h
  obtain ⟨t1, hq1, h_2⟩ := W.asRef_elim h_1
  obtain ⟨i3, hq3, h_3⟩ := W.asInt_elim h_2
  intro a ha
  exact h_3 a (ha.cons hq0 (ha.cons hq1 (ha.cons hq3 ha.nil)))
noncomputable def C6:=C4.fs
noncomputable def C7:=C4.sn
noncomputable def C8:=C7.fs
noncomputable def C9:=C8.fs
noncomputable def C10:=C9.sn
noncomputable def C11:=C10.fs
noncomputable def C12:=C8.sn
noncomputable def C13:=C12.sn
noncomputable def C14:=C13.fs
noncomputable def C15:=C13.sn
noncomputable def C16:=C6.sn
noncomputable def C17:=C16.fs
noncomputable def C18:=C11.sn
noncomputable def C19:=C10.sn
noncomputable def C20:=C14.sn
noncomputable def C21:=C20.fs
noncomputable def C22:=C20.sn
noncomputable def C23:=C16.sn
theorem L0_step (yield0 : Nat) (t1 : Addr) (i3 : Int) (w : World) (R : Post) (h : ∃ t7 : ByteArray, w.cell? t1 = some (.string t7) ∧ 
  sel (decide (i3 < ((t7.size : Nat) : Int))) (∃ t10 : ByteArray, w.cell? t1 = some (.string t10) ∧ 
  (0 : Int) ≤ i3 ∧ ∃ t12_b : UInt8, t10[Int.toNat i3]? = some t12_b ∧ sel (((t12_b.toNat : Nat) : Int) == 32) (L0 yield0 t1 (IntKind.wrap .i64 (i3 + 1)) w R) (∃ t17 : ByteArray, w.cell? t1 = some (.string t17) ∧ 
  ca10 n_regex_tokenAt #[.string t17, .i i3] w fun t19_0_0 t19_0_1 t19_0_2 t19_0_3 t19_0_4 t19_1 w1 => nwV w1 (.cells #[.int .u8 0, .int .u8 0, .int .u8 0, .s0, .i 0] ty_regex_token) fun w2 => 
  stW5 w2 (nb w1) (.int .u8 t19_0_0) (.int .u8 t19_0_1) (.int .u8 t19_0_2) (.string t19_0_3) (.i t19_0_4) fun w7 => ld5_1 w7 (nb w1) fun t23_0 t23_1 t23_2 t23_3 t23_4 => yieldB Tryz.prog yield0 #[.agg #[.int .u8 t23_0, .int .u8 t23_1, .int .u8 t23_2, .string t23_3, .i t23_4]] w7 fun (t24 : Bool) w8 => sel (!t24) (R (.returned (.tuple #[])) w8) (∃ t28 : Int, w8.cell? ((nb w1).add 0) = some (.int .u8 t28) ∧ 
  sel (t28 == 63) (R (.returned (.tuple #[])) w8) (L0 yield0 t1 (IntKind.wrap .i64 (i3 + t19_1)) w8 R)))) (∃ t35 : ByteArray, w.cell? t1 = some (.string t35) ∧ 
  yieldB Tryz.prog yield0 #[.agg #[.int .u8 36, .int .u8 0, .int .u8 0, .s0, .i ((t35.size : Nat) : Int)]] w fun (t38 : Bool) w9 => R (.returned (.tuple #[])) w9)) : L0 yield0 t1 i3 w R :=
  LP.step (n := (cx 39)) (c := C4) (E := [(0, .func (.yield yield0) #[] #[]), (1, .pointer (some t1)), (3, .i i3)]) (w := w) (sq C4 (sr C6 (show (fun (E : Env) (w : World) => srK Tryz.prog C6 (fun E w => condK (Env.val E (.tmp 9)) (srK Tryz.prog C9 (fun E w => condK (Env.val E (.tmp 13)) (srK Tryz.prog C11 (fun E w => KE_L0 E w R) E w) (srK Tryz.prog C12 (fun E w => srK Tryz.prog C14 (fun E w => condK (Env.val E (.tmp 30)) (retVC Tryz.prog Tryz.f84 E w (fun v => R (.returned v) w)) (rgK Tryz.prog C15 (fun E w => KE_L0 E w R) E w)) E w) E w)) E w) (rgK Tryz.prog C5 (fun E w => retVC Tryz.prog Tryz.f84 E w (fun v => R (.returned v) w)) E w)) E w) [(0, .func (.yield yield0) #[] #[]), (1, .pointer (some t1)), (3, .i i3)] w from mp h) fun _ _ hK => (cn C16 hK (fun hK => (sk C17 fun a hA => nx hA (bk C7 1 (by kernel_rfl) (sq C8 (sr C9 hK fun _ _ hK => (cn C10 hK (fun hK => (sr C11 hK fun _ _ hK => (xt C18 1 (by kernel_rfl) fun a hA => KE_L0_ok R _ _ hK a hA))) (fun hK => (sk C19 fun a hA => nx hA (sr C12 hK fun _ _ hK => (sq C13 (sr C14 hK fun _ _ hK => (cn C20 hK (fun hK => (rt C21 fun a hA => retVC_sound hA hK)) (fun hK => (sk C22 fun a hA => nx hA (rg C15 (by kernel_rfl) hK fun _ _ a hA hK => KE_L0_ok R _ _ hK a hA))))))))))))))) (fun hK => (xt C23 0 (by kernel_rfl) fun a hA => nx hA (rg C5 (by kernel_rfl) hK fun _ _ a hA hK => retVC_sound hA hK))))))
/-- enthymeme/regex.tokens$1 -/
theorem ok (yield0 : Nat) (t1 : Addr) (w : World) (R : Post) (h : L0 yield0 t1 0 w R) : Calls Tryz.prog n_regex_tokens_1 #[.func (.yield yield0) #[] #[], .pointer (some t1)] w R :=
  calls_of_WP' (R := R) (fn := Tryz.f84) (c := C0) (args := [.func (.yield yield0) #[] #[], .pointer (some t1)]) (by kernel_rfl) (by kernel_rfl) (by kernel_rfl) (sq C0 (sr C1 (show (fun (E : Env) (w : World) => srK Tryz.prog C1 (fun E w => KE_L0 E w R) E w) (envOf 0 [.func (.yield yield0) #[] #[], .pointer (some t1)]) w from mp h) fun _ _ hK => (bk C2 0 (by kernel_rfl) (lp C3 (by kernel_rfl) (KE_L0_ok R _ _ hK)))))
end regex_tokens_1
namespace regex_tokens
noncomputable abbrev X : Fx := ⟨Tryz.prog, Tryz.f70, [], []⟩
theorem ok (s0 : ByteArray) (w : World) (R : Post) (h : nwV w (.cells #[.string s0] ty_string) fun w1 => 
  R (.returned (.func (.func n_regex_tokens_1) #[] #[.pointer (some (nb w))])) w1) : Calls Tryz.prog n_regex_tokens #[.string s0] w R := callsX X [] h
end regex_tokens
namespace regex_one
noncomputable abbrev X : Fx := ⟨Tryz.prog, Tryz.f92, [], [4]⟩
theorem okT (kind0 : Int) (kids1 : Sl) (w : World) (R : Post) (h : newV [] w fun b4 w1 => 
  sel (((kids1.n : Nat) : Int) == 1) ((0 : Int) ≤ 0 ∧ 0 < ((kids1.n : Nat) : Int) ∧ optP kids1.a fun t9_p => ld4_0 w1 (t9_p.add (Int.toNat 0 * 4)) fun t10_0 t10_1 t10_2 t10_3 => loc [b4] w1 fun w5 => R (.returned (.agg #[.i t10_0, .int .u8 t10_1, .int .u8 t10_2, t10_3.v])) w5) (loc [b4] w1 fun w9 => R (.returned (.agg #[.i kind0, .int .u8 0, .int .u8 0, kids1.v])) w9)) : Calls Tryz.prog n_regex_one #[.i kind0, kids1.v] w R := callsX X [] h
end regex_one
namespace regex_frame_endItem
noncomputable def C0 : Code := (Tryz.f91.body).getD .skip
noncomputable def C1:=C0.sn
noncomputable def C2:=C1.fs
noncomputable def C3:=C2.fs
noncomputable def C4:=C3.fs
noncomputable def C5:=C1.sn
abbrev Q0 (R : Post) : ExP := (Exit.then (wpx Tryz.prog (cx 33) C5 (bodyPost Tryz.prog Tryz.f91 R)) (bodyPost Tryz.prog Tryz.f91 R))
abbrev Q1 (R : Post) : ExP := (Exit.inBlock 0 (Q0 R))
/-- the head of the loop, text.go:119 -/
def L0 (f0 r2 : Addr) (w : World) (R : Post) : Prop := LP Tryz.prog (cx 33) C4 (Q1 R) [(0, .pointer (some f0)), (2, .pointer (some r2))] w
def KE_L0 (E : Env) (w : World) (R : Post) : Prop := W.asRef (Env.get? E 0) fun f0 => W.asRef (Env.get? E 2) fun r2 => L0 f0 r2 w R
theorem KE_L0_ok : LOk Tryz.prog 33 KE_L0 C4 Q1 := by
  intro R E w h
  obtain ⟨f0, hq0, h_1⟩ := W.asRef_elim h
  obtain ⟨r2, hq2, h_2⟩ := W.asRef_elim h_1
  intro a ha
  exact h_2 a (ha.cons hq0 (ha.cons hq2 ha.nil))
noncomputable def C6:=C4.fs
noncomputable def C7:=C4.sn
noncomputable def C8:=C7.fs
noncomputable def C9:=C8.fs
noncomputable def C10:=C7.sn
noncomputable def C11:=C6.sn
noncomputable def C12:=C11.fs
noncomputable def C13:=C11.sn
theorem L0_step (f0 r2 : Addr) (w : World) (R : Post) (h : ∃ t10 : Int, w.cell? (f0.add 5) = some (.i t10) ∧ 
  sel (decide (t10 > 0)) (ld4_0 w r2 fun t19_0 t19_1 t19_2 t19_3 => nwV w (.cells #[.i t19_0, .int .u8 t19_1, .int .u8 t19_2, t19_3.v] ty_regex_Regex) fun w6 => 
  stW4 w6 r2 (.i 6) (.int .u8 0) (.int .u8 0) (.slice (some (nb w)) 1 1) fun w10 => ∃ t15 : Int, w10.cell? (f0.add 5) = some (.i t15) ∧ 
  stV w10 (f0.add 5) (.i (IntKind.wrap .i64 (t15 - 1))) fun w11 => 
  L0 f0 r2 w11 R) (drV w fun w12 => ∃ t25 : Sl, w12.cell? (f0.add 4) = some (t25.v) ∧ 
  ld4_0 w12 r2 fun t26_0 t26_1 t26_2 t26_3 => nwV w12 (.cells #[.i 0, .int .u8 0, .int .u8 0, .slice none 0 0] ty_regex_Regex) fun w13 => 
  hdW4 w13 r2 (.i t26_0) (.int .u8 t26_1) (.int .u8 t26_2) (t26_3.v) fun _ => w13.cell? (f0.add 4) = some (t25.v) ∧ ∃ (t29 : Sl) (w14 : World), Sem.run Tryz.prog (Builtin.append_ #[ty_sl_regex_Regex, ty_sl_regex_Regex] ty_sl_regex_Regex #[t25.v, .slice (some (nb w12)) 1 1]) w13 = .ok (t29.v) w14 ∧ (0 : Int) ≤ ((t25.n : Nat) : Int) ∧ ((t25.n : Nat) : Int) < ((t29.n : Nat) : Int) ∧ optP t29.a fun t30_p => ((stW4 w14 (t30_p.add (Int.toNat ((t25.n : Nat) : Int) * 4)) (.i t26_0) (.int .u8 t26_1) (.int .u8 t26_2) (t26_3.v) fun w18 => stV w18 (f0.add 4) (t29.v) fun w19 => 
  R (.returned (.tuple #[])) w19) ∧ (stV w14 (f0.add 4) (t29.v) fun w20 => 
  stV w20 (t30_p.add (Int.toNat ((t25.n : Nat) : Int) * 4)) (.i t26_0) fun w21 => 
  stV w21 ((t30_p.add (Int.toNat ((t25.n : Nat) : Int) * 4)).add 1) (.int .u8 t26_1) fun w22 => 
  stV w22 ((t30_p.add (Int.toNat ((t25.n : Nat) : Int) * 4)).add 2) (.int .u8 t26_2) fun w23 => 
  stV w23 ((t30_p.add (Int.toNat ((t25.n : Nat) : Int) * 4)).add 3) (t26_3.v) fun w24 => 
  R (.returned (.tuple #[])) w24)))) : L0 f0 r2 w R :=
  LP.step (n := (cx 33)) (c := C4) (E := [(0, .pointer (some f0)), (2, .pointer (some r2))]) (w := w) (sq C4 (sr C6 (show (fun (E : Env) (w : World) => srK Tryz.prog C6 (fun E w => condK (Env.val E (.tmp 11)) (rgK Tryz.prog C9 (fun E w => rgK Tryz.prog C10 (fun E w => KE_L0 E w R) E w) E w) (tgK Tryz.prog C5 (.one 0 (.one 1 (.one 2 (.one 3 (.one 4 (.one 5 (.one 6 (.one 7 (.one 8 (.one 10 (.one 11 (.fork (.one 9 (.one 12 .nil)) (.one 12 (.one 9 .nil)))))))))))))) (fun E w => retVC Tryz.prog Tryz.f91 E w (fun v => R (.returned v) w)) E w)) E w) [(0, .pointer (some f0)), (2, .pointer (some r2))] w from mp h) fun _ _ hK => (cn C11 hK (fun hK => (sk C12 fun a hA => nx hA (sq C7 (bk C8 1 (by kernel_rfl) (rg C9 (by kernel_rfl) hK fun _ _ a hA hK => nx hA (rg C10 (by kernel_rfl) hK fun _ _ a hA hK => KE_L0_ok R _ _ hK a hA)))))) (fun hK => (xt C13 0 (by kernel_rfl) fun a hA => nx hA (tg C5 (by kernel_rfl) hK fun _ _ a hA hK => retVC_sound hA hK))))))
/-- (*enthymeme/regex.frame).endItem -/
theorem ok (f0 : Addr) (w : World) (R : Post) (h : ld4_0 w (f0.add 6) fun t6_0 t6_1 t6_2 t6_3 => nwV w (.cells #[.i 0, .int .u8 0, .int .u8 0, .slice none 0 0] ty_regex_Regex) fun w1 => 
  stW4 w1 (nb w) (.i t6_0) (.int .u8 t6_1) (.int .u8 t6_2) (t6_3.v) fun w5 => L0 f0 (nb w) w5 R) : Calls Tryz.prog n_regex_frame_endItem #[.pointer (some f0)] w R :=
  calls_of_WP' (R := R) (fn := Tryz.f91) (c := C0) (args := [.pointer (some f0)]) (by kernel_rfl) (by kernel_rfl) (by kernel_rfl) (sr C0 (show (fun (E : Env) (w : World) => srK Tryz.prog C0 (fun E w => KE_L0 E w R) E w) (envOf 0 [.pointer (some f0)]) w from mp h) fun _ _ hK => (sq C1 (bk C2 0 (by kernel_rfl) (lp C3 (by kernel_rfl) (KE_L0_ok R _ _ hK)))))
def L0T (f0 : Addr) (r2 : Nat) (r2_0 r2_1 r2_2 : Int) (r2_3 : Sl) (w : World) (R : Post) : Prop := LC w [(r2, [.i r2_0, .int .u8 r2_1, .int .u8 r2_2, r2_3.v], ty_regex_Regex)] → L0 f0 (at0 r2) w R
theorem L0T_step (f0 : Addr) (r2 : Nat) (r2_0 r2_1 r2_2 : Int) (r2_3 : Sl) (w : World) (R : Post) (h : ∃ t10 : Int, w.cell? (f0.add 5) = some (.i t10) ∧ 
  sel (decide (t10 > 0)) (nwV w (.cells #[.i r2_0, .int .u8 r2_1, .int .u8 r2_2, r2_3.v] ty_regex_Regex) fun w6 => 
  loc [r2] w6 fun w10 => ∃ t15 : Int, w10.cell? (f0.add 5) = some (.i t15) ∧ 
  stV w10 (f0.add 5) (.i (IntKind.wrap .i64 (t15 - 1))) fun w11 => kept [r2] w10 w11 ∧ 
  L0T f0 r2 6 0 0 ⟨some (nb w), 1, 1⟩ w11 R) (loc [r2] w fun w12 => ∃ t25 : Sl, w12.cell? (f0.add 4) = some (t25.v) ∧ 
  nwV w12 (.cells #[.i 0, .int .u8 0, .int .u8 0, .slice none 0 0] ty_regex_Regex) fun w13 => 
  w13.cell? (f0.add 4) = some (t25.v) ∧ ∃ (t29 : Sl) (w14 : World), Sem.run Tryz.prog (Builtin.append_ #[ty_sl_regex_Regex, ty_sl_regex_Regex] ty_sl_regex_Regex #[t25.v, .slice (some (nb w12)) 1 1]) w13 = .ok (t29.v) w14 ∧ kept [r2] w13 w14 ∧ (0 : Int) ≤ ((t25.n : Nat) : Int) ∧ ((t25.n : Nat) : Int) < ((t29.n : Nat) : Int) ∧ optP t29.a fun t30_p => ((stV w14 (t30_p.add (Int.toNat ((t25.n : Nat) : Int) * 4)) (.i r2_0) fun w15 => kept [r2] w14 w15 ∧ 
  stV w15 ((t30_p.add (Int.toNat ((t25.n : Nat) : Int) * 4)).add 1) (.int .u8 r2_1) fun w16 => kept [r2] w15 w16 ∧ 
  stV w16 ((t30_p.add (Int.toNat ((t25.n : Nat) : Int) * 4)).add 2) (.int .u8 r2_2) fun w17 => kept [r2] w16 w17 ∧ 
  stV w17 ((t30_p.add (Int.toNat ((t25.n : Nat) : Int) * 4)).add 3) (r2_3.v) fun w18 => kept [r2] w17 w18 ∧ 
  stV w18 (f0.add 4) (t29.v) fun w19 => kept [r2] w18 w19 ∧ 
  R (.returned (.tuple #[])) w19) ∧ (stV w14 (f0.add 4) (t29.v) fun w20 => kept [r2] w14 w20 ∧ 
  stV w20 (t30_p.add (Int.toNat ((t25.n : Nat) : Int) * 4)) (.i r2_0) fun w21 => kept [r2] w20 w21 ∧ 
  stV w21 ((t30_p.add (Int.toNat ((t25.n : Nat) : Int) * 4)).add 1) (.int .u8 r2_1) fun w22 => kept [r2] w21 w22 ∧ 
  stV w22 ((t30_p.add (Int.toNat ((t25.n : Nat) : Int) * 4)).add 2) (.int .u8 r2_2) fun w23 => kept [r2] w22 w23 ∧ 
  stV w23 ((t30_p.add (Int.toNat ((t25.n : Nat) : Int) * 4)).add 3) (r2_3.v) fun w24 => kept [r2] w23 w24 ∧ 
  R (.returned (.tuple #[])) w24)))) : L0T f0 r2 r2_0 r2_1 r2_2 r2_3 w R := fun H => L0_step _ _ w R (let ⟨t10, hc0, h⟩ := h; ⟨t10, hc0, sel_imp h (fun h => ⟨_, _, _, r2_3, H.ld 0 0, H.ld 0 1, H.ld 0 2, H.ld 0 3, LC.nwN H h fun w6 H h => LC.stT0 H 0 (Fr.refl _ _) rfl rfl fun w7 H f => LC.stT H 0 1 f rfl rfl fun w8 H f => LC.stT H 0 2 f rfl rfl fun w9 H f => LC.stT H 0 3 f rfl rfl fun w10 (H : LC w10 [(r2, [.i 6, .int .u8 0, .int .u8 0, .slice (some (nb w)) 1 1], ty_regex_Regex)]) (f : Fr (· ∈ [r2]) _ w10) => have h := h _ f; let ⟨t15, hc0, h⟩ := h; ⟨t15, hc0, stV_imp h fun w11 h => have H := LC.keptT H h.1; have h := h.2; h H⟩⟩) (fun h => LC.drT H (Fr.refl _ _) fun w12 H f => have h := h _ f; let ⟨t25, hc0, h⟩ := h; ⟨t25, hc0, ⟨_, _, _, r2_3, H.ld 0 0, H.ld 0 1, H.ld 0 2, H.ld 0 3, LC.nwN H h fun w13 H h => ⟨H.ld 0 0, H.ld 0 1, H.ld 0 2, H.ld 0 3, h.1, have h := h.2; let ⟨t29, w14, he, hk, h⟩ := h; have H := LC.keptT H hk; ⟨t29, w14, he, ⟨h.1, h.2.1, have h := h.2.2; optP_imp h fun t30_p h => ⟨have h := h.1; stV_imp h fun w15 h => have H := LC.keptT H h.1; have h := h.2; stV_imp h fun w16 h => have H := LC.keptT H h.1; have h := h.2; stV_imp h fun w17 h => have H := LC.keptT H h.1; have h := h.2; stV_imp h fun w18 h => have H := LC.keptT H h.1; have h := h.2; stV_imp h fun w19 h => have H := LC.keptT H h.1; have h := h.2; h, have h := h.2; stV_imp h fun w20 h => have H := LC.keptT H h.1; have h := h.2; stV_imp h fun w21 h => have H := LC.keptT H h.1; have h := h.2; stV_imp h fun w22 h => have H := LC.keptT H h.1; have h := h.2; stV_imp h fun w23 h => have H := LC.keptT H h.1; have h := h.2; stV_imp h fun w24 h => have H := LC.keptT H h.1; have h := h.2; h⟩⟩⟩⟩⟩⟩)⟩)
theorem okT (f0 : Addr) (w : World) (R : Post) (h : ld4_0 w (f0.add 6) fun t6_0 t6_1 t6_2 t6_3 => newV [] w fun b2 w1 => 
  loc [b2] w1 fun w5 => L0T f0 b2 t6_0 t6_1 t6_2 t6_3 w5 R) : Calls Tryz.prog n_regex_frame_endItem #[.pointer (some f0)] w R :=
  ok _ w R (let ⟨t6_0, t6_1, t6_2, t6_3, hc0, hc1, hc2, hc3, h⟩ := h; ⟨t6_0, t6_1, t6_2, t6_3, hc0, hc1, hc2, hc3, LC.nwT (LC.nil _) (Fr.refl _ _) h fun w1 H h => LC.stT0 H 0 (Fr.refl _ _) rfl rfl fun w2 H f => LC.stT H 0 1 f rfl rfl fun w3 H f => LC.stT H 0 2 f rfl rfl fun w4 H f => LC.stT H 0 3 f rfl rfl fun w5 (H : LC w5 [(w.heap.size, [.i t6_0, .int .u8 t6_1, .int .u8 t6_2, t6_3.v], ty_regex_Regex)]) (f : Fr (· ∈ [w.heap.size]) _ w5) => have h := h _ f; h H⟩)
end regex_frame_endItem
namespace regex_frame_endSeq
noncomputable def C0 : Code := (Tryz.f89.body).getD .skip
noncomputable def C1:=C0.sn
noncomputable def C2:=C1.sn
abbrev Q0 (R : Post) : ExP := (bodyPost Tryz.prog Tryz.f89 R)
/-- text.go:128 -/
abbrev S0 (f0 : Addr) (w : World) (R : Post) : Prop :=
  stV w (f0.add 4) (.slice none 0 0) fun w1 => 
  R (.returned (.tuple #[])) w1
def KE_S0 (E : Env) (w : World) (R : Post) : Prop := W.asRef (Env.get? E 0) fun f0 => S0 f0 w R
theorem KE_S0_ok : KOk Tryz.prog 22 KE_S0 C2 Q0 := by
  intro R E w h
  obtain ⟨f0, hq0, h_1⟩ := W.asRef_elim h
  exact fun a ha => WP.at (E := [(0, .pointer (some f0))]) (rg C2 (K := fun E w => retVC Tryz.prog Tryz.f89 E w (fun v => R (.returned v) w)) (by kernel_rfl) (mp h_1) fun _ _ a hA hK => retVC_sound hA hK) (ha.cons hq0 ha.nil)
/-- (*enthymeme/regex.frame).endSeq -/
theorem ok (f0 : Addr) (w : World) (R : Post) (h : ca4 n_regex_frame_endItem #[.pointer (some f0)] w fun w1 => drV w1 fun w2 => ∃ t7 : Sl, w2.cell? (f0.add 3) = some (t7.v) ∧ 
  ∃ t11 : Sl, w2.cell? (f0.add 4) = some (t11.v) ∧ 
  ((ca2 n_regex_one #[.i 3, t11.v] w2 fun t12_0 t12_1 t12_2 t12_3 w3 => w3.cell? (f0.add 3) = some (t7.v) ∧ nwV w3 (.cells #[.i 0, .int .u8 0, .int .u8 0, .slice none 0 0] ty_regex_Regex) fun w4 => 
  w4.cell? (f0.add 3) = some (t7.v) ∧ ∃ (t15 : Sl) (w5 : World), Sem.run Tryz.prog (Builtin.append_ #[ty_sl_regex_Regex, ty_sl_regex_Regex] ty_sl_regex_Regex #[t7.v, .slice (some (nb w3)) 1 1]) w4 = .ok (t15.v) w5 ∧ (0 : Int) ≤ ((t7.n : Nat) : Int) ∧ ((t7.n : Nat) : Int) < ((t15.n : Nat) : Int) ∧ optP t15.a fun t16_p => ((stW4 w5 (t16_p.add (Int.toNat ((t7.n : Nat) : Int) * 4)) (.i t12_0) (.int .u8 t12_1) (.int .u8 t12_2) (t12_3.v) fun w9 => stV w9 (f0.add 3) (t15.v) fun w10 => 
  S0 f0 w10 R) ∧ (stV w5 (f0.add 3) (t15.v) fun w11 => 
  stV w11 (t16_p.add (Int.toNat ((t7.n : Nat) : Int) * 4)) (.i t12_0) fun w12 => 
  stV w12 ((t16_p.add (Int.toNat ((t7.n : Nat) : Int) * 4)).add 1) (.int .u8 t12_1) fun w13 => 
  stV w13 ((t16_p.add (Int.toNat ((t7.n : Nat) : Int) * 4)).add 2) (.int .u8 t12_2) fun w14 => 
  stV w14 ((t16_p.add (Int.toNat ((t7.n : Nat) : Int) * 4)).add 3) (t12_3.v) fun w15 => 
  S0 f0 w15 R))) ∧ (nwV w2 (.cells #[.i 0, .int .u8 0, .int .u8 0, .slice none 0 0] ty_regex_Regex) fun w16 => 
  w16.cell? (f0.add 4) = some (t11.v) ∧ w16.cell? (f0.add 3) = some (t7.v) ∧ ca2 n_regex_one #[.i 3, t11.v] w16 fun t12_x1_0 t12_x1_1 t12_x1_2 t12_x1_3 w17 => w17.cell? (f0.add 3) = some (t7.v) ∧ ∃ (t15_x1 : Sl) (w18 : World), Sem.run Tryz.prog (Builtin.append_ #[ty_sl_regex_Regex, ty_sl_regex_Regex] ty_sl_regex_Regex #[t7.v, .slice (some (nb w2)) 1 1]) w17 = .ok (t15_x1.v) w18 ∧ (0 : Int) ≤ ((t7.n : Nat) : Int) ∧ ((t7.n : Nat) : Int) < ((t15_x1.n : Nat) : Int) ∧ optP t15_x1.a fun t16_x1_p => ((stW4 w18 (t16_x1_p.add (Int.toNat ((t7.n : Nat) : Int) * 4)) (.i t12_x1_0) (.int .u8 t12_x1_1) (.int .u8 t12_x1_2) (t12_x1_3.v) fun w22 => stV w22 (f0.add 3) (t15_x1.v) fun w23 => 
  S0 f0 w23 R) ∧ (stV w18 (f0.add 3) (t15_x1.v) fun w24 => 
  stV w24 (t16_x1_p.add (Int.toNat ((t7.n : Nat) : Int) * 4)) (.i t12_x1_0) fun w25 => 
  stV w25 ((t16_x1_p.add (Int.toNat ((t7.n : Nat) : Int) * 4)).add 1) (.int .u8 t12_x1_1) fun w26 => 
  stV w26 ((t16_x1_p.add (Int.toNat ((t7.n : Nat) : Int) * 4)).add 2) (.int .u8 t12_x1_2) fun w27 => 
  stV w27 ((t16_x1_p.add (Int.toNat ((t7.n : Nat) : Int) * 4)).add 3) (t12_x1_3.v) fun w28 => 
  S0 f0 w28 R))))) : Calls Tryz.prog n_regex_frame_endSeq #[.pointer (some f0)] w R :=
  calls_of_WP' (R := R) (fn := Tryz.f89) (c := C0) (args := [.pointer (some f0)]) (by kernel_rfl) (by kernel_rfl) (by kernel_rfl) (sr C0 (show (fun (E : Env) (w : World) => srK Tryz.prog C0 (fun E w => stK Tryz.prog C1 (.one 0 (.one 1 (.one 2 (.one 3 (.one 4 (.one 5 (.one 6 (.one 7 (.one 9 (.fork (.one 8 (.one 10 (.one 11 (.one 12 (.one 14 (.one 15 (.fork (.one 13 (.one 16 .nil)) (.one 16 (.one 13 .nil))))))))) (.one 10 (.one 8 (.one 11 (.one 12 (.one 14 (.one 15 (.fork (.one 13 (.one 16 .nil)) (.one 16 (.one 13 .nil))))))))))))))))))) (fun E w => KE_S0 E w R) E w) E w) (envOf 0 [.pointer (some f0)]) w from mp h) fun _ _ hK => (st C1 (by kernel_rfl) hK fun _ _ hK => (KE_S0_ok R _ _ hK)))
end regex_frame_endSeq
namespace regex_frame_endConj
noncomputable def C0 : Code := (Tryz.f90.body).getD .skip
noncomputable def C1:=C0.sn
noncomputable def C2:=C1.sn
abbrev Q0 (R : Post) : ExP := (bodyPost Tryz.prog Tryz.f90 R)
/-- text.go:134 -/
abbrev S0 (f0 : Addr) (w : World) (R : Post) : Prop :=
  stV w (f0.add 3) (.slice none 0 0) fun w1 => 
  R (.returned (.tuple #[])) w1
def KE_S0 (E : Env) (w : World) (R : Post) : Prop := W.asRef (Env.get? E 0) fun f0 => S0 f0 w R
theorem KE_S0_ok : KOk Tryz.prog 22 KE_S0 C2 Q0 := by
  intro R E w h
  obtain ⟨f0, hq0, h_1⟩ := W.asRef_elim h
  exact fun a ha => WP.at (E := [(0, .pointer (some f0))]) (rg C2 (K := fun E w => retVC Tryz.prog Tryz.f90 E w (fun v => R (.returned v) w)) (by kernel_rfl) (mp h_1) fun _ _ a hA hK => retVC_sound hA hK) (ha.cons hq0 ha.nil)
/-- (*enthymeme/regex.frame).endConj -/
theorem ok (f0 : Addr) (w : World) (R : Post) (h : ca4 n_regex_frame_endSeq #[.pointer (some f0)] w fun w1 => drV w1 fun w2 => ∃ t7 : Sl, w2.cell? (f0.add 2) = some (t7.v) ∧ 
  ∃ t11 : Sl, w2.cell? (f0.add 3) = some (t11.v) ∧ 
  ((ca2 n_regex_one #[.i 5, t11.v] w2 fun t12_0 t12_1 t12_2 t12_3 w3 => w3.cell? (f0.add 2) = some (t7.v) ∧ nwV w3 (.cells #[.i 0, .int .u8 0, .int .u8 0, .slice none 0 0] ty_regex_Regex) fun w4 => 
  w4.cell? (f0.add 2) = some (t7.v) ∧ ∃ (t15 : Sl) (w5 : World), Sem.run Tryz.prog (Builtin.append_ #[ty_sl_regex_Regex, ty_sl_regex_Regex] ty_sl_regex_Regex #[t7.v, .slice (some (nb w3)) 1 1]) w4 = .ok (t15.v) w5 ∧ (0 : Int) ≤ ((t7.n : Nat) : Int) ∧ ((t7.n : Nat) : Int) < ((t15.n : Nat) : Int) ∧ optP t15.a fun t16_p => ((stW4 w5 (t16_p.add (Int.toNat ((t7.n : Nat) : Int) * 4)) (.i t12_0) (.int .u8 t12_1) (.int .u8 t12_2) (t12_3.v) fun w9 => stV w9 (f0.add 2) (t15.v) fun w10 => 
  S0 f0 w10 R) ∧ (stV w5 (f0.add 2) (t15.v) fun w11 => 
  stV w11 (t16_p.add (Int.toNat ((t7.n : Nat) : Int) * 4)) (.i t12_0) fun w12 => 
  stV w12 ((t16_p.add (Int.toNat ((t7.n : Nat) : Int) * 4)).add 1) (.int .u8 t12_1) fun w13 => 
  stV w13 ((t16_p.add (Int.toNat ((t7.n : Nat) : Int) * 4)).add 2) (.int .u8 t12_2) fun w14 => 
  stV w14 ((t16_p.add (Int.toNat ((t7.n : Nat) : Int) * 4)).add 3) (t12_3.v) fun w15 => 
  S0 f0 w15 R))) ∧ (nwV w2 (.cells #[.i 0, .int .u8 0, .int .u8 0, .slice none 0 0] ty_regex_Regex) fun w16 => 
  w16.cell? (f0.add 3) = some (t11.v) ∧ w16.cell? (f0.add 2) = some (t7.v) ∧ ca2 n_regex_one #[.i 5, t11.v] w16 fun t12_x1_0 t12_x1_1 t12_x1_2 t12_x1_3 w17 => w17.cell? (f0.add 2) = some (t7.v) ∧ ∃ (t15_x1 : Sl) (w18 : World), Sem.run Tryz.prog (Builtin.append_ #[ty_sl_regex_Regex, ty_sl_regex_Regex] ty_sl_regex_Regex #[t7.v, .slice (some (nb w2)) 1 1]) w17 = .ok (t15_x1.v) w18 ∧ (0 : Int) ≤ ((t7.n : Nat) : Int) ∧ ((t7.n : Nat) : Int) < ((t15_x1.n : Nat) : Int) ∧ optP t15_x1.a fun t16_x1_p => ((stW4 w18 (t16_x1_p.add (Int.toNat ((t7.n : Nat) : Int) * 4)) (.i t12_x1_0) (.int .u8 t12_x1_1) (.int .u8 t12_x1_2) (t12_x1_3.v) fun w22 => stV w22 (f0.add 2) (t15_x1.v) fun w23 => 
  S0 f0 w23 R) ∧ (stV w18 (f0.add 2) (t15_x1.v) fun w24 => 
  stV w24 (t16_x1_p.add (Int.toNat ((t7.n : Nat) : Int) * 4)) (.i t12_x1_0) fun w25 => 
  stV w25 ((t16_x1_p.add (Int.toNat ((t7.n : Nat) : Int) * 4)).add 1) (.int .u8 t12_x1_1) fun w26 => 
  stV w26 ((t16_x1_p.add (Int.toNat ((t7.n : Nat) : Int) * 4)).add 2) (.int .u8 t12_x1_2) fun w27 => 
  stV w27 ((t16_x1_p.add (Int.toNat ((t7.n : Nat) : Int) * 4)).add 3) (t12_x1_3.v) fun w28 => 
  S0 f0 w28 R))))) : Calls Tryz.prog n_regex_frame_endConj #[.pointer (some f0)] w R :=
  calls_of_WP' (R := R) (fn := Tryz.f90) (c := C0) (args := [.pointer (some f0)]) (by kernel_rfl) (by kernel_rfl) (by kernel_rfl) (sr C0 (show (fun (E : Env) (w : World) => srK Tryz.prog C0 (fun E w => stK Tryz.prog C1 (.one 0 (.one 1 (.one 2 (.one 3 (.one 4 (.one 5 (.one 6 (.one 7 (.one 9 (.fork (.one 8 (.one 10 (.one 11 (.one 12 (.one 14 (.one 15 (.fork (.one 13 (.one 16 .nil)) (.one 16 (.one 13 .nil))))))))) (.one 10 (.one 8 (.one 11 (.one 12 (.one 14 (.one 15 (.fork (.one 13 (.one 16 .nil)) (.one 16 (.one 13 .nil))))))))))))))))))) (fun E w => KE_S0 E w R) E w) E w) (envOf 0 [.pointer (some f0)]) w from mp h) fun _ _ hK => (st C1 (by kernel_rfl) hK fun _ _ hK => (KE_S0_ok R _ _ hK)))
end regex_frame_endConj
namespace regex_frame_endExpr
noncomputable abbrev X : Fx := ⟨Tryz.prog, Tryz.f73, [], [2, 3]⟩
theorem okT (f0 : Addr) (w : World) (R : Post) (h : newV [] w fun b2 w1 => 
  cf4 [b2] n_regex_frame_endConj #[.pointer (some f0)] w1 fun w2 => ∃ t9 : Sl, w2.cell? (f0.add 2) = some (t9.v) ∧ 
  cf2 [b2] n_regex_one #[.i 4, t9.v] w2 fun t10_0 t10_1 t10_2 t10_3 w3 => newV [b2] w3 fun b3 w4 => 
  loc [b2, b3] w4 fun w8 => stV w8 (f0.add 2) (.slice none 0 0) fun w9 => kept [b2, b3] w8 w9 ∧ 
  loc [b2, b3] w9 fun w13 => R (.returned (.agg #[.i t10_0, .int .u8 t10_1, .int .u8 t10_2, t10_3.v])) w13) : Calls Tryz.prog n_regex_frame_endExpr #[.pointer (some f0)] w R := callsX X [] h
end regex_frame_endExpr
namespace regex_reader_top
noncomputable abbrev X : Fx := ⟨Tryz.prog, Tryz.f72, [(1,[0,1,2,3,4,5,6,7,8,9,10,11])], []⟩
theorem ok (r0 : Addr) (w : World) (R : Post) (h : drV w fun w1 => ∃ t6 : Sl, w1.cell? (r0.add 0) = some (t6.v) ∧ 
  ∃ t10 : Sl, w1.cell? (r0.add 0) = some (t10.v) ∧ 
  (0 : Int) ≤ (IntKind.wrap .i64 (((t10.n : Nat) : Int) - 1)) ∧ (IntKind.wrap .i64 (((t10.n : Nat) : Int) - 1)) < ((t6.n : Nat) : Int) ∧ optP t6.a fun t13_p => R (.returned (.pointer (some (t13_p.add (Int.toNat (IntKind.wrap .i64 (((t10.n : Nat) : Int) - 1)) * 10))))) w1) : Calls Tryz.prog n_regex_reader_top #[.pointer (some r0)] w R := callsX X [] h
end regex_reader_top
namespace regex_reader_push
noncomputable abbrev X : Fx := ⟨Tryz.prog, Tryz.f86, [], []⟩
theorem ok (r0 : Addr) (kind1 state2 : Int) (w : World) (R : Post) (h : ∃ t11 : Sl, w.cell? (r0.add 0) = some (t11.v) ∧ 
  nwV w (.cells #[.i kind1, .slice none 0 0, .slice none 0 0, .slice none 0 0, .slice none 0 0, .i 0, .i 0, .int .u8 0, .int .u8 0, .slice none 0 0] ty_regex_frame) fun w1 => 
  ∃ (t15 : Sl) (w2 : World), Sem.run Tryz.prog (Builtin.append_ #[ty_sl_regex_frame, ty_sl_regex_frame] ty_sl_regex_frame #[t11.v, .slice (some (nb w)) 1 1]) w1 = .ok (t15.v) w2 ∧ stV w2 (r0.add 0) (t15.v) fun w3 => 
  stV w3 (r0.add 1) (.i state2) fun w4 => 
  R (.returned (.bool true)) w4) : Calls Tryz.prog n_regex_reader_push #[.pointer (some r0), .i kind1, .i state2] w R := callsX X [] h
end regex_reader_push
namespace regex_reader_atom
noncomputable abbrev X : Fx := ⟨Tryz.prog, Tryz.f106, [(1,[0,2,1,3,4,5])], [3]⟩
theorem okT (r0 : Addr) (x1_0 x1_1 x1_2 : Int) (x1_3 : Sl) (w : World) (R : Post) (h : newV [] w fun b3 w1 => 
  loc [b3] w1 fun w2 => cf11 [b3] n_regex_reader_top #[.pointer (some r0)] w2 fun t6 w3 => optP t6 fun t8_p => stV w3 (t8_p.add 6) (.i x1_0) fun w4 => kept [b3] w3 w4 ∧ 
  stV w4 ((t8_p.add 6).add 1) (.int .u8 x1_1) fun w5 => kept [b3] w4 w5 ∧ 
  stV w5 ((t8_p.add 6).add 2) (.int .u8 x1_2) fun w6 => kept [b3] w5 w6 ∧ 
  stV w6 ((t8_p.add 6).add 3) (x1_3.v) fun w7 => kept [b3] w6 w7 ∧ 
  stV w7 (r0.add 1) (.i 3) fun w8 => kept [b3] w7 w8 ∧ 
  R (.returned (.bool true)) w8) : Calls Tryz.prog n_regex_reader_atom #[.pointer (some r0), .agg #[.i x1_0, .int .u8 x1_1, .int .u8 x1_2, x1_3.v]] w R := callsX X [] h
end regex_reader_atom
namespace regex_reader_close
noncomputable abbrev X : Fx := ⟨Tryz.prog, Tryz.f87, [(2,[0,1,2,3,4,5,6,7,8,9,10,11,12,13,14])], []⟩
theorem ok (r0 : Addr) (args1 : Sl) (w : World) (R : Post) (h : ca11 n_regex_reader_top #[.pointer (some r0)] w fun t7 w1 => optP t7 fun t8_p => ∃ t10 : Int, w1.cell? (t8_p.add 0) = some (.i t10) ∧ 
  drV w1 fun w2 => ∃ t15 : Sl, w2.cell? (r0.add 0) = some (t15.v) ∧ 
  ∃ t19 : Sl, w2.cell? (r0.add 0) = some (t19.v) ∧ 
  (0 : Int) ≤ (IntKind.wrap .i64 (((t19.n : Nat) : Int) - 1)) ∧ (IntKind.wrap .i64 (((t19.n : Nat) : Int) - 1)) ≤ ((t15.c : Nat) : Int) ∧ stV w2 (r0.add 0) (.slice (if t15.c = 0 then t15.a else t15.a.map (·.add (0 * 10))) ((Int.toNat (IntKind.wrap .i64 (((t19.n : Nat) : Int) - 1))) - 0) (t15.c - 0)) fun w3 => 
  sel (decide (t10 < 0)) ((0 : Int) ≤ 0 ∧ 0 < ((args1.n : Nat) : Int) ∧ optP args1.a fun t29_p => ld4_0 w3 (t29_p.add (Int.toNat 0 * 4)) fun t30_0 t30_1 t30_2 t30_3 => ca1 n_regex_reader_atom #[.pointer (some r0), .agg #[.i t30_0, .int .u8 t30_1, .int .u8 t30_2, t30_3.v]] w3 fun t31 w4 => R (.returned (.bool t31)) w4) (ca1 n_regex_reader_atom #[.pointer (some r0), .agg #[.i t10, .int .u8 0, .int .u8 0, args1.v]] w3 fun t36 w5 => R (.returned (.bool t36)) w5)) : Calls Tryz.prog n_regex_reader_close #[.pointer (some r0), args1.v] w R := callsX X [] h
end regex_reader_close
namespace regex_reader_item
noncomputable abbrev X : Fx := ⟨Tryz.prog, Tryz.f88, [], [3]⟩
abbrev P0 : Ps := []
abbrev S0T  (w : World) (R : Post) : Prop :=
  R (.returned (.bool true)) w
noncomputable def eS0 := entS X [] (pth [2, 1, 7, 1, 1, 1, 1]) P0 S0T
theorem okT (r0 : Addr) (t1_0 t1_1 t1_2 : Int) (t1_3 : ByteArray) (t1_4 : Int) (w : World) (R : Post) (h : newV [] w fun b3 w1 => 
  sel (t1_0 == 33) (cf11 [b3] n_regex_reader_top #[.pointer (some r0)] w1 fun t10 w2 => optP t10 fun t11_p => ∃ t13 : Int, w2.cell? (t11_p.add 5) = some (.i t13) ∧ 
  optP t10 fun t15_p => stV w2 (t15_p.add 5) (.i (IntKind.wrap .i64 (t13 + 1))) fun w3 => kept [b3] w2 w3 ∧ 
  stV w3 (r0.add 1) (.i 0) fun w4 => kept [b3] w3 w4 ∧ 
  R (.returned (.bool true)) w4) (sel (t1_0 == 40) (cf1 [b3] n_regex_reader_push #[.pointer (some r0), .i (-1), .i 0] w1 fun t23 w5 => R (.returned (.bool t23)) w5) (sel (t1_0 == 114) (cf1 [b3] n_regex_reader_atom #[.pointer (some r0), .agg #[.i 2, .int .u8 t1_1, .int .u8 t1_2, .slice none 0 0]] w1 fun t32 w6 => R (.returned (.bool t32)) w6) (sel (t1_0 == 119) (stV w1 (r0.add 1) (.i 2) fun w7 => kept [b3] w1 w7 ∧ 
  sel (t1_3.toList == (ByteArray.mk #[110, 111, 110, 101]).toList) (cf1 [b3] n_regex_reader_atom #[.pointer (some r0), .agg #[.i 0, .int .u8 0, .int .u8 0, .slice none 0 0]] w7 fun t44 w8 => R (.returned (.bool t44)) w8) (sel (t1_3.toList == (ByteArray.mk #[101, 109, 112, 116, 121]).toList) (cf1 [b3] n_regex_reader_atom #[.pointer (some r0), .agg #[.i 1, .int .u8 0, .int .u8 0, .slice none 0 0]] w7 fun t49 w9 => R (.returned (.bool t49)) w9) (sel (t1_3.toList == (ByteArray.mk #[97, 108, 116]).toList) (stV w7 (r0.add 2) (.i 4) fun w10 => kept [b3] w7 w10 ∧ 
  S0T  w10 R) (sel (t1_3.toList == (ByteArray.mk #[97, 108, 108]).toList) (stV w7 (r0.add 2) (.i 5) fun w11 => kept [b3] w7 w11 ∧ 
  S0T  w11 R) (sel (t1_3.toList == (ByteArray.mk #[99, 97, 116]).toList) (stV w7 (r0.add 2) (.i 3) fun w12 => kept [b3] w7 w12 ∧ 
  S0T  w12 R) (R (.returned (.bool false)) w7)))))) (R (.returned (.bool false)) w1))))) : Calls Tryz.prog n_regex_reader_item #[.pointer (some r0), .agg #[.int .u8 t1_0, .int .u8 t1_1, .int .u8 t1_2, .string t1_3, .i t1_4]] w R := callsX X [eS0] h
end regex_reader_item
namespace regex_reader_feed
noncomputable def C0 : Code := (Tryz.f71.body).getD .skip
noncomputable def C1:=C0.sn
noncomputable def C2:=C1.sn
noncomputable def C3:=C2.sn
noncomputable def C4:=C3.sn
abbrev Q0 (R : Post) : ExP := (bodyPost Tryz.prog Tryz.f71 R)
noncomputable def C5:=C4.sn
/-- text.go:220 -/
abbrev S0  (w : World) (R : Post) : Prop :=
  R (.returned (.bool true)) w
def KE_S0 (E : Env) (w : World) (R : Post) : Prop := S0  w R
theorem KE_S0_ok : KOk Tryz.prog 122 KE_S0 C4 Q0 := by
  intro R E w h
  exact fun a ha => WP.at (E := []) (sr C4 (K := fun E w => retVC Tryz.prog Tryz.f71 E w (fun v => R (.returned v) w)) (mp h) fun _ _ hK => (rt C5 fun a hA => retVC_sound hA hK)) ha.nil
noncomputable def C6:=C3.fs
noncomputable def C7:=C6.sn
noncomputable def C8:=C7.fs
noncomputable def C9:=C8.sn
noncomputable def C10:=C9.sn
noncomputable def C11:=C10.sn
noncomputable def C12:=C11.sn
noncomputable def C13:=C12.sn
noncomputable def C14:=C13.sn
noncomputable def C15:=C14.sn
noncomputable def C16:=C15.fs
noncomputable def C17:=C16.sn
noncomputable def C18:=C17.sn
abbrev Q1 (R : Post) : ExP := (Exit.then (wpx Tryz.prog (cx 122) C4 (bodyPost Tryz.prog Tryz.f71 R)) (bodyPost Tryz.prog Tryz.f71 R))
abbrev Q2 (R : Post) : ExP := (Exit.inBlock 1 (Q1 R))
/-- text.go:211 -/
abbrev S1 (r0 : Addr) (w : World) (R : Post) : Prop :=
  stV w (r0.add 1) (.i 0) fun w1 => 
  S0  w1 R
def KE_S1 (E : Env) (w : World) (R : Post) : Prop := W.asRef (Env.get? E 0) fun r0 => S1 r0 w R
theorem KE_S1_ok : KOk Tryz.prog 122 KE_S1 C18 Q2 := by
  intro R E w h
  obtain ⟨r0, hq0, h_1⟩ := W.asRef_elim h
  exact fun a ha => WP.at (E := [(0, .pointer (some r0))]) (rg C18 (K := fun E w => KE_S0 E w R) (by kernel_rfl) (mp h_1) fun _ _ a hA hK => nx hA (KE_S0_ok R _ _ hK)) (ha.cons hq0 ha.nil)
/-- (*enthymeme/regex.reader).feed -/
noncomputable def C19:=C2.fs
noncomputable def C20:=C19.sn
noncomputable def C21:=C20.fs
noncomputable def C22:=C21.sn
noncomputable def C23:=C22.fs
noncomputable def C24:=C22.sn
noncomputable def C25:=C24.sn
noncomputable def C26:=C25.fs
noncomputable def C27:=C26.fs
noncomputable def C28:=C27.sn
noncomputable def C29:=C28.fs
noncomputable def C30:=C26.sn
noncomputable def C31:=C25.sn
noncomputable def C32:=C31.sn
noncomputable def C33:=C32.fs
noncomputable def C34:=C9.fs
noncomputable def C35:=C11.fs
noncomputable def C36:=C35.sn
noncomputable def C37:=C13.fs
noncomputable def C38:=C37.sn
noncomputable def C39:=C16.fs
noncomputable def C40:=C39.sn
noncomputable def C41:=C40.fs
noncomputable def C42:=C15.sn
noncomputable def C43:=C42.sn
noncomputable def C44:=C43.fs
noncomputable def C45:=C43.sn
noncomputable def C46:=C45.sn
noncomputable def C47:=C46.fs
noncomputable def C48:=C46.sn
noncomputable def C49:=C48.sn
noncomputable def C50:=C23.sn
noncomputable def C51:=C29.sn
noncomputable def C52:=C28.sn
noncomputable def C53:=C30.sn
noncomputable def C54:=C33.sn
noncomputable def C55:=C32.sn
noncomputable def C56:=C41.sn
noncomputable def C57:=C40.sn
noncomputable def C58:=C44.sn
noncomputable def C59:=C47.sn
noncomputable def C60:=C49.sn
theorem ok (r0 : Addr) (t1_0 t1_1 t1_2 : Int) (t1_3 : ByteArray) (t1_4 : Int) (w : World) (R : Post) (h : nwV w (.cells #[.int .u8 t1_0, .int .u8 t1_1, .int .u8 t1_2, .string t1_3, .i t1_4] ty_regex_token) fun w1 => 
  ca11 n_regex_reader_top #[.pointer (some r0)] w1 fun t7 w2 => ∃ t11 : Int, w2.cell? (r0.add 1) = some (.i t11) ∧ 
  sel (t11 == 2) (∃ t15 : Int, w2.cell? ((nb w).add 0) = some (.int .u8 t15) ∧ 
  sel (t15 == 40) (∃ t22 : Int, w2.cell? (r0.add 2) = some (.i t22) ∧ 
  ca1 n_regex_reader_push #[.pointer (some r0), .i t22, .i 1] w2 fun t23 w3 => R (.returned (.bool t23)) w3) (R (.returned (.bool false)) w2)) (sel (t11 == 1) (∃ t28 : Int, w2.cell? ((nb w).add 0) = some (.int .u8 t28) ∧ 
  sel (t28 == 41) (ca1 n_regex_reader_close #[.pointer (some r0), .slice none 0 0] w2 fun t31 w4 => R (.returned (.bool t31)) w4) (ld5_1 w2 (nb w) fun t33_0 t33_1 t33_2 t33_3 t33_4 => ca1 n_regex_reader_item #[.pointer (some r0), .agg #[.int .u8 t33_0, .int .u8 t33_1, .int .u8 t33_2, .string t33_3, .i t33_4]] w2 fun t34 w5 => R (.returned (.bool t34)) w5)) (sel (t11 == 0) (ld5_1 w2 (nb w) fun t38_0 t38_1 t38_2 t38_3 t38_4 => ca1 n_regex_reader_item #[.pointer (some r0), .agg #[.int .u8 t38_0, .int .u8 t38_1, .int .u8 t38_2, .string t38_3, .i t38_4]] w2 fun t39 w6 => R (.returned (.bool t39)) w6) (∃ t41 : Int, w2.cell? ((nb w).add 0) = some (.int .u8 t41) ∧ 
  sel (t41 == 42) (optP t7 fun t51_p => ld4_0 w2 (t51_p.add 6) fun t53_0 t53_1 t53_2 t53_3 => nwV w2 (.cells #[.i t53_0, .int .u8 t53_1, .int .u8 t53_2, t53_3.v] ty_regex_Regex) fun w7 => 
  optP t7 fun t56_p => stW4 w7 (t56_p.add 6) (.i 7) (.int .u8 0) (.int .u8 0) (.slice (some (nb w2)) 1 1) fun w11 => S0  w11 R) (sel (t41 == 38) (ca4 n_regex_frame_endSeq #[.pointer t7] w2 fun w12 => stV w12 (r0.add 1) (.i 0) fun w13 => 
  S0  w13 R) (sel (t41 == 124) (ca4 n_regex_frame_endConj #[.pointer t7] w2 fun w14 => stV w14 (r0.add 1) (.i 0) fun w15 => 
  S0  w15 R) (sel (t41 == 44) (optP t7 fun t75_p => ∃ t77 : Int, w2.cell? (t75_p.add 0) = some (.i t77) ∧ 
  sel (decide (t77 < 0)) (R (.returned (.bool false)) w2) (drV w2 fun w16 => optP t7 fun t80_p => ∃ t82 : Sl, w16.cell? (t80_p.add 1) = some (t82.v) ∧ 
  ((ca2 n_regex_frame_endExpr #[.pointer t7] w16 fun t84_0 t84_1 t84_2 t84_3 w17 => w17.cell? (t80_p.add 1) = some (t82.v) ∧ nwV w17 (.cells #[.i 0, .int .u8 0, .int .u8 0, .slice none 0 0] ty_regex_Regex) fun w18 => 
  w18.cell? (t80_p.add 1) = some (t82.v) ∧ ∃ (t87 : Sl) (w19 : World), Sem.run Tryz.prog (Builtin.append_ #[ty_sl_regex_Regex, ty_sl_regex_Regex] ty_sl_regex_Regex #[t82.v, .slice (some (nb w17)) 1 1]) w18 = .ok (t87.v) w19 ∧ (0 : Int) ≤ ((t82.n : Nat) : Int) ∧ ((t82.n : Nat) : Int) < ((t87.n : Nat) : Int) ∧ optP t87.a fun t88_p => optP t7 fun t89_p => ((stW4 w19 (t88_p.add (Int.toNat ((t82.n : Nat) : Int) * 4)) (.i t84_0) (.int .u8 t84_1) (.int .u8 t84_2) (t84_3.v) fun w23 => stV w23 (t89_p.add 1) (t87.v) fun w24 => 
  S1 r0 w24 R) ∧ (stV w19 (t89_p.add 1) (t87.v) fun w25 => 
  stV w25 (t88_p.add (Int.toNat ((t82.n : Nat) : Int) * 4)) (.i t84_0) fun w26 => 
  stV w26 ((t88_p.add (Int.toNat ((t82.n : Nat) : Int) * 4)).add 1) (.int .u8 t84_1) fun w27 => 
  stV w27 ((t88_p.add (Int.toNat ((t82.n : Nat) : Int) * 4)).add 2) (.int .u8 t84_2) fun w28 => 
  stV w28 ((t88_p.add (Int.toNat ((t82.n : Nat) : Int) * 4)).add 3) (t84_3.v) fun w29 => 
  S1 r0 w29 R))) ∧ (nwV w16 (.cells #[.i 0, .int .u8 0, .int .u8 0, .slice none 0 0] ty_regex_Regex) fun w30 => 
  w30.cell? (t80_p.add 1) = some (t82.v) ∧ ca2 n_regex_frame_endExpr #[.pointer t7] w30 fun t84_x1_0 t84_x1_1 t84_x1_2 t84_x1_3 w31 => w31.cell? (t80_p.add 1) = some (t82.v) ∧ ∃ (t87_x1 : Sl) (w32 : World), Sem.run Tryz.prog (Builtin.append_ #[ty_sl_regex_Regex, ty_sl_regex_Regex] ty_sl_regex_Regex #[t82.v, .slice (some (nb w16)) 1 1]) w31 = .ok (t87_x1.v) w32 ∧ (0 : Int) ≤ ((t82.n : Nat) : Int) ∧ ((t82.n : Nat) : Int) < ((t87_x1.n : Nat) : Int) ∧ optP t87_x1.a fun t88_x1_p => optP t7 fun t89_x1_p => ((stW4 w32 (t88_x1_p.add (Int.toNat ((t82.n : Nat) : Int) * 4)) (.i t84_x1_0) (.int .u8 t84_x1_1) (.int .u8 t84_x1_2) (t84_x1_3.v) fun w36 => stV w36 (t89_x1_p.add 1) (t87_x1.v) fun w37 => 
  S1 r0 w37 R) ∧ (stV w32 (t89_x1_p.add 1) (t87_x1.v) fun w38 => 
  stV w38 (t88_x1_p.add (Int.toNat ((t82.n : Nat) : Int) * 4)) (.i t84_x1_0) fun w39 => 
  stV w39 ((t88_x1_p.add (Int.toNat ((t82.n : Nat) : Int) * 4)).add 1) (.int .u8 t84_x1_1) fun w40 => 
  stV w40 ((t88_x1_p.add (Int.toNat ((t82.n : Nat) : Int) * 4)).add 2) (.int .u8 t84_x1_2) fun w41 => 
  stV w41 ((t88_x1_p.add (Int.toNat ((t82.n : Nat) : Int) * 4)).add 3) (t84_x1_3.v) fun w42 => 
  S1 r0 w42 R)))))) (sel (t41 == 41) (drV w2 fun w43 => ∃ t99 : Sl, w43.cell? (r0.add 0) = some (t99.v) ∧ 
  sel (decide (((t99.n : Nat) : Int) > 1)) (optP t7 fun t105_p => ∃ t107 : Sl, w43.cell? (t105_p.add 1) = some (t107.v) ∧ 
  ca2 n_regex_frame_endExpr #[.pointer t7] w43 fun t109_0 t109_1 t109_2 t109_3 w44 => w44.cell? (t105_p.add 1) = some (t107.v) ∧ nwV w44 (.cells #[.i t109_0, .int .u8 t109_1, .int .u8 t109_2, t109_3.v] ty_regex_Regex) fun w45 => 
  w45.cell? (t105_p.add 1) = some (t107.v) ∧ ∃ (t111 : Sl) (w46 : World), Sem.run Tryz.prog (Builtin.append_ #[ty_sl_regex_Regex, ty_sl_regex_Regex] ty_sl_regex_Regex #[t107.v, .slice (some (nb w44)) 1 1]) w45 = .ok (t111.v) w46 ∧ ca1 n_regex_reader_close #[.pointer (some r0), t111.v] w46 fun t112 w47 => R (.returned (.bool t112)) w47) (R (.returned (.bool false)) w43)) (sel (t41 == 36) (∃ t119 : Sl, w2.cell? (r0.add 0) = some (t119.v) ∧ 
  R (.returned (.bool (((t119.n : Nat) : Int) == 1))) w2) (ca4 n_regex_frame_endItem #[.pointer t7] w2 fun w48 => ld5_1 w48 (nb w) fun t45_0 t45_1 t45_2 t45_3 t45_4 => ca1 n_regex_reader_item #[.pointer (some r0), .agg #[.int .u8 t45_0, .int .u8 t45_1, .int .u8 t45_2, .string t45_3, .i t45_4]] w48 fun t46 w49 => R (.returned (.bool t46)) w49)))))))))) : Calls Tryz.prog n_regex_reader_feed #[.pointer (some r0), .agg #[.int .u8 t1_0, .int .u8 t1_1, .int .u8 t1_2, .string t1_3, .i t1_4]] w R :=
  calls_of_WP' (R := R) (fn := Tryz.f71) (c := C0) (args := [.pointer (some r0), .agg #[.int .u8 t1_0, .int .u8 t1_1, .int .u8 t1_2, .string t1_3, .i t1_4]]) (by kernel_rfl) (by kernel_rfl) (by kernel_rfl) (sr C0 (show (fun (E : Env) (w : World) => srK Tryz.prog C0 (fun E w => srK Tryz.prog C1 (fun E w => srK Tryz.prog C19 (fun E w => srK Tryz.prog C21 (fun E w => condK (Env.val E (.tmp 12)) (srK Tryz.prog C23 (fun E w => retVC Tryz.prog Tryz.f71 E w (fun v => R (.returned v) w)) E w) (srK Tryz.prog C24 (fun E w => condK (Env.val E (.tmp 25)) (srK Tryz.prog C27 (fun E w => condK (Env.val E (.tmp 29)) (srK Tryz.prog C29 (fun E w => retVC Tryz.prog Tryz.f71 E w (fun v => R (.returned v) w)) E w) (srK Tryz.prog C30 (fun E w => retVC Tryz.prog Tryz.f71 E w (fun v => R (.returned v) w)) E w)) E w) (srK Tryz.prog C31 (fun E w => condK (Env.val E (.tmp 35)) (srK Tryz.prog C33 (fun E w => retVC Tryz.prog Tryz.f71 E w (fun v => R (.returned v) w)) E w) (srK Tryz.prog C6 (fun E w => srK Tryz.prog C8 (fun E w => condK (Env.val E (.tmp 47)) (rgK Tryz.prog C34 (fun E w => KE_S0 E w R) E w) (srK Tryz.prog C10 (fun E w => condK (Env.val E (.tmp 58)) (srK Tryz.prog C35 (fun E w => rgK Tryz.prog C36 (fun E w => KE_S0 E w R) E w) E w) (srK Tryz.prog C12 (fun E w => condK (Env.val E (.tmp 65)) (srK Tryz.prog C37 (fun E w => rgK Tryz.prog C38 (fun E w => KE_S0 E w R) E w) E w) (srK Tryz.prog C14 (fun E w => condK (Env.val E (.tmp 72)) (srK Tryz.prog C39 (fun E w => condK (Env.val E (.tmp 78)) (srK Tryz.prog C41 (fun E w => retVC Tryz.prog Tryz.f71 E w (fun v => R (.returned v) w)) E w) (stK Tryz.prog C17 (.one 0 (.one 1 (.one 2 (.one 3 (.one 4 (.one 6 (.fork (.one 5 (.one 7 (.one 8 (.one 9 (.one 11 (.one 12 (.fork (.one 10 (.one 13 .nil)) (.one 13 (.one 10 .nil))))))))) (.one 7 (.one 5 (.one 8 (.one 9 (.one 11 (.one 12 (.fork (.one 10 (.one 13 .nil)) (.one 13 (.one 10 .nil)))))))))))))))) (fun E w => KE_S1 E w R) E w)) E w) (srK Tryz.prog C42 (fun E w => condK (Env.val E (.tmp 94)) (sdK Tryz.prog C44 [0, 1, 2, 3, 4, 5, 6, 7, 8, 9, 10, 11, 12, 13, 14, 15, 16, 17, 18] (fun E w => retVC Tryz.prog Tryz.f71 E w (fun v => R (.returned v) w)) E w) (srK Tryz.prog C45 (fun E w => condK (Env.val E (.tmp 114)) (srK Tryz.prog C47 (fun E w => retVC Tryz.prog Tryz.f71 E w (fun v => R (.returned v) w)) E w) (srK Tryz.prog C48 (fun E w => srK Tryz.prog C49 (fun E w => retVC Tryz.prog Tryz.f71 E w (fun v => R (.returned v) w)) E w) E w)) E w)) E w)) E w)) E w)) E w)) E w) E w)) E w)) E w)) E w) E w) E w) E w) (envOf 0 [.pointer (some r0), .agg #[.int .u8 t1_0, .int .u8 t1_1, .int .u8 t1_2, .string t1_3, .i t1_4]]) w from mp h) fun _ _ hK => (sr C1 hK fun _ _ hK => (sq C2 (sr C19 hK fun _ _ hK => (bk C20 0 (by kernel_rfl) (sr C21 hK fun _ _ hK => (cn C22 hK (fun hK => (sr C23 hK fun _ _ hK => (rt C50 fun a hA => retVC_sound hA hK))) (fun hK => (sr C24 hK fun _ _ hK => (cn C25 hK (fun hK => (sq C26 (sr C27 hK fun _ _ hK => (cn C28 hK (fun hK => (sr C29 hK fun _ _ hK => (rt C51 fun a hA => retVC_sound hA hK))) (fun hK => (sk C52 fun a hA => nx hA (sr C30 hK fun _ _ hK => (rt C53 fun a hA => retVC_sound hA hK)))))))) (fun hK => (sr C31 hK fun _ _ hK => (cn C32 hK (fun hK => (sr C33 hK fun _ _ hK => (rt C54 fun a hA => retVC_sound hA hK))) (fun hK => (sk C55 fun a hA => nx hA (sq C3 (sr C6 hK fun _ _ hK => (bk C7 1 (by kernel_rfl) (sr C8 hK fun _ _ hK => (cn C9 hK (fun hK => (rg C34 (by kernel_rfl) hK fun _ _ a hA hK => nx hA (KE_S0_ok R _ _ hK))) (fun hK => (sr C10 hK fun _ _ hK => (cn C11 hK (fun hK => (sr C35 hK fun _ _ hK => (rg C36 (by kernel_rfl) hK fun _ _ a hA hK => nx hA (KE_S0_ok R _ _ hK)))) (fun hK => (sr C12 hK fun _ _ hK => (cn C13 hK (fun hK => (sr C37 hK fun _ _ hK => (rg C38 (by kernel_rfl) hK fun _ _ a hA hK => nx hA (KE_S0_ok R _ _ hK)))) (fun hK => (sr C14 hK fun _ _ hK => (cn C15 hK (fun hK => (sq C16 (sr C39 hK fun _ _ hK => (cn C40 hK (fun hK => (sr C41 hK fun _ _ hK => (rt C56 fun a hA => retVC_sound hA hK))) (fun hK => (sk C57 fun a hA => nx hA (st C17 (by kernel_rfl) hK fun _ _ hK => (KE_S1_ok R _ _ hK)))))))) (fun hK => (sr C42 hK fun _ _ hK => (cn C43 hK (fun hK => (sd C44 (by kernel_rfl) hK fun _ _ hK => (rt C58 fun a hA => retVC_sound hA hK))) (fun hK => (sr C45 hK fun _ _ hK => (cn C46 hK (fun hK => (sr C47 hK fun _ _ hK => (rt C59 fun a hA => retVC_sound hA hK))) (fun hK => (sr C48 hK fun _ _ hK => (sr C49 hK fun _ _ hK => (rt C60 fun a hA => retVC_sound hA hK)))))))))))))))))))))))))))))))))))))))
abbrev S0T  (w : World) (R : Post) : Prop :=
  R (.returned (.bool true)) w
theorem S0T_ok  {w : World} {R : Post} (h : S0T  w R) (H : LC w []) : S0  w R := h
abbrev S1T (r0 : Addr) (w : World) (R : Post) : Prop :=
  stV w (r0.add 1) (.i 0) fun w1 => 
  S0T  w1 R
theorem S1T_ok {r0 : Addr} {w : World} {R : Post} (h : S1T r0 w R) (H : LC w []) : S1 r0 w R := stV_imp h fun w1 h => S0T_ok h (LC.nil _)
theorem okT (r0 : Addr) (t1_0 t1_1 t1_2 : Int) (t1_3 : ByteArray) (t1_4 : Int) (w : World) (R : Post) (h : newV [] w fun b3 w1 => 
  cf11 [b3] n_regex_reader_top #[.pointer (some r0)] w1 fun t7 w2 => ∃ t11 : Int, w2.cell? (r0.add 1) = some (.i t11) ∧ 
  sel (t11 == 2) (sel (t1_0 == 40) (∃ t22 : Int, w2.cell? (r0.add 2) = some (.i t22) ∧ 
  cf1 [b3] n_regex_reader_push #[.pointer (some r0), .i t22, .i 1] w2 fun t23 w3 => R (.returned (.bool t23)) w3) (R (.returned (.bool false)) w2)) (sel (t11 == 1) (sel (t1_0 == 41) (cf1 [b3] n_regex_reader_close #[.pointer (some r0), .slice none 0 0] w2 fun t31 w4 => R (.returned (.bool t31)) w4) (cf1 [b3] n_regex_reader_item #[.pointer (some r0), .agg #[.int .u8 t1_0, .int .u8 t1_1, .int .u8 t1_2, .string t1_3, .i t1_4]] w2 fun t34 w5 => R (.returned (.bool t34)) w5)) (sel (t11 == 0) (cf1 [b3] n_regex_reader_item #[.pointer (some r0), .agg #[.int .u8 t1_0, .int .u8 t1_1, .int .u8 t1_2, .string t1_3, .i t1_4]] w2 fun t39 w6 => R (.returned (.bool t39)) w6) (sel (t1_0 == 42) (optP t7 fun t51_p => ld4_0 w2 (t51_p.add 6) fun t53_0 t53_1 t53_2 t53_3 => nwV w2 (.cells #[.i t53_0, .int .u8 t53_1, .int .u8 t53_2, t53_3.v] ty_regex_Regex) fun w7 => 
  optP t7 fun t56_p => stV w7 (t56_p.add 6) (.i 7) fun w8 => kept [b3] w7 w8 ∧ 
  stV w8 ((t56_p.add 6).add 1) (.int .u8 0) fun w9 => kept [b3] w8 w9 ∧ 
  stV w9 ((t56_p.add 6).add 2) (.int .u8 0) fun w10 => kept [b3] w9 w10 ∧ 
  stV w10 ((t56_p.add 6).add 3) (.slice (some (nb w2)) 1 1) fun w11 => kept [b3] w10 w11 ∧ 
  S0T  w11 R) (sel (t1_0 == 38) (cf4 [b3] n_regex_frame_endSeq #[.pointer t7] w2 fun w12 => stV w12 (r0.add 1) (.i 0) fun w13 => kept [b3] w12 w13 ∧ 
  S0T  w13 R) (sel (t1_0 == 124) (cf4 [b3] n_regex_frame_endConj #[.pointer t7] w2 fun w14 => stV w14 (r0.add 1) (.i 0) fun w15 => kept [b3] w14 w15 ∧ 
  S0T  w15 R) (sel (t1_0 == 44) (optP t7 fun t75_p => ∃ t77 : Int, w2.cell? (t75_p.add 0) = some (.i t77) ∧ 
  sel (decide (t77 < 0)) (R (.returned (.bool false)) w2) (optP t7 fun t80_p => loc [b3] w2 fun w16 => ∃ t82 : Sl, w16.cell? (t80_p.add 1) = some (t82.v) ∧ 
  ((cf2 [b3] n_regex_frame_endExpr #[.pointer t7] w16 fun t84_0 t84_1 t84_2 t84_3 w17 => w17.cell? (t80_p.add 1) = some (t82.v) ∧ nwV w17 (.cells #[.i 0, .int .u8 0, .int .u8 0, .slice none 0 0] ty_regex_Regex) fun w18 => 
  w18.cell? (t80_p.add 1) = some (t82.v) ∧ ∃ (t87 : Sl) (w19 : World), Sem.run Tryz.prog (Builtin.append_ #[ty_sl_regex_Regex, ty_sl_regex_Regex] ty_sl_regex_Regex #[t82.v, .slice (some (nb w17)) 1 1]) w18 = .ok (t87.v) w19 ∧ kept [b3] w18 w19 ∧ (0 : Int) ≤ ((t82.n : Nat) : Int) ∧ ((t82.n : Nat) : Int) < ((t87.n : Nat) : Int) ∧ optP t87.a fun t88_p => optP t7 fun t89_p => ((stV w19 (t88_p.add (Int.toNat ((t82.n : Nat) : Int) * 4)) (.i t84_0) fun w20 => kept [b3] w19 w20 ∧ 
  stV w20 ((t88_p.add (Int.toNat ((t82.n : Nat) : Int) * 4)).add 1) (.int .u8 t84_1) fun w21 => kept [b3] w20 w21 ∧ 
  stV w21 ((t88_p.add (Int.toNat ((t82.n : Nat) : Int) * 4)).add 2) (.int .u8 t84_2) fun w22 => kept [b3] w21 w22 ∧ 
  stV w22 ((t88_p.add (Int.toNat ((t82.n : Nat) : Int) * 4)).add 3) (t84_3.v) fun w23 => kept [b3] w22 w23 ∧ 
  stV w23 (t89_p.add 1) (t87.v) fun w24 => kept [b3] w23 w24 ∧ 
  S1T r0 w24 R) ∧ (stV w19 (t89_p.add 1) (t87.v) fun w25 => kept [b3] w19 w25 ∧ 
  stV w25 (t88_p.add (Int.toNat ((t82.n : Nat) : Int) * 4)) (.i t84_0) fun w26 => kept [b3] w25 w26 ∧ 
  stV w26 ((t88_p.add (Int.toNat ((t82.n : Nat) : Int) * 4)).add 1) (.int .u8 t84_1) fun w27 => kept [b3] w26 w27 ∧ 
  stV w27 ((t88_p.add (Int.toNat ((t82.n : Nat) : Int) * 4)).add 2) (.int .u8 t84_2) fun w28 => kept [b3] w27 w28 ∧ 
  stV w28 ((t88_p.add (Int.toNat ((t82.n : Nat) : Int) * 4)).add 3) (t84_3.v) fun w29 => kept [b3] w28 w29 ∧ 
  S1T r0 w29 R))) ∧ (nwV w16 (.cells #[.i 0, .int .u8 0, .int .u8 0, .slice none 0 0] ty_regex_Regex) fun w30 => 
  w30.cell? (t80_p.add 1) = some (t82.v) ∧ cf2 [b3] n_regex_frame_endExpr #[.pointer t7] w30 fun t84_x1_0 t84_x1_1 t84_x1_2 t84_x1_3 w31 => w31.cell? (t80_p.add 1) = some (t82.v) ∧ ∃ (t87_x1 : Sl) (w32 : World), Sem.run Tryz.prog (Builtin.append_ #[ty_sl_regex_Regex, ty_sl_regex_Regex] ty_sl_regex_Regex #[t82.v, .slice (some (nb w16)) 1 1]) w31 = .ok (t87_x1.v) w32 ∧ kept [b3] w31 w32 ∧ (0 : Int) ≤ ((t82.n : Nat) : Int) ∧ ((t82.n : Nat) : Int) < ((t87_x1.n : Nat) : Int) ∧ optP t87_x1.a fun t88_x1_p => optP t7 fun t89_x1_p => ((stV w32 (t88_x1_p.add (Int.toNat ((t82.n : Nat) : Int) * 4)) (.i t84_x1_0) fun w33 => kept [b3] w32 w33 ∧ 
  stV w33 ((t88_x1_p.add (Int.toNat ((t82.n : Nat) : Int) * 4)).add 1) (.int .u8 t84_x1_1) fun w34 => kept [b3] w33 w34 ∧ 
  stV w34 ((t88_x1_p.add (Int.toNat ((t82.n : Nat) : Int) * 4)).add 2) (.int .u8 t84_x1_2) fun w35 => kept [b3] w34 w35 ∧ 
  stV w35 ((t88_x1_p.add (Int.toNat ((t82.n : Nat) : Int) * 4)).add 3) (t84_x1_3.v) fun w36 => kept [b3] w35 w36 ∧ 
  stV w36 (t89_x1_p.add 1) (t87_x1.v) fun w37 => kept [b3] w36 w37 ∧ 
  S1T r0 w37 R) ∧ (stV w32 (t89_x1_p.add 1) (t87_x1.v) fun w38 => kept [b3] w32 w38 ∧ 
  stV w38 (t88_x1_p.add (Int.toNat ((t82.n : Nat) : Int) * 4)) (.i t84_x1_0) fun w39 => kept [b3] w38 w39 ∧ 
  stV w39 ((t88_x1_p.add (Int.toNat ((t82.n : Nat) : Int) * 4)).add 1) (.int .u8 t84_x1_1) fun w40 => kept [b3] w39 w40 ∧ 
  stV w40 ((t88_x1_p.add (Int.toNat ((t82.n : Nat) : Int) * 4)).add 2) (.int .u8 t84_x1_2) fun w41 => kept [b3] w40 w41 ∧ 
  stV w41 ((t88_x1_p.add (Int.toNat ((t82.n : Nat) : Int) * 4)).add 3) (t84_x1_3.v) fun w42 => kept [b3] w41 w42 ∧ 
  S1T r0 w42 R)))))) (sel (t1_0 == 41) (loc [b3] w2 fun w43 => ∃ t99 : Sl, w43.cell? (r0.add 0) = some (t99.v) ∧ 
  sel (decide (((t99.n : Nat) : Int) > 1)) (optP t7 fun t105_p => ∃ t107 : Sl, w43.cell? (t105_p.add 1) = some (t107.v) ∧ 
  cf2 [b3] n_regex_frame_endExpr #[.pointer t7] w43 fun t109_0 t109_1 t109_2 t109_3 w44 => w44.cell? (t105_p.add 1) = some (t107.v) ∧ nwV w44 (.cells #[.i t109_0, .int .u8 t109_1, .int .u8 t109_2, t109_3.v] ty_regex_Regex) fun w45 => 
  w45.cell? (t105_p.add 1) = some (t107.v) ∧ ∃ (t111 : Sl) (w46 : World), Sem.run Tryz.prog (Builtin.append_ #[ty_sl_regex_Regex, ty_sl_regex_Regex] ty_sl_regex_Regex #[t107.v, .slice (some (nb w44)) 1 1]) w45 = .ok (t111.v) w46 ∧ kept [b3] w45 w46 ∧ cf1 [b3] n_regex_reader_close #[.pointer (some r0), t111.v] w46 fun t112 w47 => R (.returned (.bool t112)) w47) (R (.returned (.bool false)) w43)) (sel (t1_0 == 36) (∃ t119 : Sl, w2.cell? (r0.add 0) = some (t119.v) ∧ 
  R (.returned (.bool (((t119.n : Nat) : Int) == 1))) w2) (cf4 [b3] n_regex_frame_endItem #[.pointer t7] w2 fun w48 => cf1 [b3] n_regex_reader_item #[.pointer (some r0), .agg #[.int .u8 t1_0, .int .u8 t1_1, .int .u8 t1_2, .string t1_3, .i t1_4]] w48 fun t46 w49 => R (.returned (.bool t46)) w49)))))))))) : Calls Tryz.prog n_regex_reader_feed #[.pointer (some r0), .agg #[.int .u8 t1_0, .int .u8 t1_1, .int .u8 t1_2, .string t1_3, .i t1_4]] w R :=
  ok _ _ _ _ _ _ w R (LC.nwT (LC.nil _) (Fr.refl _ _) h fun w1 H h => LC.callT H h fun r_ w2 H h => let ⟨t7, hr, h⟩ := h; ⟨t7, hr, let ⟨t11, hc0, h⟩ := h; ⟨t11, hc0, sel_imp h (fun h => ⟨_, H.ld 0 0, sel_imp h (fun h => let ⟨t22, hc0, h⟩ := h; ⟨t22, hc0, LC.callT H h fun r_ w3 H h => let ⟨t23, hr, h⟩ := h; ⟨t23, hr, h⟩⟩) (fun h => h)⟩) (fun h => sel_imp h (fun h => ⟨_, H.ld 0 0, sel_imp h (fun h => LC.callT H h fun r_ w4 H h => let ⟨t31, hr, h⟩ := h; ⟨t31, hr, h⟩) (fun h => ⟨_, _, _, _, _, H.ld 0 0, H.ld 0 1, H.ld 0 2, H.ld 0 3, H.ld 0 4, LC.callT H h fun r_ w5 H h => let ⟨t34, hr, h⟩ := h; ⟨t34, hr, h⟩⟩)⟩) (fun h => sel_imp h (fun h => ⟨_, _, _, _, _, H.ld 0 0, H.ld 0 1, H.ld 0 2, H.ld 0 3, H.ld 0 4, LC.callT H h fun r_ w6 H h => let ⟨t39, hr, h⟩ := h; ⟨t39, hr, h⟩⟩) (fun h => ⟨_, H.ld 0 0, sel_imp h (fun h => optP_imp h fun t51_p h => let ⟨t53_0, t53_1, t53_2, t53_3, hc0, hc1, hc2, hc3, h⟩ := h; ⟨t53_0, t53_1, t53_2, t53_3, hc0, hc1, hc2, hc3, LC.nwN H h fun w7 H h => optP_imp h fun t56_p h => stV_imp h fun w8 h => have H := LC.keptT H h.1; have h := h.2; stV_imp h fun w9 h => have H := LC.keptT H h.1; have h := h.2; stV_imp h fun w10 h => have H := LC.keptT H h.1; have h := h.2; stV_imp h fun w11 h => have H := LC.keptT H h.1; have h := h.2; S0T_ok h (LC.nil _)⟩) (fun h => sel_imp h (fun h => LC.callT H h fun r_ w12 H h => let ⟨hr, h⟩ := h; ⟨hr, stV_imp h fun w13 h => have H := LC.keptT H h.1; have h := h.2; S0T_ok h (LC.nil _)⟩) (fun h => sel_imp h (fun h => LC.callT H h fun r_ w14 H h => let ⟨hr, h⟩ := h; ⟨hr, stV_imp h fun w15 h => have H := LC.keptT H h.1; have h := h.2; S0T_ok h (LC.nil _)⟩) (fun h => sel_imp h (fun h => optP_imp h fun t75_p h => let ⟨t77, hc0, h⟩ := h; ⟨t77, hc0, sel_imp h (fun h => h) (fun h => LC.drT H (Fr.refl _ _) fun w16 H f => optP_imp h fun t80_p h => have h := h _ f; let ⟨t82, hc0, h⟩ := h; ⟨t82, hc0, ⟨have h := h.1; LC.callT H h fun r_ w17 H h => let ⟨t84_0, t84_1, t84_2, t84_3, hr, h⟩ := h; ⟨t84_0, t84_1, t84_2, t84_3, hr, ⟨h.1, have h := h.2; LC.nwN H h fun w18 H h => ⟨h.1, have h := h.2; let ⟨t87, w19, he, hk, h⟩ := h; have H := LC.keptT H hk; ⟨t87, w19, he, ⟨h.1, h.2.1, have h := h.2.2; optP_imp h fun t88_p h => optP_imp h fun t89_p h => ⟨have h := h.1; stV_imp h fun w20 h => have H := LC.keptT H h.1; have h := h.2; stV_imp h fun w21 h => have H := LC.keptT H h.1; have h := h.2; stV_imp h fun w22 h => have H := LC.keptT H h.1; have h := h.2; stV_imp h fun w23 h => have H := LC.keptT H h.1; have h := h.2; stV_imp h fun w24 h => have H := LC.keptT H h.1; have h := h.2; S1T_ok h (LC.nil _), have h := h.2; stV_imp h fun w25 h => have H := LC.keptT H h.1; have h := h.2; stV_imp h fun w26 h => have H := LC.keptT H h.1; have h := h.2; stV_imp h fun w27 h => have H := LC.keptT H h.1; have h := h.2; stV_imp h fun w28 h => have H := LC.keptT H h.1; have h := h.2; stV_imp h fun w29 h => have H := LC.keptT H h.1; have h := h.2; S1T_ok h (LC.nil _)⟩⟩⟩⟩⟩⟩, have h := h.2; LC.nwN H h fun w30 H h => ⟨h.1, have h := h.2; LC.callT H h fun r_ w31 H h => let ⟨t84_x1_0, t84_x1_1, t84_x1_2, t84_x1_3, hr, h⟩ := h; ⟨t84_x1_0, t84_x1_1, t84_x1_2, t84_x1_3, hr, ⟨h.1, have h := h.2; let ⟨t87_x1, w32, he, hk, h⟩ := h; have H := LC.keptT H hk; ⟨t87_x1, w32, he, ⟨h.1, h.2.1, have h := h.2.2; optP_imp h fun t88_x1_p h => optP_imp h fun t89_x1_p h => ⟨have h := h.1; stV_imp h fun w33 h => have H := LC.keptT H h.1; have h := h.2; stV_imp h fun w34 h => have H := LC.keptT H h.1; have h := h.2; stV_imp h fun w35 h => have H := LC.keptT H h.1; have h := h.2; stV_imp h fun w36 h => have H := LC.keptT H h.1; have h := h.2; stV_imp h fun w37 h => have H := LC.keptT H h.1; have h := h.2; S1T_ok h (LC.nil _), have h := h.2; stV_imp h fun w38 h => have H := LC.keptT H h.1; have h := h.2; stV_imp h fun w39 h => have H := LC.keptT H h.1; have h := h.2; stV_imp h fun w40 h => have H := LC.keptT H h.1; have h := h.2; stV_imp h fun w41 h => have H := LC.keptT H h.1; have h := h.2; stV_imp h fun w42 h => have H := LC.keptT H h.1; have h := h.2; S1T_ok h (LC.nil _)⟩⟩⟩⟩⟩⟩⟩⟩)⟩) (fun h => sel_imp h (fun h => LC.drT H (Fr.refl _ _) fun w43 H f => have h := h _ f; let ⟨t99, hc0, h⟩ := h; ⟨t99, hc0, sel_imp h (fun h => optP_imp h fun t105_p h => let ⟨t107, hc0, h⟩ := h; ⟨t107, hc0, LC.callT H h fun r_ w44 H h => let ⟨t109_0, t109_1, t109_2, t109_3, hr, h⟩ := h; ⟨t109_0, t109_1, t109_2, t109_3, hr, ⟨h.1, have h := h.2; LC.nwN H h fun w45 H h => ⟨h.1, have h := h.2; let ⟨t111, w46, he, hk, h⟩ := h; have H := LC.keptT H hk; ⟨t111, w46, he, LC.callT H h fun r_ w47 H h => let ⟨t112, hr, h⟩ := h; ⟨t112, hr, h⟩⟩⟩⟩⟩⟩) (fun h => h)⟩) (fun h => sel_imp h (fun h => let ⟨t119, hc0, h⟩ := h; ⟨t119, hc0, h⟩) (fun h => LC.callT H h fun r_ w48 H h => let ⟨hr, h⟩ := h; ⟨hr, ⟨_, _, _, _, _, H.ld 0 0, H.ld 0 1, H.ld 0 2, H.ld 0 3, H.ld 0 4, LC.callT H h fun r_ w49 H h => let ⟨t46, hr, h⟩ := h; ⟨t46, hr, h⟩⟩⟩))))))⟩)))⟩⟩)
end regex_reader_feed
namespace regex_Parse
noncomputable def C0 : Code := (Tryz.f38.body).getD .skip
noncomputable def C1:=C0.sn
noncomputable def C2:=C1.sn
noncomputable def C3:=C2.sn
noncomputable def C4:=C3.fs
noncomputable def C5:=C4.sn
noncomputable def C6:=C5.fs
noncomputable def C7 := W.Code.asn C6
noncomputable def C8 := W.Code.bdy C6
noncomputable def C9:=C8.fs
noncomputable def C10:=C9.sn
noncomputable def C11:=C10.fs
abbrev Q0 (l_ : Nat) (rec_ : Loop) (R : Post) : Exit → Act → World → Prop := (roundPost Tryz.prog l_ R)
abbrev Q1 (l_ : Nat) (rec_ : Loop) (R : Post) : Exit → Act → World → Prop := (Exit.inBlock 1 (Q0 l_ rec_ R))
noncomputable def C12:=C11.fs
noncomputable def C13:=C11.sn
/-- text.go:263 -/
abbrev S3 (l_ : Nat) (o_ : LoopState → Option Code → Obj) (t2 t3 t4 t6 : Addr) (w : World) (R : Post) : Prop :=
  drV w fun w1 => ∃ t23 : Int, w1.cell? (t6.add 4) = some (.i t23) ∧ 
  stW4 w1 t2 (.i 0) (.int .u8 0) (.int .u8 0) (.slice none 0 0) fun w5 => w5.cell? (t6.add 4) = some (.i t23) ∧ stV w5 t3 (.i t23) fun w6 => 
  stV w6 t4 (.i 2) fun w7 => 
  puV w7 l_ (o_ .busy none) (o_ .done (some .ret)) fun w8 => R (.returned (.bool false)) w8
def KE_S3 (l_ : Nat) (o_ : LoopState → Option Code → Obj) (E : Env) (w : World) (R : Post) : Prop := W.asRef (Env.get? E 2) fun t2 => W.asRef (Env.get? E 3) fun t3 => W.asRef (Env.get? E 4) fun t4 => W.asRef (Env.get? E 6) fun t6 => S3 l_ o_ t2 t3 t4 t6 w R
theorem KE_S3_ok (l_ : Nat) (rec_ : Loop) (R : Post) (E : Env) (w : World) (h : KE_S3 l_ (lo rec_) E w R) : WP Tryz.prog ⟨32, [], some l_⟩ C11 (Q1 l_ rec_ R) E w := by
  obtain ⟨t2, hq2, h_1⟩ := W.asRef_elim h
  obtain ⟨t3, hq3, h_2⟩ := W.asRef_elim h_1
  obtain ⟨t4, hq4, h_3⟩ := W.asRef_elim h_2
  obtain ⟨t6, hq6, h_4⟩ := W.asRef_elim h_3
  exact fun a ha => WP.at (n := ⟨32, [], some l_⟩) (E := [(2, .pointer (some t2)), (3, .pointer (some t3)), (4, .pointer (some t4)), (6, .pointer (some t6))]) (WP.seq (c := C11) (x := C12) (y := C13) (by kernel_rfl) <| WP.draw (c := C12) [0, 1, 2, 3, 4, 5] (fun E w => puV w l_ ((lo rec_) .busy none) ((lo rec_) .done (some .ret)) fun w2 => R (.returned (.bool false)) w2) (by kernel_rfl) (mp h_4) fun _ _ a hA hK => (WP.ret (c := C13) (Q := (Q1 l_ rec_ R)) (by kernel_rfl) fun a hA => (show roundPost Tryz.prog l_ R .ret a _ from round_ret (a := a) (hK).1 (hK).2)) a hA) (ha.cons hq2 (ha.cons hq3 (ha.cons hq4 (ha.cons hq6 ha.nil))))
noncomputable def C14:=C9.fs
noncomputable def C15:=C10.sn
/-- text.go:262 -/
abbrev S2 (l_ : Nat) (o_ : LoopState → Option Code → Obj) (t2 t3 t4 r5 t6 : Addr) (w : World) (R : Post) : Prop :=
  ld5_1 w t6 fun t18_0 t18_1 t18_2 t18_3 t18_4 => ca1 n_regex_reader_feed #[.pointer (some r5), .agg #[.int .u8 t18_0, .int .u8 t18_1, .int .u8 t18_2, .string t18_3, .i t18_4]] w fun t19 w1 => sel (!t19) (S3 l_ o_ t2 t3 t4 t6 w1 R) (puV w1 l_ (o_ .busy none) (o_ .ready none) fun w3 => R (.returned (.bool true)) w3)
def KE_S2 (l_ : Nat) (o_ : LoopState → Option Code → Obj) (E : Env) (w : World) (R : Post) : Prop := W.asRef (Env.get? E 2) fun t2 => W.asRef (Env.get? E 3) fun t3 => W.asRef (Env.get? E 4) fun t4 => W.asRef (Env.get? E 5) fun r5 => W.asRef (Env.get? E 6) fun t6 => S2 l_ o_ t2 t3 t4 r5 t6 w R
theorem KE_S2_ok (l_ : Nat) (rec_ : Loop) (R : Post) (E : Env) (w : World) (h : KE_S2 l_ (lo rec_) E w R) : WP Tryz.prog ⟨32, [], some l_⟩ C9 (Q1 l_ rec_ R) E w := by
  obtain ⟨t2, hq2, h_1⟩ := W.asRef_elim h
  obtain ⟨t3, hq3, h_2⟩ := W.asRef_elim h_1
  obtain ⟨t4, hq4, h_3⟩ := W.asRef_elim h_2
  obtain ⟨r5, hq5, h_4⟩ := W.asRef_elim h_3
  obtain ⟨t6, hq6, h_5⟩ := W.asRef_elim h_4
  exact fun a ha => WP.at (n := ⟨32, [], some l_⟩) (E := [(2, .pointer (some t2)), (3, .pointer (some t3)), (4, .pointer (some t4)), (5, .pointer (some r5)), (6, .pointer (some t6))]) (WP.seq (c := C9) (x := C14) (y := C10) (by kernel_rfl) <| WP.reg (c := C14) (fun E w => condK (Env.val E (.tmp 20)) (KE_S3 l_ (lo rec_) E w R) (puV w l_ ((lo rec_) .busy none) ((lo rec_) .ready none) fun w8 => R (.returned (.bool true)) w8)) (by kernel_rfl) (mp h_5) fun _ _ a hA hK => (WP.condK (c := C10) (x := C11) (y := C15) (o := .tmp 20) (by kernel_rfl) (fun hK => (KE_S3_ok l_ rec_ R _ _ hK)) (fun hK => (WP.skip (c := C15) (by kernel_rfl) fun a hA => round_end (a := a) (hK).1 (hK).2)) hK) a hA) (ha.cons hq2 (ha.cons hq3 (ha.cons hq4 (ha.cons hq5 (ha.cons hq6 ha.nil)))))
abbrev Q2 (l_ : Nat) (rec_ : Loop) (R : Post) : Exit → Act → World → Prop := (QAssign Tryz.prog 32 l_ rec_ C8 (roundPost Tryz.prog l_ R))
/-- text.go:261 -/
abbrev S1 (l_ : Nat) (o_ : LoopState → Option Code → Obj) (t2 t3 t4 r5 : Addr) (t17_0 t17_1 t17_2 : Int) (t17_3 : ByteArray) (t17_4 : Int) (w : World) (R : Post) : Prop :=
  nwV w (.cells #[.int .u8 0, .int .u8 0, .int .u8 0, .s0, .i 0] ty_regex_token) fun w1 => 
  stW5 w1 (nb w) (.int .u8 t17_0) (.int .u8 t17_1) (.int .u8 t17_2) (.string t17_3) (.i t17_4) fun w6 => puV w6 l_ (o_ .ready none) (o_ .busy none) fun w7 => S2 l_ o_ t2 t3 t4 r5 (nb w) w7 R
def KE_S1 (l_ : Nat) (o_ : LoopState → Option Code → Obj) (E : Env) (w : World) (R : Post) : Prop := W.asRef (Env.get? E 2) fun t2 => W.asRef (Env.get? E 3) fun t3 => W.asRef (Env.get? E 4) fun t4 => W.asRef (Env.get? E 5) fun r5 => W.asAgg (Env.get? E 17) fun t17_l0 => W.asCons t17_l0 fun t17_v0 t17_l1 => W.asInt .u8 (some t17_v0) fun t17_0 => W.asCons t17_l1 fun t17_v1 t17_l2 => W.asInt .u8 (some t17_v1) fun t17_1 => W.asCons t17_l2 fun t17_v2 t17_l3 => W.asInt .u8 (some t17_v2) fun t17_2 => W.asCons t17_l3 fun t17_v3 t17_l4 => W.asStr (some t17_v3) fun t17_3 => W.asCons t17_l4 fun t17_v4 t17_l5 => W.asInt .i64 (some t17_v4) fun t17_4 => W.asNil t17_l5 <| S1 l_ o_ t2 t3 t4 r5 t17_0 t17_1 t17_2 t17_3 t17_4 w R
theorem KE_S1_ok (l_ : Nat) (rec_ : Loop) (R : Post) (E : Env) (w : World) (h : KE_S1 l_ (lo rec_) E w R) : WP Tryz.prog ⟨32, [], some l_⟩ C7 (Q2 l_ rec_ R) E w := by
  obtain ⟨t2, hq2, h_1⟩ := W.asRef_elim h
  obtain ⟨t3, hq3, h_2⟩ := W.asRef_elim h_1
  obtain ⟨t4, hq4, h_3⟩ := W.asRef_elim h_2
  obtain ⟨r5, hq5, h_4⟩ := W.asRef_elim h_3
  obtain ⟨t17_l0, hq17, h_5⟩ := W.asAgg_elim h_4
  obtain ⟨t17_v0, t17_l1, rfl, h_6⟩ := W.asCons_elim h_5
  obtain ⟨t17_0, ex, h_7⟩ := W.asInt_elim h_6
  obtain rfl := Option.some.inj ex
  obtain ⟨t17_v1, t17_l2, rfl, h_8⟩ := W.asCons_elim h_7
  obtain ⟨t17_1, ex, h_9⟩ := W.asInt_elim h_8
  obtain rfl := Option.some.inj ex
  obtain ⟨t17_v2, t17_l3, rfl, h_10⟩ := W.asCons_elim h_9
  obtain ⟨t17_2, ex, h_11⟩ := W.asInt_elim h_10
  obtain rfl := Option.some.inj ex
  obtain ⟨t17_v3, t17_l4, rfl, h_12⟩ := W.asCons_elim h_11
  obtain ⟨t17_3, ex, h_13⟩ := W.asStr_elim h_12
  obtain rfl := Option.some.inj ex
  obtain ⟨t17_v4, t17_l5, rfl, h_14⟩ := W.asCons_elim h_13
  obtain ⟨t17_4, ex, h_15⟩ := W.asInt_elim h_14
  obtain rfl := Option.some.inj ex
  obtain ⟨rfl, h_16⟩ := W.asNil_elim h_15
  exact fun a ha => WP.at (n := ⟨32, [], some l_⟩) (E := [(2, .pointer (some t2)), (3, .pointer (some t3)), (4, .pointer (some t4)), (5, .pointer (some r5)), (17, .agg #[.int .u8 t17_0, .int .u8 t17_1, .int .u8 t17_2, .string t17_3, .i t17_4])]) (WP.reg (c := C7) (fun E w => w.heap[l_]? = some (lo rec_ .ready none) ∧ ((fun w => KE_S2 l_ (lo rec_) E w R) (w.putObj l_ (lo rec_ .busy none)))) (by kernel_rfl) (mp h_16) fun _ _ a hA hK => ⟨(hK).1, (WP.block (c := C8) (x := C9) (id := 1) (by kernel_rfl) (KE_S2_ok l_ rec_ R _ _ (hK).2)) a hA⟩) (ha.cons hq2 (ha.cons hq3 (ha.cons hq4 (ha.cons hq5 (ha.cons hq17 ha.nil)))))
/-- a round of the loop, text.go:262 -/
abbrev B_S0 (l_ : Nat) (o_ : LoopState → Option Code → Obj) (s0 : ByteArray) (t2 t3 t4 r5 t16_c0 : Addr) (x17_0 x17_1 x17_2 : Int) (x17_3 : ByteArray) (x17_4 : Int) (w : World) (R : Post) : Prop :=
  S1 l_ o_ t2 t3 t4 r5 x17_0 x17_1 x17_2 x17_3 x17_4 w R
theorem Y_S0 (l_ : Nat) (rec_ : Loop) (s0 : ByteArray) (t2 t3 t4 r5 t16_c0 : Addr) (x17_0 x17_1 x17_2 : Int) (x17_3 : ByteArray) (x17_4 : Int) (w : World) (R : Post) (h : B_S0 l_ (lo rec_) s0 t2 t3 t4 r5 t16_c0 x17_0 x17_1 x17_2 x17_3 x17_4 w R) : WP Tryz.prog ⟨32, [], some l_⟩ C7 (QAssign Tryz.prog 32 l_ rec_ C8 (roundPost Tryz.prog l_ R)) (putL [(0, .string s0), (2, .pointer (some t2)), (3, .pointer (some t3)), (4, .pointer (some t4)), (5, .pointer (some r5)), (16, .func (.func n_regex_tokens_1) #[] #[.pointer (some t16_c0)])] [17] [.agg #[.int .u8 x17_0, .int .u8 x17_1, .int .u8 x17_2, .string x17_3, .i x17_4]]) w :=
  (KE_S1_ok l_ rec_ R _ _ (mp h))
noncomputable def C16:=C3.sn
noncomputable def C17:=C16.sn
noncomputable def C18:=C17.fs
noncomputable def C19:=C18.sn
noncomputable def C20:=C19.fs
noncomputable def C21:=C17.sn
abbrev Q3 (R : Post) : ExP := (Exit.then (wpx Tryz.prog (cx 32) C21 (bodyPostM Fence.wide 0 Tryz.prog Tryz.f38 R)) (bodyPostM Fence.wide 0 Tryz.prog Tryz.f38 R))
noncomputable def C22:=C20.fs
noncomputable def C23:=C20.sn
/-- text.go:268 -/
abbrev S6 (D_ : Nat) (s0 : ByteArray) (t2 t3 t4 : Addr) (w : World) (R : Post) : Prop :=
  stW4 w t2 (.i 0) (.int .u8 0) (.int .u8 0) (.slice none 0 0) fun w4 => stV w4 t3 (.i ((s0.size : Nat) : Int)) fun w5 => 
  stV w5 t4 (.i 4) fun w6 => 
  puV w6 D_ (.deferred (some [])) (.deferred none) fun w7 => ld4_0 w7 t2 fun r2_0 r2_1 r2_2 r2_3 => ∃ r3 : Int, w7.cell? t3 = some (.i r3) ∧ 
  ∃ r4 : Int, w7.cell? t4 = some (.i r4) ∧ 
  R (.returned (.tuple #[.agg #[.i r2_0, .int .u8 r2_1, .int .u8 r2_2, r2_3.v], .i r3, .i r4])) w7
def KE_S6 (D_ : Nat) (E : Env) (w : World) (R : Post) : Prop := W.asStr (Env.get? E 0) fun s0 => W.asRef (Env.get? E 2) fun t2 => W.asRef (Env.get? E 3) fun t3 => W.asRef (Env.get? E 4) fun t4 => S6 D_ s0 t2 t3 t4 w R
theorem KE_S6_ok (D_ : Nat) (R : Post) (E : Env) (w : World) (h : KE_S6 D_ E w R) : WP Tryz.prog (marked 32 D_) C20 (Q3 R) E w := by
  obtain ⟨s0, hq0, h_1⟩ := W.asStr_elim h
  obtain ⟨t2, hq2, h_2⟩ := W.asRef_elim h_1
  obtain ⟨t3, hq3, h_3⟩ := W.asRef_elim h_2
  obtain ⟨t4, hq4, h_4⟩ := W.asRef_elim h_3
  exact fun a ha => WP.at (n := (marked 32 D_)) (E := [(0, .string s0), (2, .pointer (some t2)), (3, .pointer (some t3)), (4, .pointer (some t4))]) (WP.seq (c := C20) (x := C22) (y := C23) (by kernel_rfl) <| WP.reg (c := C22) (fun E w => retVCm Tryz.prog Tryz.f38 E w D_ R) (by kernel_rfl) (mp h_4) fun _ _ a hA hK => (WP.ret (c := C23) (by kernel_rfl) fun a hA => retVCm_sound hA hK) a hA) (ha.cons hq0 (ha.cons hq2 (ha.cons hq3 (ha.cons hq4 ha.nil))))
abbrev Q4 (R : Post) : ExP := (bodyPostM Fence.wide 0 Tryz.prog Tryz.f38 R)
noncomputable def C24:=C21.fs
noncomputable def C25:=C21.sn
/-- text.go:270 -/
abbrev S7 (D_ : Nat) (t2 t3 t4 x7 : Addr) (w : World) (R : Post) : Prop :=
  ld4_0 w x7 fun t31_0 t31_1 t31_2 t31_3 => stW4 w t2 (.i t31_0) (.int .u8 t31_1) (.int .u8 t31_2) (t31_3.v) fun w4 => stV w4 t3 (.i 0) fun w5 => 
  stV w5 t4 (.i 0) fun w6 => 
  puV w6 D_ (.deferred (some [])) (.deferred none) fun w7 => ld4_0 w7 t2 fun r2_0 r2_1 r2_2 r2_3 => ∃ r3 : Int, w7.cell? t3 = some (.i r3) ∧ 
  ∃ r4 : Int, w7.cell? t4 = some (.i r4) ∧ 
  R (.returned (.tuple #[.agg #[.i r2_0, .int .u8 r2_1, .int .u8 r2_2, r2_3.v], .i r3, .i r4])) w7
def KE_S7 (D_ : Nat) (E : Env) (w : World) (R : Post) : Prop := W.asRef (Env.get? E 2) fun t2 => W.asRef (Env.get? E 3) fun t3 => W.asRef (Env.get? E 4) fun t4 => W.asRef (Env.get? E 7) fun x7 => S7 D_ t2 t3 t4 x7 w R
theorem KE_S7_ok (D_ : Nat) (R : Post) (E : Env) (w : World) (h : KE_S7 D_ E w R) : WP Tryz.prog (marked 32 D_) C21 (Q4 R) E w := by
  obtain ⟨t2, hq2, h_1⟩ := W.asRef_elim h
  obtain ⟨t3, hq3, h_2⟩ := W.asRef_elim h_1
  obtain ⟨t4, hq4, h_3⟩ := W.asRef_elim h_2
  obtain ⟨x7, hq7, h_4⟩ := W.asRef_elim h_3
  exact fun a ha => WP.at (n := (marked 32 D_)) (E := [(2, .pointer (some t2)), (3, .pointer (some t3)), (4, .pointer (some t4)), (7, .pointer (some x7))]) (WP.seq (c := C21) (x := C24) (y := C25) (by kernel_rfl) <| WP.reg (c := C24) (fun E w => retVCm Tryz.prog Tryz.f38 E w D_ R) (by kernel_rfl) (mp h_4) fun _ _ a hA hK => (WP.ret (c := C25) (by kernel_rfl) fun a hA => retVCm_sound hA hK) a hA) (ha.cons hq2 (ha.cons hq3 (ha.cons hq4 (ha.cons hq7 ha.nil))))
noncomputable def C26:=C18.fs
noncomputable def C27:=C19.sn
/-- text.go:267 -/
abbrev S5 (D_ : Nat) (s0 : ByteArray) (t2 t3 t4 x7 : Addr) (w : World) (R : Post) : Prop :=
  ld4_0 w x7 fun t26_0 t26_1 t26_2 t26_3 => ca1 n_regex_tooLarge #[.agg #[.i t26_0, .int .u8 t26_1, .int .u8 t26_2, t26_3.v]] w fun t27 w1 => sel t27 (S6 D_ s0 t2 t3 t4 w1 R) (S7 D_ t2 t3 t4 x7 w1 R)
def KE_S5 (D_ : Nat) (E : Env) (w : World) (R : Post) : Prop := W.asStr (Env.get? E 0) fun s0 => W.asRef (Env.get? E 2) fun t2 => W.asRef (Env.get? E 3) fun t3 => W.asRef (Env.get? E 4) fun t4 => W.asRef (Env.get? E 7) fun x7 => S5 D_ s0 t2 t3 t4 x7 w R
theorem KE_S5_ok (D_ : Nat) (R : Post) (E : Env) (w : World) (h : KE_S5 D_ E w R) : WP Tryz.prog (marked 32 D_) C18 (Q3 R) E w := by
  obtain ⟨s0, hq0, h_1⟩ := W.asStr_elim h
  obtain ⟨t2, hq2, h_2⟩ := W.asRef_elim h_1
  obtain ⟨t3, hq3, h_3⟩ := W.asRef_elim h_2
  obtain ⟨t4, hq4, h_4⟩ := W.asRef_elim h_3
  obtain ⟨x7, hq7, h_5⟩ := W.asRef_elim h_4
  exact fun a ha => WP.at (n := (marked 32 D_)) (E := [(0, .string s0), (2, .pointer (some t2)), (3, .pointer (some t3)), (4, .pointer (some t4)), (7, .pointer (some x7))]) (WP.seq (c := C18) (x := C26) (y := C19) (by kernel_rfl) <| WP.reg (c := C26) (fun E w => condK (Env.val E (.tmp 27)) (KE_S6 D_ E w R) (KE_S7 D_ E w R)) (by kernel_rfl) (mp h_5) fun _ _ a hA hK => (WP.condK (c := C19) (x := C20) (y := C27) (o := .tmp 27) (by kernel_rfl) (fun hK => (KE_S6_ok D_ R _ _ hK)) (fun hK => (WP.skip (c := C27) (by kernel_rfl) fun a hA => (KE_S7_ok D_ R _ _ hK) a hA)) hK) a hA) (ha.cons hq0 (ha.cons hq2 (ha.cons hq3 (ha.cons hq4 (ha.cons hq7 ha.nil)))))
noncomputable def C28:=C16.fs
/-- text.go:266 -/
abbrev S4 (D_ : Nat) (s0 : ByteArray) (t2 t3 t4 r5 : Addr) (w : World) (R : Post) : Prop :=
  ca11 n_regex_reader_top #[.pointer (some r5)] w fun t24 w1 => ca2 n_regex_frame_endExpr #[.pointer t24] w1 fun t25_0 t25_1 t25_2 t25_3 w2 => nwV w2 (.cells #[.i 0, .int .u8 0, .int .u8 0, .slice none 0 0] ty_regex_Regex) fun w3 => 
  stW4 w3 (nb w2) (.i t25_0) (.int .u8 t25_1) (.int .u8 t25_2) (t25_3.v) fun w7 => S5 D_ s0 t2 t3 t4 (nb w2) w7 R
def KE_S4 (D_ : Nat) (E : Env) (w : World) (R : Post) : Prop := W.asStr (Env.get? E 0) fun s0 => W.asRef (Env.get? E 2) fun t2 => W.asRef (Env.get? E 3) fun t3 => W.asRef (Env.get? E 4) fun t4 => W.asRef (Env.get? E 5) fun r5 => S4 D_ s0 t2 t3 t4 r5 w R
theorem KE_S4_ok (D_ : Nat) (R : Post) (E : Env) (w : World) (h : KE_S4 D_ E w R) : WP Tryz.prog (marked 32 D_) C16 (Q4 R) E w := by
  obtain ⟨s0, hq0, h_1⟩ := W.asStr_elim h
  obtain ⟨t2, hq2, h_2⟩ := W.asRef_elim h_1
  obtain ⟨t3, hq3, h_3⟩ := W.asRef_elim h_2
  obtain ⟨t4, hq4, h_4⟩ := W.asRef_elim h_3
  obtain ⟨r5, hq5, h_5⟩ := W.asRef_elim h_4
  exact fun a ha => WP.at (n := (marked 32 D_)) (E := [(0, .string s0), (2, .pointer (some t2)), (3, .pointer (some t3)), (4, .pointer (some t4)), (5, .pointer (some r5))]) (WP.seq (c := C16) (x := C28) (y := C17) (by kernel_rfl) <| WP.reg (c := C28) (fun E w => KE_S5 D_ E w R) (by kernel_rfl) (mp h_5) fun _ _ a hA hK => (WP.seq (c := C17) (x := C18) (y := C21) (by kernel_rfl) (KE_S5_ok D_ R _ _ hK)) a hA) (ha.cons hq0 (ha.cons hq2 (ha.cons hq3 (ha.cons hq4 (ha.cons hq5 ha.nil)))))
/-- rangeFunc: a loop over a function -/
abbrev S0 (s0 : ByteArray) (t2 t3 t4 r5 t16_c0 : Addr) (w : World) (R : Post) : Prop :=
  ∀ o_ : LoopState → Option Code → Obj, (∀ (x17_0 x17_1 x17_2 : Int) (x17_3 : ByteArray) (x17_4 : Int) (w_ : World) (K_ : Bool → World → Prop), w_.heap[w.heap.size + 1]? = some (o_ .ready none) → B_S0 (w.heap.size + 1) o_ s0 t2 t3 t4 r5 t16_c0 x17_0 x17_1 x17_2 x17_3 x17_4 w_ (fun r_ w1 => ∃ b_ : Bool, r_ = .returned (.bool b_) ∧ K_ b_ w1) → yieldB Tryz.prog (w.heap.size + 1) #[.agg #[.int .u8 x17_0, .int .u8 x17_1, .int .u8 x17_2, .string x17_3, .i x17_4]] w_ K_) →
  Calls Tryz.prog n_regex_tokens_1 #[.func (.yield (w.heap.size + 1)) #[] #[], .pointer (some t16_c0)] ((w.alloc (.deferred (some []))).alloc (o_ .ready none)) fun r_ w2 => (∃ v_, r_ = .returned v_) ∧ RangeEnd w2 (w.heap.size + 1) o_ (fun w3 => S4 w.heap.size s0 t2 t3 t4 r5 w3 R) (fun id_ w3 => False) (fun w3 => puV w3 w.heap.size (.deferred (some [])) (.deferred none) fun w4 => ld4_0 w4 t2 fun r2_0 r2_1 r2_2 r2_3 => ∃ r3 : Int, w4.cell? t3 = some (.i r3) ∧ 
  ∃ r4 : Int, w4.cell? t4 = some (.i r4) ∧ 
  R (.returned (.tuple #[.agg #[.i r2_0, .int .u8 r2_1, .int .u8 r2_2, r2_3.v], .i r3, .i r4])) w4)
abbrev Q5 (R : Post) : ExP := (Exit.then (wpx Tryz.prog (cx 32) C16 (bodyPostM Fence.wide 0 Tryz.prog Tryz.f38 R)) (bodyPostM Fence.wide 0 Tryz.prog Tryz.f38 R))
abbrev Q6 (R : Post) : ExP := (Exit.inBlock 0 (Q5 R))
def KE_S0 (E : Env) (w : World) (R : Post) : Prop := W.asStr (Env.get? E 0) fun s0 => W.asRef (Env.get? E 2) fun t2 => W.asRef (Env.get? E 3) fun t3 => W.asRef (Env.get? E 4) fun t4 => W.asRef (Env.get? E 5) fun r5 => W.asFunc n_regex_tokens_1 (Env.get? E 16) fun t16_lf0 t16_lc0 => W.asNil t16_lf0 <| W.asCons t16_lc0 fun t16_vc0 t16_lc1 => W.asRef (some t16_vc0) fun t16_c0 => W.asNil t16_lc1 <| S0 s0 t2 t3 t4 r5 t16_c0 w R
theorem KE_S0_ok : KOk Tryz.prog 32 KE_S0 C6 Q6 := by
  intro R E w h
  obtain ⟨s0, hq0, h_1⟩ := W.asStr_elim h
  obtain ⟨t2, hq2, h_2⟩ := W.asRef_elim h_1
  obtain ⟨t3, hq3, h_3⟩ := W.asRef_elim h_2
  obtain ⟨t4, hq4, h_4⟩ := W.asRef_elim h_3
  obtain ⟨r5, hq5, h_5⟩ := W.asRef_elim h_4
  obtain ⟨t16_lf0, t16_lc0, hq16, h_6⟩ := W.asFunc_elim h_5
  obtain ⟨rfl, h_7⟩ := W.asNil_elim h_6
  obtain ⟨t16_vc0, t16_lc1, rfl, h_8⟩ := W.asCons_elim h_7
  obtain ⟨t16_c0, ex, h_9⟩ := W.asRef_elim h_8
  obtain rfl := Option.some.inj ex
  obtain ⟨rfl, h_10⟩ := W.asNil_elim h_9
  exact fun a ha => WP.at (n := (cx 32)) (E := [(0, .string s0), (2, .pointer (some t2)), (3, .pointer (some t3)), (4, .pointer (some t4)), (5, .pointer (some r5)), (16, .func (.func n_regex_tokens_1) #[] #[.pointer (some t16_c0)])]) (WP.range (m := 32) (c := C6) (g := .tmp 16) (ps := #[17]) (assign := C7) (body := C8) (gf := n_regex_tokens_1) (lb := #[.pointer (some t16_c0)]) (fun w3 => S4 w.heap.size s0 t2 t3 t4 r5 w3 R) (fun id_ w3 => False) (fun w3 => puV w3 w.heap.size (.deferred (some [])) (.deferred none) fun w4 => ld4_0 w4 t2 fun r2_0 r2_1 r2_2 r2_3 => ∃ r3 : Int, w4.cell? t3 = some (.i r3) ∧ 
  ∃ r4 : Int, w4.cell? t4 = some (.i r4) ∧ 
  R (.returned (.tuple #[.agg #[.i r2_0, .int .u8 r2_1, .int .u8 r2_2, r2_3.v], .i r3, .i r4])) w4) (by kernel_rfl) rfl (by kernel_rfl)
    (fun w3 hK a hA => (KE_S4_ok w.heap.size R _ _ (mp hK)) a hA)
    (fun _ _ hK => hK.elim)
    (fun w3 hK a hA => retVCm_sound hA (mp hK))
    (fun rec_ hr_ => h_10 (lo rec_) (fun x17_0 x17_1 x17_2 x17_3 x17_4 w_ K_ hl_ hb_ => yield_of (args := [.agg #[.int .u8 x17_0, .int .u8 x17_1, .int .u8 x17_2, .string x17_3, .i x17_4]]) hr_ hl_ rfl (by kernel_rfl) (fun _ _ h => h) (Y_S0 _ rec_ s0 t2 t3 t4 r5 t16_c0 x17_0 x17_1 x17_2 x17_3 x17_4 w_ _ hb_)))) (ha.cons hq0 (ha.cons hq2 (ha.cons hq3 (ha.cons hq4 (ha.cons hq5 (ha.cons hq16 ha.nil))))))
/-- enthymeme/regex.Parse -/
noncomputable def C29:=C1.fs
noncomputable def C30:=C29.sn
noncomputable def C31:=C30.fs
noncomputable def C32:=C31.sn
noncomputable def C33:=C30.sn
theorem ok (s0 : ByteArray) (w : World) (R : Post) (h : nwV w (.cells #[.i 0, .int .u8 0, .int .u8 0, .slice none 0 0] ty_regex_Regex) fun w1 => 
  nwV w1 (.cells #[.i 0] ty_int) fun w2 => 
  nwV w2 (.cells #[.i 0] ty_api_Errno) fun w3 => 
  sel (decide (((s0.size : Nat) : Int) > 4096)) (stW4 w3 (nb w) (.i 0) (.int .u8 0) (.int .u8 0) (.slice none 0 0) fun w7 => stV w7 (nb w1) (.i 4096) fun w8 => 
  stV w8 (nb w2) (.i 4) fun w9 => 
  ld4_0 w9 (nb w) fun r2_0 r2_1 r2_2 r2_3 => ∃ r3 : Int, w9.cell? (nb w1) = some (.i r3) ∧ 
  ∃ r4 : Int, w9.cell? (nb w2) = some (.i r4) ∧ 
  R (.returned (.tuple #[.agg #[.i r2_0, .int .u8 r2_1, .int .u8 r2_2, r2_3.v], .i r3, .i r4])) w9) (nwV w3 (.cells #[.i (-1), .slice none 0 0, .slice none 0 0, .slice none 0 0, .slice none 0 0, .i 0, .i 0, .int .u8 0, .int .u8 0, .slice none 0 0] ty_regex_frame) fun w10 => 
  nwV w10 (.cells #[.slice none 0 0, .i 0, .i 0] ty_regex_reader) fun w11 => 
  stW3 w11 (nb w10) (.slice (some (nb w3)) 1 1) (.i 0) (.i 0) fun w14 => ca12 n_regex_tokens #[.string s0] w14 fun t16 w15 => W.asFunc n_regex_tokens_1 (some t16) fun t16f_lf0 t16f_lc0 => W.asNil t16f_lf0 <| W.asCons t16f_lc0 fun t16f_vc0 t16f_lc1 => W.asRef (some t16f_vc0) fun t16f_c0 => W.asNil t16f_lc1 <| S0 s0 (nb w) (nb w1) (nb w2) (nb w10) t16f_c0 w15 R)) : Calls Tryz.prog n_regex_Parse #[.string s0] w R :=
  calls_of_WPM (R := R) (fn := Tryz.f38) (c := C0) (args := [.string s0]) (by kernel_rfl) (by kernel_rfl) (by kernel_rfl) (sr C0 (show (fun (E : Env) (w : World) => srK Tryz.prog C0 (fun E w => srK Tryz.prog C29 (fun E w => condK (Env.val E (.tmp 10)) (srK Tryz.prog C31 (fun E w => retVC Tryz.prog Tryz.f38 E w (fun v => R (.returned v) w)) E w) (srK Tryz.prog C2 (fun E w => srK Tryz.prog C4 (fun E w => KE_S0 E w R) E w) E w)) E w) E w) (envOf 0 [.string s0]) w from mp h) fun _ _ hK => (sq C1 (sr C29 hK fun _ _ hK => (cn C30 hK (fun hK => (sr C31 hK fun _ _ hK => (rt C32 fun a hA => retM_sound hA hK))) (fun hK => (sk C33 fun a hA => nx hA (sr C2 hK fun _ _ hK => (sq C3 (sr C4 hK fun _ _ hK => (bk C5 0 (by kernel_rfl) (KE_S0_ok R _ _ hK)))))))))))
end regex_Parse
end Go.Proofs.YtknlbofiicflgaaGreat
