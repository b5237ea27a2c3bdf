/- Printed by a program of ours (vcgen.py) from the dump: the conditions of the functions, and that they suffice. Small numbers and sorts as texts, on both sides. The printer: what it holds; measure. newPrinter: the region that makes the rows in any order. newPrinter: the words of the operations, the loop, the contract. Package term: Valid: the contract. write and Term: the contracts. bits.Text: the contract. Quote and the heads of all nodes: the contracts. Printed by a program of ours (vcgen.py) from the dump: the conditions of the functions, and that they suffice. Printed by a program of ours (vcgen.py) from the dump: the conditions of the functions, and that they suffice. print.Script: names, heads of lines, what a printer knows of declarations. print.Script: what is proper, the lengths of lines. print.Script: proper, the lengths of lines, the contract for a declaration and an assertion. print.Script: the lengths of lines, and the contract for a declaration and an assertion. Chains and doublings, plain. No program in sight. Printed by a program of ours (vcgen.py) from the dump: the conditions of the functions, and that they suffice. -/
import Derived.Test.YtibaobaobnpdaaaGreatDoorBK
import Derived.Test.YtibaobaobnpdaaaGreatDoorP0
import Derived.Test.YtibaobaobnpdaaaGreatDoorVC
import Derived.Test.YtibaobaobnpdaaaGreatDoorU
set_option linter.unusedVariables false
set_option linter.unusedVariables false
set_option maxRecDepth 100000
set_option maxHeartbeats 2000000
namespace Go.Proofs.YtibaobaobnpdaaaGreatDoor
open Go Go.W
namespace internal_strconv_small
noncomputable abbrev X : Fx := ⟨Tryz.prog, Tryz.f116, [], []⟩
theorem ok (i0 : Int) (w : World) (R : Post) (h : sel (decide (i0 < 10)) ((0 : Int) ≤ (IntKind.wrap .i64 (i0 + 1)) ∧ (IntKind.wrap .i64 (i0 + 1)) ≤ (((ByteArray.mk #[48, 49, 50, 51, 52, 53, 54, 55, 56, 57, 97, 98, 99, 100, 101, 102, 103, 104, 105, 106, 107, 108, 109, 110, 111, 112, 113, 114, 115, 116, 117, 118, 119, 120, 121, 122]).size : Nat) : Int) ∧ (0 : Int) ≤ i0 ∧ i0 ≤ (((Int.toNat (IntKind.wrap .i64 (i0 + 1))) : Nat) : Int) ∧ R (.returned (.string ((ByteArray.mk #[48, 49, 50, 51, 52, 53, 54, 55, 56, 57, 97, 98, 99, 100, 101, 102, 103, 104, 105, 106, 107, 108, 109, 110, 111, 112, 113, 114, 115, 116, 117, 118, 119, 120, 121, 122]).extract (Int.toNat i0) (Int.toNat (IntKind.wrap .i64 (i0 + 1)))))) w) ((0 : Int) ≤ (IntKind.wrap .i64 ((IntKind.wrap .i64 (i0 * 2)) + 2)) ∧ (IntKind.wrap .i64 ((IntKind.wrap .i64 (i0 * 2)) + 2)) ≤ (((ByteArray.mk #[48, 48, 48, 49, 48, 50, 48, 51, 48, 52, 48, 53, 48, 54, 48, 55, 48, 56, 48, 57, 49, 48, 49, 49, 49, 50, 49, 51, 49, 52, 49, 53, 49, 54, 49, 55, 49, 56, 49, 57, 50, 48, 50, 49, 50, 50, 50, 51, 50, 52, 50, 53, 50, 54, 50, 55, 50, 56, 50, 57, 51, 48, 51, 49, 51, 50, 51, 51, 51, 52, 51, 53, 51, 54, 51, 55, 51, 56, 51, 57, 52, 48, 52, 49, 52, 50, 52, 51, 52, 52, 52, 53, 52, 54, 52, 55, 52, 56, 52, 57, 53, 48, 53, 49, 53, 50, 53, 51, 53, 52, 53, 53, 53, 54, 53, 55, 53, 56, 53, 57, 54, 48, 54, 49, 54, 50, 54, 51, 54, 52, 54, 53, 54, 54, 54, 55, 54, 56, 54, 57, 55, 48, 55, 49, 55, 50, 55, 51, 55, 52, 55, 53, 55, 54, 55, 55, 55, 56, 55, 57, 56, 48, 56, 49, 56, 50, 56, 51, 56, 52, 56, 53, 56, 54, 56, 55, 56, 56, 56, 57, 57, 48, 57, 49, 57, 50, 57, 51, 57, 52, 57, 53, 57, 54, 57, 55, 57, 56, 57, 57]).size : Nat) : Int) ∧ (0 : Int) ≤ (IntKind.wrap .i64 (i0 * 2)) ∧ (IntKind.wrap .i64 (i0 * 2)) ≤ (((Int.toNat (IntKind.wrap .i64 ((IntKind.wrap .i64 (i0 * 2)) + 2))) : Nat) : Int) ∧ R (.returned (.string ((ByteArray.mk #[48, 48, 48, 49, 48, 50, 48, 51, 48, 52, 48, 53, 48, 54, 48, 55, 48, 56, 48, 57, 49, 48, 49, 49, 49, 50, 49, 51, 49, 52, 49, 53, 49, 54, 49, 55, 49, 56, 49, 57, 50, 48, 50, 49, 50, 50, 50, 51, 50, 52, 50, 53, 50, 54, 50, 55, 50, 56, 50, 57, 51, 48, 51, 49, 51, 50, 51, 51, 51, 52, 51, 53, 51, 54, 51, 55, 51, 56, 51, 57, 52, 48, 52, 49, 52, 50, 52, 51, 52, 52, 52, 53, 52, 54, 52, 55, 52, 56, 52, 57, 53, 48, 53, 49, 53, 50, 53, 51, 53, 52, 53, 53, 53, 54, 53, 55, 53, 56, 53, 57, 54, 48, 54, 49, 54, 50, 54, 51, 54, 52, 54, 53, 54, 54, 54, 55, 54, 56, 54, 57, 55, 48, 55, 49, 55, 50, 55, 51, 55, 52, 55, 53, 55, 54, 55, 55, 55, 56, 55, 57, 56, 48, 56, 49, 56, 50, 56, 51, 56, 52, 56, 53, 56, 54, 56, 55, 56, 56, 56, 57, 57, 48, 57, 49, 57, 50, 57, 51, 57, 52, 57, 53, 57, 54, 57, 55, 57, 56, 57, 57]).extract (Int.toNat (IntKind.wrap .i64 (i0 * 2))) (Int.toNat (IntKind.wrap .i64 ((IntKind.wrap .i64 (i0 * 2)) + 2)))))) w)) : Calls Tryz.prog n_internal_strconv_small #[.i i0] w R := callsX X [] h
end internal_strconv_small
namespace internal_strconv_FormatInt
noncomputable def C0 : Code := (Tryz.f89.body).getD .skip
/-- internal/strconv.FormatInt -/
noncomputable def C1:=C0.sn
noncomputable def C2:=C1.fs
noncomputable def C3:=C2.sn
noncomputable def C4:=C3.fs
noncomputable def C5:=C4.fs
noncomputable def C6:=C5.sn
noncomputable def C7:=C6.fs
noncomputable def C8:=C7.sn
noncomputable def C9:=C6.sn
noncomputable def C10:=C4.sn
noncomputable def C11:=C3.sn
noncomputable def C12:=C1.sn
theorem ok (i0 base1 : Int) (w : World) (R : Post) (h : sel (base1 == 10) (sel (decide (0 ≤ i0)) (sel (decide (i0 < 100)) (ca16 n_internal_strconv_small #[.i i0] w fun t19 w1 => R (.returned (.string t19)) w1) (False)) (False)) (False)) : Calls Tryz.prog n_internal_strconv_FormatInt #[.i i0, .i base1] w R :=
  calls_of_WP' (R := R) (fn := Tryz.f89) (c := C0) (args := [.i i0, .i base1]) (by kernel_rfl) (by kernel_rfl) (by kernel_rfl) (sr C0 (show (fun (E : Env) (w : World) => srK Tryz.prog C0 (fun E w => srK Tryz.prog C2 (fun E w => condK (Env.val E (.tmp 11)) (srK Tryz.prog C5 (fun E w => condK (Env.val E (.tmp 17)) (srK Tryz.prog C7 (fun E w => retVC Tryz.prog Tryz.f89 E w (fun v => R (.returned v) w)) E w) (False)) E w) (False)) E w) E w) (envOf 0 [.i i0, .i base1]) w from mp h) fun _ _ hK => (sq C1 (sr C2 hK fun _ _ hK => (cn C3 hK (fun hK => (sq C4 (sr C5 hK fun _ _ hK => (cn C6 hK (fun hK => (sr C7 hK fun _ _ hK => (rt C8 fun a hA => retVC_sound hA hK))) (fun hK => (sk C9 fun a hA => nx hA (False.elim hK))))))) (fun hK => (sk C11 fun a hA => nx hA (False.elim hK)))))))
end internal_strconv_FormatInt
namespace internal_strconv_Itoa
noncomputable abbrev X : Fx := ⟨Tryz.prog, Tryz.f62, [], []⟩
theorem ok (i0 : Int) (w : World) (R : Post) (h : ca16 n_internal_strconv_FormatInt #[.i i0, .i 10] w fun t4 w1 => R (.returned (.string t4)) w1) : Calls Tryz.prog n_internal_strconv_Itoa #[.i i0] w R := callsX X [] h
end internal_strconv_Itoa
namespace strconv_Itoa
noncomputable abbrev X : Fx := ⟨Tryz.prog, Tryz.f40, [], []⟩
theorem ok (i0 : Int) (w : World) (R : Post) (h : ca16 n_internal_strconv_Itoa #[.i i0] w fun t4 w1 => R (.returned (.string t4)) w1) : Calls Tryz.prog n_strconv_Itoa #[.i i0] w R := callsX X [] h
end strconv_Itoa
namespace print_sortText
noncomputable abbrev X : Fx := ⟨Tryz.prog, Tryz.f39, [(1,ls [0,1,3,4,2,5,6,7])], [1]⟩
theorem okT (s0_0 s0_1 s0_2 : Int) (w : World) (R : Post) (h : newV [] w fun b1 w1 => 
  loc [b1] w1 fun w2 => cf16 [b1] n_strconv_Itoa #[.i s0_1] w2 fun t7 w3 => cf16 [b1] n_strconv_Itoa #[.i s0_2] w3 fun t10 w4 => sel (s0_0 == 0) (¬ ((((ByteArray.mk #[40, 98, 118, 32]).size + t7.size : Nat) : Int) > IntKind.i64.max) ∧ ¬ (((((ByteArray.mk #[40, 98, 118, 32]) ++ t7).size + (ByteArray.mk #[41]).size : Nat) : Int) > IntKind.i64.max) ∧ R (.returned (.string (((ByteArray.mk #[40, 98, 118, 32]) ++ t7) ++ (ByteArray.mk #[41])))) w4) (sel (s0_0 == 1) (¬ ((((ByteArray.mk #[40, 115, 116, 114, 32]).size + t7.size : Nat) : Int) > IntKind.i64.max) ∧ ¬ (((((ByteArray.mk #[40, 115, 116, 114, 32]) ++ t7).size + (ByteArray.mk #[41]).size : Nat) : Int) > IntKind.i64.max) ∧ R (.returned (.string (((ByteArray.mk #[40, 115, 116, 114, 32]) ++ t7) ++ (ByteArray.mk #[41])))) w4) (sel (s0_0 == 2) (¬ ((((ByteArray.mk #[40, 97, 114, 114, 32]).size + t10.size : Nat) : Int) > IntKind.i64.max) ∧ ¬ (((((ByteArray.mk #[40, 97, 114, 114, 32]) ++ t10).size + (ByteArray.mk #[32]).size : Nat) : Int) > IntKind.i64.max) ∧ ¬ ((((((ByteArray.mk #[40, 97, 114, 114, 32]) ++ t10) ++ (ByteArray.mk #[32])).size + t7.size : Nat) : Int) > IntKind.i64.max) ∧ ¬ (((((((ByteArray.mk #[40, 97, 114, 114, 32]) ++ t10) ++ (ByteArray.mk #[32])) ++ t7).size + (ByteArray.mk #[41]).size : Nat) : Int) > IntKind.i64.max) ∧ R (.returned (.string (((((ByteArray.mk #[40, 97, 114, 114, 32]) ++ t10) ++ (ByteArray.mk #[32])) ++ t7) ++ (ByteArray.mk #[41])))) w4) (¬ ((((ByteArray.mk #[40, 97, 114, 115, 32]).size + t10.size : Nat) : Int) > IntKind.i64.max) ∧ ¬ (((((ByteArray.mk #[40, 97, 114, 115, 32]) ++ t10).size + (ByteArray.mk #[32]).size : Nat) : Int) > IntKind.i64.max) ∧ ¬ ((((((ByteArray.mk #[40, 97, 114, 115, 32]) ++ t10) ++ (ByteArray.mk #[32])).size + t7.size : Nat) : Int) > IntKind.i64.max) ∧ ¬ (((((((ByteArray.mk #[40, 97, 114, 115, 32]) ++ t10) ++ (ByteArray.mk #[32])) ++ t7).size + (ByteArray.mk #[41]).size : Nat) : Int) > IntKind.i64.max) ∧ R (.returned (.string (((((ByteArray.mk #[40, 97, 114, 115, 32]) ++ t10) ++ (ByteArray.mk #[32])) ++ t7) ++ (ByteArray.mk #[41])))) w4)))) : Calls Tryz.prog n_print_sortText #[.agg #[.i s0_0, .i s0_1, .i s0_2]] w R := callsX X [] h
end print_sortText
namespace print_capped
noncomputable abbrev X : Fx := ⟨Tryz.prog, Tryz.f16, [], []⟩
theorem ok (n0 : Int) (w : World) (R : Post) (h : R (.returned (.i (if 65537 < n0 then 65537 else n0))) w) : Calls Tryz.prog n_print_capped #[.i n0] w R := callsX X [] h
end print_capped
namespace bits_mask
noncomputable abbrev X : Fx := ⟨Tryz.prog, Tryz.f87, [], []⟩
theorem ok (wv0 : Int) (w : World) (R : Post) (h : ¬ (IntKind.wrap .i64 (64 - wv0)) < 0 ∧ R (.returned (.u (Int.fdiv 18446744073709551615 (2 ^ (min (Int.toNat (IntKind.wrap .i64 (64 - wv0))) (IntKind.bits .u64)))))) w) : Calls Tryz.prog n_bits_mask #[.i wv0] w R := callsX X [] h
end bits_mask
namespace bits_Valid
noncomputable abbrev X : Fx := ⟨Tryz.prog, Tryz.f86, [], []⟩
abbrev P0 : Ps := []
abbrev S0  (w : World) (R : Post) : Prop :=
  R (.returned (.i 1)) w
noncomputable def eS0 := entS X [] (pth [0, 1, 1, 1, 1]) P0 S0
theorem ok (u0 wv1 : Int) (w : World) (R : Post) (h : sel (decide (wv1 < 1)) (S0  w R) (sel (decide (wv1 > 64)) (S0  w R) (ca18 n_bits_mask #[.i wv1] w fun t13 w1 => sel (decide (u0 > t13)) (R (.returned (.i 5)) w1) (R (.returned (.i 0)) w1)))) : Calls Tryz.prog n_bits_Valid #[.u u0, .i wv1] w R := callsX X [eS0] h
end bits_Valid
namespace bits_Text
noncomputable abbrev X : Fx := ⟨Tryz.prog, Tryz.f56, [(13,ls [0,1,2,3,4,5,6,7,8,9,10,11,12,13,14,15])], []⟩
abbrev P0 : Ps := [(0, .v [.U]), (8, .v [.I]), (9, .v [.I]), (10, .v [.s]), (31, .v [.I]), (32, .v [.I])]
def L2 (u0 size8 n9 : Int) (b10 : Sl) (t31 t32 : Int) (w : World) (R : Post) : Prop := mkCur P0 0 (X.Sem (pth [0, 1, 1, 1, 7])) u0 size8 n9 b10 t31 t32 w R
noncomputable def eL2 := entL X (pth [0, 1, 1, 1, 7]) P0 L2
theorem L2_step : ∀ (u0 size8 n9 : Int) (b10 : Sl) (t31 t32 : Int) (w : World) (R : Post) (h : sel (decide (t32 < t31)) (drV w fun w4 => ¬ (IntKind.wrap .i64 ((IntKind.wrap .i64 ((IntKind.wrap .i64 (n9 - 1)) - t32)) * size8)) < 0 ∧ ca18 n_bits_mask #[.i size8] w4 fun t45 w5 => (0 : Int) ≤ (bAnd .u64 (Int.fdiv u0 (2 ^ (min (Int.toNat (IntKind.wrap .i64 ((IntKind.wrap .i64 ((IntKind.wrap .i64 (n9 - 1)) - t32)) * size8))) (IntKind.bits .u64)))) t45) ∧ ∃ t47_b : UInt8, (ByteArray.mk #[48, 49, 50, 51, 52, 53, 54, 55, 56, 57, 97, 98, 99, 100, 101, 102])[Int.toNat (bAnd .u64 (Int.fdiv u0 (2 ^ (min (Int.toNat (IntKind.wrap .i64 ((IntKind.wrap .i64 ((IntKind.wrap .i64 (n9 - 1)) - t32)) * size8))) (IntKind.bits .u64)))) t45)]? = some t47_b ∧ nwV w5 (.cells #[.int .u8 ((t47_b.toNat : Nat) : Int)] ty_uint8) fun w6 => 
  ∃ (t49 : Sl) (w7 : World), Sem.run Tryz.prog (Builtin.append_ #[ty_sl_uint8, ty_sl_uint8] ty_sl_uint8 #[b10.v, .slice (some (nb w5)) 1 1]) w6 = .ok (t49.v) w7 ∧ L2 u0 size8 n9 t49 t31 (IntKind.wrap .i64 (t32 + 1)) w7 R) (∃ t52 : ByteArray, Sem.run Tryz.prog (Go.convert ty_sl_uint8 ty_string (b10.v)) w = .ok (.string t52) w ∧ R (.returned (.tuple #[.string t52, .i 0])) w)), L2 u0 size8 n9 b10 t31 t32 w R := mp (stepL (X := X) [eL2] (pth [0, 1, 1, 1, 7]) P0)
abbrev P1 : Ps := [(0, .v [.U]), (7, .v [.Y]), (8, .v [.I]), (9, .v [.I])]
abbrev S1 (u0 mark7 size8 n9 : Int) (w : World) (R : Post) : Prop :=
  ∃ (t26 : Sl) (w1 : World), Sem.run Tryz.prog (Instr.makeSlice ty_sl_uint8 (.i 0) (.i (IntKind.wrap .i64 (n9 + 2)))) w = .ok (t26.v) w1 ∧ nwV w1 (.cells #[.int .u8 35, .int .u8 mark7] ty_uint8) fun w2 => 
  ∃ (t30 : Sl) (w3 : World), Sem.run Tryz.prog (Builtin.append_ #[ty_sl_uint8, ty_sl_uint8] ty_sl_uint8 #[t26.v, .slice (some (nb w1)) 2 2]) w2 = .ok (t30.v) w3 ∧ L2 u0 size8 n9 t30 n9 0 w3 R
noncomputable def eS1 := entS X [eL2] (pth [5]) P1 S1
abbrev P2 : Ps := [(0, .v [.U]), (1, .v [.I]), (7, .v [.Y]), (8, .v [.I])]
abbrev S0 (u0 wv1 mark7 size8 : Int) (w : World) (R : Post) : Prop :=
  size8 ≠ 0 ∧ S1 u0 mark7 size8 (IntKind.wrap .i64 (Int.tdiv wv1 size8)) w R
noncomputable def eS0 := entS X [eS1, eL2] (pth [4]) P2 S0
theorem ok (u0 wv1 : Int) (w : World) (R : Post) (h : ca1 n_bits_Valid #[.u u0, .i wv1] w fun t14 w1 => sel (t14 != 0) (R (.returned (.tuple #[.s0, .i t14])) w1) (sel ((Int.tmod wv1 4) == 0) (S0 u0 wv1 120 4 w1 R) (S0 u0 wv1 98 1 w1 R))) : Calls Tryz.prog n_bits_Text #[.u u0, .i wv1] w R := callsX X [eS0, eS1, eL2] h
end bits_Text
namespace lexer_bare
noncomputable abbrev X : Fx := ⟨Tryz.prog, Tryz.f88, [], []⟩
theorem ok (c0 : Int) (w : World) (R : Post) (h : sel (decide (c0 ≥ 32)) (sel (decide (c0 ≤ 126)) (sel (c0 != 34) (R (.returned (.bool (c0 != 92))) w) (R (.returned (.bool false)) w)) (R (.returned (.bool false)) w)) (R (.returned (.bool false)) w)) : Calls Tryz.prog n_lexer_bare #[.int .u8 c0] w R := callsX X [] h
end lexer_bare
namespace lexer_Quote
noncomputable abbrev X : Fx := ⟨Tryz.prog, Tryz.f57, [(19,ls [0,1,2,3,4,5,6,7,8,9])], []⟩
abbrev P0 : Ps := [(0, .v [.st]), (4, .v [.I]), (5, .v [.I])]
def L0 (s0 : ByteArray) (n4 i5 : Int) (w : World) (R : Post) : Prop := mkCur P0 0 (X.Sem (pth [0, 1, 1, 1, 2])) s0 n4 i5 w R
noncomputable def eL0 := entL X (pth [0, 1, 1, 1, 2]) P0 L0
abbrev S2 (s0 : ByteArray) (n4 i5 : Int) (w : World) (R : Post) : Prop :=
  L0 s0 n4 (IntKind.wrap .i64 (i5 + 1)) w R
noncomputable def eS2 := entS X [eL0] (pth [2, 2, 1, 1, 2]) P0 S2
abbrev S3 (s0 : ByteArray) (n4 i5 : Int) (w : World) (R : Post) : Prop :=
  S2 s0 (IntKind.wrap .i64 (n4 + 2)) i5 w R
noncomputable def eS3 := entS X [eS2, eL0] (pth [0, 1, 3, 1, 1, 2, 1, 2, 1, 1, 2]) P0 S3
abbrev P1 : Ps := [(0, .v [.st]), (4, .v [.I]), (5, .v [.I]), (6, .v [.Y])]
abbrev S1 (s0 : ByteArray) (n4 i5 c6 : Int) (w : World) (R : Post) : Prop :=
  ca0 n_lexer_bare #[.int .u8 c6] w fun t27 w1 => sel t27 (S2 s0 (IntKind.wrap .i64 (n4 + 1)) i5 w1 R) (sel (c6 == 34) (S3 s0 n4 i5 w1 R) (sel (c6 == 92) (S3 s0 n4 i5 w1 R) (S2 s0 (IntKind.wrap .i64 (n4 + 4)) i5 w1 R)))
noncomputable def eS1 := entS X [eS3, eS2, eL0] (pth [1, 2, 1, 2, 1, 1, 2]) P1 S1
abbrev P2 : Ps := [(0, .v [.st]), (7, .v [.s]), (8, .v [.I])]
def L5 (s0 : ByteArray) (b7 : Sl) (i8 : Int) (w : World) (R : Post) : Prop := mkCur P2 0 (X.Sem (pth [0, 1, 1, 1, 6])) s0 b7 i8 w R
noncomputable def eL5 := entL X (pth [0, 1, 1, 1, 6]) P2 L5
abbrev S7 (s0 : ByteArray) (b7 : Sl) (i8 : Int) (w : World) (R : Post) : Prop :=
  L5 s0 b7 (IntKind.wrap .i64 (i8 + 1)) w R
noncomputable def eS7 := entS X [eL5, eS1, eS3, eS2, eL0] (pth [2, 2, 1, 1, 6]) P2 S7
abbrev P3 : Ps := [(0, .v [.st]), (7, .v [.s]), (8, .v [.I]), (9, .v [.Y])]
abbrev S8 (s0 : ByteArray) (b7 : Sl) (i8 c9 : Int) (w : World) (R : Post) : Prop :=
  nwV w (.cells #[.int .u8 92, .int .u8 c9] ty_uint8) fun w1 => 
  ∃ (t81 : Sl) (w2 : World), Sem.run Tryz.prog (Builtin.append_ #[ty_sl_uint8, ty_sl_uint8] ty_sl_uint8 #[b7.v, .slice (some (nb w)) 2 2]) w1 = .ok (t81.v) w2 ∧ S7 s0 t81 i8 w2 R
noncomputable def eS8 := entS X [eS7, eL5, eS1, eS3, eS2, eL0] (pth [0, 1, 3, 1, 1, 2, 1, 2, 1, 1, 6]) P3 S8
abbrev S6 (s0 : ByteArray) (b7 : Sl) (i8 c9 : Int) (w : World) (R : Post) : Prop :=
  ca0 n_lexer_bare #[.int .u8 c9] w fun t66 w1 => sel t66 (nwV w1 (.cells #[.int .u8 c9] ty_uint8) fun w2 => 
  ∃ (t70 : Sl) (w3 : World), Sem.run Tryz.prog (Builtin.append_ #[ty_sl_uint8, ty_sl_uint8] ty_sl_uint8 #[b7.v, .slice (some (nb w1)) 1 1]) w2 = .ok (t70.v) w3 ∧ S7 s0 t70 i8 w3 R) (sel (c9 == 34) (S8 s0 b7 i8 c9 w1 R) (sel (c9 == 92) (S8 s0 b7 i8 c9 w1 R) (drV w1 fun w4 => (0 : Int) ≤ (Int.fdiv c9 (2 ^ (4))) ∧ ∃ t58_b : UInt8, (ByteArray.mk #[48, 49, 50, 51, 52, 53, 54, 55, 56, 57, 97, 98, 99, 100, 101, 102])[Int.toNat (Int.fdiv c9 (2 ^ (4)))]? = some t58_b ∧ (0 : Int) ≤ (bAnd .u8 c9 15) ∧ ∃ t61_b : UInt8, (ByteArray.mk #[48, 49, 50, 51, 52, 53, 54, 55, 56, 57, 97, 98, 99, 100, 101, 102])[Int.toNat (bAnd .u8 c9 15)]? = some t61_b ∧ nwV w4 (.cells #[.int .u8 92, .int .u8 120, .int .u8 ((t58_b.toNat : Nat) : Int), .int .u8 ((t61_b.toNat : Nat) : Int)] ty_uint8) fun w5 => 
  ∃ (t63 : Sl) (w6 : World), Sem.run Tryz.prog (Builtin.append_ #[ty_sl_uint8, ty_sl_uint8] ty_sl_uint8 #[b7.v, .slice (some (nb w4)) 4 4]) w5 = .ok (t63.v) w6 ∧ S7 s0 t63 i8 w6 R)))
noncomputable def eS6 := entS X [eS8, eS7, eL5, eS1, eS3, eS2, eL0] (pth [1, 2, 1, 2, 1, 1, 6]) P3 S6
theorem L5_step : ∀ (s0 : ByteArray) (b7 : Sl) (i8 : Int) (w : World) (R : Post) (h : sel (decide (i8 < ((s0.size : Nat) : Int))) ((0 : Int) ≤ i8 ∧ ∃ t54_b : UInt8, s0[Int.toNat i8]? = some t54_b ∧ S6 s0 b7 i8 ((t54_b.toNat : Nat) : Int) w R) (nwV w (.cells #[.int .u8 34] ty_uint8) fun w4 => 
  ∃ (t84 : Sl) (w5 : World), Sem.run Tryz.prog (Builtin.append_ #[ty_sl_uint8, ty_sl_uint8] ty_sl_uint8 #[b7.v, .slice (some (nb w)) 1 1]) w4 = .ok (t84.v) w5 ∧ ∃ t85 : ByteArray, Sem.run Tryz.prog (Go.convert ty_sl_uint8 ty_string (t84.v)) w5 = .ok (.string t85) w5 ∧ R (.returned (.tuple #[.string t85, .i 0])) w5)), L5 s0 b7 i8 w R := mp (stepL (X := X) [eS6, eS8, eS7, eL5, eS1, eS3, eS2, eL0] (pth [0, 1, 1, 1, 6]) P2)
abbrev P4 : Ps := [(0, .v [.st]), (4, .v [.I])]
abbrev S4 (s0 : ByteArray) (n4 : Int) (w : World) (R : Post) : Prop :=
  sel (decide (n4 > 65536)) (R (.returned (.tuple #[.s0, .i 4])) w) (∃ (t42 : Sl) (w1 : World), Sem.run Tryz.prog (Instr.makeSlice ty_sl_uint8 (.i 0) (.i n4)) w = .ok (t42.v) w1 ∧ nwV w1 (.cells #[.int .u8 34] ty_uint8) fun w2 => 
  ∃ (t45 : Sl) (w3 : World), Sem.run Tryz.prog (Builtin.append_ #[ty_sl_uint8, ty_sl_uint8] ty_sl_uint8 #[t42.v, .slice (some (nb w1)) 1 1]) w2 = .ok (t45.v) w3 ∧ L5 s0 t45 0 w3 R)
noncomputable def eS4 := entS X [eS6, eS8, eS7, eL5, eS1, eS3, eS2, eL0] (pth [3]) P4 S4
theorem L0_step : ∀ (s0 : ByteArray) (n4 i5 : Int) (w : World) (R : Post) (h : sel (decide (i5 < ((s0.size : Nat) : Int))) (sel (decide (n4 ≤ 65536)) ((0 : Int) ≤ i5 ∧ ∃ t22_b : UInt8, s0[Int.toNat i5]? = some t22_b ∧ S1 s0 n4 i5 ((t22_b.toNat : Nat) : Int) w R) (S4 s0 n4 w R)) (S4 s0 n4 w R)), L0 s0 n4 i5 w R := mp (stepL (X := X) [eS4, eS6, eS8, eS7, eL5, eS1, eS3, eS2, eL0] (pth [0, 1, 1, 1, 2]) P0)
theorem ok (s0 : ByteArray) (w : World) (R : Post) (h : L0 s0 2 0 w R) : Calls Tryz.prog n_lexer_Quote #[.string s0] w R := callsX X [eS4, eS6, eS8, eS7, eL5, eS1, eS3, eS2, eL0] h
end lexer_Quote
namespace print_operationWords
noncomputable abbrev X : Fx := ⟨Tryz.prog, Tryz.f30, [], []⟩
theorem ok  (w : World) (R : Post) (h : nwV w (.map #[] 0) fun w1 => 
  ∃ (w2 : World), Sem.run Tryz.prog (Instr.mapUpdate ty_map_int_string (.map (some w.heap.size)) (.i 4) (.string (ByteArray.mk #[110, 111, 116]))) w1 = .ok () w2 ∧ ∃ (w3 : World), Sem.run Tryz.prog (Instr.mapUpdate ty_map_int_string (.map (some w.heap.size)) (.i 5) (.string (ByteArray.mk #[110, 101, 103]))) w2 = .ok () w3 ∧ ∃ (w4 : World), Sem.run Tryz.prog (Instr.mapUpdate ty_map_int_string (.map (some w.heap.size)) (.i 6) (.string (ByteArray.mk #[97, 110, 100]))) w3 = .ok () w4 ∧ ∃ (w5 : World), Sem.run Tryz.prog (Instr.mapUpdate ty_map_int_string (.map (some w.heap.size)) (.i 7) (.string (ByteArray.mk #[111, 114]))) w4 = .ok () w5 ∧ ∃ (w6 : World), Sem.run Tryz.prog (Instr.mapUpdate ty_map_int_string (.map (some w.heap.size)) (.i 8) (.string (ByteArray.mk #[120, 111, 114]))) w5 = .ok () w6 ∧ ∃ (w7 : World), Sem.run Tryz.prog (Instr.mapUpdate ty_map_int_string (.map (some w.heap.size)) (.i 9) (.string (ByteArray.mk #[97, 100, 100]))) w6 = .ok () w7 ∧ ∃ (w8 : World), Sem.run Tryz.prog (Instr.mapUpdate ty_map_int_string (.map (some w.heap.size)) (.i 10) (.string (ByteArray.mk #[109, 117, 108]))) w7 = .ok () w8 ∧ ∃ (w9 : World), Sem.run Tryz.prog (Instr.mapUpdate ty_map_int_string (.map (some w.heap.size)) (.i 11) (.string (ByteArray.mk #[117, 100, 105, 118]))) w8 = .ok () w9 ∧ ∃ (w10 : World), Sem.run Tryz.prog (Instr.mapUpdate ty_map_int_string (.map (some w.heap.size)) (.i 12) (.string (ByteArray.mk #[117, 114, 101, 109]))) w9 = .ok () w10 ∧ ∃ (w11 : World), Sem.run Tryz.prog (Instr.mapUpdate ty_map_int_string (.map (some w.heap.size)) (.i 13) (.string (ByteArray.mk #[115, 104, 108]))) w10 = .ok () w11 ∧ ∃ (w12 : World), Sem.run Tryz.prog (Instr.mapUpdate ty_map_int_string (.map (some w.heap.size)) (.i 14) (.string (ByteArray.mk #[108, 115, 104, 114]))) w11 = .ok () w12 ∧ ∃ (w13 : World), Sem.run Tryz.prog (Instr.mapUpdate ty_map_int_string (.map (some w.heap.size)) (.i 15) (.string (ByteArray.mk #[97, 115, 104, 114]))) w12 = .ok () w13 ∧ ∃ (w14 : World), Sem.run Tryz.prog (Instr.mapUpdate ty_map_int_string (.map (some w.heap.size)) (.i 16) (.string (ByteArray.mk #[117, 108, 116]))) w13 = .ok () w14 ∧ ∃ (w15 : World), Sem.run Tryz.prog (Instr.mapUpdate ty_map_int_string (.map (some w.heap.size)) (.i 17) (.string (ByteArray.mk #[115, 108, 116]))) w14 = .ok () w15 ∧ ∃ (w16 : World), Sem.run Tryz.prog (Instr.mapUpdate ty_map_int_string (.map (some w.heap.size)) (.i 18) (.string (ByteArray.mk #[101, 113]))) w15 = .ok () w16 ∧ ∃ (w17 : World), Sem.run Tryz.prog (Instr.mapUpdate ty_map_int_string (.map (some w.heap.size)) (.i 19) (.string (ByteArray.mk #[105, 116, 101]))) w16 = .ok () w17 ∧ ∃ (w18 : World), Sem.run Tryz.prog (Instr.mapUpdate ty_map_int_string (.map (some w.heap.size)) (.i 20) (.string (ByteArray.mk #[99, 111, 110, 99, 97, 116]))) w17 = .ok () w18 ∧ ∃ (w19 : World), Sem.run Tryz.prog (Instr.mapUpdate ty_map_int_string (.map (some w.heap.size)) (.i 21) (.string (ByteArray.mk #[101, 120, 116, 114, 97, 99, 116]))) w18 = .ok () w19 ∧ ∃ (w20 : World), Sem.run Tryz.prog (Instr.mapUpdate ty_map_int_string (.map (some w.heap.size)) (.i 22) (.string (ByteArray.mk #[122, 101, 120, 116]))) w19 = .ok () w20 ∧ ∃ (w21 : World), Sem.run Tryz.prog (Instr.mapUpdate ty_map_int_string (.map (some w.heap.size)) (.i 23) (.string (ByteArray.mk #[115, 101, 120, 116]))) w20 = .ok () w21 ∧ ∃ (w22 : World), Sem.run Tryz.prog (Instr.mapUpdate ty_map_int_string (.map (some w.heap.size)) (.i 24) (.string (ByteArray.mk #[115, 101, 108, 101, 99, 116]))) w21 = .ok () w22 ∧ ∃ (w23 : World), Sem.run Tryz.prog (Instr.mapUpdate ty_map_int_string (.map (some w.heap.size)) (.i 25) (.string (ByteArray.mk #[115, 116, 111, 114, 101]))) w22 = .ok () w23 ∧ ∃ (w24 : World), Sem.run Tryz.prog (Instr.mapUpdate ty_map_int_string (.map (some w.heap.size)) (.i 26) (.string (ByteArray.mk #[100, 105, 102, 102]))) w23 = .ok () w24 ∧ ∃ (w25 : World), Sem.run Tryz.prog (Instr.mapUpdate ty_map_int_string (.map (some w.heap.size)) (.i 27) (.string (ByteArray.mk #[108, 101, 110]))) w24 = .ok () w25 ∧ ∃ (w26 : World), Sem.run Tryz.prog (Instr.mapUpdate ty_map_int_string (.map (some w.heap.size)) (.i 28) (.string (ByteArray.mk #[98, 121, 116, 101]))) w25 = .ok () w26 ∧ ∃ (w27 : World), Sem.run Tryz.prog (Instr.mapUpdate ty_map_int_string (.map (some w.heap.size)) (.i 29) (.string (ByteArray.mk #[99, 97, 116]))) w26 = .ok () w27 ∧ ∃ (w28 : World), Sem.run Tryz.prog (Instr.mapUpdate ty_map_int_string (.map (some w.heap.size)) (.i 30) (.string (ByteArray.mk #[115, 117, 98]))) w27 = .ok () w28 ∧ ∃ (w29 : World), Sem.run Tryz.prog (Instr.mapUpdate ty_map_int_string (.map (some w.heap.size)) (.i 31) (.string (ByteArray.mk #[102, 105, 110, 100]))) w28 = .ok () w29 ∧ ∃ (w30 : World), Sem.run Tryz.prog (Instr.mapUpdate ty_map_int_string (.map (some w.heap.size)) (.i 32) (.string (ByteArray.mk #[114, 101, 112, 108, 97, 99, 101]))) w29 = .ok () w30 ∧ ∃ (w31 : World), Sem.run Tryz.prog (Instr.mapUpdate ty_map_int_string (.map (some w.heap.size)) (.i 33) (.string (ByteArray.mk #[105, 110]))) w30 = .ok () w31 ∧ ∃ (w32 : World), Sem.run Tryz.prog (Instr.mapUpdate ty_map_int_string (.map (some w.heap.size)) (.i 34) (.string (ByteArray.mk #[99, 104, 97, 114]))) w31 = .ok () w32 ∧ R (.returned (.map (some w.heap.size))) w32) : Calls Tryz.prog n_print_operationWords #[] w R := callsX X [] h
end print_operationWords
namespace print_nodeHead
noncomputable abbrev X : Fx := ⟨Tryz.prog, Tryz.f31, [(15,ls [0,1,2,6,7,3,4,5,8,9,10,11])], [2]⟩
abbrev P0 : Ps := [(9, .v [.st])]
abbrev S1T (s9 : ByteArray) (w : World) (R : Post) : Prop :=
  R (.returned (.string s9)) w
noncomputable def eS1 := entS X [] (pth [4]) P0 S1T
abbrev P1 : Ps := [(2, .l [.I, .s, .I, .I, .U, .st, .I, .I, .I] ty_api_Node), (9, .v [.st])]
abbrev S2T (n2 : Nat) (n2_0 : Int) (n2_1 : Sl) (n2_2 n2_3 n2_4 : Int) (n2_5 : ByteArray) (n2_6 n2_7 n2_8 : Int) (s9 : ByteArray) (w : World) (R : Post) : Prop :=
  cf16 [n2] n_strconv_Itoa #[.i n2_2] w fun t73 w1 => ¬ ((((ByteArray.mk #[32]).size + t73.size : Nat) : Int) > IntKind.i64.max) ∧ ¬ (((s9.size + ((ByteArray.mk #[32]) ++ t73).size : Nat) : Int) > IntKind.i64.max) ∧ S1T (s9 ++ ((ByteArray.mk #[32]) ++ t73)) w1 R
noncomputable def eS2 := entS X [eS1] (pth [0, 1, 3, 1, 1, 1, 3]) P1 S2T
abbrev P2 : Ps := [(2, .l [.I, .s, .I, .I, .U, .st, .I, .I, .I] ty_api_Node), (9, .v [.st]), (52, .v [.I])]
abbrev S3T (n2 : Nat) (n2_0 : Int) (n2_1 : Sl) (n2_2 n2_3 n2_4 : Int) (n2_5 : ByteArray) (n2_6 n2_7 n2_8 : Int) (s9 : ByteArray) (t52 : Int) (w : World) (R : Post) : Prop :=
  sel (t52 == 33) (cf15 [n2] n_lexer_Quote #[.string n2_5] w fun t81_0 t81_1 w1 => ¬ ((((ByteArray.mk #[32]).size + t81_0.size : Nat) : Int) > IntKind.i64.max) ∧ ¬ (((s9.size + ((ByteArray.mk #[32]) ++ t81_0).size : Nat) : Int) > IntKind.i64.max) ∧ S1T (s9 ++ ((ByteArray.mk #[32]) ++ t81_0)) w1 R) (S1T s9 w R)
noncomputable def eS3 := entS X [eS2, eS1] (pth [4, 1, 1, 1, 3]) P2 S3T
abbrev S0T (n2 : Nat) (n2_0 : Int) (n2_1 : Sl) (n2_2 n2_3 n2_4 : Int) (n2_5 : ByteArray) (n2_6 n2_7 n2_8 : Int) (s9 : ByteArray) (w : World) (R : Post) : Prop :=
  sel (n2_0 == 21) (loc [n2] w fun w1 => cf16 [n2] n_strconv_Itoa #[.i n2_2] w1 fun t58 w2 => ¬ ((((ByteArray.mk #[32]).size + t58.size : Nat) : Int) > IntKind.i64.max) ∧ ¬ (((((ByteArray.mk #[32]) ++ t58).size + (ByteArray.mk #[32]).size : Nat) : Int) > IntKind.i64.max) ∧ cf16 [n2] n_strconv_Itoa #[.i n2_3] w2 fun t63 w3 => ¬ ((((((ByteArray.mk #[32]) ++ t58) ++ (ByteArray.mk #[32])).size + t63.size : Nat) : Int) > IntKind.i64.max) ∧ ¬ (((s9.size + ((((ByteArray.mk #[32]) ++ t58) ++ (ByteArray.mk #[32])) ++ t63).size : Nat) : Int) > IntKind.i64.max) ∧ S1T (s9 ++ ((((ByteArray.mk #[32]) ++ t58) ++ (ByteArray.mk #[32])) ++ t63)) w3 R) (sel (n2_0 == 22) (sel (n2_0 == 22) (S2T n2 n2_0 n2_1 n2_2 n2_3 n2_4 n2_5 n2_6 n2_7 n2_8 s9 w R) (S3T n2 n2_0 n2_1 n2_2 n2_3 n2_4 n2_5 n2_6 n2_7 n2_8 s9 n2_0 w R)) (sel (n2_0 == 23) (sel (n2_0 == 23) (S2T n2 n2_0 n2_1 n2_2 n2_3 n2_4 n2_5 n2_6 n2_7 n2_8 s9 w R) (S3T n2 n2_0 n2_1 n2_2 n2_3 n2_4 n2_5 n2_6 n2_7 n2_8 s9 n2_0 w R)) (sel (n2_0 == 28) (S2T n2 n2_0 n2_1 n2_2 n2_3 n2_4 n2_5 n2_6 n2_7 n2_8 s9 w R) (S3T n2 n2_0 n2_1 n2_2 n2_3 n2_4 n2_5 n2_6 n2_7 n2_8 s9 n2_0 w R))))
noncomputable def eS0 := entS X [eS3, eS2, eS1] (pth [3]) P1 S0T
theorem okT (n0_0 : Int) (n0_1 : Sl) (n0_2 n0_3 n0_4 : Int) (n0_5 : ByteArray) (n0_6 n0_7 n0_8 : Int) (words1 : Option Nat) (w : World) (R : Post) (h : newV [] w fun b2 w1 => 
  sel (n0_0 == 0) (R (.returned (.string n0_5)) w1) (sel (n0_0 == 1) (cf15 [b2] n_bits_Text #[.u n0_4, .i n0_7] w1 fun t26_0 t26_1 w2 => R (.returned (.string t26_0)) w2) (sel (n0_0 == 2) (cf15 [b2] n_lexer_Quote #[.string n0_5] w1 fun t35_0 t35_1 w3 => R (.returned (.string t35_0)) w3) (sel (n0_0 == 3) (cf16 [b2] n_print_sortText #[.agg #[.i n0_6, .i n0_7, .i n0_8]] w1 fun t43 w4 => ¬ ((((ByteArray.mk #[40, 122, 101, 114, 111, 32]).size + t43.size : Nat) : Int) > IntKind.i64.max) ∧ ¬ (((((ByteArray.mk #[40, 122, 101, 114, 111, 32]) ++ t43).size + (ByteArray.mk #[41]).size : Nat) : Int) > IntKind.i64.max) ∧ R (.returned (.string (((ByteArray.mk #[40, 122, 101, 114, 111, 32]) ++ t43) ++ (ByteArray.mk #[41])))) w4) (∃ t49 : ByteArray, Sem.run Tryz.prog (Instr.lookup ty_map_int_string (.map words1) (.i n0_0) false) w1 = .ok (.string t49) w1 ∧ ¬ ((((ByteArray.mk #[40]).size + t49.size : Nat) : Int) > IntKind.i64.max) ∧ S0T b2 n0_0 n0_1 n0_2 n0_3 n0_4 n0_5 n0_6 n0_7 n0_8 ((ByteArray.mk #[40]) ++ t49) w1 R))))) : Calls Tryz.prog n_print_nodeHead #[.agg #[.i n0_0, n0_1.v, .i n0_2, .i n0_3, .u n0_4, .string n0_5, .i n0_6, .i n0_7, .i n0_8], .map words1] w R := callsX X [eS0, eS3, eS2, eS1] h
end print_nodeHead
namespace print_printer_measure_1
noncomputable abbrev X : Fx := ⟨Tryz.prog, Tryz.f58, [], []⟩
theorem ok (part0 n1 : Int) (t2 : Addr) (w : World) (R : Post) (h : (0 : Int) ≤ part0 ∧ part0 < ((4 : Nat) : Int) ∧ ∃ t8 : Int, w.cell? (t2.add (Int.toNat part0 * 1)) = some (.i t8) ∧ 
  ca1 n_print_capped #[.i (IntKind.wrap .i64 (t8 + n1))] w fun t11 w1 => (0 : Int) ≤ part0 ∧ part0 < ((4 : Nat) : Int) ∧ stV w1 (t2.add (Int.toNat part0 * 1)) (.i t11) fun w2 => 
  R (.returned (.tuple #[])) w2) : Calls Tryz.prog n_print_printer_measure_1 #[.i part0, .i n1, .pointer (some t2)] w R := callsX X [] h
end print_printer_measure_1
namespace print_printer_measure
noncomputable abbrev X : Fx := ⟨Tryz.prog, Tryz.f32, [], [5]⟩
abbrev P0 : Ps := [(0, .v [.r]), (1, .v [.I]), (11, .v [.I]), (78, .v [.a 4, .I, .I, .I, .I]), (79, .v [.I])]
def L1T (p0 : Addr) (i1 sum11 t78_0 t78_1 t78_2 t78_3 t79 : Int) (w : World) (R : Post) : Prop := mkCur P0 0 (X.Sem (pth [0, 1, 1, 1, 6])) p0 i1 sum11 t78_0 t78_1 t78_2 t78_3 t79 w R
noncomputable def eL1 := entL X (pth [0, 1, 1, 1, 6]) P0 L1T
theorem L1T_step : ∀ (p0 : Addr) (i1 sum11 t78_0 t78_1 t78_2 t78_3 t79 : Int) (w : World) (R : Post) (h : sel (decide (t79 < 4)) ((0 : Int) ≤ t79 ∧ t79 < ((4 : Nat) : Int) ∧ ∃ t81_b : Int, (#[.i t78_0, .i t78_1, .i t78_2, .i t78_3] : Array Value)[Int.toNat t79]? = some (.i t81_b) ∧ ca1 n_print_capped #[.i (IntKind.wrap .i64 (sum11 + t81_b))] w fun t85 w1 => L1T p0 i1 t85 t78_0 t78_1 t78_2 t78_3 (IntKind.wrap .i64 (t79 + 1)) w1 R) (∃ t90 : Sl, w.cell? (p0.add 2) = some (t90.v) ∧ 
  (0 : Int) ≤ i1 ∧ i1 < ((t90.n : Nat) : Int) ∧ optP t90.a fun t93_p => stV w (t93_p.add (Int.toNat i1 * 1)) (.i sum11) fun w2 => 
  R (.returned (.tuple #[])) w2)), L1T p0 i1 sum11 t78_0 t78_1 t78_2 t78_3 t79 w R := mp (stepL (X := X) [eL1] (pth [0, 1, 1, 1, 6]) P0)
abbrev P1 : Ps := [(0, .v [.r]), (1, .v [.I]), (6, .v [.r])]
abbrev S0T (p0 : Addr) (i1 : Int) (parts6 : Addr) (w : World) (R : Post) : Prop :=
  ld4_4 w parts6 fun t78_0 t78_1 t78_2 t78_3 => L1T p0 i1 0 t78_0 t78_1 t78_2 t78_3 0 w R
noncomputable def eS0 := entS X [eL1] (pth [5]) P1 S0T
abbrev P2 : Ps := [(0, .v [.r]), (1, .v [.I]), (6, .v [.r]), (7, .v [.g n_print_printer_measure_1 0 1, .r]), (8, .v [.I]), (41, .v [.s]), (42, .v [.I]), (43, .v [.I])]
def L2T (p0 : Addr) (i1 : Int) (parts6 count7_c0 : Addr) (deepest8 : Int) (t41 : Sl) (t42 t43 : Int) (w : World) (R : Post) : Prop := mkCur P2 0 (X.Sem (pth [0, 1, 1, 1, 1, 1, 3, 2, 4])) p0 i1 parts6 count7_c0 deepest8 t41 t42 t43 w R
noncomputable def eL2 := entL X (pth [0, 1, 1, 1, 1, 1, 3, 2, 4]) P2 L2T
abbrev S3T (p0 : Addr) (i1 : Int) (parts6 count7_c0 : Addr) (deepest8 : Int) (t41 : Sl) (t42 t43 : Int) (w : World) (R : Post) : Prop :=
  L2T p0 i1 parts6 count7_c0 deepest8 t41 t42 (IntKind.wrap .i64 (t43 + 1)) w R
noncomputable def eS3 := entS X [eL2, eS0, eL1] (pth [3, 2, 1, 1, 1, 1, 3, 2, 4]) P2 S3T
theorem L2T_step : ∀ (p0 : Addr) (i1 : Int) (parts6 count7_c0 : Addr) (deepest8 : Int) (t41 : Sl) (t42 t43 : Int) (w : World) (R : Post) (h : sel (decide (t43 < t42)) ((0 : Int) ≤ t43 ∧ t43 < ((t41.n : Nat) : Int) ∧ optP t41.a fun t45_p => ∃ t46 : Int, w.cell? (t45_p.add (Int.toNat t43 * 1)) = some (.i t46) ∧ 
  ca4 n_print_printer_measure_1 #[.i 1, .i 1, .pointer (some count7_c0)] w fun w5 => ∃ t53 : Sl, w5.cell? (p0.add 2) = some (t53.v) ∧ 
  (0 : Int) ≤ t46 ∧ t46 < ((t53.n : Nat) : Int) ∧ optP t53.a fun t55_p => ∃ t56 : Int, w5.cell? (t55_p.add (Int.toNat t46 * 1)) = some (.i t56) ∧ 
  ca4 n_print_printer_measure_1 #[.i 2, .i t56, .pointer (some count7_c0)] w5 fun w6 => ∃ t62 : Sl, w6.cell? (p0.add 3) = some (t62.v) ∧ 
  (0 : Int) ≤ t46 ∧ t46 < ((t62.n : Nat) : Int) ∧ optP t62.a fun t64_p => ∃ t65 : Int, w6.cell? (t64_p.add (Int.toNat t46 * 1)) = some (.i t65) ∧ 
  S3T p0 i1 parts6 count7_c0 (if deepest8 < t65 then t65 else deepest8) t41 t42 t43 w6 R) (ca4 n_print_printer_measure_1 #[.i 3, .i 1, .pointer (some count7_c0)] w fun w7 => ∃ t73 : Sl, w7.cell? (p0.add 3) = some (t73.v) ∧ 
  (0 : Int) ≤ i1 ∧ i1 < ((t73.n : Nat) : Int) ∧ optP t73.a fun t77_p => stV w7 (t77_p.add (Int.toNat i1 * 1)) (.i (IntKind.wrap .i64 (deepest8 + 1))) fun w8 => 
  S0T p0 i1 parts6 w8 R)), L2T p0 i1 parts6 count7_c0 deepest8 t41 t42 t43 w R := mp (stepL (X := X) [eS3, eL2, eS0, eL1] (pth [0, 1, 1, 1, 1, 1, 3, 2, 4]) P2)
theorem okT (p0 : Addr) (i1 node2_0 : Int) (node2_1 : Sl) (node2_2 node2_3 node2_4 : Int) (node2_5 : ByteArray) (node2_6 node2_7 node2_8 : Int) (w : World) (R : Post) (h : newV [] w fun b5 w1 => 
  nwV w1 (.cells #[.i 0, .i 0, .i 0, .i 0] ty_4_int) fun w2 => 
  ∃ t19 : Sl, w2.cell? (p0.add 1) = some (t19.v) ∧ 
  (0 : Int) ≤ i1 ∧ i1 < ((t19.n : Nat) : Int) ∧ optP t19.a fun t21_p => ∃ t22 : ByteArray, w2.cell? (t21_p.add (Int.toNat i1 * 1)) = some (.string t22) ∧ 
  cf4 [b5] n_print_printer_measure_1 #[.i 0, .i ((t22.size : Nat) : Int), .pointer (some (nb w1))] w2 fun w3 => sel (node2_0 == 3) (∃ t32 : Sl, w3.cell? (p0.add 3) = some (t32.v) ∧ 
  (0 : Int) ≤ i1 ∧ i1 < ((t32.n : Nat) : Int) ∧ optP t32.a fun t34_p => stV w3 (t34_p.add (Int.toNat i1 * 1)) (.i 1) fun w4 => kept [b5] w3 w4 ∧ 
  S0T p0 i1 (nb w1) w4 R) (sel (decide (((node2_1.n : Nat) : Int) > 0)) (L2T p0 i1 (nb w1) (nb w1) 0 node2_1 ((node2_1.n : Nat) : Int) 0 w3 R) (S0T p0 i1 (nb w1) w3 R))) : Calls Tryz.prog n_print_printer_measure #[.pointer (some p0), .i i1, .agg #[.i node2_0, node2_1.v, .i node2_2, .i node2_3, .u node2_4, .string node2_5, .i node2_6, .i node2_7, .i node2_8]] w R := callsX X [eS3, eL2, eS0, eL1] h
end print_printer_measure
namespace print_newPrinter
noncomputable def C0 : Code := (Tryz.f11.body).getD .skip
noncomputable def C1:=C0.sn
noncomputable def C2:=C1.sn
noncomputable def C3:=C2.sn
noncomputable def C4:=C3.sn
noncomputable def C5:=C4.fs
noncomputable def C6:=C5.sn
noncomputable def C7:=C6.fs
noncomputable def C8:=C7.fs
noncomputable def C9:=C4.sn
abbrev Q0 (R : Post) : ExP := (Exit.then (wpx Tryz.prog (cx 47) C9 (bodyPost Tryz.prog Tryz.f11 R)) (bodyPost Tryz.prog Tryz.f11 R))
abbrev Q1 (R : Post) : ExP := (Exit.inBlock 0 (Q0 R))
/-- the head of the loop, node.go:33 -/
def L1 (p4 : Option Addr) (words5 : Option Nat) (t25 : Sl) (t26 t27 : Int) (w : World) (R : Post) : Prop := LP Tryz.prog (cx 47) C8 (Q1 R) [(4, .pointer p4), (5, .map words5), (25, t25.v), (26, .i t26), (27, .i t27)] w
def KE_L1 (E : Env) (w : World) (R : Post) : Prop := W.asPtr (Env.get? E 4) fun p4 => W.asMap (Env.get? E 5) fun words5 => W.asSlice (Env.get? E 25) fun t25 => W.asInt .i64 (Env.get? E 26) fun t26 => W.asInt .i64 (Env.get? E 27) fun t27 => L1 p4 words5 t25 t26 t27 w R
theorem KE_L1_ok : LOk Tryz.prog 47 KE_L1 C8 Q1 := by
  intro R E w h
  obtain ⟨p4, hq4, h_1⟩ := W.asPtr_elim h
  obtain ⟨words5, hq5, h_2⟩ := W.asMap_elim h_1
  obtain ⟨t25, hq25, h_3⟩ := W.asSlice_elim h_2
  obtain ⟨t26, hq26, h_4⟩ := W.asInt_elim h_3
  obtain ⟨t27, hq27, h_5⟩ := W.asInt_elim h_4
  intro a ha
  exact h_5 a (ha.cons hq4 (ha.cons hq5 (ha.cons hq25 (ha.cons hq26 (ha.cons hq27 ha.nil)))))
noncomputable def C10:=C8.sn
noncomputable def C11:=C10.sn
noncomputable def C12:=C11.fs
noncomputable def C13:=C12.fs
noncomputable def C14:=C13.sn
noncomputable def C15:=C14.sn
noncomputable def C16:=C11.sn
noncomputable def C17:=C10.fs
noncomputable def C18:=C17.fs
noncomputable def C19:=C17.sn
noncomputable def C20:=C9.sn
theorem L1_step (p4 : Option Addr) (words5 : Option Nat) (t25 : Sl) (t26 t27 : Int) (w : World) (R : Post) (h : sel (decide (t27 < t26)) ((0 : Int) ≤ t27 ∧ t27 < ((t25.n : Nat) : Int) ∧ optP t25.a fun t30_p => ld9_3 w (t30_p.add (Int.toNat t27 * 9)) fun t31_0 t31_1 t31_2 t31_3 t31_4 t31_5 t31_6 t31_7 t31_8 => nwV w (.cells #[.i 0, .slice none 0 0, .i 0, .i 0, .u 0, .s0, .i 0, .i 0, .i 0] ty_api_Node) fun w2 => 
  stW9 w2 (nb w) (.i t31_0) (t31_1.v) (.i t31_2) (.i t31_3) (.u t31_4) (.string t31_5) (.i t31_6) (.i t31_7) (.i t31_8) fun w11 => drV w11 fun w12 => optP p4 fun t33_p => ∃ t35 : Sl, w12.cell? (t33_p.add 1) = some (t35.v) ∧ 
  ld9_3 w12 (nb w) fun t37_0 t37_1 t37_2 t37_3 t37_4 t37_5 t37_6 t37_7 t37_8 => ca16 n_print_nodeHead #[.agg #[.i t37_0, t37_1.v, .i t37_2, .i t37_3, .u t37_4, .string t37_5, .i t37_6, .i t37_7, .i t37_8], .map words5] w12 fun t39 w13 => w13.cell? (t33_p.add 1) = some (t35.v) ∧ (0 : Int) ≤ t27 ∧ t27 < ((t35.n : Nat) : Int) ∧ optP t35.a fun t40_p => stV w13 (t40_p.add (Int.toNat t27 * 1)) (.string t39) fun w14 => 
  ld9_3 w14 (nb w) fun t43_0 t43_1 t43_2 t43_3 t43_4 t43_5 t43_6 t43_7 t43_8 => ca4 n_print_printer_measure #[.pointer p4, .i t27, .agg #[.i t43_0, t43_1.v, .i t43_2, .i t43_3, .u t43_4, .string t43_5, .i t43_6, .i t43_7, .i t43_8]] w14 fun w15 => L1 p4 words5 t25 t26 (IntKind.wrap .i64 (t27 + 1)) w15 R) (R (.returned (.pointer p4)) w)) : L1 p4 words5 t25 t26 t27 w R :=
  LP.step (n := (cx 47)) (c := C8) (E := [(4, .pointer p4), (5, .map words5), (25, t25.v), (26, .i t26), (27, .i t27)]) (w := w) (sr C8 (show (fun (E : Env) (w : World) => srK Tryz.prog C8 (fun E w => condK (Env.val E (.tmp 28)) (srK Tryz.prog C13 (fun E w => sdK Tryz.prog C14 [0, 1, 2, 3, 4, 5, 6, 7, 8, 9] (fun E w => rgK Tryz.prog C15 (fun E w => rgK Tryz.prog C16 (fun E w => KE_L1 E w R) E w) E w) E w) E w) (srK Tryz.prog C9 (fun E w => retVC Tryz.prog Tryz.f11 E w (fun v => R (.returned v) w)) E w)) E w) [(4, .pointer p4), (5, .map words5), (25, t25.v), (26, .i t26), (27, .i t27)] w from mp h) fun _ _ hK => (sq C10 (cn C17 hK (fun hK => (sk C18 fun a hA => nx hA (sq C11 (bk C12 1 (by kernel_rfl) (sr C13 hK fun _ _ hK => (sd C14 (by kernel_rfl) hK fun _ _ hK => (rg C15 (by kernel_rfl) hK fun _ _ a hA hK => nx hA (rg C16 (by kernel_rfl) hK fun _ _ a hA hK => KE_L1_ok R _ _ hK a hA)))))))) (fun hK => (xt C19 0 (by kernel_rfl) fun a hA => nx hA (sr C9 hK fun _ _ hK => (rt C20 fun a hA => retVC_sound hA hK)))))))
abbrev Q2 (R : Post) : ExP := (bodyPost Tryz.prog Tryz.f11 R)
/-- node.go:32 -/
abbrev S0 (g1 : Addr) (p4 : Option Addr) (w : World) (R : Post) : Prop :=
  ca11 n_print_operationWords #[] w fun t23 w1 => ∃ t25 : Sl, w1.cell? (g1.add 0) = some (t25.v) ∧ 
  L1 p4 t23 t25 ((t25.n : Nat) : Int) 0 w1 R
def KE_S0 (E : Env) (w : World) (R : Post) : Prop := W.asRef (Env.get? E 1) fun g1 => W.asPtr (Env.get? E 4) fun p4 => S0 g1 p4 w R
theorem KE_S0_ok : KOk Tryz.prog 47 KE_S0 C3 Q2 := by
  intro R E w h
  obtain ⟨g1, hq1, h_1⟩ := W.asRef_elim h
  obtain ⟨p4, hq4, h_2⟩ := W.asPtr_elim h_1
  exact fun a ha => WP.at (E := [(1, .pointer (some g1)), (4, .pointer p4)]) (sr C3 (K := fun E w => srK Tryz.prog C5 (fun E w => KE_L1 E w R) E w) (mp h_2) fun _ _ hK => (sq C4 (sr C5 hK fun _ _ hK => (bk C6 0 (by kernel_rfl) (lp C7 (by kernel_rfl) (KE_L1_ok R _ _ hK)))))) (ha.cons hq1 (ha.cons hq4 ha.nil))
/-- enthymeme/print.newPrinter -/
theorem ok (g0_0 : Sl) (w : World) (R : Post) (h : nwV w (.cells #[g0_0.v] ty_term_Graph) fun w1 => 
  ∃ t9 : Sl, w1.cell? ((nb w).add 0) = some (t9.v) ∧ 
  siK Tryz.prog C2 (fun E w => KE_S0 E w R) [(3, .i ((t9.n : Nat) : Int)), (10, .i ((t9.n : Nat) : Int)), (9, t9.v), (8, .pointer (some ((nb w).add 0))), (2, .pointer none), (1, .pointer (some (nb w))), (0, .agg #[g0_0.v])] w1) : Calls Tryz.prog n_print_newPrinter #[.agg #[g0_0.v]] w R :=
  calls_of_WP' (R := R) (fn := Tryz.f11) (c := C0) (args := [.agg #[g0_0.v]]) (by kernel_rfl) (by kernel_rfl) (by kernel_rfl) (sr C0 (show (fun (E : Env) (w : World) => srK Tryz.prog C0 (fun E w => srK Tryz.prog C1 (fun E w => siK Tryz.prog C2 (fun E w => KE_S0 E w R) E w) E w) E w) (envOf 0 [.agg #[g0_0.v]]) w from mp h) fun _ _ hK => (sr C1 hK fun _ _ hK => (si C2 (by kernel_rfl) hK fun _ _ hK => (KE_S0_ok R _ _ hK))))
end print_newPrinter
namespace print_printer_write
noncomputable abbrev X : Fx := ⟨Tryz.prog, Tryz.f13, [], []⟩
abbrev P0 : Ps := [(0, .v [.r]), (1, .v [.r]), (6, .v [.s]), (27, .v [.s]), (28, .v [.I]), (29, .v [.I])]
def L0 (p0 b1 : Addr) (kids6 t27 : Sl) (t28 t29 : Int) (w : World) (R : Post) : Prop := mkCur P0 0 (X.Sem (pth [0, 1, 1, 1, 2])) p0 b1 kids6 t27 t28 t29 w R
noncomputable def eL0 := entL X (pth [0, 1, 1, 1, 2]) P0 L0
theorem L0_step : ∀ (p0 b1 : Addr) (kids6 t27 : Sl) (t28 t29 : Int) (w : World) (R : Post) (h : sel (decide (t29 < t28)) ((0 : Int) ≤ t29 ∧ t29 < ((t27.n : Nat) : Int) ∧ optP t27.a fun t31_p => ∃ t32 : Int, w.cell? (t31_p.add (Int.toNat t29 * 1)) = some (.i t32) ∧ 
  ca10 n_strings_Builder_WriteByte #[.pointer (some b1), .int .u8 32] w fun t34 w2 => ca4 n_print_printer_write #[.pointer (some p0), .pointer (some b1), .i t32] w2 fun w3 => L0 p0 b1 kids6 t27 t28 (IntKind.wrap .i64 (t29 + 1)) w3 R) (sel (decide (((kids6.n : Nat) : Int) > 0)) (ca10 n_strings_Builder_WriteByte #[.pointer (some b1), .int .u8 41] w fun t44 w4 => R (.returned (.tuple #[])) w4) (R (.returned (.tuple #[])) w))), L0 p0 b1 kids6 t27 t28 t29 w R := mp (stepL (X := X) [eL0] (pth [0, 1, 1, 1, 2]) P0)
theorem ok (p0 b1 : Addr) (node2 : Int) (w : World) (R : Post) (h : ∃ t13 : Sl, w.cell? (p0.add 1) = some (t13.v) ∧ 
  (0 : Int) ≤ node2 ∧ node2 < ((t13.n : Nat) : Int) ∧ optP t13.a fun t15_p => ∃ t16 : ByteArray, w.cell? (t15_p.add (Int.toNat node2 * 1)) = some (.string t16) ∧ 
  ca19 n_strings_Builder_WriteString #[.pointer (some b1), .string t16] w fun t17_0 t17_1 w1 => ∃ t22 : Sl, w1.cell? ((p0.add 0).add 0) = some (t22.v) ∧ 
  (0 : Int) ≤ node2 ∧ node2 < ((t22.n : Nat) : Int) ∧ optP t22.a fun t24_p => ∃ t26 : Sl, w1.cell? ((t24_p.add (Int.toNat node2 * 9)).add 1) = some (t26.v) ∧ 
  L0 p0 b1 t26 t26 ((t26.n : Nat) : Int) 0 w1 R) : Calls Tryz.prog n_print_printer_write #[.pointer (some p0), .pointer (some b1), .i node2] w R := callsX X [eL0] h
end print_printer_write
namespace print_Term
noncomputable abbrev X : Fx := ⟨Tryz.prog, Tryz.f5, [], [2]⟩
abbrev P0 : Ps := []
abbrev S0T  (w : World) (R : Post) : Prop :=
  R (.returned (.tuple #[.s0, .i 7])) w
noncomputable def eS0 := entS X [] (pth [0, 1, 1, 1, 2]) P0 S0T
abbrev S1T  (w : World) (R : Post) : Prop :=
  R (.returned (.tuple #[.s0, .i 4])) w
noncomputable def eS1 := entS X [eS0] (pth [0, 1, 1, 1, 4]) P0 S1T
theorem okT (g0_0 : Sl) (node1 : Int) (w : World) (R : Post) (h : newV [] w fun b2 w1 => 
  cf1 [b2] n_term_Valid #[.agg #[g0_0.v]] w1 fun t10 w2 => sel (t10 != 0) (R (.returned (.tuple #[.s0, .i t10])) w2) (sel (decide (node1 < 0)) (S0T  w2 R) (sel (decide (node1 ≥ ((g0_0.n : Nat) : Int))) (S0T  w2 R) (cf9 [b2] n_print_newPrinter #[.agg #[g0_0.v]] w2 fun t24 w3 => optP t24 fun t26_p => ∃ t28 : Sl, w3.cell? (t26_p.add 3) = some (t28.v) ∧ 
  (0 : Int) ≤ node1 ∧ node1 < ((t28.n : Nat) : Int) ∧ optP t28.a fun t30_p => ∃ t31 : Int, w3.cell? (t30_p.add (Int.toNat node1 * 1)) = some (.i t31) ∧ 
  sel (decide (t31 > 64)) (S1T  w3 R) (optP t24 fun t35_p => ∃ t37 : Sl, w3.cell? (t35_p.add 2) = some (t37.v) ∧ 
  (0 : Int) ≤ node1 ∧ node1 < ((t37.n : Nat) : Int) ∧ optP t37.a fun t39_p => ∃ t40 : Int, w3.cell? (t39_p.add (Int.toNat node1 * 1)) = some (.i t40) ∧ 
  sel (decide (t40 > 65536)) (S1T  w3 R) (nwV w3 (.cells #[.pointer none, .slice none 0 0] ty_strings_Builder) fun w4 => 
  optP t24 fun t44_p => ∃ t46 : Sl, w4.cell? (t44_p.add 2) = some (t46.v) ∧ 
  (0 : Int) ≤ node1 ∧ node1 < ((t46.n : Nat) : Int) ∧ optP t46.a fun t48_p => ∃ t49 : Int, w4.cell? (t48_p.add (Int.toNat node1 * 1)) = some (.i t49) ∧ 
  cf4 [b2] n_strings_Builder_Grow #[.pointer (some (nb w3)), .i t49] w4 fun w5 => cf4 [b2] n_print_printer_write #[.pointer t24, .pointer (some (nb w3)), .i node1] w5 fun w6 => cf16 [b2] n_strings_Builder_String #[.pointer (some (nb w3))] w6 fun t54 w7 => R (.returned (.tuple #[.string t54, .i 0])) w7)))))) : Calls Tryz.prog n_print_Term #[.agg #[g0_0.v], .i node1] w R := callsX X [eS1, eS0] h
end print_Term
end Go.Proofs.YtibaobaobnpdaaaGreatDoor
set_option maxRecDepth 100000
set_option maxHeartbeats 1000000
namespace Go.Proofs.YtibaobaobnpdaaaGreatDoor
open Go Go.W

/-- a number below 100 -/
def dec2 (n : Nat) : ByteArray := if n < 10 then ⟨#[UInt8.ofNat (48 + n)]⟩ else ⟨#[UInt8.ofNat (48 + n / 10), UInt8.ofNat (48 + n % 10)]⟩
theorem dec2_size (n : Nat) : (dec2 n).size ≤ 2 := by
  unfold dec2
  split
  · show 1 ≤ 2
    omega
  · exact Nat.le_refl 2
theorem size_app (a b : ByteArray) : (a ++ b).size = a.size + b.size := ByteArray.size_append
abbrev smB : ByteArray := ⟨#[48, 48, 48, 49, 48, 50, 48, 51, 48, 52, 48, 53, 48, 54, 48, 55, 48, 56, 48, 57, 49, 48, 49, 49, 49, 50, 49, 51, 49, 52, 49, 53, 49, 54, 49, 55, 49, 56, 49, 57, 50, 48, 50, 49, 50, 50, 50, 51, 50, 52, 50, 53, 50, 54, 50, 55, 50, 56, 50, 57, 51, 48, 51, 49, 51, 50, 51, 51, 51, 52, 51, 53, 51, 54, 51, 55, 51, 56, 51, 57, 52, 48, 52, 49, 52, 50, 52, 51, 52, 52, 52, 53, 52, 54, 52, 55, 52, 56, 52, 57, 53, 48, 53, 49, 53, 50, 53, 51, 53, 52, 53, 53, 53, 54, 53, 55, 53, 56, 53, 57, 54, 48, 54, 49, 54, 50, 54, 51, 54, 52, 54, 53, 54, 54, 54, 55, 54, 56, 54, 57, 55, 48, 55, 49, 55, 50, 55, 51, 55, 52, 55, 53, 55, 54, 55, 55, 55, 56, 55, 57, 56, 48, 56, 49, 56, 50, 56, 51, 56, 52, 56, 53, 56, 54, 56, 55, 56, 56, 56, 57, 57, 48, 57, 49, 57, 50, 57, 51, 57, 52, 57, 53, 57, 54, 57, 55, 57, 56, 57, 57]⟩
abbrev diB : ByteArray := ⟨#[48, 49, 50, 51, 52, 53, 54, 55, 56, 57, 97, 98, 99, 100, 101, 102, 103, 104, 105, 106, 107, 108, 109, 110, 111, 112, 113, 114, 115, 116, 117, 118, 119, 120, 121, 122]⟩
theorem small1 : ∀ n < 10, diB.extract n (n + 1) = dec2 n := by decide
theorem small2 : ∀ n < 100, 10 ≤ n → smB.extract (n * 2) (n * 2 + 2) = dec2 n := by decide
/-- strconv.Itoa of a small number -/
theorem s_Itoa {w : World} {n : Int} (h0 : 0 ≤ n) (h1 : n < 100) : Calls Tryz.prog n_strconv_Itoa #[.i n] w fun r w' => r = .returned (.string (dec2 n.toNat)) ∧ Fr0 w w' := by
  obtain ⟨m, rfl⟩ := Int.eq_ofNat_of_zero_le h0
  rw [Int.toNat_natCast]
  have small : Calls Tryz.prog n_internal_strconv_small #[.i (m : Int)] w fun r w' => r = .returned (.string (dec2 m)) ∧ w' = w := by
    refine internal_strconv_small.ok _ w _ (sel_dec (fun h => ?_) (fun h => ?_))
    · rw [i64_next _ (by omega)]
      refine ⟨by omega, ?_, by omega, by rw [Int.toNat_natCast]; omega, by rw [Int.toNat_natCast, Int.toNat_natCast, small1 m (by omega)], rfl⟩
      show ((m + 1 : Nat) : Int) ≤ ((36 : Nat) : Int)
      omega
    · have e1 : IntKind.wrap .i64 ((m : Int) * 2) = ((m * 2 : Nat) : Int) := by rw [IntWalk.i64_in _ (by omega)]; omega
      have e2 : IntKind.wrap .i64 (((m * 2 : Nat) : Int) + 2) = ((m * 2 + 2 : Nat) : Int) := by rw [IntWalk.i64_in _ (by omega)]; omega
      rw [e1, e2]
      refine ⟨by omega, ?_, by omega, by rw [Int.toNat_natCast]; omega, by rw [Int.toNat_natCast, Int.toNat_natCast, small2 m (by omega) (by omega)], rfl⟩
      show ((m * 2 + 2 : Nat) : Int) ≤ ((200 : Nat) : Int)
      omega
  refine strconv_Itoa.ok _ w _ ((internal_strconv_Itoa.ok _ w (fun r w' => r = .returned (.string (dec2 m)) ∧ w' = w) ((internal_strconv_FormatInt.ok _ _ w (fun r w' => r = .returned (.string (dec2 m)) ∧ w' = w) (sel_true rfl (sel_true (decide_eq_true (by omega)) (sel_true (decide_eq_true (by omega)) (small.mono ?_))))).mono ?_)).mono ?_)
  · rintro _ _ ⟨rfl, rfl⟩
    exact ⟨_, rfl, rfl, rfl⟩
  · rintro _ _ ⟨rfl, rfl⟩
    exact ⟨_, rfl, rfl, rfl⟩
  · rintro _ _ ⟨rfl, rfl⟩
    exact ⟨_, rfl, rfl, Fr.refl _ _⟩
/-- the text of a sort -/
def srtB (s : Srt) : ByteArray :=
  if s.k = 0 then (ByteArray.mk #[40, 98, 118, 32] ++ dec2 s.n.toNat) ++ ByteArray.mk #[41]
  else if s.k = 1 then (ByteArray.mk #[40, 115, 116, 114, 32] ++ dec2 s.n.toNat) ++ ByteArray.mk #[41]
  else (((ByteArray.mk #[40, 97, 114, if s.k = 2 then 114 else 115, 32] ++ dec2 s.x.toNat) ++ ByteArray.mk #[32]) ++ dec2 s.n.toNat) ++ ByteArray.mk #[41]
/-- what a valid sort has -/
theorem valid_fit {s : Srt} (h : validS s = true) : 0 ≤ s.k ∧ s.k ≤ 3 ∧ 0 ≤ s.n ∧ s.n < 100 ∧ 0 ≤ s.x ∧ s.x < 100 := by
  unfold validS at h
  simp at h
  omega
theorem no_max {a b : ByteArray} (h : a.size + b.size ≤ 1000000) : ¬ (((a.size + b.size : Nat) : Int) > IntKind.i64.max) := by
  show ¬ _ > (9223372036854775807 : Int)
  omega
theorem z_1 (a : UInt8) : (ByteArray.mk #[a]).size = 1 := rfl
theorem z_2 (a b : UInt8) : (ByteArray.mk #[a, b]).size = 2 := rfl
theorem z_3 (a b c : UInt8) : (ByteArray.mk #[a, b, c]).size = 3 := rfl
theorem z_4 (a b c d : UInt8) : (ByteArray.mk #[a, b, c, d]).size = 4 := rfl
theorem z_5 (a b c d e : UInt8) : (ByteArray.mk #[a, b, c, d, e]).size = 5 := rfl
theorem p_sortText {w : World} {s : Srt} (h : validS s = true) : Calls Tryz.prog n_print_sortText #[srtV s] w fun r w' => r = .returned (.string (srtB s)) ∧ Fr0 w w' := by
  obtain ⟨h1, h2, h3, h4, h5, h6⟩ := valid_fit h
  have z1 := dec2_size s.n.toNat
  have z2 := dec2_size s.x.toNat
  refine print_sortText.okT _ _ _ w _ ((lh0 [] (by simp)).newg fun b1 w1 H1 => H1.locg fun w2 H2 => H2.callg (s_Itoa h3 h4) ?_)
  rintro _ w3 rfl H3
  refine ⟨_, rfl, H3.callg (s_Itoa h5 h6) ?_⟩
  rintro _ w4 rfl H4
  refine ⟨_, rfl, sel_eq (fun h => ?_) (fun h0 => sel_eq (fun h => ?_) (fun h1 => sel_eq (fun h => ?_) (fun h2 => ?_)))⟩
  all_goals first
    | refine ⟨no_max ?_, no_max ?_, ?_, H4.fr⟩
    | refine ⟨no_max ?_, no_max ?_, no_max ?_, no_max ?_, ?_, H4.fr⟩
  all_goals first
    | (simp only [size_app, z_1, z_2, z_3, z_4, z_5]; omega)
    | (unfold srtB; simp [*])
end Go.Proofs.YtibaobaobnpdaaaGreatDoor
set_option maxRecDepth 100000
set_option maxHeartbeats 1000000
namespace Go.Proofs.YtibaobaobnpdaaaGreatDoor
open Go Go.W

/-! ### Plain: lengths and depths -/
def atN (l : List Nat) (k : Int) : Nat := l.getD k.toNat 0
def sumK (l : List Nat) (kids : List Int) : Nat := (kids.map (atN l)).sum
def maxK (l : List Nat) (kids : List Int) : Nat := (kids.map (atN l)).foldl max 0
def capN (n : Nat) : Nat := min n 65537
def len1 (h : ByteArray) (kids : List Int) (ls : List Nat) : Nat := capN (h.size + kids.length + sumK ls kids + if kids = [] then 0 else 1)
def dep1 (op : Int) (kids : List Int) (ds : List Nat) : Nat := if op = 3 then 1 else if kids = [] then 0 else maxK ds kids + 1
theorem sumK_snoc (l : List Nat) (a : List Int) (k : Int) : sumK l (a ++ [k]) = sumK l a + atN l k := by unfold sumK; simp
theorem maxK_snoc (l : List Nat) (a : List Int) (k : Int) : maxK l (a ++ [k]) = max (maxK l a) (atN l k) := by unfold maxK; simp
theorem cap_cap (a b : Nat) : capN (capN a + b) = capN (a + b) := by unfold capN; omega
theorem cap_int (n : Nat) : (if (65537 : Int) < (n : Int) then 65537 else (n : Int)) = ((capN n : Nat) : Int) := by
  unfold capN
  split <;> omega
theorem cap_le (n : Nat) : capN n ≤ 65537 := Nat.min_le_right _ _
theorem atN_get {l : List Nat} {k : Int} {i n : Nat} (hk : k = (i : Int)) (h : l[i]? = some n) : atN l k = n := by
  subst hk
  unfold atN
  rw [Int.toNat_natCast, List.getD_eq_getElem?_getD, h]
  rfl
theorem atN_le {l : List Nat} {m : Nat} (h : ∀ x ∈ l, x ≤ m) (k : Int) : atN l k ≤ m := by
  unfold atN
  rw [List.getD_eq_getElem?_getD]
  cases hg : l[k.toNat]? with
  | none => exact Nat.zero_le _
  | some x => exact h x (List.mem_of_getElem? hg)
theorem maxK_le {l : List Nat} {m : Nat} (h : ∀ x ∈ l, x ≤ m) (kids : List Int) : maxK l kids ≤ m := by
  unfold maxK
  have : ∀ (ks : List Int) (a : Nat), a ≤ m → (ks.map (atN l)).foldl max a ≤ m := by
    intro ks
    induction ks with
    | nil => intro a ha; exact ha
    | cons k ks ih => intro a ha; exact ih _ (Nat.max_le.2 ⟨ha, atN_le h k⟩)
  exact this kids 0 (Nat.zero_le _)
/-! ### What a printer holds -/
abbrev natV (n : Nat) : Value := .int .i64 (n : Int)
abbrev PrL (b : Nat) (g sh sl sd : Sl) (m : Option Nat) (sr : Sl) (hs : List ByteArray) (ls ds : List Nat) : List En :=
  [.c b [g.v, sh.v, sl.v, sd.v, .map m, sr.v] ty_print_printer, .row ty_string 1 sh (hs.map Value.string), .row ty_int 1 sl (ls.map natV), .row ty_int 1 sd (ds.map natV)]
def PrRep (w : World) (b : Nat) (g : Sl) (mr : Option Nat × Sl) (hs : List ByteArray) (ls ds : List Nat) (own : List Nat) : Prop := ∃ (sh sl sd : Sl), own = (PrL b g sh sl sd mr.1 mr.2 hs ls ds).flatMap (·.fp) ∧ own.Nodup ∧ ∀ e ∈ PrL b g sh sl sd mr.1 mr.2 hs ls ds, e.P w
def PrAt (w : World) (b : Nat) (g : Sl) (mr : Option Nat × Sl) (own : List Nat) (hs : List ByteArray) (ls ds : List Nat) (w' : World) : Prop := ∃ own', PrRep w' b g mr hs ls ds own' ∧ Fr (· ∈ own) w w' ∧ ∀ x ∈ own', x ∈ own ∨ w.heap.size ≤ x
theorem PrRep.open {w : World} {b : Nat} {g : Sl} {mr : Option Nat × Sl} {hs : List ByteArray} {ls ds : List Nat} {own : List Nat} (h : PrRep w b g mr hs ls ds own) (D : List En) (hD : ∀ e ∈ D, e.P w ∧ ∀ b ∈ e.fp, b ∉ own) :
    ∃ (sh sl sd : Sl), LH (· ∈ own) w w (PrL b g sh sl sd mr.1 mr.2 hs ls ds) D := by
  obtain ⟨sh, sl, sd, ho, hn, hP⟩ := h
  have hin : ∀ e ∈ PrL b g sh sl sd mr.1 mr.2 hs ls ds, ∀ x ∈ e.fp, x ∈ own := fun e he b hb => by rw [ho]; exact List.mem_flatMap.2 ⟨e, he, hb⟩
  exact ⟨sh, sl, sd, LH.start' _ _ (fun e he => ⟨hP e he, hin e he⟩) (ho ▸ hn) (fun e he => ⟨(hD e he).1, fun b hb e' he' hm => (hD e he).2 b hb (hin e' he' b hm)⟩)⟩
theorem PrRep.close {w w' : World} {b : Nat} {g : Sl} {hs : List ByteArray} {ls ds : List Nat} {own : List Nat} {sh sl sd : Sl} {m : Option Nat} {sr : Sl} {D : List En} (H : LH (· ∈ own) w w' (PrL b g sh sl sd m sr hs ls ds) D) : PrAt w b g (m, sr) own hs ls ds w' :=
  ⟨_, ⟨sh, sl, sd, rfl, H.nd, H.own⟩, H.fr, fun x hx => by
    obtain ⟨e, he, hb⟩ := List.mem_flatMap.1 hx
    exact (H.new e he x hb).symm⟩
/-! ### measure -/
section
variable {M : Nat → Prop} {w0 w : World} {L D : List En} {bs : List Nat}
/-- a part is counted -/
theorem m_count {w : World} {c : Nat} {vs : List Value} (hc : w.heap[c]? = some (.cells vs.toArray ty_4_int (0, 0))) {k a n : Nat} (hk : k < 4) (hv : vs[k]? = some (natV a)) (ha : a ≤ 100000) (hn : n ≤ 1000000) :
    Calls Tryz.prog n_print_printer_measure_1 #[.i (k : Int), .i (n : Int), .pointer (some (at0 c))] w fun r w' => r = .returned (.tuple #[]) ∧ w'.heap[c]? = some (.cells (vs.set k (natV (capN (a + n)))).toArray ty_4_int (0, 0)) ∧ Fr (· = c) w w' := by
  have hx : w.cell? ((at0 c).add (Int.toNat (k : Int) * 1)) = some (natV a) := by
    rw [Int.toNat_natCast, Nat.mul_one]
    exact cellAt (p := at0 c) hc rfl (by simpa using hv)
  have e : IntKind.wrap .i64 ((a : Int) + (n : Int)) = ((a + n : Nat) : Int) := by rw [IntWalk.i64_in _ (by omega)]; omega
  obtain ⟨x1, x2, x3, x4⟩ := set_c hc k (by simpa using (List.getElem?_eq_some_iff.1 hv).1) (natV (capN (a + n)))
  refine print_printer_measure_1.ok _ _ _ w _ ⟨by omega, by omega, a, hx, print_capped.ok _ w _ ⟨_, rfl, by omega, by omega, ?_⟩⟩
  rw [e, cap_int, Int.toNat_natCast, Nat.mul_one]
  exact ⟨x1, x2, rfl, by simpa using x3, x4.mono fun x _ hx => by simpa [En.ob] using hx⟩
theorem _root_.Go.W.LH.cnt (H : LH M w0 w L D) (i : Nat) {c : Nat} {vs : List Value} (hi : L[i]? = some (.c c vs ty_4_int)) {k a n : Nat} (hk : k < 4) (hv : vs[k]? = some (natV a)) (ha : a ≤ 100000) (hn : n ≤ 1000000) {K : Post}
    (hK : ∀ w', LH M w0 w' (L.set i (.c c (vs.set k (natV (capN (a + n)))) ty_4_int)) D → K (.returned (.tuple #[])) w') : Calls Tryz.prog n_print_printer_measure_1 #[.i (k : Int), .i (n : Int), .pointer (some (at0 c))] w K :=
  (m_count (H.ob i hi) hk hv ha hn).mono fun r w' ⟨hr, h, f⟩ => by
    subst hr
    exact hK w' (H.upd i _ hi (f.mono fun x _ e => by simp [En.ob, e]) h fun b hb => .inl hb)
theorem _root_.Go.W.LH.cntF (H : LH M w0 w L D) (i : Nat) {c : Nat} {vs : List Value} (hi : L[i]? = some (.c c vs ty_4_int)) {k a n : Nat} (hk : k < 4) (hv : vs[k]? = some (natV a)) (ha : a ≤ 100000) (hn : n ≤ 1000000) {K : Post}
    (hK : ∀ w', LH M w0 w' (L.set i (.c c (vs.set k (natV (capN (a + n)))) ty_4_int)) D → K (.returned (.tuple #[])) w') (hbs : ∀ b ∈ bs, En.g b ∈ L := by simp) : callF bs Tryz.prog n_print_printer_measure_1 #[.i (k : Int), .i (n : Int), .pointer (some (at0 c))] w K :=
  ⟨(· = c), fun b hb hm => ghost_off H hi (c_off w c vs ty_4_int) (hbs b hb) (by simp [En.ob, hm]), (m_count (H.ob i hi) hk hv ha hn).mono fun r w' ⟨hr, h, f⟩ => by
    subst hr
    exact ⟨f, hK w' (H.upd i _ hi (f.mono fun x _ e => by simp [En.ob, e]) h fun b hb => .inl hb)⟩⟩
end
section
variable {w w2 : World} {own : List Nat} {b c i : Nat} {g sh sl sd sr : Sl} {m : Option Nat} {hs : List ByteArray} {ls ds : List Nat} {D : List En}
/-- a number is stored in a row of the printer -/
theorem m_storeK {M : Nat → Prop} {w0 : World} {L : List En} {bs : List Nat} (H : LH M w0 w2 L D) (j : Nat) {s : Sl} {l : List Nat} (hj : L[j]? = some (.row ty_int 1 s (l.map natV))) (hi : i < l.length) {n : Nat} {K : World → Prop}
    (hK : ∀ w', LH M w0 w' (L.set j (.row ty_int 1 s ((l.set i n).map natV))) D → K w') (hbs : ∀ b ∈ bs, En.g b ∈ L := by simp) : (0 : Int) ≤ (i : Int) ∧ (i : Int) < ((s.n : Nat) : Int) ∧ optP s.a fun p => stV w2 (p.add (Int.toNat (i : Int) * 1)) (natV n) fun w' => kept bs w2 w' ∧ K w' := by
  refine row_at (H.get j hj) rfl (v := natV l[i]) (by simp [hi]) fun p hp hc => ?_
  rw [Int.toNat_natCast, Nat.mul_one]
  refine H.st1 j i hj hp (by simpa using hi) (fun w' H' => hK w' ?_) hbs
  rw [List.map_set]
  exact H'
theorem m_store {M : Nat → Prop} {w0 : World} {L : List En} (H : LH M w0 w2 L D) (j : Nat) {s : Sl} {l : List Nat} (hj : L[j]? = some (.row ty_int 1 s (l.map natV))) (hi : i < l.length) {n : Nat} {K : World → Prop}
    (hK : ∀ w', LH M w0 w' (L.set j (.row ty_int 1 s ((l.set i n).map natV))) D → K w') : (0 : Int) ≤ (i : Int) ∧ (i : Int) < ((s.n : Nat) : Int) ∧ optP s.a fun p => stV w2 (p.add (Int.toNat (i : Int) * 1)) (natV n) K := by
  obtain ⟨h1, h2, h3⟩ := m_storeK (bs := []) H j hj hi hK (by simp)
  exact ⟨h1, h2, by
    cases hs : s.a with
    | none => rw [hs] at h3; exact h3
    | some p => rw [hs] at h3; exact st_plain h3⟩
theorem m_fin {b5 a0 a1 a2 a3 : Nat} (H : LH (· ∈ own) w w2 (PrL b g sh sl sd m sr hs ls ds ++ [.g b5] ++ [.c c [natV a0, natV a1, natV a2, natV a3] ty_4_int]) D) (hi : i < ls.length) (h0 : a0 ≤ 65537) (h1 : a1 ≤ 65537) (h2 : a2 ≤ 65537) (h3 : a3 ≤ 65537) :
    print_printer_measure.S0T (at0 b) (i : Int) (at0 c) w2 fun r w' => r = .returned (.tuple #[]) ∧ PrAt w b g (m, sr) own hs (ls.set i (capN (a0 + a1 + a2 + a3))) ds w' := by
  have e : ∀ x y : Nat, x ≤ 65537 → y ≤ 65537 → IntKind.wrap .i64 ((x : Int) + (y : Int)) = ((x + y : Nat) : Int) := fun x y hx hy => by rw [IntWalk.i64_in _ (by omega)]; omega
  have n : ∀ k : Nat, k < 10 → IntKind.wrap .i64 ((k : Int) + 1) = ((k + 1 : Nat) : Int) := fun k hk => i64_next k (by omega)
  have step : ∀ (k s a : Nat) (K : Post), k < 4 → s ≤ 65537 → a ≤ 65537 → (#[natV a0, natV a1, natV a2, natV a3] : Array Value)[k]? = some (natV a) →
      print_printer_measure.L1T (at0 b) (i : Int) ((capN (s + a) : Nat) : Int) a0 a1 a2 a3 ((k + 1 : Nat) : Int) w2 K → print_printer_measure.L1T (at0 b) (i : Int) (s : Int) a0 a1 a2 a3 (k : Int) w2 K := by
    intro k s a K hk hs ha hg hn
    refine print_printer_measure.L1T_step _ _ _ _ _ _ _ _ _ _ (sel_true (decide_eq_true (by omega)) ⟨by omega, by omega, a, by rw [Int.toNat_natCast]; exact hg, print_capped.ok _ _ _ ⟨_, rfl, ?_⟩⟩)
    rw [e s a hs ha, cap_int, n k (by omega)]
    exact hn
  have hc := fun x => cap_le x
  refine ⟨a0, a1, a2, a3, H.ld 5 0, H.ld 5 1, H.ld 5 2, H.ld 5 3, ?_⟩
  refine step 0 0 a0 _ (by omega) (by omega) h0 rfl (step 1 _ a1 _ (by omega) (hc _) h1 rfl (step 2 _ a2 _ (by omega) (hc _) h2 rfl (step 3 _ a3 _ (by omega) (hc _) h3 rfl ?_)))
  have hz : capN (capN (capN (capN (0 + a0) + a1) + a2) + a3) = capN (a0 + a1 + a2 + a3) := by
    rw [cap_cap, cap_cap, show 0 + a0 = a0 by omega]
    unfold capN
    omega
  rw [hz]
  refine print_printer_measure.L1T_step _ _ _ _ _ _ _ _ _ _ (sel_false (decide_eq_false (by omega)) ⟨sl, H.ld 0 2, m_store H 2 rfl hi fun w3 H3 => ⟨rfl, ?_⟩⟩)
  exact PrRep.close (H3.take 4)
theorem m_loop {b5 h : Nat} {d : Nd} (hh : h ≤ 65537) (hi : i < ls.length) (hdi : i < ds.length) (hk : ∀ k ∈ d.x.kids, 0 ≤ k ∧ k < (ls.length : Int)) (hdl : ds.length = ls.length) (hkl : d.x.kids.length ≤ 1000) (hls : ∀ x ∈ ls, x ≤ 65537) (hds : ∀ x ∈ ds, x ≤ 1000000) :
    ∀ (r pre : List Int) (w2 : World), d.x.kids = pre ++ r → LH (· ∈ own) w w2 (PrL b g sh sl sd m sr hs ls ds ++ [.g b5] ++ [.c c [natV h, natV (capN pre.length), natV (capN (sumK ls pre)), natV 0] ty_4_int]) [kidE d] →
      print_printer_measure.L2T (at0 b) (i : Int) (at0 c) (at0 c) ((maxK ds pre : Nat) : Int) d.ks ((d.ks.n : Nat) : Int) ((pre.length : Nat) : Int) w2 fun r w' => r = .returned (.tuple #[]) ∧ PrAt w b g (m, sr) own hs (ls.set i (capN (h + capN d.x.kids.length + capN (sumK ls d.x.kids) + 1))) (ds.set i (maxK ds d.x.kids + 1)) w' := by
  intro r
  induction r with
  | nil =>
    intro pre w2 hp H
    rw [List.append_nil] at hp
    subst hp
    have hn : d.ks.n = d.x.kids.length := by have h0 : (kidE d).P w2 := H.getD 0; simpa using h0.1
    have hm := maxK_le hds d.x.kids
    refine print_printer_measure.L2T_step _ _ _ _ _ _ _ _ _ _ (sel_false (decide_eq_false (by omega)) (H.cnt (k := 3) (a := 0) (n := 1) 5 rfl (by omega) rfl (by omega) (by omega) fun w3 H3 => ⟨rfl, sd, H3.ld 0 3, ?_⟩))
    have e : IntKind.wrap .i64 (((maxK ds d.x.kids : Nat) : Int) + 1) = ((maxK ds d.x.kids + 1 : Nat) : Int) := i64_next _ (by omega)
    rw [e]
    refine m_store H3 3 rfl hdi fun w4 H4 => ?_
    have c1 := cap_le d.x.kids.length
    have c2 := cap_le (sumK ls d.x.kids)
    exact m_fin (a3 := capN (0 + 1)) H4 hi hh c1 c2 (by decide)
  | cons k r ih =>
    intro pre w2 hp H
    have hn : d.ks.n = d.x.kids.length := by have h0 : (kidE d).P w2 := H.getD 0; simpa using h0.1
    have hg : d.x.kids[pre.length]? = some k := by rw [hp]; simp
    have hpl : pre.length < d.x.kids.length := (List.getElem?_eq_some_iff.1 hg).1
    obtain ⟨k0, k1⟩ := hk k (List.mem_of_getElem? hg)
    obtain ⟨j, rfl⟩ := Int.eq_ofNat_of_zero_le k0
    have hj1 : ls[j]? = some (atN ls (j : Int)) := by
      have h := List.getElem?_eq_getElem (l := ls) (i := j) (by omega)
      rw [atN_get rfl h]; exact h
    have hj2 : ds[j]? = some (atN ds (j : Int)) := by
      have h := List.getElem?_eq_getElem (l := ds) (i := j) (by omega)
      rw [atN_get rfl h]; exact h
    have b1 := atN_le hls (j : Int)
    have b2 := atN_le hds (j : Int)
    have c1 := cap_le pre.length
    have c2 := cap_le (sumK ls pre)
    refine print_printer_measure.L2T_step _ _ _ _ _ _ _ _ _ _ (sel_true (decide_eq_true (by omega)) ⟨by omega, by omega, Nums.cell (H.getD 0) hg (by simp) fun p hp' hc => ⟨_, hc, H.cnt (k := 1) (n := 1) 5 rfl (by omega) rfl (by omega) (by omega) fun w3 H3 => ⟨rfl, sl, H3.ld 0 2, row_at (H3.get 2) rfl (v := natV (atN ls (j : Int))) (by simp [hj1]) fun p2 _ hc2 => ⟨_, hc2, H3.cnt (k := 2) 5 rfl (by omega) rfl (by omega) (by omega) fun w4 H4 => ⟨rfl, sd, H4.ld 0 3, row_at (H4.get 3) rfl (v := natV (atN ds (j : Int))) (by simp [hj2]) fun p3 _ hc3 => ⟨_, hc3, ?_⟩⟩⟩⟩⟩⟩)
    have em : (if ((maxK ds pre : Nat) : Int) < ((atN ds (j : Int) : Nat) : Int) then ((atN ds (j : Int) : Nat) : Int) else ((maxK ds pre : Nat) : Int)) = ((maxK ds (pre ++ [(j : Int)]) : Nat) : Int) := by
      rw [maxK_snoc]
      split <;> omega
    rw [em]
    show print_printer_measure.L2T _ _ _ _ _ _ _ (IntKind.wrap .i64 (((pre.length : Nat) : Int) + 1)) _ _
    rw [i64_next _ (by omega)]
    have := ih (pre ++ [(j : Int)]) w4 (by rw [hp]; simp) (by
      rw [sumK_snoc, List.length_append, ← cap_cap (sumK ls pre), ← cap_cap pre.length]
      exact H4)
    rw [List.length_append] at this
    exact this
theorem c_measure {t : ByteArray} {d : Nd} (h : PrRep w b g (m, sr) hs ls ds own) (hd : d.P w) (hoff : ∀ x ∈ (kidE d).fp, x ∉ own) (hk : ∀ k ∈ d.x.kids, 0 ≤ k ∧ k < (ls.length : Int)) (hi : hs[i]? = some t) (hl : ls.length = hs.length) (hdl : ds.length = hs.length) (hd0 : ds[i]? = some 0)
    (h3 : d.x.op = 3 → d.x.kids = []) (ht : t.size ≤ 1000000) (hkl : d.x.kids.length ≤ 1000) (hls : ∀ x ∈ ls, x ≤ 65537) (hds : ∀ x ∈ ds, x ≤ 1000000) :
    Calls Tryz.prog n_print_printer_measure #[.pointer (some (at0 b)), .i (i : Int), d.v] w fun r w' => r = .returned (.tuple #[]) ∧ PrAt w b g (m, sr) own hs (ls.set i (len1 t d.x.kids ls)) (ds.set i (dep1 d.x.op d.x.kids ds)) w' := by
  have hil : i < hs.length := (List.getElem?_eq_some_iff.1 hi).1
  have hn : d.ks.n = d.x.kids.length := by simpa using hd.1
  obtain ⟨sh, sl, sd, H⟩ := h.open [kidE d] (by
    intro e he
    simp only [List.mem_cons, List.not_mem_nil, or_false] at he
    subst he
    exact ⟨hd, hoff⟩)
  refine print_printer_measure.okT _ _ _ _ _ _ _ _ _ _ _ w _ (H.newg fun b5 w1 H1 => H1.nw fun w2 hs2 H2 => ⟨sh, H2.ld 0 1, row_at (H2.get 1) rfl (v := .string t) (by simp [hi]) fun p hp hc => ⟨t, hc, H2.cntF (k := 0) (a := 0) (n := t.size) 5 rfl (by omega) rfl (by omega) ht fun w3 H3 => ⟨rfl, ?_⟩⟩⟩)
  have H3 : LH (· ∈ own) w w3 (PrL b g sh sl sd m sr hs ls ds ++ [.g b5] ++ [.c w1.heap.size [natV (capN t.size), natV 0, natV 0, natV 0] ty_4_int]) [kidE d] := by
    have e : 0 + t.size = t.size := by omega
    rw [e] at H3
    exact H3
  have hcs := cap_le t.size
  have same : ds.set i 0 = ds := by
    have e0 : ds[i]'(by omega) = 0 := by
      have := List.getElem?_eq_getElem (l := ds) (i := i) (by omega)
      rw [this] at hd0
      simpa using hd0
    conv => lhs; rw [← e0]
    exact List.set_getElem_self _
  show sel (d.x.op == 3) _ _
  refine sel_eq (fun h => ?_) (fun h => sel_dec (fun hp => ?_) (fun hp => ?_))
  · have hk0 := h3 h
    refine ⟨sd, H3.ld 0 3, m_storeK H3 3 rfl (n := 1) (by omega) fun w4 H4 => ?_⟩
    have := m_fin (i := i) (ds := ds.set i 1) H4 (by omega) hcs (by omega) (by omega) (by omega)
    rw [show capN (capN t.size + 0 + 0 + 0) = len1 t d.x.kids ls by unfold len1 sumK; rw [hk0]; unfold capN; simp] at this
    rw [show dep1 d.x.op d.x.kids ds = 1 by unfold dep1; rw [if_pos h]]
    exact this
  · have hk0 : d.x.kids ≠ [] := fun e => by rw [e] at hn; simp at hn; omega
    have := m_loop (h := capN t.size) hcs (i := i) (by omega) (by omega) hk (by omega) hkl hls hds d.x.kids [] w3 rfl H3
    rw [show capN (capN t.size + capN d.x.kids.length + capN (sumK ls d.x.kids) + 1) = len1 t d.x.kids ls by unfold len1; rw [if_neg hk0]; unfold capN; omega] at this
    rw [show dep1 d.x.op d.x.kids ds = maxK ds d.x.kids + 1 by unfold dep1; rw [if_neg h, if_neg hk0]]
    exact this
  · have hk0 : d.x.kids = [] := List.eq_nil_of_length_eq_zero (by omega)
    have := m_fin (i := i) H3 (by omega) hcs (by omega) (by omega) (by omega)
    rw [show capN (capN t.size + 0 + 0 + 0) = len1 t d.x.kids ls by unfold len1 sumK; rw [hk0]; unfold capN; simp] at this
    rw [show dep1 d.x.op d.x.kids ds = 0 by unfold dep1; rw [if_neg h, if_pos hk0], same]
    exact this
end
end Go.Proofs.YtibaobaobnpdaaaGreatDoor
set_option maxRecDepth 100000
set_option maxHeartbeats 1000000
namespace Go.Proofs.YtibaobaobnpdaaaGreatDoor
open Go Go.W

theorem el_str : ElemOk Tryz.prog ty_sl_string ty_string (.string (ByteArray.mk #[])) 1 16 := ⟨by kernel_rfl, by kernel_rfl, rfl, by decide, by decide⟩
def nwTab : List (Op × Option Nat × TypeId × List Nat) := [
  (.load ty_term_Graph (.tmp 1), some 11, ty_term_Graph, []),
  (.move (.tmp 3), some 12, ty_int, []),
  (.makeSlice ty_sl_string (.tmp 12) (.tmp 12), some 13, ty_sl_string, [1, 1]),
  (.move (.tmp 3), some 14, ty_int, []),
  (.makeSlice ty_sl_int (.tmp 14) (.tmp 14), some 15, ty_sl_int, [3, 3]),
  (.move (.tmp 3), some 16, ty_int, []),
  (.makeSlice ty_sl_int (.tmp 16) (.tmp 16), some 17, ty_sl_int, [5, 5]),
  (.makeMap ty_map_string_bool none, some 18, ty_map_string_bool, []),
  (.move (.tmp 3), some 19, ty_int, []),
  (.makeSlice ty_sl_bool (.tmp 19) (.tmp 19), some 20, ty_sl_bool, [8, 8]),
  (.build ty_print_printer #[(0, .tmp 11), (1, .tmp 13), (2, .tmp 15), (3, .tmp 17), (4, .tmp 18), (5, .tmp 20)], some 21, ty_print_printer, [0, 2, 4, 6, 7, 9]),
  (.box ty_print_printer (.tmp 21), some 22, ty_p_print_printer, [10]),
  (.assign (.tmp 22), some 4, ty_p_print_printer, [11, 0, 1, 2, 3, 4, 5, 6, 7, 8, 9, 10, 11])]
section
variable {P : Program} {K : Env → World → Prop} {E : Env} {w : World}
theorem st_make {o : Oper} {T : TypeId} {t : Nat} {n : Int} (ho : o.op = .makeSlice T (.tmp t) (.tmp t)) (ht : E.get? t = some (.i n)) {s : Sl} {w' : World} (hr : (Instr.makeSlice T (.i n) (.i n)).run P w = .ok s.v w') (h : K (E.put o.dst s.v) w') : stepI P o E w K := by
  obtain ⟨dst, op, ty, pos, after, guard⟩ := o
  simp only at ho
  subst ho
  show (match E.val (.tmp t), E.val (.tmp t) with | some l, some c => doVC P (Instr.makeSlice T l c) (.slice none 0 0) w (fun v w' => K (E.put dst v) w') | _, _ => False)
  rw [show E.val (.tmp t) = some (.i n) from ht]
  exact ⟨s, w', hr, h⟩
theorem st_box {o : Oper} {T : TypeId} {t : Nat} {cs : Array Value} (ho : o.op = .box T (.tmp t)) (ht : E.get? t = some (.agg cs)) (h : K (E.put o.dst (.pointer (some (at0 w.heap.size)))) (w.alloc (.cells cs T))) : stepI P o E w K := by
  obtain ⟨dst, op, ty, pos, after, guard⟩ := o
  simp only at ho
  subst ho
  have hv : E.val (.tmp t) = some (.agg cs) := ht
  have hc : E.covers ⟨dst, .box T (.tmp t), ty, pos, after, guard⟩ = true := by simp [Env.covers, Op.operands, hv]
  have ev : E.ev (.tmp t) = .agg cs := by simp [Env.ev, hv]
  have he : evalVC P ⟨dst, .box T (.tmp t), ty, pos, after, guard⟩ E w (fun v w' => K (E.put dst v) w') := by
    unfold evalVC
    rw [hc]
    show (match (execOp E.ev ⟨dst, .box T (.tmp t), ty, pos, after, guard⟩).run P w with | .ok (.value v) w' => K (E.put dst v) w' | .ok .skip w' => K (E.put dst undef) w' | _ => False)
    have : (execOp E.ev ⟨dst, .box T (.tmp t), ty, pos, after, guard⟩).run P w = .ok (.value (.pointer (some (at0 w.heap.size)))) (w.alloc (.cells cs T)) := by
      show (do pure (Next.value (← Instr.box T (E.ev (.tmp t)))) : Sem _).run P w = _
      rw [ev]
      rfl
    rw [this]
    exact h
  unfold stepI
  simp only [calm, cond_false]
  unfold effVC
  exact he
end
theorem st_bld {K : Env → World → Prop} {E : Env} {w : World} {o : Oper} (ho : o.op = .build ty_print_printer #[(0, .tmp 11), (1, .tmp 13), (2, .tmp 15), (3, .tmp 17), (4, .tmp 18), (5, .tmp 20)]) {g a b c d : Sl} {m : Option Nat}
    (h0 : E.get? 11 = some (.agg #[g.v])) (h1 : E.get? 13 = some a.v) (h2 : E.get? 15 = some b.v) (h3 : E.get? 17 = some c.v) (h4 : E.get? 18 = some (.map m)) (h5 : E.get? 20 = some d.v) (h : K (E.put o.dst (.agg #[g.v, a.v, b.v, c.v, .map m, d.v])) w) : stepI Tryz.prog o E w K := by
  obtain ⟨dst, op, ty, pos, after, guard⟩ := o
  simp only at ho
  subst ho
  show pureVC Tryz.prog _ E (fun v _ => K (E.put dst v) w)
  unfold pureVC
  have hc : E.covers ⟨dst, .build ty_print_printer #[(0, .tmp 11), (1, .tmp 13), (2, .tmp 15), (3, .tmp 17), (4, .tmp 18), (5, .tmp 20)], ty, pos, after, guard⟩ = true := by simp [Env.covers, Op.operands, Env.val, h0, h1, h2, h3, h4, h5]
  rw [hc]
  have e : ∀ {t : Nat} {v : Value}, E.get? t = some v → E.ev (.tmp t) = v := fun h => by simp [Env.ev, Env.val, h]
  have hr : pureRun Tryz.prog (execOp E.ev ⟨dst, .build ty_print_printer #[(0, .tmp 11), (1, .tmp 13), (2, .tmp 15), (3, .tmp 17), (4, .tmp 18), (5, .tmp 20)], ty, pos, after, guard⟩) = some (Next.value (.agg #[g.v, a.v, b.v, c.v, .map m, d.v])) := by
    show pureRun Tryz.prog (do pure (Next.value (← Instr.build ty_print_printer (#[(0, .tmp 11), (1, .tmp 13), (2, .tmp 15), (3, .tmp 17), (4, .tmp 18), (5, .tmp 20)].map fun (i, x) => (i, E.ev x))))) = _
    simp only [List.map_toArray, List.map_cons, List.map_nil, e h0, e h1, e h2, e h3, e h4, e h5]
    kernel_rfl
  rw [hr]
  exact h
/-! ### The invariant -/
def asl (n : Nat) (f : Nat → Nat) (i : Nat) : Sl := ⟨some (at0 (f i)), n, n⟩
def nEnt (n : Nat) (f : Nat → Nat) (i : Nat) : En :=
  if i = 2 then .row ty_string 1 (asl n f i) ((List.replicate n (ByteArray.mk #[])).map Value.string) else if i = 4 ∨ i = 6 then .row ty_int 1 (asl n f i) ((List.replicate n 0).map natV)
  else if i = 7 then .ob (f i) (.map #[] 0) else boolR (asl n f i) (List.replicate n false)
def nVal (n : Nat) (f : Nat → Nat) (i : Nat) : Value := if i = 7 then .map (some (f i)) else (asl n f i).v
def nDst (i : Nat) : Nat := if i = 2 then 13 else if i = 4 then 15 else if i = 6 then 17 else if i = 7 then 18 else 20
abbrev nAll : List Nat := [2, 4, 6, 7, 9]
abbrev nCell (g : Sl) (n : Nat) (f : Nat → Nat) : List Value := [g.v, (asl n f 2).v, (asl n f 4).v, (asl n f 6).v, .map (some (f 7)), (asl n f 9).v]
def nT (b1 : Nat) (g : Sl) (n : Nat) : List (Nat × Nat × Value) := [(0, 1, ptr b1), (0, 3, natV n), (1, 11, .agg #[g.v]), (2, 12, natV n), (4, 14, natV n), (6, 16, natV n), (9, 19, natV n)]
theorem nDst_in {j : Nat} (h : j ∈ nAll) : nDst j ∈ [13, 15, 17, 18, 20] := by
  simp at h
  rcases h with rfl | rfl | rfl | rfl | rfl <;> simp [nDst]
theorem nDst_inj {i j : Nat} (hi : i ∈ nAll) (hj : j ∈ nAll) (h : nDst i = nDst j) : i = j := by
  simp at hi hj
  rcases hi with rfl | rfl | rfl | rfl | rfl <;> rcases hj with rfl | rfl | rfl | rfl | rfl <;> first | rfl | (simp [nDst] at h)
structure NJ (w0 : World) (b1 : Nat) (g : Sl) (n : Nat) (D : List En) (L : Nat → Bool) (E : Env) (w : World) : Prop where
  st : Held0 (nT b1 g n) L E
  hp : ∃ (f : Nat → Nat) (od : List Nat) (X : List En), od.Nodup ∧ (∀ i, i ∈ od ↔ i ∈ nAll ∧ L i = true) ∧ (∀ i ∈ od, E.get? (nDst i) = some (nVal n f i)) ∧ LH F0 w0 w (.c b1 [g.v] ty_term_Graph :: (od.map (nEnt n f) ++ X)) D ∧
    (L 10 = true → (∀ i ∈ nAll, L i = true) ∧ E.get? 21 = some (.agg (nCell g n f).toArray)) ∧
    (L 11 = true → L 10 = true ∧ ∃ b, X = [.c b (nCell g n f) ty_print_printer] ∧ E.get? 22 = some (ptr b) ∧ (L 12 = true → E.get? 4 = some (ptr b))) ∧ (L 12 = true → L 11 = true) ∧ (L 11 = false → X = [])
section
variable {w0 w : World} {b1 n : Nat} {g : Sl} {D : List En} {L : Nat → Bool} {E : Env}
/-- an operation that fills a temporary in which nothing else lies -/
theorem NJ.stat (h : NJ w0 b1 g n D L E w) {i d : Nat} {v : Value} (hf1 : ∀ q ∈ nT b1 g n, q.1 = i + 1 → q = (i + 1, d, v)) (hf2 : ∀ q ∈ nT b1 g n, q.2.1 = d → q.1 = i + 1) (hi : i = 0 ∨ i = 1 ∨ i = 3 ∨ i = 5 ∨ i = 8) (hd : d = 11 ∨ d = 12 ∨ d = 14 ∨ d = 16 ∨ d = 19) : NJ w0 b1 g n D (setB L i) (E.put (some d) v) w := by
  obtain ⟨f, od, X, h1, h2, h3, h4, h5, h6, h7, h8⟩ := h.hp
  have nb : ∀ j : Nat, j ∈ [2, 4, 6, 7, 9, 10, 11, 12] → setB L i j = L j := fun j hj => setB_ne (by simp at hj; omega)
  have np : ∀ t : Nat, t ∈ [13, 15, 17, 18, 20, 21, 22, 4] → (E.put (some d) v).get? t = E.get? t := fun t ht => get_put_ne (by simp at ht; omega)
  refine ⟨h.st.fill hf1 hf2, f, od, X, h1, fun j => ?_, fun j hj => ?_, h4, fun h => ?_, fun h => ?_, fun h => ?_, fun h => ?_⟩
  · rw [h2]
    constructor
    · rintro ⟨a, b⟩
      exact ⟨a, by rw [nb j (by simp at a ⊢; omega)]; exact b⟩
    · rintro ⟨a, b⟩
      exact ⟨a, by rw [nb j (by simp at a ⊢; omega)] at b; exact b⟩
  · have hm := ((h2 j).1 hj).1
    rw [np _ (by have := nDst_in hm; simp at this ⊢; omega)]
    exact h3 j hj
  · rw [nb 10 (by simp)] at h
    rw [np 21 (by simp)]
    exact ⟨fun j hj => by rw [nb j (by simp at hj ⊢; omega)]; exact (h5 h).1 j hj, (h5 h).2⟩
  · rw [nb 11 (by simp)] at h
    rw [nb 10 (by simp), nb 12 (by simp), np 22 (by simp), np 4 (by simp)]
    exact h6 h
  · rw [nb 12 (by simp)] at h
    rw [nb 11 (by simp)]
    exact h7 h
  · rw [nb 11 (by simp)] at h
    exact h8 h
/-- a row, or the map, is made -/
theorem NJ.alloc (h : NJ w0 b1 g n D L E w) {i : Nat} (hi : i ∈ nAll) (hL : L i = false) {w' : World} (hw : Fr0 w w') (hP : ∀ f, f i = w.heap.size → (nEnt n f i).P w' ∧ ∀ b ∈ (nEnt n f i).fp, w.heap.size ≤ b) {v : Value} (hv : ∀ f, f i = w.heap.size → v = nVal n f i) {d : Nat} (hd : d = nDst i) :
    NJ w0 b1 g n D (setB L i) (E.put (some d) v) w' := by
  subst hd
  obtain ⟨f, od, X, h1, h2, h3, h4, h5, h6, h7, h8⟩ := h.hp
  have hno : i ∉ od := fun hm => by rw [((h2 i).1 hm).2] at hL; cases hL
  have hin : i = 2 ∨ i = 4 ∨ i = 6 ∨ i = 7 ∨ i = 9 := by simpa using hi
  have hdn := nDst_in hi
  have nb : ∀ j : Nat, j ≠ i → setB L i j = L j := fun j hj => setB_ne hj
  have np : ∀ t : Nat, t ≠ nDst i → (E.put (some (nDst i)) v).get? t = E.get? t := fun t ht => get_put_ne fun e => ht e.symm
  have ff : ∀ j, j ≠ i → (fun j => if j = i then w.heap.size else f j) j = f j := fun j hj => if_neg hj
  have fi : (fun j => if j = i then w.heap.size else f j) i = w.heap.size := if_pos rfl
  have enE : ∀ j, j ≠ i → nEnt n (fun j => if j = i then w.heap.size else f j) j = nEnt n f j := fun j hj => by unfold nEnt asl; rw [ff j hj]
  have enV : ∀ j, j ≠ i → nVal n (fun j => if j = i then w.heap.size else f j) j = nVal n f j := fun j hj => by unfold nVal asl; rw [ff j hj]
  have hn10 : L 10 = false := by
    cases h10 : L 10 with
    | false => rfl
    | true => rw [(h5 h10).1 i hi] at hL; cases hL
  have hn11 : L 11 = false := by
    cases h11 : L 11 with
    | false => rfl
    | true => rw [(h6 h11).1] at hn10; cases hn10
  have hX := h8 hn11
  subst hX
  refine ⟨h.st.pass (fun q hq => ?_) (fun q hq => ?_), fun j => if j = i then w.heap.size else f j, od ++ [i], [], ?_, fun j => ?_, fun j hj => ?_, ?_, fun h => ?_, fun h => ?_, fun h => ?_, fun _ => rfl⟩
  · simp only [nT, List.mem_cons, List.not_mem_nil, or_false] at hq
    rcases hq with rfl | rfl | rfl | rfl | rfl | rfl | rfl <;> simp only <;> omega
  · simp at hdn
    simp only [nT, List.mem_cons, List.not_mem_nil, or_false] at hq
    rcases hq with rfl | rfl | rfl | rfl | rfl | rfl | rfl <;> simp only [ne_eq, Option.some.injEq] <;> omega
  · rw [List.nodup_append]
    exact ⟨h1, by simp, fun a ha b hb => by simp at hb; subst hb; exact fun e => hno (e ▸ ha)⟩
  · rw [List.mem_append, List.mem_singleton]
    constructor
    · rintro (hj | rfl)
      · obtain ⟨a, b⟩ := (h2 j).1 hj
        refine ⟨a, ?_⟩
        rw [nb j (fun e => hno (e ▸ hj)), b]
      · exact ⟨hi, setB_eq⟩
    · rintro ⟨a, b⟩
      by_cases hji : j = i
      · exact .inr hji
      · rw [nb j hji] at b
        exact .inl ((h2 j).2 ⟨a, b⟩)
  · rcases List.mem_append.1 hj with hj | hj
    · have hji : j ≠ i := fun e => hno (e ▸ hj)
      rw [np _ (fun e => hji (nDst_inj ((h2 j).1 hj).1 hi e)), enV j hji]
      exact h3 j hj
    · simp at hj
      subst hj
      rw [get_put, hv (fun k => if k = j then w.heap.size else f k) fi]
  · obtain ⟨p1, p2⟩ := hP (fun j => if j = i then w.heap.size else f j) fi
    have hm : (od ++ [i]).map (nEnt n (fun j => if j = i then w.heap.size else f j)) = od.map (nEnt n f) ++ [nEnt n (fun j => if j = i then w.heap.size else f j) i] := by
      rw [List.map_append, List.map_singleton]
      congr 1
      exact List.map_congr_left fun j hj => enE j fun e => hno (e ▸ hj)
    rw [hm, List.append_nil]
    rw [List.append_nil] at h4
    exact h4.push _ hw p1 p2
  · rw [nb 10 (by omega)] at h
    rw [hn10] at h; cases h
  · rw [nb 11 (by omega)] at h
    rw [hn11] at h; cases h
  · rw [nb 12 (by omega)] at h
    rw [nb 11 (by omega)]
    exact h7 h
theorem NJ.held (h : NJ w0 b1 g n D L E w) {i d : Nat} {v : Value} (hi : i = 10 ∨ i = 11 ∨ i = 12) (hd : d = 21 ∨ d = 22 ∨ d = 4) : Held0 (nT b1 g n) (setB L i) (E.put (some d) v) := by
  refine h.st.pass (fun q hq => ?_) (fun q hq => ?_)
  · simp only [nT, List.mem_cons, List.not_mem_nil, or_false] at hq
    rcases hq with rfl | rfl | rfl | rfl | rfl | rfl | rfl <;> simp only <;> omega
  · simp only [nT, List.mem_cons, List.not_mem_nil, or_false] at hq
    rcases hq with rfl | rfl | rfl | rfl | rfl | rfl | rfl <;> simp only [ne_eq, Option.some.injEq] <;> omega
theorem NJ.keep {od : List Nat} {f : Nat → Nat} (h2 : ∀ i, i ∈ od ↔ i ∈ nAll ∧ L i = true) (h3 : ∀ i ∈ od, E.get? (nDst i) = some (nVal n f i)) {i d : Nat} {v : Value} (hi : i = 10 ∨ i = 11 ∨ i = 12) (hd : d = 21 ∨ d = 22 ∨ d = 4) :
    (∀ j, j ∈ od ↔ j ∈ nAll ∧ setB L i j = true) ∧ (∀ j ∈ od, (E.put (some d) v).get? (nDst j) = some (nVal n f j)) ∧ ∀ j ∈ nAll, setB L i j = L j := by
  have nb : ∀ j ∈ nAll, setB L i j = L j := fun j hj => setB_ne (by simp at hj; omega)
  refine ⟨fun j => ?_, fun j hj => ?_, nb⟩
  · rw [h2]
    exact ⟨fun h => ⟨h.1, by rw [nb j h.1]; exact h.2⟩, fun h => ⟨h.1, by rw [← nb j h.1]; exact h.2⟩⟩
  · have := nDst_in ((h2 j).1 hj).1
    rw [get_put_ne (by simp at this; omega)]
    exact h3 j hj
/-- the struct is built -/
theorem NJ.bld (h : NJ w0 b1 g n D L E w) (hL : ∀ i ∈ nAll, L i = true) (h10 : L 10 = false) : ∃ f, E.get? 13 = some (asl n f 2).v ∧ E.get? 15 = some (asl n f 4).v ∧ E.get? 17 = some (asl n f 6).v ∧ E.get? 18 = some (.map (some (f 7))) ∧ E.get? 20 = some (asl n f 9).v ∧
    NJ w0 b1 g n D (setB L 10) (E.put (some 21) (.agg (nCell g n f).toArray)) w := by
  obtain ⟨f, od, X, h1, h2, h3, h4, h5, h6, h7, h8⟩ := h.hp
  have k : ∀ i, i ∈ nAll → E.get? (nDst i) = some (nVal n f i) := fun i hi => h3 i ((h2 i).2 ⟨hi, hL i hi⟩)
  obtain ⟨a1, a2, a3⟩ := NJ.keep (v := .agg (nCell g n f).toArray) h2 h3 (i := 10) (d := 21) (.inl rfl) (.inl rfl)
  have n11 : L 11 = false := by
    cases h11 : L 11 with
    | false => rfl
    | true => rw [(h6 h11).1] at h10; cases h10
  refine ⟨f, k 2 (by simp), k 4 (by simp), k 6 (by simp), k 7 (by simp), k 9 (by simp), h.held (.inl rfl) (.inl rfl), f, od, X, h1, a1, a2, h4, fun _ => ⟨fun j hj => by rw [a3 j hj]; exact hL j hj, get_put⟩, fun h => ?_, fun h => ?_, fun h => ?_⟩
  · rw [setB_ne (by omega), n11] at h; cases h
  · rw [setB_ne (by omega)] at h ⊢
    exact h7 h
  · rw [setB_ne (by omega)] at h
    exact h8 h
/-- it is put into memory -/
theorem NJ.box (h : NJ w0 b1 g n D L E w) (h10 : L 10 = true) (h11 : L 11 = false) : ∃ cs : Array Value, E.get? 21 = some (.agg cs) ∧ NJ w0 b1 g n D (setB L 11) (E.put (some 22) (ptr w.heap.size)) (w.alloc (.cells cs ty_print_printer)) := by
  obtain ⟨f, od, X, h1, h2, h3, h4, h5, h6, h7, h8⟩ := h.hp
  obtain ⟨a1, a2, a3⟩ := NJ.keep (v := ptr w.heap.size) h2 h3 (i := 11) (d := 22) (.inr (.inl rfl)) (.inr (.inl rfl))
  obtain ⟨b1', b2⟩ := h5 h10
  have hX := h8 h11
  subst hX
  refine ⟨_, b2, h.held (.inr (.inl rfl)) (.inr (.inl rfl)), f, od, [.c w.heap.size (nCell g n f) ty_print_printer], h1, a1, a2, ?_, fun _ => ⟨fun j hj => by rw [a3 j hj]; exact b1' j hj, by rw [get_put_ne (by omega)]; exact b2⟩, fun _ => ⟨by rw [setB_ne (by omega)]; exact h10, _, rfl, get_put, fun h => ?_⟩, fun h => ?_, fun h => ?_⟩
  · rw [List.append_nil] at h4
    exact h4.alloc _
  · rw [setB_ne (by omega)] at h
    rw [h7 h] at h11; cases h11
  · exact setB_eq
  · rw [setB_eq] at h; cases h
theorem NJ.asg (h : NJ w0 b1 g n D L E w) (h11 : L 11 = true) : ∃ b, E.get? 22 = some (ptr b) ∧ NJ w0 b1 g n D (setB L 12) (E.put (some 4) (ptr b)) w := by
  obtain ⟨f, od, X, h1, h2, h3, h4, h5, h6, h7, h8⟩ := h.hp
  obtain ⟨h10, b, hX, b2, _⟩ := h6 h11
  obtain ⟨a1, a2, a3⟩ := NJ.keep (v := ptr b) h2 h3 (i := 12) (d := 4) (.inr (.inr rfl)) (.inr (.inr rfl))
  refine ⟨b, b2, h.held (.inr (.inr rfl)) (.inr (.inr rfl)), f, od, X, h1, a1, a2, h4, fun h => ?_, fun _ => ⟨by rw [setB_ne (by omega)]; exact h10, b, hX, by rw [get_put_ne (by omega)]; exact b2, fun _ => get_put⟩, fun _ => by rw [setB_ne (by omega)]; exact h11, fun h => ?_⟩
  · rw [setB_ne (by omega)] at h
    exact ⟨fun j hj => by rw [a3 j hj]; exact (h5 h).1 j hj, by rw [get_put_ne (by omega)]; exact (h5 h).2⟩
  · rw [setB_ne (by omega)] at h
    exact h8 h
/-- when all is done -/
theorem NJ.fin (h : NJ w0 b1 g n D L E w) (hL : ∀ i, i < 13 → L i = true) : ∃ (f : Nat → Nat) (b : Nat), E.get? 1 = some (ptr b1) ∧ E.get? 4 = some (ptr b) ∧ LH F0 w0 w (.c b1 [g.v] ty_term_Graph :: (nAll.map (nEnt n f) ++ [.c b (nCell g n f) ty_print_printer])) D := by
  obtain ⟨f, od, X, h1, h2, h3, h4, h5, h6, h7, h8⟩ := h.hp
  obtain ⟨_, b, hX, _, b3⟩ := h6 (hL 11 (by omega))
  subst hX
  have hp : od.Perm nAll := (List.perm_ext_iff_of_nodup h1 (by decide)).2 fun i => by
    rw [h2]
    exact ⟨fun h => h.1, fun h => ⟨h, hL i (by simp at h; omega)⟩⟩
  exact ⟨f, b, h.st.get (T := nT b1 g n) (i := 0) (by simp [nT]) rfl, b3 (hL 12 (by omega)), LH_perm h4 (((hp.map (nEnt n f)).append_right _).cons _)⟩
end
/-! ### The region -/
section
variable {w0 : World} {b1 n : Nat} {g : Sl} {D : List En}
theorem nw_static {i d : Nat} {v : Value} (hi : i = 1 ∧ d = 12 ∨ i = 3 ∧ d = 14 ∨ i = 5 ∧ d = 16 ∨ i = 8 ∧ d = 19) (hv : v = natV n) : (∀ q ∈ nT b1 g n, q.1 = i + 1 → q = (i + 1, d, v)) ∧ ∀ q ∈ nT b1 g n, q.2.1 = d → q.1 = i + 1 := by
  subst hv
  rcases hi with ⟨rfl, rfl⟩ | ⟨rfl, rfl⟩ | ⟨rfl, rfl⟩ | ⟨rfl, rfl⟩ <;> exact ⟨by simp [nT], by simp [nT]⟩
theorem nw_move {i d : Nat} {deps : List Nat} (hi : i = 1 ∧ d = 12 ∨ i = 3 ∧ d = 14 ∨ i = 5 ∧ d = 16 ∨ i = 8 ∧ d = 19) (T : TypeId) : RowI Tryz.prog (NJ w0 b1 g n D) i (.move (.tmp 3), some d, T, deps) := by
  intro L E w o e1 e2 e3 e4 e5 hJ
  obtain ⟨s1, s2⟩ := nw_static (b1 := b1) (g := g) (n := n) (v := natV n) hi rfl
  refine st_mv (.inl e1) (hJ.st.get (i := 0) (d := 3) (v := natV n) (by simp [nT]) rfl) ?_
  rw [e2]
  exact hJ.stat s1 s2 (by omega) (by omega)
theorem nw_slice {i d t : Nat} {deps : List Nat} {T e : TypeId} {z : Value} {bytes : Nat} (el : ElemOk Tryz.prog T e z 1 bytes) (hz : z.cells = #[z]) (hb : n * bytes ≤ 140737488355328) (hi : i = 2 ∧ t = 12 ∨ i = 4 ∧ t = 14 ∨ i = 6 ∧ t = 16 ∨ i = 9 ∧ t = 19) (hd : d = nDst i) (hj : ∃ j ∈ deps, (j + 1, t, natV n) ∈ nT b1 g n)
    (he : ∀ f, nEnt n f i = .row e 1 (asl n f i) (List.replicate n z)) : RowI Tryz.prog (NJ w0 b1 g n D) i (.makeSlice T (.tmp t) (.tmp t), some d, T, deps) := by
  intro L E w o e1 e2 e3 e4 e5 hJ
  obtain ⟨j, hj1, hj2⟩ := hj
  obtain ⟨w', r1, r2, r3⟩ := make_full el w n hb
  rw [madeCells_one _ _ hz] at r2
  refine st_make e1 (hJ.st.get hj2 (e5 j hj1)) (s := ⟨some (at0 w.heap.size), n, n⟩) r1 ?_
  rw [e2]
  refine hJ.alloc (by simp; omega) e4 r3 (fun f hf => ?_) (fun f hf => ?_) hd
  · rw [he]
    unfold asl
    rw [hf]
    exact ⟨r2, fun b hb => by
      have hb : b ∈ [w.heap.size] := hb
      simp at hb
      omega⟩
  · unfold nVal asl
    rw [if_neg (by omega), hf]
theorem nw_region {c : Code} (ht : (Code.ops c).toList.map rowOf = nwTab) {K : Env → World → Prop} {E : Env} {w : World} (hn : n ≤ 1000000) (h1 : E.get? 1 = some (ptr b1)) (h3 : E.get? 3 = some (natV n)) (H : LH F0 w0 w [.c b1 [g.v] ty_term_Graph] D)
    (hK : ∀ f b E' w', E'.get? 1 = some (ptr b1) → E'.get? 4 = some (ptr b) → LH F0 w0 w' (.c b1 [g.v] ty_term_Graph :: (nAll.map (nEnt n f) ++ [.c b (nCell g n f) ty_print_printer])) D → K E' w') : igK Tryz.prog c K E w := by
  refine ig_tab nwTab ht (NJ w0 b1 g n D) ⟨fun q hq he => ?_, ⟨fun _ => 0, [], [], ?_⟩⟩ ?_ (fun L E' w' hL hJ => ?_)
  · simp only [nT, List.mem_cons, List.not_mem_nil, or_false] at hq
    rcases hq with rfl | rfl | rfl | rfl | rfl | rfl | rfl <;> first | exact h1 | exact h3 | (simp at he)
  · exact ⟨List.nodup_nil, fun i => by simp, fun i hi => (by simp at hi), H.drew, fun h => Bool.noConfusion h, fun h => Bool.noConfusion h, fun h => Bool.noConfusion h, fun _ => rfl⟩
  · refine ⟨?_, nw_move (.inl ⟨rfl, rfl⟩) _, nw_slice el_str rfl (by omega) (.inl ⟨rfl, rfl⟩) rfl ⟨1, by simp, by simp [nT]⟩ (fun f => by unfold nEnt; rw [if_pos rfl, List.map_replicate]), nw_move (.inr (.inl ⟨rfl, rfl⟩)) _, nw_slice el_ints rfl (by omega) (.inr (.inl ⟨rfl, rfl⟩)) rfl ⟨3, by simp, by simp [nT]⟩ (fun f => by unfold nEnt; rw [if_neg (by omega), if_pos (by omega), List.map_replicate]; rfl),
      nw_move (.inr (.inr (.inl ⟨rfl, rfl⟩))) _, nw_slice el_ints rfl (by omega) (.inr (.inr (.inl ⟨rfl, rfl⟩))) rfl ⟨5, by simp, by simp [nT]⟩ (fun f => by unfold nEnt; rw [if_neg (by omega), if_pos (by omega), List.map_replicate]; rfl), ?_, nw_move (.inr (.inr (.inr ⟨rfl, rfl⟩))) _, nw_slice el_bool rfl (by omega) (.inr (.inr (.inr ⟨rfl, rfl⟩))) rfl ⟨8, by simp, by simp [nT]⟩ (fun f => by unfold nEnt; rw [if_neg (by omega), if_neg (by omega), if_neg (by omega)]; show En.row ty_bool 1 _ ((List.replicate n false).map Value.bool) = _; rw [List.map_replicate]), ?_, ?_, ?_, trivial⟩
    · intro L E w o e1 e2 e3 e4 e5 hJ
      have hc : w.cell? ((at0 b1).add 0) = some g.v := by
        obtain ⟨f, od, X, _, _, _, h4, _⟩ := hJ.hp
        exact h4.ld 0 0
      refine st_ld (p := at0 b1) e1 (hJ.st.get (i := 0) (d := 1) (v := ptr b1) (by simp [nT]) rfl) (mp (show ∃ s : Sl, w.cell? ((at0 b1).add 0) = some s.v ∧ NJ w0 b1 g n D (setB L 0) (E.put o.dst (.agg #[s.v])) w from ⟨g, hc, ?_⟩))
      rw [e2]
      exact hJ.stat (by simp [nT]) (by simp [nT]) (by omega) (by omega)
    · intro L E w o e1 e2 e3 e4 e5 hJ
      refine st_map e1 ?_
      rw [e2]
      refine hJ.alloc (by simp) e4 (Fr.alloc _ _ _) (fun f hf => ?_) (fun f hf => ?_) rfl
      · unfold nEnt
        rw [if_neg (by omega), if_neg (by omega), if_pos rfl, hf]
        exact ⟨heap_new w _, fun b hb => by simp [En.ob] at hb; omega⟩
      · unfold nVal
        rw [if_pos rfl, hf]
    · intro L E w o e1 e2 e3 e4 e5 hJ
      obtain ⟨f, k1, k2, k3, k4, k5, hJ'⟩ := hJ.bld (fun i hi => e5 i (by simp at hi ⊢; omega)) e4
      refine st_bld e1 (hJ.st.get (i := 1) (d := 11) (v := .agg #[g.v]) (by simp [nT]) (e5 0 (by simp))) k1 k2 k3 k4 k5 ?_
      rw [e2]
      exact hJ'
    · intro L E w o e1 e2 e3 e4 e5 hJ
      obtain ⟨cs, k1, hJ'⟩ := hJ.box (e5 10 (by simp)) e4
      refine st_box e1 k1 ?_
      rw [e2]
      exact hJ'
    · intro L E w o e1 e2 e3 e4 e5 hJ
      obtain ⟨b, k1, hJ'⟩ := hJ.asg (e5 11 (by simp))
      refine st_mv (.inr e1) k1 ?_
      rw [e2]
      exact hJ'
  · obtain ⟨f, b, k1, k2, H'⟩ := hJ.fin hL
    exact hK f b E' w' k1 k2 H'
end
end Go.Proofs.YtibaobaobnpdaaaGreatDoor
set_option maxRecDepth 100000
set_option maxHeartbeats 1000000
namespace Go.Proofs.YtibaobaobnpdaaaGreatDoor
open Go Go.W

/-! ### The printer as one thing of one's own -/
theorem PrRep.lt {w : World} {b : Nat} {g : Sl} {mr : Option Nat × Sl} {hs : List ByteArray} {ls ds : List Nat} {own : List Nat} (h : PrRep w b g mr hs ls ds own) : ∀ x ∈ own, x < w.heap.size := by
  obtain ⟨sh, sl, sd, ho, hn, hP⟩ := h
  intro x hx
  rw [ho] at hx
  obtain ⟨e, he, hx⟩ := List.mem_flatMap.1 hx
  exact e.lt w (hP e he) x hx
theorem PrRep.st {w w' : World} {b : Nat} {g : Sl} {mr : Option Nat × Sl} {hs : List ByteArray} {ls ds : List Nat} {own : List Nat} (h : PrRep w b g mr hs ls ds own) (k : ∀ x ∈ own, x < w.heap.size → w'.heap[x]? = w.heap[x]?) : PrRep w' b g mr hs ls ds own := by
  obtain ⟨sh, sl, sd, ho, hn, hP⟩ := h
  exact ⟨sh, sl, sd, ho, hn, fun e he => e.st w w' (fun b hb hl => k b (by rw [ho]; exact List.mem_flatMap.2 ⟨e, he, hb⟩) hl) (hP e he)⟩
def _root_.Go.W.En.pr (b : Nat) (own : List Nat) (g : Sl) (mr : Option Nat × Sl) (hs : List ByteArray) (ls ds : List Nat) : En := ⟨nub own, fun w => PrRep w b g mr hs ls ds own, fun w w' h hp => hp.st fun b hb => h b (mem_nub.2 hb), fun w hp b hb => hp.lt b (mem_nub.1 hb), nub_nodup _⟩
section
variable {M : Nat → Prop} {w0 w : World} {L D A B : List En}
theorem _root_.Go.W.LH.group (H : LH M w0 w (A ++ B) D) (e : En) (hP : e.P w) (hfp : ∀ x ∈ e.fp, x ∈ B.flatMap (·.fp)) : LH M w0 w (A ++ [e]) D := by
  have hnd := H.nd
  rw [List.flatMap_append, List.nodup_append] at hnd
  refine ⟨H.fr, fun x hx => ?_, H.rd, fun x hx y hy => ?_, ?_, fun d hd x hx e' he' hm => ?_⟩
  · rcases List.mem_append.1 hx with hx | hx
    · exact H.own x (List.mem_append_left _ hx)
    · rw [List.mem_singleton.1 hx]; exact hP
  · rcases List.mem_append.1 hx with hx | hx
    · exact H.new x (List.mem_append_left _ hx) y hy
    · rw [List.mem_singleton.1 hx] at hy
      obtain ⟨e', he', hy'⟩ := List.mem_flatMap.1 (hfp y hy)
      exact H.new e' (List.mem_append_right _ he') y hy'
  · rw [List.flatMap_append, List.nodup_append]
    refine ⟨hnd.1, by simpa using e.nd, fun a ha b hb => hnd.2.2 a ha b (hfp b (by simpa using hb))⟩
  · rcases List.mem_append.1 he' with he' | he'
    · exact H.dj d hd x hx e' (List.mem_append_left _ he') hm
    · rw [List.mem_singleton.1 he'] at hm
      obtain ⟨e'', he'', hm'⟩ := List.mem_flatMap.1 (hfp x hm)
      exact H.dj d hd x hx e'' (List.mem_append_right _ he'') hm'
theorem pr_make {b1 b n : Nat} {g : Sl} {f : Nat → Nat} (H : LH M w0 w (.c b1 [g.v] ty_term_Graph :: (nAll.map (nEnt n f) ++ [.c b (nCell g n f) ty_print_printer])) D) :
    ∃ own, LH M w0 w [.c b1 [g.v] ty_term_Graph, .pr b own g (some (f 7), asl n f 9) (List.replicate n (ByteArray.mk #[])) (List.replicate n 0) (List.replicate n 0), .ob (f 7) (.map #[] 0), boolR (asl n f 9) (List.replicate n false)] D := by
  have H1 : LH M w0 w ([.c b1 [g.v] ty_term_Graph] ++ ([.c b (nCell g n f) ty_print_printer] ++ nAll.map (nEnt n f))) D := LH_perm H (List.perm_append_comm.cons _)
  have H2 : LH M w0 w ([.c b1 [g.v] ty_term_Graph] ++ (PrL b g (asl n f 2) (asl n f 4) (asl n f 6) (some (f 7)) (asl n f 9) (List.replicate n (ByteArray.mk #[])) (List.replicate n 0) (List.replicate n 0) ++ [.ob (f 7) (.map #[] 0), boolR (asl n f 9) (List.replicate n false)])) D := H1
  have H3 : LH M w0 w (([.c b1 [g.v] ty_term_Graph] ++ [.ob (f 7) (.map #[] 0), boolR (asl n f 9) (List.replicate n false)]) ++ PrL b g (asl n f 2) (asl n f 4) (asl n f 6) (some (f 7)) (asl n f 9) (List.replicate n (ByteArray.mk #[])) (List.replicate n 0) (List.replicate n 0)) D := LH_perm H2 (by
    rw [List.append_assoc]
    exact List.perm_append_comm.append_left _)
  have hnd := H3.nd
  rw [List.flatMap_append, List.nodup_append] at hnd
  have H4 := H3.group (.pr b _ g (some (f 7), asl n f 9) _ _ _) ⟨_, _, _, rfl, hnd.2.1, fun e he => H3.own e (List.mem_append_right _ he)⟩ fun x hx => mem_nub.1 hx
  have hp : ∀ a x y p : En, List.Perm ([a] ++ [x, y] ++ [p]) [a, p, x, y] := fun a x y p => (List.perm_append_comm (l₁ := [x, y]) (l₂ := [p])).cons a
  exact ⟨_, LH_perm H4 (hp _ _ _ _)⟩
/-- a method of the printer -/
theorem _root_.Go.W.LH.prC (H : LH M w0 w L D) (i : Nat) {b : Nat} {own : List Nat} {g : Sl} {mr : Option Nat × Sl} {hs hs' : List ByteArray} {ls ds ls' ds' : List Nat} {P : Program} {f : FuncId} {args : Array Value} {A : Ending → Prop} {K : Post} (hi : L[i]? = some (.pr b own g mr hs ls ds)) (hc : Calls P f args w fun r w' => A r ∧ PrAt w b g mr own hs' ls' ds' w')
    (hk : ∀ r w' own', A r → LH M w0 w' (L.set i (.pr b own' g mr hs' ls' ds')) D → K r w') : Calls P f args w K :=
  hc.mono fun r w' ⟨ha, own', hr, hf, ho⟩ => hk r w' own' ha (H.upd i (.pr b own' g mr hs' ls' ds') hi (hf.mono fun x _ hx => mem_nub.2 hx) hr fun b hb => (ho b (mem_nub.1 hb)).imp mem_nub.2 id)
end
/-- the head of a node is stored -/
theorem pr_head {w : World} {b : Nat} {g : Sl} {mr : Option Nat × Sl} {hs : List ByteArray} {ls ds : List Nat} {own : List Nat} (h : PrRep w b g mr hs ls ds own) {i : Nat} (hi : i < hs.length) :
    ∃ (sh : Sl) (q : Addr), sh.a = some q ∧ (i : Int) < ((sh.n : Nat) : Int) ∧ w.cell? ((at0 b).add 1) = some sh.v ∧ ∀ w1, Fr0 w w1 → w1.cell? ((at0 b).add 1) = some sh.v ∧ ∀ (t : ByteArray) (K : World → Prop), (∀ w2, PrAt w1 b g mr own (hs.set i t) ls ds w2 → K w2) → stV w1 (q.add i) (.string t) K := by
  obtain ⟨sh, sl, sd, ho, hn, hP⟩ := h
  have hc : (En.c b [g.v, sh.v, sl.v, sd.v, .map mr.1, mr.2.v] ty_print_printer).P w := hP _ (List.mem_of_getElem? (i := 0) rfl)
  have hr : OwnRow w ty_string 1 sh (hs.map Value.string) := hP _ (List.mem_of_getElem? (i := 1) rfl)
  obtain ⟨_, r2, r3⟩ := row_at hr rfl (v := .string hs[i]) (i := i) (by simp [hi]) (K := fun q => sh.a = some q) (fun p hp _ => hp)
  obtain ⟨q, hq, _⟩ := optP_elim r3
  refine ⟨sh, q, hq, r2, cellAt (p := at0 b) hc rfl rfl, fun w1 f => ?_⟩
  have hP1 : ∀ e ∈ PrL b g sh sl sd mr.1 mr.2 hs ls ds, e.P w1 := fun e he => e.st w w1 (fun b _ hl => f.keep b hl id) (hP e he)
  have hc1 : (En.c b [g.v, sh.v, sl.v, sd.v, .map mr.1, mr.2.v] ty_print_printer).P w1 := hP1 _ (List.mem_of_getElem? (i := 0) rfl)
  refine ⟨cellAt (p := at0 b) hc1 rfl rfl, fun t K hK => ?_⟩
  have H : LH (· ∈ own) w1 w1 (PrL b g sh sl sd mr.1 mr.2 hs ls ds) [] := LH.start' _ _ (fun e he => ⟨hP1 e he, fun x hx => by rw [ho]; exact List.mem_flatMap.2 ⟨e, he, hx⟩⟩) (ho ▸ hn) (by simp)
  refine st_plain (H.st1 (bs := []) 1 i rfl hq (by simpa using hi) (fun w2 H2 => hK w2 ?_) (by simp))
  rw [← List.map_set] at H2
  exact PrRep.close H2
/-! ### The words of the operations -/
def wordL : List (Int × List UInt8) := [(4, [110, 111, 116]), (5, [110, 101, 103]), (6, [97, 110, 100]), (7, [111, 114]), (8, [120, 111, 114]), (9, [97, 100, 100]), (10, [109, 117, 108]), (11, [117, 100, 105, 118]), (12, [117, 114, 101, 109]), (13, [115, 104, 108]), (14, [108, 115, 104, 114]), (15, [97, 115, 104, 114]), (16, [117, 108, 116]), (17, [115, 108, 116]), (18, [101, 113]), (19, [105, 116, 101]), (20, [99, 111, 110, 99, 97, 116]), (21, [101, 120, 116, 114, 97, 99, 116]), (22, [122, 101, 120, 116]), (23, [115, 101, 120, 116]), (24, [115, 101, 108, 101, 99, 116]), (25, [115, 116, 111, 114, 101]), (26, [100, 105, 102, 102]), (27, [108, 101, 110]), (28, [98, 121, 116, 101]), (29, [99, 97, 116]), (30, [115, 117, 98]), (31, [102, 105, 110, 100]), (32, [114, 101, 112, 108, 97, 99, 101]), (33, [105, 110]), (34, [99, 104, 97, 114])]
def wordsM : List (Int × Value) := wordL.map fun p => (p.1, .string ⟨p.2.toArray⟩)
theorem mo_words : MapOk Tryz.prog ty_map_int_string ty_int ty_string .i64 (.string (ByteArray.mk #[])) := ⟨by kernel_rfl, by kernel_rfl, by kernel_rfl⟩
theorem w_put {w0 w : World} {m : Nat} {es : Array MapEntry} {clock : Nat} {ms : List (Int × Value)} (H : LH F0 w0 w [.ob m (.map es clock)] []) (hm : MapIs .i64 es ms) {k : Int} {v : Value} (hno : mget ms k = none) {K : World → Prop}
    (hK : ∀ w' es' c', LH F0 w0 w' [.ob m (.map es' c')] [] → MapIs .i64 es' (ms ++ [(k, v)]) → K w') : ∃ w', Sem.run Tryz.prog (Instr.mapUpdate ty_map_int_string (.map (some m)) (.i k) v) w = .ok () w' ∧ K w' := by
  obtain ⟨w', es', r1, r2, r3, r4, r5⟩ := mapUpdate_new mo_words (H.ob 0) hm k v hno
  exact ⟨w', r1, hK w' es' _ (H.upd 0 (.ob m (.map es' (clock + 1))) rfl (r4.mono fun x _ e => by simp [En.ob, e]) r2 fun b hb => .inl hb) r3⟩
theorem nw_ob {M : Nat → Prop} {w0 w : World} {L D : List En} (H : LH M w0 w L D) {o : Obj} {K : World → Prop} (hK : ∀ w', LH M w0 w' (L ++ [.ob w.heap.size o]) D → K w') : nwV w o K := hK _ (H.alloc o)
theorem c_words (w : World) : Calls Tryz.prog n_print_operationWords #[] w fun r w' => (∃ m es c, r = .returned (.map (some m)) ∧ w.heap.size ≤ m ∧ w'.heap[m]? = some (.map es c) ∧ MapIs .i64 es wordsM) ∧ Fr0 w w' := by
  refine print_operationWords.ok w _ (nw_ob (lh0 [] (by simp)) fun w1 H => ?_)
  have hm : MapIs .i64 #[] [] := rfl
  iterate 31 (refine w_put H hm ?_ ?_; rfl; clear H hm; intro w1 es c H hm)
  exact ⟨⟨_, es, c, rfl, Nat.le_refl _, H.ob 0, hm⟩, H.fr⟩
/-! ### Plain: the rows of a graph -/
theorem snoc_ind {α : Type} {p : List α → Prop} (h0 : p []) (h1 : ∀ l a, p l → p (l ++ [a])) (l : List α) : p l := by
  have : ∀ r : List α, p r.reverse := fun r => by
    induction r with
    | nil => exact h0
    | cons a r ih => rw [List.reverse_cons]; exact h1 _ _ ih
  simpa using this l.reverse
section
variable (hd : Nx → ByteArray)
def lnsX (g : List Nx) : List Nat := g.foldl (fun ls n => ls ++ [len1 (hd n) n.kids ls]) []
def dpsX (g : List Nx) : List Nat := g.foldl (fun ds n => ds ++ [dep1 n.op n.kids ds]) []
theorem lns_snoc (g : List Nx) (n : Nx) : lnsX hd (g ++ [n]) = lnsX hd g ++ [len1 (hd n) n.kids (lnsX hd g)] := by unfold lnsX; rw [List.foldl_append]; rfl
theorem dps_snoc (g : List Nx) (n : Nx) : dpsX (g ++ [n]) = dpsX g ++ [dep1 n.op n.kids (dpsX g)] := by unfold dpsX; rw [List.foldl_append]; rfl
theorem lns_ok : ∀ g : List Nx, (lnsX hd g).length = g.length ∧ ∀ x ∈ lnsX hd g, x ≤ 65537 := by
  refine snoc_ind ⟨rfl, by simp [lnsX]⟩ fun g n ih => ?_
  rw [lns_snoc]
  refine ⟨by simp [ih.1], fun x hx => ?_⟩
  rcases List.mem_append.1 hx with hx | hx
  · exact ih.2 x hx
  · rw [List.mem_singleton.1 hx]; exact cap_le _
theorem dps_ok : ∀ g : List Nx, (dpsX g).length = g.length ∧ ∀ x ∈ dpsX g, x ≤ g.length := by
  refine snoc_ind ⟨rfl, by simp [dpsX]⟩ fun g n ih => ?_
  rw [dps_snoc]
  refine ⟨by simp [ih.1], fun x hx => ?_⟩
  rw [List.length_append, List.length_singleton]
  rcases List.mem_append.1 hx with hx | hx
  · have := ih.2 x hx; omega
  · rw [List.mem_singleton.1 hx]
    have := maxK_le ih.2 n.kids
    unfold dep1
    split
    · omega
    · split <;> omega
end
theorem atN_app {A B : List Nat} {k : Int} (h : 0 ≤ k ∧ k < (A.length : Int)) : atN (A ++ B) k = atN A k := by
  unfold atN
  rw [List.getD_eq_getElem?_getD, List.getD_eq_getElem?_getD, List.getElem?_append_left (by omega)]
theorem rows_app {A B : List Nat} {kids : List Int} (h : ∀ k ∈ kids, 0 ≤ k ∧ k < (A.length : Int)) : sumK (A ++ B) kids = sumK A kids ∧ maxK (A ++ B) kids = maxK A kids := by
  unfold sumK maxK
  rw [List.map_congr_left fun k hk => atN_app (h k hk)]
  exact ⟨rfl, rfl⟩
theorem set_rep {α : Type} {A : List α} {z x : α} {i m : Nat} (h : A.length = i) : (A ++ List.replicate (m + 1) z).set i x = (A ++ [x]) ++ List.replicate m z := by
  subst h
  rw [List.replicate_succ, List.set_append_right _ _ (Nat.le_refl _), Nat.sub_self]
  simp
section
variable {M : Nat → Prop} {w0 w : World} {L D : List En}
theorem _root_.Go.W.LH.st9 (H : LH M w0 w L D) (i : Nat) {b : Nat} {a0 a1 a2 a3 a4 a5 a6 a7 a8 : Value} {T : TypeId} {v0 v1 v2 v3 v4 v5 v6 v7 v8 : Value} {K : World → Prop} (hi : L[i]? = some (.c b [a0, a1, a2, a3, a4, a5, a6, a7, a8] T)) (hK : ∀ w', LH M w0 w' (L.set i (.c b [v0, v1, v2, v3, v4, v5, v6, v7, v8] T)) D → K w') :
    stW9 w (at0 b) v0 v1 v2 v3 v4 v5 v6 v7 v8 K := by
  have hl := (List.getElem?_eq_some_iff.1 hi).1
  exact H.st0 i hi (fun w1 H1 => H1.st (vs := [v0, a1, a2, a3, a4, a5, a6, a7, a8]) (T := T) i 1 (by simp [hl]) (fun w2 H2 => H2.st (vs := [v0, v1, a2, a3, a4, a5, a6, a7, a8]) (T := T) i 2 (by simp [hl]) (fun w3 H3 => H3.st (vs := [v0, v1, v2, a3, a4, a5, a6, a7, a8]) (T := T) i 3 (by simp [hl]) (fun w4 H4 => H4.st (vs := [v0, v1, v2, v3, a4, a5, a6, a7, a8]) (T := T) i 4 (by simp [hl]) (fun w5 H5 => H5.st (vs := [v0, v1, v2, v3, v4, a5, a6, a7, a8]) (T := T) i 5 (by simp [hl]) (fun w6 H6 => H6.st (vs := [v0, v1, v2, v3, v4, v5, a6, a7, a8]) (T := T) i 6 (by simp [hl]) (fun w7 H7 => H7.st (vs := [v0, v1, v2, v3, v4, v5, v6, a7, a8]) (T := T) i 7 (by simp [hl]) (fun w8 H8 => H8.st (vs := [v0, v1, v2, v3, v4, v5, v6, v7, a8]) (T := T) i 8 (by simp [hl]) (fun w9 H9 => hK w9 (by simpa using H9))))))))))
end
/-! ### The contract -/
/-- the head of a node is as a plain function says -/
def HdOk (hd : Nx → ByteArray) (d : Nd) : Prop := ∀ (w : World) (m : Nat) (es : Array MapEntry) (c : Nat), w.heap[m]? = some (.map es c) → MapIs .i64 es wordsM → Calls Tryz.prog n_print_nodeHead #[d.v, .map (some m)] w fun r w' => r = .returned (.string (hd d.x)) ∧ Fr0 w w'
/-- what is asked of a graph that is printed -/
structure PtOk (hd : Nx → ByteArray) (l : List Nd) : Prop where
  hdo : ∀ d ∈ l, HdOk hd d
  kids : ∀ (i : Nat) (d : Nd), l[i]? = some d → ∀ k ∈ d.x.kids, 0 ≤ k ∧ k < (i : Int)
  zero : ∀ d ∈ l, d.x.op = 3 → d.x.kids = []
  few : ∀ d ∈ l, d.x.kids.length ≤ 1000
  size : ∀ d ∈ l, (hd d.x).size ≤ 100000
  len : l.length ≤ 10000
/-- what newPrinter returns -/
def NewPr (w : World) (s : Sl) (l : List Nd) (hd : Nx → ByteArray) (r : Ending) (w' : World) : Prop := ∃ (b m : Nat) (sr : Sl) (own : List Nat), r = .returned (ptr b) ∧ LH F0 w w' [.pr b own s (some m, sr) ((xs l).map hd) (lnsX hd (xs l)) (dpsX (xs l)), .ob m (.map #[] 0), boolR sr (List.replicate l.length false)] []
theorem c_newX {w : World} {s : Sl} {l : List Nd} {hd : Nx → ByteArray} (h : GP w s l) (ho : PtOk hd l) :
    Calls Tryz.prog n_print_newPrinter #[.agg #[s.v]] w (NewPr w s l hd) := by
  have hn := gr_n h
  have hlen := ho.len
  have H : LH F0 w w [] [.gr s l] := lh0 _ (by
    intro e he
    simp only [List.mem_cons, List.not_mem_nil, or_false] at he
    subst he
    exact gr_P.2 h)
  have loop : ∀ (m i b1 b mp c q : Nat) (sr : Sl) (es : Array MapEntry) (own : List Nat) (w1 : World), i + m = l.length → MapIs .i64 es wordsM →
      LH F0 w w1 [.c b1 [s.v] ty_term_Graph, .pr b own s (some q, sr) ((xs (l.take i)).map hd ++ List.replicate m (ByteArray.mk #[])) (lnsX hd (xs (l.take i)) ++ List.replicate m 0) (dpsX (xs (l.take i)) ++ List.replicate m 0), .ob q (.map #[] 0), boolR sr (List.replicate l.length false), .ob mp (.map es c)] [.gr s l] →
      print_newPrinter.L1 (some (at0 b)) (some mp) s ((s.n : Nat) : Int) (i : Int) w1 (NewPr w s l hd) := by
    intro m
    induction m with
    | zero =>
      intro i b1 b mp c qm sr es own w1 hi hm H1
      refine print_newPrinter.L1_step _ _ _ _ _ _ _ (sel_false (decide_eq_false (by omega)) ⟨b, qm, sr, own, rfl, ?_⟩)
      rw [List.take_of_length_le (by omega), List.replicate_zero, List.replicate_zero, List.append_nil, List.append_nil, List.append_nil] at H1
      exact (((LH_perm H1 (List.perm_append_comm (l₁ := [En.c b1 [s.v] ty_term_Graph]))).take 3).forget [] (by simp))
    | succ m ih =>
      intro i b1 b mp c qm sr es own w1 hi hm H1
      have ga : l[i]? = some (l[i]'(by omega)) := List.getElem?_eq_getElem (by omega)
      generalize l[i]'(by omega) = d at ga
      have hdm := List.mem_of_getElem? ga
      have hlt : (xs (l.take i)).length = i := by simp [xs]; omega
      have l1 := lns_ok hd (xs (l.take i))
      have l2 := dps_ok (xs (l.take i))
      have et : xs (l.take (i + 1)) = xs (l.take i) ++ [d.x] := by rw [List.take_add_one, ga]; simp [xs]
      refine print_newPrinter.L1_step _ _ _ _ _ _ _ (sel_true (decide_eq_true (by omega)) (gr_at (gr_P.1 (H1.getD 0)) rfl ga fun p hp c' => ⟨d.x.op, d.ks, d.x.n, d.x.m, d.x.u, d.x.tx, d.x.st.k, d.x.st.n, d.x.st.x, c'.c0, c'.c1, c'.c2, c'.c3, c'.c4, c'.c5, c'.c6, c'.c7, c'.c8, H1.nw fun w2 hs2 H2 => H2.st9 5 rfl fun w3 H3 => H3.dr fun w4 H4 => ?_⟩))
      obtain ⟨sh, q, hq, r2, hc, hst⟩ := pr_head (H4.get 1) (i := i) (by rw [List.length_append, List.length_map, hlt, List.length_replicate]; omega)
      refine ⟨sh, hc, d.x.op, d.ks, d.x.n, d.x.m, d.x.u, d.x.tx, d.x.st.k, d.x.st.n, d.x.st.x, H4.ld 5 0, H4.ld 5 1, H4.ld 5 2, H4.ld 5 3, H4.ld 5 4, H4.ld 5 5, H4.ld 5 6, H4.ld 5 7, H4.ld 5 8, (ho.hdo d hdm w4 mp es c (H4.ob 4) hm).mono ?_⟩
      rintro _ w5 ⟨rfl, f5⟩
      have H5 := H4.fr0 f5
      obtain ⟨hc5, hst⟩ := hst w5 f5
      refine ⟨_, rfl, hc5, by omega, r2, ?_⟩
      rw [hq]
      refine optP_mk ?_
      rw [Int.toNat_natCast, Nat.mul_one]
      refine hst _ _ fun w6 hw6 => ?_
      obtain ⟨own6, hr6, hf6, ho6⟩ := hw6
      have H6 := H5.upd 1 (.pr b own6 s _ _ _ _) rfl (hf6.mono fun x _ hx => mem_nub.2 hx) hr6 fun b hb => (ho6 b (mem_nub.1 hb)).imp mem_nub.2 id
      rw [set_rep (by rw [List.length_map, hlt])] at H6
      have hkids : (kidE d).P w6 := (gr_P.1 (H6.getD 0)).2 d hdm
      have hoff : ∀ x ∈ (kidE d).fp, x ∉ own6 := fun x hx hm => H6.dj (.gr s l) (by simp) x (gr_fp.2 (.inr ⟨d, hdm, hx⟩)) (.pr b own6 s _ _ _ _) (List.mem_of_getElem? (i := 1) rfl) (mem_nub.2 hm)
      have hk := ho.kids i d ga
      refine ⟨d.x.op, d.ks, d.x.n, d.x.m, d.x.u, d.x.tx, d.x.st.k, d.x.st.n, d.x.st.x, H6.ld 5 0, H6.ld 5 1, H6.ld 5 2, H6.ld 5 3, H6.ld 5 4, H6.ld 5 5, H6.ld 5 6, H6.ld 5 7, H6.ld 5 8, H6.prC 1 rfl (c_measure (i := i) (t := hd d.x) (H6.get 1) hkids hoff (fun k hk' => ⟨(hk k hk').1, by have := (hk k hk').2; simp only [List.length_append, List.length_map, List.length_replicate, List.length_singleton, l1.1, l2.1, hlt]; omega⟩) ?_ ?_ ?_ ?_ (ho.zero d hdm) (by have := ho.size d hdm; omega) (ho.few d hdm) ?_ ?_) ?_⟩
      · rw [List.append_assoc, List.getElem?_append_right (by rw [List.length_map, hlt]; exact Nat.le_refl _), List.length_map, hlt, Nat.sub_self]
        rfl
      · simp only [List.length_append, List.length_map, List.length_replicate, List.length_singleton, l1.1, l2.1, hlt]; omega
      · simp only [List.length_append, List.length_map, List.length_replicate, List.length_singleton, l1.1, l2.1, hlt]; omega
      · rw [List.getElem?_append_right (by rw [l2.1, hlt]; exact Nat.le_refl _), l2.1, hlt, Nat.sub_self]
        rfl
      · intro x hx
        rcases List.mem_append.1 hx with hx | hx
        · exact l1.2 x hx
        · rw [(List.mem_replicate.1 hx).2]; omega
      · intro x hx
        rcases List.mem_append.1 hx with hx | hx
        · have := l2.2 x hx
          omega
        · rw [(List.mem_replicate.1 hx).2]; omega
      rintro _ w7 own7 rfl H7
      refine ⟨rfl, ?_⟩
      rw [i64_next _ (by omega)]
      refine ih (i + 1) b1 b mp c qm sr es own7 w7 (by omega) hm ?_
      have k1 : ∀ k ∈ d.x.kids, 0 ≤ k ∧ k < ((lnsX hd (xs (l.take i))).length : Int) := fun k hk' => by rw [l1.1, hlt]; exact hk k hk'
      have k2 : ∀ k ∈ d.x.kids, 0 ≤ k ∧ k < ((dpsX (xs (l.take i))).length : Int) := fun k hk' => by rw [l2.1, hlt]; exact hk k hk'
      rw [et, lns_snoc, dps_snoc, List.map_append]
      rw [set_rep (by rw [l1.1, hlt]), set_rep (by rw [l2.1, hlt])] at H7
      unfold len1 dep1 at H7 ⊢
      rw [(rows_app k1).1, (rows_app k2).2] at H7
      exact H7.take 5
  refine print_newPrinter.ok _ w _ (H.nw fun w1 hs1 H1 => ⟨s, H1.ld 0 0, ?_⟩)
  refine nw_region (w0 := w) (b1 := w.heap.size) (n := l.length) (g := s) (D := [.gr s l]) (by kernel_rfl) (by omega) rfl (by rw [hn]; rfl) H1 fun f b E' w2 e1 e4 H2 => ?_
  obtain ⟨own, H3⟩ := pr_make H2
  show W.asRef (Env.get? E' 1) fun g1 => W.asPtr (Env.get? E' 4) fun p4 => print_newPrinter.S0 g1 p4 w2 _
  rw [e1, e4]
  refine (c_words w2).mono ?_
  rintro _ w3 ⟨⟨mp, es, c, rfl, hmp, hob, hm⟩, f3⟩
  have H4 := H3.push (.ob mp (.map es c)) f3 hob fun b hb => by simp [En.ob] at hb; omega
  exact ⟨_, rfl, s, H4.ld 0 0, loop l.length 0 _ b mp c _ _ es own w3 (by omega) hm H4⟩
theorem c_new {w : World} {s : Sl} {l : List Nd} {hd : Nx → ByteArray} (h : GP w s l) (ho : PtOk hd l) :
    Calls Tryz.prog n_print_newPrinter #[.agg #[s.v]] w fun r w' => (∃ b mr own, r = .returned (ptr b) ∧ PrRep w' b s mr ((xs l).map hd) (lnsX hd (xs l)) (dpsX (xs l)) own ∧ ∀ x ∈ own, w.heap.size ≤ x) ∧ Fr0 w w' :=
  (c_newX h ho).mono fun r w' ⟨b, m, sr, own, hr, H⟩ => ⟨⟨b, _, own, hr, H.get 0, fun x hx => (H.new _ (List.mem_of_getElem? (i := 0) rfl) x (mem_nub.2 hx)).resolve_right id⟩, H.fr⟩
end Go.Proofs.YtibaobaobnpdaaaGreatDoor
set_option maxRecDepth 100000
set_option maxHeartbeats 1000000
namespace Go.Proofs.YtibaobaobnpdaaaGreatDoor
open Go Go.W

def vldG : List Nx → List Nx → Int
  | _, [] => 0
  | g, n :: r => if (srtX g n).2 ≠ 0 then (srtX g n).2 else if (srtX g n).1 ≠ n.st then 9 else if n ∈ g then 8 else vldG (g ++ [n]) r
theorem vldG_cons (g : List Nx) (n : Nx) (r : List Nx) : vldG g (n :: r) = if (srtX g n).2 ≠ 0 then (srtX g n).2 else if (srtX g n).1 ≠ n.st then 9 else if n ∈ g then 8 else vldG (g ++ [n]) r := rfl
/-- what is wrong with a graph -/
def vldX (g : List Nx) : Int := if 4096 < g.length then 4 else vldG [] g
theorem find_mem {g : List Nx} {n : Nx} : (findB g n).2 = decide (n ∈ g) := by
  unfold findB
  cases hi : idxX n g 0 with
  | none => exact (decide_eq_false (idx_none hi)).symm
  | some i => exact (decide_eq_true (List.mem_of_getElem? (idx_some hi).2)).symm
theorem t_Valid {w : World} {s : Sl} {l : List Nd} (h : GP w s l) (hk : kcE.P w) (hT : l.length ≤ 4096 → ∀ d ∈ l, TOk d.x ∧ WdN d.x) :
    Calls Tryz.prog n_term_Valid #[.agg #[s.v]] w fun r w' => r = .returned (.i (vldX (xs l))) ∧ Fr0 w w' := by
  have hn := gr_n h
  have hxl : (xs l).length = l.length := by simp [xs]
  have H : LH F0 w w [] [.gr s l, kcE] := lh0 _ (by
    intro e he
    simp only [List.mem_cons, List.not_mem_nil, or_false] at he
    rcases he with rfl | rfl
    · exact gr_P.2 h
    · exact hk)
  refine term_Valid.okT s w _ (H.newg fun b1 w1 H1 => sel_dec (fun hbig => ⟨by unfold vldX; rw [if_pos (by omega)], H1.fr⟩) (fun hbig => ?_))
  have hT := hT (by omega)
  have hvl : vldX (xs l) = vldG [] (xs l) := by unfold vldX; rw [if_neg (by omega)]
  rw [hvl]
  have loop : ∀ (m i b1 bb : Nat) (own : List Nat) (w1 : World), i + m = l.length → Vg ((xs l).take i) → vldG ((xs l).take i) ((xs l).drop i) = vldG [] (xs l) → LH F0 w w1 [.g b1, .bu bb own (l.take i)] [.gr s l, kcE] →
      term_Valid.L0T (some (at0 bb)) s ((s.n : Nat) : Int) (i : Int) w1 fun r w' => r = .returned (.i (vldG [] (xs l))) ∧ Fr0 w w' := by
    intro m
    induction m with
    | zero =>
      intro i b1 bb own w1 hi hg hv H1
      refine term_Valid.L0T_step _ _ _ _ _ _ (sel_false (decide_eq_false (by omega)) ⟨?_, H1.fr⟩)
      rw [← hv, List.drop_of_length_le (by omega)]
      rfl
    | succ m ih =>
      intro i b1 bb own w1 hi hg hv H1
      have ga : l[i]? = some (l[i]'(by omega)) := List.getElem?_eq_getElem (by omega)
      have hx : (xs l).drop i = (l[i]'(by omega)).x :: (xs l).drop (i + 1) := by
        rw [List.drop_eq_getElem_cons (by omega : i < (xs l).length)]
        simp [xs]
      generalize l[i]'(by omega) = d at ga hx
      have hdm := List.mem_of_getElem? ga
      have gx := xs_get ga
      have et : xs (l.take i) = (xs l).take i := by simp [xs, List.map_take]
      have es : l.take (i + 1) = l.take i ++ [d] := by rw [List.take_add_one, ga]; rfl
      have ex : (xs l).take (i + 1) = (xs l).take i ++ [d.x] := by rw [List.take_add_one, gx]; rfl
      rw [hx, vldG_cons] at hv
      have hu : ∀ e ∈ xs (l.take i), 0 ≤ e.u := fun e he => by
        obtain ⟨a, ha, rfl⟩ := List.mem_map.1 he
        exact (hT a (List.mem_of_mem_take ha)).2.u.1
      refine term_Valid.L0T_step _ _ _ _ _ _ (sel_true (decide_eq_true (by omega)) (gr_at (gr_P.1 (H1.getD 0)) rfl ga fun p hp c => ⟨d.x.op, d.ks, d.x.n, d.x.m, d.x.u, d.x.tx, d.x.st.k, d.x.st.n, d.x.st.x, c.c0, c.c1, c.c2, c.c3, c.c4, c.c5, c.c6, c.c7, c.c8, H1.newg fun b5 w2 H2 => H2.locg fun w3 H3 => ?_⟩))
      refine H3.callg (b_sortOf (l := l.take i) (d := d) (H3.get 1) (fun e he => (gr_P.1 (H3.getD 0)).2 e (List.mem_of_mem_take he)) ((gr_P.1 (H3.getD 0)).2 d hdm) (H3.getD 1) (hT d hdm).1 (by rw [List.length_take]; omega) (by rw [et]; exact hg.val)) ?_
      rintro _ w4 rfl H4
      rw [et]
      refine ⟨_, _, _, _, rfl, H4.newg fun b6 w5 H5 => sel_ne (fun h0 => H5.locg fun w6 H6 => ⟨by rw [← hv, if_pos h0], H6.fr⟩) (fun h0 => sel_srtN (a := (srtX ((xs l).take i) d.x).1) (b := d.x.st) (fun h1 => H5.locg fun w6 H6 => ⟨by rw [← hv, if_neg (fun h => h h0), if_pos h1], H6.fr⟩) (fun h1 => H5.locg fun w6 H6 => ?_))⟩
      rw [if_neg (fun h => h h0), if_neg (fun h => h h1)] at hv
      refine H6.callg (b_find (l := l.take i) (d := d) (H6.get 1) ((gr_P.1 (H6.getD 0)).2 d hdm) (hT d hdm).2 hu) ?_
      rintro _ w7 rfl H7
      refine ⟨_, _, rfl, ?_⟩
      rw [find_mem, et]
      refine sel_dec (fun h2 => ⟨by rw [← hv, if_pos h2], H7.fr⟩) (fun h2 => ?_)
      rw [if_neg h2] at hv
      have hg' : Vg ((xs l).take (i + 1)) := by
        rw [ex]
        exact .snoc hg (by rw [← h1, ← h0]) h2
      have gt : ((xs l).take (i + 1))[i]? = some d.x := by rw [List.getElem?_take, if_pos (by omega)]; exact gx
      have htt : ((xs l).take (i + 1)).take i = (xs l).take i := by rw [List.take_take]; congr 1; omega
      refine H7.buC 1 rfl (b_put (l := l.take i) (d := d) (H7.get 1) ((gr_P.1 (H7.getD 0)).2 d hdm) (fun b hb hm => H7.dj (.gr s l) (by simp) b (gr_fp.2 (.inr ⟨d, hdm, hb⟩)) (.bu bb own (l.take i)) (by simp) (mem_nub.2 hm)) (hT d hdm).2 hu (by rw [List.length_take]; omega) (by rw [et]; exact h2) (fun h0 => by rw [et, ← htt]; exact vg_var hg' gt h0)) ?_
      rintro _ w8 own' rfl H8
      refine ⟨_, rfl, ?_⟩
      rw [i64_next _ (by omega)]
      refine ih (i + 1) b1 bb own' w8 (by omega) hg' (by rw [ex]; exact hv) ?_
      rw [es]
      exact H8.take 2
  refine H1.callr (b_new (s := ⟨none, 0, 0⟩) (l := []) ⟨RdN.nil 9 w1, by simp⟩ .nil (by simp [xs]) (by simp)) ?_
  rintro _ w2 ⟨bb, own, rfl, r, o⟩ _ F2
  have H2 := F2.own (.bu bb own []) r (fun b hb => o b (mem_nub.1 hb))
  exact ⟨_, rfl, loop l.length 0 b1 bb own w2 (by omega) .nil rfl H2⟩
end Go.Proofs.YtibaobaobnpdaaaGreatDoor
set_option maxRecDepth 100000
set_option maxHeartbeats 1000000
namespace Go.Proofs.YtibaobaobnpdaaaGreatDoor
open Go Go.W

/-! ### Plain: the texts -/
section
variable (hd : Nx → ByteArray)
def kidB (ts : List (List UInt8)) (k : Int) : List UInt8 := 32 :: ts.getD k.toNat []
def tx1 (ts : List (List UInt8)) (n : Nx) : List UInt8 := bl (hd n) ++ n.kids.flatMap (kidB ts) ++ if n.kids = [] then [] else [41]
def txsX (g : List Nx) : List (List UInt8) := g.foldl (fun ts n => ts ++ [tx1 hd ts n]) []
theorem txs_snoc (g : List Nx) (n : Nx) : txsX hd (g ++ [n]) = txsX hd g ++ [tx1 hd (txsX hd g) n] := by unfold txsX; rw [List.foldl_append]; rfl
theorem txs_len (g : List Nx) : (txsX hd g).length = g.length := by
  induction g using snoc_ind with
  | h0 => rfl
  | h1 g n ih => rw [txs_snoc]; simp [ih]
theorem txs_app (g r : List Nx) : ∃ t, txsX hd (g ++ r) = txsX hd g ++ t := by
  induction r using snoc_ind with
  | h0 => exact ⟨[], by simp⟩
  | h1 r n ih =>
    obtain ⟨t, ht⟩ := ih
    exact ⟨t ++ [tx1 hd (txsX hd (g ++ r)) n], by rw [← List.append_assoc, txs_snoc, ht, List.append_assoc]⟩
theorem kidB_app {ts t : List (List UInt8)} {k : Int} (h : 0 ≤ k ∧ k < (ts.length : Int)) : kidB (ts ++ t) k = kidB ts k := by
  unfold kidB
  rw [List.getD_eq_getElem?_getD, List.getD_eq_getElem?_getD, List.getElem?_append_left (by omega)]
theorem flat_congr {α β : Type} {f g : α → List β} : ∀ {l : List α}, (∀ a ∈ l, f a = g a) → l.flatMap f = l.flatMap g
  | [], _ => rfl
  | a :: l, h => by rw [List.flatMap_cons, List.flatMap_cons, h a (by simp), flat_congr fun b hb => h b (by simp [hb])]
theorem tx1_app {ts t : List (List UInt8)} {n : Nx} (h : ∀ k ∈ n.kids, 0 ≤ k ∧ k < (ts.length : Int)) : tx1 hd (ts ++ t) n = tx1 hd ts n := by
  unfold tx1
  rw [flat_congr fun k hk => kidB_app (h k hk)]
/-- the text of a node, by those of all nodes -/
theorem txs_get {g : List Nx} (hg : KidsLt g) {i : Nat} {n : Nx} (hi : g[i]? = some n) : (txsX hd g)[i]? = some (tx1 hd (txsX hd g) n) := by
  have hl := (List.getElem?_eq_some_iff.1 hi).1
  have e : g = g.take i ++ [n] ++ g.drop (i + 1) := by
    have := List.take_append_drop (i + 1) g
    rw [List.take_add_one, hi] at this
    exact this.symm
  have hti : (txsX hd (g.take i)).length = i := by rw [txs_len]; simp; omega
  obtain ⟨t, ht⟩ := txs_app hd (g.take i ++ [n]) (g.drop (i + 1))
  rw [← e, txs_snoc] at ht
  rw [ht, List.append_assoc, tx1_app hd (fun k hk => by rw [hti]; exact hg i n hi k hk), List.getElem?_append_right (by omega), hti, Nat.sub_self]
  rfl
end
/-! ### write -/
theorem pr_cells {w : World} {b : Nat} {g : Sl} {mr : Option Nat × Sl} {hs : List ByteArray} {ls ds : List Nat} {own : List Nat} (h : PrRep w b g mr hs ls ds own) :
    ∃ sh sl sd : Sl, w.cell? ((at0 b).add 0) = some g.v ∧ w.cell? ((at0 b).add 1) = some sh.v ∧ w.cell? ((at0 b).add 2) = some sl.v ∧ w.cell? ((at0 b).add 3) = some sd.v ∧ OwnRow w ty_string 1 sh (hs.map Value.string) ∧ OwnRow w ty_int 1 sl (ls.map natV) ∧ OwnRow w ty_int 1 sd (ds.map natV) := by
  obtain ⟨sh, sl, sd, ho, hn, hP⟩ := h
  have hc : (En.c b [g.v, sh.v, sl.v, sd.v, .map mr.1, mr.2.v] ty_print_printer).P w := hP _ (List.mem_of_getElem? (i := 0) rfl)
  exact ⟨sh, sl, sd, cellAt (p := at0 b) hc rfl rfl, cellAt (p := at0 b) hc rfl rfl, cellAt (p := at0 b) hc rfl rfl, cellAt (p := at0 b) hc rfl rfl, hP _ (List.mem_of_getElem? (i := 1) rfl), hP _ (List.mem_of_getElem? (i := 2) rfl), hP _ (List.mem_of_getElem? (i := 3) rfl)⟩
section
variable {hd : Nx → ByteArray} {s : Sl} {l : List Nd} {b : Nat} {mr : Option Nat × Sl} {ow : List Nat} {ls ds : List Nat}
theorem c_write (hk : ∀ (i : Nat) (d : Nd), l[i]? = some d → ∀ k ∈ d.x.kids, 0 ≤ k ∧ k < (i : Int)) (hf : ∀ d ∈ l, d.x.kids.length ≤ 1000) (i : Nat) : ∀ (t : List UInt8) (w : World) (bb : Nat) (own : List Nat) (bs : List UInt8), (txsX hd (xs l))[i]? = some t → BdRep w bb bs own →
    (∀ e ∈ [En.gr s l, .pr b ow s mr ((xs l).map hd) ls ds], e.P w ∧ ∀ x ∈ e.fp, x ∉ own) → bs.length + t.length ≤ 10000000 →
    Calls Tryz.prog n_print_printer_write #[.pointer (some (at0 b)), .pointer (some (at0 bb)), .i (i : Int)] w fun r w' => r = .returned (.tuple #[]) ∧ BdAt w bb own (bs ++ t) w' := by
  induction i using Nat.strongRecOn with
  | _ i ih =>
  intro t w bb own bs ht hr hD hbl
  have hl : i < l.length := by have := (List.getElem?_eq_some_iff.1 ht).1; rw [txs_len] at this; simpa [xs] using this
  have ga : l[i]? = some (l[i]'hl) := List.getElem?_eq_getElem hl
  generalize l[i]'hl = d at ga
  have hdm := List.mem_of_getElem? ga
  have gx := xs_get ga
  have hklt : KidsLt (xs l) := by
    intro j n hj k hk'
    have hj' : (l.map Nd.x)[j]? = some n := hj
    rw [List.getElem?_map] at hj'
    obtain ⟨e, he, rfl⟩ := Option.map_eq_some_iff.1 hj'
    exact hk j e he k hk'
  rw [txs_get hd hklt gx] at ht
  have ht := Option.some.inj ht
  have H : LH (· ∈ own) w w [.bd bb own bs] [.gr s l, .pr b ow s mr ((xs l).map hd) ls ds] := LH.start' _ _ (by
    intro e he
    rw [List.mem_singleton.1 he]
    exact ⟨hr, fun x hx => mem_nub.1 hx⟩) (by simpa using (En.bd bb own bs).nd) (fun e he => ⟨(hD e he).1, fun x hx e' he' hm => by
      rw [List.mem_singleton.1 he'] at hm
      exact (hD e he).2 x hx (mem_nub.1 hm)⟩)
  obtain ⟨sh, sl, sd, c0, c1, c2, c3, r1, r2, r3⟩ := pr_cells (H.getD 1)
  have hb1 : (bl (hd d.x)).length + (d.x.kids.flatMap (kidB (txsX hd (xs l)))).length ≤ t.length := by
    rw [← ht]
    unfold tx1
    simp only [List.length_append]
    omega
  have hsz : (hd d.x).size = (bl (hd d.x)).length := rfl
  refine print_printer_write.ok _ _ _ w _ ⟨sh, c1, row_at r1 rfl (v := .string (hd d.x)) (by rw [List.map_map, List.getElem?_map, gx]; rfl) fun p hp hc => ⟨_, hc, H.bdC 0 rfl (bd_str (H.get 0) (hd d.x) (by omega)) ?_⟩⟩
  rintro _ w1 own1 rfl H1
  obtain ⟨sh1, sl1, sd1, d0, d1, d2, d3, q1, q2, q3⟩ := pr_cells (H1.getD 1)
  refine ⟨_, _, rfl, s, by rw [add_add]; exact d0, gr_at (gr_P.1 (H1.getD 0)) rfl ga fun p hp c' => ⟨d.ks, c'.c1, ?_⟩⟩
  have hkn : d.ks.n = d.x.kids.length := by have h0 : (kidE d).P w1 := (gr_P.1 (H1.getD 0)).2 d hdm; simpa using h0.1
  have hfd := hf d hdm
  have loop : ∀ (r pre : List Int) (w1 : World) (own1 : List Nat), d.x.kids = pre ++ r → LH (· ∈ own) w w1 [.bd bb own1 (bs ++ bl (hd d.x) ++ pre.flatMap (kidB (txsX hd (xs l))))] [.gr s l, .pr b ow s mr ((xs l).map hd) ls ds] →
      print_printer_write.L0 (at0 b) (at0 bb) d.ks d.ks ((d.ks.n : Nat) : Int) ((pre.length : Nat) : Int) w1 fun r w' => r = .returned (.tuple #[]) ∧ BdAt w bb own (bs ++ t) w' := by
    intro r
    induction r with
    | nil =>
      intro pre w1 own1 hp H1
      rw [List.append_nil] at hp
      subst hp
      have fin : ∀ {w2 : World} {own2 : List Nat}, LH (· ∈ own) w w2 [.bd bb own2 (bs ++ t)] [.gr s l, .pr b ow s mr ((xs l).map hd) ls ds] → BdAt w bb own (bs ++ t) w2 := fun H2 => ⟨_, H2.get 0, H2.fr, fun x hx => (H2.new _ (List.mem_of_getElem? (i := 0) rfl) x (mem_nub.2 hx)).symm⟩
      refine print_printer_write.L0_step _ _ _ _ _ _ _ _ (sel_false (decide_eq_false (by omega)) (sel_dec (fun h => ?_) (fun h => ?_)))
      · have hk0 : d.x.kids ≠ [] := fun e => by rw [e] at hkn; simp at hkn; omega
        have et : t = bl (hd d.x) ++ d.x.kids.flatMap (kidB (txsX hd (xs l))) ++ [41] := by rw [← ht]; unfold tx1; rw [if_neg hk0]
        refine H1.bdC 0 rfl (bd_byte (H1.get 0) 41 ?_) ?_
        · simp only [List.length_append] at hb1 ⊢
          omega
        rintro _ w2 own2 rfl H2
        refine ⟨_, rfl, rfl, fin (own2 := own2) ?_⟩
        rw [et]
        simpa [List.append_assoc] using H2
      · have hk0 : d.x.kids = [] := List.eq_nil_of_length_eq_zero (by omega)
        have et : t = bl (hd d.x) ++ d.x.kids.flatMap (kidB (txsX hd (xs l))) := by rw [← ht]; unfold tx1; rw [if_pos hk0, List.append_nil]
        refine ⟨rfl, fin (own2 := own1) ?_⟩
        rw [et, ← List.append_assoc]
        exact H1
    | cons k r ihr =>
      intro pre w1 own1 hp H1
      have hg : d.x.kids[pre.length]? = some k := by rw [hp]; simp
      have hpl : pre.length < d.x.kids.length := (List.getElem?_eq_some_iff.1 hg).1
      obtain ⟨k0, k1⟩ := hk i d ga k (List.mem_of_getElem? hg)
      obtain ⟨j, rfl⟩ := Int.eq_ofNat_of_zero_le k0
      have hji : j < i := by omega
      have hjt : (txsX hd (xs l))[j]? = some ((txsX hd (xs l)).getD j []) := by
        rw [List.getD_eq_getElem?_getD, List.getElem?_eq_getElem (by rw [txs_len]; simp [xs]; omega)]
        rfl
      have ek : kidB (txsX hd (xs l)) (j : Int) = 32 :: (txsX hd (xs l)).getD j [] := by unfold kidB; rw [Int.toNat_natCast]
      have hsum : (pre.flatMap (kidB (txsX hd (xs l)))).length + (kidB (txsX hd (xs l)) (j : Int)).length ≤ (d.x.kids.flatMap (kidB (txsX hd (xs l)))).length := by
        rw [hp, List.flatMap_append, List.flatMap_cons]
        simp only [List.length_append]
        omega
      rw [ek] at hsum
      simp only [List.length_cons] at hsum
      have hkd : (kidE d).P w1 := (gr_P.1 (H1.getD 0)).2 d hdm
      refine print_printer_write.L0_step _ _ _ _ _ _ _ _ (sel_true (decide_eq_true (by omega)) ⟨by omega, by omega, Nums.cell hkd hg (by simp) fun p hp' hc => ⟨_, hc, H1.bdC 0 rfl (bd_byte (H1.get 0) 32 (by simp only [List.length_append]; omega)) ?_⟩⟩)
      rintro _ w2 own2 rfl H2
      refine ⟨_, rfl, H2.bdC 0 rfl (ih j hji _ w2 bb own2 _ hjt (H2.get 0) (fun e he => ⟨H2.rd e he, fun x hx hm => H2.dj e he x hx _ (List.mem_of_getElem? (i := 0) rfl) (mem_nub.2 hm)⟩) (by simp only [List.length_append, List.length_cons, List.length_nil]; omega)) ?_⟩
      rintro _ w3 own3 rfl H3
      refine ⟨rfl, ?_⟩
      rw [i64_next _ (by omega)]
      have := ihr (pre ++ [(j : Int)]) w3 own3 (by rw [hp]; simp) (by
        rw [List.flatMap_append, List.flatMap_cons, List.flatMap_nil, List.append_nil, ek]
        simpa [List.append_assoc] using H3)
      rw [List.length_append] at this
      exact this
  exact loop d.x.kids [] w1 own1 rfl (by simpa using H1)
end
/-! ### Lengths are those of the texts -/
theorem cap_sum : ∀ (l : List Nat) (a : Nat), capN (a + (l.map capN).sum) = capN (a + l.sum)
  | [], _ => rfl
  | x :: l, a => by
    rw [List.map_cons, List.sum_cons, List.sum_cons, ← Nat.add_assoc, cap_sum l, ← Nat.add_assoc]
    unfold capN
    omega
theorem kidB_len (ts : List (List UInt8)) : ∀ kids : List Int, (kids.flatMap (kidB ts)).length = kids.length + (kids.map fun k => (ts.getD k.toNat []).length).sum
  | [] => rfl
  | k :: kids => by
    rw [List.flatMap_cons, List.length_append, kidB_len ts kids, List.map_cons, List.sum_cons]
    unfold kidB
    simp only [List.length_cons]
    omega
theorem lns_txs (hd : Nx → ByteArray) (g : List Nx) : lnsX hd g = (txsX hd g).map fun t => capN t.length := by
  induction g using snoc_ind with
  | h0 => rfl
  | h1 g n ih =>
    rw [lns_snoc, txs_snoc, List.map_append, ih]
    congr 1
    simp only [List.map_cons, List.map_nil, List.cons.injEq, and_true]
    have ea : (n.kids.map (atN ((txsX hd g).map fun t => capN t.length))).sum = ((n.kids.map fun k => ((txsX hd g).getD k.toNat []).length).map capN).sum := by
      rw [List.map_map]
      congr 1
      refine List.map_congr_left fun k _ => ?_
      unfold atN
      rw [List.getD_eq_getElem?_getD, List.getElem?_map, Function.comp, List.getD_eq_getElem?_getD]
      cases (txsX hd g)[k.toNat]? <;> rfl
    unfold len1 sumK tx1
    rw [ea]
    have e1 : (bl (hd n) ++ n.kids.flatMap (kidB (txsX hd g)) ++ if n.kids = [] then [] else [41]).length = ((hd n).size + n.kids.length + if n.kids = [] then 0 else 1) + (n.kids.map fun k => ((txsX hd g).getD k.toNat []).length).sum := by
      rw [List.length_append, List.length_append, kidB_len]
      have : (bl (hd n)).length = (hd n).size := rfl
      rw [this]
      split <;> simp <;> omega
    rw [e1, ← cap_sum]
    congr 1
    omega
/-! ### Term -/
section
variable {hd : Nx → ByteArray} {s : Sl} {l : List Nd}
def trmV (n : Nat) (t : List UInt8) : Value := if 64 < n ∨ 65536 < t.length then .tuple #[.s0, .i 4] else .tuple #[.string ⟨t.toArray⟩, .i 0]
theorem c_Term {w : World} (h : GP w s l) (hk : kcE.P w) (hT : l.length ≤ 4096 → ∀ d ∈ l, TOk d.x ∧ WdN d.x) (hv : vldX (xs l) = 0) (ho : PtOk hd l) (hpos : ∀ d ∈ l, 0 < (hd d.x).size) {i : Nat} {t : List UInt8} {n : Nat} (ht : (txsX hd (xs l))[i]? = some t) (hn : (dpsX (xs l))[i]? = some n) :
    Calls Tryz.prog n_print_Term #[.agg #[s.v], .i (i : Int)] w fun r w' => r = .returned (trmV n t) ∧ Fr0 w w' := by
  have hsn := gr_n h
  have hl : i < l.length := by have := (List.getElem?_eq_some_iff.1 ht).1; rw [txs_len] at this; simpa [xs] using this
  have hlen := ho.len
  have ga : l[i]? = some (l[i]'hl) := List.getElem?_eq_getElem hl
  generalize l[i]'hl = d at ga
  have hdm := List.mem_of_getElem? ga
  have hklt : KidsLt (xs l) := by
    intro j n hj k hk'
    have hj' : (l.map Nd.x)[j]? = some n := hj
    rw [List.getElem?_map] at hj'
    obtain ⟨e, he, rfl⟩ := Option.map_eq_some_iff.1 hj'
    exact ho.kids j e he k hk'
  have ht0 : t ≠ [] := fun e => by
    have h1 := txs_get hd hklt (xs_get ga)
    rw [ht] at h1
    have h1 := Option.some.inj h1
    have h2 := hpos d hdm
    have h3 : (bl (hd d.x)).length = (hd d.x).size := rfl
    rw [e] at h1
    have := congrArg List.length h1
    unfold tx1 at this
    simp only [List.length_append, List.length_nil] at this
    omega
  have hln : (lnsX hd (xs l))[i]? = some (capN t.length) := by rw [lns_txs, List.getElem?_map, ht]; rfl
  have hdn : n ≤ 10000 := by
    have := (dps_ok (xs l)).2 n (List.mem_of_getElem? hn)
    simp [xs] at this
    omega
  have H : LH F0 w w [] [.gr s l, kcE] := lh0 _ (by
    intro e he
    simp only [List.mem_cons, List.not_mem_nil, or_false] at he
    rcases he with rfl | rfl
    · exact gr_P.2 h
    · exact hk)
  refine print_Term.okT s _ w _ (H.newg fun b2 w1 H1 => H1.callg (t_Valid (gr_P.1 (H1.getD 0)) (H1.getD 1) hT) ?_)
  rintro _ w2 rfl H2
  rw [hv]
  refine ⟨_, rfl, sel_false rfl (sel_false (decide_eq_false (by omega)) (sel_false (decide_eq_false (by omega)) (H2.callr (c_new (gr_P.1 (H2.getD 0)) ho) ?_)))⟩
  rintro _ w3 ⟨b, mr, own, rfl, hr, hnew⟩ H3 fr
  have H3 : LH F0 w w3 [.g b2] [.gr s l, kcE, .pr b own s mr ((xs l).map hd) (lnsX hd (xs l)) (dpsX (xs l))] := fr.rd (.pr b own s mr ((xs l).map hd) (lnsX hd (xs l)) (dpsX (xs l))) hr fun x hx => hnew x (mem_nub.1 hx)
  obtain ⟨sh, sl, sd, c0, c1, c2, c3, r1, r2, r3⟩ := pr_cells (H3.getD 2)
  refine ⟨_, rfl, optP_mk ⟨sd, c3, row_at r3 rfl (v := natV n) (by rw [List.getElem?_map, hn]; rfl) fun p hp hc => ⟨_, hc, sel_dec (fun h64 => ?_) (fun h64 => optP_mk ⟨sl, c2, row_at r2 rfl (v := natV (capN t.length)) (by rw [List.getElem?_map, hln]; rfl) fun p hp hc => ⟨_, hc, sel_dec (fun hbig => ?_) (fun hbig => ?_)⟩⟩)⟩⟩⟩
  · exact ⟨by unfold trmV; rw [if_pos (.inl (by omega))], H3.fr⟩
  · exact ⟨by unfold trmV; rw [if_pos (.inr (by unfold capN at hbig; omega))], H3.fr⟩
  have htl : t.length ≤ 65536 := by unfold capN at hbig; omega
  have hcap : capN t.length = t.length := by unfold capN; omega
  refine H3.nw fun w4 hs4 H4 => ?_
  obtain ⟨sh4, sl4, sd4, e0, e1, e2, e3, q1, q2, q3⟩ := pr_cells (H4.getD 2)
  refine optP_mk ⟨sl4, e2, row_at q2 rfl (v := natV (capN t.length)) (by rw [List.getElem?_map, hln]; rfl) fun p hp hc => ⟨_, hc, ?_⟩⟩
  have hraw := H4.ob 1
  have H4' : LH F0 w w4 ([.g b2] ++ [.bd w3.heap.size [w3.heap.size] []]) [.gr s l, kcE, .pr b own s mr ((xs l).map hd) (lnsX hd (xs l)) (dpsX (xs l))] := H4.group (.bd w3.heap.size [w3.heap.size] []) ⟨none, ⟨none, 0, 0⟩, .inl rfl, rfl, hraw, Ow.nil _ _⟩ (fun x hx => by simpa [En.ob] using mem_nub.1 hx)
  rw [hcap]
  refine H4'.bdF 1 rfl (bd_Grow hraw (n := t.length) (by omega)) ?_
  rintro _ w5 own5 rfl H5
  have hdis : ∀ {w : World} {o : List Nat} {bs : List UInt8} {w' : World}, LH F0 w w' ([.g b2, .bd w3.heap.size o bs]) [.gr s l, kcE, .pr b own s mr ((xs l).map hd) (lnsX hd (xs l)) (dpsX (xs l))] → ∀ e ∈ [En.gr s l, .pr b own s mr ((xs l).map hd) (lnsX hd (xs l)) (dpsX (xs l))], e.P w' ∧ ∀ x ∈ e.fp, x ∉ o := by
    intro w o bs w' H e he
    have hm : e ∈ [En.gr s l, kcE, .pr b own s mr ((xs l).map hd) (lnsX hd (xs l)) (dpsX (xs l))] := by
      simp only [List.mem_cons, List.not_mem_nil, or_false] at he ⊢
      rcases he with he | he
      · exact .inl he
      · exact .inr (.inr he)
    exact ⟨H.rd e hm, fun x hx hx' => H.dj e hm x hx (.bd w3.heap.size o bs) (by simp) (mem_nub.2 hx')⟩
  refine ⟨rfl, H5.bdF 1 rfl (c_write (hd := hd) ho.kids ho.few i t w5 _ own5 [] ht (H5.get 1) (hdis H5) (by simp; omega)) ?_⟩
  rintro _ w6 own6 rfl H6
  rw [List.nil_append] at H6
  refine ⟨rfl, (· ∈ own6), fun x hx hm => ghost_off H6 (i := 1) rfl (bd_off w6 _ own6 t) (b := x) (by simp at hx; subst hx; simp) (mem_nub.2 hm), (bd_String (H6.get 1) ht0).mono ?_⟩
  rintro _ w7 ⟨rfl, f7⟩
  refine ⟨f7, _, rfl, by unfold trmV; rw [if_neg (by omega)], H6.fr.trans f7 fun x hx hm => ?_⟩
  have := H6.new (.bd w3.heap.size own6 t) (List.mem_of_getElem? (i := 1) rfl) x (mem_nub.2 hm)
  rcases this with h | h
  · omega
  · exact h
end
end Go.Proofs.YtibaobaobnpdaaaGreatDoor
set_option maxRecDepth 100000
set_option maxHeartbeats 1000000
namespace Go.Proofs.YtibaobaobnpdaaaGreatDoor
open Go Go.W

abbrev hxB : ByteArray := ⟨#[48, 49, 50, 51, 52, 53, 54, 55, 56, 57, 97, 98, 99, 100, 101, 102]⟩
def hx1 (n : Nat) : UInt8 := UInt8.ofNat (if n < 10 then 48 + n else 87 + n)
theorem hx_get : ∀ n < 16, hxB[n]? = some (hx1 n) := by decide
def szN (w : Nat) : Nat := if w % 4 = 0 then 4 else 1
def digN (u w i : Nat) : UInt8 := hx1 (u / 2 ^ ((w / szN w - 1 - i) * szN w) % 2 ^ szN w)
/-- the text of a number -/
def numB (u w : Nat) : List UInt8 := [35, if w % 4 = 0 then 120 else 98] ++ (List.range (w / szN w)).map (digN u w)
theorem mask_eq : ∀ w < 65, 18446744073709551615 / 2 ^ (64 - w) = 2 ^ w - 1 := by decide
theorem c_mask {w : World} {n : Nat} (h : n ≤ 64) : Calls Tryz.prog n_bits_mask #[.i (n : Int)] w fun r w' => r = .returned (.u ((2 ^ n - 1 : Nat) : Int)) ∧ w' = w := by
  have e : IntKind.wrap .i64 (64 - (n : Int)) = ((64 - n : Nat) : Int) := by rw [IntWalk.i64_in _ (by omega)]; omega
  refine bits_mask.ok _ w _ ?_
  rw [e]
  have e2 : min (Int.toNat ((64 - n : Nat) : Int)) (IntKind.bits .u64) = 64 - n := by
    rw [Int.toNat_natCast]
    show min (64 - n) 64 = _
    omega
  have e3 : Int.fdiv 18446744073709551615 (2 ^ (64 - n)) = ((2 ^ n - 1 : Nat) : Int) := by
    have := fdiv_nat 18446744073709551615 (2 ^ (64 - n)) (Nat.two_pow_pos _)
    rw [mask_eq n (by omega), Int.natCast_pow] at this
    exact this
  rw [e2, e3]
  exact ⟨by omega, rfl, rfl⟩
theorem c_bitsText {w0 : World} {u w : Nat} (h1 : 1 ≤ w) (h2 : w ≤ 64) (hu : u < 2 ^ w) : Calls Tryz.prog n_bits_Text #[.u (u : Int), .i (w : Int)] w0 fun r w' => r = .returned (.tuple #[.string (ba (numB u w)), .i 0]) ∧ Fr0 w0 w' := by
  have hz : szN w = 4 ∧ w % 4 = 0 ∨ szN w = 1 ∧ w % 4 ≠ 0 := by unfold szN; split <;> simp [*]
  have hu64 : u < 18446744073709551616 := Nat.lt_of_lt_of_le hu (Nat.pow_le_pow_right (n := 2) (by omega) h2)
  have valid : Calls Tryz.prog n_bits_Valid #[.u (u : Int), .i (w : Int)] w0 fun r w' => r = .returned (.i 0) ∧ w' = w0 := by
    refine bits_Valid.ok _ _ w0 _ (sel_false (decide_eq_false (by omega)) (sel_false (decide_eq_false (by omega)) ((c_mask h2).mono ?_)))
    rintro _ _ ⟨rfl, rfl⟩
    refine ⟨_, rfl, sel_false (decide_eq_false ?_) ⟨rfl, rfl⟩⟩
    have := Nat.two_pow_pos w
    omega
  have loop : ∀ (m i : Nat) (b : Sl) (w1 : World), i + m = w / szN w → LH F0 w0 w1 [.row ty_uint8 1 b (([35, if w % 4 = 0 then 120 else 98] ++ (List.range i).map (digN u w)).map W.byteV)] [] →
      bits_Text.L2 (u : Int) ((szN w : Nat) : Int) ((w / szN w : Nat) : Int) b ((w / szN w : Nat) : Int) (i : Int) w1 fun r w' => r = .returned (.tuple #[.string (ba (numB u w)), .i 0]) ∧ Fr0 w0 w' := by
    intro m
    induction m with
    | zero =>
      intro i b w1 hi H
      have hr : OwnRow w1 ty_uint8 1 b (([35, if w % 4 = 0 then 120 else 98] ++ (List.range i).map (digN u w)).map W.byteV) := H.get 0
      refine bits_Text.L2_step _ _ _ _ _ _ _ _ (sel_false (decide_eq_false (by omega)) ⟨_, bytes_str hr.ow1.rd, ?_, H.fr⟩)
      unfold numB
      rw [show i = w / szN w by omega]
    | succ m ih =>
      intro i b w1 hi H
      have hwz : w / szN w ≤ 64 := Nat.le_trans (Nat.div_le_self _ _) h2
      have hmul : (w / szN w) * szN w ≤ w := Nat.div_mul_le_self _ _
      have hs : (w / szN w - 1 - i) * szN w < 64 := by
        have : (w / szN w - 1 - i) * szN w + szN w ≤ (w / szN w) * szN w := by
          rw [← Nat.succ_mul]
          exact Nat.mul_le_mul_right _ (by omega)
        rcases hz with hz | hz <;> omega
      have e1 : IntKind.wrap .i64 (((w / szN w : Nat) : Int) - 1) = ((w / szN w - 1 : Nat) : Int) := by rw [IntWalk.i64_in _ (by omega)]; omega
      have e2 : IntKind.wrap .i64 (((w / szN w - 1 : Nat) : Int) - (i : Int)) = ((w / szN w - 1 - i : Nat) : Int) := by rw [IntWalk.i64_in _ (by omega)]; omega
      have e3 : IntKind.wrap .i64 (((w / szN w - 1 - i : Nat) : Int) * ((szN w : Nat) : Int)) = (((w / szN w - 1 - i) * szN w : Nat) : Int) := by
        rw [← Int.natCast_mul, IntWalk.i64_in _ (by omega)]
      have e4 : min (Int.toNat (((w / szN w - 1 - i) * szN w : Nat) : Int)) (IntKind.bits .u64) = (w / szN w - 1 - i) * szN w := by
        rw [Int.toNat_natCast]
        show min _ 64 = _
        omega
      have e5 : Int.fdiv (u : Int) (2 ^ ((w / szN w - 1 - i) * szN w)) = ((u / 2 ^ ((w / szN w - 1 - i) * szN w) : Nat) : Int) := by
        have := fdiv_nat u (2 ^ ((w / szN w - 1 - i) * szN w)) (Nat.two_pow_pos _)
        rw [Int.natCast_pow] at this
        exact this
      have hq : u / 2 ^ ((w / szN w - 1 - i) * szN w) < 18446744073709551616 := Nat.lt_of_le_of_lt (Nat.div_le_self _ _) hu64
      have hz4 : szN w ≤ 64 := by rcases hz with hz | hz <;> omega
      have hp16 : 2 ^ szN w ≤ 16 := by rcases hz with ⟨hz, _⟩ | ⟨hz, _⟩ <;> rw [hz] <;> decide
      have hp0 := Nat.two_pow_pos (szN w)
      have e6 : bAnd .u64 ((u / 2 ^ ((w / szN w - 1 - i) * szN w) : Nat) : Int) ((2 ^ szN w - 1 : Nat) : Int) = ((u / 2 ^ ((w / szN w - 1 - i) * szN w) % 2 ^ szN w : Nat) : Int) := by
        rw [bAnd_nat _ _ hq (by omega), Nat.and_two_pow_sub_one_eq_mod]
      have hlt : u / 2 ^ ((w / szN w - 1 - i) * szN w) % 2 ^ szN w < 16 := Nat.lt_of_lt_of_le (Nat.mod_lt _ hp0) hp16
      refine bits_Text.L2_step _ _ _ _ _ _ _ _ (sel_true (decide_eq_true (by omega)) (H.dr fun w2 H2 => ?_))
      rw [e1, e2, e3, e4, e5]
      refine ⟨by omega, (c_mask hz4).mono ?_⟩
      rintro _ _ ⟨rfl, rfl⟩
      refine ⟨_, rfl, ?_⟩
      dsimp only
      rw [e6]
      refine ⟨by omega, digN u w i, by rw [Int.toNat_natCast]; exact hx_get _ hlt, ?_⟩
      have hbn : b.n = i + 2 := by
        have h0 : OwnRow _ ty_uint8 1 b (([35, if w % 4 = 0 then 120 else 98] ++ (List.range i).map (digN u w)).map W.byteV) := H2.get 0
        have := h0.len
        simp at this
        omega
      refine H2.ap1 0 el_bytes rfl (fun s' w3 H3 _ _ => ?_) (by omega)
      rw [i64_next _ (by omega)]
      refine ih (i + 1) s' w3 (by omega) ?_
      have er : (List.range (i + 1)).map (digN u w) = (List.range i).map (digN u w) ++ [digN u w i] := by rw [List.range_succ, List.map_append]; rfl
      rw [er, ← List.append_assoc, List.map_append]
      exact H3
  have start : ∀ (mk : UInt8), (mk = if w % 4 = 0 then 120 else 98) → bits_Text.S0 (u : Int) (w : Int) (mk.toNat : Int) ((szN w : Nat) : Int) w0 fun r w' => r = .returned (.tuple #[.string (ba (numB u w)), .i 0]) ∧ Fr0 w0 w' := by
    intro mk hmk
    have hz1 : szN w ≠ 0 := by rcases hz with hz | hz <;> omega
    have ed : Int.tdiv (w : Int) ((szN w : Nat) : Int) = ((w / szN w : Nat) : Int) := rfl
    have hwz : w / szN w ≤ 64 := Nat.le_trans (Nat.div_le_self _ _) h2
    have hq0 := Int.natCast_nonneg (w / szN w)
    refine ⟨by omega, ?_⟩
    rw [ed, IntWalk.i64_in _ (by omega)]
    have e2 : IntKind.wrap .i64 (((w / szN w : Nat) : Int) + 2) = ((w / szN w + 2 : Nat) : Int) := by rw [IntWalk.i64_in _ (by omega)]; omega
    unfold bits_Text.S1
    rw [e2]
    obtain ⟨w1, r1, r2, r3⟩ := make_own el_bytes w0 .i64 .i64 (w / szN w + 2) (by omega)
    have H0 : LH F0 w0 w0 [] [] := lh0 _ (by simp)
    have H1 : LH F0 w0 w1 [.row ty_uint8 1 ⟨some ⟨w0.heap.size, 0, none⟩, 0, w / szN w + 2⟩ ([] : List Value)] [] := H0.pushg r3 r2.2 (by intro b hb; simp [blkL] at hb; omega)
    refine ⟨⟨some ⟨w0.heap.size, 0, none⟩, 0, w / szN w + 2⟩, w1, r1, H1.nwx fun w2 hs2 H2 hb2 => ?_⟩
    refine H2.ap 0 el_bytes rfl (src := ⟨some (at0 w1.heap.size), 2, 2⟩) (news := [W.byteV 35, W.byteV mk]) (blk_rdn (sz := 1) (n := 2) hb2 rfl).2.2 rfl (by intro u hu; simp at hu; rcases hu with rfl | rfl <;> rfl) (by show (0 + 2) * 1 ≤ _; omega) fun s' w3 H3 _ _ => ?_
    refine loop (w / szN w) 0 s' w3 (by omega) ?_
    rw [← hmk]
    exact H3
  refine bits_Text.ok _ _ w0 _ (valid.mono ?_)
  rintro _ _ ⟨rfl, rfl⟩
  have hm : Int.tmod (w : Int) 4 = ((w % 4 : Nat) : Int) := rfl
  refine ⟨_, rfl, sel_false rfl (sel_eq (fun h => ?_) (fun h => ?_))⟩
  · rw [hm] at h
    have h0 : w % 4 = 0 := by omega
    have := start 120 (by rw [if_pos h0])
    rw [show szN w = 4 by unfold szN; rw [if_pos h0]] at this
    exact this
  · rw [hm] at h
    have h0 : ¬ w % 4 = 0 := by omega
    have := start 98 (by rw [if_neg h0])
    rw [show szN w = 1 by unfold szN; rw [if_neg h0]] at this
    exact this
end Go.Proofs.YtibaobaobnpdaaaGreatDoor
set_option maxRecDepth 100000
set_option maxHeartbeats 1000000
namespace Go.Proofs.YtibaobaobnpdaaaGreatDoor
open Go Go.W

/-! ### Quote -/
theorem qs_get (s : ByteArray) (i : Nat) : s[i]? = (bl s)[i]? := by
  by_cases hi : i < s.size
  · rw [getElem?_pos s i hi, List.getElem?_eq_getElem (by rw [bl_len]; exact hi)]; rfl
  · rw [getElem?_neg s i hi, List.getElem?_eq_none (by rw [bl_len]; omega)]
def bareQ (c : UInt8) : Bool := decide (32 ≤ c.toNat) && decide (c.toNat ≤ 126) && !(c == 34) && !(c == 92)
def qch (c : UInt8) : List UInt8 := if bareQ c then [c] else if c = 34 ∨ c = 92 then [92, c] else [92, 120, hx1 (c.toNat / 16), hx1 (c.toNat % 16)]
/-- the text of a string -/
def quoB (l : List UInt8) : List UInt8 := 34 :: l.flatMap qch ++ [34]
theorem all_byte {p : UInt8 → Prop} (h : ∀ x : Fin 256, p (UInt8.ofNat x.val)) (c : UInt8) : p c := by
  have := h ⟨c.toNat, c.toNat_lt⟩
  simpa using this
theorem qand15 (c : UInt8) : bAnd .u8 (c.toNat : Int) 15 = ((c.toNat % 16 : Nat) : Int) := all_byte (p := fun c => bAnd .u8 (c.toNat : Int) 15 = ((c.toNat % 16 : Nat) : Int)) (by decide +kernel) c
theorem c_bare (c : UInt8) (w : World) : Calls Tryz.prog n_lexer_bare #[.int .u8 (c.toNat : Int)] w fun r w' => r = .returned (.bool (bareQ c)) ∧ w' = w := by
  have e1 : ((c.toNat : Int) != 34) = !(c == 34) := all_byte (p := fun c => ((c.toNat : Int) != 34) = !(c == 34)) (by decide +kernel) c
  have e2 : ((c.toNat : Int) != 92) = !(c == 92) := all_byte (p := fun c => ((c.toNat : Int) != 92) = !(c == 92)) (by decide +kernel) c
  refine lexer_bare.ok _ w _ (sel_dec (fun h1 => sel_dec (fun h2 => ?_) (fun h2 => ?_)) (fun h1 => ?_))
  · rw [e1, e2]
    refine sel_intro (fun h3 => ⟨?_, rfl⟩) (fun h3 => ⟨?_, rfl⟩)
    · unfold bareQ
      rw [decide_eq_true (show 32 ≤ c.toNat by omega), decide_eq_true (show c.toNat ≤ 126 by omega), h3]
      rfl
    · unfold bareQ
      rw [h3, Bool.and_false, Bool.false_and]
  · exact ⟨by unfold bareQ; rw [decide_eq_false (show ¬ c.toNat ≤ 126 by omega)]; simp, rfl⟩
  · exact ⟨by unfold bareQ; rw [decide_eq_false (show ¬ 32 ≤ c.toNat by omega)]; simp, rfl⟩
theorem qch_len (c : UInt8) : (qch c).length ≤ 4 := by
  unfold qch
  split
  · simp
  · split <;> simp
section
variable {w0 : World} {t : ByteArray} (ht : t.size ≤ 64)
include ht
theorem q_loop : ∀ (r pre : List UInt8) (b : Sl) (w : World), bl t = pre ++ r → LH F0 w0 w [.row ty_uint8 1 b ((34 :: pre.flatMap qch).map W.byteV)] [] →
    lexer_Quote.L5 t b ((pre.length : Nat) : Int) w fun r w' => r = .returned (.tuple #[.string (ba (quoB (bl t))), .i 0]) ∧ Fr0 w0 w' := by
  have hsz : t.size = (bl t).length := rfl
  intro r
  induction r with
  | nil =>
    intro pre b w hp H
    rw [List.append_nil] at hp
    have hl : pre.length = t.size := by rw [hsz, hp]
    have hfl : ∀ l : List UInt8, (l.flatMap qch).length ≤ 4 * l.length := fun l => by
      induction l with
      | nil => simp
      | cons c l ih => have := qch_len c; rw [List.flatMap_cons, List.length_append, List.length_cons]; omega
    have hbn : b.n ≤ 1 + 4 * 64 := by
      have h0 : OwnRow w ty_uint8 1 b ((34 :: pre.flatMap qch).map W.byteV) := H.get 0
      have h1 := h0.len
      have h2 := hfl pre
      simp only [List.length_map, List.length_cons] at h1
      omega
    refine lexer_Quote.L5_step _ _ _ _ _ (sel_false (decide_eq_false (by omega)) (H.ap1 0 el_bytes rfl (fun s' w1 H1 _ _ => ?_) (by omega)))
    have H1 : LH F0 w0 w1 [.row ty_uint8 1 s' ((quoB (bl t)).map W.byteV)] [] := by
      rw [hp]
      unfold quoB
      rw [List.map_append]
      exact H1
    have h0 : OwnRow w1 ty_uint8 1 s' ((quoB (bl t)).map W.byteV) := H1.get 0
    exact ⟨_, bytes_str h0.ow1.rd, rfl, H1.fr⟩
  | cons c r ih =>
    intro pre b w hp H
    have hpl : pre.length < t.size := by rw [hsz, hp]; simp
    have hg : t[pre.length]? = some c := by
      rw [qs_get, hp]
      simp
    have hfl : ∀ l : List UInt8, (l.flatMap qch).length ≤ 4 * l.length := fun l => by
      induction l with
      | nil => simp
      | cons c l ih => have := qch_len c; rw [List.flatMap_cons, List.length_append, List.length_cons]; omega
    have hbn : b.n ≤ 1 + 4 * 64 := by
      have h0 : OwnRow w ty_uint8 1 b ((34 :: pre.flatMap qch).map W.byteV) := H.get 0
      have h1 := h0.len
      have h2 := hfl pre
      simp only [List.length_map, List.length_cons] at h1
      omega
    have next : ∀ (s' : Sl) (w' : World), LH F0 w0 w' [.row ty_uint8 1 s' ((34 :: pre.flatMap qch).map W.byteV ++ (qch c).map W.byteV)] [] → lexer_Quote.S7 t s' ((pre.length : Nat) : Int) w' fun r w' => r = .returned (.tuple #[.string (ba (quoB (bl t))), .i 0]) ∧ Fr0 w0 w' := by
      intro s' w' H'
      show lexer_Quote.L5 t s' (IntKind.wrap .i64 (((pre.length : Nat) : Int) + 1)) w' _
      rw [i64_next _ (by omega)]
      have := ih (pre ++ [c]) s' w' (by rw [hp]; simp) (by
        rw [List.flatMap_append, List.flatMap_cons, List.flatMap_nil, List.append_nil, ← List.cons_append, List.map_append]
        exact H')
      rw [List.length_append] at this
      exact this
    have two : qch c = [92, c] → ∀ w, LH F0 w0 w [.row ty_uint8 1 b ((34 :: pre.flatMap qch).map W.byteV)] [] → lexer_Quote.S8 t b ((pre.length : Nat) : Int) (c.toNat : Int) w fun r w' => r = .returned (.tuple #[.string (ba (quoB (bl t))), .i 0]) ∧ Fr0 w0 w' := by
      intro he w H
      refine H.nwx fun w2 hs2 H2 hb2 => H2.ap 0 el_bytes rfl (src := ⟨some (at0 w.heap.size), 2, 2⟩) (news := [W.byteV 92, W.byteV c]) (blk_rdn (sz := 1) (n := 2) hb2 rfl).2.2 rfl (by intro u hu; simp at hu; rcases hu with rfl | rfl <;> rfl) (by show (b.n + 2) * 1 ≤ _; omega) fun s' w3 H3 _ _ => next s' w3 ?_
      rw [he]
      exact H3
    refine lexer_Quote.L5_step _ _ _ _ _ (sel_true (decide_eq_true (by omega)) ⟨by omega, c, by rw [Int.toNat_natCast]; exact hg, (c_bare c w).mono ?_⟩)
    rintro _ _ ⟨rfl, rfl⟩
    refine ⟨_, rfl, sel_intro (fun hb => ?_) (fun hb => sel_eq (fun h1 => ?_) (fun h1 => sel_eq (fun h2 => ?_) (fun h2 => H.dr fun w2 H2 => ?_)))⟩
    · refine H.ap1 0 el_bytes rfl (fun s' w3 H3 _ _ => next s' w3 ?_) (by omega)
      unfold qch
      rw [if_pos hb]
      exact H3
    · have hc : c = 34 := by apply UInt8.toNat_inj.1; show c.toNat = 34; omega
      refine two ?_ _ H
      unfold qch
      rw [if_neg (by rw [hb]; decide), if_pos (.inl hc)]
    · have hc : c = 92 := by apply UInt8.toNat_inj.1; show c.toNat = 92; omega
      refine two ?_ _ H
      unfold qch
      rw [if_neg (by rw [hb]; decide), if_pos (.inr hc)]
    · have hc : ¬ (c = 34 ∨ c = 92) := by
        rintro (rfl | rfl)
        · exact h1 rfl
        · exact h2 rfl
      have hlt := c.toNat_lt
      have e1 : Int.fdiv (c.toNat : Int) (2 ^ 4) = ((c.toNat / 16 : Nat) : Int) := fdiv_nat c.toNat 16 (by omega)
      rw [e1, qand15]
      refine ⟨by omega, hx1 (c.toNat / 16), by rw [Int.toNat_natCast]; exact hx_get _ (by omega), by omega, hx1 (c.toNat % 16), by rw [Int.toNat_natCast]; exact hx_get _ (by omega), ?_⟩
      refine H2.nwx fun w3 hs3 H3 hb3 => H3.ap 0 el_bytes rfl (src := ⟨some (at0 w2.heap.size), 4, 4⟩) (news := [W.byteV 92, W.byteV 120, W.byteV (hx1 (c.toNat / 16)), W.byteV (hx1 (c.toNat % 16))]) (blk_rdn (sz := 1) (n := 4) hb3 rfl).2.2 rfl (by intro u hu; simp at hu; rcases hu with rfl | rfl | rfl | rfl <;> rfl) (by show (b.n + 4) * 1 ≤ _; omega) fun s' w4 H4 _ _ => next s' w4 ?_
      unfold qch
      rw [if_neg (by rw [hb]; decide), if_neg hc]
      exact H4
theorem c_Quote (w : World) (h0 : w0 = w) : Calls Tryz.prog n_lexer_Quote #[.string t] w fun r w' => r = .returned (.tuple #[.string (ba (quoB (bl t))), .i 0]) ∧ Fr0 w w' := by
  subst h0
  have hsz : t.size = (bl t).length := rfl
  have S4 : ∀ (n : Nat), n ≤ 1000 → lexer_Quote.S4 t (n : Int) w0 fun r w' => r = .returned (.tuple #[.string (ba (quoB (bl t))), .i 0]) ∧ Fr0 w0 w' := by
    intro n hn
    obtain ⟨w1, r1, r2, r3⟩ := make_own el_bytes w0 .i64 .i64 n (by omega)
    have H0 : LH F0 w0 w0 [] [] := lh0 _ (by simp)
    have H1 : LH F0 w0 w1 [.row ty_uint8 1 ⟨some ⟨w0.heap.size, 0, none⟩, 0, n⟩ ([] : List Value)] [] := H0.pushg r3 r2.2 (by intro b hb; simp [blkL] at hb; omega)
    exact sel_false (decide_eq_false (by omega)) ⟨⟨some ⟨w0.heap.size, 0, none⟩, 0, n⟩, w1, r1, H1.ap1 0 el_bytes rfl (fun s' w3 H3 _ _ => q_loop ht (bl t) [] s' w3 rfl H3) (by show (0 + 1) * 1 ≤ _; omega)⟩
  have loop : ∀ (m i n : Nat), i + m = t.size → n ≤ 2 + 4 * i → lexer_Quote.L0 t (n : Int) (i : Int) w0 fun r w' => r = .returned (.tuple #[.string (ba (quoB (bl t))), .i 0]) ∧ Fr0 w0 w' := by
    intro m
    induction m with
    | zero =>
      intro i n hi hn
      exact lexer_Quote.L0_step _ _ _ _ _ (sel_false (decide_eq_false (by omega)) (S4 n (by omega)))
    | succ m ih =>
      intro i n hi hn
      have hg : (bl t)[i]? = some ((bl t)[i]'(by omega)) := List.getElem?_eq_getElem (by omega)
      generalize (bl t)[i]'(by omega) = c at hg
      have next : ∀ k : Nat, k ≤ 4 → lexer_Quote.S2 t (IntKind.wrap .i64 ((n : Int) + (k : Int))) (i : Int) w0 fun r w' => r = .returned (.tuple #[.string (ba (quoB (bl t))), .i 0]) ∧ Fr0 w0 w' := by
        intro k hk
        show lexer_Quote.L0 t (IntKind.wrap .i64 ((n : Int) + (k : Int))) (IntKind.wrap .i64 ((i : Int) + 1)) w0 _
        rw [i64_next _ (by omega), IntWalk.i64_in _ (by omega)]
        exact ih (i + 1) (n + k) (by omega) (by omega)
      refine lexer_Quote.L0_step _ _ _ _ _ (sel_true (decide_eq_true (by omega)) (sel_true (decide_eq_true (by omega)) ⟨by omega, c, by rw [Int.toNat_natCast, qs_get]; exact hg, (c_bare c w0).mono ?_⟩))
      rintro _ _ ⟨rfl, rfl⟩
      exact ⟨_, rfl, sel_intro (fun _ => next 1 (by omega)) (fun _ => sel_eq (fun _ => next 2 (by omega)) (fun _ => sel_eq (fun _ => next 2 (by omega)) (fun _ => next 4 (by omega))))⟩
  exact lexer_Quote.ok _ w0 _ (loop t.size 0 2 (by omega) (by omega))
end
/-! ### The heads of all nodes -/
theorem quoB_len (l : List UInt8) : (quoB l).length ≤ 2 + 4 * l.length := by
  have hfl : ∀ l : List UInt8, (l.flatMap qch).length ≤ 4 * l.length := fun l => by
    induction l with
    | nil => simp
    | cons c l ih => have := qch_len c; rw [List.flatMap_cons, List.length_append, List.length_cons]; omega
  have := hfl l
  unfold quoB
  simp only [List.length_append, List.length_cons, List.length_nil]
  omega
theorem srtB_size (s : Srt) : (srtB s).size ≤ 100 := by
  have z1 := dec2_size s.n.toNat
  have z2 := dec2_size s.x.toNat
  unfold srtB
  split
  · simp only [size_app, z_1, z_4]; omega
  · split
    · simp only [size_app, z_1, z_5]; omega
    · simp only [size_app, z_1, z_5]; omega
def wordB (op : Int) : List UInt8 := ((wordL.find? fun p => p.1 == op).map (·.2)).getD []
def argB (n : Nx) : List UInt8 :=
  if n.op = 21 then 32 :: bl (dec2 n.n.toNat) ++ 32 :: bl (dec2 n.m.toNat) else if n.op = 22 ∨ n.op = 23 ∨ n.op = 28 then 32 :: bl (dec2 n.n.toNat) else if n.op = 33 then 32 :: quoB (bl n.tx) else []
/-- the text of a node before its kids -/
def hdX (n : Nx) : ByteArray :=
  if n.op = 0 then n.tx else if n.op = 1 then ba (numB n.u.toNat n.st.n.toNat) else if n.op = 2 then ba (quoB (bl n.tx)) else
  if n.op = 3 then ba ([40, 122, 101, 114, 111, 32] ++ bl (srtB n.st) ++ [41]) else ba (40 :: wordB n.op ++ argB n)
/-- what a head needs -/
structure HdN (n : Nx) : Prop where
  op : 0 ≤ n.op ∧ n.op ≤ 34
  num : n.op = 1 → 0 ≤ n.u ∧ 1 ≤ n.st.n ∧ n.st.n ≤ 64 ∧ n.u.toNat < 2 ^ n.st.n.toNat
  st : n.op = 3 → validS n.st = true
  tx : n.op = 2 ∨ n.op = 33 → n.tx.size ≤ 64
  nn : n.op = 21 ∨ n.op = 22 ∨ n.op = 23 ∨ n.op = 28 → 0 ≤ n.n ∧ n.n < 100
  mm : n.op = 21 → 0 ≤ n.m ∧ n.m < 100
theorem word_ok {op : Int} (h1 : 4 ≤ op) (h2 : op ≤ 34) : mget wordsM op = some (.string (ba (wordB op))) ∧ (wordB op).length ≤ 7 := by
  rcases op_all (by omega) h2 with rfl | rfl | rfl | rfl | rfl | rfl | rfl | rfl | rfl | rfl | rfl | rfl | rfl | rfl | rfl | rfl | rfl | rfl | rfl | rfl | rfl | rfl | rfl | rfl | rfl | rfl | rfl | rfl | rfl | rfl | rfl | rfl | rfl | rfl | rfl
  iterate 4 omega
  all_goals exact ⟨rfl, by decide⟩
theorem lookup_int0 {P : Program} {T kt et : TypeId} {kd : IntKind} {z : Value} (mo : MapOk P T kt et kd z) {w : World} {mb : Nat} {es : Array MapEntry} {clock : Nat} {ms : List (Int × Value)}
    (hm : w.heap[mb]? = some (.map es clock)) (hms : MapIs kd es ms) (k : Int) :
    (Instr.lookup T (.map (some mb)) (.int kd k) false).run P w = .ok ((mget ms k).getD z) w := by
  have hf := findNow_int (k := k) (i := 0) hms
  have hg : (getObj mb).run P w = .ok (.map es clock) w := by simp [getObj, Sem.run, hm]
  have hg2 := mget_idx (ms := ms) (k := k) (i := 0)
  unfold Instr.lookup Instr.findKey
  simp only [Sem.run_bind, run_underlying mo.hT, Result.andThen_ok, hg, Sem.run_pure, checkKey_int mo.hk, run_underlying mo.hk, hf]
  cases hr : ((ms.findIdx? fun p => p.1 == k).bind fun j => (ms[j]?).map fun p => (0 + j, p.2)) with
  | none => rw [hr] at hg2; simp [← hg2, zeroValue_run mo.hz]
  | some q => rw [hr] at hg2; simp [← hg2]
theorem hd_ok {d : Nd} (h : HdN d.x) : HdOk hdX d := by
  intro w m es c hm hms
  have z1 := dec2_size d.x.n.toNat
  have z2 := dec2_size d.x.m.toNat
  have H : LH F0 w w [] [.ob m (.map es c)] := lh0 _ (by
    intro e he
    rw [List.mem_singleton.1 he]
    exact hm)
  refine print_nodeHead.okT _ _ _ _ _ _ _ _ _ _ w _ (H.newg fun b1 w1 H1 => sel_eq (fun h0 => ⟨?_, H1.fr⟩) (fun h0 => sel_eq (fun h1 => ?_) (fun h1 => sel_eq (fun h2 => ?_) (fun h2 => sel_eq (fun h3 => ?_) (fun h3 => ?_)))))
  · unfold hdX; rw [if_pos h0]
  · obtain ⟨a1, a2, a3, a4⟩ := h.num h1
    have eu : d.x.u = ((d.x.u.toNat : Nat) : Int) := by omega
    have en : d.x.st.n = ((d.x.st.n.toNat : Nat) : Int) := by omega
    rw [eu, en]
    refine H1.callg (c_bitsText (by omega) (by omega) a4) ?_
    rintro _ w2 rfl H2
    exact ⟨_, _, rfl, by unfold hdX; rw [if_neg h0, if_pos h1], H2.fr⟩
  · refine H1.callg (c_Quote (h.tx (.inl h2)) w1 rfl) ?_
    rintro _ w2 rfl H2
    exact ⟨_, _, rfl, by unfold hdX; rw [if_neg h0, if_neg h1, if_pos h2], H2.fr⟩
  · refine H1.callg (p_sortText (s := d.x.st) (h.st h3)) ?_
    rintro _ w2 rfl H2
    have hs : (srtB d.x.st).size ≤ 100 := srtB_size _
    refine ⟨_, rfl, no_max ?_, no_max ?_, ?_, H2.fr⟩
    · show 6 + _ ≤ _; omega
    · rw [size_app]; show 6 + _ + 1 ≤ _; omega
    · unfold hdX; rw [if_neg h0, if_neg h1, if_neg h2, if_pos h3, ← ba_app, ← ba_app, ba_bl]; rfl
  have h4 : 4 ≤ d.x.op := by have := h.op; omega
  obtain ⟨hw, hwl⟩ := word_ok h4 h.op.2
  have hl := lookup_int0 (P := Tryz.prog) mo_words (show w1.heap[m]? = some (.map es c) from H1.getD 0) hms d.x.op
  rw [hw] at hl
  have hwz := ba_size (wordB d.x.op)
  have fin : ∀ (t : ByteArray) (w2 : World), t = ba (argB d.x) → Fr0 w w2 → (fun r w' => r = Ending.returned (.string (hdX d.x)) ∧ Fr0 w w') (.returned (.string ((ByteArray.mk #[40] ++ ba (wordB d.x.op)) ++ t))) w2 := fun t w2 ht f2 => ⟨by
    unfold hdX; rw [if_neg h0, if_neg h1, if_neg h2, if_neg h3, ht, ← ba_app]; rfl, f2⟩
  have fin0 : ∀ (w2 : World), argB d.x = [] → Fr0 w w2 → (fun r w' => r = Ending.returned (.string (hdX d.x)) ∧ Fr0 w w') (.returned (.string (ByteArray.mk #[40] ++ ba (wordB d.x.op)))) w2 := fun w2 ht f2 => ⟨by
    unfold hdX; rw [if_neg h0, if_neg h1, if_neg h2, if_neg h3, ht, List.append_nil]; rfl, f2⟩
  have one : d.x.op = 22 ∨ d.x.op = 23 ∨ d.x.op = 28 → print_nodeHead.S2T b1 d.x.op d.ks d.x.n d.x.m d.x.u d.x.tx d.x.st.k d.x.st.n d.x.st.x (ByteArray.mk #[40] ++ ba (wordB d.x.op)) w1 fun r w' => r = .returned (.string (hdX d.x)) ∧ Fr0 w w' := by
    intro ho
    obtain ⟨n1, n2⟩ := h.nn (.inr ho)
    refine H1.callg (s_Itoa n1 n2) ?_
    rintro _ w2 rfl H2
    refine ⟨_, rfl, no_max ?_, no_max ?_, fin _ w2 ?_ H2.fr⟩
    · show 1 + _ ≤ _; omega
    · rw [size_app, size_app, hwz]; show 1 + _ + (1 + _) ≤ _; omega
    · unfold argB; rw [if_neg (by omega), if_pos ho]; rfl
  have last : d.x.op ≠ 21 → d.x.op ≠ 22 → d.x.op ≠ 23 → d.x.op ≠ 28 → print_nodeHead.S3T b1 d.x.op d.ks d.x.n d.x.m d.x.u d.x.tx d.x.st.k d.x.st.n d.x.st.x (ByteArray.mk #[40] ++ ba (wordB d.x.op)) d.x.op w1 fun r w' => r = .returned (.string (hdX d.x)) ∧ Fr0 w w' := by
    intro o1 o2 o3 o4
    refine sel_eq (fun h33 => ?_) (fun h33 => fin0 _ ?_ H1.fr)
    · have ht := h.tx (.inr h33)
      refine H1.callg (c_Quote ht w1 rfl) ?_
      rintro _ w2 rfl H2
      have hq := quoB_len (bl d.x.tx)
      have hz : d.x.tx.size = (bl d.x.tx).length := rfl
      refine ⟨_, _, rfl, no_max ?_, no_max ?_, fin _ w2 ?_ H2.fr⟩
      · rw [ba_size]; show 1 + _ ≤ _; omega
      · rw [size_app, size_app, hwz, ba_size]; show 1 + _ + (1 + _) ≤ _; omega
      · unfold argB; rw [if_neg o1, if_neg (by omega), if_pos h33]; exact ba_app [32] _
    · unfold argB; rw [if_neg o1, if_neg (by omega), if_neg h33]
  refine ⟨_, hl, no_max (by rw [hwz]; show 1 + _ ≤ _; omega), sel_eq (fun h21 => ?_) (fun h21 => sel_eq (fun h22 => sel_true (by rw [h22]; rfl) (one (.inl h22))) (fun h22 => sel_eq (fun h23 => sel_true (by rw [h23]; rfl) (one (.inr (.inl h23)))) (fun h23 => sel_eq (fun h28 => one (.inr (.inr h28))) (fun h28 => last h21 h22 h23 h28))))⟩
  obtain ⟨n1, n2⟩ := h.nn (.inl h21)
  obtain ⟨m1, m2⟩ := h.mm h21
  refine H1.locg fun w2 H2 => H2.callg (s_Itoa n1 n2) ?_
  rintro _ w3 rfl H3
  refine ⟨_, rfl, no_max ?_, no_max ?_, H3.callg (s_Itoa m1 m2) ?_⟩
  · show 1 + _ ≤ _; omega
  · rw [size_app]; show 1 + _ + 1 ≤ _; omega
  rintro _ w4 rfl H4
  refine ⟨_, rfl, no_max ?_, no_max ?_, fin _ w4 ?_ H4.fr⟩
  · simp only [size_app, z_1]; omega
  · simp only [size_app, z_1, hwz]; omega
  · unfold argB; rw [if_pos h21, ← ba_bl (dec2 d.x.n.toNat), ← ba_bl (dec2 d.x.m.toNat)]
    show ((ba [32] ++ _) ++ ba [32]) ++ _ = _
    rw [ba_app, ba_app, ba_app]
    simp [bl_ba]
end Go.Proofs.YtibaobaobnpdaaaGreatDoor
set_option linter.unusedVariables false
set_option maxRecDepth 100000
set_option maxHeartbeats 2000000
namespace Go.Proofs.YtibaobaobnpdaaaGreatDoor
open Go Go.W
namespace enthymemelaw11_graph
noncomputable abbrev X : Fx := ⟨Tryz.prog, Tryz.f6, [], [2]⟩
theorem okT (g0 : Sl) (w : World) (R : Post) (h : newV [] w fun b2 w1 => 
  loc [b2] w1 fun w2 => R (.returned (.agg #[g0.v])) w2) : Calls Tryz.prog n_enthymemelaw11_graph #[g0.v] w R := callsX X [] h
end enthymemelaw11_graph
namespace enthymemelaw11_lives
noncomputable abbrev X : Fx := ⟨Tryz.prog, Tryz.f9, [], [1, 2]⟩
theorem okT  (w : World) (R : Post) (h : newV [] w fun b1 w1 => 
  loc [b1] w1 fun w4 => nwV w4 (.cells #[.i 0, .i 1] ty_int) fun w5 => 
  nwV w5 (.cells #[.i 0, .slice none 0 0, .i 0, .i 0, .u 0, .string (ByteArray.mk #[120]), .i 0, .i 4, .i 0, .i 1, .slice none 0 0, .i 0, .i 0, .u 5, .s0, .i 0, .i 4, .i 0, .i 6, .slice (some (nb w4)) 2 2, .i 0, .i 0, .u 0, .s0, .i 0, .i 4, .i 0] ty_api_Node) fun w6 => 
  newV [b1] w6 fun b2 w7 => 
  loc [b1, b2] w7 fun w8 => cf15 [b1, b2] n_print_Term #[.agg #[.slice (some (nb w5)) 3 3], .i 2] w8 fun t17_0 t17_1 w9 => sel (t17_1 == 0) (R (.returned (.bool (t17_0.toList == (ByteArray.mk #[40, 97, 110, 100, 32, 120, 32, 35, 120, 53, 41]).toList))) w9) (R (.returned (.bool false)) w9)) : Calls Tryz.prog n_enthymemelaw11_lives #[] w R := callsX X [] h
end enthymemelaw11_lives
end Go.Proofs.YtibaobaobnpdaaaGreatDoor
set_option linter.unusedVariables false
set_option maxRecDepth 100000
set_option maxHeartbeats 2000000
namespace Go.Proofs.YtibaobaobnpdaaaGreatDoor
open Go Go.W
namespace print_isName
noncomputable abbrev X : Fx := ⟨Tryz.prog, Tryz.f36, [], []⟩
abbrev P0 : Ps := []
abbrev S0  (w : World) (R : Post) : Prop :=
  R (.returned (.bool false)) w
noncomputable def eS0 := entS X [] (pth [0, 1, 1, 1, 1]) P0 S0
abbrev P1 : Ps := [(0, .v [.st]), (24, .v [.I]), (25, .v [.I])]
def L1 (s0 : ByteArray) (t24 t25 : Int) (w : World) (R : Post) : Prop := mkCur P1 0 (X.Sem (pth [0, 1, 1, 1, 2])) s0 t24 t25 w R
noncomputable def eL1 := entL X (pth [0, 1, 1, 1, 2]) P1 L1
abbrev S3  (w : World) (R : Post) : Prop :=
  R (.returned (.bool false)) w
noncomputable def eS3 := entS X [eL1, eS0] (pth [0, 1, 3, 2, 2, 2, 1, 1, 2]) P0 S3
abbrev S4 (s0 : ByteArray) (t24 t25 : Int) (w : World) (R : Post) : Prop :=
  L1 s0 t24 (IntKind.wrap .i64 (t25 + 1)) w R
noncomputable def eS4 := entS X [eS3, eL1, eS0] (pth [3, 2, 1, 1, 2]) P1 S4
abbrev P2 : Ps := [(0, .v [.st]), (4, .v [.Y]), (24, .v [.I]), (25, .v [.I])]
abbrev S2 (s0 : ByteArray) (c4 t24 t25 : Int) (w : World) (R : Post) : Prop :=
  sel (decide (c4 < 97)) (sel (decide (c4 < 48)) (sel (c4 != 45) (S3  w R) (S4 s0 t24 t25 w R)) (sel (decide (c4 > 57)) (sel (c4 != 45) (S3  w R) (S4 s0 t24 t25 w R)) (S4 s0 t24 t25 w R))) (sel (decide (c4 > 122)) (sel (decide (c4 < 48)) (sel (c4 != 45) (S3  w R) (S4 s0 t24 t25 w R)) (sel (decide (c4 > 57)) (sel (c4 != 45) (S3  w R) (S4 s0 t24 t25 w R)) (S4 s0 t24 t25 w R))) (S4 s0 t24 t25 w R))
noncomputable def eS2 := entS X [eS4, eS3, eL1, eS0] (pth [2, 2, 2, 2, 1, 1, 2]) P2 S2
theorem L1_step : ∀ (s0 : ByteArray) (t24 t25 : Int) (w : World) (R : Post) (h : sel (decide (t25 < t24)) ((0 : Int) ≤ t25 ∧ ∃ t30_b : UInt8, s0[Int.toNat t25]? = some t30_b ∧ S2 s0 ((t30_b.toNat : Nat) : Int) t24 t25 w R) (R (.returned (.bool true)) w)), L1 s0 t24 t25 w R := mp (stepL (X := X) [eS2, eS4, eS3, eL1, eS0] (pth [0, 1, 1, 1, 2]) P1)
theorem ok (s0 : ByteArray) (w : World) (R : Post) (h : sel (decide (((s0.size : Nat) : Int) < 1)) (S0  w R) (sel (decide (((s0.size : Nat) : Int) > 16)) (S0  w R) ((0 : Int) ≤ 0 ∧ ∃ t15_b : UInt8, s0[Int.toNat 0]? = some t15_b ∧ sel (decide (((t15_b.toNat : Nat) : Int) < 97)) (S0  w R) ((0 : Int) ≤ 0 ∧ ∃ t20_b : UInt8, s0[Int.toNat 0]? = some t20_b ∧ sel (decide (((t20_b.toNat : Nat) : Int) > 122)) (S0  w R) (L1 s0 ((s0.size : Nat) : Int) 0 w R))))) : Calls Tryz.prog n_print_isName #[.string s0] w R := callsX X [eS2, eS4, eS3, eL1, eS0] h
end print_isName
namespace print_printer_properDeclare
noncomputable abbrev X : Fx := ⟨Tryz.prog, Tryz.f37, [(1,ls [0,1,2,3,4,5,6,7,8,9,10]), (4,ls [0,1,2,3,4,5,6]), (6,ls [0,1,2,3,4,5,6])], [3, 5]⟩
abbrev P0 : Ps := []
abbrev S0T  (w : World) (R : Post) : Prop :=
  R (.returned (.i 9)) w
noncomputable def eS0 := entS X [] (pth [0, 1, 1, 1, 2]) P0 S0T
theorem okT (p0 : Addr) (c1_0 : Int) (c1_1 : ByteArray) (c1_2 c1_3 c1_4 c1_5 c1_6 : Int) (w : World) (R : Post) (h : newV [] w fun b3 w1 => 
  loc [b3] w1 fun w2 => ∃ t10 : Sl, w2.cell? ((p0.add 0).add 0) = some (t10.v) ∧ 
  (0 : Int) ≤ c1_5 ∧ c1_5 < ((t10.n : Nat) : Int) ∧ optP t10.a fun t13_p => ld9_3 w2 (t13_p.add (Int.toNat c1_5 * 9)) fun t14_0 t14_1 t14_2 t14_3 t14_4 t14_5 t14_6 t14_7 t14_8 => newV [b3] w2 fun b5 w3 => 
  hdW9 w3 (t13_p.add (Int.toNat c1_5 * 9)) (.i t14_0) (t14_1.v) (.i t14_2) (.i t14_3) (.u t14_4) (.string t14_5) (.i t14_6) (.i t14_7) (.i t14_8) fun _ => w3.cell? ((p0.add 0).add 0) = some (t10.v) ∧ sel (t14_0 != 0) (loc [b3, b5] w3 fun w12 => S0T  w12 R) (sel (!(t14_5.toList == c1_1.toList)) (loc [b3, b5] w3 fun w12 => S0T  w12 R) (sel (!((t14_6 == c1_2) && ((t14_7 == c1_3) && ((t14_8 == c1_4) && true)))) (loc [b3, b5] w3 fun w12 => S0T  w12 R) (loc [b3, b5] w3 fun w13 => ∃ t35 : Option Nat, w13.cell? (p0.add 4) = some (.map t35) ∧ 
  ∃ t38 : Bool, Sem.run Tryz.prog (Instr.lookup ty_map_string_bool (.map t35) (.string c1_1) false) w13 = .ok (.bool t38) w13 ∧ sel t38 (R (.returned (.i 8)) w13) (loc [b3, b5] w13 fun w14 => ∃ t42 : Option Nat, w14.cell? (p0.add 4) = some (.map t42) ∧ 
  ∃ (w15 : World), Sem.run Tryz.prog (Instr.mapUpdate ty_map_string_bool (.map t42) (.string c1_1) (.bool true)) w14 = .ok () w15 ∧ kept [b3, b5] w14 w15 ∧ R (.returned (.i 0)) w15))))) : Calls Tryz.prog n_print_printer_properDeclare #[.pointer (some p0), .agg #[.i c1_0, .string c1_1, .i c1_2, .i c1_3, .i c1_4, .i c1_5, .i c1_6]] w R := callsX X [eS0] h
end print_printer_properDeclare
namespace print_printer_properTerm
noncomputable abbrev X : Fx := ⟨Tryz.prog, Tryz.f38, [(9,ls [0,1,2,3,4,5,6,7,8,9,10,11,12])], [9]⟩
abbrev P0 : Ps := [(0, .v [.r]), (1, .v [.I]), (39, .v [.s]), (40, .v [.I]), (41, .v [.I])]
def L0T (p0 : Addr) (node1 : Int) (t39 : Sl) (t40 t41 : Int) (w : World) (R : Post) : Prop := mkCur P0 0 (X.Sem (pth [0, 1, 1, 1, 1, 1, 1, 1, 2])) p0 node1 t39 t40 t41 w R
noncomputable def eL0 := entL X (pth [0, 1, 1, 1, 1, 1, 1, 1, 2]) P0 L0T
abbrev S1T (p0 : Addr) (node1 : Int) (t39 : Sl) (t40 t41 : Int) (w : World) (R : Post) : Prop :=
  L0T p0 node1 t39 t40 (IntKind.wrap .i64 (t41 + 1)) w R
noncomputable def eS1 := entS X [eL0] (pth [3, 2, 1, 1, 1, 1, 1, 1, 2]) P0 S1T
abbrev P1 : Ps := [(0, .v [.r]), (1, .v [.I])]
abbrev S2T (p0 : Addr) (node1 : Int) (w : World) (R : Post) : Prop :=
  ∃ t76 : Sl, w.cell? (p0.add 3) = some (t76.v) ∧ 
  (0 : Int) ≤ node1 ∧ node1 < ((t76.n : Nat) : Int) ∧ optP t76.a fun t78_p => ∃ t79 : Int, w.cell? (t78_p.add (Int.toNat node1 * 1)) = some (.i t79) ∧ 
  sel (decide (t79 > 64)) (R (.returned (.i 4)) w) (R (.returned (.i 0)) w)
noncomputable def eS2 := entS X [eS1, eL0] (pth [3]) P1 S2T
theorem L0T_step : ∀ (p0 : Addr) (node1 : Int) (t39 : Sl) (t40 t41 : Int) (w : World) (R : Post) (h : sel (decide (t41 < t40)) ((0 : Int) ≤ t41 ∧ t41 < ((t39.n : Nat) : Int) ∧ optP t39.a fun t43_p => ∃ t44 : Int, w.cell? (t43_p.add (Int.toNat t41 * 1)) = some (.i t44) ∧ 
  ∃ t49 : Sl, w.cell? ((p0.add 0).add 0) = some (t49.v) ∧ 
  (0 : Int) ≤ t44 ∧ t44 < ((t49.n : Nat) : Int) ∧ optP t49.a fun t51_p => ld9_3 w (t51_p.add (Int.toNat t44 * 9)) fun t52_0 t52_1 t52_2 t52_3 t52_4 t52_5 t52_6 t52_7 t52_8 => newV [] w fun b9 w3 => 
  sel (t52_0 == 0) (loc [b9] w3 fun w13 => ∃ t60 : Option Nat, w13.cell? (p0.add 4) = some (.map t60) ∧ 
  ∃ t63 : Bool, Sem.run Tryz.prog (Instr.lookup ty_map_string_bool (.map t60) (.string t52_5) false) w13 = .ok (.bool t63) w13 ∧ sel (!t63) (R (.returned (.i 6)) w13) (S1T p0 node1 t39 t40 t41 w13 R)) (loc [b9] w3 fun w13 => S1T p0 node1 t39 t40 t41 w13 R)) (∃ t70 : Sl, w.cell? (p0.add 5) = some (t70.v) ∧ 
  (0 : Int) ≤ node1 ∧ node1 < ((t70.n : Nat) : Int) ∧ optP t70.a fun t72_p => stV w (t72_p.add (Int.toNat node1 * 1)) (.bool true) fun w14 => 
  S2T p0 node1 w14 R)), L0T p0 node1 t39 t40 t41 w R := mp (stepL (X := X) [eS2, eS1, eL0] (pth [0, 1, 1, 1, 1, 1, 1, 1, 2]) P0)
theorem okT (p0 : Addr) (node1 : Int) (w : World) (R : Post) (h : ∃ t14 : Sl, w.cell? ((p0.add 0).add 0) = some (t14.v) ∧ 
  (0 : Int) ≤ node1 ∧ node1 < ((t14.n : Nat) : Int) ∧ optP t14.a fun t16_p => ld3_2 w ((t16_p.add (Int.toNat node1 * 9)).add 6) fun t18_0 t18_1 t18_2 => sel (!((t18_0 == 0) && ((t18_1 == 1) && ((t18_2 == 0) && true)))) (R (.returned (.i 9)) w) (∃ t24 : Sl, w.cell? (p0.add 5) = some (t24.v) ∧ 
  (0 : Int) ≤ node1 ∧ node1 < ((t24.n : Nat) : Int) ∧ optP t24.a fun t26_p => ∃ t27 : Bool, w.cell? (t26_p.add (Int.toNat node1 * 1)) = some (.bool t27) ∧ 
  sel (!t27) (∃ t33_0 : Sl, w.cell? ((p0.add 0).add 0) = some (t33_0.v) ∧ 
  nwV w (.cells #[.i node1] ty_int) fun w1 => 
  ca20 n_term_Needs #[.agg #[t33_0.v], .slice (some (nb w)) 1 1] w1 fun t36_0 t36_1 w2 => L0T p0 node1 t36_0 ((t36_0.n : Nat) : Int) 0 w2 R) (S2T p0 node1 w R))) : Calls Tryz.prog n_print_printer_properTerm #[.pointer (some p0), .i node1] w R := callsX X [eS2, eS1, eL0] h
end print_printer_properTerm
namespace print_printer_proper
noncomputable abbrev X : Fx := ⟨Tryz.prog, Tryz.f15, [(10,ls [0,1,2,3,4,5,6,7,8,9,10,11,12,13,14,15,16,17,18,19])], [3]⟩
abbrev P0 : Ps := []
abbrev S0T  (w : World) (R : Post) : Prop :=
  R (.returned (.i 1)) w
noncomputable def eS0 := entS X [] (pth [0, 1, 1, 1, 1]) P0 S0T
abbrev S3T  (w : World) (R : Post) : Prop :=
  R (.returned (.i 1)) w
noncomputable def eS3 := entS X [eS0] (pth [0, 1, 1, 1, 5]) P0 S3T
abbrev S6T  (w : World) (R : Post) : Prop :=
  R (.returned (.i 7)) w
noncomputable def eS6 := entS X [eS3, eS0] (pth [0, 1, 1, 1, 7]) P0 S6T
abbrev S8T  (w : World) (R : Post) : Prop :=
  R (.returned (.i 5)) w
noncomputable def eS8 := entS X [eS6, eS3, eS0] (pth [0, 1, 5, 2, 8]) P0 S8T
abbrev S9T  (w : World) (R : Post) : Prop :=
  R (.returned (.i 0)) w
noncomputable def eS9 := entS X [eS8, eS6, eS3, eS0] (pth [9]) P0 S9T
abbrev P1 : Ps := [(0, .v [.r]), (3, .l [.I, .st, .I, .I, .I, .I, .I] ty_parse_Command), (5, .v [.b]), (6, .v [.b])]
abbrev S7T (p0 : Addr) (c3 : Nat) (c3_0 : Int) (c3_1 : ByteArray) (c3_2 c3_3 c3_4 c3_5 c3_6 : Int) (asserts5 declare6 : Bool) (w : World) (R : Post) : Prop :=
  sel declare6 (cf1 [c3] n_print_printer_properDeclare #[.pointer (some p0), .agg #[.i c3_0, .string c3_1, .i c3_2, .i c3_3, .i c3_4, .i c3_5, .i c3_6]] w fun t107 w1 => R (.returned (.i t107)) w1) (sel asserts5 (cf1 [c3] n_print_printer_properTerm #[.pointer (some p0), .i c3_5] w fun t113 w2 => R (.returned (.i t113)) w2) (sel (c3_0 == 6) (sel (decide (c3_6 < 0)) (S8T  w R) (sel (decide (c3_6 > 1099511627776)) (S8T  w R) (S9T  w R))) (S9T  w R)))
noncomputable def eS7 := entS X [eS9, eS8, eS6, eS3, eS0] (pth [8]) P1 S7T
abbrev S5T (p0 : Addr) (c3 : Nat) (c3_0 : Int) (c3_1 : ByteArray) (c3_2 c3_3 c3_4 c3_5 c3_6 : Int) (asserts5 declare6 : Bool) (w : World) (R : Post) : Prop :=
  sel asserts5 (sel (decide (c3_5 < 0)) (loc [c3] w fun w1 => S6T  w1 R) (loc [c3] w fun w1 => ∃ t98 : Sl, w1.cell? ((p0.add 0).add 0) = some (t98.v) ∧ 
  sel (decide (c3_5 ≥ ((t98.n : Nat) : Int))) (S6T  w1 R) (S7T p0 c3 c3_0 c3_1 c3_2 c3_3 c3_4 c3_5 c3_6 asserts5 declare6 w1 R))) (sel declare6 (sel (decide (c3_5 < 0)) (loc [c3] w fun w1 => S6T  w1 R) (loc [c3] w fun w1 => ∃ t98_x1 : Sl, w1.cell? ((p0.add 0).add 0) = some (t98_x1.v) ∧ 
  sel (decide (c3_5 ≥ ((t98_x1.n : Nat) : Int))) (S6T  w1 R) (S7T p0 c3 c3_0 c3_1 c3_2 c3_3 c3_4 c3_5 c3_6 asserts5 declare6 w1 R))) (loc [c3] w fun w1 => S7T p0 c3 c3_0 c3_1 c3_2 c3_3 c3_4 c3_5 c3_6 asserts5 declare6 w1 R))
noncomputable def eS5 := entS X [eS7, eS9, eS8, eS6, eS3, eS0] (pth [7]) P1 S5T
abbrev P2 : Ps := [(0, .v [.r]), (3, .l [.I, .st, .I, .I, .I, .I, .I] ty_parse_Command), (5, .v [.b]), (6, .v [.b]), (7, .v [.b])]
abbrev S4T (p0 : Addr) (c3 : Nat) (c3_0 : Int) (c3_1 : ByteArray) (c3_2 c3_3 c3_4 c3_5 c3_6 : Int) (asserts5 declare6 named7 : Bool) (w : World) (R : Post) : Prop :=
  sel named7 (cf0 [c3] n_print_isName #[.string c3_1] w fun t80 w1 => sel (!t80) (R (.returned (.i 6)) w1) (S5T p0 c3 c3_0 c3_1 c3_2 c3_3 c3_4 c3_5 c3_6 asserts5 declare6 w1 R)) (S5T p0 c3 c3_0 c3_1 c3_2 c3_3 c3_4 c3_5 c3_6 asserts5 declare6 w R)
noncomputable def eS4 := entS X [eS5, eS7, eS9, eS8, eS6, eS3, eS0] (pth [6]) P2 S4T
abbrev S2T (p0 : Addr) (c3 : Nat) (c3_0 : Int) (c3_1 : ByteArray) (c3_2 c3_3 c3_4 c3_5 c3_6 : Int) (asserts5 declare6 named7 : Bool) (w : World) (R : Post) : Prop :=
  sel (!named7) (sel (!(c3_1.toList == (ByteArray.mk #[]).toList)) (S3T  w R) (sel (!declare6) (sel (!((c3_2 == 0) && ((c3_3 == 0) && ((c3_4 == 0) && true)))) (S3T  w R) (sel (!asserts5) (sel (!declare6) (sel (c3_5 != 0) (S3T  w R) (sel (c3_0 != 6) (sel (c3_6 != 0) (S3T  w R) (S4T p0 c3 c3_0 c3_1 c3_2 c3_3 c3_4 c3_5 c3_6 asserts5 declare6 named7 w R)) (S4T p0 c3 c3_0 c3_1 c3_2 c3_3 c3_4 c3_5 c3_6 asserts5 declare6 named7 w R))) (sel (c3_0 != 6) (sel (c3_6 != 0) (S3T  w R) (S4T p0 c3 c3_0 c3_1 c3_2 c3_3 c3_4 c3_5 c3_6 asserts5 declare6 named7 w R)) (S4T p0 c3 c3_0 c3_1 c3_2 c3_3 c3_4 c3_5 c3_6 asserts5 declare6 named7 w R))) (sel (c3_0 != 6) (sel (c3_6 != 0) (S3T  w R) (S4T p0 c3 c3_0 c3_1 c3_2 c3_3 c3_4 c3_5 c3_6 asserts5 declare6 named7 w R)) (S4T p0 c3 c3_0 c3_1 c3_2 c3_3 c3_4 c3_5 c3_6 asserts5 declare6 named7 w R)))) (sel (!asserts5) (sel (!declare6) (sel (c3_5 != 0) (S3T  w R) (sel (c3_0 != 6) (sel (c3_6 != 0) (S3T  w R) (S4T p0 c3 c3_0 c3_1 c3_2 c3_3 c3_4 c3_5 c3_6 asserts5 declare6 named7 w R)) (S4T p0 c3 c3_0 c3_1 c3_2 c3_3 c3_4 c3_5 c3_6 asserts5 declare6 named7 w R))) (sel (c3_0 != 6) (sel (c3_6 != 0) (S3T  w R) (S4T p0 c3 c3_0 c3_1 c3_2 c3_3 c3_4 c3_5 c3_6 asserts5 declare6 named7 w R)) (S4T p0 c3 c3_0 c3_1 c3_2 c3_3 c3_4 c3_5 c3_6 asserts5 declare6 named7 w R))) (sel (c3_0 != 6) (sel (c3_6 != 0) (S3T  w R) (S4T p0 c3 c3_0 c3_1 c3_2 c3_3 c3_4 c3_5 c3_6 asserts5 declare6 named7 w R)) (S4T p0 c3 c3_0 c3_1 c3_2 c3_3 c3_4 c3_5 c3_6 asserts5 declare6 named7 w R))))) (sel (!declare6) (sel (!((c3_2 == 0) && ((c3_3 == 0) && ((c3_4 == 0) && true)))) (S3T  w R) (sel (!asserts5) (sel (!declare6) (sel (c3_5 != 0) (S3T  w R) (sel (c3_0 != 6) (sel (c3_6 != 0) (S3T  w R) (S4T p0 c3 c3_0 c3_1 c3_2 c3_3 c3_4 c3_5 c3_6 asserts5 declare6 named7 w R)) (S4T p0 c3 c3_0 c3_1 c3_2 c3_3 c3_4 c3_5 c3_6 asserts5 declare6 named7 w R))) (sel (c3_0 != 6) (sel (c3_6 != 0) (S3T  w R) (S4T p0 c3 c3_0 c3_1 c3_2 c3_3 c3_4 c3_5 c3_6 asserts5 declare6 named7 w R)) (S4T p0 c3 c3_0 c3_1 c3_2 c3_3 c3_4 c3_5 c3_6 asserts5 declare6 named7 w R))) (sel (c3_0 != 6) (sel (c3_6 != 0) (S3T  w R) (S4T p0 c3 c3_0 c3_1 c3_2 c3_3 c3_4 c3_5 c3_6 asserts5 declare6 named7 w R)) (S4T p0 c3 c3_0 c3_1 c3_2 c3_3 c3_4 c3_5 c3_6 asserts5 declare6 named7 w R)))) (sel (!asserts5) (sel (!declare6) (sel (c3_5 != 0) (S3T  w R) (sel (c3_0 != 6) (sel (c3_6 != 0) (S3T  w R) (S4T p0 c3 c3_0 c3_1 c3_2 c3_3 c3_4 c3_5 c3_6 asserts5 declare6 named7 w R)) (S4T p0 c3 c3_0 c3_1 c3_2 c3_3 c3_4 c3_5 c3_6 asserts5 declare6 named7 w R))) (sel (c3_0 != 6) (sel (c3_6 != 0) (S3T  w R) (S4T p0 c3 c3_0 c3_1 c3_2 c3_3 c3_4 c3_5 c3_6 asserts5 declare6 named7 w R)) (S4T p0 c3 c3_0 c3_1 c3_2 c3_3 c3_4 c3_5 c3_6 asserts5 declare6 named7 w R))) (sel (c3_0 != 6) (sel (c3_6 != 0) (S3T  w R) (S4T p0 c3 c3_0 c3_1 c3_2 c3_3 c3_4 c3_5 c3_6 asserts5 declare6 named7 w R)) (S4T p0 c3 c3_0 c3_1 c3_2 c3_3 c3_4 c3_5 c3_6 asserts5 declare6 named7 w R))))
noncomputable def eS2 := entS X [eS4, eS5, eS7, eS9, eS8, eS6, eS3, eS0] (pth [5]) P2 S2T
abbrev P3 : Ps := [(0, .v [.r]), (3, .l [.I, .st, .I, .I, .I, .I, .I] ty_parse_Command), (5, .v [.b])]
abbrev S1T (p0 : Addr) (c3 : Nat) (c3_0 : Int) (c3_1 : ByteArray) (c3_2 c3_3 c3_4 c3_5 c3_6 : Int) (asserts5 : Bool) (w : World) (R : Post) : Prop :=
  sel asserts5 (S2T p0 c3 c3_0 c3_1 c3_2 c3_3 c3_4 c3_5 c3_6 asserts5 (c3_0 == 0) true w R) (sel (c3_0 == 0) (S2T p0 c3 c3_0 c3_1 c3_2 c3_3 c3_4 c3_5 c3_6 asserts5 (c3_0 == 0) true w R) (S2T p0 c3 c3_0 c3_1 c3_2 c3_3 c3_4 c3_5 c3_6 asserts5 (c3_0 == 0) (c3_0 == 3) w R))
noncomputable def eS1 := entS X [eS2, eS4, eS5, eS7, eS9, eS8, eS6, eS3, eS0] (pth [3]) P3 S1T
theorem okT (p0 : Addr) (c1_0 : Int) (c1_1 : ByteArray) (c1_2 c1_3 c1_4 c1_5 c1_6 : Int) (w : World) (R : Post) (h : newV [] w fun b3 w1 => 
  sel (decide (c1_0 < 0)) (S0T  w1 R) (sel (decide (c1_0 > 6)) (S0T  w1 R) (sel (c1_0 == 1) (S1T p0 b3 c1_0 c1_1 c1_2 c1_3 c1_4 c1_5 c1_6 true w1 R) (S1T p0 b3 c1_0 c1_1 c1_2 c1_3 c1_4 c1_5 c1_6 (c1_0 == 2) w1 R)))) : Calls Tryz.prog n_print_printer_proper #[.pointer (some p0), .agg #[.i c1_0, .string c1_1, .i c1_2, .i c1_3, .i c1_4, .i c1_5, .i c1_6]] w R := callsX X [eS1, eS2, eS4, eS5, eS7, eS9, eS8, eS6, eS3, eS0] h
end print_printer_proper
namespace print_printer_lineLength
noncomputable abbrev X : Fx := ⟨Tryz.prog, Tryz.f17, [(3,ls [0,1,2,3,4,5,6,7,8,9,10])], [3]⟩
abbrev P0 : Ps := [(5, .v [.I])]
abbrev S2T (n5 : Int) (w : World) (R : Post) : Prop :=
  ca1 n_print_capped #[.i n5] w fun t29 w1 => R (.returned (.i t29)) w1
noncomputable def eS2 := entS X [] (pth [3]) P0 S2T
abbrev P1 : Ps := [(0, .v [.r]), (3, .l [.I, .st, .I, .I, .I, .I, .I] ty_parse_Command), (5, .v [.I])]
abbrev S1T (p0 : Addr) (c3 : Nat) (c3_0 : Int) (c3_1 : ByteArray) (c3_2 c3_3 c3_4 c3_5 c3_6 n5 : Int) (w : World) (R : Post) : Prop :=
  loc [c3] w fun w1 => ∃ t22 : Sl, w1.cell? (p0.add 2) = some (t22.v) ∧ 
  (0 : Int) ≤ c3_5 ∧ c3_5 < ((t22.n : Nat) : Int) ∧ optP t22.a fun t25_p => ∃ t26 : Int, w1.cell? (t25_p.add (Int.toNat c3_5 * 1)) = some (.i t26) ∧ 
  S2T (IntKind.wrap .i64 (n5 + t26)) w1 R
noncomputable def eS1 := entS X [eS2] (pth [0, 1, 1, 1, 2]) P1 S1T
abbrev S0T (p0 : Addr) (c3 : Nat) (c3_0 : Int) (c3_1 : ByteArray) (c3_2 c3_3 c3_4 c3_5 c3_6 n5 : Int) (w : World) (R : Post) : Prop :=
  sel (c3_0 == 1) (S1T p0 c3 c3_0 c3_1 c3_2 c3_3 c3_4 c3_5 c3_6 n5 w R) (sel (c3_0 == 2) (S1T p0 c3 c3_0 c3_1 c3_2 c3_3 c3_4 c3_5 c3_6 n5 w R) (S2T n5 w R))
noncomputable def eS0 := entS X [eS1, eS2] (pth [2]) P1 S0T
theorem okT (p0 : Addr) (c1_0 : Int) (c1_1 : ByteArray) (c1_2 c1_3 c1_4 c1_5 c1_6 : Int) (w : World) (R : Post) (h : newV [] w fun b3 w1 => 
  cf16 [b3] n_print_lineHead #[.agg #[.i c1_0, .string c1_1, .i c1_2, .i c1_3, .i c1_4, .i c1_5, .i c1_6]] w1 fun t7 w2 => S0T p0 b3 c1_0 c1_1 c1_2 c1_3 c1_4 c1_5 c1_6 (IntKind.wrap .i64 (((t7.size : Nat) : Int) + 2)) w2 R) : Calls Tryz.prog n_print_printer_lineLength #[.pointer (some p0), .agg #[.i c1_0, .string c1_1, .i c1_2, .i c1_3, .i c1_4, .i c1_5, .i c1_6]] w R := callsX X [eS0, eS1, eS2] h
end print_printer_lineLength
namespace print_lineHead
noncomputable abbrev X : Fx := ⟨Tryz.prog, Tryz.f19, [(3,ls [0,1,2,3,4,5,6,7,8])], [1]⟩
theorem okT (c0_0 : Int) (c0_1 : ByteArray) (c0_2 c0_3 c0_4 c0_5 c0_6 : Int) (w : World) (R : Post) (h : newV [] w fun b1 w1 => 
  sel (c0_0 == 0) (¬ ((((ByteArray.mk #[40, 100, 101, 99, 108, 97, 114, 101, 32]).size + c0_1.size : Nat) : Int) > IntKind.i64.max) ∧ ¬ (((((ByteArray.mk #[40, 100, 101, 99, 108, 97, 114, 101, 32]) ++ c0_1).size + (ByteArray.mk #[32]).size : Nat) : Int) > IntKind.i64.max) ∧ loc [b1] w1 fun w2 => cf16 [b1] n_print_sortText #[.agg #[.i c0_2, .i c0_3, .i c0_4]] w2 fun t13 w3 => ¬ ((((((ByteArray.mk #[40, 100, 101, 99, 108, 97, 114, 101, 32]) ++ c0_1) ++ (ByteArray.mk #[32])).size + t13.size : Nat) : Int) > IntKind.i64.max) ∧ R (.returned (.string ((((ByteArray.mk #[40, 100, 101, 99, 108, 97, 114, 101, 32]) ++ c0_1) ++ (ByteArray.mk #[32])) ++ t13))) w3) (sel (c0_0 == 1) (¬ ((((ByteArray.mk #[40, 97, 115, 115, 101, 114, 116, 32]).size + c0_1.size : Nat) : Int) > IntKind.i64.max) ∧ ¬ (((((ByteArray.mk #[40, 97, 115, 115, 101, 114, 116, 32]) ++ c0_1).size + (ByteArray.mk #[32]).size : Nat) : Int) > IntKind.i64.max) ∧ R (.returned (.string (((ByteArray.mk #[40, 97, 115, 115, 101, 114, 116, 32]) ++ c0_1) ++ (ByteArray.mk #[32])))) w1) (sel (c0_0 == 2) (¬ ((((ByteArray.mk #[40, 101, 100, 105, 116, 32]).size + c0_1.size : Nat) : Int) > IntKind.i64.max) ∧ ¬ (((((ByteArray.mk #[40, 101, 100, 105, 116, 32]) ++ c0_1).size + (ByteArray.mk #[32]).size : Nat) : Int) > IntKind.i64.max) ∧ R (.returned (.string (((ByteArray.mk #[40, 101, 100, 105, 116, 32]) ++ c0_1) ++ (ByteArray.mk #[32])))) w1) (sel (c0_0 == 3) (¬ ((((ByteArray.mk #[40, 114, 101, 116, 114, 97, 99, 116, 32]).size + c0_1.size : Nat) : Int) > IntKind.i64.max) ∧ R (.returned (.string ((ByteArray.mk #[40, 114, 101, 116, 114, 97, 99, 116, 32]) ++ c0_1))) w1) (sel (c0_0 == 4) (R (.returned (.string (ByteArray.mk #[40, 112, 117, 115, 104]))) w1) (sel (c0_0 == 5) (R (.returned (.string (ByteArray.mk #[40, 112, 111, 112]))) w1) (cf16 [b1] n_strconv_Itoa #[.i c0_6] w1 fun t38 w4 => ¬ ((((ByteArray.mk #[40, 99, 104, 101, 99, 107, 32]).size + t38.size : Nat) : Int) > IntKind.i64.max) ∧ R (.returned (.string ((ByteArray.mk #[40, 99, 104, 101, 99, 107, 32]) ++ t38))) w4))))))) : Calls Tryz.prog n_print_lineHead #[.agg #[.i c0_0, .string c0_1, .i c0_2, .i c0_3, .i c0_4, .i c0_5, .i c0_6]] w R := callsX X [] h
end print_lineHead
namespace print_Script
noncomputable abbrev X : Fx := ⟨Tryz.prog, Tryz.f7, [], [1, 8, 12]⟩
abbrev P0 : Ps := [(1, .l [.s, .s] ty_parse_Script), (5, .v [.p]), (6, .v [.I]), (23, .v [.s]), (24, .v [.I]), (25, .v [.I])]
def L0T (s1 : Nat) (s1_0 s1_1 : Sl) (p5 : Option Addr) (total6 : Int) (t23 : Sl) (t24 t25 : Int) (w : World) (R : Post) : Prop := mkCur P0 0 (X.Sem (pth [0, 1, 1, 1, 4])) s1 s1_0 s1_1 p5 total6 t23 t24 t25 w R
noncomputable def eL0 := entL X (pth [0, 1, 1, 1, 4]) P0 L0T
abbrev P1 : Ps := [(5, .v [.p]), (10, .v [.r]), (47, .v [.s]), (48, .v [.I]), (49, .v [.I])]
def L1T (p5 : Option Addr) (b10 : Addr) (t47 : Sl) (t48 t49 : Int) (w : World) (R : Post) : Prop := mkCur P1 0 (X.Sem (pth [0, 1, 1, 1, 8])) p5 b10 t47 t48 t49 w R
noncomputable def eL1 := entL X (pth [0, 1, 1, 1, 8]) P1 L1T
abbrev S3T (p5 : Option Addr) (b10 : Addr) (t47 : Sl) (t48 t49 : Int) (w : World) (R : Post) : Prop :=
  ca19 n_strings_Builder_WriteString #[.pointer (some b10), .string (ByteArray.mk #[41, 10])] w fun t68_0 t68_1 w1 => L1T p5 b10 t47 t48 (IntKind.wrap .i64 (t49 + 1)) w1 R
noncomputable def eS3 := entS X [eL1, eL0] (pth [3, 2, 2, 2, 1, 1, 8]) P1 S3T
abbrev P2 : Ps := [(5, .v [.p]), (10, .v [.r]), (12, .l [.I, .st, .I, .I, .I, .I, .I] ty_parse_Command), (47, .v [.s]), (48, .v [.I]), (49, .v [.I])]
abbrev S2T (p5 : Option Addr) (b10 : Addr) (c12 : Nat) (c12_0 : Int) (c12_1 : ByteArray) (c12_2 c12_3 c12_4 c12_5 c12_6 : Int) (t47 : Sl) (t48 t49 : Int) (w : World) (R : Post) : Prop :=
  cf4 [c12] n_print_printer_write #[.pointer p5, .pointer (some b10), .i c12_5] w fun w1 => S3T p5 b10 t47 t48 t49 w1 R
noncomputable def eS2 := entS X [eS3, eL1, eL0] (pth [0, 1, 1, 1, 2, 2, 2, 2, 1, 1, 8]) P2 S2T
theorem L1T_step : ∀ (p5 : Option Addr) (b10 : Addr) (t47 : Sl) (t48 t49 : Int) (w : World) (R : Post) (h : sel (decide (t49 < t48)) ((0 : Int) ≤ t49 ∧ t49 < ((t47.n : Nat) : Int) ∧ optP t47.a fun t51_p => ld7_5 w (t51_p.add (Int.toNat t49 * 7)) fun t52_0 t52_1 t52_2 t52_3 t52_4 t52_5 t52_6 => newV [] w fun b12 w17 => 
  loc [b12] w17 fun w24 => cf16 [b12] n_print_lineHead #[.agg #[.i t52_0, .string t52_1, .i t52_2, .i t52_3, .i t52_4, .i t52_5, .i t52_6]] w24 fun t54 w25 => cf19 [b12] n_strings_Builder_WriteString #[.pointer (some b10), .string t54] w25 fun t55_0 t55_1 w26 => sel (t52_0 == 1) (S2T p5 b10 b12 t52_0 t52_1 t52_2 t52_3 t52_4 t52_5 t52_6 t47 t48 t49 w26 R) (sel (t52_0 == 2) (S2T p5 b10 b12 t52_0 t52_1 t52_2 t52_3 t52_4 t52_5 t52_6 t47 t48 t49 w26 R) (S3T p5 b10 t47 t48 t49 w26 R))) (ca16 n_strings_Builder_String #[.pointer (some b10)] w fun t70 w27 => R (.returned (.tuple #[.string t70, .i 0])) w27)), L1T p5 b10 t47 t48 t49 w R := mp (stepL (X := X) [eS2, eS3, eL1, eL0] (pth [0, 1, 1, 1, 8]) P1)
theorem L0T_step : ∀ (s1 : Nat) (s1_0 s1_1 : Sl) (p5 : Option Addr) (total6 : Int) (t23 : Sl) (t24 t25 : Int) (w : World) (R : Post) (h : sel (decide (t25 < t24)) ((0 : Int) ≤ t25 ∧ t25 < ((t23.n : Nat) : Int) ∧ optP t23.a fun t27_p => ld7_5 w (t27_p.add (Int.toNat t25 * 7)) fun t28_0 t28_1 t28_2 t28_3 t28_4 t28_5 t28_6 => newV [s1] w fun b8 w4 => 
  loc [s1, b8] w4 fun w11 => cf1 [s1, b8] n_print_printer_proper #[.pointer p5, .agg #[.i t28_0, .string t28_1, .i t28_2, .i t28_3, .i t28_4, .i t28_5, .i t28_6]] w11 fun t31 w12 => sel (t31 != 0) (R (.returned (.tuple #[.s0, .i t31])) w12) (cf1 [s1, b8] n_print_printer_lineLength #[.pointer p5, .agg #[.i t28_0, .string t28_1, .i t28_2, .i t28_3, .i t28_4, .i t28_5, .i t28_6]] w12 fun t38 w13 => cf1 [s1, b8] n_print_capped #[.i (IntKind.wrap .i64 (total6 + t38))] w13 fun t40 w14 => L0T s1 s1_0 s1_1 p5 t40 t23 t24 (IntKind.wrap .i64 (t25 + 1)) w14 R)) (sel (decide (total6 > 65536)) (R (.returned (.tuple #[.s0, .i 4])) w) (nwV w (.cells #[.pointer none, .slice none 0 0] ty_strings_Builder) fun w15 => 
  cf4 [s1] n_strings_Builder_Grow #[.pointer (some (nb w)), .i total6] w15 fun w16 => L1T p5 (nb w) s1_1 ((s1_1.n : Nat) : Int) 0 w16 R))), L0T s1 s1_0 s1_1 p5 total6 t23 t24 t25 w R := mp (stepL (X := X) [eS2, eS3, eL1, eL0] (pth [0, 1, 1, 1, 4]) P0)
theorem okT (s0_0 s0_1 : Sl) (w : World) (R : Post) (h : newV [] w fun b1 w1 => 
  cf1 [b1] n_term_Valid #[.agg #[s0_0.v]] w1 fun t15 w2 => sel (t15 != 0) (R (.returned (.tuple #[.s0, .i t15])) w2) (cf9 [b1] n_print_newPrinter #[.agg #[s0_0.v]] w2 fun t21 w3 => L0T b1 s0_0 s0_1 t21 0 s0_1 ((s0_1.n : Nat) : Int) 0 w3 R)) : Calls Tryz.prog n_print_Script #[.agg #[s0_0.v, s0_1.v]] w R := callsX X [eS2, eS3, eL1, eL0] h
end print_Script
end Go.Proofs.YtibaobaobnpdaaaGreatDoor
set_option maxRecDepth 100000
set_option maxHeartbeats 1000000
namespace Go.Proofs.YtibaobaobnpdaaaGreatDoor
open Go Go.W

/-! ### Names of one letter -/
theorem p_name1 (c : UInt8) (h1 : 97 ≤ c.toNat) (h2 : c.toNat ≤ 122) (w : World) : Calls Tryz.prog n_print_isName #[.string (ba [c])] w fun r w' => r = .returned (.bool true) ∧ Fr0 w w' := by
  have hs : ((ba [c]).size : Int) = 1 := rfl
  have hl : ¬ ((c.toNat : Nat) : Int) < 97 := by omega
  have hh : ¬ ((c.toNat : Nat) : Int) > 122 := by omega
  refine print_isName.ok _ w _ (sel_false (by rw [hs]; rfl) (sel_false (by rw [hs]; rfl) ⟨by omega, c, rfl, sel_false (decide_eq_false hl) ⟨by omega, c, rfl, sel_false (decide_eq_false hh) ?_⟩⟩))
  rw [hs]
  refine print_isName.L1_step _ _ _ _ _ (sel_true rfl ⟨by omega, c, rfl, sel_false (decide_eq_false hl) (sel_false (decide_eq_false hh) ?_)⟩)
  refine print_isName.L1_step _ _ _ _ _ (sel_false rfl ⟨rfl, Fr.refl _ _⟩)
/-! ### Commands and the heads of their lines -/
structure Cm where
  k : Int
  nm : ByteArray
  st : Srt
  nd : Int
  n : Int
namespace Cm
def c (d : Cm) : List Value := [.i d.k, .string d.nm, .i d.st.k, .i d.st.n, .i d.st.x, .i d.nd, .i d.n]
abbrev v (d : Cm) : Value := .agg #[.i d.k, .string d.nm, .i d.st.k, .i d.st.n, .i d.st.x, .i d.nd, .i d.n]
end Cm
def headC (d : Cm) : ByteArray :=
  if d.k = 0 then ((ByteArray.mk #[40, 100, 101, 99, 108, 97, 114, 101, 32] ++ d.nm) ++ ByteArray.mk #[32]) ++ srtB d.st else (ByteArray.mk #[40, 97, 115, 115, 101, 114, 116, 32] ++ d.nm) ++ ByteArray.mk #[32]
theorem p_head {d : Cm} (hk : d.k = 0 ∨ d.k = 1) (hn : d.nm.size ≤ 1000) (hv : d.k = 0 → validS d.st = true ∧ (srtB d.st).size ≤ 1000) (w : World) : Calls Tryz.prog n_print_lineHead #[d.v] w fun r w' => r = .returned (.string (headC d)) ∧ Fr0 w w' := by
  have hmax : IntKind.i64.max = 9223372036854775807 := rfl
  have s9 : (ByteArray.mk #[40, 100, 101, 99, 108, 97, 114, 101, 32]).size = 9 := rfl
  have s8 : (ByteArray.mk #[40, 97, 115, 115, 101, 114, 116, 32]).size = 8 := rfl
  have s1 : (ByteArray.mk #[32]).size = 1 := rfl
  refine print_lineHead.okT _ _ _ _ _ _ _ w _ ((lh0 [] (by simp)).newg fun b1 w1 H1 => ?_)
  rcases hk with h0 | h0
  · obtain ⟨hv1, hv2⟩ := hv h0
    refine sel_true (by rw [h0]; rfl) ⟨by omega, by rw [ByteArray.size_append]; omega, H1.locg fun w2 H2 => H2.callg (p_sortText (s := d.st) hv1) ?_⟩
    rintro _ w3 rfl H3
    exact ⟨_, rfl, by simp only [ByteArray.size_append]; omega, by unfold headC; rw [if_pos h0], H3.fr⟩
  · exact sel_false (by rw [h0]; rfl) (sel_true (by rw [h0]; rfl) ⟨by omega, by rw [ByteArray.size_append]; omega, by unfold headC; rw [if_neg (by omega)], H1.fr⟩)
/-! ### What was declared, and which nodes are ready -/
def DrP (w : World) (m : Nat) (sr : Sl) (ms : List (ByteArray × Value)) (n : Nat) : Prop := m ∉ blkL sr ∧ ∃ (es : Array MapEntry) (c : Nat) (l : List Bool), w.heap[m]? = some (.map es c) ∧ SMapIs es ms ∧ l.length = n ∧ OwnRow w ty_bool 1 sr (l.map Value.bool)
def _root_.Go.W.En.dr (m : Nat) (sr : Sl) (ms : List (ByteArray × Value)) (n : Nat) : En := ⟨nub (m :: blkL sr), fun w => DrP w m sr ms n, fun w w' h ⟨ho, es, c, l, h1, h2, h3, h4⟩ => ⟨ho, es, c, l, (h m (mem_nub.2 (by simp)) (lt_of_heap h1)).trans h1, h2, h3, h4.keep fun x hx hl => h x (mem_nub.2 (by simp [hx])) hl⟩, fun w ⟨ho, es, c, l, h1, h2, h3, h4⟩ b hb => by
  rcases List.mem_cons.1 (mem_nub.1 hb) with rfl | hb
  · exact lt_of_heap h1
  · exact h4.lt b hb, nub_nodup _⟩
section
variable {M : Nat → Prop} {w0 w : World} {L D : List En} {bs : List Nat}
/-- a call that changes one thing -/
theorem _root_.Go.W.LH.ownF (H : LH M w0 w L D) (i : Nat) {e : En} (e' : En) {P : Program} {g : FuncId} {args : Array Value} {A : Ending → Prop} {K : Post} (hi : L[i]? = some e) (hc : Calls P g args w fun r w' => A r ∧ e'.P w' ∧ Fr (· ∈ e.fp) w w') (hfp : ∀ b ∈ e'.fp, b ∈ e.fp)
    (hk : ∀ r w', A r → LH M w0 w' (L.set i e') D → K r w') (hbs : ∀ b ∈ bs, En.g b ∈ L.eraseIdx i := by simp) : callF bs P g args w K :=
  ⟨(· ∈ e.fp), fun b hb hm => erase_ne hi H.nd b hm (.g b) (hbs b hb) (by simp [En.g]), hc.mono fun r w' ⟨ha, hp, f⟩ => ⟨f, hk r w' ha (H.upd i e' hi f hp fun b hb => .inl (hfp b hb))⟩⟩
end
theorem pr_mr {w : World} {b : Nat} {g : Sl} {mr : Option Nat × Sl} {hs : List ByteArray} {ls ds : List Nat} {own : List Nat} (h : PrRep w b g mr hs ls ds own) : w.cell? ((at0 b).add 4) = some (.map mr.1) ∧ w.cell? ((at0 b).add 5) = some mr.2.v ∧ w.cell? ((at0 b).add 0) = some g.v := by
  obtain ⟨sh, sl, sd, ho, hn, hP⟩ := h
  have hc : (En.c b [g.v, sh.v, sl.v, sd.v, .map mr.1, mr.2.v] ty_print_printer).P w := hP _ (List.mem_of_getElem? (i := 0) rfl)
  exact ⟨cellAt (p := at0 b) hc rfl rfl, cellAt (p := at0 b) hc rfl rfl, cellAt (p := at0 b) hc rfl rfl⟩
theorem mo_decl : SMapOk Tryz.prog ty_map_string_bool ty_string ty_bool (.bool false) := by
  constructor <;> kernel_rfl
theorem lookup_str1 {P : Program} {T kt et : TypeId} {z : Value} (mo : SMapOk P T kt et z) {w : World} {mb : Nat} {es : Array MapEntry} {clock : Nat} {ms : List (ByteArray × Value)}
    (hm : w.heap[mb]? = some (.map es clock)) (hms : SMapIs es ms) (k : ByteArray) :
    (Instr.lookup T (.map (some mb)) (.string k) false).run P w = .ok ((sget ms k).getD z) w := by
  have hf := findNow_str (k := k) (i := 0) hms
  have hg : (getObj mb).run P w = .ok (.map es clock) w := by simp [getObj, Sem.run, hm]
  have hg2 := sget_idx (ms := ms) (k := k) (i := 0)
  unfold Instr.lookup Instr.findKey
  simp only [Sem.run_bind, run_underlying mo.hT, Result.andThen_ok, hg, Sem.run_pure, checkKey_str mo.hk, run_underlying mo.hk, hf]
  cases hr : ((ms.findIdx? fun p => decide (p.1 = k)).bind fun j => (ms[j]?).map fun p => (0 + j, p.2)) with
  | none => rw [hr] at hg2; simp [← hg2, zeroValue_run mo.hz]
  | some q => rw [hr] at hg2; simp [← hg2]
section
variable {s : Sl} {l : List Nd} {b m n : Nat} {ow : List Nat} {sr : Sl} {hs : List ByteArray} {ls ds : List Nat} {ms : List (ByteArray × Value)}
theorem dr_start {w : World} (h : DrP w m sr ms n) (hD : ∀ e ∈ [En.gr s l, .pr b ow s (some m, sr) hs ls ds], e.P w ∧ ∀ x ∈ e.fp, x ∉ m :: blkL sr) : LH (· ∈ m :: blkL sr) w w [.dr m sr ms n] [.gr s l, .pr b ow s (some m, sr) hs ls ds] :=
  LH.start' _ _ (fun e he => by
    rw [List.mem_singleton.1 he]
    exact ⟨h, fun x hx => mem_nub.1 hx⟩) (by simpa using (En.dr m sr ms n).nd) (fun e he => ⟨(hD e he).1, fun x hx e' he' hm => by
      rw [List.mem_singleton.1 he'] at hm
      exact (hD e he).2 x hx (mem_nub.1 hm)⟩)
theorem p_decl {w : World} {i : Nat} {d : Nd} (h : DrP w m sr ms n) (hD : ∀ e ∈ [En.gr s l, .pr b ow s (some m, sr) hs ls ds], e.P w ∧ ∀ x ∈ e.fp, x ∉ m :: blkL sr) (hi : l[i]? = some d) (h0 : d.x.op = 0) (hno : sget ms d.x.tx = none) (nn : Int) :
    Calls Tryz.prog n_print_printer_properDeclare #[.pointer (some (at0 b)), Cm.v ⟨0, d.x.tx, d.x.st, (i : Int), nn⟩] w fun r w' => r = .returned (.i 0) ∧ DrP w' m sr (ms ++ [(d.x.tx, .bool true)]) n ∧ Fr (· ∈ m :: blkL sr) w w' := by
  have gn := gr_n (gr_P.1 (hD (.gr s l) (by simp)).1)
  refine print_printer_properDeclare.okT _ _ _ _ _ _ _ _ w _ ((dr_start h hD).newg fun b3 w1 H1 => H1.locg fun w2 H2 => ⟨s, by rw [add_add]; exact (pr_mr (H2.getD 1)).2.2, gr_at (gr_P.1 (H2.getD 0)) rfl hi fun p hp c => ⟨d.x.op, d.ks, d.x.n, d.x.m, d.x.u, d.x.tx, d.x.st.k, d.x.st.n, d.x.st.x, c.c0, c.c1, c.c2, c.c3, c.c4, c.c5, c.c6, c.c7, c.c8, H2.newg fun b5 w3 H3 => ?_⟩⟩)
  obtain ⟨_, _, h3⟩ := gr_at (gr_P.1 (H3.getD 0)) (X := (i : Int)) rfl hi (K := fun q => s.a = some q ∧ Nd.Cells w3 q (Int.toNat (i : Int)) d) (fun q hq c => ⟨hq, c⟩)
  rw [hp] at h3
  have c' := h3.2
  refine ⟨c'.c0, c'.c1, c'.c2, c'.c3, c'.c4, c'.c5, c'.c6, c'.c7, c'.c8, ?_⟩
  refine ⟨by rw [add_add]; exact (pr_mr (H3.getD 1)).2.2, sel_false (by rw [h0]; rfl) (sel_false (by simp) (sel_false (by simp) (H3.locg fun w4 H4 => ⟨_, (pr_mr (H4.getD 1)).1, ?_⟩)))⟩
  obtain ⟨ho, es, c1, bl1, e1, e2, e3, e4⟩ := H4.get 0
  refine ⟨false, ?_, sel_false rfl (H4.locg fun w5 H5 => ⟨_, (pr_mr (H5.getD 1)).1, ?_⟩)⟩
  · have := lookup_str1 mo_decl e1 e2 d.x.tx
    rw [hno] at this
    exact this
  obtain ⟨ho, es, c1, bl1, e1, e2, e3, e4⟩ := H5.get 0
  obtain ⟨w6, es', u1, u2, u3, u4, u5⟩ := update_str mo_decl e1 e2 d.x.tx (.bool true) hno
  have hne : ∀ x ∈ [b3, b5], x ≠ m := fun x hx e => by
    refine erase_ne (i := 0) rfl H5.nd m (mem_nub.2 (by simp)) (.g x) (by simp at hx; rcases hx with rfl | rfl <;> simp) (by simp [En.g, e])
  refine ⟨w6, u1, fun x hx => u4.keep x (by
    have : (En.g x).P w5 := H5.own (.g x) (by simp at hx; rcases hx with rfl | rfl <;> simp)
    exact this) (hne x hx), rfl, ⟨ho, es', c1 + 1, bl1, u2, u3, e3, e4.keep fun x hx hl => u4.keep x hl fun e => ho (e ▸ hx)⟩, H5.fr.trans u4 fun x hx e => by simp [e]⟩
end
end Go.Proofs.YtibaobaobnpdaaaGreatDoor
set_option maxRecDepth 100000
set_option maxHeartbeats 1000000
namespace Go.Proofs.YtibaobaobnpdaaaGreatDoor
open Go Go.W

theorem down_lt (g : List Nx) (roots : List Int) : ∀ (i n : Nat) (out : List Int), i ≤ n → (∀ o ∈ out, 0 ≤ o ∧ o < (n : Int)) → ∀ o ∈ downX g roots i out, 0 ≤ o ∧ o < (n : Int)
  | 0, n, out, _, h => h
  | i + 1, n, out, hi, h => by
    rw [downX_step]
    refine down_lt g roots i n _ (by omega) fun o ho => ?_
    split at ho
    · rcases List.mem_cons.1 ho with rfl | ho
      · omega
      · exact h o ho
    · exact h o ho
theorem needs_lt {g : List Nx} {roots : List Int} {o : Int} (h : o ∈ needsX g roots) : 0 ≤ o ∧ o < (g.length : Int) := down_lt g roots g.length g.length [] (Nat.le_refl _) (by simp) o h
theorem down_len (g : List Nx) (roots : List Int) : ∀ (i : Nat) (out : List Int), (downX g roots i out).length ≤ i + out.length
  | 0, out => by show out.length ≤ _; omega
  | i + 1, out => by
    rw [downX_step]
    have := down_len g roots i (if inOut g roots out i = true then (i : Int) :: out else out)
    split at this <;> rename_i h <;> simp only [h, if_true] <;> simp at this ⊢ <;> omega
section
variable {s : Sl} {l : List Nd} {b m : Nat} {ow : List Nat} {sr : Sl} {hs : List ByteArray} {ls ds : List Nat} {ms : List (ByteArray × Value)}
theorem p_termE {w : World} {i dn : Nat} {R : Post} (h : PrRep w b s (some m, sr) hs ls ds ow) (hdn : ds[i]? = some dn) (hR : R (.returned (.i (if 64 < dn then 4 else 0))) w) : print_printer_properTerm.S2T (at0 b) (i : Int) w R := by
  obtain ⟨sh, sl, sd, c0, c1, c2, c3, r1, r2, r3⟩ := pr_cells h
  refine ⟨sd, c3, row_at r3 rfl (v := natV dn) (by rw [List.getElem?_map, hdn]; rfl) fun p hp hc => ⟨_, hc, ?_⟩⟩
  by_cases h64 : 64 < dn
  · rw [if_pos h64] at hR
    exact sel_true (decide_eq_true (by omega)) hR
  · rw [if_neg h64] at hR
    exact sel_false (decide_eq_false (by omega)) hR
theorem p_term {w : World} {i dn : Nat} {d : Nd} (h : DrP w m sr ms l.length) (hD : ∀ e ∈ [En.gr s l, .pr b ow s (some m, sr) hs ls ds], e.P w ∧ ∀ x ∈ e.fp, x ∉ m :: blkL sr) (hi : l[i]? = some d) (hst : d.x.st = ⟨0, 1, 0⟩) (hlt : KidsLt (xs l)) (hll : l.length ≤ 1000) (hkl : ∀ e ∈ l, e.x.kids.length ≤ 1000)
    (hdec : ∀ e ∈ l, e.x.op = 0 → sget ms e.x.tx = some (.bool true)) (hdn : ds[i]? = some dn) :
    Calls Tryz.prog n_print_printer_properTerm #[.pointer (some (at0 b)), .i (i : Int)] w fun r w' => r = .returned (.i (if 64 < dn then 4 else 0)) ∧ DrP w' m sr ms l.length ∧ Fr (· ∈ m :: blkL sr) w w' := by
  have gn := gr_n (gr_P.1 (hD (.gr s l) (by simp)).1)
  have hil := (List.getElem?_eq_some_iff.1 hi).1
  have H := dr_start h hD
  have fin : ∀ {w2 : World} {L2 : List En}, LH (· ∈ m :: blkL sr) w w2 (En.dr m sr ms l.length :: L2) [.gr s l, .pr b ow s (some m, sr) hs ls ds] → print_printer_properTerm.S2T (at0 b) (i : Int) w2 fun r w' => r = .returned (.i (if 64 < dn then 4 else 0)) ∧ DrP w' m sr ms l.length ∧ Fr (· ∈ m :: blkL sr) w w' := fun {w2 L2} H2 => p_termE (H2.getD 1) hdn ⟨rfl, H2.get 0, H2.fr⟩
  refine print_printer_properTerm.okT _ _ w _ ⟨s, by rw [add_add]; exact (pr_mr (H.getD 1)).2.2, gr_at (gr_P.1 (H.getD 0)) rfl hi fun p hp c => ⟨d.x.st.k, d.x.st.n, d.x.st.x, c.s0, c.s1, c.s2, sel_false (by rw [hst]; rfl) ⟨sr, (pr_mr (H.getD 1)).2.1, ?_⟩⟩⟩
  obtain ⟨ho, es, c1, bs, e1, e2, e3, e4⟩ := H.get 0
  refine row_at e4 rfl (v := .bool (bs[i]'(by omega))) (by rw [List.getElem?_map, List.getElem?_eq_getElem (by omega)]; rfl) fun p hp hc => ⟨_, hc, sel_not (fun hb => ⟨s, by rw [add_add]; exact (pr_mr (H.getD 1)).2.2, H.nw fun w1 hs1 H1 => H1.callq (c_Needs (l := l) (rs := ⟨some (nb w), 1, 1⟩) (roots := [(i : Int)]) (gr_P.1 (H1.getD 0)) (blk_nums (T := ty_int) (H1.ob 1) rfl) (by unfold MaxL; omega) (by unfold MaxL; simp) (fun e he => by have := hkl e he; unfold MaxL; omega) hlt) ?_⟩) (fun hb => fin H)⟩
  rintro _ w2 ⟨ns, e, rfl, hne⟩ H2 F2
  rw [if_pos (by simp [kidIn, xs, hil])] at hne
  obtain ⟨rfl, hns, hnew⟩ := hne
  have H2 : LH (· ∈ m :: blkL sr) w w2 ([.dr m sr ms l.length, .c w.heap.size [.i (i : Int)] ty_int] ++ [.row ty_int 1 ns ((needsX (xs l) [(i : Int)]).map intV)]) [.gr s l, .pr b ow s (some m, sr) hs ls ds] := F2.own (.row ty_int 1 ns _) hns hnew
  have hnn : ns.n = (needsX (xs l) [(i : Int)]).length := by have := hns.len; simp at this; omega
  have hnl : (needsX (xs l) [(i : Int)]).length ≤ l.length := by have := down_len (xs l) [(i : Int)] (xs l).length []; simpa [xs, needsX] using this
  have loop : ∀ (r pre : List Int) (w2 : World) (L2 : List En), needsX (xs l) [(i : Int)] = pre ++ r → LH (· ∈ m :: blkL sr) w w2 (.dr m sr ms l.length :: .c w.heap.size [.i (i : Int)] ty_int :: .row ty_int 1 ns ((needsX (xs l) [(i : Int)]).map intV) :: L2) [.gr s l, .pr b ow s (some m, sr) hs ls ds] →
      print_printer_properTerm.L0T (at0 b) (i : Int) ns ((ns.n : Nat) : Int) ((pre.length : Nat) : Int) w2 fun r w' => r = .returned (.i (if 64 < dn then 4 else 0)) ∧ DrP w' m sr ms l.length ∧ Fr (· ∈ m :: blkL sr) w w' := by
    intro r
    induction r with
    | nil =>
      intro pre w2 L2 hp H2
      rw [List.append_nil] at hp
      obtain ⟨ho, es, c1, bs, e1, e2, e3, e4⟩ := H2.get 0
      refine print_printer_properTerm.L0T_step _ _ _ _ _ _ _ (sel_false (decide_eq_false (by rw [hnn, hp]; omega)) ⟨sr, (pr_mr (H2.getD 1)).2.1, ?_⟩)
      obtain ⟨p, hp, hpb, x1, x2, x3, x4⟩ := own_set e4 i (by simp; omega) (.bool true)
      have sn : sr.n = l.length := by have := e4.len; simp at this; omega
      rw [hp, Int.toNat_natCast, Nat.mul_one]
      refine ⟨by omega, by omega, optP_mk ⟨x1, x2, ?_⟩⟩
      have H3 := H2.upd 0 (.dr m sr ms l.length) rfl (x4.mono fun x _ hx => mem_nub.2 (List.mem_cons_of_mem _ hx)) ⟨ho, es, c1, bs.set i true, (x4.keep m (lt_of_heap e1) ho).trans e1, e2, by simp [e3], by rw [List.map_set]; exact x3⟩ (fun x hx => .inl hx)
      exact fin H3
    | cons k r ihr =>
      intro pre w2 L2 hp H2
      have hg : (needsX (xs l) [(i : Int)])[pre.length]? = some k := by rw [hp]; simp
      have hpl := (List.getElem?_eq_some_iff.1 hg).1
      obtain ⟨k0, k1⟩ := needs_lt (List.mem_of_getElem? hg)
      obtain ⟨j, rfl⟩ := Int.eq_ofNat_of_zero_le k0
      have hxl : (xs l).length = l.length := by simp [xs]
      have ga : l[j]? = some (l[j]'(by omega)) := List.getElem?_eq_getElem (by omega)
      generalize l[j]'(by omega) = e at ga
      have next : ∀ {w3 : World} {L3 : List En}, LH (· ∈ m :: blkL sr) w w3 (.dr m sr ms l.length :: .c w.heap.size [.i (i : Int)] ty_int :: .row ty_int 1 ns ((needsX (xs l) [(i : Int)]).map intV) :: L3) [.gr s l, .pr b ow s (some m, sr) hs ls ds] →
          print_printer_properTerm.S1T (at0 b) (i : Int) ns ((ns.n : Nat) : Int) ((pre.length : Nat) : Int) w3 fun r w' => r = .returned (.i (if 64 < dn then 4 else 0)) ∧ DrP w' m sr ms l.length ∧ Fr (· ∈ m :: blkL sr) w w' := fun {w3 L3} H3 => by
        show print_printer_properTerm.L0T _ _ _ _ _ _ _
        rw [i64_next _ (by omega)]
        have := ihr (pre ++ [(j : Int)]) w3 L3 (by rw [hp]; simp) H3
        rw [List.length_append] at this
        exact this
      refine print_printer_properTerm.L0T_step _ _ _ _ _ _ _ (sel_true (decide_eq_true (by omega)) (row_at (H2.get 2) rfl (v := intV (j : Int)) (by rw [List.getElem?_map, hg]; rfl) fun p hp hc => ⟨_, hc, s, by rw [add_add]; exact (pr_mr (H2.getD 1)).2.2, gr_at (gr_P.1 (H2.getD 0)) rfl ga fun p hp c' => ⟨e.x.op, e.ks, e.x.n, e.x.m, e.x.u, e.x.tx, e.x.st.k, e.x.st.n, e.x.st.x, c'.c0, c'.c1, c'.c2, c'.c3, c'.c4, c'.c5, c'.c6, c'.c7, c'.c8, H2.newg (fun b9 w3 H3 => sel_eq (fun h0 => H3.locg (fun w4 H4 => ⟨_, (pr_mr (H4.getD 1)).1, ?_⟩) (by simp)) (fun h0 => H3.locg (fun w4 H4 => next H4) (by simp))) (by simp)⟩⟩))
      obtain ⟨ho, es, c1, bs, e1, e2, e3, e4⟩ := H4.get 0
      refine ⟨true, ?_, sel_false rfl (next H4)⟩
      have := lookup_str1 mo_decl e1 e2 e.x.tx
      rw [hdec e (List.mem_of_getElem? ga) h0] at this
      exact this
  exact ⟨_, _, rfl, loop _ [] w2 [] rfl H2⟩
end
end Go.Proofs.YtibaobaobnpdaaaGreatDoor
set_option maxRecDepth 100000
set_option maxHeartbeats 1000000
namespace Go.Proofs.YtibaobaobnpdaaaGreatDoor
open Go Go.W

theorem p_cap (n : Nat) (w : World) : Calls Tryz.prog n_print_capped #[.i (n : Int)] w fun r w' => r = .returned (.i ((capN n : Nat) : Int)) ∧ Fr0 w w' :=
  print_capped.ok _ w _ ⟨by rw [cap_int], Fr.refl _ _⟩
namespace Cm
theorem c_len (d : Cm) : (c d).length = 7 := rfl
structure Cells (w : World) (p : Addr) (d : Cm) : Prop where
  c0 : w.cell? (p.add 0) = some (.i d.k)
  c1 : w.cell? (p.add 1) = some (.string d.nm)
  c2 : w.cell? (p.add 2) = some (.i d.st.k)
  c3 : w.cell? (p.add 3) = some (.i d.st.n)
  c4 : w.cell? (p.add 4) = some (.i d.st.x)
  c5 : w.cell? (p.add 5) = some (.i d.nd)
  c6 : w.cell? (p.add 6) = some (.i d.n)
theorem at' {w : World} {s : Sl} {l : List Cm} (h : RdN 7 w s (l.flatMap c)) {i : Nat} {d : Cm} {X : Int} (hX : X = (i : Int)) (hi : l[i]? = some d) {K : Addr → Prop} (hk : ∀ p, s.a = some p → Cells w (p.add (Int.toNat X * 7)) d → K p) : (0 : Int) ≤ X ∧ X < ((s.n : Nat) : Int) ∧ optP s.a K := by
  have hn := h.1
  rw [flat_length c 7 c_len] at hn
  have hl := (List.getElem?_eq_some_iff.1 hi).1
  subst hX
  exact ⟨by omega, by omega, CRow.elem (f := c) (sz := 7) c_len (by omega) h.2.2 hi fun p hp hc => hk p hp ⟨hc 0 _ rfl, hc 1 _ rfl, hc 2 _ rfl, hc 3 _ rfl, hc 4 _ rfl, hc 5 _ rfl, hc 6 _ rfl⟩⟩
end Cm
section
variable {s : Sl} {l : List Nd} {b m n : Nat} {ow : List Nat} {sr : Sl} {hs : List ByteArray} {ls ds : List Nat} {ms : List (ByteArray × Value)}
theorem dr_hD {M : Nat → Prop} {w0 w : World} {L D : List En} (H : LH M w0 w L D) {i : Nat} (hi : L[i]? = some (.dr m sr ms n)) (h1 : En.gr s l ∈ D) (h2 : En.pr b ow s (some m, sr) hs ls ds ∈ D) : ∀ e ∈ [En.gr s l, .pr b ow s (some m, sr) hs ls ds], e.P w ∧ ∀ x ∈ e.fp, x ∉ m :: blkL sr := by
  intro e he
  have hm : e ∈ D := by
    simp only [List.mem_cons, List.not_mem_nil, or_false] at he
    rcases he with rfl | rfl
    · exact h1
    · exact h2
  exact ⟨H.rd e hm, fun x hx hx' => H.dj e hm x hx _ (List.mem_of_getElem? hi) (mem_nub.2 hx')⟩
theorem p_proper0 {w : World} {i : Nat} {d : Nd} {x : UInt8} (h : DrP w m sr ms n) (hD : ∀ e ∈ [En.gr s l, .pr b ow s (some m, sr) hs ls ds], e.P w ∧ ∀ x ∈ e.fp, x ∉ m :: blkL sr) (hi : l[i]? = some d) (h0 : d.x.op = 0) (hx : d.x.tx = ba [x]) (h97 : 97 ≤ x.toNat) (h122 : x.toNat ≤ 122) (hno : sget ms d.x.tx = none) :
    Calls Tryz.prog n_print_printer_proper #[.pointer (some (at0 b)), Cm.v ⟨0, d.x.tx, d.x.st, (i : Int), 0⟩] w fun r w' => r = .returned (.i 0) ∧ DrP w' m sr (ms ++ [(d.x.tx, .bool true)]) n ∧ Fr (· ∈ m :: blkL sr) w w' := by
  have gn := gr_n (gr_P.1 (hD (.gr s l) (by simp)).1)
  have hil := (List.getElem?_eq_some_iff.1 hi).1
  refine print_printer_proper.okT (at0 b) 0 d.x.tx d.x.st.k d.x.st.n d.x.st.x (i : Int) 0 w _ ((dr_start h hD).newg fun b3 w1 H1 => ?_)
  iterate 11 (first | refine sel_false rfl ?_ | refine sel_true rfl ?_)
  refine H1.callg (by rw [hx]; exact p_name1 x h97 h122 w1) ?_
  rintro _ w2 rfl H2
  refine ⟨_, rfl, sel_false rfl (sel_false rfl (sel_true rfl (sel_false (decide_eq_false (by omega)) (H2.locg fun w3 H3 => ⟨s, by rw [add_add]; exact (pr_mr (H3.getD 1)).2.2, sel_false (decide_eq_false (by omega)) (sel_true rfl (H3.ownF 0 (.dr m sr (ms ++ [(d.x.tx, .bool true)]) n) rfl ((p_decl (H3.get 0) (dr_hD (s := s) (l := l) (ow := ow) (hs := hs) (ls := ls) (ds := ds) H3 (i := 0) rfl (by simp) (by simp)) hi h0 hno 0).mono fun r w' ⟨ha, hp, f⟩ => ⟨ha, hp, f.mono fun x _ hx => mem_nub.2 hx⟩) (fun _ h => h) ?_))⟩))))⟩
  rintro _ w4 rfl H4
  exact ⟨_, rfl, rfl, H4.get 0, H4.fr⟩
theorem p_proper1 {w : World} {i dn : Nat} {d : Nd} {x : UInt8} (h : DrP w m sr ms l.length) (hD : ∀ e ∈ [En.gr s l, .pr b ow s (some m, sr) hs ls ds], e.P w ∧ ∀ x ∈ e.fp, x ∉ m :: blkL sr) (hi : l[i]? = some d) (hst : d.x.st = ⟨0, 1, 0⟩) (hlt : KidsLt (xs l)) (hll : l.length ≤ 1000) (hkl : ∀ e ∈ l, e.x.kids.length ≤ 1000)
    (hdec : ∀ e ∈ l, e.x.op = 0 → sget ms e.x.tx = some (.bool true)) (hdn : ds[i]? = some dn) (h97 : 97 ≤ x.toNat) (h122 : x.toNat ≤ 122) :
    Calls Tryz.prog n_print_printer_proper #[.pointer (some (at0 b)), Cm.v ⟨1, ba [x], ⟨0, 0, 0⟩, (i : Int), 0⟩] w fun r w' => r = .returned (.i (if 64 < dn then 4 else 0)) ∧ DrP w' m sr ms l.length ∧ Fr (· ∈ m :: blkL sr) w w' := by
  have gn := gr_n (gr_P.1 (hD (.gr s l) (by simp)).1)
  have hil := (List.getElem?_eq_some_iff.1 hi).1
  refine print_printer_proper.okT (at0 b) 1 (ba [x]) 0 0 0 (i : Int) 0 w _ ((dr_start h hD).newg fun b3 w1 H1 => ?_)
  iterate 11 (first | refine sel_false rfl ?_ | refine sel_true rfl ?_)
  refine H1.callg (p_name1 x h97 h122 w1) ?_
  rintro _ w2 rfl H2
  refine ⟨_, rfl, sel_false rfl (sel_true rfl (sel_false (decide_eq_false (by omega)) (H2.locg fun w3 H3 => ⟨s, by rw [add_add]; exact (pr_mr (H3.getD 1)).2.2, sel_false (decide_eq_false (by omega)) (sel_false rfl (sel_true rfl (H3.ownF 0 (.dr m sr ms l.length) rfl ((p_term (H3.get 0) (dr_hD (s := s) (l := l) (ow := ow) (hs := hs) (ls := ls) (ds := ds) H3 (i := 0) rfl (by simp) (by simp)) hi hst hlt hll hkl hdec hdn).mono fun r w' ⟨ha, hp, f⟩ => ⟨ha, hp, f.mono fun x _ hx => mem_nub.2 hx⟩) (fun _ h => h) ?_)))⟩)))⟩
  rintro _ w4 rfl H4
  exact ⟨_, rfl, rfl, H4.get 0, H4.fr⟩
end
end Go.Proofs.YtibaobaobnpdaaaGreatDoor
set_option maxRecDepth 100000
set_option maxHeartbeats 1000000
namespace Go.Proofs.YtibaobaobnpdaaaGreatDoor
open Go Go.W

section
variable {s : Sl} {l : List Nd} {b m n : Nat} {ow : List Nat} {sr : Sl} {hs : List ByteArray} {ls ds : List Nat} {ms : List (ByteArray × Value)}
theorem p_len0 {w : World} {d : Cm} (hk : d.k = 0) (hn : d.nm.size ≤ 1000) (hv : validS d.st = true ∧ (srtB d.st).size ≤ 1000) (p : Addr) : Calls Tryz.prog n_print_printer_lineLength #[.pointer (some p), d.v] w fun r w' => r = .returned (.i ((capN ((headC d).size + 2) : Nat) : Int)) ∧ Fr0 w w' := by
  have hsz : (headC d).size ≤ 100000 := by
    unfold headC
    rw [if_pos hk]
    simp only [ByteArray.size_append]
    have s9 : (ByteArray.mk #[40, 100, 101, 99, 108, 97, 114, 101, 32]).size = 9 := rfl
    have s1 : (ByteArray.mk #[32]).size = 1 := rfl
    omega
  refine print_printer_lineLength.okT p d.k d.nm d.st.k d.st.n d.st.x d.nd d.n w _ ((lh0 [] (by simp)).newg fun b3 w1 H1 => H1.callg (p_head (.inl hk) hn (fun _ => hv) w1) ?_)
  rintro _ w2 rfl H2
  have e : IntKind.wrap .i64 (((headC d).size : Int) + 2) = (((headC d).size + 2 : Nat) : Int) := by rw [IntWalk.i64_in _ (by omega)]; omega
  refine ⟨_, rfl, sel_false (by rw [hk]; rfl) (sel_false (by rw [hk]; rfl) ?_)⟩
  rw [e]
  refine H2.call (p_cap _ w2) ?_
  rintro _ w3 rfl H3
  exact ⟨_, rfl, rfl, H3.fr⟩
theorem p_len1 {w : World} {d : Cm} {i ln : Nat} {mr : Option Nat × Sl} (hk : d.k = 1) (hn : d.nm.size ≤ 1000) (hr : PrRep w b s mr hs ls ds ow) (hi : d.nd = (i : Int)) (hl : ls[i]? = some ln) (hln : ln ≤ 100000) : Calls Tryz.prog n_print_printer_lineLength #[.pointer (some (at0 b)), d.v] w fun r w' => r = .returned (.i ((capN ((headC d).size + 2 + ln) : Nat) : Int)) ∧ Fr0 w w' := by
  have hsz : (headC d).size ≤ 100000 := by
    unfold headC
    rw [if_neg (by omega)]
    simp only [ByteArray.size_append]
    have s8 : (ByteArray.mk #[40, 97, 115, 115, 101, 114, 116, 32]).size = 8 := rfl
    have s1 : (ByteArray.mk #[32]).size = 1 := rfl
    omega
  have H : LH F0 w w [] [.pr b ow s mr hs ls ds] := lh0 _ (by intro e he; rw [List.mem_singleton.1 he]; exact hr)
  refine print_printer_lineLength.okT (at0 b) d.k d.nm d.st.k d.st.n d.st.x d.nd d.n w _ (H.newg fun b3 w1 H1 => H1.callg (p_head (.inr hk) hn (fun h => by omega) w1) ?_)
  rintro _ w2 rfl H2
  have e : IntKind.wrap .i64 (((headC d).size : Int) + 2) = (((headC d).size + 2 : Nat) : Int) := by rw [IntWalk.i64_in _ (by omega)]; omega
  refine ⟨_, rfl, sel_true (by rw [hk]; rfl) (H2.locg fun w3 H3 => ?_)⟩
  obtain ⟨sh, sl, sd, c0, c1, c2, c3, r1, r2, r3⟩ := pr_cells (H3.getD 0)
  refine ⟨sl, c2, row_at r2 hi (v := natV ln) (by rw [List.getElem?_map, hl]; rfl) fun p hp hc => ⟨_, hc, ?_⟩⟩
  have e2 : IntKind.wrap .i64 ((((headC d).size + 2 : Nat) : Int) + (ln : Int)) = (((headC d).size + 2 + ln : Nat) : Int) := by rw [IntWalk.i64_in _ (by omega)]; omega
  rw [e, e2]
  refine H3.call (p_cap _ w3) ?_
  rintro _ w4 rfl H4
  exact ⟨_, rfl, rfl, H4.fr⟩
end
/-! ### Script -/
section
variable {hd : Nx → ByteArray} {s cs : Sl} {l : List Nd}
def scrT (c0 c1 : Cm) (t : List UInt8) : List UInt8 := bl (headC c0) ++ [41, 10] ++ (bl (headC c1) ++ t ++ [41, 10])
def scrV (dn : Nat) (t : List UInt8) : Value := if 64 < dn then .tuple #[.s0, .i 4] else .tuple #[.string ⟨t.toArray⟩, .i 0]
theorem c_Script {w : World} {c0 c1 : Cm} (h : GP w s l) (hc : RdN 7 w cs ([c0, c1].flatMap Cm.c)) (hk : kcE.P w) (hT : l.length ≤ 4096 → ∀ d ∈ l, TOk d.x ∧ WdN d.x) (hv : vldX (xs l) = 0) (ho : PtOk hd l) (hll : l.length ≤ 1000)
    {i0 i1 dn : Nat} {d0 d1 : Nd} {x0 x1 : UInt8} (g0 : l[i0]? = some d0) (g1 : l[i1]? = some d1) (h0 : d0.x.op = 0) (hx0 : d0.x.tx = ba [x0]) (h97 : 97 ≤ x0.toNat ∧ 97 ≤ x1.toNat) (h122 : x0.toNat ≤ 122 ∧ x1.toNat ≤ 122) (hst : d1.x.st = ⟨0, 1, 0⟩) (hall : ∀ e ∈ l, e.x.op = 0 → e.x.tx = d0.x.tx)
    (e0 : c0 = ⟨0, d0.x.tx, d0.x.st, (i0 : Int), 0⟩) (e1 : c1 = ⟨1, ba [x1], ⟨0, 0, 0⟩, (i1 : Int), 0⟩) (hsv : validS d0.x.st = true ∧ (srtB d0.x.st).size ≤ 1000) {t : List UInt8} (ht : (txsX hd (xs l))[i1]? = some t) (htl : t.length ≤ 10000) (hn : (dpsX (xs l))[i1]? = some dn) :
    Calls Tryz.prog n_print_Script #[.agg #[s.v, cs.v]] w fun r w' => r = .returned (scrV dn (scrT c0 c1 t)) ∧ Fr0 w w' := by
  have hsn := gr_n h
  have hxl : (xs l).length = l.length := by simp [xs]
  have hlt : KidsLt (xs l) := by
    intro j n hj k hk'
    have hj' : (l.map Nd.x)[j]? = some n := hj
    rw [List.getElem?_map] at hj'
    obtain ⟨e, he, rfl⟩ := Option.map_eq_some_iff.1 hj'
    exact ho.kids j e he k hk'
  have hkl := ho.few
  have hcn : cs.n = 2 := by have := hc.1; rw [flat_length Cm.c 7 Cm.c_len] at this; simp at this; omega
  have hln : (lnsX hd (xs l))[i1]? = some (capN t.length) := by rw [lns_txs, List.getElem?_map, ht]; rfl
  have hct : capN t.length = t.length := by unfold capN; omega
  rw [hct] at hln
  have k0 : c0.k = 0 := by rw [e0]
  have k1 : c1.k = 1 := by rw [e1]
  have z0 : c0.nm.size = 1 := by rw [e0]; show d0.x.tx.size = 1; rw [hx0]; rfl
  have z1 : c1.nm.size = 1 := by rw [e1]; rfl
  have v0 : c0.v = Cm.v ⟨0, d0.x.tx, d0.x.st, (i0 : Int), 0⟩ := by rw [e0]
  have v1 : c1.v = Cm.v ⟨1, ba [x1], ⟨0, 0, 0⟩, (i1 : Int), 0⟩ := by rw [e1]
  have hs0 : validS c0.st = true ∧ (srtB c0.st).size ≤ 1000 := by rw [e0]; exact hsv
  have n1 : c1.nd = (i1 : Int) := by rw [e1]
  clear e0 e1
  have hz0 : (headC c0).size ≤ 2000 := by
    unfold headC
    rw [if_pos k0]
    simp only [ByteArray.size_append]
    have s9 : (ByteArray.mk #[40, 100, 101, 99, 108, 97, 114, 101, 32]).size = 9 := rfl
    have s1 : (ByteArray.mk #[32]).size = 1 := rfl
    omega
  have hz1 : (headC c1).size ≤ 2000 := by
    unfold headC
    rw [if_neg (by omega)]
    simp only [ByteArray.size_append]
    have s8 : (ByteArray.mk #[40, 97, 115, 115, 101, 114, 116, 32]).size = 8 := rfl
    have s1 : (ByteArray.mk #[32]).size = 1 := rfl
    omega
  have H : LH F0 w w [] [.gr s l, kcE, .rdn 7 cs ([c0, c1].flatMap Cm.c)] := lh0 _ (by
    intro e he
    simp only [List.mem_cons, List.not_mem_nil, or_false] at he
    rcases he with rfl | rfl | rfl
    · exact gr_P.2 h
    · exact hk
    · exact hc)
  refine print_Script.okT s cs w _ (H.newg fun b2 w1 H1 => H1.callg (t_Valid (gr_P.1 (H1.getD 0)) (H1.getD 1) hT) ?_)
  rintro _ w2 rfl H2
  rw [hv]
  refine ⟨_, rfl, sel_false rfl (H2.callg (A := NewPr w2 s l hd) ((c_newX (gr_P.1 (H2.getD 0)) ho).mono fun r w' h => ⟨h, by obtain ⟨_, _, _, _, _, h⟩ := h; exact h.fr⟩) ?_)⟩
  rintro _ w3 ⟨b, m, sr, own, rfl, HX⟩ _
  have hnm : m ∉ blkL sr := fun hm => disj_of HX.nd (i := 1) rfl (j := 2) rfl (by decide) m (by simp [En.ob]) hm
  have hbn : ∀ {i : Nat} {e : En}, [En.pr b own s (some m, sr) ((xs l).map hd) (lnsX hd (xs l)) (dpsX (xs l)), .ob m (.map #[] 0), boolR sr (List.replicate l.length false)][i]? = some e → ∀ x ∈ e.fp, w2.heap.size ≤ x := fun hi x hx => (HX.new _ (List.mem_of_getElem? hi) x hx).resolve_right id
  have H3 : LH F0 w w3 ([.g b2] ++ [.dr m sr [] l.length]) ([.gr s l, kcE, .rdn 7 cs ([c0, c1].flatMap Cm.c)] ++ [.pr b own s (some m, sr) ((xs l).map hd) (lnsX hd (xs l)) (dpsX (xs l))]) := by
    refine H2.push2 (.dr m sr [] l.length) (.pr b own s (some m, sr) ((xs l).map hd) (lnsX hd (xs l)) (dpsX (xs l))) HX.fr ⟨hnm, #[], 0, List.replicate l.length false, HX.ob 1, rfl, by simp, HX.get 2⟩ (HX.get 0) (fun x hx => ?_) (fun x hx => hbn (i := 0) rfl x hx)
    rcases List.mem_cons.1 (mem_nub.1 hx) with rfl | hx
    · exact ⟨hbn (i := 1) rfl _ (by simp [En.ob]), fun hp => disj_of HX.nd (i := 1) rfl (j := 0) rfl (by decide) _ (by simp [En.ob]) hp⟩
    · exact ⟨hbn (i := 2) rfl _ hx, fun hp => disj_of HX.nd (i := 2) rfl (j := 0) rfl (by decide) _ hx hp⟩
  refine ⟨_, rfl, print_Script.L0T_step _ _ _ _ _ _ _ _ _ _ (sel_true (decide_eq_true (by omega)) (Cm.at' (i := 0) (H3.getD 2) rfl rfl fun p hp c => ⟨c0.k, c0.nm, c0.st.k, c0.st.n, c0.st.x, c0.nd, c0.n, c.c0, c.c1, c.c2, c.c3, c.c4, c.c5, c.c6, H3.newg fun b8 w4 H4 => H4.locg fun w5 H5 => ?_⟩))⟩
  show cf1 [b2, b8] n_print_printer_proper #[.pointer (some (at0 b)), c0.v] w5 _
  rw [v0]
  refine H5.ownF 1 (.dr m sr ([] ++ [(d0.x.tx, .bool true)]) l.length) rfl ((p_proper0 (H5.get 1) (dr_hD (s := s) (l := l) (ow := own) H5 (i := 1) rfl (List.mem_of_getElem? (i := 0) rfl) (List.mem_of_getElem? (i := 3) rfl)) g0 h0 hx0 h97.1 h122.1 rfl).mono fun r w' ⟨ha, hp, f⟩ => ⟨ha, hp, f.mono fun x _ hx => mem_nub.2 hx⟩) (fun _ h => h) ?_
  rintro _ w6 rfl H6
  refine ⟨_, rfl, sel_false rfl (H6.callg (p_len0 k0 (by omega) hs0 (at0 b)) ?_)⟩
  rintro _ w7 rfl H7
  have hc0 : capN ((headC c0).size + 2) = (headC c0).size + 2 := by unfold capN; omega
  have ez : IntKind.wrap .i64 ((0 : Int) + ((capN ((headC c0).size + 2) : Nat) : Int)) = (((headC c0).size + 2 : Nat) : Int) := by rw [hc0, IntWalk.i64_in _ (by omega)]; omega
  refine ⟨_, rfl, ?_⟩
  dsimp only
  rw [ez]
  refine H7.callg (p_cap _ w7) ?_
  rintro _ w8 rfl H8
  rw [hc0]
  refine ⟨_, rfl, ?_⟩
  dsimp only
  rw [show IntKind.wrap .i64 ((0 : Int) + 1) = 1 from rfl]
  refine print_Script.L0T_step _ _ _ _ _ _ _ _ _ _ (sel_true (decide_eq_true (by omega)) (Cm.at' (i := 1) (H8.getD 2) rfl rfl fun p hp c => ⟨c1.k, c1.nm, c1.st.k, c1.st.n, c1.st.x, c1.nd, c1.n, c.c0, c.c1, c.c2, c.c3, c.c4, c.c5, c.c6, H8.newg fun b9 w9 H9 => H9.locg fun w10 H10 => ?_⟩))
  show cf1 [b2, b9] n_print_printer_proper #[.pointer (some (at0 b)), c1.v] w10 _
  rw [v1]
  refine H10.ownF 1 (.dr m sr ([] ++ [(d0.x.tx, .bool true)]) l.length) rfl ((p_proper1 (H10.get 1) (dr_hD (s := s) (l := l) (ow := own) H10 (i := 1) rfl (List.mem_of_getElem? (i := 0) rfl) (List.mem_of_getElem? (i := 3) rfl)) g1 hst hlt hll hkl (fun e he h0 => by rw [hall e he h0]; simp [sget]) hn h97.2 h122.2).mono fun r w' ⟨ha, hp, f⟩ => ⟨ha, hp, f.mono fun x _ hx => mem_nub.2 hx⟩) (fun _ h => h) ?_
  rintro _ w11 rfl H11
  refine ⟨_, rfl, ?_⟩
  by_cases h64 : 64 < dn
  · rw [if_pos h64]
    exact sel_true rfl ⟨by unfold scrV; rw [if_pos h64], H11.fr⟩
  rw [if_neg h64]
  refine sel_false rfl (H11.callg (p_len1 (hs := (xs l).map hd) (ds := dpsX (xs l)) k1 (by omega) (H11.getD 3) n1 hln (by omega)) ?_)
  rintro _ w12 rfl H12
  have hc1 : capN ((headC c1).size + 2 + t.length) = (headC c1).size + 2 + t.length := by unfold capN; omega
  have ez1 : IntKind.wrap .i64 ((((headC c0).size + 2 : Nat) : Int) + ((capN ((headC c1).size + 2 + t.length) : Nat) : Int)) = ((scrT c0 c1 t).length : Int) := by
    rw [hc1, IntWalk.i64_in _ (by omega)]
    have a0 : (bl (headC c0)).length = (headC c0).size := rfl
    have a1 : (bl (headC c1)).length = (headC c1).size := rfl
    unfold scrT
    simp only [List.length_append, List.length_cons, List.length_nil, a0, a1]
    omega
  refine ⟨_, rfl, ?_⟩
  dsimp only
  rw [ez1]
  refine H12.callg (p_cap _ w12) ?_
  rintro _ w13 rfl H13
  have htot : (scrT c0 c1 t).length = (headC c0).size + 2 + ((headC c1).size + t.length + 2) := by
    have a0 : (bl (headC c0)).length = (headC c0).size := rfl
    have a1 : (bl (headC c1)).length = (headC c1).size := rfl
    unfold scrT
    simp only [List.length_append, List.length_cons, List.length_nil, a0, a1]
  have hct2 : capN (scrT c0 c1 t).length = (scrT c0 c1 t).length := by unfold capN; omega
  rw [hct2]
  refine ⟨_, rfl, ?_⟩
  dsimp only
  rw [show IntKind.wrap .i64 ((1 : Int) + 1) = 2 from rfl]
  refine print_Script.L0T_step _ _ _ _ _ _ _ _ _ _ (sel_false (decide_eq_false (by omega)) (sel_false (decide_eq_false (by omega)) (H13.nw fun w14 hs14 H14 => ?_)))
  have H14 : LH F0 w w14 ([.g b2, .dr m sr ([] ++ [(d0.x.tx, .bool true)]) l.length, .g b8, .g b9] ++ [.c w13.heap.size [.pointer none, .slice none 0 0] ty_strings_Builder]) ([.gr s l, kcE, .rdn 7 cs ([c0, c1].flatMap Cm.c)] ++ [.pr b own s (some m, sr) ((xs l).map hd) (lnsX hd (xs l)) (dpsX (xs l))]) := H14
  have hraw := H14.ob 4
  have H15 := H14.group (.bd w13.heap.size [w13.heap.size] []) ⟨none, ⟨none, 0, 0⟩, .inl rfl, rfl, hraw, Ow.nil _ _⟩ (fun x hx => by simpa [En.ob] using mem_nub.1 hx)
  refine H15.bdF 4 rfl (bd_Grow hraw (n := (scrT c0 c1 t).length) (by omega)) ?_
  rintro _ w15 own5 rfl H16
  have s0 : (bl (headC c0)).length = (headC c0).size := rfl
  have s1 : (bl (headC c1)).length = (headC c1).size := rfl
  have nl : bl (ByteArray.mk #[41, 10]) = [41, 10] := rfl
  have nz : (ByteArray.mk #[41, 10]).size = 2 := rfl
  refine ⟨rfl, print_Script.L1T_step _ _ _ _ _ _ _ (sel_true (decide_eq_true (by omega)) (Cm.at' (i := 0) (H16.getD 2) rfl rfl fun p hp c => ⟨c0.k, c0.nm, c0.st.k, c0.st.n, c0.st.x, c0.nd, c0.n, c.c0, c.c1, c.c2, c.c3, c.c4, c.c5, c.c6, H16.newg (fun b12 w16 H17 => H17.locg (fun w17 H18 => ?_) (by simp)) (by simp)⟩))⟩
  refine H18.callg (p_head (d := c0) (.inl k0) (by omega) (fun _ => hs0) w17) ?_
  rintro _ w18 rfl H19
  refine ⟨_, rfl, H19.bdF 4 rfl (bd_str (H19.get 4) (headC c0) (by simp; omega)) ?_ (by simp)⟩
  rintro _ w19 own6 rfl H20
  refine ⟨_, _, rfl, sel_false (by rw [k0]; rfl) (sel_false (by rw [k0]; rfl) (H20.bdC 4 rfl (bd_str (H20.get 4) (ByteArray.mk #[41, 10]) (by rw [nz]; simp only [List.length_append, List.length_nil]; omega)) ?_))⟩
  rintro _ w20 own7 rfl H21
  refine ⟨_, _, rfl, ?_⟩
  dsimp only
  rw [show IntKind.wrap .i64 ((0 : Int) + 1) = 1 from rfl]
  refine print_Script.L1T_step _ _ _ _ _ _ _ (sel_true (decide_eq_true (by omega)) (Cm.at' (i := 1) (H21.getD 2) rfl rfl fun p hp c => ⟨c1.k, c1.nm, c1.st.k, c1.st.n, c1.st.x, c1.nd, c1.n, c.c0, c.c1, c.c2, c.c3, c.c4, c.c5, c.c6, H21.newg (fun b13 w21 H22 => H22.locg (fun w22 H23 => ?_) (by simp)) (by simp)⟩))
  refine H23.callg (p_head (d := c1) (.inr k1) (by omega) (fun h => by omega) w22) ?_
  rintro _ w23 rfl H24
  refine ⟨_, rfl, H24.bdF 4 rfl (bd_str (H24.get 4) (headC c1) (by rw [nl]; simp only [List.length_append, List.length_cons, List.length_nil]; omega)) ?_ (by simp)⟩
  rintro _ w24 own8 rfl H25
  refine ⟨_, _, rfl, sel_true (by rw [k1]; rfl) ?_⟩
  show cf4 [b13] n_print_printer_write #[.pointer (some (at0 b)), .pointer (some (at0 w13.heap.size)), .i c1.nd] w24 _
  rw [n1]
  have hdis : ∀ {w w' : World} {L : List En} {o : List Nat} {bs : List UInt8}, LH F0 w w' L ([.gr s l, kcE, .rdn 7 cs ([c0, c1].flatMap Cm.c)] ++ [.pr b own s (some m, sr) ((xs l).map hd) (lnsX hd (xs l)) (dpsX (xs l))]) → L[4]? = some (.bd w13.heap.size o bs) → ∀ e ∈ [En.gr s l, .pr b own s (some m, sr) ((xs l).map hd) (lnsX hd (xs l)) (dpsX (xs l))], e.P w' ∧ ∀ x ∈ e.fp, x ∉ o := by
    intro w w' L o bs H hL e he
    have hm : e ∈ ([.gr s l, kcE, .rdn 7 cs ([c0, c1].flatMap Cm.c)] ++ [.pr b own s (some m, sr) ((xs l).map hd) (lnsX hd (xs l)) (dpsX (xs l))] : List En) := by
      simp only [List.mem_cons, List.not_mem_nil, or_false] at he
      rcases he with rfl | rfl
      · exact List.mem_of_getElem? (i := 0) rfl
      · exact List.mem_of_getElem? (i := 3) rfl
    exact ⟨H.rd e hm, fun x hx hx' => H.dj e hm x hx (.bd w13.heap.size o bs) (List.mem_of_getElem? hL) (mem_nub.2 hx')⟩
  refine H25.bdF 4 rfl (c_write (hd := hd) ho.kids ho.few i1 t w24 _ own8 _ ht (H25.get 4) (hdis H25 rfl) (by rw [nl]; simp only [List.length_append, List.length_cons, List.length_nil]; omega)) ?_ (by simp)
  rintro _ w25 own9 rfl H26
  refine ⟨rfl, H26.bdC 4 rfl (bd_str (H26.get 4) (ByteArray.mk #[41, 10]) (by rw [nl, nz]; simp only [List.length_append, List.length_cons, List.length_nil]; omega)) ?_⟩
  rintro _ w26 own10 rfl H27
  refine ⟨_, _, rfl, ?_⟩
  dsimp only
  rw [show IntKind.wrap .i64 ((1 : Int) + 1) = 2 from rfl, nl] at *
  refine print_Script.L1T_step _ _ _ _ _ _ _ (sel_false (decide_eq_false (by omega)) ((bd_String (H27.get 4) (by simp)).mono ?_))
  rintro _ w27 ⟨rfl, f7⟩
  refine ⟨_, rfl, ?_, H27.fr.trans f7 fun x hx hm => ?_⟩
  · unfold scrV scrT
    rw [if_neg h64]
    simp [List.append_assoc]
  · have := H27.new (.bd w13.heap.size own10 _) (List.mem_of_getElem? (i := 4) rfl) x (mem_nub.2 hm)
    rcases this with h | h
    · omega
    · exact h
end
end Go.Proofs.YtibaobaobnpdaaaGreatDoor
set_option maxRecDepth 100000
set_option maxHeartbeats 1000000
namespace Go.Proofs.YtibaobaobnpdaaaGreatDoor
open Go Go.W

theorem vldG_of : ∀ {r g : List Nx}, Vg (g ++ r) → vldG g r = 0
  | [], _, _ => rfl
  | n :: r, g, h => by
    have hg : (g ++ n :: r)[g.length]? = some n := by simp
    have h1 := h.ok _ _ hg
    have h2 := vg_new h _ _ hg
    rw [List.take_left] at h1 h2
    rw [vldG_cons, h1, if_neg (fun h => h rfl), if_neg (fun h => h rfl), if_neg h2]
    exact vldG_of (by rw [List.append_assoc]; exact h)
theorem vldX_of {g : List Nx} (h : Vg g) (hl : g.length ≤ 4096) : vldX g = 0 := by
  unfold vldX
  rw [if_neg (by omega)]
  exact vldG_of (by rwa [List.nil_append])
abbrev bitS : Srt := ⟨0, 1, 0⟩
def lnV (nm : ByteArray) : Nx := ⟨0, [], 0, 0, 0, nm, bitS⟩
def lnK (dbl : Bool) (i : Nat) : List Int := if dbl then [(i : Int), (i : Int)] else [(i : Int)]
def lnN (dbl : Bool) (i : Nat) : Nx := ⟨if dbl then 7 else 4, lnK dbl i, 0, 0, 0, ba [], bitS⟩
def linG (nm : ByteArray) (dbl : Bool) : Nat → List Nx
  | 0 => [lnV nm]
  | n + 1 => linG nm dbl n ++ [lnN dbl n]
def lnAt (nm : ByteArray) (dbl : Bool) : Nat → Nx
  | 0 => lnV nm
  | i + 1 => lnN dbl i
section
variable {nm : ByteArray} {dbl : Bool}
theorem lin_len : ∀ n : Nat, (linG nm dbl n).length = n + 1
  | 0 => rfl
  | n + 1 => by unfold linG; rw [List.length_append, lin_len n]; rfl
theorem lin_get : ∀ (n i : Nat), i ≤ n → (linG nm dbl n)[i]? = some (lnAt nm dbl i)
  | 0, i, h => by obtain rfl : i = 0 := by omega
                  rfl
  | n + 1, i, h => by
    unfold linG
    by_cases hi : i ≤ n
    · rw [List.getElem?_append_left (by rw [lin_len]; omega)]
      exact lin_get n i hi
    · obtain rfl : i = n + 1 := by omega
      rw [List.getElem?_append_right (by rw [lin_len]; omega), lin_len, Nat.sub_self]
      rfl
theorem lin_mem {n : Nat} {x : Nx} (h : x ∈ linG nm dbl n) : ∃ i, i ≤ n ∧ x = lnAt nm dbl i := by
  obtain ⟨i, hi⟩ := List.mem_iff_getElem?.1 h
  have hl := (List.getElem?_eq_some_iff.1 hi).1
  rw [lin_len] at hl
  rw [lin_get n i (by omega)] at hi
  exact ⟨i, by omega, (Option.some.inj hi).symm⟩
theorem lnK_inj {i j : Nat} (h : lnK dbl i = lnK dbl j) : i = j := by
  unfold lnK at h
  cases dbl <;> simp at h <;> omega
theorem lnK_ne {i : Nat} : lnK dbl i ≠ [] := by
  unfold lnK
  cases dbl <;> simp
theorem lnAt_inj {i j : Nat} (h : lnAt nm dbl i = lnAt nm dbl j) : i = j := by
  have hk := congrArg Nx.kids h
  cases i with
  | zero => cases j with
    | zero => rfl
    | succ j => exact absurd hk.symm lnK_ne
  | succ i => cases j with
    | zero => exact absurd hk lnK_ne
    | succ j => rw [lnK_inj hk]
theorem lnAt_st (i : Nat) : (lnAt nm dbl i).st = bitS := by cases i <;> rfl
theorem ln_srt {n i : Nat} (h : i ≤ n) (d : Nx) (hd : d = lnN dbl i ∨ d = { lnN dbl i with st := noS }) : srtX (linG nm dbl n) d = (bitS, 0) := by
  have hop : d.op = if dbl then 7 else 4 := by rcases hd with rfl | rfl <;> rfl
  have hks : d.kids = lnK dbl i := by rcases hd with rfl | rfl <;> rfl
  have hk : kidIn (linG nm dbl n) (i : Int) = true := by unfold kidIn; rw [lin_len]; simp; omega
  have hok : okF d = true := by rcases hd with rfl | rfl <;> cases dbl <;> rfl
  have h0 : kst (linG nm dbl n) d 0 = bitS := by
    unfold kst
    rw [hks]
    cases dbl <;> simp [lnK, lin_get n i h, lnAt_st]
  have h1 : dbl = true → kst (linG nm dbl n) d 1 = bitS := by
    intro hb
    unfold kst
    rw [hks]
    subst hb
    simp [lnK, lin_get n i h, lnAt_st]
  unfold srtX
  cases dbl with
  | false =>
    have hop : d.op = 4 := hop
    rw [if_neg (by rw [hop, hks, hok]; simp [lnK, hk, kidsN]), if_neg (by omega), h0, hop]
    rw [if_neg (by simp [fitX]), if_neg (by unfold rngX; rw [hop]; simp), if_neg (by omega)]
    unfold resX
    rw [hop]
    rfl
  | true =>
    have hop : d.op = 7 := hop
    rw [if_neg (by rw [hop, hks, hok]; simp [lnK, hk, kidsN]), if_neg (by omega), h0, h1 rfl, hop]
    rw [if_neg (by simp [fitX]), if_neg (by unfold rngX; rw [hop]; simp), if_neg (by omega)]
    unfold resX
    rw [hop]
    rfl
theorem lin_vg (hn : nameB (bl nm) = true) : ∀ n : Nat, Vg (linG nm dbl n)
  | 0 => by
    refine (Vg.snoc .nil ?_ (by simp) : Vg ([] ++ [lnV nm]))
    show srtX [] (lnV nm) = (bitS, 0)
    unfold srtX lnV
    rw [if_neg (by simp [kidsN, okF, hasN, hasT]), if_pos (by show (0 : Int) ≤ 3; decide)]
    unfold leafX
    rw [if_neg (by show ¬ (0 : Int) = 2; decide), if_neg (by simp [hn]), if_neg (by show ¬ validS bitS = false; decide), if_neg (by simp), if_neg (by simp), if_neg (by simp [twice, varS])]
  | n + 1 => by
    refine .snoc (lin_vg hn n) (ln_srt (Nat.le_refl n) _ (.inl rfl)) fun hm => ?_
    obtain ⟨i, hi, e⟩ := lin_mem hm
    have : lnAt nm dbl (n + 1) = lnAt nm dbl i := e
    have := lnAt_inj this
    omega
theorem lin_valid (hn : nameB (bl nm) = true) {n : Nat} (h : n ≤ 1000) : vldX (linG nm dbl n) = 0 := vldX_of (lin_vg hn n) (by rw [lin_len]; omega)
theorem idx_app {x : Nx} : ∀ {g : List Nx} {k : Nat}, x ∉ g → ∀ r, idxX x (g ++ x :: r) k = some (k + g.length)
  | [], k, _, r => by simp [idxX]
  | d :: g, k, h, r => by
    rw [List.cons_append]
    unfold idxX
    rw [if_neg (fun e => h (by simp [e])), idx_app (fun hm => h (by simp [hm])) r, List.length_cons]
    congr 1
    omega
theorem lin_app : ∀ (n m : Nat), ∃ r, linG nm dbl (n + m) = linG nm dbl n ++ r
  | n, 0 => ⟨[], by simp⟩
  | n, m + 1 => by
    obtain ⟨r, hr⟩ := lin_app n m
    exact ⟨r ++ [lnN dbl (n + m)], by rw [← List.append_assoc, ← hr]; rfl⟩
theorem lin_idx {n i : Nat} (h : i < n) : idxX (lnN dbl i) (linG nm dbl n) 0 = some (i + 1) := by
  obtain ⟨r, hr⟩ := lin_app (nm := nm) (dbl := dbl) (i + 1) (n - (i + 1))
  have e : i + 1 + (n - (i + 1)) = n := by omega
  rw [e] at hr
  have e2 : linG nm dbl n = linG nm dbl i ++ lnN dbl i :: r := by rw [hr]; show linG nm dbl i ++ [lnN dbl i] ++ r = _; simp
  rw [e2, idx_app, lin_len]
  · congr 1; omega
  · intro hm
    obtain ⟨j, hj, ej⟩ := lin_mem hm
    have : lnAt nm dbl (i + 1) = lnAt nm dbl j := ej
    have := lnAt_inj this
    omega
/-! ### Depths and texts -/
theorem lin_deps : ∀ n : Nat, dpsX (linG nm dbl n) = List.range (n + 1)
  | 0 => rfl
  | n + 1 => by
    show dpsX (linG nm dbl n ++ [lnN dbl n]) = _
    have hg : atN (List.range (n + 1)) (n : Int) = n := by unfold atN; simp [List.getD_eq_getElem?_getD]
    rw [dps_snoc, lin_deps n, List.range_succ (n := n + 1)]
    congr 2
    unfold dep1
    rw [if_neg (by cases dbl <;> simp [lnN]), if_neg (show ¬ (lnN dbl n).kids = [] from lnK_ne)]
    cases dbl <;> simp [lnN, lnK, maxK, hg]
/-- the texts -/
def txL (nm : ByteArray) (dbl : Bool) : Nat → List UInt8
  | 0 => bl nm
  | i + 1 => if dbl then [40, 111, 114] ++ (32 :: txL nm dbl i ++ (32 :: txL nm dbl i)) ++ [41] else [40, 110, 111, 116] ++ (32 :: txL nm dbl i) ++ [41]
theorem lin_txs : ∀ n : Nat, txsX hdX (linG nm dbl n) = (List.range (n + 1)).map (txL nm dbl)
  | 0 => by
    show [tx1 hdX [] (lnV nm)] = [txL nm dbl 0]
    unfold tx1
    simp [lnV, hdX, txL]
  | n + 1 => by
    show txsX hdX (linG nm dbl n ++ [lnN dbl n]) = _
    rw [txs_snoc, lin_txs n, List.range_succ (n := n + 1), List.map_append]
    congr 1
    have hk : kidB ((List.range (n + 1)).map (txL nm dbl)) (n : Int) = 32 :: txL nm dbl n := by unfold kidB; simp [List.getD_eq_getElem?_getD]
    simp only [List.map_cons, List.map_nil]
    congr 1
    unfold tx1
    rw [if_neg (show ¬ (lnN dbl n).kids = [] from lnK_ne)]
    cases dbl with
    | false =>
      have hh : bl (hdX (lnN false n)) = [40, 110, 111, 116] := rfl
      rw [hh]
      show [40, 110, 111, 116] ++ ([(n : Int)].flatMap _) ++ [41] = _
      rw [List.flatMap_cons, List.flatMap_nil, hk, List.append_nil]
      rfl
    | true =>
      have hh : bl (hdX (lnN true n)) = [40, 111, 114] := rfl
      rw [hh]
      show [40, 111, 114] ++ ([(n : Int), (n : Int)].flatMap _) ++ [41] = _
      rw [List.flatMap_cons, List.flatMap_cons, List.flatMap_nil, hk, List.append_nil]
      rfl
theorem lin_tx {n i : Nat} (h : i ≤ n) : (txsX hdX (linG nm dbl n))[i]? = some (txL nm dbl i) := by
  rw [lin_txs, List.getElem?_map, List.getElem?_range (by omega)]
  rfl
theorem lin_dep {n i : Nat} (h : i ≤ n) : (dpsX (linG nm dbl n))[i]? = some i := by
  rw [lin_deps, List.getElem?_range (by omega)]
end
theorem not_len : ∀ i : Nat, (txL (ba [120]) false i).length = 6 * i + 1
  | 0 => rfl
  | i + 1 => by
    have := not_len i
    unfold txL
    simp
    omega
def dblL (m : Nat) : Nat → Nat
  | 0 => m
  | i + 1 => 2 * dblL m i + 6
theorem dbl_len (nm : ByteArray) : ∀ i : Nat, (txL nm true i).length = dblL nm.size i
  | 0 => rfl
  | i + 1 => by
    have := dbl_len nm i
    unfold txL dblL
    simp
    omega
theorem dbl_le {m : Nat} (h : m ≤ 16) : ∀ i : Nat, i ≤ 13 → dblL m i ≤ 1000000 := by
  intro i hi
  have k : ∀ i : Nat, dblL m i + 6 = 2 ^ i * (m + 6) := fun i => by
    induction i with
    | zero => simp [dblL]
    | succ i ih =>
      have e : 2 ^ i * 2 * (m + 6) = 2 * (2 ^ i * (m + 6)) := by rw [Nat.mul_comm (2 ^ i) 2, Nat.mul_assoc]
      unfold dblL; rw [Nat.pow_succ, e, ← ih]; omega
  have h1 := k i
  have h2 : 2 ^ i ≤ 2 ^ 13 := Nat.pow_le_pow_right (by decide) hi
  have h3 : 2 ^ i * (m + 6) ≤ 2 ^ 13 * 22 := Nat.mul_le_mul h2 (by omega)
  have h4 : 2 ^ 13 * 22 = 180224 := by decide
  omega
/-! ### What is asked of the nodes -/
section
variable {nm : ByteArray} {dbl : Bool}
theorem lnAt_tok (hs : nm.size ≤ 1000) {i : Nat} (h : i ≤ 1000) : TOk (lnAt nm dbl i) ∧ WdN (lnAt nm dbl i) ∧ HdN (lnAt nm dbl i) ∧ ((lnAt nm dbl i).op = 3 → (lnAt nm dbl i).kids = []) ∧ (lnAt nm dbl i).kids.length ≤ 1000 := by
  have hb : (ba ([] : List UInt8)).size = 0 := rfl
  cases i with
  | zero =>
    refine ⟨⟨by simp [lnAt, lnV], by show I64 0; decide, by show I64 0; decide, by simp [lnAt, lnV], by simp [lnAt, lnV]⟩, ?_, ?_, by simp [lnAt, lnV], by simp [lnAt, lnV]⟩
    · constructor <;> simp [lnAt, lnV, I64] <;> omega
    · constructor <;> simp [lnAt, lnV]
  | succ i =>
    cases dbl with
    | false =>
      refine ⟨⟨by simp [lnAt, lnN, lnK], by show I64 0; decide, by show I64 0; decide, by simp [lnAt, lnN], by simp [lnAt, lnN]⟩, ?_, ?_, by simp [lnAt, lnN], by simp [lnAt, lnN, lnK]⟩
      · constructor <;> simp [lnAt, lnN, lnK, I64, hb] <;> omega
      · constructor <;> simp [lnAt, lnN]
    | true =>
      refine ⟨⟨by simp [lnAt, lnN, lnK], by show I64 0; decide, by show I64 0; decide, by simp [lnAt, lnN], by simp [lnAt, lnN]⟩, ?_, ?_, by simp [lnAt, lnN], by simp [lnAt, lnN, lnK]⟩
      · constructor <;> simp [lnAt, lnN, lnK, I64, hb] <;> omega
      · constructor <;> simp [lnAt, lnN]
theorem lnAt_hd (hs : nm.size ≤ 1000 ∧ 0 < nm.size) (i : Nat) : (hdX (lnAt nm dbl i)).size ≤ 1000 ∧ 0 < (hdX (lnAt nm dbl i)).size := by
  cases i with
  | zero => exact hs
  | succ i =>
    cases dbl with
    | false => exact ⟨by show 4 ≤ 1000; omega, by show 0 < 4; omega⟩
    | true => exact ⟨by show 3 ≤ 1000; omega, by show 0 < 3; omega⟩
theorem lin_pt (hs : nm.size ≤ 1000 ∧ 0 < nm.size) {n : Nat} (h : n ≤ 900) {l : List Nd} (hx : xs l = linG nm dbl n) : PtOk hdX l ∧ (∀ d ∈ l, TOk d.x ∧ WdN d.x) ∧ (∀ d ∈ l, 0 < (hdX d.x).size) ∧ l.length = n + 1 := by
  have hl : l.length = n + 1 := by rw [← lin_len (nm := nm) (dbl := dbl) n, ← hx]; simp [xs]
  have hm : ∀ d ∈ l, ∃ i, i ≤ n ∧ d.x = lnAt nm dbl i := fun d hd => lin_mem (hx ▸ List.mem_map.2 ⟨d, hd, rfl⟩)
  refine ⟨⟨fun d hd => ?_, fun i d hi k hk => ?_, fun d hd => ?_, fun d hd => ?_, fun d hd => ?_, by omega⟩, fun d hd => ?_, fun d hd => ?_, hl⟩
  · obtain ⟨i, hi, e⟩ := hm d hd
    exact hd_ok (by rw [e]; exact (lnAt_tok hs.1 (by omega)).2.2.1)
  · have hi' := xs_get hi
    have hil := (List.getElem?_eq_some_iff.1 hi).1
    rw [hx, lin_get n i (by omega)] at hi'
    have e := Option.some.inj hi'
    rw [← e] at hk
    cases i with
    | zero => cases hk
    | succ i =>
      have hk : k ∈ lnK dbl i := hk
      unfold lnK at hk
      cases dbl <;> simp at hk <;> omega
  · obtain ⟨i, hi, e⟩ := hm d hd
    rw [e]; exact (lnAt_tok hs.1 (by omega)).2.2.2.1
  · obtain ⟨i, hi, e⟩ := hm d hd
    rw [e]; exact (lnAt_tok hs.1 (by omega)).2.2.2.2
  · obtain ⟨i, hi, e⟩ := hm d hd
    rw [e]; have := (lnAt_hd (dbl := dbl) hs i).1; omega
  · obtain ⟨i, hi, e⟩ := hm d hd
    rw [e]; have := lnAt_tok (dbl := dbl) hs.1 (i := i) (by omega); exact ⟨this.1, this.2.1⟩
  · obtain ⟨i, hi, e⟩ := hm d hd
    rw [e]; exact (lnAt_hd hs i).2
end
end Go.Proofs.YtibaobaobnpdaaaGreatDoor
set_option linter.unusedVariables false
set_option maxRecDepth 100000
set_option maxHeartbeats 2000000
namespace Go.Proofs.YtibaobaobnpdaaaGreatDoor
open Go Go.W
namespace strings_IndexByte
noncomputable abbrev X : Fx := ⟨Tryz.prog, Tryz.f65, [], []⟩
theorem ok (s0 : ByteArray) (c1 : Int) (w : World) (R : Post) (h : ca1 n_internal_stringslite_IndexByte #[.string s0, .int .u8 c1] w fun t7 w1 => R (.returned (.i t7)) w1) : Calls Tryz.prog n_strings_IndexByte #[.string s0, .int .u8 c1] w R := callsX X [] h
end strings_IndexByte
namespace internal_stringslite_IndexByte
noncomputable abbrev X : Fx := ⟨Tryz.prog, Tryz.f90, [], []⟩
theorem ok (s0 : ByteArray) (c1 : Int) (w : World) (R : Post) (h : ∃ t7 : Int, ∃ w1 : World, Sem.run Tryz.prog (callFunc n_internal_bytealg_IndexByteString #[.string s0, .int .u8 c1]) w = .ok (.value (.i t7)) w1 ∧ 
  R (.returned (.i t7)) w1) : Calls Tryz.prog n_internal_stringslite_IndexByte #[.string s0, .int .u8 c1] w R := callsX X [] h
end internal_stringslite_IndexByte
end Go.Proofs.YtibaobaobnpdaaaGreatDoor
