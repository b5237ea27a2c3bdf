/- Printed by a program of ours (vcgen.py) from the dump: the conditions of the functions, and that they suffice. Printed by a program of ours (vcgen.py) from the dump: the conditions of the functions, and that they suffice. Printed by a program of ours (vcgen.py) from the dump: the conditions of the functions, and that they suffice. Printed by a program of ours (vcgen.py) from the dump: the conditions of the functions, and that they suffice. Printed by a program of ours (vcgen.py) from the dump: the conditions of the functions, and that they suffice. Printed by a program of ours (vcgen.py) from the dump: the conditions of the functions, and that they suffice. Printed by a program of ours (vcgen.py) from the dump: the conditions of the functions, and that they suffice. Printed by a program of ours (vcgen.py) from the dump: the conditions of the functions, and that they suffice. Printed by a program of ours (vcgen.py) from the dump: the conditions of the functions, and that they suffice. Printed by a program of ours (vcgen.py) from the dump: the conditions of the functions, and that they suffice. Printed by a program of ours (vcgen.py) from the dump: the conditions of the functions, and that they suffice. Printed by a program of ours (vcgen.py) from the dump: the conditions of the functions, and that they suffice. Printed by a program of ours (vcgen.py) from the dump: the conditions of the functions, and that they suffice. -/
import Derived.Test.YtnpkhgljhcnpcaaGreatDoorU
import Derived.Test.YtnpkhgljhcnpcaaGreatDoorProg
import Derived.KernelRfl
set_option linter.unusedVariables false
set_option linter.unusedVariables false
set_option maxRecDepth 100000
set_option maxHeartbeats 2000000
namespace Go.Proofs.YtnpkhgljhcnpcaaGreatDoor
open Go Go.W
theorem mp {a b : Prop} (h : a) (e : a = b := by kernel_rfl) : b := e ▸ h
abbrev ExP := Exit → Act → World → Prop
abbrev KOk (P : Program) (n : Nat) (K : Env → World → Post → Prop) (c : Code) (Q : Post → ExP) : Prop := ∀ (R : Post) (E : Env) (w : World), K E w R → WP P (cx n) c (Q R) E w
abbrev LOk (P : Program) (n : Nat) (K : Env → World → Post → Prop) (c : Code) (Q : Post → ExP) : Prop := ∀ (R : Post) (E : Env) (w : World), K E w R → LP P (cx n) c (Q R) E w
abbrev ld4_0 (w : World) (p : Addr) (K : Int → Int → Int → Sl → Prop) : Prop := ∃ a0 : Int, ∃ a1 : Int, ∃ a2 : Int, ∃ a3 : Sl, w.cell? (p.add 0) = some (.i a0) ∧ w.cell? (p.add 1) = some (.int .u8 a1) ∧ w.cell? (p.add 2) = some (.int .u8 a2) ∧ w.cell? (p.add 3) = some (a3.v) ∧ K a0 a1 a2 a3
abbrev ld3_2 (w : World) (p : Addr) (K : Int → Int → Int → Prop) : Prop := ∃ a0 : Int, ∃ a1 : Int, ∃ a2 : Int, w.cell? (p.add 0) = some (.i a0) ∧ w.cell? (p.add 1) = some (.i a1) ∧ w.cell? (p.add 2) = some (.i a2) ∧ K a0 a1 a2
abbrev ld9_3 (w : World) (p : Addr) (K : Int → Sl → Int → Int → Int → ByteArray → Int → Int → Int → Prop) : Prop := ∃ a0 : Int, ∃ a1 : Sl, ∃ a2 : Int, ∃ a3 : Int, ∃ a4 : Int, ∃ a5 : ByteArray, ∃ a6 : Int, ∃ a7 : Int, ∃ a8 : Int, w.cell? (p.add 0) = some (.i a0) ∧ w.cell? (p.add 1) = some (a1.v) ∧ w.cell? (p.add 2) = some (.i a2) ∧ w.cell? (p.add 3) = some (.i a3) ∧ w.cell? (p.add 4) = some (.u a4) ∧ w.cell? (p.add 5) = some (.string a5) ∧ w.cell? (p.add 6) = some (.i a6) ∧ w.cell? (p.add 7) = some (.i a7) ∧ w.cell? (p.add 8) = some (.i a8) ∧ K a0 a1 a2 a3 a4 a5 a6 a7 a8
abbrev ld4_4 (w : World) (p : Addr) (K : Int → Int → Int → Int → Prop) : Prop := ∃ a0 : Int, ∃ a1 : Int, ∃ a2 : Int, ∃ a3 : Int, w.cell? (p.add 0) = some (.i a0) ∧ w.cell? (p.add 1) = some (.i a1) ∧ w.cell? (p.add 2) = some (.i a2) ∧ w.cell? (p.add 3) = some (.i a3) ∧ K a0 a1 a2 a3
abbrev ca0 (f : FuncId) (xs : Array Value) (w : World) (K : Bool → World → Prop) : Prop := Calls Tryz.prog f xs w fun r_ w1 => ∃ a0 : Bool, r_ = .returned (.bool a0) ∧ K a0 w1
abbrev cf0 (bs : List Nat) (f : FuncId) (xs : Array Value) (w : World) (K : Bool → World → Prop) : Prop := callF bs Tryz.prog f xs w fun r_ w1 => ∃ a0 : Bool, r_ = .returned (.bool a0) ∧ K a0 w1
abbrev ca1 (f : FuncId) (xs : Array Value) (w : World) (K : Int → World → Prop) : Prop := Calls Tryz.prog f xs w fun r_ w1 => ∃ a0 : Int, r_ = .returned (.i a0) ∧ K a0 w1
abbrev cf1 (bs : List Nat) (f : FuncId) (xs : Array Value) (w : World) (K : Int → World → Prop) : Prop := callF bs Tryz.prog f xs w fun r_ w1 => ∃ a0 : Int, r_ = .returned (.i a0) ∧ K a0 w1
abbrev ca2 (f : FuncId) (xs : Array Value) (w : World) (K : Int → Int → Int → Sl → World → Prop) : Prop := Calls Tryz.prog f xs w fun r_ w1 => ∃ a0 : Int, ∃ a1 : Int, ∃ a2 : Int, ∃ a3 : Sl, r_ = .returned (.agg #[.i a0, .int .u8 a1, .int .u8 a2, a3.v]) ∧ K a0 a1 a2 a3 w1
abbrev ca3 (f : FuncId) (xs : Array Value) (w : World) (K : Sl → World → Prop) : Prop := Calls Tryz.prog f xs w fun r_ w1 => ∃ a0 : Sl, r_ = .returned (a0.v) ∧ K a0 w1
abbrev ca4 (f : FuncId) (xs : Array Value) (w : World) (K : World → Prop) : Prop := Calls Tryz.prog f xs w fun r_ w1 => r_ = .returned (.tuple #[]) ∧ K w1
abbrev cf4 (bs : List Nat) (f : FuncId) (xs : Array Value) (w : World) (K : World → Prop) : Prop := callF bs Tryz.prog f xs w fun r_ w1 => r_ = .returned (.tuple #[]) ∧ K w1
abbrev cf6 (bs : List Nat) (f : FuncId) (xs : Array Value) (w : World) (K : Int → Bool → World → Prop) : Prop := callF bs Tryz.prog f xs w fun r_ w1 => ∃ a0 : Int, ∃ a1 : Bool, r_ = .returned (.tuple #[.i a0, .bool a1]) ∧ K a0 a1 w1
abbrev cf9 (bs : List Nat) (f : FuncId) (xs : Array Value) (w : World) (K : (Option Addr) → World → Prop) : Prop := callF bs Tryz.prog f xs w fun r_ w1 => ∃ a0 : Option Addr, r_ = .returned (.pointer a0) ∧ K a0 w1
abbrev ca10 (f : FuncId) (xs : Array Value) (w : World) (K : Value → World → Prop) : Prop := Calls Tryz.prog f xs w fun r_ w1 => ∃ a0 : Value, r_ = .returned (a0) ∧ K a0 w1
abbrev ca12 (f : FuncId) (xs : Array Value) (w : World) (K : (Option Nat) → World → Prop) : Prop := Calls Tryz.prog f xs w fun r_ w1 => ∃ a0 : Option Nat, r_ = .returned (.map a0) ∧ K a0 w1
abbrev ca15 (f : FuncId) (xs : Array Value) (w : World) (K : ByteArray → World → Prop) : Prop := Calls Tryz.prog f xs w fun r_ w1 => ∃ a0 : ByteArray, r_ = .returned (.string a0) ∧ K a0 w1
abbrev cf15 (bs : List Nat) (f : FuncId) (xs : Array Value) (w : World) (K : ByteArray → World → Prop) : Prop := callF bs Tryz.prog f xs w fun r_ w1 => ∃ a0 : ByteArray, r_ = .returned (.string a0) ∧ K a0 w1
abbrev cf17 (bs : List Nat) (f : FuncId) (xs : Array Value) (w : World) (K : Int → Int → Int → World → Prop) : Prop := callF bs Tryz.prog f xs w fun r_ w1 => ∃ a0 : Int, ∃ a1 : Int, ∃ a2 : Int, r_ = .returned (.agg #[.i a0, .i a1, .i a2]) ∧ K a0 a1 a2 w1
abbrev cf19 (bs : List Nat) (f : FuncId) (xs : Array Value) (w : World) (K : Int → Int → Int → Int → World → Prop) : Prop := callF bs Tryz.prog f xs w fun r_ w1 => ∃ a0 : Int, ∃ a1 : Int, ∃ a2 : Int, ∃ a3 : Int, r_ = .returned (.tuple #[.agg #[.i a0, .i a1, .i a2], .i a3]) ∧ K a0 a1 a2 a3 w1
abbrev cf22 (bs : List Nat) (f : FuncId) (xs : Array Value) (w : World) (K : ByteArray → Int → World → Prop) : Prop := callF bs Tryz.prog f xs w fun r_ w1 => ∃ a0 : ByteArray, ∃ a1 : Int, r_ = .returned (.tuple #[.string a0, .i a1]) ∧ K a0 a1 w1
abbrev ca24 (f : FuncId) (xs : Array Value) (w : World) (K : Int → World → Prop) : Prop := Calls Tryz.prog f xs w fun r_ w1 => ∃ a0 : Int, r_ = .returned (.u a0) ∧ K a0 w1
abbrev ca25 (f : FuncId) (xs : Array Value) (w : World) (K : Int → Value → World → Prop) : Prop := Calls Tryz.prog f xs w fun r_ w1 => ∃ a0 : Int, ∃ a1 : Value, r_ = .returned (.tuple #[.i a0, a1]) ∧ K a0 a1 w1
abbrev stW3 (w : World) (p : Addr) (v0 v1 v2 : Value) (K : World → Prop) : Prop := stV w p v0 fun w => stV w (p.add 1) v1 fun w => stV w (p.add 2) v2 fun w => K w
abbrev stW9 (w : World) (p : Addr) (v0 v1 v2 v3 v4 v5 v6 v7 v8 : Value) (K : World → Prop) : Prop := stV w p v0 fun w => stV w (p.add 1) v1 fun w => stV w (p.add 2) v2 fun w => stV w (p.add 3) v3 fun w => stV w (p.add 4) v4 fun w => stV w (p.add 5) v5 fun w => stV w (p.add 6) v6 fun w => stV w (p.add 7) v7 fun w => stV w (p.add 8) v8 fun w => K w
abbrev ty_int : Nat := 3
abbrev ty_bool : Nat := 4
abbrev ty_uint8 : Nat := 5
abbrev ty_string : Nat := 9
abbrev ty_sl_int : Nat := 22
abbrev ty_api_Sort : Nat := 25
abbrev ty_sl_api_Node : Nat := 31
abbrev ty_term_Graph : Nat := 33
abbrev ty_sl_string : Nat := 38
abbrev ty_api_Node : Nat := 45
abbrev ty_p_term_builder : Nat := 52
abbrev ty_p_print_printer : Nat := 59
abbrev ty_map_string_bool : Nat := 61
abbrev ty_sl_bool : Nat := 62
abbrev ty_print_printer : Nat := 64
abbrev ty_p_strings_Builder : Nat := 65
abbrev ty_sl_uint8 : Nat := 66
abbrev ty_strings_Builder : Nat := 68
abbrev ty_map_string_int : Nat := 82
abbrev ty_map_string_api_Sort : Nat := 83
abbrev ty_term_builder : Nat := 85
abbrev ty_map_int_string : Nat := 91
abbrev ty_p_uint8 : Nat := 100
abbrev ty_enthymemeref04_Regex : Nat := 103
abbrev ty_4_int : Nat := 120
abbrev ty_unsafe_Pointer : Nat := 122
abbrev ty_wire_Writer : Nat := 137
abbrev ty_35_int : Nat := 141
abbrev ty_3_api_Sort : Nat := 142
abbrev ty_regex_Regex : Nat := 183
abbrev n_enthymemelaw11_PrintSorts : Nat := 3
abbrev n_enthymemeref01_Around : Nat := 5
abbrev n_print_Sort : Nat := 6
abbrev n_enthymemeref11_Sort : Nat := 7
abbrev n_enthymemelaw11_lives : Nat := 8
abbrev n_print_Term : Nat := 12
abbrev n_value_ValidSort : Nat := 13
abbrev n_print_sortText : Nat := 14
abbrev n_enthymemeref06_ValidSort : Nat := 15
abbrev n_enthymemeref10_Sort : Nat := 16
abbrev n_term_newBuilder : Nat := 22
abbrev n_term_Valid : Nat := 26
abbrev n_print_newPrinter : Nat := 27
abbrev n_strings_Builder_Grow : Nat := 28
abbrev n_print_printer_write : Nat := 29
abbrev n_strings_Builder_String : Nat := 30
abbrev n_strconv_Itoa : Nat := 31
abbrev n_enthymemeref06_within : Nat := 32
abbrev n_enthymemeref01_Decimal : Nat := 33
abbrev n_term_builder_put : Nat := 42
abbrev n_term_builder_sortOf : Nat := 43
abbrev n_term_builder_find : Nat := 44
abbrev n_print_operationWords : Nat := 46
abbrev n_print_nodeHead : Nat := 47
abbrev n_print_printer_measure : Nat := 48
abbrev n_strings_Builder_copyCheck : Nat := 49
abbrev n_strings_Builder_grow : Nat := 50
abbrev n_strings_Builder_WriteString : Nat := 51
abbrev n_strings_Builder_WriteByte : Nat := 52
abbrev n_internal_strconv_Itoa : Nat := 53
abbrev n_enthymemeref04_Write : Nat := 55
abbrev n_enthymemeref04_simple : Nat := 56
abbrev n_term_keyOf : Nat := 64
abbrev n_term_sortOf : Nat := 65
abbrev n_term_builder_sortOf_1 : Nat := 66
abbrev n_bits_Text : Nat := 67
abbrev n_lexer_Quote : Nat := 68
abbrev n_print_printer_measure_1 : Nat := 69
abbrev n_print_capped : Nat := 70
abbrev n_internal_abi_NoEscape : Nat := 71
abbrev n_internal_bytealg_MakeNoZero : Nat := 72
abbrev n_internal_strconv_FormatInt : Nat := 73
abbrev n_term_write : Nat := 83
abbrev n_wire_Writer_Done : Nat := 84
abbrev n_term_fieldsFit : Nat := 85
abbrev n_term_sortOfVar : Nat := 86
abbrev n_term_sortOfLeaf : Nat := 87
abbrev n_term_sortOfBits : Nat := 88
abbrev n_term_sortOfArrays : Nat := 89
abbrev n_term_sortOfStrings : Nat := 90
abbrev n_bits_Valid : Nat := 91
abbrev n_bits_mask : Nat := 92
abbrev n_internal_strconv_small : Nat := 94
abbrev n_wire_Writer_Int : Nat := 109
abbrev n_wire_Writer_Ints : Nat := 110
abbrev n_wire_Writer_Uint : Nat := 111
abbrev n_wire_Writer_Text : Nat := 112
abbrev n_slices_Clone_sl_byte_byte : Nat := 113
abbrev n_term_isName : Nat := 114
abbrev n_term_str : Nat := 115
abbrev n_term_isArray : Nat := 116
abbrev n_term_result : Nat := 117
abbrev n_term_isBV : Nat := 118
abbrev n_term_bv : Nat := 119
abbrev n_term_alike : Nat := 120
abbrev n_term_isStr : Nat := 121
abbrev n_term_isNormal : Nat := 122
abbrev n_regex_forms_1 : Nat := 166
abbrev n_regex_forms_2 : Nat := 167
abbrev n_regex_forms_2_1 : Nat := 168
abbrev n_regex_forms_3 : Nat := 176
abbrev n_regex_forms_4 : Nat := 177
namespace enthymemeref01_Around
noncomputable abbrev X : Fx := ⟨Tryz.prog, Tryz.f5, [], []⟩
abbrev P0 : Ps := [(0, .v [.I]), (1, .v [.I])]
abbrev S0 (n0 most1 : Int) (w : World) (R : Post) : Prop :=
  most1 ≠ 0 ∧ R (.returned (.i (Int.tmod n0 most1))) w
noncomputable def eS0 := entS X [] (pth [2]) P0 S0
theorem ok (n0 most1 : Int) (w : World) (R : Post) (h : sel (decide (n0 < 0)) (S0 (IntKind.wrap .i64 (0 - (IntKind.wrap .i64 (n0 + 1)))) most1 w R) (S0 n0 most1 w R)) : Calls Tryz.prog n_enthymemeref01_Around #[.i n0, .i most1] w R := callsX X [eS0] h
end enthymemeref01_Around
end Go.Proofs.YtnpkhgljhcnpcaaGreatDoor
set_option linter.unusedVariables false
set_option maxRecDepth 100000
set_option maxHeartbeats 2000000
namespace Go.Proofs.YtnpkhgljhcnpcaaGreatDoor
open Go Go.W
end Go.Proofs.YtnpkhgljhcnpcaaGreatDoor
set_option linter.unusedVariables false
set_option maxRecDepth 100000
set_option maxHeartbeats 2000000
namespace Go.Proofs.YtnpkhgljhcnpcaaGreatDoor
open Go Go.W
end Go.Proofs.YtnpkhgljhcnpcaaGreatDoor
set_option linter.unusedVariables false
set_option maxRecDepth 100000
set_option maxHeartbeats 2000000
namespace Go.Proofs.YtnpkhgljhcnpcaaGreatDoor
open Go Go.W
namespace regex_forms_2
noncomputable abbrev X : Fx := ⟨Tryz.prog, Tryz.f167, [], []⟩
theorem ok (unit0_0 unit0_1 unit0_2 : Int) (unit0_3 : Sl) (zero1_0 zero1_1 zero1_2 : Int) (zero1_3 : Sl) (w : World) (R : Post) (h : nwV w (.cells #[.i unit0_0, .int .u8 unit0_1, .int .u8 unit0_2, unit0_3.v] ty_regex_Regex) fun w1 => 
  nwV w1 (.cells #[.i zero1_0, .int .u8 zero1_1, .int .u8 zero1_2, zero1_3.v] ty_regex_Regex) fun w2 => 
  R (.returned (.func (.func n_regex_forms_2_1) #[] #[.pointer (some (nb w)), .pointer (some (nb w1))])) w2) : Calls Tryz.prog n_regex_forms_2 #[.agg #[.i unit0_0, .int .u8 unit0_1, .int .u8 unit0_2, unit0_3.v], .agg #[.i zero1_0, .int .u8 zero1_1, .int .u8 zero1_2, zero1_3.v]] w R := callsX X [] h
end regex_forms_2
end Go.Proofs.YtnpkhgljhcnpcaaGreatDoor
set_option linter.unusedVariables false
set_option maxRecDepth 100000
set_option maxHeartbeats 2000000
namespace Go.Proofs.YtnpkhgljhcnpcaaGreatDoor
open Go Go.W
namespace regex_forms
noncomputable def C0 : Code := (Tryz.f149.body).getD .skip
noncomputable def C1:=C0.sn
noncomputable def C2:=C1.sn
noncomputable def C3:=C2.sn
noncomputable def C4:=C3.sn
noncomputable def C5:=C4.sn
/-- enthymeme/regex.forms -/
noncomputable def C6:=C5.sn
end regex_forms
end Go.Proofs.YtnpkhgljhcnpcaaGreatDoor
set_option linter.unusedVariables false
set_option maxRecDepth 100000
set_option maxHeartbeats 2000000
namespace Go.Proofs.YtnpkhgljhcnpcaaGreatDoor
open Go Go.W
end Go.Proofs.YtnpkhgljhcnpcaaGreatDoor
set_option linter.unusedVariables false
set_option maxRecDepth 100000
set_option maxHeartbeats 2000000
namespace Go.Proofs.YtnpkhgljhcnpcaaGreatDoor
open Go Go.W
end Go.Proofs.YtnpkhgljhcnpcaaGreatDoor
set_option linter.unusedVariables false
set_option maxRecDepth 100000
set_option maxHeartbeats 2000000
namespace Go.Proofs.YtnpkhgljhcnpcaaGreatDoor
open Go Go.W
end Go.Proofs.YtnpkhgljhcnpcaaGreatDoor
set_option linter.unusedVariables false
set_option maxRecDepth 100000
set_option maxHeartbeats 2000000
namespace Go.Proofs.YtnpkhgljhcnpcaaGreatDoor
open Go Go.W
end Go.Proofs.YtnpkhgljhcnpcaaGreatDoor
set_option linter.unusedVariables false
set_option maxRecDepth 100000
set_option maxHeartbeats 2000000
namespace Go.Proofs.YtnpkhgljhcnpcaaGreatDoor
open Go Go.W
end Go.Proofs.YtnpkhgljhcnpcaaGreatDoor
set_option linter.unusedVariables false
set_option maxRecDepth 100000
set_option maxHeartbeats 2000000
namespace Go.Proofs.YtnpkhgljhcnpcaaGreatDoor
open Go Go.W
end Go.Proofs.YtnpkhgljhcnpcaaGreatDoor
set_option linter.unusedVariables false
set_option maxRecDepth 100000
set_option maxHeartbeats 2000000
namespace Go.Proofs.YtnpkhgljhcnpcaaGreatDoor
open Go Go.W
namespace enthymemeref04_Text
noncomputable def C0 : Code := (Tryz.f36.body).getD .skip
noncomputable def C1:=C0.sn
noncomputable def C2:=C1.sn
noncomputable def C3:=C2.sn
noncomputable def C4:=C3.sn
noncomputable def C5:=C4.sn
noncomputable def C6:=C5.sn
noncomputable def C7:=C6.sn
noncomputable def C8:=C7.sn
abbrev Q0 (R : Post) : ExP := (bodyPost Tryz.prog Tryz.f36 R)
noncomputable def C9:=C8.sn
/-- ref.go:670 -/
abbrev S0 (k3 : Int) (forms9 : Sl) (w : World) (R : Post) : Prop :=
  (0 : Int) ≤ (Int.tmod (IntKind.wrap .i64 (Int.tdiv k3 216)) 8) ∧ (Int.tmod (IntKind.wrap .i64 (Int.tdiv k3 216)) 8) < ((forms9.n : Nat) : Int) ∧ optP forms9.a fun t83_p => ld4_0 w (t83_p.add (Int.toNat (Int.tmod (IntKind.wrap .i64 (Int.tdiv k3 216)) 8) * 4)) fun t84_0 t84_1 t84_2 t84_3 => ca2 n_enthymemeref04_simple #[.agg #[.i t84_0, .int .u8 t84_1, .int .u8 t84_2, t84_3.v]] w fun t85_0 t85_1 t85_2 t85_3 w1 => ca15 n_enthymemeref04_Write #[.agg #[.i t85_0, .int .u8 t85_1, .int .u8 t85_2, t85_3.v], .i 0] w1 fun t86 w2 => R (.returned (.string t86)) w2
def KE_S0 (E : Env) (w : World) (R : Post) : Prop := W.asInt .i64 (Env.get? E 3) fun k3 => W.asSlice (Env.get? E 9) fun forms9 => S0 k3 forms9 w R
theorem KE_S0_ok : KOk Tryz.prog 87 KE_S0 C8 Q0 := by
  intro R E w h
  obtain ⟨k3, hq3, h_1⟩ := W.asInt_elim h
  obtain ⟨forms9, hq9, h_2⟩ := W.asSlice_elim h_1
  exact fun a ha => WP.at (E := [(3, .i k3), (9, forms9.v)]) (sr C8 (K := fun E w => retVC Tryz.prog Tryz.f36 E w (fun v => R (.returned v) w)) (mp h_2) fun _ _ hK => (rt C9 fun a hA => retVC_sound hA hK)) (ha.cons hq3 (ha.cons hq9 ha.nil))
end enthymemeref04_Text
end Go.Proofs.YtnpkhgljhcnpcaaGreatDoor
set_option linter.unusedVariables false
set_option maxRecDepth 100000
set_option maxHeartbeats 2000000
namespace Go.Proofs.YtnpkhgljhcnpcaaGreatDoor
open Go Go.W
end Go.Proofs.YtnpkhgljhcnpcaaGreatDoor
