/- Printed by a program of ours (vcgen.py) from the dump: the conditions of the functions, and that they suffice. Printed by a program of ours (vcgen.py) from the dump: the conditions of the functions, and that they suffice. Printed by a program of ours (vcgen.py) from the dump: the conditions of the functions, and that they suffice. Printed by a program of ours (vcgen.py) from the dump: the conditions of the functions, and that they suffice. Printed by a program of ours (vcgen.py) from the dump: the conditions of the functions, and that they suffice. Printed by a program of ours (vcgen.py) from the dump: the conditions of the functions, and that they suffice. Printed by a program of ours (vcgen.py) from the dump: the conditions of the functions, and that they suffice. Printed by a program of ours (vcgen.py) from the dump: the conditions of the functions, and that they suffice. Printed by a program of ours (vcgen.py) from the dump: the conditions of the functions, and that they suffice. Printed by a program of ours (vcgen.py) from the dump: the conditions of the functions, and that they suffice. Printed by a program of ours (vcgen.py) from the dump: the conditions of the functions, and that they suffice. Printed by a program of ours (vcgen.py) from the dump: the conditions of the functions, and that they suffice. Printed by a program of ours (vcgen.py) from the dump: the conditions of the functions, and that they suffice. -/
import Derived.Test.YtcifihepfadgfaaGreatDoorU
import Derived.Test.YtcifihepfadgfaaGreatDoorProg
import Derived.KernelRfl
set_option linter.unusedVariables false
set_option maxRecDepth 100000
set_option maxHeartbeats 2000000
namespace Go.Proofs.YtcifihepfadgfaaGreatDoor
open Go Go.W
theorem mp {a b : Prop} (h : a) (e : a = b := by kernel_rfl) : b := e ▸ h
abbrev ld4_0 (w : World) (p : Addr) (K : Int → Int → Int → Sl → Prop) : Prop := ∃ a0 : Int, ∃ a1 : Int, ∃ a2 : Int, ∃ a3 : Sl, w.cell? (p.add 0) = some (.i a0) ∧ w.cell? (p.add 1) = some (.int .u8 a1) ∧ w.cell? (p.add 2) = some (.int .u8 a2) ∧ w.cell? (p.add 3) = some (a3.v) ∧ K a0 a1 a2 a3
abbrev ld3_2 (w : World) (p : Addr) (K : Int → Int → Int → Prop) : Prop := ∃ a0 : Int, ∃ a1 : Int, ∃ a2 : Int, w.cell? (p.add 0) = some (.i a0) ∧ w.cell? (p.add 1) = some (.i a1) ∧ w.cell? (p.add 2) = some (.i a2) ∧ K a0 a1 a2
abbrev ld9_3 (w : World) (p : Addr) (K : Int → Sl → Int → Int → Int → ByteArray → Int → Int → Int → Prop) : Prop := ∃ a0 : Int, ∃ a1 : Sl, ∃ a2 : Int, ∃ a3 : Int, ∃ a4 : Int, ∃ a5 : ByteArray, ∃ a6 : Int, ∃ a7 : Int, ∃ a8 : Int, w.cell? (p.add 0) = some (.i a0) ∧ w.cell? (p.add 1) = some (a1.v) ∧ w.cell? (p.add 2) = some (.i a2) ∧ w.cell? (p.add 3) = some (.i a3) ∧ w.cell? (p.add 4) = some (.u a4) ∧ w.cell? (p.add 5) = some (.string a5) ∧ w.cell? (p.add 6) = some (.i a6) ∧ w.cell? (p.add 7) = some (.i a7) ∧ w.cell? (p.add 8) = some (.i a8) ∧ K a0 a1 a2 a3 a4 a5 a6 a7 a8
abbrev ca0 (f : FuncId) (xs : Array Value) (w : World) (K : Bool → World → Prop) : Prop := Calls Tryz.prog f xs w fun r_ w1 => ∃ a0 : Bool, r_ = .returned (.bool a0) ∧ K a0 w1
abbrev cf0 (bs : List Nat) (f : FuncId) (xs : Array Value) (w : World) (K : Bool → World → Prop) : Prop := callF bs Tryz.prog f xs w fun r_ w1 => ∃ a0 : Bool, r_ = .returned (.bool a0) ∧ K a0 w1
abbrev ca1 (f : FuncId) (xs : Array Value) (w : World) (K : Int → World → Prop) : Prop := Calls Tryz.prog f xs w fun r_ w1 => ∃ a0 : Int, r_ = .returned (.i a0) ∧ K a0 w1
abbrev cf1 (bs : List Nat) (f : FuncId) (xs : Array Value) (w : World) (K : Int → World → Prop) : Prop := callF bs Tryz.prog f xs w fun r_ w1 => ∃ a0 : Int, r_ = .returned (.i a0) ∧ K a0 w1
abbrev ca2 (f : FuncId) (xs : Array Value) (w : World) (K : Int → Int → Int → Sl → World → Prop) : Prop := Calls Tryz.prog f xs w fun r_ w1 => ∃ a0 : Int, ∃ a1 : Int, ∃ a2 : Int, ∃ a3 : Sl, r_ = .returned (.agg #[.i a0, .int .u8 a1, .int .u8 a2, a3.v]) ∧ K a0 a1 a2 a3 w1
abbrev cf2 (bs : List Nat) (f : FuncId) (xs : Array Value) (w : World) (K : Int → Int → Int → Sl → World → Prop) : Prop := callF bs Tryz.prog f xs w fun r_ w1 => ∃ a0 : Int, ∃ a1 : Int, ∃ a2 : Int, ∃ a3 : Sl, r_ = .returned (.agg #[.i a0, .int .u8 a1, .int .u8 a2, a3.v]) ∧ K a0 a1 a2 a3 w1
abbrev ca3 (f : FuncId) (xs : Array Value) (w : World) (K : Sl → World → Prop) : Prop := Calls Tryz.prog f xs w fun r_ w1 => ∃ a0 : Sl, r_ = .returned (a0.v) ∧ K a0 w1
abbrev cf3 (bs : List Nat) (f : FuncId) (xs : Array Value) (w : World) (K : Sl → World → Prop) : Prop := callF bs Tryz.prog f xs w fun r_ w1 => ∃ a0 : Sl, r_ = .returned (a0.v) ∧ K a0 w1
abbrev ca4 (f : FuncId) (xs : Array Value) (w : World) (K : World → Prop) : Prop := Calls Tryz.prog f xs w fun r_ w1 => r_ = .returned (.tuple #[]) ∧ K w1
abbrev cf4 (bs : List Nat) (f : FuncId) (xs : Array Value) (w : World) (K : World → Prop) : Prop := callF bs Tryz.prog f xs w fun r_ w1 => r_ = .returned (.tuple #[]) ∧ K w1
abbrev ca5 (f : FuncId) (xs : Array Value) (w : World) (K : Int → Int → World → Prop) : Prop := Calls Tryz.prog f xs w fun r_ w1 => ∃ a0 : Int, ∃ a1 : Int, r_ = .returned (.tuple #[.i a0, .i a1]) ∧ K a0 a1 w1
abbrev ca6 (f : FuncId) (xs : Array Value) (w : World) (K : Int → Bool → World → Prop) : Prop := Calls Tryz.prog f xs w fun r_ w1 => ∃ a0 : Int, ∃ a1 : Bool, r_ = .returned (.tuple #[.i a0, .bool a1]) ∧ K a0 a1 w1
abbrev ca11 (f : FuncId) (xs : Array Value) (w : World) (K : Int → Int → Int → Sl → Int → World → Prop) : Prop := Calls Tryz.prog f xs w fun r_ w1 => ∃ a0 : Int, ∃ a1 : Int, ∃ a2 : Int, ∃ a3 : Sl, ∃ a4 : Int, r_ = .returned (.tuple #[.agg #[.i a0, .int .u8 a1, .int .u8 a2, a3.v], .i a4]) ∧ K a0 a1 a2 a3 a4 w1
abbrev cf11 (bs : List Nat) (f : FuncId) (xs : Array Value) (w : World) (K : Int → Int → Int → Sl → Int → World → Prop) : Prop := callF bs Tryz.prog f xs w fun r_ w1 => ∃ a0 : Int, ∃ a1 : Int, ∃ a2 : Int, ∃ a3 : Sl, ∃ a4 : Int, r_ = .returned (.tuple #[.agg #[.i a0, .int .u8 a1, .int .u8 a2, a3.v], .i a4]) ∧ K a0 a1 a2 a3 a4 w1
abbrev cf12 (bs : List Nat) (f : FuncId) (xs : Array Value) (w : World) (K : (Option Nat) → World → Prop) : Prop := callF bs Tryz.prog f xs w fun r_ w1 => ∃ a0 : Option Nat, r_ = .returned (.map a0) ∧ K a0 w1
abbrev ca13 (f : FuncId) (xs : Array Value) (w : World) (K : Int → World → Prop) : Prop := Calls Tryz.prog f xs w fun r_ w1 => ∃ a0 : Int, r_ = .returned (.int .u8 a0) ∧ K a0 w1
abbrev cf14 (bs : List Nat) (f : FuncId) (xs : Array Value) (w : World) (K : Int → Int → World → Prop) : Prop := callF bs Tryz.prog f xs w fun r_ w1 => ∃ a0 : Int, ∃ a1 : Int, r_ = .returned (.tuple #[.int .u8 a0, .i a1]) ∧ K a0 a1 w1
abbrev ca15 (f : FuncId) (xs : Array Value) (w : World) (K : ByteArray → World → Prop) : Prop := Calls Tryz.prog f xs w fun r_ w1 => ∃ a0 : ByteArray, r_ = .returned (.string a0) ∧ K a0 w1
abbrev cf15 (bs : List Nat) (f : FuncId) (xs : Array Value) (w : World) (K : ByteArray → World → Prop) : Prop := callF bs Tryz.prog f xs w fun r_ w1 => ∃ a0 : ByteArray, r_ = .returned (.string a0) ∧ K a0 w1
abbrev ca16 (f : FuncId) (xs : Array Value) (w : World) (K : Int → Int → Int → Sl → Int → Int → World → Prop) : Prop := Calls Tryz.prog f xs w fun r_ w1 => ∃ a0 : Int, ∃ a1 : Int, ∃ a2 : Int, ∃ a3 : Sl, ∃ a4 : Int, ∃ a5 : Int, r_ = .returned (.tuple #[.agg #[.i a0, .int .u8 a1, .int .u8 a2, a3.v], .i a4, .i a5]) ∧ K a0 a1 a2 a3 a4 a5 w1
abbrev ca17 (f : FuncId) (xs : Array Value) (w : World) (K : Int → Int → Int → World → Prop) : Prop := Calls Tryz.prog f xs w fun r_ w1 => ∃ a0 : Int, ∃ a1 : Int, ∃ a2 : Int, r_ = .returned (.agg #[.i a0, .i a1, .i a2]) ∧ K a0 a1 a2 w1
abbrev cf17 (bs : List Nat) (f : FuncId) (xs : Array Value) (w : World) (K : Int → Int → Int → World → Prop) : Prop := callF bs Tryz.prog f xs w fun r_ w1 => ∃ a0 : Int, ∃ a1 : Int, ∃ a2 : Int, r_ = .returned (.agg #[.i a0, .i a1, .i a2]) ∧ K a0 a1 a2 w1
abbrev cf18 (bs : List Nat) (f : FuncId) (xs : Array Value) (w : World) (K : Int → Int → Int → Bool → World → Prop) : Prop := callF bs Tryz.prog f xs w fun r_ w1 => ∃ a0 : Int, ∃ a1 : Int, ∃ a2 : Int, ∃ a3 : Bool, r_ = .returned (.tuple #[.agg #[.i a0, .i a1, .i a2], .bool a3]) ∧ K a0 a1 a2 a3 w1
abbrev cf19 (bs : List Nat) (f : FuncId) (xs : Array Value) (w : World) (K : Int → Int → Int → Int → World → Prop) : Prop := callF bs Tryz.prog f xs w fun r_ w1 => ∃ a0 : Int, ∃ a1 : Int, ∃ a2 : Int, ∃ a3 : Int, r_ = .returned (.tuple #[.agg #[.i a0, .i a1, .i a2], .i a3]) ∧ K a0 a1 a2 a3 w1
abbrev cf20 (bs : List Nat) (f : FuncId) (xs : Array Value) (w : World) (K : Sl → Int → Int → World → Prop) : Prop := callF bs Tryz.prog f xs w fun r_ w1 => ∃ a0 : Sl, ∃ a1 : Int, ∃ a2 : Int, r_ = .returned (.tuple #[a0.v, .i a1, .i a2]) ∧ K a0 a1 a2 w1
abbrev ca21 (f : FuncId) (xs : Array Value) (w : World) (K : Int → Sl → Int → Int → Int → ByteArray → Int → Int → Int → World → Prop) : Prop := Calls Tryz.prog f xs w fun r_ w1 => ∃ a0 : Int, ∃ a1 : Sl, ∃ a2 : Int, ∃ a3 : Int, ∃ a4 : Int, ∃ a5 : ByteArray, ∃ a6 : Int, ∃ a7 : Int, ∃ a8 : Int, r_ = .returned (.agg #[.i a0, a1.v, .i a2, .i a3, .u a4, .string a5, .i a6, .i a7, .i a8]) ∧ K a0 a1 a2 a3 a4 a5 a6 a7 a8 w1
abbrev cf21 (bs : List Nat) (f : FuncId) (xs : Array Value) (w : World) (K : Int → Sl → Int → Int → Int → ByteArray → Int → Int → Int → World → Prop) : Prop := callF bs Tryz.prog f xs w fun r_ w1 => ∃ a0 : Int, ∃ a1 : Sl, ∃ a2 : Int, ∃ a3 : Int, ∃ a4 : Int, ∃ a5 : ByteArray, ∃ a6 : Int, ∃ a7 : Int, ∃ a8 : Int, r_ = .returned (.agg #[.i a0, a1.v, .i a2, .i a3, .u a4, .string a5, .i a6, .i a7, .i a8]) ∧ K a0 a1 a2 a3 a4 a5 a6 a7 a8 w1
abbrev ca22 (f : FuncId) (xs : Array Value) (w : World) (K : Sl → Int → Int → World → Prop) : Prop := Calls Tryz.prog f xs w fun r_ w1 => ∃ a0 : Sl, ∃ a1 : Int, ∃ a2 : Int, r_ = .returned (.tuple #[.agg #[a0.v], .i a1, .i a2]) ∧ K a0 a1 a2 w1
abbrev cf22 (bs : List Nat) (f : FuncId) (xs : Array Value) (w : World) (K : Sl → Int → Int → World → Prop) : Prop := callF bs Tryz.prog f xs w fun r_ w1 => ∃ a0 : Sl, ∃ a1 : Int, ∃ a2 : Int, r_ = .returned (.tuple #[.agg #[a0.v], .i a1, .i a2]) ∧ K a0 a1 a2 w1
abbrev cf23 (bs : List Nat) (f : FuncId) (xs : Array Value) (w : World) (K : Sl → Int → World → Prop) : Prop := callF bs Tryz.prog f xs w fun r_ w1 => ∃ a0 : Sl, ∃ a1 : Int, r_ = .returned (.tuple #[a0.v, .i a1]) ∧ K a0 a1 w1
abbrev hdW3 (w : World) (p : Addr) (v0 v1 v2 : Value) (K : Unit → Prop) : Prop := w.cell? (p.add 0) = some v0 ∧ w.cell? (p.add 1) = some v1 ∧ w.cell? (p.add 2) = some v2 ∧ K ()
abbrev stW3 (w : World) (p : Addr) (v0 v1 v2 : Value) (K : World → Prop) : Prop := stV w p v0 fun w => stV w (p.add 1) v1 fun w => stV w (p.add 2) v2 fun w => K w
abbrev stW4 (w : World) (p : Addr) (v0 v1 v2 v3 : Value) (K : World → Prop) : Prop := stV w p v0 fun w => stV w (p.add 1) v1 fun w => stV w (p.add 2) v2 fun w => stV w (p.add 3) v3 fun w => K w
abbrev ty_ : Nat := 0
abbrev ty_int : Nat := 3
abbrev ty_bool : Nat := 4
abbrev ty_uint8 : Nat := 5
abbrev ty_string : Nat := 9
abbrev ty_sl_int : Nat := 22
abbrev ty_sl_api_Node : Nat := 23
abbrev ty_term_Graph : Nat := 27
abbrev ty_api_Sort : Nat := 30
abbrev ty_api_Node : Nat := 32
abbrev ty_sl_uint8 : Nat := 65
abbrev ty_sl_api_Sort : Nat := 87
abbrev ty_sl_bool : Nat := 97
abbrev ty_35_int : Nat := 132
abbrev ty_3_api_Sort : Nat := 133
abbrev ty_sl_enthymemeref04_Regex : Nat := 140
abbrev ty_enthymemeref04_Regex : Nat := 142
abbrev ty_sl_enthymemeref04_Token : Nat := 171
abbrev ty_enthymemeref04_reader : Nat := 174
abbrev ty_enthymemeref04_Token : Nat := 176
abbrev ty_sl_regex_Regex : Nat := 182
abbrev ty_regex_Regex : Nat := 184
abbrev ty_map_int_func_regex_Regex_regex_Regex : Nat := 214
abbrev n_enthymemelaw07_TermNeeds : Nat := 4
abbrev n_enthymemeref07_Made : Nat := 9
abbrev n_enthymemeref01_Around : Nat := 10
abbrev n_term_SortOf : Nat := 12
abbrev n_enthymemeref07_SortOf : Nat := 13
abbrev n_term_Add : Nat := 14
abbrev n_enthymemeref07_Add : Nat := 15
abbrev n_enthymemelaw07_lives : Nat := 18
abbrev n_term_Needs : Nat := 19
abbrev n_enthymemeref01_SameInts : Nat := 20
abbrev n_enthymemeref07_Needs : Nat := 21
abbrev n_term_Vars : Nat := 22
abbrev n_enthymemeref07_Vars : Nat := 23
abbrev n_enthymemeref07_BV : Nat := 25
abbrev n_enthymemeref07_start : Nat := 38
abbrev n_enthymemeref07_node : Nat := 39
abbrev n_enthymemeref07_within : Nat := 40
abbrev n_enthymemeref07_size : Nat := 41
abbrev n_term_sortOf : Nat := 42
abbrev n_term_SortOf_1 : Nat := 43
abbrev n_enthymemeref07_fields : Nat := 44
abbrev n_enthymemeref07_leaf : Nat := 45
abbrev n_enthymemeref07_fit : Nat := 46
abbrev n_enthymemeref07_result : Nat := 47
abbrev n_enthymemeref04_Canonical : Nat := 48
abbrev n_term_search : Nat := 49
abbrev n_slices_Clone_sl_int_int : Nat := 50
abbrev n_enthymemeref07_Index : Nat := 51
abbrev n_enthymemeref07_Same : Nat := 52
abbrev n_enthymemeref07_has : Nat := 53
abbrev n_enthymemeref07_Strings : Nat := 75
abbrev n_enthymemeref04_Text : Nat := 76
abbrev n_enthymemeref07_Kids : Nat := 77
abbrev n_enthymemeref07_Like : Nat := 78
abbrev n_enthymemeref07_wanted : Nat := 79
abbrev n_term_fieldsFit : Nat := 80
abbrev n_term_sortOfVar : Nat := 81
abbrev n_term_sortOfLeaf : Nat := 82
abbrev n_term_sortOfBits : Nat := 83
abbrev n_term_sortOfArrays : Nat := 84
abbrev n_term_sortOfStrings : Nat := 85
abbrev n_enthymemeref07_Named : Nat := 86
abbrev n_enthymemeref06_ValidSort : Nat := 87
abbrev n_enthymemeref07_Element : Nat := 88
abbrev n_enthymemeref04_Parse : Nat := 89
abbrev n_enthymemeref04_Normal : Nat := 90
abbrev n_enthymemeref04_Write : Nat := 91
abbrev n_term_sameNode : Nat := 92
abbrev n_enthymemeref01_Has : Nat := 93
abbrev n_enthymemeref04_Everything : Nat := 106
abbrev n_enthymemeref04_simple : Nat := 107
abbrev n_term_isName : Nat := 108
abbrev n_value_ValidSort : Nat := 109
abbrev n_term_str : Nat := 110
abbrev n_term_isArray : Nat := 111
abbrev n_term_result : Nat := 112
abbrev n_term_isBV : Nat := 113
abbrev n_term_bv : Nat := 114
abbrev n_term_alike : Nat := 115
abbrev n_term_isStr : Nat := 116
abbrev n_term_isNormal : Nat := 117
abbrev n_enthymemeref06_within : Nat := 118
abbrev n_enthymemeref04_Tokens : Nat := 119
abbrev n_enthymemeref04_reader_expr : Nat := 120
abbrev n_enthymemeref04_reader_need : Nat := 121
abbrev n_enthymemeref04_Nodes : Nat := 122
abbrev n_enthymemeref04_Valid : Nat := 123
abbrev n_enthymemeref04_few : Nat := 124
abbrev n_enthymemeref04_binds : Nat := 125
abbrev n_enthymemeref04_Byte : Nat := 126
abbrev n_enthymemeref04_low : Nat := 127
abbrev n_slices_Equal_sl_int_int : Nat := 128
abbrev n_enthymemeref04_normal : Nat := 129
abbrev n_regex_Normal : Nat := 131
abbrev n_enthymemeref04_rangeAt : Nat := 133
abbrev n_enthymemeref04_reader_conj : Nat := 134
abbrev n_enthymemeref04_reader_take : Nat := 135
abbrev n_enthymemeref04_group : Nat := 136
abbrev n_enthymemeref04_good : Nat := 137
abbrev n_enthymemeref04_plain : Nat := 138
abbrev n_enthymemeref04_digit : Nat := 139
abbrev n_enthymemeref04_Compare : Nat := 140
abbrev n_enthymemeref04_put : Nat := 141
abbrev n_regex_tooLarge : Nat := 146
abbrev n_regex_Valid : Nat := 147
abbrev n_regex_limited : Nat := 148
abbrev n_regex_normal : Nat := 149
abbrev n_regex_forms : Nat := 150
abbrev n_enthymemeref04_byteAt : Nat := 152
abbrev n_enthymemeref04_reader_seq : Nat := 153
abbrev n_enthymemeref04_reader_see : Nat := 154
abbrev n_regex_countdown : Nat := 164
abbrev n_regex_proper : Nat := 165
abbrev n_regex_clone : Nat := 166
abbrev n_regex_forms_1 : Nat := 167
abbrev n_regex_forms_2 : Nat := 168
abbrev n_regex_forms_2_1 : Nat := 169
abbrev n_regex_flat : Nat := 170
abbrev n_slices_ContainsFunc_sl_regex_Regex_regex_Regex : Nat := 171
abbrev n_regex_forms_2_1_1 : Nat := 172
abbrev n_regex_equal : Nat := 173
abbrev n_slices_SortFunc_sl_regex_Regex_regex_Regex : Nat := 174
abbrev n_regex_Compare : Nat := 175
abbrev n_slices_CompactFunc_sl_regex_Regex_regex_Regex : Nat := 176
abbrev n_regex_forms_3 : Nat := 177
abbrev n_regex_forms_4 : Nat := 178
abbrev n_enthymemeref04_number : Nat := 180
abbrev n_enthymemeref04_reader_item : Nat := 181
abbrev n_enthymemeref04_reader_begins : Nat := 182
abbrev n_slices_DeleteFunc_sl_regex_Regex_regex_Regex : Nat := 187
abbrev n_regex_flat_1 : Nat := 188
abbrev n_slices_IndexFunc_sl_regex_Regex_regex_Regex : Nat := 189
abbrev n_slices_pdqsortCmpFunc_regex_Regex : Nat := 190
abbrev n_math_bits_Len : Nat := 191
abbrev n_cmp_Or_int : Nat := 192
abbrev n_cmp_Compare_int : Nat := 193
abbrev n_cmp_Compare_byte : Nat := 194
abbrev n_slices_CompareFunc_sl_regex_Regex_sl_regex_Regex_regex_Regex_regex_Regex : Nat := 195
abbrev n_enthymemeref04_reader_atom : Nat := 197
abbrev n_slices_insertionSortCmpFunc_regex_Regex : Nat := 200
abbrev n_slices_heapSortCmpFunc_regex_Regex : Nat := 201
abbrev n_slices_breakPatternsCmpFunc_regex_Regex : Nat := 202
abbrev n_slices_choosePivotCmpFunc_regex_Regex : Nat := 203
abbrev n_slices_reverseRangeCmpFunc_regex_Regex : Nat := 204
abbrev n_slices_partialInsertionSortCmpFunc_regex_Regex : Nat := 205
abbrev n_slices_partitionEqualCmpFunc_regex_Regex : Nat := 206
abbrev n_slices_partitionCmpFunc_regex_Regex : Nat := 207
abbrev n_math_bits_Len64 : Nat := 209
abbrev n_cmp_isNaN_int : Nat := 210
abbrev n_cmp_isNaN_byte : Nat := 211
abbrev n_enthymemeref04_reader_kids : Nat := 212
abbrev n_slices_medianAdjacentCmpFunc_regex_Regex : Nat := 217
abbrev n_slices_medianCmpFunc_regex_Regex : Nat := 218
abbrev n_slices_order2CmpFunc_regex_Regex : Nat := 219
namespace enthymemeref01_Around
noncomputable abbrev X : Fx := ⟨Tryz.prog, Tryz.f10, [], []⟩
abbrev P0 : Ps := [(0, .v [.I]), (1, .v [.I])]
abbrev S0 (n0 most1 : Int) (w : World) (R : Post) : Prop :=
  most1 ≠ 0 ∧ R (.returned (.i (Int.tmod n0 most1))) w
noncomputable def eS0 := entS X [] (pth [2]) P0 S0
theorem ok (n0 most1 : Int) (w : World) (R : Post) (h : sel (decide (n0 < 0)) (S0 (IntKind.wrap .i64 (0 - (IntKind.wrap .i64 (n0 + 1)))) most1 w R) (S0 n0 most1 w R)) : Calls Tryz.prog n_enthymemeref01_Around #[.i n0, .i most1] w R := callsX X [eS0] h
end enthymemeref01_Around
namespace enthymemeref01_Has
noncomputable abbrev X : Fx := ⟨Tryz.prog, Tryz.f93, [], []⟩
abbrev P0 : Ps := [(0, .v [.s]), (1, .v [.I]), (5, .v [.I])]
def L0 (l0 : Sl) (n1 i5 : Int) (w : World) (R : Post) : Prop := mkCur P0 0 (X.Sem (pth [0, 1, 1, 1, 1])) l0 n1 i5 w R
noncomputable def eL0 := entL X (pth [0, 1, 1, 1, 1]) P0 L0
theorem L0_step : ∀ (l0 : Sl) (n1 i5 : Int) (w : World) (R : Post) (h : sel (decide (i5 < ((l0.n : Nat) : Int))) ((0 : Int) ≤ i5 ∧ i5 < ((l0.n : Nat) : Int) ∧ optP l0.a fun t14_p => ∃ t15 : Int, w.cell? (t14_p.add (Int.toNat i5 * 1)) = some (.i t15) ∧ 
  sel (t15 == n1) (R (.returned (.bool true)) w) (L0 l0 n1 (IntKind.wrap .i64 (i5 + 1)) w R)) (R (.returned (.bool false)) w)), L0 l0 n1 i5 w R := mp (stepL (X := X) [eL0] (pth [0, 1, 1, 1, 1]) P0)
theorem ok (l0 : Sl) (n1 : Int) (w : World) (R : Post) (h : L0 l0 n1 0 w R) : Calls Tryz.prog n_enthymemeref01_Has #[l0.v, .i n1] w R := callsX X [eL0] h
end enthymemeref01_Has
namespace enthymemeref01_SameInts
noncomputable abbrev X : Fx := ⟨Tryz.prog, Tryz.f20, [(6,ls [0,1,2,3,4,5,6,7,8])], []⟩
abbrev P0 : Ps := [(0, .v [.s]), (1, .v [.s]), (5, .v [.I])]
def L0 (a0 b1 : Sl) (i5 : Int) (w : World) (R : Post) : Prop := mkCur P0 0 (X.Sem (pth [0, 1, 1, 1, 2])) a0 b1 i5 w R
noncomputable def eL0 := entL X (pth [0, 1, 1, 1, 2]) P0 L0
theorem L0_step : ∀ (a0 b1 : Sl) (i5 : Int) (w : World) (R : Post) (h : sel (decide (i5 < ((a0.n : Nat) : Int))) (drV w fun w1 => (0 : Int) ≤ i5 ∧ i5 < ((a0.n : Nat) : Int) ∧ optP a0.a fun t19_p => ∃ t20 : Int, w1.cell? (t19_p.add (Int.toNat i5 * 1)) = some (.i t20) ∧ 
  (0 : Int) ≤ i5 ∧ i5 < ((b1.n : Nat) : Int) ∧ optP b1.a fun t23_p => ∃ t24 : Int, w1.cell? (t23_p.add (Int.toNat i5 * 1)) = some (.i t24) ∧ 
  sel (t20 != t24) (R (.returned (.bool false)) w1) (L0 a0 b1 (IntKind.wrap .i64 (i5 + 1)) w1 R)) (R (.returned (.bool true)) w)), L0 a0 b1 i5 w R := mp (stepL (X := X) [eL0] (pth [0, 1, 1, 1, 2]) P0)
theorem ok (a0 b1 : Sl) (w : World) (R : Post) (h : sel (((a0.n : Nat) : Int) != ((b1.n : Nat) : Int)) (R (.returned (.bool false)) w) (L0 a0 b1 0 w R)) : Calls Tryz.prog n_enthymemeref01_SameInts #[a0.v, b1.v] w R := callsX X [eL0] h
end enthymemeref01_SameInts
end Go.Proofs.YtcifihepfadgfaaGreatDoor
set_option linter.unusedVariables false
set_option maxRecDepth 100000
set_option maxHeartbeats 2000000
namespace Go.Proofs.YtcifihepfadgfaaGreatDoor
open Go Go.W
namespace cmp_isNaN_int
noncomputable abbrev X : Fx := ⟨Tryz.prog, Tryz.f210, [], []⟩
theorem ok (x0 : Int) (w : World) (R : Post) (h : R (.returned (.bool (x0 != x0))) w) : Calls Tryz.prog n_cmp_isNaN_int #[.i x0] w R := callsX X [] h
end cmp_isNaN_int
namespace cmp_isNaN_byte
noncomputable abbrev X : Fx := ⟨Tryz.prog, Tryz.f211, [], []⟩
theorem ok (x0 : Int) (w : World) (R : Post) (h : R (.returned (.bool (x0 != x0))) w) : Calls Tryz.prog n_cmp_isNaN_byte #[.int .u8 x0] w R := callsX X [] h
end cmp_isNaN_byte
namespace cmp_Compare_int
noncomputable abbrev X : Fx := ⟨Tryz.prog, Tryz.f193, [], []⟩
theorem ok (x0 y1 : Int) (w : World) (R : Post) (h : ca0 n_cmp_isNaN_int #[.i x0] w fun t8 w1 => ca0 n_cmp_isNaN_int #[.i y1] w1 fun t10 w2 => sel t8 (sel t10 (R (.returned (.i 0)) w2) (R (.returned (.i (-1))) w2)) (sel t10 (R (.returned (.i 1)) w2) (sel (decide (x0 < y1)) (R (.returned (.i (-1))) w2) (sel (decide (x0 > y1)) (R (.returned (.i 1)) w2) (R (.returned (.i 0)) w2))))) : Calls Tryz.prog n_cmp_Compare_int #[.i x0, .i y1] w R := callsX X [] h
end cmp_Compare_int
namespace cmp_Compare_byte
noncomputable abbrev X : Fx := ⟨Tryz.prog, Tryz.f194, [], []⟩
theorem ok (x0 y1 : Int) (w : World) (R : Post) (h : ca0 n_cmp_isNaN_byte #[.int .u8 x0] w fun t8 w1 => ca0 n_cmp_isNaN_byte #[.int .u8 y1] w1 fun t10 w2 => sel t8 (sel t10 (R (.returned (.i 0)) w2) (R (.returned (.i (-1))) w2)) (sel t10 (R (.returned (.i 1)) w2) (sel (decide (x0 < y1)) (R (.returned (.i (-1))) w2) (sel (decide (x0 > y1)) (R (.returned (.i 1)) w2) (R (.returned (.i 0)) w2))))) : Calls Tryz.prog n_cmp_Compare_byte #[.int .u8 x0, .int .u8 y1] w R := callsX X [] h
end cmp_Compare_byte
namespace cmp_Or_int
noncomputable abbrev X : Fx := ⟨Tryz.prog, Tryz.f192, [], []⟩
abbrev P0 : Ps := [(3, .v [.I]), (6, .v [.s]), (7, .v [.I]), (8, .v [.I])]
def L0 (zero3 : Int) (t6 : Sl) (t7 t8 : Int) (w : World) (R : Post) : Prop := mkCur P0 0 (X.Sem (pth [0, 1, 1, 1, 2])) zero3 t6 t7 t8 w R
noncomputable def eL0 := entL X (pth [0, 1, 1, 1, 2]) P0 L0
theorem L0_step : ∀ (zero3 : Int) (t6 : Sl) (t7 t8 : Int) (w : World) (R : Post) (h : sel (decide (t8 < t7)) ((0 : Int) ≤ t8 ∧ t8 < ((t6.n : Nat) : Int) ∧ optP t6.a fun t10_p => ∃ t11 : Int, w.cell? (t10_p.add (Int.toNat t8 * 1)) = some (.i t11) ∧ 
  sel (t11 != zero3) (R (.returned (.i t11)) w) (L0 zero3 t6 t7 (IntKind.wrap .i64 (t8 + 1)) w R)) (R (.returned (.i zero3)) w)), L0 zero3 t6 t7 t8 w R := mp (stepL (X := X) [eL0] (pth [0, 1, 1, 1, 2]) P0)
theorem ok (vals0 : Sl) (w : World) (R : Post) (h : L0 0 vals0 ((vals0.n : Nat) : Int) 0 w R) : Calls Tryz.prog n_cmp_Or_int #[vals0.v] w R := callsX X [eL0] h
end cmp_Or_int
namespace regex_Compare
noncomputable abbrev X : Fx := ⟨Tryz.prog, Tryz.f175, [(1,ls [0,1,2,3,5,6,7,8,10,11,12,13,4,9,14,15,16,17])], [2, 3]⟩
theorem okT (a0_0 a0_1 a0_2 : Int) (a0_3 : Sl) (b1_0 b1_1 b1_2 : Int) (b1_3 : Sl) (w : World) (R : Post) (h : newV [] w fun b2 w1 => 
  newV [b2] w1 fun b3 w2 => 
  loc [b2, b3] w2 fun w3 => cf1 [b2, b3] n_cmp_Compare_int #[.i a0_0, .i b1_0] w3 fun t10 w4 => cf1 [b2, b3] n_cmp_Compare_byte #[.int .u8 a0_1, .int .u8 b1_1] w4 fun t15 w5 => cf1 [b2, b3] n_cmp_Compare_byte #[.int .u8 a0_2, .int .u8 b1_2] w5 fun t20 w6 => nwV w6 (.cells #[.i t10, .i t15, .i t20] ty_int) fun w7 => 
  cf1 [b2, b3] n_cmp_Or_int #[.slice (some (nb w6)) 3 3] w7 fun t22 w8 => sel (t22 != 0) (R (.returned (.i t22)) w8) (cf1 [b2, b3] n_slices_CompareFunc_sl_regex_Regex_sl_regex_Regex_regex_Regex_regex_Regex #[a0_3.v, b1_3.v, .func (.func n_regex_Compare) #[] #[]] w8 fun t30 w9 => R (.returned (.i t30)) w9)) : Calls Tryz.prog n_regex_Compare #[.agg #[.i a0_0, .int .u8 a0_1, .int .u8 a0_2, a0_3.v], .agg #[.i b1_0, .int .u8 b1_1, .int .u8 b1_2, b1_3.v]] w R := callsX X [] h
end regex_Compare
namespace slices_CompareFunc_sl_regex_Regex_sl_regex_Regex_regex_Regex_regex_Regex
noncomputable abbrev X : Fx := ⟨Tryz.prog, Tryz.f195, [], [8, 9]⟩
abbrev P0 : Ps := [(0, .v [.s]), (1, .v [.s]), (2, .v [.g n_regex_Compare 0 0]), (11, .v [.s]), (12, .v [.I]), (13, .v [.I])]
def L0T (s10 s21 t11 : Sl) (t12 t13 : Int) (w : World) (R : Post) : Prop := mkCur P0 0 (X.Sem (pth [0, 1, 1, 1, 1])) s10 s21 t11 t12 t13 w R
noncomputable def eL0 := entL X (pth [0, 1, 1, 1, 1]) P0 L0T
theorem L0T_step : ∀ (s10 s21 t11 : Sl) (t12 t13 : Int) (w : World) (R : Post) (h : sel (decide (t13 < t12)) ((0 : Int) ≤ t13 ∧ t13 < ((t11.n : Nat) : Int) ∧ optP t11.a fun t16_p => ld4_0 w (t16_p.add (Int.toNat t13 * 4)) fun t17_0 t17_1 t17_2 t17_3 => newV [] w fun b8 w1 => 
  sel (decide (t13 ≥ ((s21.n : Nat) : Int))) (loc [b8] w1 fun w5 => R (.returned (.i 1)) w5) ((0 : Int) ≤ t13 ∧ t13 < ((s21.n : Nat) : Int) ∧ optP s21.a fun t24_p => loc [b8] w1 fun w5 => ld4_0 w5 (t24_p.add (Int.toNat t13 * 4)) fun t25_0 t25_1 t25_2 t25_3 => newV [b8] w5 fun b9 w6 => 
  loc [b8, b9] w6 fun w10 => cf1 [b8, b9] n_regex_Compare #[.agg #[.i t17_0, .int .u8 t17_1, .int .u8 t17_2, t17_3.v], .agg #[.i t25_0, .int .u8 t25_1, .int .u8 t25_2, t25_3.v]] w10 fun t29 w11 => sel (t29 != 0) (R (.returned (.i t29)) w11) (L0T s10 s21 t11 t12 (IntKind.wrap .i64 (t13 + 1)) w11 R))) (sel (decide (((s10.n : Nat) : Int) < ((s21.n : Nat) : Int))) (R (.returned (.i (-1))) w) (R (.returned (.i 0)) w))), L0T s10 s21 t11 t12 t13 w R := mp (stepL (X := X) [eL0] (pth [0, 1, 1, 1, 1]) P0)
theorem okT (s10 s21 : Sl) (w : World) (R : Post) (h : L0T s10 s21 s10 ((s10.n : Nat) : Int) 0 w R) : Calls Tryz.prog n_slices_CompareFunc_sl_regex_Regex_sl_regex_Regex_regex_Regex_regex_Regex #[s10.v, s21.v, .func (.func n_regex_Compare) #[] #[]] w R := callsX X [eL0] h
end slices_CompareFunc_sl_regex_Regex_sl_regex_Regex_regex_Regex_regex_Regex
namespace regex_equal
noncomputable abbrev X : Fx := ⟨Tryz.prog, Tryz.f173, [], [2, 3]⟩
theorem okT (a0_0 a0_1 a0_2 : Int) (a0_3 : Sl) (b1_0 b1_1 b1_2 : Int) (b1_3 : Sl) (w : World) (R : Post) (h : newV [] w fun b2 w1 => 
  newV [b2] w1 fun b3 w2 => 
  cf1 [b2, b3] n_regex_Compare #[.agg #[.i a0_0, .int .u8 a0_1, .int .u8 a0_2, a0_3.v], .agg #[.i b1_0, .int .u8 b1_1, .int .u8 b1_2, b1_3.v]] w2 fun t7 w3 => R (.returned (.bool (t7 == 0))) w3) : Calls Tryz.prog n_regex_equal #[.agg #[.i a0_0, .int .u8 a0_1, .int .u8 a0_2, a0_3.v], .agg #[.i b1_0, .int .u8 b1_1, .int .u8 b1_2, b1_3.v]] w R := callsX X [] h
end regex_equal
end Go.Proofs.YtcifihepfadgfaaGreatDoor
set_option linter.unusedVariables false
set_option maxRecDepth 100000
set_option maxHeartbeats 2000000
namespace Go.Proofs.YtcifihepfadgfaaGreatDoor
open Go Go.W
namespace regex_countdown
noncomputable abbrev X : Fx := ⟨Tryz.prog, Tryz.f164, [], [2]⟩
abbrev P0 : Ps := [(1, .v [.I]), (2, .l [.I, .Y, .Y, .s] ty_regex_Regex), (5, .v [.I])]
def L1T (left1 : Int) (r2 : Nat) (r2_0 r2_1 r2_2 : Int) (r2_3 : Sl) (i5 : Int) (w : World) (R : Post) : Prop := mkCur P0 0 (X.Sem (pth [0, 1, 1, 1, 2])) left1 r2 r2_0 r2_1 r2_2 r2_3 i5 w R
noncomputable def eL1 := entL X (pth [0, 1, 1, 1, 2]) P0 L1T
abbrev P1 : Ps := [(1, .v [.I])]
abbrev S2T (left1 : Int) (w : World) (R : Post) : Prop :=
  R (.returned (.i left1)) w
noncomputable def eS2 := entS X [eL1] (pth [3]) P1 S2T
theorem L1T_step : ∀ (left1 : Int) (r2 : Nat) (r2_0 r2_1 r2_2 : Int) (r2_3 : Sl) (i5 : Int) (w : World) (R : Post) (h : sel (decide (i5 < ((r2_3.n : Nat) : Int))) (sel (decide (left1 ≥ 0)) ((0 : Int) ≤ i5 ∧ i5 < ((r2_3.n : Nat) : Int) ∧ optP r2_3.a fun t22_p => ld4_0 w (t22_p.add (Int.toNat i5 * 4)) fun t23_0 t23_1 t23_2 t23_3 => cf1 [r2] n_regex_countdown #[.agg #[.i t23_0, .int .u8 t23_1, .int .u8 t23_2, t23_3.v], .i left1] w fun t25 w1 => L1T t25 r2 r2_0 r2_1 r2_2 r2_3 (IntKind.wrap .i64 (i5 + 1)) w1 R) (S2T left1 w R)) (S2T left1 w R)), L1T left1 r2 r2_0 r2_1 r2_2 r2_3 i5 w R := mp (stepL (X := X) [eS2, eL1] (pth [0, 1, 1, 1, 2]) P0)
abbrev P2 : Ps := [(1, .v [.I]), (2, .l [.I, .Y, .Y, .s] ty_regex_Regex)]
abbrev S0T (left1 : Int) (r2 : Nat) (r2_0 r2_1 r2_2 : Int) (r2_3 : Sl) (w : World) (R : Post) : Prop :=
  L1T left1 r2 r2_0 r2_1 r2_2 r2_3 0 w R
noncomputable def eS0 := entS X [eS2, eL1] (pth [2]) P2 S0T
theorem okT (r0_0 r0_1 r0_2 : Int) (r0_3 : Sl) (left1 : Int) (w : World) (R : Post) (h : newV [] w fun b2 w1 => 
  S0T (IntKind.wrap .i64 (left1 - 1)) b2 r0_0 r0_1 r0_2 r0_3 w1 R) : Calls Tryz.prog n_regex_countdown #[.agg #[.i r0_0, .int .u8 r0_1, .int .u8 r0_2, r0_3.v], .i left1] w R := callsX X [eS0, eS2, eL1] h
end regex_countdown
namespace regex_tooLarge
noncomputable abbrev X : Fx := ⟨Tryz.prog, Tryz.f146, [], [1]⟩
theorem okT (r0_0 r0_1 r0_2 : Int) (r0_3 : Sl) (w : World) (R : Post) (h : newV [] w fun b1 w1 => 
  cf1 [b1] n_regex_countdown #[.agg #[.i r0_0, .int .u8 r0_1, .int .u8 r0_2, r0_3.v], .i 64] w1 fun t4 w2 => R (.returned (.bool (decide (t4 < 0)))) w2) : Calls Tryz.prog n_regex_tooLarge #[.agg #[.i r0_0, .int .u8 r0_1, .int .u8 r0_2, r0_3.v]] w R := callsX X [] h
end regex_tooLarge
namespace regex_proper
noncomputable abbrev X : Fx := ⟨Tryz.prog, Tryz.f165, [], [1, 4]⟩
abbrev P0 : Ps := []
abbrev S0T  (w : World) (R : Post) : Prop :=
  R (.returned (.bool false)) w
noncomputable def eS0 := entS X [] (pth [0, 1, 1, 1, 1]) P0 S0T
abbrev P1 : Ps := [(1, .l [.I, .Y, .Y, .s] ty_regex_Regex)]
abbrev S2T (r1 : Nat) (r1_0 r1_1 r1_2 : Int) (r1_3 : Sl) (w : World) (R : Post) : Prop :=
  R (.returned (.bool (((r1_3.n : Nat) : Int) == 0))) w
noncomputable def eS2 := entS X [eS0] (pth [0, 1, 1, 1, 1, 1, 2]) P1 S2T
abbrev P2 : Ps := [(52, .v [.s]), (53, .v [.I]), (54, .v [.I])]
def L5T (t52 : Sl) (t53 t54 : Int) (w : World) (R : Post) : Prop := mkCur P2 0 (X.Sem (pth [0, 1, 1, 1, 3])) t52 t53 t54 w R
noncomputable def eL5 := entL X (pth [0, 1, 1, 1, 3]) P2 L5T
theorem L5T_step : ∀ (t52 : Sl) (t53 t54 : Int) (w : World) (R : Post) (h : sel (decide (t54 < t53)) ((0 : Int) ≤ t54 ∧ t54 < ((t52.n : Nat) : Int) ∧ optP t52.a fun t56_p => ld4_0 w (t56_p.add (Int.toNat t54 * 4)) fun t57_0 t57_1 t57_2 t57_3 => newV [] w fun b4 w1 => 
  loc [b4] w1 fun w5 => cf0 [b4] n_regex_proper #[.agg #[.i t57_0, .int .u8 t57_1, .int .u8 t57_2, t57_3.v]] w5 fun t59 w6 => sel (!t59) (R (.returned (.bool false)) w6) (L5T t52 t53 (IntKind.wrap .i64 (t54 + 1)) w6 R)) (R (.returned (.bool true)) w)), L5T t52 t53 t54 w R := mp (stepL (X := X) [eL5, eS2, eS0] (pth [0, 1, 1, 1, 3]) P2)
abbrev S4T (r1 : Nat) (r1_0 r1_1 r1_2 : Int) (r1_3 : Sl) (w : World) (R : Post) : Prop :=
  L5T r1_3 ((r1_3.n : Nat) : Int) 0 w R
noncomputable def eS4 := entS X [eL5, eS2, eS0] (pth [3]) P1 S4T
abbrev S7T (r1 : Nat) (r1_0 r1_1 r1_2 : Int) (r1_3 : Sl) (w : World) (R : Post) : Prop :=
  sel (((r1_3.n : Nat) : Int) != 1) (R (.returned (.bool false)) w) (S4T r1 r1_0 r1_1 r1_2 r1_3 w R)
noncomputable def eS7 := entS X [eS4, eL5, eS2, eS0] (pth [0, 1, 7, 1, 1, 1, 2]) P1 S7T
abbrev S8T  (w : World) (R : Post) : Prop :=
  R (.returned (.bool false)) w
noncomputable def eS8 := entS X [eS7, eS4, eL5, eS2, eS0] (pth [8, 1, 1, 1, 2]) P0 S8T
abbrev P3 : Ps := [(1, .l [.I, .Y, .Y, .s] ty_regex_Regex), (19, .v [.I])]
abbrev S6T (r1 : Nat) (r1_0 r1_1 r1_2 : Int) (r1_3 : Sl) (t19 : Int) (w : World) (R : Post) : Prop :=
  sel (t19 == 6) (sel (t19 == 6) (S7T r1 r1_0 r1_1 r1_2 r1_3 w R) (S8T  w R)) (sel (t19 == 7) (S7T r1 r1_0 r1_1 r1_2 r1_3 w R) (S8T  w R))
noncomputable def eS6 := entS X [eS8, eS7, eS4, eL5, eS2, eS0] (pth [6, 1, 1, 1, 2]) P3 S6T
abbrev S3T (r1 : Nat) (r1_0 r1_1 r1_2 : Int) (r1_3 : Sl) (t19 : Int) (w : World) (R : Post) : Prop :=
  sel (t19 == 2) (sel (((r1_3.n : Nat) : Int) == 0) (R (.returned (.bool (decide (r1_1 ≤ r1_2)))) w) (R (.returned (.bool false)) w)) (sel (t19 == 3) (sel (t19 == 3) (S4T r1 r1_0 r1_1 r1_2 r1_3 w R) (S6T r1 r1_0 r1_1 r1_2 r1_3 t19 w R)) (sel (t19 == 4) (sel (t19 == 4) (S4T r1 r1_0 r1_1 r1_2 r1_3 w R) (S6T r1 r1_0 r1_1 r1_2 r1_3 t19 w R)) (sel (t19 == 5) (S4T r1 r1_0 r1_1 r1_2 r1_3 w R) (S6T r1 r1_0 r1_1 r1_2 r1_3 t19 w R))))
noncomputable def eS3 := entS X [eS6, eS8, eS7, eS4, eL5, eS2, eS0] (pth [2, 1, 1, 1, 2]) P3 S3T
abbrev S1T (r1 : Nat) (r1_0 r1_1 r1_2 : Int) (r1_3 : Sl) (w : World) (R : Post) : Prop :=
  sel (r1_0 == 0) (sel (r1_0 == 0) (S2T r1 r1_0 r1_1 r1_2 r1_3 w R) (S3T r1 r1_0 r1_1 r1_2 r1_3 r1_0 w R)) (sel (r1_0 == 1) (S2T r1 r1_0 r1_1 r1_2 r1_3 w R) (S3T r1 r1_0 r1_1 r1_2 r1_3 r1_0 w R))
noncomputable def eS1 := entS X [eS3, eS6, eS8, eS7, eS4, eL5, eS2, eS0] (pth [2]) P1 S1T
theorem okT (r0_0 r0_1 r0_2 : Int) (r0_3 : Sl) (w : World) (R : Post) (h : newV [] w fun b1 w1 => 
  sel (r0_0 != 2) (sel (r0_1 != 0) (S0T  w1 R) (sel (r0_2 != 0) (S0T  w1 R) (S1T b1 r0_0 r0_1 r0_2 r0_3 w1 R))) (S1T b1 r0_0 r0_1 r0_2 r0_3 w1 R)) : Calls Tryz.prog n_regex_proper #[.agg #[.i r0_0, .int .u8 r0_1, .int .u8 r0_2, r0_3.v]] w R := callsX X [eS1, eS3, eS6, eS8, eS7, eS4, eL5, eS2, eS0] h
end regex_proper
namespace regex_Valid
noncomputable abbrev X : Fx := ⟨Tryz.prog, Tryz.f147, [], [1]⟩
theorem okT (r0_0 r0_1 r0_2 : Int) (r0_3 : Sl) (w : World) (R : Post) (h : newV [] w fun b1 w1 => 
  cf0 [b1] n_regex_tooLarge #[.agg #[.i r0_0, .int .u8 r0_1, .int .u8 r0_2, r0_3.v]] w1 fun t4 w2 => sel t4 (R (.returned (.i 4)) w2) (cf0 [b1] n_regex_proper #[.agg #[.i r0_0, .int .u8 r0_1, .int .u8 r0_2, r0_3.v]] w2 fun t6 w3 => sel (!t6) (R (.returned (.i 1)) w3) (R (.returned (.i 0)) w3))) : Calls Tryz.prog n_regex_Valid #[.agg #[.i r0_0, .int .u8 r0_1, .int .u8 r0_2, r0_3.v]] w R := callsX X [] h
end regex_Valid
namespace regex_clone
noncomputable abbrev X : Fx := ⟨Tryz.prog, Tryz.f166, [], [1, 2, 5]⟩
abbrev P0 : Ps := [(1, .l [.I, .Y, .Y, .s] ty_regex_Regex), (2, .l [.I, .Y, .Y, .s] ty_regex_Regex), (3, .v [.s]), (7, .v [.s]), (8, .v [.I]), (9, .v [.I])]
def L0T (r1 : Nat) (r1_0 r1_1 r1_2 : Int) (r1_3 : Sl) (t2 : Nat) (t2_0 t2_1 t2_2 : Int) (t2_3 kids3 t7 : Sl) (t8 t9 : Int) (w : World) (R : Post) : Prop := mkCur P0 0 (X.Sem (pth [0, 1, 1, 1, 2])) r1 r1_0 r1_1 r1_2 r1_3 t2 t2_0 t2_1 t2_2 t2_3 kids3 t7 t8 t9 w R
noncomputable def eL0 := entL X (pth [0, 1, 1, 1, 2]) P0 L0T
theorem L0T_step : ∀ (r1 : Nat) (r1_0 r1_1 r1_2 : Int) (r1_3 : Sl) (t2 : Nat) (t2_0 t2_1 t2_2 : Int) (t2_3 kids3 t7 : Sl) (t8 t9 : Int) (w : World) (R : Post) (h : sel (decide (t9 < t8)) ((0 : Int) ≤ t9 ∧ t9 < ((t7.n : Nat) : Int) ∧ optP t7.a fun t11_p => ld4_0 w (t11_p.add (Int.toNat t9 * 4)) fun t12_0 t12_1 t12_2 t12_3 => newV [r1, t2] w fun b5 w3 => 
  loc [r1, t2, b5] w3 fun w7 => cf2 [r1, t2, b5] n_regex_clone #[.agg #[.i t12_0, .int .u8 t12_1, .int .u8 t12_2, t12_3.v]] w7 fun t15_0 t15_1 t15_2 t15_3 w8 => nwV w8 (.cells #[.i t15_0, .int .u8 t15_1, .int .u8 t15_2, t15_3.v] ty_regex_Regex) fun w9 => 
  ∃ (t17 : Sl) (w10 : World), Sem.run Tryz.prog (Builtin.append_ #[ty_sl_regex_Regex, ty_sl_regex_Regex] ty_sl_regex_Regex #[kids3.v, .slice (some (nb w8)) 1 1]) w9 = .ok (t17.v) w10 ∧ kept [r1, t2, b5] w9 w10 ∧ L0T r1 r1_0 r1_1 r1_2 r1_3 t2 t2_0 t2_1 t2_2 t2_3 t17 t7 t8 (IntKind.wrap .i64 (t9 + 1)) w10 R) (loc [r1, t2] w fun w14 => R (.returned (.agg #[.i r1_0, .int .u8 r1_1, .int .u8 r1_2, kids3.v])) w14)), L0T r1 r1_0 r1_1 r1_2 r1_3 t2 t2_0 t2_1 t2_2 t2_3 kids3 t7 t8 t9 w R := mp (stepL (X := X) [eL0] (pth [0, 1, 1, 1, 2]) P0)
theorem okT (r0_0 r0_1 r0_2 : Int) (r0_3 : Sl) (w : World) (R : Post) (h : newV [] w fun b1 w1 => 
  newV [b1] w1 fun b2 w2 => 
  L0T b1 r0_0 r0_1 r0_2 r0_3 b2 0 0 0 ⟨none, 0, 0⟩ ⟨none, 0, 0⟩ r0_3 ((r0_3.n : Nat) : Int) 0 w2 R) : Calls Tryz.prog n_regex_clone #[.agg #[.i r0_0, .int .u8 r0_1, .int .u8 r0_2, r0_3.v]] w R := callsX X [eL0] h
end regex_clone
namespace regex_limited
noncomputable abbrev X : Fx := ⟨Tryz.prog, Tryz.f148, [], [1, 2]⟩
theorem okT (r0_0 r0_1 r0_2 : Int) (r0_3 : Sl) (w : World) (R : Post) (h : newV [] w fun b1 w1 => 
  newV [b1] w1 fun b2 w2 => 
  cf0 [b1, b2] n_regex_tooLarge #[.agg #[.i r0_0, .int .u8 r0_1, .int .u8 r0_2, r0_3.v]] w2 fun t5 w3 => sel t5 (loc [b1, b2] w3 fun w7 => R (.returned (.tuple #[.agg #[.i 0, .int .u8 0, .int .u8 0, .slice none 0 0], .i 4])) w7) (cf2 [b1, b2] n_regex_clone #[.agg #[.i r0_0, .int .u8 r0_1, .int .u8 r0_2, r0_3.v]] w3 fun t8_0 t8_1 t8_2 t8_3 w8 => loc [b1, b2] w8 fun w12 => R (.returned (.tuple #[.agg #[.i t8_0, .int .u8 t8_1, .int .u8 t8_2, t8_3.v], .i 0])) w12)) : Calls Tryz.prog n_regex_limited #[.agg #[.i r0_0, .int .u8 r0_1, .int .u8 r0_2, r0_3.v]] w R := callsX X [] h
end regex_limited
end Go.Proofs.YtcifihepfadgfaaGreatDoor
set_option linter.unusedVariables false
set_option maxRecDepth 100000
set_option maxHeartbeats 2000000
namespace Go.Proofs.YtcifihepfadgfaaGreatDoor
open Go Go.W
namespace regex_flat_1
noncomputable abbrev X : Fx := ⟨Tryz.prog, Tryz.f188, [], [2]⟩
theorem okT (k0_0 k0_1 k0_2 : Int) (k0_3 : Sl) (t1 : Addr) (w : World) (R : Post) (h : newV [] w fun b2 w1 => 
  ld4_0 w1 t1 fun t5_0 t5_1 t5_2 t5_3 => cf0 [b2] n_regex_equal #[.agg #[.i k0_0, .int .u8 k0_1, .int .u8 k0_2, k0_3.v], .agg #[.i t5_0, .int .u8 t5_1, .int .u8 t5_2, t5_3.v]] w1 fun t6 w2 => R (.returned (.bool t6)) w2) : Calls Tryz.prog n_regex_flat_1 #[.agg #[.i k0_0, .int .u8 k0_1, .int .u8 k0_2, k0_3.v], .pointer (some t1)] w R := callsX X [] h
end regex_flat_1
namespace slices_IndexFunc_sl_regex_Regex_regex_Regex
noncomputable abbrev X : Fx := ⟨Tryz.prog, Tryz.f189, [], []⟩
abbrev P0 : Ps := [(0, .v [.s]), (1, .v [.f]), (7, .v [.I]), (8, .v [.I])]
def L0 (s0 : Sl) (f1 : Fv) (t7 t8 : Int) (w : World) (R : Post) : Prop := mkCur P0 0 (X.Sem (pth [0, 1, 1, 1, 1])) s0 f1 t7 t8 w R
noncomputable def eL0 := entL X (pth [0, 1, 1, 1, 1]) P0 L0
theorem L0_step : ∀ (s0 : Sl) (f1 : Fv) (t7 t8 : Int) (w : World) (R : Post) (h : sel (decide (t8 < t7)) ((0 : Int) ≤ t8 ∧ t8 < ((s0.n : Nat) : Int) ∧ optP s0.a fun t14_p => ld4_0 w (t14_p.add (Int.toNat t8 * 4)) fun t15_0 t15_1 t15_2 t15_3 => AndT (callable Tryz.prog f1.n) (Calls Tryz.prog f1.n (f1.bs ++ #[.agg #[.i t15_0, .int .u8 t15_1, .int .u8 t15_2, t15_3.v]] ++ f1.cs) w fun r_ w1 => ∃ t16 : Bool, r_ = .returned (.bool t16) ∧ 
  sel t16 (R (.returned (.i t8)) w1) (L0 s0 f1 t7 (IntKind.wrap .i64 (t8 + 1)) w1 R))) (R (.returned (.i (-1))) w)), L0 s0 f1 t7 t8 w R := mp (stepL (X := X) [eL0] (pth [0, 1, 1, 1, 1]) P0)
theorem ok (s0 : Sl) (f1 : Fv) (w : World) (R : Post) (h : L0 s0 f1 ((s0.n : Nat) : Int) 0 w R) : Calls Tryz.prog n_slices_IndexFunc_sl_regex_Regex_regex_Regex #[s0.v, f1.v] w R := callsX X [eL0] h
end slices_IndexFunc_sl_regex_Regex_regex_Regex
namespace slices_ContainsFunc_sl_regex_Regex_regex_Regex
noncomputable abbrev X : Fx := ⟨Tryz.prog, Tryz.f171, [], []⟩
theorem ok (s0 : Sl) (f1 : Fv) (w : World) (R : Post) (h : ca1 n_slices_IndexFunc_sl_regex_Regex_regex_Regex #[s0.v, f1.v] w fun t7 w1 => R (.returned (.bool (decide (t7 ≥ 0)))) w1) : Calls Tryz.prog n_slices_ContainsFunc_sl_regex_Regex_regex_Regex #[s0.v, f1.v] w R := callsX X [] h
end slices_ContainsFunc_sl_regex_Regex_regex_Regex
namespace slices_DeleteFunc_sl_regex_Regex_regex_Regex
noncomputable abbrev X : Fx := ⟨Tryz.prog, Tryz.f187, [], [7]⟩
abbrev P0 : Ps := [(0, .v [.s]), (1, .v [.g n_regex_flat_1 0 1, .r]), (5, .v [.I]), (6, .v [.I])]
def L0T (s0 : Sl) (del1_c0 : Addr) (i5 j6 : Int) (w : World) (R : Post) : Prop := mkCur P0 0 (X.Sem (pth [0, 1, 1, 1, 3])) s0 del1_c0 i5 j6 w R
noncomputable def eL0 := entL X (pth [0, 1, 1, 1, 3]) P0 L0T
abbrev S1T (s0 : Sl) (del1_c0 : Addr) (i5 j6 : Int) (w : World) (R : Post) : Prop :=
  L0T s0 del1_c0 i5 (IntKind.wrap .i64 (j6 + 1)) w R
noncomputable def eS1 := entS X [eL0] (pth [2, 2, 1, 1, 3]) P0 S1T
theorem L0T_step : ∀ (s0 : Sl) (del1_c0 : Addr) (i5 j6 : Int) (w : World) (R : Post) (h : sel (decide (j6 < ((s0.n : Nat) : Int))) ((0 : Int) ≤ j6 ∧ j6 < ((s0.n : Nat) : Int) ∧ optP s0.a fun t24_p => ld4_0 w (t24_p.add (Int.toNat j6 * 4)) fun t25_0 t25_1 t25_2 t25_3 => newV [] w fun b7 w2 => 
  loc [b7] w2 fun w6 => cf0 [b7] n_regex_flat_1 #[.agg #[.i t25_0, .int .u8 t25_1, .int .u8 t25_2, t25_3.v], .pointer (some del1_c0)] w6 fun t28 w7 => sel (!t28) ((0 : Int) ≤ i5 ∧ i5 < ((s0.n : Nat) : Int) ∧ optP s0.a fun t33_p => stV w7 (t33_p.add (Int.toNat i5 * 4)) (.i t25_0) fun w8 => kept [b7] w7 w8 ∧ 
  stV w8 ((t33_p.add (Int.toNat i5 * 4)).add 1) (.int .u8 t25_1) fun w9 => kept [b7] w8 w9 ∧ 
  stV w9 ((t33_p.add (Int.toNat i5 * 4)).add 2) (.int .u8 t25_2) fun w10 => kept [b7] w9 w10 ∧ 
  stV w10 ((t33_p.add (Int.toNat i5 * 4)).add 3) (t25_3.v) fun w11 => kept [b7] w10 w11 ∧ 
  S1T s0 del1_c0 (IntKind.wrap .i64 (i5 + 1)) j6 w11 R) (S1T s0 del1_c0 i5 j6 w7 R)) ((0 : Int) ≤ i5 ∧ i5 ≤ ((s0.n : Nat) : Int) ∧ ∃ (w12 : World), Sem.run Tryz.prog (Builtin.clear_ #[ty_sl_regex_Regex] ty_ #[.slice (if s0.c = (Int.toNat i5) then s0.a else s0.a.map (·.add ((Int.toNat i5) * 4))) (s0.n - (Int.toNat i5)) (s0.c - (Int.toNat i5))]) w = .ok (.tuple #[]) w12 ∧ (0 : Int) ≤ i5 ∧ i5 ≤ ((s0.c : Nat) : Int) ∧ R (.returned (.slice (if s0.c = 0 then s0.a else s0.a.map (·.add (0 * 4))) ((Int.toNat i5) - 0) (s0.c - 0))) w12)), L0T s0 del1_c0 i5 j6 w R := mp (stepL (X := X) [eS1, eL0] (pth [0, 1, 1, 1, 3]) P0)
theorem okT (s0 : Sl) (del1_c0 : Addr) (w : World) (R : Post) (h : ca1 n_slices_IndexFunc_sl_regex_Regex_regex_Regex #[s0.v, .func (.func n_regex_flat_1) #[] #[.pointer (some del1_c0)]] w fun t10 w1 => sel (t10 == (-1)) (R (.returned (s0.v)) w1) (L0T s0 del1_c0 t10 (IntKind.wrap .i64 (t10 + 1)) w1 R)) : Calls Tryz.prog n_slices_DeleteFunc_sl_regex_Regex_regex_Regex #[s0.v, .func (.func n_regex_flat_1) #[] #[.pointer (some del1_c0)]] w R := callsX X [eS1, eL0] h
end slices_DeleteFunc_sl_regex_Regex_regex_Regex
namespace slices_CompactFunc_sl_regex_Regex_regex_Regex
noncomputable abbrev X : Fx := ⟨Tryz.prog, Tryz.f176, [(6,ls [0,1,2,3,4,5,6,7,8,9,10]), (11,ls [0,1,2,3,4,5,6,7,8,9,10,11])], []⟩
abbrev P0 : Ps := [(0, .v [.s]), (1, .v [.g n_regex_equal 0 0]), (5, .v [.I])]
def L0 (s0 : Sl) (k5 : Int) (w : World) (R : Post) : Prop := mkCur P0 0 (X.Sem (pth [0, 1, 1, 1, 2])) s0 k5 w R
noncomputable def eL0 := entL X (pth [0, 1, 1, 1, 2]) P0 L0
abbrev P1 : Ps := [(0, .v [.s]), (1, .v [.g n_regex_equal 0 0]), (5, .v [.I]), (6, .v [.s]), (7, .v [.I])]
def L2 (s0 : Sl) (k5 : Int) (s26 : Sl) (k27 : Int) (w : World) (R : Post) : Prop := mkCur P1 0 (X.Sem (pth [0, 1, 1, 1, 1, 1, 1, 2, 1, 2, 1, 1, 2])) s0 k5 s26 k27 w R
noncomputable def eL2 := entL X (pth [0, 1, 1, 1, 1, 1, 1, 2, 1, 2, 1, 1, 2]) P1 L2
abbrev S3 (s0 : Sl) (k5 : Int) (s26 : Sl) (k27 : Int) (w : World) (R : Post) : Prop :=
  L2 s0 k5 s26 (IntKind.wrap .i64 (k27 + 1)) w R
noncomputable def eS3 := entS X [eL2, eL0] (pth [2, 2, 1, 1, 1, 1, 1, 2, 1, 2, 1, 1, 2]) P1 S3
abbrev P2 : Ps := [(0, .v [.s]), (1, .v [.g n_regex_equal 0 0]), (5, .v [.I]), (6, .v [.s])]
abbrev S1 (s0 : Sl) (k5 : Int) (s26 : Sl) (w : World) (R : Post) : Prop :=
  L2 s0 k5 s26 1 w R
noncomputable def eS1 := entS X [eS3, eL2, eL0] (pth [1, 1, 1, 2, 1, 2, 1, 1, 2]) P2 S1
theorem L0_step : ∀ (s0 : Sl) (k5 : Int) (w : World) (R : Post) (h : sel (decide (k5 < ((s0.n : Nat) : Int))) (drV w fun w1 => (0 : Int) ≤ k5 ∧ k5 < ((s0.n : Nat) : Int) ∧ optP s0.a fun t21_p => ld4_0 w1 (t21_p.add (Int.toNat k5 * 4)) fun t22_0 t22_1 t22_2 t22_3 => (0 : Int) ≤ (IntKind.wrap .i64 (k5 - 1)) ∧ (IntKind.wrap .i64 (k5 - 1)) < ((s0.n : Nat) : Int) ∧ optP s0.a fun t26_p => ld4_0 w1 (t26_p.add (Int.toNat (IntKind.wrap .i64 (k5 - 1)) * 4)) fun t27_0 t27_1 t27_2 t27_3 => ca0 n_regex_equal #[.agg #[.i t22_0, .int .u8 t22_1, .int .u8 t22_2, t22_3.v], .agg #[.i t27_0, .int .u8 t27_1, .int .u8 t27_2, t27_3.v]] w1 fun t28 w2 => sel t28 ((0 : Int) ≤ k5 ∧ k5 ≤ ((s0.n : Nat) : Int) ∧ S1 s0 k5 ⟨(if s0.c = (Int.toNat k5) then s0.a else s0.a.map (·.add ((Int.toNat k5) * 4))), (s0.n - (Int.toNat k5)), (s0.c - (Int.toNat k5))⟩ w2 R) (L0 s0 (IntKind.wrap .i64 (k5 + 1)) w2 R)) (R (.returned (s0.v)) w)), L0 s0 k5 w R := mp (stepL (X := X) [eS1, eS3, eL2, eL0] (pth [0, 1, 1, 1, 2]) P0)
theorem ok (s0 : Sl) (w : World) (R : Post) (h : sel (decide (((s0.n : Nat) : Int) < 2)) (R (.returned (s0.v)) w) (L0 s0 1 w R)) : Calls Tryz.prog n_slices_CompactFunc_sl_regex_Regex_regex_Regex #[s0.v, .func (.func n_regex_equal) #[] #[]] w R := callsX X [eS1, eS3, eL2, eL0] h
end slices_CompactFunc_sl_regex_Regex_regex_Regex
namespace regex_flat
noncomputable abbrev X : Fx := ⟨Tryz.prog, Tryz.f170, [], [2, 7]⟩
abbrev P0 : Ps := [(2, .l [.I, .Y, .Y, .s] ty_regex_Regex), (3, .v [.r]), (5, .v [.s]), (9, .v [.s]), (10, .v [.I]), (11, .v [.I])]
def L0T (r2 : Nat) (r2_0 r2_1 r2_2 : Int) (r2_3 : Sl) (unit3 : Addr) (l5 t9 : Sl) (t10 t11 : Int) (w : World) (R : Post) : Prop := mkCur P0 0 (X.Sem (pth [0, 1, 1, 1, 2])) r2 r2_0 r2_1 r2_2 r2_3 unit3 l5 t9 t10 t11 w R
noncomputable def eL0 := entL X (pth [0, 1, 1, 1, 2]) P0 L0T
abbrev S1T (r2 : Nat) (r2_0 r2_1 r2_2 : Int) (r2_3 : Sl) (unit3 : Addr) (l5 t9 : Sl) (t10 t11 : Int) (w : World) (R : Post) : Prop :=
  L0T r2 r2_0 r2_1 r2_2 r2_3 unit3 l5 t9 t10 (IntKind.wrap .i64 (t11 + 1)) w R
noncomputable def eS1 := entS X [eL0] (pth [3, 2, 1, 1, 2]) P0 S1T
theorem L0T_step : ∀ (r2 : Nat) (r2_0 r2_1 r2_2 : Int) (r2_3 : Sl) (unit3 : Addr) (l5 t9 : Sl) (t10 t11 : Int) (w : World) (R : Post) (h : sel (decide (t11 < t10)) ((0 : Int) ≤ t11 ∧ t11 < ((t9.n : Nat) : Int) ∧ optP t9.a fun t13_p => ld4_0 w (t13_p.add (Int.toNat t11 * 4)) fun t14_0 t14_1 t14_2 t14_3 => newV [r2] w fun b7 w3 => 
  sel (t14_0 == r2_0) (loc [r2, b7] w3 fun w7 => ∃ (t23 : Sl) (w8 : World), Sem.run Tryz.prog (Builtin.append_ #[ty_sl_regex_Regex, ty_sl_regex_Regex] ty_sl_regex_Regex #[l5.v, t14_3.v]) w7 = .ok (t23.v) w8 ∧ kept [r2, b7] w7 w8 ∧ S1T r2 r2_0 r2_1 r2_2 r2_3 unit3 t23 t9 t10 t11 w8 R) (loc [r2, b7] w3 fun w7 => nwV w7 (.cells #[.i t14_0, .int .u8 t14_1, .int .u8 t14_2, t14_3.v] ty_regex_Regex) fun w9 => 
  ∃ (t27 : Sl) (w10 : World), Sem.run Tryz.prog (Builtin.append_ #[ty_sl_regex_Regex, ty_sl_regex_Regex] ty_sl_regex_Regex #[l5.v, .slice (some (nb w7)) 1 1]) w9 = .ok (t27.v) w10 ∧ kept [r2, b7] w9 w10 ∧ S1T r2 r2_0 r2_1 r2_2 r2_3 unit3 t27 t9 t10 t11 w10 R)) (cf3 [r2] n_slices_DeleteFunc_sl_regex_Regex_regex_Regex #[l5.v, .func (.func n_regex_flat_1) #[] #[.pointer (some unit3)]] w fun t31 w11 => R (.returned (t31.v)) w11)), L0T r2 r2_0 r2_1 r2_2 r2_3 unit3 l5 t9 t10 t11 w R := mp (stepL (X := X) [eS1, eL0] (pth [0, 1, 1, 1, 2]) P0)
theorem okT (r0_0 r0_1 r0_2 : Int) (r0_3 : Sl) (unit1_0 unit1_1 unit1_2 : Int) (unit1_3 : Sl) (w : World) (R : Post) (h : newV [] w fun b2 w1 => 
  nwV w1 (.cells #[.i unit1_0, .int .u8 unit1_1, .int .u8 unit1_2, unit1_3.v] ty_regex_Regex) fun w2 => 
  L0T b2 r0_0 r0_1 r0_2 r0_3 (nb w1) ⟨none, 0, 0⟩ r0_3 ((r0_3.n : Nat) : Int) 0 w2 R) : Calls Tryz.prog n_regex_flat #[.agg #[.i r0_0, .int .u8 r0_1, .int .u8 r0_2, r0_3.v], .agg #[.i unit1_0, .int .u8 unit1_1, .int .u8 unit1_2, unit1_3.v]] w R := callsX X [eS1, eL0] h
end regex_flat
namespace regex_forms_1
noncomputable abbrev X : Fx := ⟨Tryz.prog, Tryz.f167, [], [1, 2]⟩
theorem okT (r0_0 r0_1 r0_2 : Int) (r0_3 : Sl) (w : World) (R : Post) (h : newV [] w fun b1 w1 => 
  newV [b1] w1 fun b2 w2 => 
  loc [b1, b2] w2 fun w6 => R (.returned (.agg #[.i r0_0, .int .u8 r0_1, .int .u8 r0_2, r0_3.v])) w6) : Calls Tryz.prog n_regex_forms_1 #[.agg #[.i r0_0, .int .u8 r0_1, .int .u8 r0_2, r0_3.v]] w R := callsX X [] h
end regex_forms_1
namespace regex_forms_2
noncomputable abbrev X : Fx := ⟨Tryz.prog, Tryz.f168, [], []⟩
theorem ok (unit0_0 unit0_1 unit0_2 : Int) (unit0_3 : Sl) (zero1_0 zero1_1 zero1_2 : Int) (zero1_3 : Sl) (w : World) (R : Post) (h : nwV w (.cells #[.i unit0_0, .int .u8 unit0_1, .int .u8 unit0_2, unit0_3.v] ty_regex_Regex) fun w1 => 
  nwV w1 (.cells #[.i zero1_0, .int .u8 zero1_1, .int .u8 zero1_2, zero1_3.v] ty_regex_Regex) fun w2 => 
  R (.returned (.func (.func n_regex_forms_2_1) #[] #[.pointer (some (nb w)), .pointer (some (nb w1))])) w2) : Calls Tryz.prog n_regex_forms_2 #[.agg #[.i unit0_0, .int .u8 unit0_1, .int .u8 unit0_2, unit0_3.v], .agg #[.i zero1_0, .int .u8 zero1_1, .int .u8 zero1_2, zero1_3.v]] w R := callsX X [] h
end regex_forms_2
namespace regex_forms_2_1
noncomputable abbrev X : Fx := ⟨Tryz.prog, Tryz.f169, [], [3, 4]⟩
abbrev P0 : Ps := [(1, .v [.r]), (3, .l [.I, .Y, .Y, .s] ty_regex_Regex), (4, .l [.I, .Y, .Y, .s] ty_regex_Regex), (5, .v [.s])]
abbrev S0T (t1 : Addr) (r3 : Nat) (r3_0 r3_1 r3_2 : Int) (r3_3 : Sl) (t4 : Nat) (t4_0 t4_1 t4_2 : Int) (t4_3 kids5 : Sl) (w : World) (R : Post) : Prop :=
  sel (((kids5.n : Nat) : Int) == 0) (ld4_0 w t1 fun t24_0 t24_1 t24_2 t24_3 => loc [r3, t4] w fun w4 => R (.returned (.agg #[.i t24_0, .int .u8 t24_1, .int .u8 t24_2, t24_3.v])) w4) (sel (((kids5.n : Nat) : Int) == 1) ((0 : Int) ≤ 0 ∧ 0 < ((kids5.n : Nat) : Int) ∧ optP kids5.a fun t28_p => ld4_0 w (t28_p.add (Int.toNat 0 * 4)) fun t29_0 t29_1 t29_2 t29_3 => loc [r3, t4] w fun w8 => R (.returned (.agg #[.i t29_0, .int .u8 t29_1, .int .u8 t29_2, t29_3.v])) w8) (loc [r3, t4] w fun w12 => R (.returned (.agg #[.i r3_0, .int .u8 0, .int .u8 0, kids5.v])) w12))
noncomputable def eS0 := entS X [] (pth [4]) P0 S0T
theorem okT (r0_0 r0_1 r0_2 : Int) (r0_3 : Sl) (t1 t2 : Addr) (w : World) (R : Post) (h : newV [] w fun b3 w1 => 
  newV [b3] w1 fun b4 w2 => 
  ld4_0 w2 t1 fun t7_0 t7_1 t7_2 t7_3 => cf3 [b3, b4] n_regex_flat #[.agg #[.i r0_0, .int .u8 r0_1, .int .u8 r0_2, r0_3.v], .agg #[.i t7_0, .int .u8 t7_1, .int .u8 t7_2, t7_3.v]] w2 fun t8 w3 => cf0 [b3, b4] n_slices_ContainsFunc_sl_regex_Regex_regex_Regex #[t8.v, .func (.func n_regex_forms_2_1_1) #[] #[.pointer (some t2)]] w3 fun t11 w4 => sel t11 (ld4_0 w4 t2 fun t12_0 t12_1 t12_2 t12_3 => loc [b3, b4] w4 fun w8 => R (.returned (.agg #[.i t12_0, .int .u8 t12_1, .int .u8 t12_2, t12_3.v])) w8) (sel (r0_0 != 3) (cf4 [b3, b4] n_slices_SortFunc_sl_regex_Regex_regex_Regex #[t8.v, .func (.func n_regex_Compare) #[] #[]] w4 fun w9 => cf3 [b3, b4] n_slices_CompactFunc_sl_regex_Regex_regex_Regex #[t8.v, .func (.func n_regex_equal) #[] #[]] w9 fun t19 w10 => S0T t1 b3 r0_0 r0_1 r0_2 r0_3 b4 0 0 0 ⟨none, 0, 0⟩ t19 w10 R) (S0T t1 b3 r0_0 r0_1 r0_2 r0_3 b4 0 0 0 ⟨none, 0, 0⟩ t8 w4 R))) : Calls Tryz.prog n_regex_forms_2_1 #[.agg #[.i r0_0, .int .u8 r0_1, .int .u8 r0_2, r0_3.v], .pointer (some t1), .pointer (some t2)] w R := callsX X [eS0] h
end regex_forms_2_1
namespace regex_forms_2_1_1
noncomputable abbrev X : Fx := ⟨Tryz.prog, Tryz.f172, [], [2]⟩
theorem okT (k0_0 k0_1 k0_2 : Int) (k0_3 : Sl) (t1 : Addr) (w : World) (R : Post) (h : newV [] w fun b2 w1 => 
  ld4_0 w1 t1 fun t5_0 t5_1 t5_2 t5_3 => cf0 [b2] n_regex_equal #[.agg #[.i k0_0, .int .u8 k0_1, .int .u8 k0_2, k0_3.v], .agg #[.i t5_0, .int .u8 t5_1, .int .u8 t5_2, t5_3.v]] w1 fun t6 w2 => R (.returned (.bool t6)) w2) : Calls Tryz.prog n_regex_forms_2_1_1 #[.agg #[.i k0_0, .int .u8 k0_1, .int .u8 k0_2, k0_3.v], .pointer (some t1)] w R := callsX X [] h
end regex_forms_2_1_1
namespace regex_forms_3
noncomputable abbrev X : Fx := ⟨Tryz.prog, Tryz.f177, [], [1, 2]⟩
theorem okT (r0_0 r0_1 r0_2 : Int) (r0_3 : Sl) (w : World) (R : Post) (h : newV [] w fun b1 w1 => 
  newV [b1] w1 fun b2 w2 => 
  (0 : Int) ≤ 0 ∧ 0 < ((r0_3.n : Nat) : Int) ∧ optP r0_3.a fun t5_p => ∃ t7 : Int, w2.cell? ((t5_p.add (Int.toNat 0 * 4)).add 0) = some (.i t7) ∧ 
  sel (t7 == 6) ((0 : Int) ≤ 0 ∧ 0 < ((r0_3.n : Nat) : Int) ∧ optP r0_3.a fun t11_p => ∃ t13 : Sl, w2.cell? ((t11_p.add (Int.toNat 0 * 4)).add 3) = some (t13.v) ∧ 
  (0 : Int) ≤ 0 ∧ 0 < ((t13.n : Nat) : Int) ∧ optP t13.a fun t14_p => ld4_0 w2 (t14_p.add (Int.toNat 0 * 4)) fun t15_0 t15_1 t15_2 t15_3 => loc [b1, b2] w2 fun w6 => R (.returned (.agg #[.i t15_0, .int .u8 t15_1, .int .u8 t15_2, t15_3.v])) w6) (loc [b1, b2] w2 fun w10 => R (.returned (.agg #[.i r0_0, .int .u8 r0_1, .int .u8 r0_2, r0_3.v])) w10)) : Calls Tryz.prog n_regex_forms_3 #[.agg #[.i r0_0, .int .u8 r0_1, .int .u8 r0_2, r0_3.v]] w R := callsX X [] h
end regex_forms_3
namespace regex_forms_4
noncomputable abbrev X : Fx := ⟨Tryz.prog, Tryz.f178, [], [3, 4, 5]⟩
abbrev P0 : Ps := [(1, .v [.r]), (4, .l [.I, .Y, .Y, .s] ty_regex_Regex)]
abbrev S0T (t1 : Addr) (t4 : Nat) (t4_0 t4_1 t4_2 : Int) (t4_3 : Sl) (w : World) (R : Post) : Prop :=
  ld4_0 w t1 fun t18_0 t18_1 t18_2 t18_3 => loc [t4] w fun w4 => R (.returned (.agg #[.i t18_0, .int .u8 t18_1, .int .u8 t18_2, t18_3.v])) w4
noncomputable def eS0 := entS X [] (pth [0, 1, 1, 1, 2]) P0 S0T
abbrev P1 : Ps := [(4, .l [.I, .Y, .Y, .s] ty_regex_Regex), (5, .l [.I, .Y, .Y, .s] ty_regex_Regex)]
abbrev S1T (t4 : Nat) (t4_0 t4_1 t4_2 : Int) (t4_3 : Sl) (k5 : Nat) (k5_0 k5_1 k5_2 : Int) (k5_3 : Sl) (w : World) (R : Post) : Prop :=
  loc [t4, k5] w fun w4 => R (.returned (.agg #[.i k5_0, .int .u8 k5_1, .int .u8 k5_2, k5_3.v])) w4
noncomputable def eS1 := entS X [eS0] (pth [0, 1, 1, 1, 3]) P1 S1T
theorem okT (r0_0 r0_1 r0_2 : Int) (r0_3 : Sl) (t1 t2 : Addr) (w : World) (R : Post) (h : newV [] w fun b3 w1 => 
  newV [b3] w1 fun b4 w2 => 
  (0 : Int) ≤ 0 ∧ 0 < ((r0_3.n : Nat) : Int) ∧ optP r0_3.a fun t8_p => ld4_0 w2 (t8_p.add (Int.toNat 0 * 4)) fun t9_0 t9_1 t9_2 t9_3 => newV [b3, b4] w2 fun b5 w3 => 
  sel (t9_0 == 0) (loc [b3, b4, b5] w3 fun w7 => S0T t1 b4 0 0 0 ⟨none, 0, 0⟩ w7 R) (sel (t9_0 == 1) (loc [b3, b4, b5] w3 fun w7 => S0T t1 b4 0 0 0 ⟨none, 0, 0⟩ w7 R) (sel (t9_0 == 7) (loc [b3, b4, b5] w3 fun w7 => S1T b4 0 0 0 ⟨none, 0, 0⟩ b5 t9_0 t9_1 t9_2 t9_3 w7 R) (loc [b3, b4, b5] w3 fun w7 => ld4_0 w7 t2 fun t24_0 t24_1 t24_2 t24_3 => cf0 [b3, b4, b5] n_regex_equal #[.agg #[.i t9_0, .int .u8 t9_1, .int .u8 t9_2, t9_3.v], .agg #[.i t24_0, .int .u8 t24_1, .int .u8 t24_2, t24_3.v]] w7 fun t25 w8 => sel t25 (S1T b4 0 0 0 ⟨none, 0, 0⟩ b5 t9_0 t9_1 t9_2 t9_3 w8 R) (loc [b3, b4, b5] w8 fun w12 => R (.returned (.agg #[.i r0_0, .int .u8 r0_1, .int .u8 r0_2, r0_3.v])) w12))))) : Calls Tryz.prog n_regex_forms_4 #[.agg #[.i r0_0, .int .u8 r0_1, .int .u8 r0_2, r0_3.v], .pointer (some t1), .pointer (some t2)] w R := callsX X [eS1, eS0] h
end regex_forms_4
namespace regex_normal
noncomputable abbrev X : Fx := ⟨Tryz.prog, Tryz.f149, [(5,ls [0,1,2,3,4,5,6,7,8])], []⟩
abbrev P0 : Ps := [(0, .v [.m]), (3, .v [.r]), (4, .v [.r]), (5, .v [.r]), (16, .v [.s]), (17, .v [.I]), (18, .v [.I])]
def L0 (f0 : Option Nat) (r3 t4 n5 : Addr) (t16 : Sl) (t17 t18 : Int) (w : World) (R : Post) : Prop := mkCur P0 0 (X.Sem (pth [0, 1, 1, 1, 2])) f0 r3 t4 n5 t16 t17 t18 w R
noncomputable def eL0 := entL X (pth [0, 1, 1, 1, 2]) P0 L0
theorem L0_step : ∀ (f0 : Option Nat) (r3 t4 n5 : Addr) (t16 : Sl) (t17 t18 : Int) (w : World) (R : Post) (h : sel (decide (t18 < t17)) ((0 : Int) ≤ t18 ∧ t18 < ((t16.n : Nat) : Int) ∧ optP t16.a fun t20_p => ld4_0 w (t20_p.add (Int.toNat t18 * 4)) fun t21_0 t21_1 t21_2 t21_3 => nwV w (.cells #[.i 0, .int .u8 0, .int .u8 0, .slice none 0 0] ty_regex_Regex) fun w8 => 
  stW4 w8 (nb w) (.i t21_0) (.int .u8 t21_1) (.int .u8 t21_2) (t21_3.v) fun w12 => drV w12 fun w13 => ∃ t23 : Sl, w13.cell? (n5.add 3) = some (t23.v) ∧ 
  ld4_0 w13 (nb w) fun t25_0 t25_1 t25_2 t25_3 => ca2 n_regex_normal #[.map f0, .agg #[.i t25_0, .int .u8 t25_1, .int .u8 t25_2, t25_3.v]] w13 fun t26_0 t26_1 t26_2 t26_3 w14 => w14.cell? (n5.add 3) = some (t23.v) ∧ nwV w14 (.cells #[.i t26_0, .int .u8 t26_1, .int .u8 t26_2, t26_3.v] ty_regex_Regex) fun w15 => 
  w15.cell? (n5.add 3) = some (t23.v) ∧ ∃ (t28 : Sl) (w16 : World), Sem.run Tryz.prog (Builtin.append_ #[ty_sl_regex_Regex, ty_sl_regex_Regex] ty_sl_regex_Regex #[t23.v, .slice (some (nb w14)) 1 1]) w15 = .ok (t28.v) w16 ∧ stV w16 (n5.add 3) (t28.v) fun w17 => 
  L0 f0 r3 t4 n5 t16 t17 (IntKind.wrap .i64 (t18 + 1)) w17 R) (∃ t33 : Int, w.cell? (r3.add 0) = some (.i t33) ∧ 
  ∃ t34_x1 : Fv, Sem.run Tryz.prog (Instr.lookup ty_map_int_func_regex_Regex_regex_Regex (.map f0) (.i t33) false) w = .ok (t34_x1.v) w ∧ ld4_0 w n5 fun t35_0 t35_1 t35_2 t35_3 => AndT (callable Tryz.prog t34_x1.n) (Calls Tryz.prog t34_x1.n (t34_x1.bs ++ #[.agg #[.i t35_0, .int .u8 t35_1, .int .u8 t35_2, t35_3.v]] ++ t34_x1.cs) w fun r_ w18 => ∃ t36_0 : Int, ∃ t36_1 : Int, ∃ t36_2 : Int, ∃ t36_3 : Sl, r_ = .returned (.agg #[.i t36_0, .int .u8 t36_1, .int .u8 t36_2, t36_3.v]) ∧ 
  stW4 w18 t4 (.i t36_0) (.int .u8 t36_1) (.int .u8 t36_2) (t36_3.v) fun w22 => ld4_0 w22 t4 fun r4_0 r4_1 r4_2 r4_3 => R (.returned (.agg #[.i r4_0, .int .u8 r4_1, .int .u8 r4_2, r4_3.v])) w22))), L0 f0 r3 t4 n5 t16 t17 t18 w R := mp (stepL (X := X) [eL0] (pth [0, 1, 1, 1, 2]) P0)
theorem ok (f0 : Option Nat) (r1_0 r1_1 r1_2 : Int) (r1_3 : Sl) (w : World) (R : Post) (h : nwV w (.cells #[.i r1_0, .int .u8 r1_1, .int .u8 r1_2, r1_3.v] ty_regex_Regex) fun w1 => 
  nwV w1 (.cells #[.i 0, .int .u8 0, .int .u8 0, .slice none 0 0] ty_regex_Regex) fun w2 => 
  ∃ t9 : Int, w2.cell? ((nb w).add 0) = some (.i t9) ∧ 
  ∃ t11 : Int, w2.cell? ((nb w).add 1) = some (.int .u8 t11) ∧ 
  ∃ t13 : Int, w2.cell? ((nb w).add 2) = some (.int .u8 t13) ∧ 
  nwV w2 (.cells #[.i 0, .int .u8 0, .int .u8 0, .slice none 0 0] ty_regex_Regex) fun w3 => 
  stW4 w3 (nb w2) (.i t9) (.int .u8 t11) (.int .u8 t13) (.slice none 0 0) fun w7 => ∃ t16 : Sl, w7.cell? ((nb w).add 3) = some (t16.v) ∧ 
  L0 f0 (nb w) (nb w1) (nb w2) t16 ((t16.n : Nat) : Int) 0 w7 R) : Calls Tryz.prog n_regex_normal #[.map f0, .agg #[.i r1_0, .int .u8 r1_1, .int .u8 r1_2, r1_3.v]] w R := callsX X [eL0] h
end regex_normal
end Go.Proofs.YtcifihepfadgfaaGreatDoor
set_option linter.unusedVariables false
set_option maxRecDepth 100000
set_option maxHeartbeats 2000000
namespace Go.Proofs.YtcifihepfadgfaaGreatDoor
open Go Go.W
namespace regex_forms
noncomputable def C0 : Code := (Tryz.f150.body).getD .skip
noncomputable def C1:=C0.sn
noncomputable def C2:=C1.sn
noncomputable def C3:=C2.sn
noncomputable def C4:=C3.sn
noncomputable def C5:=C4.sn
/-- enthymeme/regex.forms -/
noncomputable def C6:=C5.sn
theorem ok  (w : World) (R : Post) (h : nwV w (.cells #[.i 0, .int .u8 0, .int .u8 0, .slice none 0 0] ty_regex_Regex) fun w1 => 
  nwV w1 (.cells #[.i 0, .int .u8 0, .int .u8 0, .slice none 0 0] ty_regex_Regex) fun w2 => 
  stW4 w2 (nb w) (.i 0) (.int .u8 0) (.int .u8 0) (.slice none 0 0) fun w6 => stV w6 (nb w1) (.i 1) fun w7 => 
  stV w7 ((nb w1).add 1) (.int .u8 0) fun w8 => 
  stV w8 ((nb w1).add 2) (.int .u8 0) fun w9 => 
  stV w9 ((nb w1).add 3) (.slice none 0 0) fun w10 => 
  ld4_0 w10 (nb w) fun t8_0 t8_1 t8_2 t8_3 => nwV w10 (.cells #[.i t8_0, .int .u8 t8_1, .int .u8 t8_2, t8_3.v] ty_regex_Regex) fun w11 => 
  nwV w11 (.cells #[.i 0, .int .u8 0, .int .u8 0, .slice none 0 0] ty_regex_Regex) fun w12 => 
  stW4 w12 (nb w11) (.i 6) (.int .u8 0) (.int .u8 0) (.slice (some (nb w10)) 1 1) fun w16 => siK Tryz.prog C5 (fun E w => retVC Tryz.prog Tryz.f150 E w (fun v => R (.returned v) w)) [(5, .func (.func n_regex_forms_2) #[] #[]), (4, .func (.func n_regex_forms_1) #[] #[]), (3, .pointer (some (nb w11))), (10, .agg #[.i 6, .int .u8 0, .int .u8 0, .slice (some (nb w10)) 1 1]), (9, .slice (some (nb w10)) 1 1), (8, .agg #[.i t8_0, .int .u8 t8_1, .int .u8 t8_2, t8_3.v]), (2, .pointer (some (nb w1))), (1, .pointer (some (nb w))), (7, .agg #[.i 1, .int .u8 0, .int .u8 0, .slice none 0 0]), (6, .agg #[.i 0, .int .u8 0, .int .u8 0, .slice none 0 0]), (0, .map none)] w16) : Calls Tryz.prog n_regex_forms #[] w R :=
  calls_of_WP' (R := R) (fn := Tryz.f150) (c := C0) (args := []) (by kernel_rfl) (by kernel_rfl) (by kernel_rfl) (sr C0 (show (fun (E : Env) (w : World) => srK Tryz.prog C0 (fun E w => srK Tryz.prog C1 (fun E w => srK Tryz.prog C2 (fun E w => srK Tryz.prog C3 (fun E w => srK Tryz.prog C4 (fun E w => siK Tryz.prog C5 (fun E w => retVC Tryz.prog Tryz.f150 E w (fun v => R (.returned v) w)) E w) E w) E w) E w) E w) E w) (envOf 0 []) w from mp h) fun _ _ hK => (sr C1 hK fun _ _ hK => (sr C2 hK fun _ _ hK => (sr C3 hK fun _ _ hK => (sr C4 hK fun _ _ hK => (si C5 (by kernel_rfl) hK fun _ _ hK => (rt C6 fun a hA => retVC_sound hA hK)))))))
end regex_forms
end Go.Proofs.YtcifihepfadgfaaGreatDoor
set_option linter.unusedVariables false
set_option maxRecDepth 100000
set_option maxHeartbeats 2000000
namespace Go.Proofs.YtcifihepfadgfaaGreatDoor
open Go Go.W
namespace math_bits_Len64
noncomputable abbrev X : Fx := ⟨Tryz.prog, Tryz.f209, [], []⟩
abbrev P0 : Ps := [(0, .v [.U]), (2, .v [.I])]
abbrev S2 (x0 n2 : Int) (w : World) (R : Post) : Prop :=
  (0 : Int) ≤ (IntKind.wrap .u8 x0) ∧ ∃ t22_b : UInt8, (ByteArray.mk #[0, 1, 2, 2, 3, 3, 3, 3, 4, 4, 4, 4, 4, 4, 4, 4, 5, 5, 5, 5, 5, 5, 5, 5, 5, 5, 5, 5, 5, 5, 5, 5, 6, 6, 6, 6, 6, 6, 6, 6, 6, 6, 6, 6, 6, 6, 6, 6, 6, 6, 6, 6, 6, 6, 6, 6, 6, 6, 6, 6, 6, 6, 6, 6, 7, 7, 7, 7, 7, 7, 7, 7, 7, 7, 7, 7, 7, 7, 7, 7, 7, 7, 7, 7, 7, 7, 7, 7, 7, 7, 7, 7, 7, 7, 7, 7, 7, 7, 7, 7, 7, 7, 7, 7, 7, 7, 7, 7, 7, 7, 7, 7, 7, 7, 7, 7, 7, 7, 7, 7, 7, 7, 7, 7, 7, 7, 7, 7, 8, 8, 8, 8, 8, 8, 8, 8, 8, 8, 8, 8, 8, 8, 8, 8, 8, 8, 8, 8, 8, 8, 8, 8, 8, 8, 8, 8, 8, 8, 8, 8, 8, 8, 8, 8, 8, 8, 8, 8, 8, 8, 8, 8, 8, 8, 8, 8, 8, 8, 8, 8, 8, 8, 8, 8, 8, 8, 8, 8, 8, 8, 8, 8, 8, 8, 8, 8, 8, 8, 8, 8, 8, 8, 8, 8, 8, 8, 8, 8, 8, 8, 8, 8, 8, 8, 8, 8, 8, 8, 8, 8, 8, 8, 8, 8, 8, 8, 8, 8, 8, 8, 8, 8, 8, 8, 8, 8, 8, 8, 8, 8, 8, 8, 8, 8, 8, 8, 8, 8, 8, 8, 8, 8, 8, 8, 8, 8])[Int.toNat (IntKind.wrap .u8 x0)]? = some t22_b ∧ R (.returned (.i (IntKind.wrap .i64 (n2 + (IntKind.wrap .i64 ((t22_b.toNat : Nat) : Int)))))) w
noncomputable def eS2 := entS X [] (pth [4]) P0 S2
abbrev S1 (x0 n2 : Int) (w : World) (R : Post) : Prop :=
  sel (decide (x0 ≥ 256)) (S2 (Int.fdiv x0 (2 ^ (8))) (IntKind.wrap .i64 (n2 + 8)) w R) (S2 x0 n2 w R)
noncomputable def eS1 := entS X [eS2] (pth [3]) P0 S1
abbrev S0 (x0 n2 : Int) (w : World) (R : Post) : Prop :=
  sel (decide (x0 ≥ 65536)) (S1 (Int.fdiv x0 (2 ^ (16))) (IntKind.wrap .i64 (n2 + 16)) w R) (S1 x0 n2 w R)
noncomputable def eS0 := entS X [eS1, eS2] (pth [2]) P0 S0
theorem ok (x0 : Int) (w : World) (R : Post) (h : sel (decide (x0 ≥ 4294967296)) (S0 (Int.fdiv x0 (2 ^ (32))) 32 w R) (S0 x0 0 w R)) : Calls Tryz.prog n_math_bits_Len64 #[.u x0] w R := callsX X [eS0, eS1, eS2] h
end math_bits_Len64
namespace math_bits_Len
noncomputable abbrev X : Fx := ⟨Tryz.prog, Tryz.f191, [], []⟩
theorem ok (x0 : Int) (w : World) (R : Post) (h : ca1 n_math_bits_Len64 #[.u x0] w fun t7 w1 => R (.returned (.i t7)) w1) : Calls Tryz.prog n_math_bits_Len #[.u x0] w R := callsX X [] h
end math_bits_Len
namespace slices_insertionSortCmpFunc_regex_Regex
noncomputable abbrev X : Fx := ⟨Tryz.prog, Tryz.f200, [(4,ls [0,1,2,3,4,5,6,7,8,9,10,11,12,13,14,15,16]), (6,ls [0,1,2,3,4,5,6,7,8,9,10,11,12,13,14,15,16,17])], []⟩
abbrev P0 : Ps := [(0, .v [.s]), (1, .v [.I]), (2, .v [.I]), (3, .v [.g n_regex_Compare 0 0]), (8, .v [.I])]
def L0 (data0 : Sl) (a1 b2 i8 : Int) (w : World) (R : Post) : Prop := mkCur P0 0 (X.Sem (pth [0, 1, 1])) data0 a1 b2 i8 w R
noncomputable def eL0 := entL X (pth [0, 1, 1]) P0 L0
abbrev P1 : Ps := [(0, .v [.s]), (1, .v [.I]), (2, .v [.I]), (3, .v [.g n_regex_Compare 0 0]), (8, .v [.I]), (9, .v [.I])]
def L1 (data0 : Sl) (a1 b2 i8 j9 : Int) (w : World) (R : Post) : Prop := mkCur P1 0 (X.Sem (pth [0, 1, 1, 2, 1, 2, 1])) data0 a1 b2 i8 j9 w R
noncomputable def eL1 := entL X (pth [0, 1, 1, 2, 1, 2, 1]) P1 L1
abbrev S2 (data0 : Sl) (a1 b2 i8 : Int) (w : World) (R : Post) : Prop :=
  L0 data0 a1 b2 (IntKind.wrap .i64 (i8 + 1)) w R
noncomputable def eS2 := entS X [eL1, eL0] (pth [2, 2, 1]) P0 S2
theorem L1_step : ∀ (data0 : Sl) (a1 b2 i8 j9 : Int) (w : World) (R : Post) (h : drV w fun w1 => sel (decide (j9 > a1)) ((0 : Int) ≤ j9 ∧ j9 < ((data0.n : Nat) : Int) ∧ optP data0.a fun t25_p => ld4_0 w1 (t25_p.add (Int.toNat j9 * 4)) fun t26_0 t26_1 t26_2 t26_3 => (0 : Int) ≤ (IntKind.wrap .i64 (j9 - 1)) ∧ (IntKind.wrap .i64 (j9 - 1)) < ((data0.n : Nat) : Int) ∧ optP data0.a fun t30_p => ld4_0 w1 (t30_p.add (Int.toNat (IntKind.wrap .i64 (j9 - 1)) * 4)) fun t31_0 t31_1 t31_2 t31_3 => ca1 n_regex_Compare #[.agg #[.i t26_0, .int .u8 t26_1, .int .u8 t26_2, t26_3.v], .agg #[.i t31_0, .int .u8 t31_1, .int .u8 t31_2, t31_3.v]] w1 fun t32 w2 => sel (decide (t32 < 0)) (drV w2 fun w3 => (0 : Int) ≤ (IntKind.wrap .i64 (j9 - 1)) ∧ (IntKind.wrap .i64 (j9 - 1)) < ((data0.n : Nat) : Int) ∧ optP data0.a fun t45_p => ld4_0 w3 (t45_p.add (Int.toNat (IntKind.wrap .i64 (j9 - 1)) * 4)) fun t46_0 t46_1 t46_2 t46_3 => (0 : Int) ≤ j9 ∧ j9 < ((data0.n : Nat) : Int) ∧ optP data0.a fun t49_p => ld4_0 w3 (t49_p.add (Int.toNat j9 * 4)) fun t50_0 t50_1 t50_2 t50_3 => (0 : Int) ≤ j9 ∧ j9 < ((data0.n : Nat) : Int) ∧ optP data0.a fun t51_p => stW4 w3 (t51_p.add (Int.toNat j9 * 4)) (.i t46_0) (.int .u8 t46_1) (.int .u8 t46_2) (t46_3.v) fun w7 => (0 : Int) ≤ (IntKind.wrap .i64 (j9 - 1)) ∧ (IntKind.wrap .i64 (j9 - 1)) < ((data0.n : Nat) : Int) ∧ optP data0.a fun t52_p => stW4 w7 (t52_p.add (Int.toNat (IntKind.wrap .i64 (j9 - 1)) * 4)) (.i t50_0) (.int .u8 t50_1) (.int .u8 t50_2) (t50_3.v) fun w11 => L1 data0 a1 b2 i8 (IntKind.wrap .i64 (j9 - 1)) w11 R) (S2 data0 a1 b2 i8 w2 R)) (S2 data0 a1 b2 i8 w1 R)), L1 data0 a1 b2 i8 j9 w R := mp (stepL (X := X) [eS2, eL1, eL0] (pth [0, 1, 1, 2, 1, 2, 1]) P1)
theorem L0_step : ∀ (data0 : Sl) (a1 b2 i8 : Int) (w : World) (R : Post) (h : sel (decide (i8 < b2)) (L1 data0 a1 b2 i8 i8 w R) (R (.returned (.tuple #[])) w)), L0 data0 a1 b2 i8 w R := mp (stepL (X := X) [eS2, eL1, eL0] (pth [0, 1, 1]) P0)
theorem ok (data0 : Sl) (a1 b2 : Int) (w : World) (R : Post) (h : L0 data0 a1 b2 (IntKind.wrap .i64 (a1 + 1)) w R) : Calls Tryz.prog n_slices_insertionSortCmpFunc_regex_Regex #[data0.v, .i a1, .i b2, .func (.func n_regex_Compare) #[] #[]] w R := callsX X [eS2, eL1, eL0] h
end slices_insertionSortCmpFunc_regex_Regex
namespace slices_order2CmpFunc_regex_Regex
noncomputable abbrev X : Fx := ⟨Tryz.prog, Tryz.f219, [(1,ls [0,1,2,3,4,5,6,7,8,9,10])], []⟩
theorem ok (data0 : Sl) (a1 b2 : Int) (swaps3 : Addr) (w : World) (R : Post) (h : drV w fun w1 => (0 : Int) ≤ b2 ∧ b2 < ((data0.n : Nat) : Int) ∧ optP data0.a fun t15_p => ld4_0 w1 (t15_p.add (Int.toNat b2 * 4)) fun t16_0 t16_1 t16_2 t16_3 => (0 : Int) ≤ a1 ∧ a1 < ((data0.n : Nat) : Int) ∧ optP data0.a fun t19_p => ld4_0 w1 (t19_p.add (Int.toNat a1 * 4)) fun t20_0 t20_1 t20_2 t20_3 => ca1 n_regex_Compare #[.agg #[.i t16_0, .int .u8 t16_1, .int .u8 t16_2, t16_3.v], .agg #[.i t20_0, .int .u8 t20_1, .int .u8 t20_2, t20_3.v]] w1 fun t21 w2 => sel (decide (t21 < 0)) (∃ t25 : Int, w2.cell? swaps3 = some (.i t25) ∧ 
  stV w2 swaps3 (.i (IntKind.wrap .i64 (t25 + 1))) fun w3 => 
  R (.returned (.tuple #[.i b2, .i a1])) w3) (R (.returned (.tuple #[.i a1, .i b2])) w2)) : Calls Tryz.prog n_slices_order2CmpFunc_regex_Regex #[data0.v, .i a1, .i b2, .pointer (some swaps3), .func (.func n_regex_Compare) #[] #[]] w R := callsX X [] h
end slices_order2CmpFunc_regex_Regex
namespace slices_medianCmpFunc_regex_Regex
noncomputable abbrev X : Fx := ⟨Tryz.prog, Tryz.f218, [], []⟩
theorem ok (data0 : Sl) (a1 b2 c3 : Int) (swaps4 : Addr) (w : World) (R : Post) (h : ca5 n_slices_order2CmpFunc_regex_Regex #[data0.v, .i a1, .i b2, .pointer (some swaps4), .func (.func n_regex_Compare) #[] #[]] w fun t19_0 t19_1 w1 => ca5 n_slices_order2CmpFunc_regex_Regex #[data0.v, .i t19_1, .i c3, .pointer (some swaps4), .func (.func n_regex_Compare) #[] #[]] w1 fun t28_0 t28_1 w2 => ca5 n_slices_order2CmpFunc_regex_Regex #[data0.v, .i t19_0, .i t28_0, .pointer (some swaps4), .func (.func n_regex_Compare) #[] #[]] w2 fun t37_0 t37_1 w3 => R (.returned (.i t37_1)) w3) : Calls Tryz.prog n_slices_medianCmpFunc_regex_Regex #[data0.v, .i a1, .i b2, .i c3, .pointer (some swaps4), .func (.func n_regex_Compare) #[] #[]] w R := callsX X [] h
end slices_medianCmpFunc_regex_Regex
namespace slices_choosePivotCmpFunc_regex_Regex
noncomputable abbrev X : Fx := ⟨Tryz.prog, Tryz.f203, [], []⟩
abbrev P0 : Ps := [(11, .v [.r]), (13, .v [.I])]
abbrev S5 (swaps11 : Addr) (j13 : Int) (w : World) (R : Post) : Prop :=
  ∃ t55 : Int, w.cell? swaps11 = some (.i t55) ∧ 
  sel (t55 == 0) (R (.returned (.tuple #[.i j13, .i 1])) w) (sel (t55 == 12) (R (.returned (.tuple #[.i j13, .i 2])) w) (R (.returned (.tuple #[.i j13, .i 0])) w))
noncomputable def eS5 := entS X [] (pth [7]) P0 S5
abbrev P1 : Ps := [(0, .v [.s]), (3, .v [.g n_regex_Compare 0 0]), (11, .v [.r]), (12, .v [.I]), (13, .v [.I]), (14, .v [.I])]
abbrev S4 (data0 : Sl) (swaps11 : Addr) (i12 j13 k14 : Int) (w : World) (R : Post) : Prop :=
  ca1 n_slices_medianCmpFunc_regex_Regex #[data0.v, .i i12, .i j13, .i k14, .pointer (some swaps11), .func (.func n_regex_Compare) #[] #[]] w fun t54 w1 => S5 swaps11 t54 w1 R
noncomputable def eS4 := entS X [eS5] (pth [1, 1, 1, 1, 6]) P1 S4
abbrev P2 : Ps := [(0, .v [.s]), (3, .v [.g n_regex_Compare 0 0]), (10, .v [.I]), (11, .v [.r]), (12, .v [.I]), (13, .v [.I]), (14, .v [.I])]
abbrev S3 (data0 : Sl) (l10 : Int) (swaps11 : Addr) (i12 j13 k14 : Int) (w : World) (R : Post) : Prop :=
  sel (decide (l10 ≥ 8)) (sel (decide (l10 ≥ 50)) (ca1 n_slices_medianAdjacentCmpFunc_regex_Regex #[data0.v, .i i12, .pointer (some swaps11), .func (.func n_regex_Compare) #[] #[]] w fun t40 w1 => ca1 n_slices_medianAdjacentCmpFunc_regex_Regex #[data0.v, .i j13, .pointer (some swaps11), .func (.func n_regex_Compare) #[] #[]] w1 fun t44 w2 => ca1 n_slices_medianAdjacentCmpFunc_regex_Regex #[data0.v, .i k14, .pointer (some swaps11), .func (.func n_regex_Compare) #[] #[]] w2 fun t48 w3 => S4 data0 swaps11 t40 t44 t48 w3 R) (S4 data0 swaps11 i12 j13 k14 w R)) (S5 swaps11 j13 w R)
noncomputable def eS3 := entS X [eS4, eS5] (pth [6]) P2 S3
abbrev P3 : Ps := [(0, .v [.s]), (1, .v [.I]), (3, .v [.g n_regex_Compare 0 0]), (10, .v [.I]), (11, .v [.r]), (12, .v [.I]), (13, .v [.I])]
abbrev S2 (data0 : Sl) (a1 l10 : Int) (swaps11 : Addr) (i12 j13 : Int) (w : World) (R : Post) : Prop :=
  S3 data0 l10 swaps11 i12 j13 (IntKind.wrap .i64 (a1 + (IntKind.wrap .i64 ((IntKind.wrap .i64 (Int.tdiv l10 4)) * 3)))) w R
noncomputable def eS2 := entS X [eS3, eS4, eS5] (pth [5]) P3 S2
abbrev P4 : Ps := [(0, .v [.s]), (1, .v [.I]), (3, .v [.g n_regex_Compare 0 0]), (10, .v [.I]), (11, .v [.r]), (12, .v [.I])]
abbrev S1 (data0 : Sl) (a1 l10 : Int) (swaps11 : Addr) (i12 : Int) (w : World) (R : Post) : Prop :=
  S2 data0 a1 l10 swaps11 i12 (IntKind.wrap .i64 (a1 + (IntKind.wrap .i64 ((IntKind.wrap .i64 (Int.tdiv l10 4)) * 2)))) w R
noncomputable def eS1 := entS X [eS2, eS3, eS4, eS5] (pth [4]) P4 S1
abbrev P5 : Ps := [(0, .v [.s]), (1, .v [.I]), (3, .v [.g n_regex_Compare 0 0]), (10, .v [.I])]
abbrev S0 (data0 : Sl) (a1 l10 : Int) (w : World) (R : Post) : Prop :=
  nwV w (.cells #[.i 0] ty_int) fun w1 => 
  S1 data0 a1 l10 (nb w) (IntKind.wrap .i64 (a1 + (IntKind.wrap .i64 ((IntKind.wrap .i64 (Int.tdiv l10 4)) * 1)))) w1 R
noncomputable def eS0 := entS X [eS1, eS2, eS3, eS4, eS5] (pth [2]) P5 S0
theorem ok (data0 : Sl) (a1 b2 : Int) (w : World) (R : Post) (h : S0 data0 a1 (IntKind.wrap .i64 (b2 - a1)) w R) : Calls Tryz.prog n_slices_choosePivotCmpFunc_regex_Regex #[data0.v, .i a1, .i b2, .func (.func n_regex_Compare) #[] #[]] w R := callsX X [eS0, eS1, eS2, eS3, eS4, eS5] h
end slices_choosePivotCmpFunc_regex_Regex
namespace slices_partialInsertionSortCmpFunc_regex_Regex
noncomputable abbrev X : Fx := ⟨Tryz.prog, Tryz.f205, [(5,ls [0,1,2,3,4,5,6,7,8,9,10,11,12,13,14,15,16,17]), (11,ls [0,1,2,3,4,5,6,7,8,9,10,11,12,13,14,15,16,17]), (16,ls [0,1,2,3,4,5,6,7,8,9,10,11,12]), (17,ls [0,1,2,3,4,5,6,7,8,9,10,11,12,13,14,15,16,17]), (22,ls [0,1,2,3,4,5,6,7,8,9,10,11,12]), (23,ls [0,1,2,3,4,5,6,7,8,9,10,11,12,13,14,15,16,17])], []⟩
abbrev P0 : Ps := [(0, .v [.s]), (1, .v [.I]), (2, .v [.I]), (3, .v [.g n_regex_Compare 0 0]), (9, .v [.I]), (10, .v [.I])]
def L1 (data0 : Sl) (a1 b2 i9 j10 : Int) (w : World) (R : Post) : Prop := mkCur P0 0 (X.Sem (pth [0, 1, 1, 1, 2])) data0 a1 b2 i9 j10 w R
noncomputable def eL1 := entL X (pth [0, 1, 1, 1, 2]) P0 L1
def L2 (data0 : Sl) (a1 b2 i9 j10 : Int) (w : World) (R : Post) : Prop := mkCur P0 0 (X.Sem (pth [0, 4, 1, 2, 1, 1, 2])) data0 a1 b2 i9 j10 w R
noncomputable def eL2 := entL X (pth [0, 4, 1, 2, 1, 1, 2]) P0 L2
abbrev P1 : Ps := [(0, .v [.s]), (1, .v [.I]), (2, .v [.I]), (3, .v [.g n_regex_Compare 0 0]), (9, .v [.I]), (10, .v [.I]), (11, .v [.I])]
def L4 (data0 : Sl) (a1 b2 i9 j10 j11 : Int) (w : World) (R : Post) : Prop := mkCur P1 0 (X.Sem (pth [0, 1, 1, 1, 1, 1, 4, 2, 1, 2, 1, 1, 2])) data0 a1 b2 i9 j10 j11 w R
noncomputable def eL4 := entL X (pth [0, 1, 1, 1, 1, 1, 4, 2, 1, 2, 1, 1, 2]) P1 L4
abbrev P2 : Ps := [(0, .v [.s]), (1, .v [.I]), (2, .v [.I]), (3, .v [.g n_regex_Compare 0 0]), (9, .v [.I]), (10, .v [.I]), (12, .v [.I])]
def L6 (data0 : Sl) (a1 b2 i9 j10 j12 : Int) (w : World) (R : Post) : Prop := mkCur P2 0 (X.Sem (pth [0, 1, 1, 1, 6, 2, 1, 2, 1, 1, 2])) data0 a1 b2 i9 j10 j12 w R
noncomputable def eL6 := entL X (pth [0, 1, 1, 1, 6, 2, 1, 2, 1, 1, 2]) P2 L6
abbrev S7 (data0 : Sl) (a1 b2 i9 j10 : Int) (w : World) (R : Post) : Prop :=
  L1 data0 a1 b2 i9 (IntKind.wrap .i64 (j10 + 1)) w R
noncomputable def eS7 := entS X [eL6, eL4, eL2, eL1] (pth [2, 2, 1, 1, 2]) P0 S7
abbrev S5 (data0 : Sl) (a1 b2 i9 j10 : Int) (w : World) (R : Post) : Prop :=
  sel (decide ((IntKind.wrap .i64 (b2 - i9)) ≥ 2)) (L6 data0 a1 b2 i9 j10 (IntKind.wrap .i64 (i9 + 1)) w R) (S7 data0 a1 b2 i9 j10 w R)
noncomputable def eS5 := entS X [eS7, eL6, eL4, eL2, eL1] (pth [5, 2, 1, 2, 1, 1, 2]) P0 S5
abbrev S3 (data0 : Sl) (a1 b2 i9 j10 : Int) (w : World) (R : Post) : Prop :=
  sel (i9 == b2) (R (.returned (.bool true)) w) (sel (decide ((IntKind.wrap .i64 (b2 - a1)) < 50)) (R (.returned (.bool false)) w) (drV w fun w1 => (0 : Int) ≤ (IntKind.wrap .i64 (i9 - 1)) ∧ (IntKind.wrap .i64 (i9 - 1)) < ((data0.n : Nat) : Int) ∧ optP data0.a fun t54_p => ld4_0 w1 (t54_p.add (Int.toNat (IntKind.wrap .i64 (i9 - 1)) * 4)) fun t55_0 t55_1 t55_2 t55_3 => (0 : Int) ≤ i9 ∧ i9 < ((data0.n : Nat) : Int) ∧ optP data0.a fun t58_p => ld4_0 w1 (t58_p.add (Int.toNat i9 * 4)) fun t59_0 t59_1 t59_2 t59_3 => (0 : Int) ≤ i9 ∧ i9 < ((data0.n : Nat) : Int) ∧ optP data0.a fun t60_p => stW4 w1 (t60_p.add (Int.toNat i9 * 4)) (.i t55_0) (.int .u8 t55_1) (.int .u8 t55_2) (t55_3.v) fun w5 => (0 : Int) ≤ (IntKind.wrap .i64 (i9 - 1)) ∧ (IntKind.wrap .i64 (i9 - 1)) < ((data0.n : Nat) : Int) ∧ optP data0.a fun t61_p => stW4 w5 (t61_p.add (Int.toNat (IntKind.wrap .i64 (i9 - 1)) * 4)) (.i t59_0) (.int .u8 t59_1) (.int .u8 t59_2) (t59_3.v) fun w9 => sel (decide ((IntKind.wrap .i64 (i9 - a1)) ≥ 2)) (L4 data0 a1 b2 i9 j10 (IntKind.wrap .i64 (i9 - 1)) w9 R) (S5 data0 a1 b2 i9 j10 w9 R)))
noncomputable def eS3 := entS X [eS5, eS7, eL6, eL4, eL2, eL1] (pth [1, 2, 1, 2, 1, 1, 2]) P0 S3
theorem L1_step : ∀ (data0 : Sl) (a1 b2 i9 j10 : Int) (w : World) (R : Post) (h : sel (decide (j10 < 5)) (L2 data0 a1 b2 i9 j10 w R) (R (.returned (.bool false)) w)), L1 data0 a1 b2 i9 j10 w R := mp (stepL (X := X) [eS3, eS5, eS7, eL6, eL4, eL2, eL1] (pth [0, 1, 1, 1, 2]) P0)
abbrev P3 : Ps := [(0, .v [.s]), (1, .v [.I]), (2, .v [.I]), (3, .v [.g n_regex_Compare 0 0]), (9, .v [.I])]
abbrev S0 (data0 : Sl) (a1 b2 i9 : Int) (w : World) (R : Post) : Prop :=
  L1 data0 a1 b2 i9 0 w R
noncomputable def eS0 := entS X [eS3, eS5, eS7, eL6, eL4, eL2, eL1] (pth [2]) P3 S0
theorem ok (data0 : Sl) (a1 b2 : Int) (w : World) (R : Post) (h : S0 data0 a1 b2 (IntKind.wrap .i64 (a1 + 1)) w R) : Calls Tryz.prog n_slices_partialInsertionSortCmpFunc_regex_Regex #[data0.v, .i a1, .i b2, .func (.func n_regex_Compare) #[] #[]] w R := callsX X [eS0, eS3, eS5, eS7, eL6, eL4, eL2, eL1] h
end slices_partialInsertionSortCmpFunc_regex_Regex
namespace slices_partitionCmpFunc_regex_Regex
noncomputable abbrev X : Fx := ⟨Tryz.prog, Tryz.f207, [(1,ls [0,1,2,3,4,5,6,7,8,9,10,11,12,13,14,15]), (3,ls [0,1,2,3,4,5,6,7,8,9,10,11,12,13,14,15]), (5,ls [0,1,2,3,4,5,6,7,8,9,10,11,12,13,14,15,16]), (8,ls [0,1,2,3,4,5,6,7,8,9,10,11,12,13,14,15]), (10,ls [0,1,2,3,4,5,6,7,8,9,10,11,12,13,14,15]), (13,ls [0,1,2,3,4,5,6,7,8,9,10,11,12,13,14,15]), (15,ls [0,1,2,3,4,5,6,7,8,9,10,11,12,13,14,15,16]), (18,ls [0,1,2,3,4,5,6,7,8,9,10,11,12,13,14,15]), (21,ls [0,1,2,3,4,5,6,7,8,9,10,11,12,13,14,15])], []⟩
abbrev P0 : Ps := [(0, .v [.s]), (1, .v [.I]), (4, .v [.g n_regex_Compare 0 0]), (12, .v [.I]), (13, .v [.I])]
def L0 (data0 : Sl) (a1 i12 j13 : Int) (w : World) (R : Post) : Prop := mkCur P0 0 (X.Sem (pth [0, 2, 3])) data0 a1 i12 j13 w R
noncomputable def eL0 := entL X (pth [0, 2, 3]) P0 L0
def L1 (data0 : Sl) (a1 i12 j13 : Int) (w : World) (R : Post) : Prop := mkCur P0 0 (X.Sem (pth [0, 2, 4])) data0 a1 i12 j13 w R
noncomputable def eL1 := entL X (pth [0, 2, 4]) P0 L1
def L4 (data0 : Sl) (a1 i12 j13 : Int) (w : World) (R : Post) : Prop := mkCur P0 0 (X.Sem (pth [0, 2, 9])) data0 a1 i12 j13 w R
noncomputable def eL4 := entL X (pth [0, 2, 9]) P0 L4
def L5 (data0 : Sl) (a1 i12 j13 : Int) (w : World) (R : Post) : Prop := mkCur P0 0 (X.Sem (pth [0, 6, 9])) data0 a1 i12 j13 w R
noncomputable def eL5 := entL X (pth [0, 6, 9]) P0 L5
def L6 (data0 : Sl) (a1 i12 j13 : Int) (w : World) (R : Post) : Prop := mkCur P0 0 (X.Sem (pth [0, 2, 1, 4, 9])) data0 a1 i12 j13 w R
noncomputable def eL6 := entL X (pth [0, 2, 1, 4, 9]) P0 L6
abbrev S8 (data0 : Sl) (a1 i12 j13 : Int) (w : World) (R : Post) : Prop :=
  L4 data0 a1 i12 (IntKind.wrap .i64 (j13 - 1)) w R
noncomputable def eS8 := entS X [eL6, eL5, eL4, eL1, eL0] (pth [5, 4, 9]) P0 S8
abbrev S7 (data0 : Sl) (a1 i12 j13 : Int) (w : World) (R : Post) : Prop :=
  sel (decide (i12 > j13)) (drV w fun w1 => (0 : Int) ≤ a1 ∧ a1 < ((data0.n : Nat) : Int) ∧ optP data0.a fun t169_p => ld4_0 w1 (t169_p.add (Int.toNat a1 * 4)) fun t170_0 t170_1 t170_2 t170_3 => (0 : Int) ≤ j13 ∧ j13 < ((data0.n : Nat) : Int) ∧ optP data0.a fun t173_p => ld4_0 w1 (t173_p.add (Int.toNat j13 * 4)) fun t174_0 t174_1 t174_2 t174_3 => (0 : Int) ≤ j13 ∧ j13 < ((data0.n : Nat) : Int) ∧ optP data0.a fun t175_p => stW4 w1 (t175_p.add (Int.toNat j13 * 4)) (.i t170_0) (.int .u8 t170_1) (.int .u8 t170_2) (t170_3.v) fun w5 => (0 : Int) ≤ a1 ∧ a1 < ((data0.n : Nat) : Int) ∧ optP data0.a fun t176_p => stW4 w5 (t176_p.add (Int.toNat a1 * 4)) (.i t174_0) (.int .u8 t174_1) (.int .u8 t174_2) (t174_3.v) fun w9 => R (.returned (.tuple #[.i j13, .bool false])) w9) (drV w fun w10 => (0 : Int) ≤ j13 ∧ j13 < ((data0.n : Nat) : Int) ∧ optP data0.a fun t151_p => ld4_0 w10 (t151_p.add (Int.toNat j13 * 4)) fun t152_0 t152_1 t152_2 t152_3 => (0 : Int) ≤ i12 ∧ i12 < ((data0.n : Nat) : Int) ∧ optP data0.a fun t155_p => ld4_0 w10 (t155_p.add (Int.toNat i12 * 4)) fun t156_0 t156_1 t156_2 t156_3 => (0 : Int) ≤ i12 ∧ i12 < ((data0.n : Nat) : Int) ∧ optP data0.a fun t157_p => stW4 w10 (t157_p.add (Int.toNat i12 * 4)) (.i t152_0) (.int .u8 t152_1) (.int .u8 t152_2) (t152_3.v) fun w14 => (0 : Int) ≤ j13 ∧ j13 < ((data0.n : Nat) : Int) ∧ optP data0.a fun t158_p => stW4 w14 (t158_p.add (Int.toNat j13 * 4)) (.i t156_0) (.int .u8 t156_1) (.int .u8 t156_2) (t156_3.v) fun w18 => S8 data0 a1 (IntKind.wrap .i64 (i12 + 1)) j13 w18 R)
noncomputable def eS7 := entS X [eS8, eL6, eL5, eL4, eL1, eL0] (pth [2, 4, 9]) P0 S7
abbrev S3 (data0 : Sl) (a1 i12 j13 : Int) (w : World) (R : Post) : Prop :=
  L4 data0 a1 i12 (IntKind.wrap .i64 (j13 - 1)) w R
noncomputable def eS3 := entS X [eS7, eS8, eL6, eL5, eL4, eL1, eL0] (pth [8]) P0 S3
abbrev S2 (data0 : Sl) (a1 i12 j13 : Int) (w : World) (R : Post) : Prop :=
  sel (decide (i12 > j13)) (drV w fun w1 => (0 : Int) ≤ a1 ∧ a1 < ((data0.n : Nat) : Int) ∧ optP data0.a fun t78_p => ld4_0 w1 (t78_p.add (Int.toNat a1 * 4)) fun t79_0 t79_1 t79_2 t79_3 => (0 : Int) ≤ j13 ∧ j13 < ((data0.n : Nat) : Int) ∧ optP data0.a fun t82_p => ld4_0 w1 (t82_p.add (Int.toNat j13 * 4)) fun t83_0 t83_1 t83_2 t83_3 => (0 : Int) ≤ j13 ∧ j13 < ((data0.n : Nat) : Int) ∧ optP data0.a fun t84_p => stW4 w1 (t84_p.add (Int.toNat j13 * 4)) (.i t79_0) (.int .u8 t79_1) (.int .u8 t79_2) (t79_3.v) fun w5 => (0 : Int) ≤ a1 ∧ a1 < ((data0.n : Nat) : Int) ∧ optP data0.a fun t85_p => stW4 w5 (t85_p.add (Int.toNat a1 * 4)) (.i t83_0) (.int .u8 t83_1) (.int .u8 t83_2) (t83_3.v) fun w9 => R (.returned (.tuple #[.i j13, .bool true])) w9) (drV w fun w10 => (0 : Int) ≤ j13 ∧ j13 < ((data0.n : Nat) : Int) ∧ optP data0.a fun t93_p => ld4_0 w10 (t93_p.add (Int.toNat j13 * 4)) fun t94_0 t94_1 t94_2 t94_3 => (0 : Int) ≤ i12 ∧ i12 < ((data0.n : Nat) : Int) ∧ optP data0.a fun t97_p => ld4_0 w10 (t97_p.add (Int.toNat i12 * 4)) fun t98_0 t98_1 t98_2 t98_3 => (0 : Int) ≤ i12 ∧ i12 < ((data0.n : Nat) : Int) ∧ optP data0.a fun t99_p => stW4 w10 (t99_p.add (Int.toNat i12 * 4)) (.i t94_0) (.int .u8 t94_1) (.int .u8 t94_2) (t94_3.v) fun w14 => (0 : Int) ≤ j13 ∧ j13 < ((data0.n : Nat) : Int) ∧ optP data0.a fun t100_p => stW4 w14 (t100_p.add (Int.toNat j13 * 4)) (.i t98_0) (.int .u8 t98_1) (.int .u8 t98_2) (t98_3.v) fun w18 => S3 data0 a1 (IntKind.wrap .i64 (i12 + 1)) j13 w18 R)
noncomputable def eS2 := entS X [eS3, eS7, eS8, eL6, eL5, eL4, eL1, eL0] (pth [5]) P0 S2
theorem L1_step : ∀ (data0 : Sl) (a1 i12 j13 : Int) (w : World) (R : Post) (h : drV w fun w12 => sel (decide (i12 ≤ j13)) ((0 : Int) ≤ j13 ∧ j13 < ((data0.n : Nat) : Int) ∧ optP data0.a fun t57_p => ld4_0 w12 (t57_p.add (Int.toNat j13 * 4)) fun t58_0 t58_1 t58_2 t58_3 => (0 : Int) ≤ a1 ∧ a1 < ((data0.n : Nat) : Int) ∧ optP data0.a fun t61_p => ld4_0 w12 (t61_p.add (Int.toNat a1 * 4)) fun t62_0 t62_1 t62_2 t62_3 => ca1 n_regex_Compare #[.agg #[.i t58_0, .int .u8 t58_1, .int .u8 t58_2, t58_3.v], .agg #[.i t62_0, .int .u8 t62_1, .int .u8 t62_2, t62_3.v]] w12 fun t63 w13 => sel (!(decide (t63 < 0))) (L1 data0 a1 i12 (IntKind.wrap .i64 (j13 - 1)) w13 R) (S2 data0 a1 i12 j13 w13 R)) (S2 data0 a1 i12 j13 w12 R)), L1 data0 a1 i12 j13 w R := mp (stepL (X := X) [eS2, eS3, eS7, eS8, eL6, eL5, eL4, eL1, eL0] (pth [0, 2, 4]) P0)
theorem L0_step : ∀ (data0 : Sl) (a1 i12 j13 : Int) (w : World) (R : Post) (h : drV w fun w10 => sel (decide (i12 ≤ j13)) ((0 : Int) ≤ i12 ∧ i12 < ((data0.n : Nat) : Int) ∧ optP data0.a fun t39_p => ld4_0 w10 (t39_p.add (Int.toNat i12 * 4)) fun t40_0 t40_1 t40_2 t40_3 => (0 : Int) ≤ a1 ∧ a1 < ((data0.n : Nat) : Int) ∧ optP data0.a fun t43_p => ld4_0 w10 (t43_p.add (Int.toNat a1 * 4)) fun t44_0 t44_1 t44_2 t44_3 => ca1 n_regex_Compare #[.agg #[.i t40_0, .int .u8 t40_1, .int .u8 t40_2, t40_3.v], .agg #[.i t44_0, .int .u8 t44_1, .int .u8 t44_2, t44_3.v]] w10 fun t45 w11 => sel (decide (t45 < 0)) (L0 data0 a1 (IntKind.wrap .i64 (i12 + 1)) j13 w11 R) (L1 data0 a1 i12 j13 w11 R)) (L1 data0 a1 i12 j13 w10 R)), L0 data0 a1 i12 j13 w R := mp (stepL (X := X) [eS2, eS3, eS7, eS8, eL6, eL5, eL4, eL1, eL0] (pth [0, 2, 3]) P0)
theorem ok (data0 : Sl) (a1 b2 pivot3 : Int) (w : World) (R : Post) (h : drV w fun w1 => (0 : Int) ≤ pivot3 ∧ pivot3 < ((data0.n : Nat) : Int) ∧ optP data0.a fun t20_p => ld4_0 w1 (t20_p.add (Int.toNat pivot3 * 4)) fun t21_0 t21_1 t21_2 t21_3 => (0 : Int) ≤ a1 ∧ a1 < ((data0.n : Nat) : Int) ∧ optP data0.a fun t24_p => ld4_0 w1 (t24_p.add (Int.toNat a1 * 4)) fun t25_0 t25_1 t25_2 t25_3 => (0 : Int) ≤ a1 ∧ a1 < ((data0.n : Nat) : Int) ∧ optP data0.a fun t26_p => stW4 w1 (t26_p.add (Int.toNat a1 * 4)) (.i t21_0) (.int .u8 t21_1) (.int .u8 t21_2) (t21_3.v) fun w5 => (0 : Int) ≤ pivot3 ∧ pivot3 < ((data0.n : Nat) : Int) ∧ optP data0.a fun t27_p => stW4 w5 (t27_p.add (Int.toNat pivot3 * 4)) (.i t25_0) (.int .u8 t25_1) (.int .u8 t25_2) (t25_3.v) fun w9 => L0 data0 a1 (IntKind.wrap .i64 (a1 + 1)) (IntKind.wrap .i64 (b2 - 1)) w9 R) : Calls Tryz.prog n_slices_partitionCmpFunc_regex_Regex #[data0.v, .i a1, .i b2, .i pivot3, .func (.func n_regex_Compare) #[] #[]] w R := callsX X [eS2, eS3, eS7, eS8, eL6, eL5, eL4, eL1, eL0] h
end slices_partitionCmpFunc_regex_Regex
namespace slices_pdqsortCmpFunc_regex_Regex
noncomputable abbrev X : Fx := ⟨Tryz.prog, Tryz.f190, [(17,ls [0,1,2,3,4,5,6,7,8,9,10,11,12,13,14,15,16])], []⟩
abbrev P0 : Ps := [(0, .v [.s]), (1, .v [.I]), (2, .v [.I]), (3, .v [.I]), (4, .v [.g n_regex_Compare 0 0]), (10, .v [.b]), (11, .v [.b])]
def L0 (data0 : Sl) (a1 b2 limit3 : Int) (wasBalanced10 wasPartitioned11 : Bool) (w : World) (R : Post) : Prop := mkCur P0 0 (X.Sem (pth [0, 1, 2])) data0 a1 b2 limit3 wasBalanced10 wasPartitioned11 w R
noncomputable def eL0 := entL X (pth [0, 1, 2]) P0 L0
abbrev P1 : Ps := [(0, .v [.s]), (1, .v [.I]), (2, .v [.I]), (3, .v [.I]), (4, .v [.g n_regex_Compare 0 0]), (10, .v [.b]), (11, .v [.b]), (16, .v [.I])]
abbrev S9 (data0 : Sl) (a1 b2 limit3 : Int) (wasBalanced10 wasPartitioned11 : Bool) (mid16 : Int) (w : World) (R : Post) : Prop :=
  ca4 n_slices_pdqsortCmpFunc_regex_Regex #[data0.v, .i a1, .i mid16, .i limit3, .func (.func n_regex_Compare) #[] #[]] w fun w1 => L0 data0 (IntKind.wrap .i64 (mid16 + 1)) b2 limit3 wasBalanced10 wasPartitioned11 w1 R
noncomputable def eS9 := entS X [eL0] (pth [1, 1, 13, 3, 2]) P1 S9
abbrev S10 (data0 : Sl) (a1 b2 limit3 : Int) (wasBalanced10 wasPartitioned11 : Bool) (mid16 : Int) (w : World) (R : Post) : Prop :=
  ca4 n_slices_pdqsortCmpFunc_regex_Regex #[data0.v, .i (IntKind.wrap .i64 (mid16 + 1)), .i b2, .i limit3, .func (.func n_regex_Compare) #[] #[]] w fun w1 => L0 data0 a1 mid16 limit3 wasBalanced10 wasPartitioned11 w1 R
noncomputable def eS10 := entS X [eS9, eL0] (pth [15, 3, 2]) P1 S10
abbrev P2 : Ps := [(0, .v [.s]), (1, .v [.I]), (2, .v [.I]), (3, .v [.I]), (4, .v [.g n_regex_Compare 0 0]), (11, .v [.b]), (16, .v [.I]), (18, .v [.I]), (19, .v [.I]), (20, .v [.I])]
abbrev S8 (data0 : Sl) (a1 b2 limit3 : Int) (wasPartitioned11 : Bool) (mid16 leftLen18 rightLen19 balanceThreshold20 : Int) (w : World) (R : Post) : Prop :=
  sel (decide (leftLen18 < rightLen19)) (S9 data0 a1 b2 limit3 (decide (leftLen18 ≥ balanceThreshold20)) wasPartitioned11 mid16 w R) (S10 data0 a1 b2 limit3 (decide (rightLen19 ≥ balanceThreshold20)) wasPartitioned11 mid16 w R)
noncomputable def eS8 := entS X [eS10, eS9, eL0] (pth [12, 3, 2]) P2 S8
abbrev P3 : Ps := [(0, .v [.s]), (1, .v [.I]), (2, .v [.I]), (3, .v [.I]), (4, .v [.g n_regex_Compare 0 0]), (11, .v [.b]), (12, .v [.I]), (16, .v [.I]), (18, .v [.I]), (19, .v [.I])]
abbrev S7 (data0 : Sl) (a1 b2 limit3 : Int) (wasPartitioned11 : Bool) (length12 mid16 leftLen18 rightLen19 : Int) (w : World) (R : Post) : Prop :=
  S8 data0 a1 b2 limit3 wasPartitioned11 mid16 leftLen18 rightLen19 (IntKind.wrap .i64 (Int.tdiv length12 8)) w R
noncomputable def eS7 := entS X [eS8, eS10, eS9, eL0] (pth [11, 3, 2]) P3 S7
abbrev P4 : Ps := [(0, .v [.s]), (1, .v [.I]), (2, .v [.I]), (3, .v [.I]), (4, .v [.g n_regex_Compare 0 0]), (12, .v [.I]), (13, .v [.I])]
abbrev S6 (data0 : Sl) (a1 b2 limit3 length12 pivot13 : Int) (w : World) (R : Post) : Prop :=
  ca6 n_slices_partitionCmpFunc_regex_Regex #[data0.v, .i a1, .i b2, .i pivot13, .func (.func n_regex_Compare) #[] #[]] w fun t111_0 t111_1 w1 => S7 data0 a1 b2 limit3 t111_1 length12 t111_0 (IntKind.wrap .i64 (t111_0 - a1)) (IntKind.wrap .i64 (b2 - t111_0)) w1 R
noncomputable def eS6 := entS X [eS7, eS8, eS10, eS9, eL0] (pth [8, 3, 2]) P4 S6
abbrev P5 : Ps := [(0, .v [.s]), (1, .v [.I]), (2, .v [.I]), (3, .v [.I]), (4, .v [.g n_regex_Compare 0 0]), (10, .v [.b]), (11, .v [.b]), (12, .v [.I]), (13, .v [.I])]
abbrev S5 (data0 : Sl) (a1 b2 limit3 : Int) (wasBalanced10 wasPartitioned11 : Bool) (length12 pivot13 : Int) (w : World) (R : Post) : Prop :=
  drV w fun w1 => sel (decide (a1 > 0)) ((0 : Int) ≤ (IntKind.wrap .i64 (a1 - 1)) ∧ (IntKind.wrap .i64 (a1 - 1)) < ((data0.n : Nat) : Int) ∧ optP data0.a fun t88_p => ld4_0 w1 (t88_p.add (Int.toNat (IntKind.wrap .i64 (a1 - 1)) * 4)) fun t89_0 t89_1 t89_2 t89_3 => (0 : Int) ≤ pivot13 ∧ pivot13 < ((data0.n : Nat) : Int) ∧ optP data0.a fun t92_p => ld4_0 w1 (t92_p.add (Int.toNat pivot13 * 4)) fun t93_0 t93_1 t93_2 t93_3 => ca1 n_regex_Compare #[.agg #[.i t89_0, .int .u8 t89_1, .int .u8 t89_2, t89_3.v], .agg #[.i t93_0, .int .u8 t93_1, .int .u8 t93_2, t93_3.v]] w1 fun t94 w2 => sel (!(decide (t94 < 0))) (ca1 n_slices_partitionEqualCmpFunc_regex_Regex #[data0.v, .i a1, .i b2, .i pivot13, .func (.func n_regex_Compare) #[] #[]] w2 fun t103 w3 => L0 data0 t103 b2 limit3 wasBalanced10 wasPartitioned11 w3 R) (S6 data0 a1 b2 limit3 length12 pivot13 w2 R)) (S6 data0 a1 b2 limit3 length12 pivot13 w1 R)
noncomputable def eS5 := entS X [eS6, eS7, eS8, eS10, eS9, eL0] (pth [7, 3, 2]) P5 S5
abbrev P6 : Ps := [(0, .v [.s]), (1, .v [.I]), (2, .v [.I]), (3, .v [.I]), (4, .v [.g n_regex_Compare 0 0]), (10, .v [.b]), (11, .v [.b]), (12, .v [.I]), (13, .v [.I]), (14, .v [.I])]
abbrev S4 (data0 : Sl) (a1 b2 limit3 : Int) (wasBalanced10 wasPartitioned11 : Bool) (length12 pivot13 hint14 : Int) (w : World) (R : Post) : Prop :=
  sel wasBalanced10 (sel wasPartitioned11 (sel (hint14 == 1) (ca0 n_slices_partialInsertionSortCmpFunc_regex_Regex #[data0.v, .i a1, .i b2, .func (.func n_regex_Compare) #[] #[]] w fun t80 w1 => sel t80 (R (.returned (.tuple #[])) w1) (S5 data0 a1 b2 limit3 wasBalanced10 wasPartitioned11 length12 pivot13 w1 R)) (S5 data0 a1 b2 limit3 wasBalanced10 wasPartitioned11 length12 pivot13 w R)) (S5 data0 a1 b2 limit3 wasBalanced10 wasPartitioned11 length12 pivot13 w R)) (S5 data0 a1 b2 limit3 wasBalanced10 wasPartitioned11 length12 pivot13 w R)
noncomputable def eS4 := entS X [eS5, eS6, eS7, eS8, eS10, eS9, eL0] (pth [6, 3, 2]) P6 S4
abbrev S3 (data0 : Sl) (a1 b2 limit3 : Int) (wasBalanced10 wasPartitioned11 : Bool) (length12 pivot13 : Int) (w : World) (R : Post) : Prop :=
  S4 data0 a1 b2 limit3 wasBalanced10 wasPartitioned11 length12 pivot13 1 w R
noncomputable def eS3 := entS X [eS4, eS5, eS6, eS7, eS8, eS10, eS9, eL0] (pth [2, 1, 1, 1, 5, 3, 2]) P5 S3
abbrev P7 : Ps := [(0, .v [.s]), (1, .v [.I]), (2, .v [.I]), (3, .v [.I]), (4, .v [.g n_regex_Compare 0 0]), (10, .v [.b]), (11, .v [.b]), (12, .v [.I])]
abbrev S2 (data0 : Sl) (a1 b2 limit3 : Int) (wasBalanced10 wasPartitioned11 : Bool) (length12 : Int) (w : World) (R : Post) : Prop :=
  ca5 n_slices_choosePivotCmpFunc_regex_Regex #[data0.v, .i a1, .i b2, .func (.func n_regex_Compare) #[] #[]] w fun t52_0 t52_1 w1 => sel (t52_1 == 2) (ca4 n_slices_reverseRangeCmpFunc_regex_Regex #[data0.v, .i a1, .i b2, .func (.func n_regex_Compare) #[] #[]] w1 fun w2 => S3 data0 a1 b2 limit3 wasBalanced10 wasPartitioned11 length12 (IntKind.wrap .i64 ((IntKind.wrap .i64 (b2 - 1)) - (IntKind.wrap .i64 (t52_0 - a1)))) w2 R) (S4 data0 a1 b2 limit3 wasBalanced10 wasPartitioned11 length12 t52_0 t52_1 w1 R)
noncomputable def eS2 := entS X [eS3, eS4, eS5, eS6, eS7, eS8, eS10, eS9, eL0] (pth [4, 3, 2]) P7 S2
abbrev S1 (data0 : Sl) (a1 b2 limit3 : Int) (wasBalanced10 wasPartitioned11 : Bool) (length12 : Int) (w : World) (R : Post) : Prop :=
  sel (decide (length12 ≤ 12)) (ca4 n_slices_insertionSortCmpFunc_regex_Regex #[data0.v, .i a1, .i b2, .func (.func n_regex_Compare) #[] #[]] w fun w1 => R (.returned (.tuple #[])) w1) (sel (limit3 == 0) (ca4 n_slices_heapSortCmpFunc_regex_Regex #[data0.v, .i a1, .i b2, .func (.func n_regex_Compare) #[] #[]] w fun w2 => R (.returned (.tuple #[])) w2) (sel (!wasBalanced10) (ca4 n_slices_breakPatternsCmpFunc_regex_Regex #[data0.v, .i a1, .i b2, .func (.func n_regex_Compare) #[] #[]] w fun w3 => S2 data0 a1 b2 (IntKind.wrap .i64 (limit3 - 1)) wasBalanced10 wasPartitioned11 length12 w3 R) (S2 data0 a1 b2 limit3 wasBalanced10 wasPartitioned11 length12 w R)))
noncomputable def eS1 := entS X [eS2, eS3, eS4, eS5, eS6, eS7, eS8, eS10, eS9, eL0] (pth [1, 3, 2]) P7 S1
theorem L0_step : ∀ (data0 : Sl) (a1 b2 limit3 : Int) (wasBalanced10 wasPartitioned11 : Bool) (w : World) (R : Post) (h : S1 data0 a1 b2 limit3 wasBalanced10 wasPartitioned11 (IntKind.wrap .i64 (b2 - a1)) w R), L0 data0 a1 b2 limit3 wasBalanced10 wasPartitioned11 w R := mp (stepL (X := X) [eS1, eS2, eS3, eS4, eS5, eS6, eS7, eS8, eS10, eS9, eL0] (pth [0, 1, 2]) P0)
theorem ok (data0 : Sl) (a1 b2 limit3 : Int) (w : World) (R : Post) (h : L0 data0 a1 b2 limit3 true true w R) : Calls Tryz.prog n_slices_pdqsortCmpFunc_regex_Regex #[data0.v, .i a1, .i b2, .i limit3, .func (.func n_regex_Compare) #[] #[]] w R := callsX X [eS1, eS2, eS3, eS4, eS5, eS6, eS7, eS8, eS10, eS9, eL0] h
end slices_pdqsortCmpFunc_regex_Regex
namespace slices_SortFunc_sl_regex_Regex_regex_Regex
noncomputable abbrev X : Fx := ⟨Tryz.prog, Tryz.f174, [], []⟩
theorem ok (x0 : Sl) (w : World) (R : Post) (h : ca1 n_math_bits_Len #[.u (IntKind.wrap .u64 ((x0.n : Nat) : Int))] w fun t11 w1 => ca4 n_slices_pdqsortCmpFunc_regex_Regex #[x0.v, .i 0, .i ((x0.n : Nat) : Int), .i t11, .func (.func n_regex_Compare) #[] #[]] w1 fun w2 => R (.returned (.tuple #[])) w2) : Calls Tryz.prog n_slices_SortFunc_sl_regex_Regex_regex_Regex #[x0.v, .func (.func n_regex_Compare) #[] #[]] w R := callsX X [] h
end slices_SortFunc_sl_regex_Regex_regex_Regex
end Go.Proofs.YtcifihepfadgfaaGreatDoor
set_option linter.unusedVariables false
set_option maxRecDepth 100000
set_option maxHeartbeats 2000000
namespace Go.Proofs.YtcifihepfadgfaaGreatDoor
open Go Go.W
namespace enthymemeref04_Compare
noncomputable abbrev X : Fx := ⟨Tryz.prog, Tryz.f140, [(6,ls [0,1,2,3,4,5,6,7,8]), (8,ls [0,1,2,3,4,5,6,7,8]), (13,ls [0,1,2,3,4,5,6,7,8,9,10,11])], [2, 3]⟩
abbrev P0 : Ps := [(2, .l [.I, .Y, .Y, .s] ty_enthymemeref04_Regex), (3, .l [.I, .Y, .Y, .s] ty_enthymemeref04_Regex), (5, .v [.s]), (6, .v [.s]), (7, .v [.I])]
def L0T (a2 : Nat) (a2_0 a2_1 a2_2 : Int) (a2_3 : Sl) (b3 : Nat) (b3_0 b3_1 b3_2 : Int) (b3_3 x5 y6 : Sl) (i7 : Int) (w : World) (R : Post) : Prop := mkCur P0 0 (X.Sem (pth [0, 1, 1, 1, 3])) a2 a2_0 a2_1 a2_2 a2_3 b3 b3_0 b3_1 b3_2 b3_3 x5 y6 i7 w R
noncomputable def eL0 := entL X (pth [0, 1, 1, 1, 3]) P0 L0T
abbrev P1 : Ps := [(2, .l [.I, .Y, .Y, .s] ty_enthymemeref04_Regex), (3, .l [.I, .Y, .Y, .s] ty_enthymemeref04_Regex), (8, .v [.I])]
def L1T (a2 : Nat) (a2_0 a2_1 a2_2 : Int) (a2_3 : Sl) (b3 : Nat) (b3_0 b3_1 b3_2 : Int) (b3_3 : Sl) (i8 : Int) (w : World) (R : Post) : Prop := mkCur P1 0 (X.Sem (pth [0, 1, 1, 1, 4])) a2 a2_0 a2_1 a2_2 a2_3 b3 b3_0 b3_1 b3_2 b3_3 i8 w R
noncomputable def eL1 := entL X (pth [0, 1, 1, 1, 4]) P1 L1T
abbrev P2 : Ps := [(2, .l [.I, .Y, .Y, .s] ty_enthymemeref04_Regex), (3, .l [.I, .Y, .Y, .s] ty_enthymemeref04_Regex)]
abbrev S2T (a2 : Nat) (a2_0 a2_1 a2_2 : Int) (a2_3 : Sl) (b3 : Nat) (b3_0 b3_1 b3_2 : Int) (b3_3 : Sl) (w : World) (R : Post) : Prop :=
  sel (decide (((a2_3.n : Nat) : Int) < ((b3_3.n : Nat) : Int))) (R (.returned (.i (-1))) w) (sel (decide (((a2_3.n : Nat) : Int) > ((b3_3.n : Nat) : Int))) (R (.returned (.i 1)) w) (R (.returned (.i 0)) w))
noncomputable def eS2 := entS X [eL1, eL0] (pth [5]) P2 S2T
theorem L1T_step : ∀ (a2 : Nat) (a2_0 a2_1 a2_2 : Int) (a2_3 : Sl) (b3 : Nat) (b3_0 b3_1 b3_2 : Int) (b3_3 : Sl) (i8 : Int) (w : World) (R : Post) (h : sel (decide (i8 < ((a2_3.n : Nat) : Int))) (sel (decide (i8 < ((b3_3.n : Nat) : Int))) ((0 : Int) ≤ i8 ∧ i8 < ((a2_3.n : Nat) : Int) ∧ optP a2_3.a fun t67_p => loc [a2, b3] w fun w7 => ld4_0 w7 (t67_p.add (Int.toNat i8 * 4)) fun t68_0 t68_1 t68_2 t68_3 => (0 : Int) ≤ i8 ∧ i8 < ((b3_3.n : Nat) : Int) ∧ optP b3_3.a fun t72_p => ld4_0 w7 (t72_p.add (Int.toNat i8 * 4)) fun t73_0 t73_1 t73_2 t73_3 => cf1 [a2, b3] n_enthymemeref04_Compare #[.agg #[.i t68_0, .int .u8 t68_1, .int .u8 t68_2, t68_3.v], .agg #[.i t73_0, .int .u8 t73_1, .int .u8 t73_2, t73_3.v]] w7 fun t74 w8 => sel (t74 != 0) (R (.returned (.i t74)) w8) (L1T a2 a2_0 a2_1 a2_2 a2_3 b3 b3_0 b3_1 b3_2 b3_3 (IntKind.wrap .i64 (i8 + 1)) w8 R)) (S2T a2 a2_0 a2_1 a2_2 a2_3 b3 b3_0 b3_1 b3_2 b3_3 w R)) (S2T a2 a2_0 a2_1 a2_2 a2_3 b3 b3_0 b3_1 b3_2 b3_3 w R)), L1T a2 a2_0 a2_1 a2_2 a2_3 b3 b3_0 b3_1 b3_2 b3_3 i8 w R := mp (stepL (X := X) [eS2, eL1, eL0] (pth [0, 1, 1, 1, 4]) P1)
theorem L0T_step : ∀ (a2 : Nat) (a2_0 a2_1 a2_2 : Int) (a2_3 : Sl) (b3 : Nat) (b3_0 b3_1 b3_2 : Int) (b3_3 x5 y6 : Sl) (i7 : Int) (w : World) (R : Post) (h : sel (decide (i7 < 3)) ((0 : Int) ≤ i7 ∧ i7 < ((x5.n : Nat) : Int) ∧ optP x5.a fun t34_p => loc [a2, b3] w fun w5 => ∃ t35 : Int, w5.cell? (t34_p.add (Int.toNat i7 * 1)) = some (.i t35) ∧ 
  (0 : Int) ≤ i7 ∧ i7 < ((y6.n : Nat) : Int) ∧ optP y6.a fun t38_p => ∃ t39 : Int, w5.cell? (t38_p.add (Int.toNat i7 * 1)) = some (.i t39) ∧ 
  sel (decide (t35 < t39)) (R (.returned (.i (-1))) w5) ((0 : Int) ≤ i7 ∧ i7 < ((x5.n : Nat) : Int) ∧ optP x5.a fun t43_p => loc [a2, b3] w5 fun w6 => ∃ t44 : Int, w6.cell? (t43_p.add (Int.toNat i7 * 1)) = some (.i t44) ∧ 
  (0 : Int) ≤ i7 ∧ i7 < ((y6.n : Nat) : Int) ∧ optP y6.a fun t47_p => ∃ t48 : Int, w6.cell? (t47_p.add (Int.toNat i7 * 1)) = some (.i t48) ∧ 
  sel (decide (t44 > t48)) (R (.returned (.i 1)) w6) (L0T a2 a2_0 a2_1 a2_2 a2_3 b3 b3_0 b3_1 b3_2 b3_3 x5 y6 (IntKind.wrap .i64 (i7 + 1)) w6 R))) (L1T a2 a2_0 a2_1 a2_2 a2_3 b3 b3_0 b3_1 b3_2 b3_3 0 w R)), L0T a2 a2_0 a2_1 a2_2 a2_3 b3 b3_0 b3_1 b3_2 b3_3 x5 y6 i7 w R := mp (stepL (X := X) [eS2, eL1, eL0] (pth [0, 1, 1, 1, 3]) P0)
theorem okT (a0_0 a0_1 a0_2 : Int) (a0_3 : Sl) (b1_0 b1_1 b1_2 : Int) (b1_3 : Sl) (w : World) (R : Post) (h : newV [] w fun b2 w1 => 
  newV [b2] w1 fun b3 w2 => 
  nwV w2 (.cells #[.i a0_0, .i (IntKind.wrap .i64 a0_1), .i (IntKind.wrap .i64 a0_2)] ty_int) fun w3 => 
  nwV w3 (.cells #[.i b1_0, .i (IntKind.wrap .i64 b1_1), .i (IntKind.wrap .i64 b1_2)] ty_int) fun w4 => 
  L0T b2 a0_0 a0_1 a0_2 a0_3 b3 b1_0 b1_1 b1_2 b1_3 ⟨some (nb w2), 3, 3⟩ ⟨some (nb w3), 3, 3⟩ 0 w4 R) : Calls Tryz.prog n_enthymemeref04_Compare #[.agg #[.i a0_0, .int .u8 a0_1, .int .u8 a0_2, a0_3.v], .agg #[.i b1_0, .int .u8 b1_1, .int .u8 b1_2, b1_3.v]] w R := callsX X [eS2, eL1, eL0] h
end enthymemeref04_Compare
end Go.Proofs.YtcifihepfadgfaaGreatDoor
set_option linter.unusedVariables false
set_option maxRecDepth 100000
set_option maxHeartbeats 2000000
namespace Go.Proofs.YtcifihepfadgfaaGreatDoor
open Go Go.W
namespace enthymemeref04_Nodes
noncomputable abbrev X : Fx := ⟨Tryz.prog, Tryz.f122, [], [1]⟩
abbrev P0 : Ps := [(1, .l [.I, .Y, .Y, .s] ty_enthymemeref04_Regex), (3, .v [.I]), (4, .v [.I])]
def L0T (r1 : Nat) (r1_0 r1_1 r1_2 : Int) (r1_3 : Sl) (n3 i4 : Int) (w : World) (R : Post) : Prop := mkCur P0 0 (X.Sem (pth [0, 1, 1, 1, 2])) r1 r1_0 r1_1 r1_2 r1_3 n3 i4 w R
noncomputable def eL0 := entL X (pth [0, 1, 1, 1, 2]) P0 L0T
abbrev S1T (r1 : Nat) (r1_0 r1_1 r1_2 : Int) (r1_3 : Sl) (n3 i4 : Int) (w : World) (R : Post) : Prop :=
  L0T r1 r1_0 r1_1 r1_2 r1_3 n3 (IntKind.wrap .i64 (i4 + 1)) w R
noncomputable def eS1 := entS X [eL0] (pth [2, 2, 1, 1, 2]) P0 S1T
theorem L0T_step : ∀ (r1 : Nat) (r1_0 r1_1 r1_2 : Int) (r1_3 : Sl) (n3 i4 : Int) (w : World) (R : Post) (h : sel (decide (i4 < ((r1_3.n : Nat) : Int))) ((0 : Int) ≤ i4 ∧ i4 < ((r1_3.n : Nat) : Int) ∧ optP r1_3.a fun t16_p => ld4_0 w (t16_p.add (Int.toNat i4 * 4)) fun t17_0 t17_1 t17_2 t17_3 => cf1 [r1] n_enthymemeref04_Nodes #[.agg #[.i t17_0, .int .u8 t17_1, .int .u8 t17_2, t17_3.v]] w fun t18 w2 => S1T r1 r1_0 r1_1 r1_2 r1_3 (IntKind.wrap .i64 (n3 + t18)) i4 w2 R) (R (.returned (.i n3)) w)), L0T r1 r1_0 r1_1 r1_2 r1_3 n3 i4 w R := mp (stepL (X := X) [eS1, eL0] (pth [0, 1, 1, 1, 2]) P0)
theorem okT (r0_0 r0_1 r0_2 : Int) (r0_3 : Sl) (w : World) (R : Post) (h : newV [] w fun b1 w1 => 
  L0T b1 r0_0 r0_1 r0_2 r0_3 1 0 w1 R) : Calls Tryz.prog n_enthymemeref04_Nodes #[.agg #[.i r0_0, .int .u8 r0_1, .int .u8 r0_2, r0_3.v]] w R := callsX X [eS1, eL0] h
end enthymemeref04_Nodes
namespace enthymemeref04_good
noncomputable abbrev X : Fx := ⟨Tryz.prog, Tryz.f137, [(3,ls [0,1,2,3,4,5,6,7,8,9,10,11,12,13,14,15,16,17,18,19,20,21,22,23,24,25,26,27,28,29])], [1]⟩
abbrev P0 : Ps := []
abbrev S0T  (w : World) (R : Post) : Prop :=
  R (.returned (.bool false)) w
noncomputable def eS0 := entS X [] (pth [0, 1, 1, 1, 3]) P0 S0T
abbrev S1T  (w : World) (R : Post) : Prop :=
  R (.returned (.bool false)) w
noncomputable def eS1 := entS X [eS0] (pth [0, 1, 1, 1, 4]) P0 S1T
abbrev P1 : Ps := [(1, .l [.I, .Y, .Y, .s] ty_enthymemeref04_Regex), (5, .v [.I])]
def L3T (r1 : Nat) (r1_0 r1_1 r1_2 : Int) (r1_3 : Sl) (i5 : Int) (w : World) (R : Post) : Prop := mkCur P1 0 (X.Sem (pth [0, 1, 1, 1, 5])) r1 r1_0 r1_1 r1_2 r1_3 i5 w R
noncomputable def eL3 := entL X (pth [0, 1, 1, 1, 5]) P1 L3T
theorem L3T_step : ∀ (r1 : Nat) (r1_0 r1_1 r1_2 : Int) (r1_3 : Sl) (i5 : Int) (w : World) (R : Post) (h : sel (decide (i5 < ((r1_3.n : Nat) : Int))) ((0 : Int) ≤ i5 ∧ i5 < ((r1_3.n : Nat) : Int) ∧ optP r1_3.a fun t64_p => ld4_0 w (t64_p.add (Int.toNat i5 * 4)) fun t65_0 t65_1 t65_2 t65_3 => cf0 [r1] n_enthymemeref04_good #[.agg #[.i t65_0, .int .u8 t65_1, .int .u8 t65_2, t65_3.v]] w fun t66 w1 => sel (!t66) (R (.returned (.bool false)) w1) (L3T r1 r1_0 r1_1 r1_2 r1_3 (IntKind.wrap .i64 (i5 + 1)) w1 R)) (R (.returned (.bool true)) w)), L3T r1 r1_0 r1_1 r1_2 r1_3 i5 w R := mp (stepL (X := X) [eL3, eS1, eS0] (pth [0, 1, 1, 1, 5]) P1)
abbrev P2 : Ps := [(1, .l [.I, .Y, .Y, .s] ty_enthymemeref04_Regex)]
abbrev S2T (r1 : Nat) (r1_0 r1_1 r1_2 : Int) (r1_3 : Sl) (w : World) (R : Post) : Prop :=
  L3T r1 r1_0 r1_1 r1_2 r1_3 0 w R
noncomputable def eS2 := entS X [eL3, eS1, eS0] (pth [5]) P2 S2T
theorem okT (r0_0 r0_1 r0_2 : Int) (r0_3 : Sl) (w : World) (R : Post) (h : newV [] w fun b1 w1 => 
  nwV w1 (.cells #[.i 0, .i 0, .i 0, .i 64, .i 64, .i 64, .i 1, .i 1] ty_int) fun w2 => 
  nwV w2 (.cells #[.i 0, .i 0, .i 0, .i 0, .i 0, .i 0, .i 1, .i 1] ty_int) fun w3 => 
  sel (decide (r0_0 < 0)) (loc [b1] w3 fun w4 => S0T  w4 R) (sel (decide (r0_0 > 7)) (loc [b1] w3 fun w4 => S0T  w4 R) ((0 : Int) ≤ r0_0 ∧ r0_0 < ((8 : Nat) : Int) ∧ optP (some (nb w2)) fun t24_p => loc [b1] w3 fun w4 => ∃ t25 : Int, w4.cell? (t24_p.add (Int.toNat r0_0 * 1)) = some (.i t25) ∧ 
  sel (decide (((r0_3.n : Nat) : Int) < t25)) (S0T  w4 R) ((0 : Int) ≤ r0_0 ∧ r0_0 < ((8 : Nat) : Int) ∧ optP (some (nb w1)) fun t35_p => ∃ t36 : Int, w4.cell? (t35_p.add (Int.toNat r0_0 * 1)) = some (.i t36) ∧ 
  sel (decide (((r0_3.n : Nat) : Int) > t36)) (S0T  w4 R) (sel (decide (r0_1 > r0_2)) (S1T  w4 R) (sel (r0_0 != 2) (sel (decide (r0_2 > 0)) (S1T  w4 R) (S2T b1 r0_0 r0_1 r0_2 r0_3 w4 R)) (S2T b1 r0_0 r0_1 r0_2 r0_3 w4 R))))))) : Calls Tryz.prog n_enthymemeref04_good #[.agg #[.i r0_0, .int .u8 r0_1, .int .u8 r0_2, r0_3.v]] w R := callsX X [eS2, eL3, eS1, eS0] h
end enthymemeref04_good
namespace enthymemeref04_Valid
noncomputable abbrev X : Fx := ⟨Tryz.prog, Tryz.f123, [], [1]⟩
theorem okT (r0_0 r0_1 r0_2 : Int) (r0_3 : Sl) (w : World) (R : Post) (h : newV [] w fun b1 w1 => 
  cf1 [b1] n_enthymemeref04_Nodes #[.agg #[.i r0_0, .int .u8 r0_1, .int .u8 r0_2, r0_3.v]] w1 fun t5 w2 => sel (decide (t5 > 64)) (R (.returned (.i 4)) w2) (cf0 [b1] n_enthymemeref04_good #[.agg #[.i r0_0, .int .u8 r0_1, .int .u8 r0_2, r0_3.v]] w2 fun t8 w3 => sel (!t8) (R (.returned (.i 1)) w3) (R (.returned (.i 0)) w3))) : Calls Tryz.prog n_enthymemeref04_Valid #[.agg #[.i r0_0, .int .u8 r0_1, .int .u8 r0_2, r0_3.v]] w R := callsX X [] h
end enthymemeref04_Valid
end Go.Proofs.YtcifihepfadgfaaGreatDoor
set_option linter.unusedVariables false
set_option maxRecDepth 100000
set_option maxHeartbeats 2000000
namespace Go.Proofs.YtcifihepfadgfaaGreatDoor
open Go Go.W
namespace enthymemeref04_Everything
noncomputable abbrev X : Fx := ⟨Tryz.prog, Tryz.f106, [], [0]⟩
theorem okT  (w : World) (R : Post) (h : newV [] w fun b0 w1 => 
  nwV w1 (.cells #[.i 0, .int .u8 0, .int .u8 0, .slice none 0 0] ty_enthymemeref04_Regex) fun w2 => 
  loc [b0] w2 fun w6 => R (.returned (.agg #[.i 6, .int .u8 0, .int .u8 0, .slice (some (nb w1)) 1 1])) w6) : Calls Tryz.prog n_enthymemeref04_Everything #[] w R := callsX X [] h
end enthymemeref04_Everything
namespace enthymemeref04_put
noncomputable abbrev X : Fx := ⟨Tryz.prog, Tryz.f141, [(2,ls [0,1,2,3,4,5,6,7,8,9,10,11,12]), (4,ls [0,1,2,3,4,5,6,7,8,9,10,11,12]), (7,(.sq [0,1,2,3,5] (.fork (ls [4,6,7,8]) (ls [6,4,7,8]))))], [3]⟩
abbrev P0 : Ps := [(0, .v [.s]), (3, .l [.I, .Y, .Y, .s] ty_enthymemeref04_Regex), (5, .v [.I])]
def L0T (l0 : Sl) (r3 : Nat) (r3_0 r3_1 r3_2 : Int) (r3_3 : Sl) (k5 : Int) (w : World) (R : Post) : Prop := mkCur P0 0 (X.Sem (pth [0, 2, 2])) l0 r3 r3_0 r3_1 r3_2 r3_3 k5 w R
noncomputable def eL0 := entL X (pth [0, 2, 2]) P0 L0T
abbrev P1 : Ps := [(0, .v [.s]), (5, .v [.I]), (6, .v [.s])]
abbrev S3T (l0 : Sl) (k5 : Int) (out6 : Sl) (w : World) (R : Post) : Prop :=
  (0 : Int) ≤ k5 ∧ k5 ≤ ((l0.n : Nat) : Int) ∧ ∃ (t48 : Sl) (w1 : World), Sem.run Tryz.prog (Builtin.append_ #[ty_sl_enthymemeref04_Regex, ty_sl_enthymemeref04_Regex] ty_sl_enthymemeref04_Regex #[out6.v, .slice (if l0.c = (Int.toNat k5) then l0.a else l0.a.map (·.add ((Int.toNat k5) * 4))) (l0.n - (Int.toNat k5)) (l0.c - (Int.toNat k5))]) w = .ok (t48.v) w1 ∧ R (.returned (t48.v)) w1
noncomputable def eS3 := entS X [eL0] (pth [6]) P1 S3T
abbrev S2T (l0 : Sl) (r3 : Nat) (r3_0 r3_1 r3_2 : Int) (r3_3 : Sl) (k5 : Int) (w : World) (R : Post) : Prop :=
  (0 : Int) ≤ k5 ∧ k5 ≤ ((l0.c : Nat) : Int) ∧ ((loc [r3] w fun w1 => ∃ (t40 : Sl) (w2 : World), Sem.run Tryz.prog (Builtin.append_ #[ty_sl_enthymemeref04_Regex, ty_sl_enthymemeref04_Regex] ty_sl_enthymemeref04_Regex #[.slice none 0 0, .slice (if l0.c = 0 then l0.a else l0.a.map (·.add (0 * 4))) ((Int.toNat k5) - 0) (l0.c - 0)]) w1 = .ok (t40.v) w2 ∧ kept [r3] w1 w2 ∧ nwV w2 (.cells #[.i r3_0, .int .u8 r3_1, .int .u8 r3_2, r3_3.v] ty_enthymemeref04_Regex) fun w3 => 
  ∃ (t43 : Sl) (w4 : World), Sem.run Tryz.prog (Builtin.append_ #[ty_sl_enthymemeref04_Regex, ty_sl_enthymemeref04_Regex] ty_sl_enthymemeref04_Regex #[t40.v, .slice (some (nb w2)) 1 1]) w3 = .ok (t43.v) w4 ∧ kept [r3] w3 w4 ∧ S3T l0 k5 t43 w4 R) ∧ (loc [r3] w fun w1 => nwV w1 (.cells #[.i r3_0, .int .u8 r3_1, .int .u8 r3_2, r3_3.v] ty_enthymemeref04_Regex) fun w5 => 
  ∃ (t40_x1 : Sl) (w6 : World), Sem.run Tryz.prog (Builtin.append_ #[ty_sl_enthymemeref04_Regex, ty_sl_enthymemeref04_Regex] ty_sl_enthymemeref04_Regex #[.slice none 0 0, .slice (if l0.c = 0 then l0.a else l0.a.map (·.add (0 * 4))) ((Int.toNat k5) - 0) (l0.c - 0)]) w5 = .ok (t40_x1.v) w6 ∧ kept [r3] w5 w6 ∧ ∃ (t43_x1 : Sl) (w7 : World), Sem.run Tryz.prog (Builtin.append_ #[ty_sl_enthymemeref04_Regex, ty_sl_enthymemeref04_Regex] ty_sl_enthymemeref04_Regex #[t40_x1.v, .slice (some (nb w1)) 1 1]) w6 = .ok (t43_x1.v) w7 ∧ kept [r3] w6 w7 ∧ S3T l0 k5 t43_x1 w7 R))
noncomputable def eS2 := entS X [eS3, eL0] (pth [4]) P0 S2T
abbrev S1T (l0 : Sl) (r3 : Nat) (r3_0 r3_1 r3_2 : Int) (r3_3 : Sl) (k5 : Int) (w : World) (R : Post) : Prop :=
  sel (decide (k5 < ((l0.n : Nat) : Int))) ((0 : Int) ≤ k5 ∧ k5 < ((l0.n : Nat) : Int) ∧ optP l0.a fun t29_p => loc [r3] w fun w1 => ld4_0 w1 (t29_p.add (Int.toNat k5 * 4)) fun t30_0 t30_1 t30_2 t30_3 => cf1 [r3] n_enthymemeref04_Compare #[.agg #[.i t30_0, .int .u8 t30_1, .int .u8 t30_2, t30_3.v], .agg #[.i r3_0, .int .u8 r3_1, .int .u8 r3_2, r3_3.v]] w1 fun t32 w2 => sel (t32 == 0) (R (.returned (l0.v)) w2) (S2T l0 r3 r3_0 r3_1 r3_2 r3_3 k5 w2 R)) (loc [r3] w fun w1 => S2T l0 r3 r3_0 r3_1 r3_2 r3_3 k5 w1 R)
noncomputable def eS1 := entS X [eS2, eS3, eL0] (pth [3]) P0 S1T
theorem L0T_step : ∀ (l0 : Sl) (r3 : Nat) (r3_0 r3_1 r3_2 : Int) (r3_3 : Sl) (k5 : Int) (w : World) (R : Post) (h : sel (decide (k5 < ((l0.n : Nat) : Int))) ((0 : Int) ≤ k5 ∧ k5 < ((l0.n : Nat) : Int) ∧ optP l0.a fun t14_p => loc [r3] w fun w2 => ld4_0 w2 (t14_p.add (Int.toNat k5 * 4)) fun t15_0 t15_1 t15_2 t15_3 => cf1 [r3] n_enthymemeref04_Compare #[.agg #[.i t15_0, .int .u8 t15_1, .int .u8 t15_2, t15_3.v], .agg #[.i r3_0, .int .u8 r3_1, .int .u8 r3_2, r3_3.v]] w2 fun t17 w3 => sel (decide (t17 < 0)) (L0T l0 r3 r3_0 r3_1 r3_2 r3_3 (IntKind.wrap .i64 (k5 + 1)) w3 R) (S1T l0 r3 r3_0 r3_1 r3_2 r3_3 k5 w3 R)) (loc [r3] w fun w2 => S1T l0 r3 r3_0 r3_1 r3_2 r3_3 k5 w2 R)), L0T l0 r3 r3_0 r3_1 r3_2 r3_3 k5 w R := mp (stepL (X := X) [eS1, eS2, eS3, eL0] (pth [0, 2, 2]) P0)
theorem okT (l0 : Sl) (r1_0 r1_1 r1_2 : Int) (r1_3 : Sl) (w : World) (R : Post) (h : newV [] w fun b3 w1 => 
  L0T l0 b3 r1_0 r1_1 r1_2 r1_3 0 w1 R) : Calls Tryz.prog n_enthymemeref04_put #[l0.v, .agg #[.i r1_0, .int .u8 r1_1, .int .u8 r1_2, r1_3.v]] w R := callsX X [eS1, eS2, eS3, eL0] h
end enthymemeref04_put
namespace enthymemeref04_normal
noncomputable abbrev X : Fx := ⟨Tryz.prog, Tryz.f129, [(9,ls [0,1,2,3,4,5,6,7,8,9,10,11,12]), (25,ls [0,1,2,3,4,5,6]), (27,ls [0,1,2,3,4,5,6])], [4, 5, 8, 9]⟩
abbrev P0 : Ps := [(1, .v [.s]), (4, .l [.I, .Y, .Y, .s] ty_enthymemeref04_Regex)]
abbrev S0T (kids1 : Sl) (t4 : Nat) (t4_0 t4_1 t4_2 : Int) (t4_3 : Sl) (w : World) (R : Post) : Prop :=
  (0 : Int) ≤ 0 ∧ 0 < ((kids1.n : Nat) : Int) ∧ optP kids1.a fun t50_p => ld4_0 w (t50_p.add (Int.toNat 0 * 4)) fun t51_0 t51_1 t51_2 t51_3 => loc [t4] w fun w4 => R (.returned (.agg #[.i t51_0, .int .u8 t51_1, .int .u8 t51_2, t51_3.v])) w4
noncomputable def eS0 := entS X [] (pth [0, 1, 1, 1, 1, 1, 1, 1, 3]) P0 S0T
abbrev P1 : Ps := [(0, .v [.I]), (1, .v [.s]), (4, .l [.I, .Y, .Y, .s] ty_enthymemeref04_Regex), (5, .l [.I, .Y, .Y, .s] ty_enthymemeref04_Regex), (6, .v [.s]), (7, .v [.I])]
def L1T (kind0 : Int) (kids1 : Sl) (t4 : Nat) (t4_0 t4_1 t4_2 : Int) (t4_3 : Sl) (all5 : Nat) (all5_0 all5_1 all5_2 : Int) (all5_3 flat6 : Sl) (i7 : Int) (w : World) (R : Post) : Prop := mkCur P1 0 (X.Sem (pth [0, 1, 1, 1, 5])) kind0 kids1 t4 t4_0 t4_1 t4_2 t4_3 all5 all5_0 all5_1 all5_2 all5_3 flat6 i7 w R
noncomputable def eL1 := entL X (pth [0, 1, 1, 1, 5]) P1 L1T
abbrev S2T (kind0 : Int) (kids1 : Sl) (t4 : Nat) (t4_0 t4_1 t4_2 : Int) (t4_3 : Sl) (all5 : Nat) (all5_0 all5_1 all5_2 : Int) (all5_3 flat6 : Sl) (i7 : Int) (w : World) (R : Post) : Prop :=
  L1T kind0 kids1 t4 t4_0 t4_1 t4_2 t4_3 all5 all5_0 all5_1 all5_2 all5_3 flat6 (IntKind.wrap .i64 (i7 + 1)) w R
noncomputable def eS2 := entS X [eL1, eS0] (pth [2, 2, 1, 1, 5]) P1 S2T
abbrev P2 : Ps := [(0, .v [.I]), (4, .l [.I, .Y, .Y, .s] ty_enthymemeref04_Regex), (6, .v [.s]), (8, .l [.I, .Y, .Y, .s] ty_enthymemeref04_Regex), (9, .l [.I, .Y, .Y, .s] ty_enthymemeref04_Regex), (10, .v [.s]), (11, .v [.I])]
def L3T (kind0 : Int) (t4 : Nat) (t4_0 t4_1 t4_2 : Int) (t4_3 flat6 : Sl) (neutral8 : Nat) (neutral8_0 neutral8_1 neutral8_2 : Int) (neutral8_3 : Sl) (decides9 : Nat) (decides9_0 decides9_1 decides9_2 : Int) (decides9_3 out10 : Sl) (i11 : Int) (w : World) (R : Post) : Prop := mkCur P2 0 (X.Sem (pth [0, 1, 1, 1, 9])) kind0 t4 t4_0 t4_1 t4_2 t4_3 flat6 neutral8 neutral8_0 neutral8_1 neutral8_2 neutral8_3 decides9 decides9_0 decides9_1 decides9_2 decides9_3 out10 i11 w R
noncomputable def eL3 := entL X (pth [0, 1, 1, 1, 9]) P2 L3T
abbrev S4T (kind0 : Int) (t4 : Nat) (t4_0 t4_1 t4_2 : Int) (t4_3 flat6 : Sl) (neutral8 : Nat) (neutral8_0 neutral8_1 neutral8_2 : Int) (neutral8_3 : Sl) (decides9 : Nat) (decides9_0 decides9_1 decides9_2 : Int) (decides9_3 out10 : Sl) (i11 : Int) (w : World) (R : Post) : Prop :=
  L3T kind0 t4 t4_0 t4_1 t4_2 t4_3 flat6 neutral8 neutral8_0 neutral8_1 neutral8_2 neutral8_3 decides9 decides9_0 decides9_1 decides9_2 decides9_3 out10 (IntKind.wrap .i64 (i11 + 1)) w R
noncomputable def eS4 := entS X [eL3, eS2, eL1, eS0] (pth [2, 2, 1, 1, 9]) P2 S4T
theorem L3T_step : ∀ (kind0 : Int) (t4 : Nat) (t4_0 t4_1 t4_2 : Int) (t4_3 flat6 : Sl) (neutral8 : Nat) (neutral8_0 neutral8_1 neutral8_2 : Int) (neutral8_3 : Sl) (decides9 : Nat) (decides9_0 decides9_1 decides9_2 : Int) (decides9_3 out10 : Sl) (i11 : Int) (w : World) (R : Post) (h : sel (decide (i11 < ((flat6.n : Nat) : Int))) ((0 : Int) ≤ i11 ∧ i11 < ((flat6.n : Nat) : Int) ∧ optP flat6.a fun t105_p => loc [t4, neutral8, decides9] w fun w41 => ld4_0 w41 (t105_p.add (Int.toNat i11 * 4)) fun t106_0 t106_1 t106_2 t106_3 => cf1 [t4, neutral8, decides9] n_enthymemeref04_Compare #[.agg #[.i t106_0, .int .u8 t106_1, .int .u8 t106_2, t106_3.v], .agg #[.i decides9_0, .int .u8 decides9_1, .int .u8 decides9_2, decides9_3.v]] w41 fun t108 w42 => sel (t108 == 0) (loc [t4, neutral8, decides9] w42 fun w46 => R (.returned (.agg #[.i decides9_0, .int .u8 decides9_1, .int .u8 decides9_2, decides9_3.v])) w46) ((0 : Int) ≤ i11 ∧ i11 < ((flat6.n : Nat) : Int) ∧ optP flat6.a fun t113_p => loc [t4, neutral8, decides9] w42 fun w47 => ld4_0 w47 (t113_p.add (Int.toNat i11 * 4)) fun t114_0 t114_1 t114_2 t114_3 => cf1 [t4, neutral8, decides9] n_enthymemeref04_Compare #[.agg #[.i t114_0, .int .u8 t114_1, .int .u8 t114_2, t114_3.v], .agg #[.i neutral8_0, .int .u8 neutral8_1, .int .u8 neutral8_2, neutral8_3.v]] w47 fun t116 w48 => sel (t116 == 0) (S4T kind0 t4 t4_0 t4_1 t4_2 t4_3 flat6 neutral8 neutral8_0 neutral8_1 neutral8_2 neutral8_3 decides9 decides9_0 decides9_1 decides9_2 decides9_3 out10 i11 w48 R) (sel (kind0 == 3) ((0 : Int) ≤ i11 ∧ i11 < ((flat6.n : Nat) : Int) ∧ optP flat6.a fun t123_p => ld4_0 w48 (t123_p.add (Int.toNat i11 * 4)) fun t124_0 t124_1 t124_2 t124_3 => nwV w48 (.cells #[.i t124_0, .int .u8 t124_1, .int .u8 t124_2, t124_3.v] ty_enthymemeref04_Regex) fun w49 => 
  ∃ (t126 : Sl) (w50 : World), Sem.run Tryz.prog (Builtin.append_ #[ty_sl_enthymemeref04_Regex, ty_sl_enthymemeref04_Regex] ty_sl_enthymemeref04_Regex #[out10.v, .slice (some (nb w48)) 1 1]) w49 = .ok (t126.v) w50 ∧ kept [t4, neutral8, decides9] w49 w50 ∧ S4T kind0 t4 t4_0 t4_1 t4_2 t4_3 flat6 neutral8 neutral8_0 neutral8_1 neutral8_2 neutral8_3 decides9 decides9_0 decides9_1 decides9_2 decides9_3 t126 i11 w50 R) ((0 : Int) ≤ i11 ∧ i11 < ((flat6.n : Nat) : Int) ∧ optP flat6.a fun t130_p => ld4_0 w48 (t130_p.add (Int.toNat i11 * 4)) fun t131_0 t131_1 t131_2 t131_3 => cf3 [t4, neutral8, decides9] n_enthymemeref04_put #[out10.v, .agg #[.i t131_0, .int .u8 t131_1, .int .u8 t131_2, t131_3.v]] w48 fun t132 w51 => S4T kind0 t4 t4_0 t4_1 t4_2 t4_3 flat6 neutral8 neutral8_0 neutral8_1 neutral8_2 neutral8_3 decides9 decides9_0 decides9_1 decides9_2 decides9_3 t132 i11 w51 R)))) (sel (((out10.n : Nat) : Int) == 0) (loc [t4, neutral8, decides9] w fun w55 => R (.returned (.agg #[.i neutral8_0, .int .u8 neutral8_1, .int .u8 neutral8_2, neutral8_3.v])) w55) (sel (((out10.n : Nat) : Int) == 1) ((0 : Int) ≤ 0 ∧ 0 < ((out10.n : Nat) : Int) ∧ optP out10.a fun t141_p => ld4_0 w (t141_p.add (Int.toNat 0 * 4)) fun t142_0 t142_1 t142_2 t142_3 => loc [t4, neutral8, decides9] w fun w59 => R (.returned (.agg #[.i t142_0, .int .u8 t142_1, .int .u8 t142_2, t142_3.v])) w59) (loc [t4, neutral8, decides9] w fun w63 => R (.returned (.agg #[.i kind0, .int .u8 0, .int .u8 0, out10.v])) w63)))), L3T kind0 t4 t4_0 t4_1 t4_2 t4_3 flat6 neutral8 neutral8_0 neutral8_1 neutral8_2 neutral8_3 decides9 decides9_0 decides9_1 decides9_2 decides9_3 out10 i11 w R := mp (stepL (X := X) [eS4, eL3, eS2, eL1, eS0] (pth [0, 1, 1, 1, 9]) P2)
theorem L1T_step : ∀ (kind0 : Int) (kids1 : Sl) (t4 : Nat) (t4_0 t4_1 t4_2 : Int) (t4_3 : Sl) (all5 : Nat) (all5_0 all5_1 all5_2 : Int) (all5_3 flat6 : Sl) (i7 : Int) (w : World) (R : Post) (h : sel (decide (i7 < ((kids1.n : Nat) : Int))) ((0 : Int) ≤ i7 ∧ i7 < ((kids1.n : Nat) : Int) ∧ optP kids1.a fun t62_p => ∃ t64 : Int, w.cell? ((t62_p.add (Int.toNat i7 * 4)).add 0) = some (.i t64) ∧ 
  sel (t64 == kind0) ((0 : Int) ≤ i7 ∧ i7 < ((kids1.n : Nat) : Int) ∧ optP kids1.a fun t70_p => ∃ t72 : Sl, w.cell? ((t70_p.add (Int.toNat i7 * 4)).add 3) = some (t72.v) ∧ 
  ∃ (t73 : Sl) (w26 : World), Sem.run Tryz.prog (Builtin.append_ #[ty_sl_enthymemeref04_Regex, ty_sl_enthymemeref04_Regex] ty_sl_enthymemeref04_Regex #[flat6.v, t72.v]) w = .ok (t73.v) w26 ∧ kept [t4, all5] w w26 ∧ S2T kind0 kids1 t4 t4_0 t4_1 t4_2 t4_3 all5 all5_0 all5_1 all5_2 all5_3 t73 i7 w26 R) ((0 : Int) ≤ i7 ∧ i7 < ((kids1.n : Nat) : Int) ∧ optP kids1.a fun t77_p => ld4_0 w (t77_p.add (Int.toNat i7 * 4)) fun t78_0 t78_1 t78_2 t78_3 => nwV w (.cells #[.i t78_0, .int .u8 t78_1, .int .u8 t78_2, t78_3.v] ty_enthymemeref04_Regex) fun w27 => 
  ∃ (t80 : Sl) (w28 : World), Sem.run Tryz.prog (Builtin.append_ #[ty_sl_enthymemeref04_Regex, ty_sl_enthymemeref04_Regex] ty_sl_enthymemeref04_Regex #[flat6.v, .slice (some (nb w)) 1 1]) w27 = .ok (t80.v) w28 ∧ kept [t4, all5] w27 w28 ∧ S2T kind0 kids1 t4 t4_0 t4_1 t4_2 t4_3 all5 all5_0 all5_1 all5_2 all5_3 t80 i7 w28 R)) (nwV w (.cells #[.i 1, .int .u8 0, .int .u8 0, .slice none 0 0, .i 0, .int .u8 0, .int .u8 0, .slice none 0 0, .i all5_0, .int .u8 all5_1, .int .u8 all5_2, all5_3.v] ty_enthymemeref04_Regex) fun w29 => 
  (0 : Int) ≤ (IntKind.wrap .i64 (kind0 - 3)) ∧ (IntKind.wrap .i64 (kind0 - 3)) < ((3 : Nat) : Int) ∧ optP (some (nb w)) fun t87_p => ld4_0 w29 (t87_p.add (Int.toNat (IntKind.wrap .i64 (kind0 - 3)) * 4)) fun t88_0 t88_1 t88_2 t88_3 => newV [t4, all5] w29 fun b8 w30 => 
  loc [t4, all5, b8] w30 fun w34 => nwV w34 (.cells #[.i 0, .int .u8 0, .int .u8 0, .slice none 0 0, .i all5_0, .int .u8 all5_1, .int .u8 all5_2, all5_3.v, .i 0, .int .u8 0, .int .u8 0, .slice none 0 0] ty_enthymemeref04_Regex) fun w35 => 
  (0 : Int) ≤ (IntKind.wrap .i64 (kind0 - 3)) ∧ (IntKind.wrap .i64 (kind0 - 3)) < ((3 : Nat) : Int) ∧ optP (some (nb w34)) fun t95_p => ld4_0 w35 (t95_p.add (Int.toNat (IntKind.wrap .i64 (kind0 - 3)) * 4)) fun t96_0 t96_1 t96_2 t96_3 => newV [t4, all5, b8] w35 fun b9 w36 => 
  loc [t4, all5, b8, b9] w36 fun w40 => L3T kind0 t4 t4_0 t4_1 t4_2 t4_3 flat6 b8 t88_0 t88_1 t88_2 t88_3 b9 t96_0 t96_1 t96_2 t96_3 ⟨none, 0, 0⟩ 0 w40 R)), L1T kind0 kids1 t4 t4_0 t4_1 t4_2 t4_3 all5 all5_0 all5_1 all5_2 all5_3 flat6 i7 w R := mp (stepL (X := X) [eS4, eL3, eS2, eL1, eS0] (pth [0, 1, 1, 1, 5]) P1)
theorem okT (kind0 : Int) (kids1 : Sl) (w : World) (R : Post) (h : newV [] w fun b4 w1 => 
  cf2 [b4] n_enthymemeref04_Everything #[] w1 fun t12_0 t12_1 t12_2 t12_3 w2 => newV [b4] w2 fun b5 w3 => 
  sel (kind0 == 6) ((0 : Int) ≤ 0 ∧ 0 < ((kids1.n : Nat) : Int) ∧ optP kids1.a fun t16_p => loc [b4, b5] w3 fun w7 => ∃ t18 : Int, w7.cell? ((t16_p.add (Int.toNat 0 * 4)).add 0) = some (.i t18) ∧ 
  sel (t18 == 6) ((0 : Int) ≤ 0 ∧ 0 < ((kids1.n : Nat) : Int) ∧ optP kids1.a fun t21_p => ∃ t23 : Sl, w7.cell? ((t21_p.add (Int.toNat 0 * 4)).add 3) = some (t23.v) ∧ 
  (0 : Int) ≤ 0 ∧ 0 < ((t23.n : Nat) : Int) ∧ optP t23.a fun t24_p => ld4_0 w7 (t24_p.add (Int.toNat 0 * 4)) fun t25_0 t25_1 t25_2 t25_3 => loc [b4, b5] w7 fun w11 => R (.returned (.agg #[.i t25_0, .int .u8 t25_1, .int .u8 t25_2, t25_3.v])) w11) (loc [b4, b5] w7 fun w15 => R (.returned (.agg #[.i 6, .int .u8 0, .int .u8 0, kids1.v])) w15)) (sel (kind0 == 7) ((0 : Int) ≤ 0 ∧ 0 < ((kids1.n : Nat) : Int) ∧ optP kids1.a fun t31_p => loc [b4, b5] w3 fun w7 => ∃ t33 : Int, w7.cell? ((t31_p.add (Int.toNat 0 * 4)).add 0) = some (.i t33) ∧ 
  sel (decide (t33 < 2)) (loc [b4, b5] w7 fun w19 => R (.returned (.agg #[.i 1, .int .u8 0, .int .u8 0, .slice none 0 0])) w19) ((0 : Int) ≤ 0 ∧ 0 < ((kids1.n : Nat) : Int) ∧ optP kids1.a fun t37_p => loc [b4, b5] w7 fun w20 => ∃ t39 : Int, w20.cell? ((t37_p.add (Int.toNat 0 * 4)).add 0) = some (.i t39) ∧ 
  sel (t39 == 7) (S0T kids1 b4 0 0 0 ⟨none, 0, 0⟩ w20 R) ((0 : Int) ≤ 0 ∧ 0 < ((kids1.n : Nat) : Int) ∧ optP kids1.a fun t43_p => ld4_0 w20 (t43_p.add (Int.toNat 0 * 4)) fun t44_0 t44_1 t44_2 t44_3 => cf1 [b4, b5] n_enthymemeref04_Compare #[.agg #[.i t44_0, .int .u8 t44_1, .int .u8 t44_2, t44_3.v], .agg #[.i t12_0, .int .u8 t12_1, .int .u8 t12_2, t12_3.v]] w20 fun t46 w21 => sel (t46 == 0) (S0T kids1 b4 0 0 0 ⟨none, 0, 0⟩ w21 R) (loc [b4, b5] w21 fun w25 => R (.returned (.agg #[.i 7, .int .u8 0, .int .u8 0, kids1.v])) w25)))) (loc [b4, b5] w3 fun w7 => L1T kind0 kids1 b4 0 0 0 ⟨none, 0, 0⟩ b5 t12_0 t12_1 t12_2 t12_3 ⟨none, 0, 0⟩ 0 w7 R))) : Calls Tryz.prog n_enthymemeref04_normal #[.i kind0, kids1.v] w R := callsX X [eS4, eL3, eS2, eL1, eS0] h
end enthymemeref04_normal
namespace enthymemeref04_simple
noncomputable abbrev X : Fx := ⟨Tryz.prog, Tryz.f107, [], [1, 2]⟩
abbrev P0 : Ps := [(1, .l [.I, .Y, .Y, .s] ty_enthymemeref04_Regex), (2, .l [.I, .Y, .Y, .s] ty_enthymemeref04_Regex), (3, .v [.s]), (4, .v [.I])]
def L0T (r1 : Nat) (r1_0 r1_1 r1_2 : Int) (r1_3 : Sl) (t2 : Nat) (t2_0 t2_1 t2_2 : Int) (t2_3 kids3 : Sl) (i4 : Int) (w : World) (R : Post) : Prop := mkCur P0 0 (X.Sem (pth [0, 1, 1, 1, 3])) r1 r1_0 r1_1 r1_2 r1_3 t2 t2_0 t2_1 t2_2 t2_3 kids3 i4 w R
noncomputable def eL0 := entL X (pth [0, 1, 1, 1, 3]) P0 L0T
theorem L0T_step : ∀ (r1 : Nat) (r1_0 r1_1 r1_2 : Int) (r1_3 : Sl) (t2 : Nat) (t2_0 t2_1 t2_2 : Int) (t2_3 kids3 : Sl) (i4 : Int) (w : World) (R : Post) (h : sel (decide (i4 < ((r1_3.n : Nat) : Int))) ((0 : Int) ≤ i4 ∧ i4 < ((r1_3.n : Nat) : Int) ∧ optP r1_3.a fun t20_p => ld4_0 w (t20_p.add (Int.toNat i4 * 4)) fun t21_0 t21_1 t21_2 t21_3 => cf2 [r1, t2] n_enthymemeref04_simple #[.agg #[.i t21_0, .int .u8 t21_1, .int .u8 t21_2, t21_3.v]] w fun t22_0 t22_1 t22_2 t22_3 w7 => nwV w7 (.cells #[.i t22_0, .int .u8 t22_1, .int .u8 t22_2, t22_3.v] ty_enthymemeref04_Regex) fun w8 => 
  ∃ (t24 : Sl) (w9 : World), Sem.run Tryz.prog (Builtin.append_ #[ty_sl_enthymemeref04_Regex, ty_sl_enthymemeref04_Regex] ty_sl_enthymemeref04_Regex #[kids3.v, .slice (some (nb w7)) 1 1]) w8 = .ok (t24.v) w9 ∧ kept [r1, t2] w8 w9 ∧ L0T r1 r1_0 r1_1 r1_2 r1_3 t2 t2_0 t2_1 t2_2 t2_3 t24 (IntKind.wrap .i64 (i4 + 1)) w9 R) (cf2 [r1, t2] n_enthymemeref04_normal #[.i r1_0, kids3.v] w fun t28_0 t28_1 t28_2 t28_3 w10 => loc [r1, t2] w10 fun w14 => R (.returned (.agg #[.i t28_0, .int .u8 t28_1, .int .u8 t28_2, t28_3.v])) w14)), L0T r1 r1_0 r1_1 r1_2 r1_3 t2 t2_0 t2_1 t2_2 t2_3 kids3 i4 w R := mp (stepL (X := X) [eL0] (pth [0, 1, 1, 1, 3]) P0)
theorem okT (r0_0 r0_1 r0_2 : Int) (r0_3 : Sl) (w : World) (R : Post) (h : newV [] w fun b1 w1 => 
  newV [b1] w1 fun b2 w2 => 
  sel (decide (r0_0 < 3)) (loc [b1, b2] w2 fun w6 => R (.returned (.agg #[.i r0_0, .int .u8 r0_1, .int .u8 r0_2, r0_3.v])) w6) (L0T b1 r0_0 r0_1 r0_2 r0_3 b2 0 0 0 ⟨none, 0, 0⟩ ⟨none, 0, 0⟩ 0 w2 R)) : Calls Tryz.prog n_enthymemeref04_simple #[.agg #[.i r0_0, .int .u8 r0_1, .int .u8 r0_2, r0_3.v]] w R := callsX X [eL0] h
end enthymemeref04_simple
namespace enthymemeref04_few
noncomputable abbrev X : Fx := ⟨Tryz.prog, Tryz.f124, [], [1, 2]⟩
theorem okT (r0_0 r0_1 r0_2 : Int) (r0_3 : Sl) (w : World) (R : Post) (h : newV [] w fun b1 w1 => 
  newV [b1] w1 fun b2 w2 => 
  cf1 [b1, b2] n_enthymemeref04_Nodes #[.agg #[.i r0_0, .int .u8 r0_1, .int .u8 r0_2, r0_3.v]] w2 fun t5 w3 => sel (decide (t5 > 64)) (loc [b1, b2] w3 fun w7 => R (.returned (.tuple #[.agg #[.i 0, .int .u8 0, .int .u8 0, .slice none 0 0], .i 4])) w7) (loc [b1, b2] w3 fun w11 => R (.returned (.tuple #[.agg #[.i r0_0, .int .u8 r0_1, .int .u8 r0_2, r0_3.v], .i 0])) w11)) : Calls Tryz.prog n_enthymemeref04_few #[.agg #[.i r0_0, .int .u8 r0_1, .int .u8 r0_2, r0_3.v]] w R := callsX X [] h
end enthymemeref04_few
namespace enthymemeref04_Normal
noncomputable abbrev X : Fx := ⟨Tryz.prog, Tryz.f90, [], [1, 2]⟩
theorem okT (r0_0 r0_1 r0_2 : Int) (r0_3 : Sl) (w : World) (R : Post) (h : newV [] w fun b1 w1 => 
  newV [b1] w1 fun b2 w2 => 
  cf1 [b1, b2] n_enthymemeref04_Valid #[.agg #[.i r0_0, .int .u8 r0_1, .int .u8 r0_2, r0_3.v]] w2 fun t6 w3 => sel (t6 != 0) (loc [b1, b2] w3 fun w7 => R (.returned (.tuple #[.agg #[.i 0, .int .u8 0, .int .u8 0, .slice none 0 0], .i t6])) w7) (cf2 [b1, b2] n_enthymemeref04_simple #[.agg #[.i r0_0, .int .u8 r0_1, .int .u8 r0_2, r0_3.v]] w3 fun t12_0 t12_1 t12_2 t12_3 w8 => cf11 [b1, b2] n_enthymemeref04_few #[.agg #[.i t12_0, .int .u8 t12_1, .int .u8 t12_2, t12_3.v]] w8 fun t13_0_0 t13_0_1 t13_0_2 t13_0_3 t13_1 w9 => loc [b1, b2] w9 fun w13 => R (.returned (.tuple #[.agg #[.i t13_0_0, .int .u8 t13_0_1, .int .u8 t13_0_2, t13_0_3.v], .i t13_1])) w13)) : Calls Tryz.prog n_enthymemeref04_Normal #[.agg #[.i r0_0, .int .u8 r0_1, .int .u8 r0_2, r0_3.v]] w R := callsX X [] h
end enthymemeref04_Normal
end Go.Proofs.YtcifihepfadgfaaGreatDoor
set_option linter.unusedVariables false
set_option maxRecDepth 100000
set_option maxHeartbeats 2000000
namespace Go.Proofs.YtcifihepfadgfaaGreatDoor
open Go Go.W
namespace regex_Normal
noncomputable abbrev X : Fx := ⟨Tryz.prog, Tryz.f131, [(4,ls [1,0,2,3,4,5,6,7])], [1, 2]⟩
theorem okT (r0_0 r0_1 r0_2 : Int) (r0_3 : Sl) (w : World) (R : Post) (h : newV [] w fun b1 w1 => 
  newV [b1] w1 fun b2 w2 => 
  cf1 [b1, b2] n_regex_Valid #[.agg #[.i r0_0, .int .u8 r0_1, .int .u8 r0_2, r0_3.v]] w2 fun t6 w3 => sel (t6 != 0) (loc [b1, b2] w3 fun w7 => R (.returned (.tuple #[.agg #[.i 0, .int .u8 0, .int .u8 0, .slice none 0 0], .i t6])) w7) (loc [b1, b2] w3 fun w8 => cf12 [b1, b2] n_regex_forms #[] w8 fun t11 w9 => cf2 [b1, b2] n_regex_normal #[.map t11, .agg #[.i r0_0, .int .u8 r0_1, .int .u8 r0_2, r0_3.v]] w9 fun t13_0 t13_1 t13_2 t13_3 w10 => cf11 [b1, b2] n_regex_limited #[.agg #[.i t13_0, .int .u8 t13_1, .int .u8 t13_2, t13_3.v]] w10 fun t14_0_0 t14_0_1 t14_0_2 t14_0_3 t14_1 w11 => loc [b1, b2] w11 fun w15 => R (.returned (.tuple #[.agg #[.i t14_0_0, .int .u8 t14_0_1, .int .u8 t14_0_2, t14_0_3.v], .i t14_1])) w15)) : Calls Tryz.prog n_regex_Normal #[.agg #[.i r0_0, .int .u8 r0_1, .int .u8 r0_2, r0_3.v]] w R := callsX X [] h
end regex_Normal
end Go.Proofs.YtcifihepfadgfaaGreatDoor
set_option linter.unusedVariables false
set_option maxRecDepth 100000
set_option maxHeartbeats 2000000
namespace Go.Proofs.YtcifihepfadgfaaGreatDoor
open Go Go.W
namespace enthymemeref04_digit
noncomputable abbrev X : Fx := ⟨Tryz.prog, Tryz.f139, [], []⟩
theorem ok (n0 : Int) (w : World) (R : Post) (h : (0 : Int) ≤ n0 ∧ ∃ t4_b : UInt8, (ByteArray.mk #[48, 49, 50, 51, 52, 53, 54, 55, 56, 57, 97, 98, 99, 100, 101, 102])[Int.toNat n0]? = some t4_b ∧ R (.returned (.int .u8 ((t4_b.toNat : Nat) : Int))) w) : Calls Tryz.prog n_enthymemeref04_digit #[.i n0] w R := callsX X [] h
end enthymemeref04_digit
namespace enthymemeref04_plain
noncomputable abbrev X : Fx := ⟨Tryz.prog, Tryz.f138, [], []⟩
theorem ok (c0 : Int) (w : World) (R : Post) (h : sel (decide (c0 ≥ 32)) (sel (decide (c0 ≤ 126)) (sel (c0 != 39) (R (.returned (.bool (c0 != 92))) w) (R (.returned (.bool false)) w)) (R (.returned (.bool false)) w)) (R (.returned (.bool false)) w)) : Calls Tryz.prog n_enthymemeref04_plain #[.int .u8 c0] w R := callsX X [] h
end enthymemeref04_plain
namespace enthymemeref04_number
noncomputable abbrev X : Fx := ⟨Tryz.prog, Tryz.f180, [], []⟩
abbrev P0 : Ps := [(0, .v [.Y]), (3, .v [.I])]
def L0 (c0 i3 : Int) (w : World) (R : Post) : Prop := mkCur P0 0 (X.Sem (pth [0, 1, 1, 1, 1])) c0 i3 w R
noncomputable def eL0 := entL X (pth [0, 1, 1, 1, 1]) P0 L0
theorem L0_step : ∀ (c0 i3 : Int) (w : World) (R : Post) (h : sel (decide (i3 < 16)) (ca13 n_enthymemeref04_digit #[.i i3] w fun t9 w1 => sel (t9 == c0) (R (.returned (.i i3)) w1) (L0 c0 (IntKind.wrap .i64 (i3 + 1)) w1 R)) (R (.returned (.i (-1))) w)), L0 c0 i3 w R := mp (stepL (X := X) [eL0] (pth [0, 1, 1, 1, 1]) P0)
theorem ok (c0 : Int) (w : World) (R : Post) (h : L0 c0 0 w R) : Calls Tryz.prog n_enthymemeref04_number #[.int .u8 c0] w R := callsX X [eL0] h
end enthymemeref04_number
namespace enthymemeref04_byteAt
noncomputable abbrev X : Fx := ⟨Tryz.prog, Tryz.f152, [(4,ls [0,1,2,3,6,7,8,9,4,5,10,11,12,13,14])], []⟩
abbrev P0 : Ps := []
abbrev S1  (w : World) (R : Post) : Prop :=
  R (.returned (.tuple #[.int .u8 0, .i 0])) w
noncomputable def eS1 := entS X [] (pth [3]) P0 S1
abbrev P1 : Ps := [(0, .v [.st]), (1, .v [.I])]
abbrev S0 (s0 : ByteArray) (at1 : Int) (w : World) (R : Post) : Prop :=
  sel (decide ((IntKind.wrap .i64 (at1 + 4)) ≤ ((s0.size : Nat) : Int))) ((0 : Int) ≤ at1 ∧ ∃ t43_b : UInt8, s0[Int.toNat at1]? = some t43_b ∧ sel (((t43_b.toNat : Nat) : Int) == 92) ((0 : Int) ≤ (IntKind.wrap .i64 (at1 + 1)) ∧ ∃ t50_b : UInt8, s0[Int.toNat (IntKind.wrap .i64 (at1 + 1))]? = some t50_b ∧ sel (((t50_b.toNat : Nat) : Int) == 120) ((0 : Int) ≤ (IntKind.wrap .i64 (at1 + 2)) ∧ ∃ t57_b : UInt8, s0[Int.toNat (IntKind.wrap .i64 (at1 + 2))]? = some t57_b ∧ ca1 n_enthymemeref04_number #[.int .u8 ((t57_b.toNat : Nat) : Int)] w fun t58 w1 => sel (decide (t58 ≥ 0)) ((0 : Int) ≤ (IntKind.wrap .i64 (at1 + 3)) ∧ ∃ t65_b : UInt8, s0[Int.toNat (IntKind.wrap .i64 (at1 + 3))]? = some t65_b ∧ ca1 n_enthymemeref04_number #[.int .u8 ((t65_b.toNat : Nat) : Int)] w1 fun t66 w2 => sel (decide (t66 ≥ 0)) (drV w2 fun w3 => (0 : Int) ≤ (IntKind.wrap .i64 (at1 + 2)) ∧ ∃ t72_b : UInt8, s0[Int.toNat (IntKind.wrap .i64 (at1 + 2))]? = some t72_b ∧ (0 : Int) ≤ (IntKind.wrap .i64 (at1 + 3)) ∧ ∃ t78_b : UInt8, s0[Int.toNat (IntKind.wrap .i64 (at1 + 3))]? = some t78_b ∧ ca1 n_enthymemeref04_number #[.int .u8 ((t72_b.toNat : Nat) : Int)] w3 fun t73 w4 => ca1 n_enthymemeref04_number #[.int .u8 ((t78_b.toNat : Nat) : Int)] w4 fun t79 w5 => R (.returned (.tuple #[.int .u8 (IntKind.wrap .u8 (IntKind.wrap .i64 ((IntKind.wrap .i64 (16 * t73)) + t79))), .i 4])) w5) (S1  w2 R)) (S1  w1 R)) (S1  w R)) (S1  w R)) (S1  w R)
noncomputable def eS0 := entS X [eS1] (pth [2]) P1 S0
theorem ok (s0 : ByteArray) (at1 : Int) (w : World) (R : Post) (h : sel (decide ((IntKind.wrap .i64 (at1 + 3)) ≤ ((s0.size : Nat) : Int))) ((0 : Int) ≤ at1 ∧ ∃ t14_b : UInt8, s0[Int.toNat at1]? = some t14_b ∧ sel (((t14_b.toNat : Nat) : Int) == 39) ((0 : Int) ≤ (IntKind.wrap .i64 (at1 + 2)) ∧ ∃ t21_b : UInt8, s0[Int.toNat (IntKind.wrap .i64 (at1 + 2))]? = some t21_b ∧ sel (((t21_b.toNat : Nat) : Int) == 39) ((0 : Int) ≤ (IntKind.wrap .i64 (at1 + 1)) ∧ ∃ t28_b : UInt8, s0[Int.toNat (IntKind.wrap .i64 (at1 + 1))]? = some t28_b ∧ ca0 n_enthymemeref04_plain #[.int .u8 ((t28_b.toNat : Nat) : Int)] w fun t29 w1 => sel t29 ((0 : Int) ≤ (IntKind.wrap .i64 (at1 + 1)) ∧ ∃ t34_b : UInt8, s0[Int.toNat (IntKind.wrap .i64 (at1 + 1))]? = some t34_b ∧ R (.returned (.tuple #[.int .u8 ((t34_b.toNat : Nat) : Int), .i 3])) w1) (S0 s0 at1 w1 R)) (S0 s0 at1 w R)) (S0 s0 at1 w R)) (S0 s0 at1 w R)) : Calls Tryz.prog n_enthymemeref04_byteAt #[.string s0, .i at1] w R := callsX X [eS0, eS1] h
end enthymemeref04_byteAt
namespace enthymemeref04_rangeAt
noncomputable abbrev X : Fx := ⟨Tryz.prog, Tryz.f133, [], [4]⟩
abbrev P0 : Ps := [(4, .l [.I, .Y, .Y, .s] ty_enthymemeref04_Regex)]
abbrev S1T (t4 : Nat) (t4_0 t4_1 t4_2 : Int) (t4_3 : Sl) (w : World) (R : Post) : Prop :=
  loc [t4] w fun w4 => R (.returned (.tuple #[.agg #[.i 0, .int .u8 0, .int .u8 0, .slice none 0 0], .i 0])) w4
noncomputable def eS1 := entS X [] (pth [0, 1, 1, 1, 6]) P0 S1T
abbrev S3T (t4 : Nat) (t4_0 t4_1 t4_2 : Int) (t4_3 : Sl) (w : World) (R : Post) : Prop :=
  loc [t4] w fun w4 => R (.returned (.tuple #[.agg #[.i 0, .int .u8 0, .int .u8 0, .slice none 0 0], .i 0])) w4
noncomputable def eS3 := entS X [eS1] (pth [0, 1, 1, 1, 9]) P0 S3T
abbrev P1 : Ps := [(0, .v [.st]), (1, .v [.I]), (4, .l [.I, .Y, .Y, .s] ty_enthymemeref04_Regex), (8, .v [.Y]), (11, .v [.Y]), (12, .v [.I]), (13, .v [.I])]
abbrev S2T (s0 : ByteArray) (at1 : Int) (t4 : Nat) (t4_0 t4_1 t4_2 : Int) (t4_3 : Sl) (lo8 hi11 m12 end13 : Int) (w : World) (R : Post) : Prop :=
  sel (m12 == 0) (S3T t4 t4_0 t4_1 t4_2 t4_3 w R) (sel (decide (end13 ≥ ((s0.size : Nat) : Int))) (S3T t4 t4_0 t4_1 t4_2 t4_3 w R) ((0 : Int) ≤ end13 ∧ ∃ t79_b : UInt8, s0[Int.toNat end13]? = some t79_b ∧ sel (((t79_b.toNat : Nat) : Int) != 93) (S3T t4 t4_0 t4_1 t4_2 t4_3 w R) (sel (decide (lo8 > hi11)) (S3T t4 t4_0 t4_1 t4_2 t4_3 w R) (loc [t4] w fun w4 => R (.returned (.tuple #[.agg #[.i 2, .int .u8 lo8, .int .u8 hi11, .slice none 0 0], .i (IntKind.wrap .i64 ((IntKind.wrap .i64 (end13 + 1)) - at1))])) w4))))
noncomputable def eS2 := entS X [eS3, eS1] (pth [9]) P1 S2T
abbrev P2 : Ps := [(0, .v [.st]), (1, .v [.I]), (4, .l [.I, .Y, .Y, .s] ty_enthymemeref04_Regex), (8, .v [.Y]), (9, .v [.I]), (10, .v [.I])]
abbrev S0T (s0 : ByteArray) (at1 : Int) (t4 : Nat) (t4_0 t4_1 t4_2 : Int) (t4_3 : Sl) (lo8 k9 dash10 : Int) (w : World) (R : Post) : Prop :=
  sel (k9 == 0) (S1T t4 t4_0 t4_1 t4_2 t4_3 w R) (sel (decide (dash10 ≥ ((s0.size : Nat) : Int))) (S1T t4 t4_0 t4_1 t4_2 t4_3 w R) ((0 : Int) ≤ dash10 ∧ ∃ t53_b : UInt8, s0[Int.toNat dash10]? = some t53_b ∧ sel (((t53_b.toNat : Nat) : Int) != 45) (S1T t4 t4_0 t4_1 t4_2 t4_3 w R) (cf14 [t4] n_enthymemeref04_byteAt #[.string s0, .i (IntKind.wrap .i64 (dash10 + 1))] w fun t61_0 t61_1 w1 => S2T s0 at1 t4 t4_0 t4_1 t4_2 t4_3 lo8 t61_0 t61_1 (IntKind.wrap .i64 ((IntKind.wrap .i64 (dash10 + 1)) + t61_1)) w1 R)))
noncomputable def eS0 := entS X [eS2, eS3, eS1] (pth [6]) P2 S0T
theorem okT (s0 : ByteArray) (at1 : Int) (w : World) (R : Post) (h : newV [] w fun b4 w1 => 
  cf14 [b4] n_enthymemeref04_byteAt #[.string s0, .i at1] w1 fun t17_0 t17_1 w2 => sel (decide (t17_1 > 0)) (loc [b4] w2 fun w6 => R (.returned (.tuple #[.agg #[.i 2, .int .u8 t17_0, .int .u8 t17_0, .slice none 0 0], .i t17_1])) w6) ((0 : Int) ≤ at1 ∧ ∃ t28_b : UInt8, s0[Int.toNat at1]? = some t28_b ∧ sel (((t28_b.toNat : Nat) : Int) != 91) (loc [b4] w2 fun w10 => R (.returned (.tuple #[.agg #[.i 0, .int .u8 0, .int .u8 0, .slice none 0 0], .i 0])) w10) (cf14 [b4] n_enthymemeref04_byteAt #[.string s0, .i (IntKind.wrap .i64 (at1 + 1))] w2 fun t35_0 t35_1 w11 => S0T s0 at1 b4 0 0 0 ⟨none, 0, 0⟩ t35_0 t35_1 (IntKind.wrap .i64 ((IntKind.wrap .i64 (at1 + 1)) + t35_1)) w11 R))) : Calls Tryz.prog n_enthymemeref04_rangeAt #[.string s0, .i at1] w R := callsX X [eS0, eS2, eS3, eS1] h
end enthymemeref04_rangeAt
namespace enthymemeref04_Tokens
noncomputable abbrev X : Fx := ⟨Tryz.prog, Tryz.f119, [(11,ls [0,1,2,3,4,5,6,7,8,9,10,11,12])], [5]⟩
abbrev P0 : Ps := [(0, .v [.st]), (3, .v [.s]), (4, .v [.I])]
def L0T (s0 : ByteArray) (out3 : Sl) (i4 : Int) (w : World) (R : Post) : Prop := mkCur P0 0 (X.Sem (pth [0, 1, 1, 1, 2])) s0 out3 i4 w R
noncomputable def eL0 := entL X (pth [0, 1, 1, 1, 2]) P0 L0T
abbrev P1 : Ps := [(0, .v [.st]), (3, .v [.s]), (4, .v [.I]), (5, .l [.I, .Y, .Y, .s] ty_enthymemeref04_Regex), (6, .v [.I])]
def L1T (s0 : ByteArray) (out3 : Sl) (i4 : Int) (r5 : Nat) (r5_0 r5_1 r5_2 : Int) (r5_3 : Sl) (n6 : Int) (w : World) (R : Post) : Prop := mkCur P1 0 (X.Sem (pth [0, 1, 1, 1, 1, 1, 2, 1, 1, 2, 1, 1, 2])) s0 out3 i4 r5 r5_0 r5_1 r5_2 r5_3 n6 w R
noncomputable def eL1 := entL X (pth [0, 1, 1, 1, 1, 1, 2, 1, 1, 2, 1, 1, 2]) P1 L1T
abbrev S2T (s0 : ByteArray) (out3 : Sl) (i4 : Int) (r5 : Nat) (r5_0 r5_1 r5_2 : Int) (r5_3 : Sl) (n6 : Int) (w : World) (R : Post) : Prop :=
  (0 : Int) ≤ (IntKind.wrap .i64 (i4 + n6)) ∧ (IntKind.wrap .i64 (i4 + n6)) ≤ ((s0.size : Nat) : Int) ∧ (0 : Int) ≤ i4 ∧ i4 ≤ (((Int.toNat (IntKind.wrap .i64 (i4 + n6))) : Nat) : Int) ∧ loc [r5] w fun w1 => nwV w1 (.cells #[.string (s0.extract (Int.toNat i4) (Int.toNat (IntKind.wrap .i64 (i4 + n6)))), .i i4, .i r5_0, .int .u8 r5_1, .int .u8 r5_2, r5_3.v] ty_enthymemeref04_Token) fun w2 => 
  ∃ (t72 : Sl) (w3 : World), Sem.run Tryz.prog (Builtin.append_ #[ty_sl_enthymemeref04_Token, ty_sl_enthymemeref04_Token] ty_sl_enthymemeref04_Token #[out3.v, .slice (some (nb w1)) 1 1]) w2 = .ok (t72.v) w3 ∧ kept [r5] w2 w3 ∧ L0T s0 t72 (IntKind.wrap .i64 (i4 + n6)) w3 R
noncomputable def eS2 := entS X [eL1, eL0] (pth [3, 1, 1, 2, 1, 1, 2]) P1 S2T
theorem L1T_step : ∀ (s0 : ByteArray) (out3 : Sl) (i4 : Int) (r5 : Nat) (r5_0 r5_1 r5_2 : Int) (r5_3 : Sl) (n6 : Int) (w : World) (R : Post) (h : (0 : Int) ≤ i4 ∧ ∃ t27_b : UInt8, s0[Int.toNat i4]? = some t27_b ∧ sel (decide (((t27_b.toNat : Nat) : Int) ≥ 97)) ((0 : Int) ≤ i4 ∧ ∃ t32_b : UInt8, s0[Int.toNat i4]? = some t32_b ∧ sel (decide (((t32_b.toNat : Nat) : Int) ≤ 122)) (sel (decide ((IntKind.wrap .i64 (i4 + n6)) < ((s0.size : Nat) : Int))) ((0 : Int) ≤ (IntKind.wrap .i64 (i4 + n6)) ∧ ∃ t48_b : UInt8, s0[Int.toNat (IntKind.wrap .i64 (i4 + n6))]? = some t48_b ∧ sel (decide (((t48_b.toNat : Nat) : Int) ≥ 97)) ((0 : Int) ≤ (IntKind.wrap .i64 (i4 + n6)) ∧ ∃ t56_b : UInt8, s0[Int.toNat (IntKind.wrap .i64 (i4 + n6))]? = some t56_b ∧ sel (decide (((t56_b.toNat : Nat) : Int) ≤ 122)) (L1T s0 out3 i4 r5 r5_0 r5_1 r5_2 r5_3 (IntKind.wrap .i64 (n6 + 1)) w R) (S2T s0 out3 i4 r5 r5_0 r5_1 r5_2 r5_3 n6 w R)) (S2T s0 out3 i4 r5 r5_0 r5_1 r5_2 r5_3 n6 w R)) (S2T s0 out3 i4 r5 r5_0 r5_1 r5_2 r5_3 n6 w R)) (S2T s0 out3 i4 r5 r5_0 r5_1 r5_2 r5_3 n6 w R)) (S2T s0 out3 i4 r5 r5_0 r5_1 r5_2 r5_3 n6 w R)), L1T s0 out3 i4 r5 r5_0 r5_1 r5_2 r5_3 n6 w R := mp (stepL (X := X) [eS2, eL1, eL0] (pth [0, 1, 1, 1, 1, 1, 2, 1, 1, 2, 1, 1, 2]) P1)
theorem L0T_step : ∀ (s0 : ByteArray) (out3 : Sl) (i4 : Int) (w : World) (R : Post) (h : sel (decide (i4 < ((s0.size : Nat) : Int))) ((0 : Int) ≤ i4 ∧ ∃ t13_b : UInt8, s0[Int.toNat i4]? = some t13_b ∧ sel (((t13_b.toNat : Nat) : Int) == 32) (L0T s0 out3 (IntKind.wrap .i64 (i4 + 1)) w R) (ca11 n_enthymemeref04_rangeAt #[.string s0, .i i4] w fun t20_0_0 t20_0_1 t20_0_2 t20_0_3 t20_1 w1 => newV [] w1 fun b5 w2 => 
  sel (t20_1 == 0) (loc [b5] w2 fun w6 => L1T s0 out3 i4 b5 t20_0_0 t20_0_1 t20_0_2 t20_0_3 1 w6 R) (loc [b5] w2 fun w6 => S2T s0 out3 i4 b5 t20_0_0 t20_0_1 t20_0_2 t20_0_3 t20_1 w6 R))) (nwV w (.cells #[.s0, .i ((s0.size : Nat) : Int), .i 0, .int .u8 0, .int .u8 0, .slice none 0 0] ty_enthymemeref04_Token) fun w7 => 
  ∃ (t81 : Sl) (w8 : World), Sem.run Tryz.prog (Builtin.append_ #[ty_sl_enthymemeref04_Token, ty_sl_enthymemeref04_Token] ty_sl_enthymemeref04_Token #[out3.v, .slice (some (nb w)) 1 1]) w7 = .ok (t81.v) w8 ∧ R (.returned (t81.v)) w8)), L0T s0 out3 i4 w R := mp (stepL (X := X) [eS2, eL1, eL0] (pth [0, 1, 1, 1, 2]) P0)
theorem okT (s0 : ByteArray) (w : World) (R : Post) (h : L0T s0 ⟨none, 0, 0⟩ 0 w R) : Calls Tryz.prog n_enthymemeref04_Tokens #[.string s0] w R := callsX X [eS2, eL1, eL0] h
end enthymemeref04_Tokens
namespace enthymemeref04_reader_see
noncomputable abbrev X : Fx := ⟨Tryz.prog, Tryz.f154, [(3,ls [0,1,2,3,4,5,6,7,8,9,10,11])], []⟩
theorem ok (p0 : Addr) (w : World) (R : Post) (h : ∃ t6 : Bool, w.cell? (p0.add 2) = some (.bool t6) ∧ 
  sel t6 (R (.returned (.string (ByteArray.mk #[32]))) w) (drV w fun w1 => ∃ t10 : Sl, w1.cell? (p0.add 0) = some (t10.v) ∧ 
  ∃ t14 : Int, w1.cell? (p0.add 1) = some (.i t14) ∧ 
  (0 : Int) ≤ t14 ∧ t14 < ((t10.n : Nat) : Int) ∧ optP t10.a fun t15_p => ∃ t17 : ByteArray, w1.cell? ((t15_p.add (Int.toNat t14 * 6)).add 0) = some (.string t17) ∧ 
  R (.returned (.string t17)) w1)) : Calls Tryz.prog n_enthymemeref04_reader_see #[.pointer (some p0)] w R := callsX X [] h
end enthymemeref04_reader_see
namespace enthymemeref04_reader_take
noncomputable abbrev X : Fx := ⟨Tryz.prog, Tryz.f135, [], []⟩
abbrev P0 : Ps := []
abbrev S0  (w : World) (R : Post) : Prop :=
  R (.returned (.bool true)) w
noncomputable def eS0 := entS X [] (pth [3]) P0 S0
theorem ok (p0 : Addr) (s1 : ByteArray) (w : World) (R : Post) (h : ca15 n_enthymemeref04_reader_see #[.pointer (some p0)] w fun t6 w1 => sel (!(t6.toList == s1.toList)) (R (.returned (.bool false)) w1) (sel (!(s1.toList == (ByteArray.mk #[]).toList)) (∃ t14 : Int, w1.cell? (p0.add 1) = some (.i t14) ∧ 
  stV w1 (p0.add 1) (.i (IntKind.wrap .i64 (t14 + 1))) fun w2 => 
  S0  w2 R) (S0  w1 R))) : Calls Tryz.prog n_enthymemeref04_reader_take #[.pointer (some p0), .string s1] w R := callsX X [eS0] h
end enthymemeref04_reader_take
namespace enthymemeref04_reader_need
noncomputable abbrev X : Fx := ⟨Tryz.prog, Tryz.f121, [], []⟩
theorem ok (p0 : Addr) (s1 : ByteArray) (w : World) (R : Post) (h : ca0 n_enthymemeref04_reader_take #[.pointer (some p0), .string s1] w fun t7 w1 => sel (!t7) (stV w1 (p0.add 2) (.bool true) fun w2 => 
  R (.returned (.tuple #[])) w2) (R (.returned (.tuple #[])) w1)) : Calls Tryz.prog n_enthymemeref04_reader_need #[.pointer (some p0), .string s1] w R := callsX X [] h
end enthymemeref04_reader_need
namespace enthymemeref04_group
noncomputable abbrev X : Fx := ⟨Tryz.prog, Tryz.f136, [], [4]⟩
theorem okT (kind0 : Int) (l1 : Sl) (w : World) (R : Post) (h : newV [] w fun b4 w1 => 
  sel (((l1.n : Nat) : Int) == 1) ((0 : Int) ≤ 0 ∧ 0 < ((l1.n : Nat) : Int) ∧ optP l1.a fun t9_p => ld4_0 w1 (t9_p.add (Int.toNat 0 * 4)) fun t10_0 t10_1 t10_2 t10_3 => loc [b4] w1 fun w5 => R (.returned (.agg #[.i t10_0, .int .u8 t10_1, .int .u8 t10_2, t10_3.v])) w5) (loc [b4] w1 fun w9 => R (.returned (.agg #[.i kind0, .int .u8 0, .int .u8 0, l1.v])) w9)) : Calls Tryz.prog n_enthymemeref04_group #[.i kind0, l1.v] w R := callsX X [] h
end enthymemeref04_group
namespace enthymemeref04_reader_begins
noncomputable abbrev X : Fx := ⟨Tryz.prog, Tryz.f182, [], []⟩
theorem ok (p0 : Addr) (w : World) (R : Post) (h : ca15 n_enthymemeref04_reader_see #[.pointer (some p0)] w fun t5 w1 => ∃ t9 : Bool, w1.cell? (p0.add 2) = some (.bool t9) ∧ 
  sel (!t9) (sel (!(t5.toList == (ByteArray.mk #[]).toList)) (sel (!(t5.toList == (ByteArray.mk #[41]).toList)) (sel (!(t5.toList == (ByteArray.mk #[44]).toList)) (sel (!(t5.toList == (ByteArray.mk #[124]).toList)) (R (.returned (.bool (!(t5.toList == (ByteArray.mk #[38]).toList)))) w1) (R (.returned (.bool false)) w1)) (R (.returned (.bool false)) w1)) (R (.returned (.bool false)) w1)) (R (.returned (.bool false)) w1)) (R (.returned (.bool false)) w1)) : Calls Tryz.prog n_enthymemeref04_reader_begins #[.pointer (some p0)] w R := callsX X [] h
end enthymemeref04_reader_begins
namespace enthymemeref04_reader_expr
noncomputable abbrev X : Fx := ⟨Tryz.prog, Tryz.f120, [], [2]⟩
abbrev P0 : Ps := [(0, .v [.r]), (2, .l [.I, .Y, .Y, .s] ty_enthymemeref04_Regex), (3, .v [.s])]
def L0T (p0 : Addr) (t2 : Nat) (t2_0 t2_1 t2_2 : Int) (t2_3 l3 : Sl) (w : World) (R : Post) : Prop := mkCur P0 0 (X.Sem (pth [0, 2, 2])) p0 t2 t2_0 t2_1 t2_2 t2_3 l3 w R
noncomputable def eL0 := entL X (pth [0, 2, 2]) P0 L0T
theorem L0T_step : ∀ (p0 : Addr) (t2 : Nat) (t2_0 t2_1 t2_2 : Int) (t2_3 l3 : Sl) (w : World) (R : Post) (h : cf0 [t2] n_enthymemeref04_reader_take #[.pointer (some p0), .string (ByteArray.mk #[124])] w fun t8 w4 => sel t8 (cf2 [t2] n_enthymemeref04_reader_conj #[.pointer (some p0)] w4 fun t11_0 t11_1 t11_2 t11_3 w5 => nwV w5 (.cells #[.i t11_0, .int .u8 t11_1, .int .u8 t11_2, t11_3.v] ty_enthymemeref04_Regex) fun w6 => 
  ∃ (t13 : Sl) (w7 : World), Sem.run Tryz.prog (Builtin.append_ #[ty_sl_enthymemeref04_Regex, ty_sl_enthymemeref04_Regex] ty_sl_enthymemeref04_Regex #[l3.v, .slice (some (nb w5)) 1 1]) w6 = .ok (t13.v) w7 ∧ kept [t2] w6 w7 ∧ L0T p0 t2 t2_0 t2_1 t2_2 t2_3 t13 w7 R) (cf2 [t2] n_enthymemeref04_group #[.i 4, l3.v] w4 fun t15_0 t15_1 t15_2 t15_3 w8 => loc [t2] w8 fun w12 => R (.returned (.agg #[.i t15_0, .int .u8 t15_1, .int .u8 t15_2, t15_3.v])) w12)), L0T p0 t2 t2_0 t2_1 t2_2 t2_3 l3 w R := mp (stepL (X := X) [eL0] (pth [0, 2, 2]) P0)
theorem okT (p0 : Addr) (w : World) (R : Post) (h : newV [] w fun b2 w1 => 
  cf2 [b2] n_enthymemeref04_reader_conj #[.pointer (some p0)] w1 fun t5_0 t5_1 t5_2 t5_3 w2 => nwV w2 (.cells #[.i t5_0, .int .u8 t5_1, .int .u8 t5_2, t5_3.v] ty_enthymemeref04_Regex) fun w3 => 
  L0T p0 b2 0 0 0 ⟨none, 0, 0⟩ ⟨some (nb w2), 1, 1⟩ w3 R) : Calls Tryz.prog n_enthymemeref04_reader_expr #[.pointer (some p0)] w R := callsX X [eL0] h
end enthymemeref04_reader_expr
namespace enthymemeref04_reader_conj
noncomputable abbrev X : Fx := ⟨Tryz.prog, Tryz.f134, [], [2]⟩
abbrev P0 : Ps := [(0, .v [.r]), (2, .l [.I, .Y, .Y, .s] ty_enthymemeref04_Regex), (3, .v [.s])]
def L0T (p0 : Addr) (t2 : Nat) (t2_0 t2_1 t2_2 : Int) (t2_3 l3 : Sl) (w : World) (R : Post) : Prop := mkCur P0 0 (X.Sem (pth [0, 2, 2])) p0 t2 t2_0 t2_1 t2_2 t2_3 l3 w R
noncomputable def eL0 := entL X (pth [0, 2, 2]) P0 L0T
theorem L0T_step : ∀ (p0 : Addr) (t2 : Nat) (t2_0 t2_1 t2_2 : Int) (t2_3 l3 : Sl) (w : World) (R : Post) (h : cf0 [t2] n_enthymemeref04_reader_take #[.pointer (some p0), .string (ByteArray.mk #[38])] w fun t8 w4 => sel t8 (cf2 [t2] n_enthymemeref04_reader_seq #[.pointer (some p0)] w4 fun t11_0 t11_1 t11_2 t11_3 w5 => nwV w5 (.cells #[.i t11_0, .int .u8 t11_1, .int .u8 t11_2, t11_3.v] ty_enthymemeref04_Regex) fun w6 => 
  ∃ (t13 : Sl) (w7 : World), Sem.run Tryz.prog (Builtin.append_ #[ty_sl_enthymemeref04_Regex, ty_sl_enthymemeref04_Regex] ty_sl_enthymemeref04_Regex #[l3.v, .slice (some (nb w5)) 1 1]) w6 = .ok (t13.v) w7 ∧ kept [t2] w6 w7 ∧ L0T p0 t2 t2_0 t2_1 t2_2 t2_3 t13 w7 R) (cf2 [t2] n_enthymemeref04_group #[.i 5, l3.v] w4 fun t15_0 t15_1 t15_2 t15_3 w8 => loc [t2] w8 fun w12 => R (.returned (.agg #[.i t15_0, .int .u8 t15_1, .int .u8 t15_2, t15_3.v])) w12)), L0T p0 t2 t2_0 t2_1 t2_2 t2_3 l3 w R := mp (stepL (X := X) [eL0] (pth [0, 2, 2]) P0)
theorem okT (p0 : Addr) (w : World) (R : Post) (h : newV [] w fun b2 w1 => 
  cf2 [b2] n_enthymemeref04_reader_seq #[.pointer (some p0)] w1 fun t5_0 t5_1 t5_2 t5_3 w2 => nwV w2 (.cells #[.i t5_0, .int .u8 t5_1, .int .u8 t5_2, t5_3.v] ty_enthymemeref04_Regex) fun w3 => 
  L0T p0 b2 0 0 0 ⟨none, 0, 0⟩ ⟨some (nb w2), 1, 1⟩ w3 R) : Calls Tryz.prog n_enthymemeref04_reader_conj #[.pointer (some p0)] w R := callsX X [eL0] h
end enthymemeref04_reader_conj
namespace enthymemeref04_reader_seq
noncomputable abbrev X : Fx := ⟨Tryz.prog, Tryz.f153, [], [2]⟩
abbrev P0 : Ps := [(0, .v [.r]), (2, .l [.I, .Y, .Y, .s] ty_enthymemeref04_Regex), (3, .v [.s])]
def L0T (p0 : Addr) (t2 : Nat) (t2_0 t2_1 t2_2 : Int) (t2_3 l3 : Sl) (w : World) (R : Post) : Prop := mkCur P0 0 (X.Sem (pth [0, 2, 2])) p0 t2 t2_0 t2_1 t2_2 t2_3 l3 w R
noncomputable def eL0 := entL X (pth [0, 2, 2]) P0 L0T
theorem L0T_step : ∀ (p0 : Addr) (t2 : Nat) (t2_0 t2_1 t2_2 : Int) (t2_3 l3 : Sl) (w : World) (R : Post) (h : cf0 [t2] n_enthymemeref04_reader_begins #[.pointer (some p0)] w fun t8 w4 => sel t8 (cf2 [t2] n_enthymemeref04_reader_item #[.pointer (some p0)] w4 fun t11_0 t11_1 t11_2 t11_3 w5 => nwV w5 (.cells #[.i t11_0, .int .u8 t11_1, .int .u8 t11_2, t11_3.v] ty_enthymemeref04_Regex) fun w6 => 
  ∃ (t13 : Sl) (w7 : World), Sem.run Tryz.prog (Builtin.append_ #[ty_sl_enthymemeref04_Regex, ty_sl_enthymemeref04_Regex] ty_sl_enthymemeref04_Regex #[l3.v, .slice (some (nb w5)) 1 1]) w6 = .ok (t13.v) w7 ∧ kept [t2] w6 w7 ∧ L0T p0 t2 t2_0 t2_1 t2_2 t2_3 t13 w7 R) (cf2 [t2] n_enthymemeref04_group #[.i 3, l3.v] w4 fun t15_0 t15_1 t15_2 t15_3 w8 => loc [t2] w8 fun w12 => R (.returned (.agg #[.i t15_0, .int .u8 t15_1, .int .u8 t15_2, t15_3.v])) w12)), L0T p0 t2 t2_0 t2_1 t2_2 t2_3 l3 w R := mp (stepL (X := X) [eL0] (pth [0, 2, 2]) P0)
theorem okT (p0 : Addr) (w : World) (R : Post) (h : newV [] w fun b2 w1 => 
  cf2 [b2] n_enthymemeref04_reader_item #[.pointer (some p0)] w1 fun t5_0 t5_1 t5_2 t5_3 w2 => nwV w2 (.cells #[.i t5_0, .int .u8 t5_1, .int .u8 t5_2, t5_3.v] ty_enthymemeref04_Regex) fun w3 => 
  L0T p0 b2 0 0 0 ⟨none, 0, 0⟩ ⟨some (nb w2), 1, 1⟩ w3 R) : Calls Tryz.prog n_enthymemeref04_reader_seq #[.pointer (some p0)] w R := callsX X [eL0] h
end enthymemeref04_reader_seq
namespace enthymemeref04_reader_item
noncomputable abbrev X : Fx := ⟨Tryz.prog, Tryz.f181, [], [2, 4]⟩
abbrev P0 : Ps := [(0, .v [.r]), (2, .l [.I, .Y, .Y, .s] ty_enthymemeref04_Regex), (4, .l [.I, .Y, .Y, .s] ty_enthymemeref04_Regex)]
def L0T (p0 : Addr) (t2 : Nat) (t2_0 t2_1 t2_2 : Int) (t2_3 : Sl) (r4 : Nat) (r4_0 r4_1 r4_2 : Int) (r4_3 : Sl) (w : World) (R : Post) : Prop := mkCur P0 0 (X.Sem (pth [0, 2, 4])) p0 t2 t2_0 t2_1 t2_2 t2_3 r4 r4_0 r4_1 r4_2 r4_3 w R
noncomputable def eL0 := entL X (pth [0, 2, 4]) P0 L0T
theorem L0T_step : ∀ (p0 : Addr) (t2 : Nat) (t2_0 t2_1 t2_2 : Int) (t2_3 : Sl) (r4 : Nat) (r4_0 r4_1 r4_2 : Int) (r4_3 : Sl) (w : World) (R : Post) (h : cf0 [t2, r4] n_enthymemeref04_reader_take #[.pointer (some p0), .string (ByteArray.mk #[42])] w fun t15 w15 => sel t15 (nwV w15 (.cells #[.i r4_0, .int .u8 r4_1, .int .u8 r4_2, r4_3.v] ty_enthymemeref04_Regex) fun w16 => 
  loc [t2, r4] w16 fun w20 => L0T p0 t2 t2_0 t2_1 t2_2 t2_3 r4 7 0 0 ⟨some (nb w15), 1, 1⟩ w20 R) (loc [t2, r4] w15 fun w24 => R (.returned (.agg #[.i r4_0, .int .u8 r4_1, .int .u8 r4_2, r4_3.v])) w24)), L0T p0 t2 t2_0 t2_1 t2_2 t2_3 r4 r4_0 r4_1 r4_2 r4_3 w R := mp (stepL (X := X) [eL0] (pth [0, 2, 4]) P0)
theorem okT (p0 : Addr) (w : World) (R : Post) (h : newV [] w fun b2 w1 => 
  cf0 [b2] n_enthymemeref04_reader_take #[.pointer (some p0), .string (ByteArray.mk #[33])] w1 fun t6 w2 => sel t6 (cf2 [b2] n_enthymemeref04_reader_item #[.pointer (some p0)] w2 fun t9_0 t9_1 t9_2 t9_3 w3 => nwV w3 (.cells #[.i t9_0, .int .u8 t9_1, .int .u8 t9_2, t9_3.v] ty_enthymemeref04_Regex) fun w4 => 
  loc [b2] w4 fun w8 => R (.returned (.agg #[.i 6, .int .u8 0, .int .u8 0, .slice (some (nb w3)) 1 1])) w8) (cf2 [b2] n_enthymemeref04_reader_atom #[.pointer (some p0)] w2 fun t13_0 t13_1 t13_2 t13_3 w9 => newV [b2] w9 fun b4 w10 => 
  loc [b2, b4] w10 fun w14 => L0T p0 b2 0 0 0 ⟨none, 0, 0⟩ b4 t13_0 t13_1 t13_2 t13_3 w14 R)) : Calls Tryz.prog n_enthymemeref04_reader_item #[.pointer (some p0)] w R := callsX X [eL0] h
end enthymemeref04_reader_item
namespace enthymemeref04_reader_atom
noncomputable abbrev X : Fx := ⟨Tryz.prog, Tryz.f197, [(1,ls [0,1,2,3,4,5,6,7,8,9,10,11,12,13,14,15,16,17,18,19]), (3,ls [0,1,2,3,4,5,6,7,8,9,10,11,12]), (8,ls [0,1,2,3,5,6,7,8,4,9,10])], [2, 5, 6]⟩
abbrev P0 : Ps := [(0, .v [.r]), (2, .l [.I, .Y, .Y, .s] ty_enthymemeref04_Regex), (3, .v [.s]), (4, .v [.I])]
def L1T (p0 : Addr) (t2 : Nat) (t2_0 t2_1 t2_2 : Int) (t2_3 words3 : Sl) (k4 : Int) (w : World) (R : Post) : Prop := mkCur P0 0 (X.Sem (pth [0, 1, 1, 1, 3])) p0 t2 t2_0 t2_1 t2_2 t2_3 words3 k4 w R
noncomputable def eL1 := entL X (pth [0, 1, 1, 1, 3]) P0 L1T
abbrev S2T (p0 : Addr) (t2 : Nat) (t2_0 t2_1 t2_2 : Int) (t2_3 words3 : Sl) (k4 : Int) (w : World) (R : Post) : Prop :=
  L1T p0 t2 t2_0 t2_1 t2_2 t2_3 words3 (IntKind.wrap .i64 (k4 + 1)) w R
noncomputable def eS2 := entS X [eL1] (pth [2, 2, 1, 1, 3]) P0 S2T
abbrev P1 : Ps := [(2, .l [.I, .Y, .Y, .s] ty_enthymemeref04_Regex), (5, .l [.I, .Y, .Y, .s] ty_enthymemeref04_Regex)]
abbrev S3T (t2 : Nat) (t2_0 t2_1 t2_2 : Int) (t2_3 : Sl) (out5 : Nat) (out5_0 out5_1 out5_2 : Int) (out5_3 : Sl) (w : World) (R : Post) : Prop :=
  loc [t2, out5] w fun w4 => R (.returned (.agg #[.i out5_0, .int .u8 out5_1, .int .u8 out5_2, out5_3.v])) w4
noncomputable def eS3 := entS X [eS2, eL1] (pth [4, 2, 1, 2, 1, 1, 3]) P1 S3T
theorem L1T_step : ∀ (p0 : Addr) (t2 : Nat) (t2_0 t2_1 t2_2 : Int) (t2_3 words3 : Sl) (k4 : Int) (w : World) (R : Post) (h : sel (decide (k4 < 6)) (sel (k4 == 2) (loc [t2] w fun w2 => S2T p0 t2 t2_0 t2_1 t2_2 t2_3 words3 k4 w2 R) ((0 : Int) ≤ k4 ∧ k4 < ((words3.n : Nat) : Int) ∧ optP words3.a fun t58_p => loc [t2] w fun w2 => ∃ t59 : ByteArray, w2.cell? (t58_p.add (Int.toNat k4 * 1)) = some (.string t59) ∧ 
  cf15 [t2] n_enthymemeref04_reader_see #[.pointer (some p0)] w2 fun t55 w3 => w3.cell? (t58_p.add (Int.toNat k4 * 1)) = some (.string t59) ∧ sel (!(t55.toList == t59.toList)) (S2T p0 t2 t2_0 t2_1 t2_2 t2_3 words3 k4 w3 R) (∃ t65 : Int, w3.cell? (p0.add 1) = some (.i t65) ∧ 
  stV w3 (p0.add 1) (.i (IntKind.wrap .i64 (t65 + 1))) fun w4 => kept [t2] w3 w4 ∧ 
  newV [t2] w4 fun b5 w5 => 
  sel (decide (k4 > 2)) (loc [t2, b5] w5 fun w9 => cf3 [t2, b5] n_enthymemeref04_reader_kids #[.pointer (some p0)] w9 fun t74 w10 => loc [t2, b5] w10 fun w11 => S3T t2 t2_0 t2_1 t2_2 t2_3 b5 k4 0 0 t74 w11 R) (loc [t2, b5] w5 fun w9 => S3T t2 t2_0 t2_1 t2_2 t2_3 b5 k4 0 0 ⟨none, 0, 0⟩ w9 R)))) (cf4 [t2] n_enthymemeref04_reader_need #[.pointer (some p0), .string (ByteArray.mk #[40])] w fun w12 => ∃ t82 : Bool, w12.cell? (p0.add 2) = some (.bool t82) ∧ 
  sel t82 (loc [t2] w12 fun w16 => R (.returned (.agg #[.i 0, .int .u8 0, .int .u8 0, .slice none 0 0])) w16) (cf2 [t2] n_enthymemeref04_reader_expr #[.pointer (some p0)] w12 fun t85_0 t85_1 t85_2 t85_3 w17 => newV [t2] w17 fun b6 w18 => 
  loc [t2, b6] w18 fun w22 => cf4 [t2, b6] n_enthymemeref04_reader_need #[.pointer (some p0), .string (ByteArray.mk #[41])] w22 fun w23 => loc [t2, b6] w23 fun w27 => R (.returned (.agg #[.i t85_0, .int .u8 t85_1, .int .u8 t85_2, t85_3.v])) w27))), L1T p0 t2 t2_0 t2_1 t2_2 t2_3 words3 k4 w R := mp (stepL (X := X) [eS3, eS2, eL1] (pth [0, 1, 1, 1, 3]) P0)
abbrev P2 : Ps := [(0, .v [.r]), (2, .l [.I, .Y, .Y, .s] ty_enthymemeref04_Regex)]
abbrev S0T (p0 : Addr) (t2 : Nat) (t2_0 t2_1 t2_2 : Int) (t2_3 : Sl) (w : World) (R : Post) : Prop :=
  nwV w (.cells #[.string (ByteArray.mk #[110, 111, 110, 101]), .string (ByteArray.mk #[101, 109, 112, 116, 121]), .s0, .string (ByteArray.mk #[99, 97, 116]), .string (ByteArray.mk #[97, 108, 116]), .string (ByteArray.mk #[97, 108, 108])] ty_string) fun w1 => 
  L1T p0 t2 t2_0 t2_1 t2_2 t2_3 ⟨some (nb w), 6, 6⟩ 0 w1 R
noncomputable def eS0 := entS X [eS3, eS2, eL1] (pth [2]) P2 S0T
theorem okT (p0 : Addr) (w : World) (R : Post) (h : newV [] w fun b2 w1 => 
  loc [b2] w1 fun w2 => ∃ t10 : Bool, w2.cell? (p0.add 2) = some (.bool t10) ∧ 
  sel (!t10) (∃ t16 : Sl, w2.cell? (p0.add 0) = some (t16.v) ∧ 
  ∃ t20 : Int, w2.cell? (p0.add 1) = some (.i t20) ∧ 
  (0 : Int) ≤ t20 ∧ t20 < ((t16.n : Nat) : Int) ∧ optP t16.a fun t21_p => ∃ t24 : Int, w2.cell? (((t21_p.add (Int.toNat t20 * 6)).add 2).add 0) = some (.i t24) ∧ 
  sel (t24 == 2) (∃ t30 : Int, w2.cell? (p0.add 1) = some (.i t30) ∧ 
  stV w2 (p0.add 1) (.i (IntKind.wrap .i64 (t30 + 1))) fun w3 => kept [b2] w2 w3 ∧ 
  loc [b2] w3 fun w4 => ∃ t37 : Sl, w4.cell? (p0.add 0) = some (t37.v) ∧ 
  ∃ t41 : Int, w4.cell? (p0.add 1) = some (.i t41) ∧ 
  (0 : Int) ≤ (IntKind.wrap .i64 (t41 - 1)) ∧ (IntKind.wrap .i64 (t41 - 1)) < ((t37.n : Nat) : Int) ∧ optP t37.a fun t43_p => ld4_0 w4 ((t43_p.add (Int.toNat (IntKind.wrap .i64 (t41 - 1)) * 6)).add 2) fun t45_0 t45_1 t45_2 t45_3 => loc [b2] w4 fun w8 => R (.returned (.agg #[.i t45_0, .int .u8 t45_1, .int .u8 t45_2, t45_3.v])) w8) (S0T p0 b2 0 0 0 ⟨none, 0, 0⟩ w2 R)) (S0T p0 b2 0 0 0 ⟨none, 0, 0⟩ w2 R)) : Calls Tryz.prog n_enthymemeref04_reader_atom #[.pointer (some p0)] w R := callsX X [eS0, eS3, eS2, eL1] h
end enthymemeref04_reader_atom
namespace enthymemeref04_reader_kids
noncomputable abbrev X : Fx := ⟨Tryz.prog, Tryz.f212, [], []⟩
abbrev P0 : Ps := []
abbrev S0  (w : World) (R : Post) : Prop :=
  R (.returned (.slice none 0 0)) w
noncomputable def eS0 := entS X [] (pth [0, 1, 1, 1, 3]) P0 S0
abbrev P1 : Ps := [(0, .v [.r]), (4, .v [.s])]
def L1 (p0 : Addr) (out4 : Sl) (w : World) (R : Post) : Prop := mkCur P1 0 (X.Sem (pth [0, 2, 5])) p0 out4 w R
noncomputable def eL1 := entL X (pth [0, 2, 5]) P1 L1
theorem L1_step : ∀ (p0 : Addr) (out4 : Sl) (w : World) (R : Post) (h : ca0 n_enthymemeref04_reader_take #[.pointer (some p0), .string (ByteArray.mk #[44])] w fun t20 w5 => sel t20 (ca2 n_enthymemeref04_reader_expr #[.pointer (some p0)] w5 fun t23_0 t23_1 t23_2 t23_3 w6 => nwV w6 (.cells #[.i t23_0, .int .u8 t23_1, .int .u8 t23_2, t23_3.v] ty_enthymemeref04_Regex) fun w7 => 
  ∃ (t25 : Sl) (w8 : World), Sem.run Tryz.prog (Builtin.append_ #[ty_sl_enthymemeref04_Regex, ty_sl_enthymemeref04_Regex] ty_sl_enthymemeref04_Regex #[out4.v, .slice (some (nb w6)) 1 1]) w7 = .ok (t25.v) w8 ∧ L1 p0 t25 w8 R) (ca4 n_enthymemeref04_reader_need #[.pointer (some p0), .string (ByteArray.mk #[41])] w5 fun w9 => R (.returned (out4.v)) w9)), L1 p0 out4 w R := mp (stepL (X := X) [eL1, eS0] (pth [0, 2, 5]) P1)
theorem ok (p0 : Addr) (w : World) (R : Post) (h : ca4 n_enthymemeref04_reader_need #[.pointer (some p0), .string (ByteArray.mk #[40])] w fun w1 => ca0 n_enthymemeref04_reader_take #[.pointer (some p0), .string (ByteArray.mk #[41])] w1 fun t8 w2 => ∃ t12 : Bool, w2.cell? (p0.add 2) = some (.bool t12) ∧ 
  sel t12 (S0  w2 R) (sel t8 (S0  w2 R) (ca2 n_enthymemeref04_reader_expr #[.pointer (some p0)] w2 fun t17_0 t17_1 t17_2 t17_3 w3 => nwV w3 (.cells #[.i t17_0, .int .u8 t17_1, .int .u8 t17_2, t17_3.v] ty_enthymemeref04_Regex) fun w4 => 
  L1 p0 ⟨some (nb w3), 1, 1⟩ w4 R))) : Calls Tryz.prog n_enthymemeref04_reader_kids #[.pointer (some p0)] w R := callsX X [eL1, eS0] h
end enthymemeref04_reader_kids
namespace enthymemeref04_Parse
noncomputable abbrev X : Fx := ⟨Tryz.prog, Tryz.f89, [(7,ls [0,1,2,3,4,5,6,7,8,9,10,11,12,13,14])], [2, 6]⟩
theorem okT (s0 : ByteArray) (w : World) (R : Post) (h : newV [] w fun b2 w1 => 
  sel (decide (((s0.size : Nat) : Int) > 4096)) (loc [b2] w1 fun w5 => R (.returned (.tuple #[.agg #[.i 0, .int .u8 0, .int .u8 0, .slice none 0 0], .i 4096, .i 4])) w5) (cf3 [b2] n_enthymemeref04_Tokens #[.string s0] w1 fun t12 w6 => nwV w6 (.cells #[t12.v, .i 0, .bool false] ty_enthymemeref04_reader) fun w7 => 
  cf2 [b2] n_enthymemeref04_reader_expr #[.pointer (some (nb w6))] w7 fun t16_0 t16_1 t16_2 t16_3 w8 => newV [b2] w8 fun b6 w9 => 
  loc [b2, b6] w9 fun w13 => cf4 [b2, b6] n_enthymemeref04_reader_need #[.pointer (some (nb w6)), .s0] w13 fun w14 => ∃ t22 : Bool, w14.cell? ((nb w6).add 2) = some (.bool t22) ∧ 
  sel t22 (loc [b2, b6] w14 fun w15 => ∃ t27 : Sl, w15.cell? ((nb w6).add 0) = some (t27.v) ∧ 
  ∃ t31 : Int, w15.cell? ((nb w6).add 1) = some (.i t31) ∧ 
  (0 : Int) ≤ t31 ∧ t31 < ((t27.n : Nat) : Int) ∧ optP t27.a fun t32_p => ∃ t34 : Int, w15.cell? ((t32_p.add (Int.toNat t31 * 6)).add 1) = some (.i t34) ∧ 
  loc [b2, b6] w15 fun w19 => w19.cell? ((t32_p.add (Int.toNat t31 * 6)).add 1) = some (.i t34) ∧ w19.cell? ((nb w6).add 1) = some (.i t31) ∧ w19.cell? ((nb w6).add 0) = some (t27.v) ∧ R (.returned (.tuple #[.agg #[.i 0, .int .u8 0, .int .u8 0, .slice none 0 0], .i t34, .i 2])) w19) (cf1 [b2, b6] n_enthymemeref04_Nodes #[.agg #[.i t16_0, .int .u8 t16_1, .int .u8 t16_2, t16_3.v]] w14 fun t36 w20 => sel (decide (t36 > 64)) (loc [b2, b6] w20 fun w24 => R (.returned (.tuple #[.agg #[.i 0, .int .u8 0, .int .u8 0, .slice none 0 0], .i ((s0.size : Nat) : Int), .i 4])) w24) (loc [b2, b6] w20 fun w28 => R (.returned (.tuple #[.agg #[.i t16_0, .int .u8 t16_1, .int .u8 t16_2, t16_3.v], .i 0, .i 0])) w28)))) : Calls Tryz.prog n_enthymemeref04_Parse #[.string s0] w R := callsX X [] h
end enthymemeref04_Parse
end Go.Proofs.YtcifihepfadgfaaGreatDoor
set_option linter.unusedVariables false
set_option maxRecDepth 100000
set_option maxHeartbeats 2000000
namespace Go.Proofs.YtcifihepfadgfaaGreatDoor
open Go Go.W
namespace enthymemeref04_Byte
noncomputable abbrev X : Fx := ⟨Tryz.prog, Tryz.f126, [], []⟩
theorem ok (c0 : Int) (w : World) (R : Post) (h : ca0 n_enthymemeref04_plain #[.int .u8 c0] w fun t4 w1 => sel t4 (nwV w1 (.cells #[.int .u8 39, .int .u8 c0, .int .u8 39] ty_uint8) fun w2 => 
  ∃ t7 : ByteArray, Sem.run Tryz.prog (Go.convert ty_sl_uint8 ty_string (.slice (some (nb w1)) 3 3)) w2 = .ok (.string t7) w2 ∧ R (.returned (.string t7)) w2) (ca13 n_enthymemeref04_digit #[.i (IntKind.wrap .i64 (Int.tdiv (IntKind.wrap .i64 c0) 16))] w1 fun t11 w3 => ca13 n_enthymemeref04_digit #[.i (Int.tmod (IntKind.wrap .i64 c0) 16)] w3 fun t15 w4 => nwV w4 (.cells #[.int .u8 92, .int .u8 120, .int .u8 t11, .int .u8 t15] ty_uint8) fun w5 => 
  ∃ t17 : ByteArray, Sem.run Tryz.prog (Go.convert ty_sl_uint8 ty_string (.slice (some (nb w4)) 4 4)) w5 = .ok (.string t17) w5 ∧ R (.returned (.string t17)) w5)) : Calls Tryz.prog n_enthymemeref04_Byte #[.int .u8 c0] w R := callsX X [] h
end enthymemeref04_Byte
namespace enthymemeref04_binds
noncomputable abbrev X : Fx := ⟨Tryz.prog, Tryz.f125, [], [1]⟩
abbrev P0 : Ps := []
abbrev S0T  (w : World) (R : Post) : Prop :=
  R (.returned (.i 4)) w
noncomputable def eS0 := entS X [] (pth [0, 1, 1, 1, 2]) P0 S0T
theorem okT (r0_0 r0_1 r0_2 : Int) (r0_3 : Sl) (w : World) (R : Post) (h : newV [] w fun b1 w1 => 
  sel (r0_0 == 6) (R (.returned (.i 3)) w1) (sel (decide (r0_0 < 3)) (S0T  w1 R) (sel (r0_0 == 7) (S0T  w1 R) (sel (decide (((r0_3.n : Nat) : Int) < 2)) (S0T  w1 R) (nwV w1 (.cells #[.i 2, .i 0, .i 1] ty_int) fun w2 => 
  (0 : Int) ≤ (IntKind.wrap .i64 (r0_0 - 3)) ∧ (IntKind.wrap .i64 (r0_0 - 3)) < ((3 : Nat) : Int) ∧ optP (some (nb w1)) fun t24_p => ∃ t25 : Int, w2.cell? (t24_p.add (Int.toNat (IntKind.wrap .i64 (r0_0 - 3)) * 1)) = some (.i t25) ∧ 
  R (.returned (.i t25)) w2))))) : Calls Tryz.prog n_enthymemeref04_binds #[.agg #[.i r0_0, .int .u8 r0_1, .int .u8 r0_2, r0_3.v]] w R := callsX X [eS0] h
end enthymemeref04_binds
namespace enthymemeref04_low
noncomputable abbrev X : Fx := ⟨Tryz.prog, Tryz.f127, [], []⟩
theorem ok (c0 : Int) (w : World) (R : Post) (h : sel (decide (c0 ≥ 97)) (R (.returned (.bool (decide (c0 ≤ 122)))) w) (R (.returned (.bool false)) w)) : Calls Tryz.prog n_enthymemeref04_low #[.int .u8 c0] w R := callsX X [] h
end enthymemeref04_low
namespace enthymemeref04_Write
noncomputable abbrev X : Fx := ⟨Tryz.prog, Tryz.f91, [(11,ls [0,1,5,6,2,3,4,7,8,9,10])], [2]⟩
abbrev P0 : Ps := [(2, .l [.I, .Y, .Y, .s] ty_enthymemeref04_Regex), (5, .v [.st])]
abbrev S0T (r2 : Nat) (r2_0 r2_1 r2_2 : Int) (r2_3 : Sl) (out5 : ByteArray) (w : World) (R : Post) : Prop :=
  nwV w (.cells #[.string (ByteArray.mk #[99, 97, 116, 40]), .string (ByteArray.mk #[97, 108, 116, 40]), .string (ByteArray.mk #[97, 108, 108, 40])] ty_string) fun w1 => 
  (0 : Int) ≤ (IntKind.wrap .i64 (r2_0 - 3)) ∧ (IntKind.wrap .i64 (r2_0 - 3)) < ((3 : Nat) : Int) ∧ optP (some (nb w)) fun t78_p => ∃ t79 : ByteArray, w1.cell? (t78_p.add (Int.toNat (IntKind.wrap .i64 (r2_0 - 3)) * 1)) = some (.string t79) ∧ 
  ¬ (((t79.size + out5.size : Nat) : Int) > IntKind.i64.max) ∧ ¬ ((((t79 ++ out5).size + (ByteArray.mk #[41]).size : Nat) : Int) > IntKind.i64.max) ∧ R (.returned (.string ((t79 ++ out5) ++ (ByteArray.mk #[41])))) w1
noncomputable def eS0 := entS X [] (pth [2, 1, 1, 1, 3]) P0 S0T
abbrev P1 : Ps := [(2, .l [.I, .Y, .Y, .s] ty_enthymemeref04_Regex), (6, .v [.st]), (7, .v [.I]), (8, .v [.st]), (9, .v [.I])]
def L1T (r2 : Nat) (r2_0 r2_1 r2_2 : Int) (r2_3 : Sl) (sign6 : ByteArray) (own7 : Int) (out8 : ByteArray) (i9 : Int) (w : World) (R : Post) : Prop := mkCur P1 0 (X.Sem (pth [0, 1, 1, 1, 7])) r2 r2_0 r2_1 r2_2 r2_3 sign6 own7 out8 i9 w R
noncomputable def eL1 := entL X (pth [0, 1, 1, 1, 7]) P1 L1T
abbrev S3T (r2 : Nat) (r2_0 r2_1 r2_2 : Int) (r2_3 : Sl) (sign6 : ByteArray) (own7 : Int) (out8 : ByteArray) (i9 : Int) (w : World) (R : Post) : Prop :=
  L1T r2 r2_0 r2_1 r2_2 r2_3 sign6 own7 out8 (IntKind.wrap .i64 (i9 + 1)) w R
noncomputable def eS3 := entS X [eL1, eS0] (pth [2, 2, 1, 1, 7]) P1 S3T
abbrev P2 : Ps := [(2, .l [.I, .Y, .Y, .s] ty_enthymemeref04_Regex), (6, .v [.st]), (7, .v [.I]), (8, .v [.st]), (9, .v [.I]), (10, .v [.st])]
abbrev S2T (r2 : Nat) (r2_0 r2_1 r2_2 : Int) (r2_3 : Sl) (sign6 : ByteArray) (own7 : Int) (out8 : ByteArray) (i9 : Int) (next10 : ByteArray) (w : World) (R : Post) : Prop :=
  ¬ (((out8.size + sign6.size : Nat) : Int) > IntKind.i64.max) ∧ ¬ ((((out8 ++ sign6).size + next10.size : Nat) : Int) > IntKind.i64.max) ∧ S3T r2 r2_0 r2_1 r2_2 r2_3 sign6 own7 ((out8 ++ sign6) ++ next10) i9 w R
noncomputable def eS2 := entS X [eS3, eL1, eS0] (pth [2, 2, 1, 2, 1, 1, 7]) P2 S2T
theorem L1T_step : ∀ (r2 : Nat) (r2_0 r2_1 r2_2 : Int) (r2_3 : Sl) (sign6 : ByteArray) (own7 : Int) (out8 : ByteArray) (i9 : Int) (w : World) (R : Post) (h : sel (decide (i9 < ((r2_3.n : Nat) : Int))) ((0 : Int) ≤ i9 ∧ i9 < ((r2_3.n : Nat) : Int) ∧ optP r2_3.a fun t108_p => ld4_0 w (t108_p.add (Int.toNat i9 * 4)) fun t109_0 t109_1 t109_2 t109_3 => cf15 [r2] n_enthymemeref04_Write #[.agg #[.i t109_0, .int .u8 t109_1, .int .u8 t109_2, t109_3.v], .i (IntKind.wrap .i64 (own7 + 1))] w fun t112 w14 => sel (r2_0 == 3) ((0 : Int) ≤ (IntKind.wrap .i64 (((out8.size : Nat) : Int) - 1)) ∧ ∃ t121_b : UInt8, out8[Int.toNat (IntKind.wrap .i64 (((out8.size : Nat) : Int) - 1))]? = some t121_b ∧ cf0 [r2] n_enthymemeref04_low #[.int .u8 ((t121_b.toNat : Nat) : Int)] w14 fun t122 w15 => sel t122 ((0 : Int) ≤ 0 ∧ ∃ t126_b : UInt8, t112[Int.toNat 0]? = some t126_b ∧ cf0 [r2] n_enthymemeref04_low #[.int .u8 ((t126_b.toNat : Nat) : Int)] w15 fun t127 w16 => sel t127 (¬ (((out8.size + (ByteArray.mk #[32]).size : Nat) : Int) > IntKind.i64.max) ∧ S2T r2 r2_0 r2_1 r2_2 r2_3 sign6 own7 (out8 ++ (ByteArray.mk #[32])) i9 t112 w16 R) (S2T r2 r2_0 r2_1 r2_2 r2_3 sign6 own7 out8 i9 t112 w16 R)) (S2T r2 r2_0 r2_1 r2_2 r2_3 sign6 own7 out8 i9 t112 w15 R)) (S2T r2 r2_0 r2_1 r2_2 r2_3 sign6 own7 out8 i9 t112 w14 R)) (R (.returned (.string out8)) w)), L1T r2 r2_0 r2_1 r2_2 r2_3 sign6 own7 out8 i9 w R := mp (stepL (X := X) [eS2, eS3, eL1, eS0] (pth [0, 1, 1, 1, 7]) P1)
theorem okT (r0_0 r0_1 r0_2 : Int) (r0_3 : Sl) (level1 : Int) (w : World) (R : Post) (h : newV [] w fun b2 w1 => 
  cf1 [b2] n_enthymemeref04_binds #[.agg #[.i r0_0, .int .u8 r0_1, .int .u8 r0_2, r0_3.v]] w1 fun t12 w2 => sel (decide (t12 < level1)) (cf15 [b2] n_enthymemeref04_Write #[.agg #[.i r0_0, .int .u8 r0_1, .int .u8 r0_2, r0_3.v], .i 0] w2 fun t16 w3 => ¬ ((((ByteArray.mk #[40]).size + t16.size : Nat) : Int) > IntKind.i64.max) ∧ ¬ (((((ByteArray.mk #[40]) ++ t16).size + (ByteArray.mk #[41]).size : Nat) : Int) > IntKind.i64.max) ∧ R (.returned (.string (((ByteArray.mk #[40]) ++ t16) ++ (ByteArray.mk #[41])))) w3) (sel (r0_0 == 0) (R (.returned (.string (ByteArray.mk #[110, 111, 110, 101]))) w2) (sel (r0_0 == 1) (R (.returned (.string (ByteArray.mk #[101, 109, 112, 116, 121]))) w2) (sel (r0_0 == 2) (sel (r0_1 == r0_2) (cf15 [b2] n_enthymemeref04_Byte #[.int .u8 r0_1] w2 fun t34 w4 => R (.returned (.string t34)) w4) (loc [b2] w2 fun w5 => cf15 [b2] n_enthymemeref04_Byte #[.int .u8 r0_1] w5 fun t37 w6 => ¬ ((((ByteArray.mk #[91]).size + t37.size : Nat) : Int) > IntKind.i64.max) ∧ ¬ (((((ByteArray.mk #[91]) ++ t37).size + (ByteArray.mk #[45]).size : Nat) : Int) > IntKind.i64.max) ∧ cf15 [b2] n_enthymemeref04_Byte #[.int .u8 r0_2] w6 fun t42 w7 => ¬ ((((((ByteArray.mk #[91]) ++ t37) ++ (ByteArray.mk #[45])).size + t42.size : Nat) : Int) > IntKind.i64.max) ∧ ¬ (((((((ByteArray.mk #[91]) ++ t37) ++ (ByteArray.mk #[45])) ++ t42).size + (ByteArray.mk #[93]).size : Nat) : Int) > IntKind.i64.max) ∧ R (.returned (.string (((((ByteArray.mk #[91]) ++ t37) ++ (ByteArray.mk #[45])) ++ t42) ++ (ByteArray.mk #[93])))) w7)) (sel (r0_0 == 6) ((0 : Int) ≤ 0 ∧ 0 < ((r0_3.n : Nat) : Int) ∧ optP r0_3.a fun t49_p => ld4_0 w2 (t49_p.add (Int.toNat 0 * 4)) fun t50_0 t50_1 t50_2 t50_3 => cf15 [b2] n_enthymemeref04_Write #[.agg #[.i t50_0, .int .u8 t50_1, .int .u8 t50_2, t50_3.v], .i 3] w2 fun t51 w8 => ¬ ((((ByteArray.mk #[33]).size + t51.size : Nat) : Int) > IntKind.i64.max) ∧ R (.returned (.string ((ByteArray.mk #[33]) ++ t51))) w8) (sel (r0_0 == 7) ((0 : Int) ≤ 0 ∧ 0 < ((r0_3.n : Nat) : Int) ∧ optP r0_3.a fun t57_p => ld4_0 w2 (t57_p.add (Int.toNat 0 * 4)) fun t58_0 t58_1 t58_2 t58_3 => cf15 [b2] n_enthymemeref04_Write #[.agg #[.i t58_0, .int .u8 t58_1, .int .u8 t58_2, t58_3.v], .i 4] w2 fun t59 w9 => ¬ (((t59.size + (ByteArray.mk #[42]).size : Nat) : Int) > IntKind.i64.max) ∧ R (.returned (.string (t59 ++ (ByteArray.mk #[42])))) w9) (sel (decide (((r0_3.n : Nat) : Int) < 2)) (sel (((r0_3.n : Nat) : Int) == 1) ((0 : Int) ≤ 0 ∧ 0 < ((r0_3.n : Nat) : Int) ∧ optP r0_3.a fun t71_p => ld4_0 w2 (t71_p.add (Int.toNat 0 * 4)) fun t72_0 t72_1 t72_2 t72_3 => cf15 [b2] n_enthymemeref04_Write #[.agg #[.i t72_0, .int .u8 t72_1, .int .u8 t72_2, t72_3.v], .i 0] w2 fun t73 w10 => S0T b2 r0_0 r0_1 r0_2 r0_3 t73 w10 R) (S0T b2 r0_0 r0_1 r0_2 r0_3 (ByteArray.mk #[]) w2 R)) (nwV w2 (.cells #[.s0, .string (ByteArray.mk #[124]), .string (ByteArray.mk #[38])] ty_string) fun w11 => 
  (0 : Int) ≤ (IntKind.wrap .i64 (r0_0 - 3)) ∧ (IntKind.wrap .i64 (r0_0 - 3)) < ((3 : Nat) : Int) ∧ optP (some (nb w2)) fun t87_p => ∃ t88 : ByteArray, w11.cell? (t87_p.add (Int.toNat (IntKind.wrap .i64 (r0_0 - 3)) * 1)) = some (.string t88) ∧ 
  cf1 [b2] n_enthymemeref04_binds #[.agg #[.i r0_0, .int .u8 r0_1, .int .u8 r0_2, r0_3.v]] w11 fun t90 w12 => (0 : Int) ≤ 0 ∧ 0 < ((r0_3.n : Nat) : Int) ∧ optP r0_3.a fun t93_p => ld4_0 w12 (t93_p.add (Int.toNat 0 * 4)) fun t94_0 t94_1 t94_2 t94_3 => cf15 [b2] n_enthymemeref04_Write #[.agg #[.i t94_0, .int .u8 t94_1, .int .u8 t94_2, t94_3.v], .i (IntKind.wrap .i64 (t90 + 1))] w12 fun t97 w13 => L1T b2 r0_0 r0_1 r0_2 r0_3 t88 t90 t97 1 w13 R)))))))) : Calls Tryz.prog n_enthymemeref04_Write #[.agg #[.i r0_0, .int .u8 r0_1, .int .u8 r0_2, r0_3.v], .i level1] w R := callsX X [eS2, eS3, eL1, eS0] h
end enthymemeref04_Write
namespace enthymemeref04_Text
noncomputable def C0 : Code := (Tryz.f76.body).getD .skip
noncomputable def C1:=C0.sn
noncomputable def C2:=C1.sn
noncomputable def C3:=C2.sn
noncomputable def C4:=C3.sn
noncomputable def C5:=C4.sn
noncomputable def C6:=C5.sn
noncomputable def C7:=C6.sn
/-- enthymeme/enthymemeref04.Text -/
noncomputable def C8:=C7.sn
theorem ok (n0 : Int) (w : World) (R : Post) (h : ca1 n_enthymemeref01_Around #[.i n0, .i 1048576] w fun t11 w1 => ca2 n_enthymemeref04_Everything #[] w1 fun t17_0 t17_1 t17_2 t17_3 w2 => nwV w2 (.cells #[.i 2, .int .u8 97, .int .u8 97, .slice none 0 0, .i 2, .int .u8 98, .int .u8 98, .slice none 0 0, .i 2, .int .u8 0, .int .u8 0, .slice none 0 0, .i 2, .int .u8 97, .int .u8 98, .slice none 0 0, .i 1, .int .u8 0, .int .u8 0, .slice none 0 0, .i t17_0, .int .u8 t17_1, .int .u8 t17_2, t17_3.v] ty_enthymemeref04_Regex) fun w3 => 
  (0 : Int) ≤ (Int.tmod t11 6) ∧ (Int.tmod t11 6) < ((6 : Nat) : Int) ∧ optP (some (nb w2)) fun t22_p => ld4_0 w3 (t22_p.add (Int.toNat (Int.tmod t11 6) * 4)) fun t23_0 t23_1 t23_2 t23_3 => nwV w3 (.cells #[.i 0, .int .u8 0, .int .u8 0, .slice none 0 0] ty_enthymemeref04_Regex) fun w4 => 
  stW4 w4 (nb w3) (.i t23_0) (.int .u8 t23_1) (.int .u8 t23_2) (t23_3.v) fun w8 => (0 : Int) ≤ (Int.tmod (IntKind.wrap .i64 (Int.tdiv t11 6)) 6) ∧ (Int.tmod (IntKind.wrap .i64 (Int.tdiv t11 6)) 6) < ((6 : Nat) : Int) ∧ optP (some (nb w2)) fun t28_p => ld4_0 w8 (t28_p.add (Int.toNat (Int.tmod (IntKind.wrap .i64 (Int.tdiv t11 6)) 6) * 4)) fun t29_0 t29_1 t29_2 t29_3 => nwV w8 (.cells #[.i 0, .int .u8 0, .int .u8 0, .slice none 0 0] ty_enthymemeref04_Regex) fun w9 => 
  stW4 w9 (nb w8) (.i t29_0) (.int .u8 t29_1) (.int .u8 t29_2) (t29_3.v) fun w13 => (0 : Int) ≤ (Int.tmod (IntKind.wrap .i64 (Int.tdiv t11 36)) 6) ∧ (Int.tmod (IntKind.wrap .i64 (Int.tdiv t11 36)) 6) < ((6 : Nat) : Int) ∧ optP (some (nb w2)) fun t34_p => ld4_0 w13 (t34_p.add (Int.toNat (Int.tmod (IntKind.wrap .i64 (Int.tdiv t11 36)) 6) * 4)) fun t35_0 t35_1 t35_2 t35_3 => nwV w13 (.cells #[.i 0, .int .u8 0, .int .u8 0, .slice none 0 0] ty_enthymemeref04_Regex) fun w14 => 
  stW4 w14 (nb w13) (.i t35_0) (.int .u8 t35_1) (.int .u8 t35_2) (t35_3.v) fun w18 => ld4_0 w18 (nb w3) fun t36_0 t36_1 t36_2 t36_3 => nwV w18 (.cells #[.i t36_0, .int .u8 t36_1, .int .u8 t36_2, t36_3.v] ty_enthymemeref04_Regex) fun w19 => 
  nwV w19 (.cells #[.i 0, .int .u8 0, .int .u8 0, .slice none 0 0] ty_enthymemeref04_Regex) fun w20 => 
  stW4 w20 (nb w19) (.i 7) (.int .u8 0) (.int .u8 0) (.slice (some (nb w18)) 1 1) fun w24 => siK Tryz.prog C7 (fun E w => False) [(8, .pointer (some (nb w19))), (38, .agg #[.i 7, .int .u8 0, .int .u8 0, .slice (some (nb w18)) 1 1]), (37, .slice (some (nb w18)) 1 1), (36, .agg #[.i t36_0, .int .u8 t36_1, .int .u8 t36_2, t36_3.v]), (7, .pointer (some (nb w13))), (35, .agg #[.i t35_0, .int .u8 t35_1, .int .u8 t35_2, t35_3.v]), (34, .pointer (some (t34_p.add (Int.toNat (Int.tmod (IntKind.wrap .i64 (Int.tdiv t11 36)) 6) * 4)))), (33, .i (Int.tmod (IntKind.wrap .i64 (Int.tdiv t11 36)) 6)), (32, .i (IntKind.wrap .i64 (Int.tdiv t11 36))), (31, .i t11), (30, .slice (some (nb w2)) 6 6), (6, .pointer (some (nb w8))), (29, .agg #[.i t29_0, .int .u8 t29_1, .int .u8 t29_2, t29_3.v]), (28, .pointer (some (t28_p.add (Int.toNat (Int.tmod (IntKind.wrap .i64 (Int.tdiv t11 6)) 6) * 4)))), (27, .i (Int.tmod (IntKind.wrap .i64 (Int.tdiv t11 6)) 6)), (26, .i (IntKind.wrap .i64 (Int.tdiv t11 6))), (25, .i t11), (24, .slice (some (nb w2)) 6 6), (5, .pointer (some (nb w3))), (23, .agg #[.i t23_0, .int .u8 t23_1, .int .u8 t23_2, t23_3.v]), (22, .pointer (some (t22_p.add (Int.toNat (Int.tmod t11 6) * 4)))), (21, .i (Int.tmod t11 6)), (20, .i t11), (19, .slice (some (nb w2)) 6 6), (4, .slice (some (nb w2)) 6 6), (18, .slice (some (nb w2)) 6 6), (17, .agg #[.i t17_0, .int .u8 t17_1, .int .u8 t17_2, t17_3.v]), (16, .agg #[.i 1, .int .u8 0, .int .u8 0, .slice none 0 0]), (15, .agg #[.i 2, .int .u8 97, .int .u8 98, .slice none 0 0]), (14, .agg #[.i 2, .int .u8 0, .int .u8 0, .slice none 0 0]), (13, .agg #[.i 2, .int .u8 98, .int .u8 98, .slice none 0 0]), (12, .agg #[.i 2, .int .u8 97, .int .u8 97, .slice none 0 0]), (3, .i t11), (11, .i t11), (10, .i n0), (2, .s0), (0, .i n0)] w24) : Calls Tryz.prog n_enthymemeref04_Text #[.i n0] w R :=
  calls_of_WP' (R := R) (fn := Tryz.f76) (c := C0) (args := [.i n0]) (by kernel_rfl) (by kernel_rfl) (by kernel_rfl) (sr C0 (show (fun (E : Env) (w : World) => srK Tryz.prog C0 (fun E w => srK Tryz.prog C1 (fun E w => srK Tryz.prog C2 (fun E w => srK Tryz.prog C3 (fun E w => srK Tryz.prog C4 (fun E w => srK Tryz.prog C5 (fun E w => srK Tryz.prog C6 (fun E w => siK Tryz.prog C7 (fun E w => False) E w) E w) E w) E w) E w) E w) E w) E w) (envOf 0 [.i n0]) w from mp h) fun _ _ hK => (sr C1 hK fun _ _ hK => (sr C2 hK fun _ _ hK => (sr C3 hK fun _ _ hK => (sr C4 hK fun _ _ hK => (sr C5 hK fun _ _ hK => (sr C6 hK fun _ _ hK => (si C7 (by kernel_rfl) hK fun _ _ hK => (False.elim hK)))))))))
end enthymemeref04_Text
end Go.Proofs.YtcifihepfadgfaaGreatDoor
set_option linter.unusedVariables false
set_option maxRecDepth 100000
set_option maxHeartbeats 2000000
namespace Go.Proofs.YtcifihepfadgfaaGreatDoor
open Go Go.W
namespace enthymemeref04_Canonical
noncomputable abbrev X : Fx := ⟨Tryz.prog, Tryz.f48, [], [3, 6]⟩
theorem okT (s0 : ByteArray) (w : World) (R : Post) (h : ca16 n_enthymemeref04_Parse #[.string s0] w fun t10_0_0 t10_0_1 t10_0_2 t10_0_3 t10_1 t10_2 w1 => newV [] w1 fun b3 w2 => 
  sel (t10_2 != 0) (loc [b3] w2 fun w6 => R (.returned (.bool false)) w6) (loc [b3] w2 fun w6 => cf11 [b3] n_enthymemeref04_Normal #[.agg #[.i t10_0_0, .int .u8 t10_0_1, .int .u8 t10_0_2, t10_0_3.v]] w6 fun t18_0_0 t18_0_1 t18_0_2 t18_0_3 t18_1 w7 => newV [b3] w7 fun b6 w8 => 
  sel (t18_1 == 0) (loc [b3, b6] w8 fun w12 => cf15 [b3, b6] n_enthymemeref04_Write #[.agg #[.i t18_0_0, .int .u8 t18_0_1, .int .u8 t18_0_2, t18_0_3.v], .i 0] w12 fun t25 w13 => R (.returned (.bool (t25.toList == s0.toList))) w13) (loc [b3, b6] w8 fun w12 => R (.returned (.bool false)) w12))) : Calls Tryz.prog n_enthymemeref04_Canonical #[.string s0] w R := callsX X [] h
end enthymemeref04_Canonical
end Go.Proofs.YtcifihepfadgfaaGreatDoor
