/- Printed by a program of ours (vcgen.py) from the dump: the conditions of the functions, and that they suffice. -/
import Derived.Test.YtknlbofiicflgaaGreatU
import Derived.Test.YtknlbofiicflgaaGreatProg
import Derived.KernelRfl
set_option linter.unusedVariables false
set_option maxRecDepth 100000
set_option maxHeartbeats 2000000
namespace Go.Proofs.YtknlbofiicflgaaGreat
open Go Go.W
theorem mp {a b : Prop} (h : a) (e : a = b := by kernel_rfl) : b := e ▸ h
abbrev ExP := Exit → Act → World → Prop
abbrev KOk (P : Program) (n : Nat) (K : Env → World → Post → Prop) (c : Code) (Q : Post → ExP) : Prop := ∀ (R : Post) (E : Env) (w : World), K E w R → WP P (cx n) c (Q R) E w
abbrev LOk (P : Program) (n : Nat) (K : Env → World → Post → Prop) (c : Code) (Q : Post → ExP) : Prop := ∀ (R : Post) (E : Env) (w : World), K E w R → LP P (cx n) c (Q R) E w
abbrev ld4_0 (w : World) (p : Addr) (K : Int → Int → Int → Sl → Prop) : Prop := ∃ a0 : Int, ∃ a1 : Int, ∃ a2 : Int, ∃ a3 : Sl, w.cell? (p.add 0) = some (.i a0) ∧ w.cell? (p.add 1) = some (.int .u8 a1) ∧ w.cell? (p.add 2) = some (.int .u8 a2) ∧ w.cell? (p.add 3) = some (a3.v) ∧ K a0 a1 a2 a3
abbrev ld5_1 (w : World) (p : Addr) (K : Int → Int → Int → ByteArray → Int → Prop) : Prop := ∃ a0 : Int, ∃ a1 : Int, ∃ a2 : Int, ∃ a3 : ByteArray, ∃ a4 : Int, w.cell? (p.add 0) = some (.int .u8 a0) ∧ w.cell? (p.add 1) = some (.int .u8 a1) ∧ w.cell? (p.add 2) = some (.int .u8 a2) ∧ w.cell? (p.add 3) = some (.string a3) ∧ w.cell? (p.add 4) = some (.i a4) ∧ K a0 a1 a2 a3 a4
abbrev ca0 (f : FuncId) (xs : Array Value) (w : World) (K : Int → World → Prop) : Prop := Calls Tryz.prog f xs w fun r_ w1 => ∃ a0 : Int, r_ = .returned (.i a0) ∧ K a0 w1
abbrev cf0 (bs : List Nat) (f : FuncId) (xs : Array Value) (w : World) (K : Int → World → Prop) : Prop := callF bs Tryz.prog f xs w fun r_ w1 => ∃ a0 : Int, r_ = .returned (.i a0) ∧ K a0 w1
abbrev ca1 (f : FuncId) (xs : Array Value) (w : World) (K : Bool → World → Prop) : Prop := Calls Tryz.prog f xs w fun r_ w1 => ∃ a0 : Bool, r_ = .returned (.bool a0) ∧ K a0 w1
abbrev cf1 (bs : List Nat) (f : FuncId) (xs : Array Value) (w : World) (K : Bool → World → Prop) : Prop := callF bs Tryz.prog f xs w fun r_ w1 => ∃ a0 : Bool, r_ = .returned (.bool a0) ∧ K a0 w1
abbrev ca2 (f : FuncId) (xs : Array Value) (w : World) (K : Int → Int → Int → Sl → World → Prop) : Prop := Calls Tryz.prog f xs w fun r_ w1 => ∃ a0 : Int, ∃ a1 : Int, ∃ a2 : Int, ∃ a3 : Sl, r_ = .returned (.agg #[.i a0, .int .u8 a1, .int .u8 a2, a3.v]) ∧ K a0 a1 a2 a3 w1
abbrev cf2 (bs : List Nat) (f : FuncId) (xs : Array Value) (w : World) (K : Int → Int → Int → Sl → World → Prop) : Prop := callF bs Tryz.prog f xs w fun r_ w1 => ∃ a0 : Int, ∃ a1 : Int, ∃ a2 : Int, ∃ a3 : Sl, r_ = .returned (.agg #[.i a0, .int .u8 a1, .int .u8 a2, a3.v]) ∧ K a0 a1 a2 a3 w1
abbrev ca3 (f : FuncId) (xs : Array Value) (w : World) (K : Sl → World → Prop) : Prop := Calls Tryz.prog f xs w fun r_ w1 => ∃ a0 : Sl, r_ = .returned (a0.v) ∧ K a0 w1
abbrev cf3 (bs : List Nat) (f : FuncId) (xs : Array Value) (w : World) (K : Sl → World → Prop) : Prop := callF bs Tryz.prog f xs w fun r_ w1 => ∃ a0 : Sl, r_ = .returned (a0.v) ∧ K a0 w1
abbrev ca4 (f : FuncId) (xs : Array Value) (w : World) (K : World → Prop) : Prop := Calls Tryz.prog f xs w fun r_ w1 => r_ = .returned (.tuple #[]) ∧ K w1
abbrev cf4 (bs : List Nat) (f : FuncId) (xs : Array Value) (w : World) (K : World → Prop) : Prop := callF bs Tryz.prog f xs w fun r_ w1 => r_ = .returned (.tuple #[]) ∧ K w1
abbrev cf5 (bs : List Nat) (f : FuncId) (xs : Array Value) (w : World) (K : (Option Nat) → World → Prop) : Prop := callF bs Tryz.prog f xs w fun r_ w1 => ∃ a0 : Option Nat, r_ = .returned (.map a0) ∧ K a0 w1
abbrev ca6 (f : FuncId) (xs : Array Value) (w : World) (K : Int → Int → Int → Sl → Int → World → Prop) : Prop := Calls Tryz.prog f xs w fun r_ w1 => ∃ a0 : Int, ∃ a1 : Int, ∃ a2 : Int, ∃ a3 : Sl, ∃ a4 : Int, r_ = .returned (.tuple #[.agg #[.i a0, .int .u8 a1, .int .u8 a2, a3.v], .i a4]) ∧ K a0 a1 a2 a3 a4 w1
abbrev cf6 (bs : List Nat) (f : FuncId) (xs : Array Value) (w : World) (K : Int → Int → Int → Sl → Int → World → Prop) : Prop := callF bs Tryz.prog f xs w fun r_ w1 => ∃ a0 : Int, ∃ a1 : Int, ∃ a2 : Int, ∃ a3 : Sl, ∃ a4 : Int, r_ = .returned (.tuple #[.agg #[.i a0, .int .u8 a1, .int .u8 a2, a3.v], .i a4]) ∧ K a0 a1 a2 a3 a4 w1
abbrev ca7 (f : FuncId) (xs : Array Value) (w : World) (K : Int → Int → World → Prop) : Prop := Calls Tryz.prog f xs w fun r_ w1 => ∃ a0 : Int, ∃ a1 : Int, r_ = .returned (.tuple #[.i a0, .i a1]) ∧ K a0 a1 w1
abbrev ca8 (f : FuncId) (xs : Array Value) (w : World) (K : Int → Bool → World → Prop) : Prop := Calls Tryz.prog f xs w fun r_ w1 => ∃ a0 : Int, ∃ a1 : Bool, r_ = .returned (.tuple #[.i a0, .bool a1]) ∧ K a0 a1 w1
abbrev cf9 (bs : List Nat) (f : FuncId) (xs : Array Value) (w : World) (K : Int → Int → Bool → World → Prop) : Prop := callF bs Tryz.prog f xs w fun r_ w1 => ∃ a0 : Int, ∃ a1 : Int, ∃ a2 : Bool, r_ = .returned (.tuple #[.int .u8 a0, .i a1, .bool a2]) ∧ K a0 a1 a2 w1
abbrev ca10 (f : FuncId) (xs : Array Value) (w : World) (K : Int → Int → Int → ByteArray → Int → Int → World → Prop) : Prop := Calls Tryz.prog f xs w fun r_ w1 => ∃ a0 : Int, ∃ a1 : Int, ∃ a2 : Int, ∃ a3 : ByteArray, ∃ a4 : Int, ∃ a5 : Int, r_ = .returned (.tuple #[.agg #[.int .u8 a0, .int .u8 a1, .int .u8 a2, .string a3, .i a4], .i a5]) ∧ K a0 a1 a2 a3 a4 a5 w1
abbrev ca11 (f : FuncId) (xs : Array Value) (w : World) (K : (Option Addr) → World → Prop) : Prop := Calls Tryz.prog f xs w fun r_ w1 => ∃ a0 : Option Addr, r_ = .returned (.pointer a0) ∧ K a0 w1
abbrev cf11 (bs : List Nat) (f : FuncId) (xs : Array Value) (w : World) (K : (Option Addr) → World → Prop) : Prop := callF bs Tryz.prog f xs w fun r_ w1 => ∃ a0 : Option Addr, r_ = .returned (.pointer a0) ∧ K a0 w1
abbrev ca12 (f : FuncId) (xs : Array Value) (w : World) (K : Value → World → Prop) : Prop := Calls Tryz.prog f xs w fun r_ w1 => ∃ a0 : Value, r_ = .returned (a0) ∧ K a0 w1
abbrev ca13 (f : FuncId) (xs : Array Value) (w : World) (K : Int → Int → Int → Sl → Int → Int → World → Prop) : Prop := Calls Tryz.prog f xs w fun r_ w1 => ∃ a0 : Int, ∃ a1 : Int, ∃ a2 : Int, ∃ a3 : Sl, ∃ a4 : Int, ∃ a5 : Int, r_ = .returned (.tuple #[.agg #[.i a0, .int .u8 a1, .int .u8 a2, a3.v], .i a4, .i a5]) ∧ K a0 a1 a2 a3 a4 a5 w1
abbrev cf13 (bs : List Nat) (f : FuncId) (xs : Array Value) (w : World) (K : Int → Int → Int → Sl → Int → Int → World → Prop) : Prop := callF bs Tryz.prog f xs w fun r_ w1 => ∃ a0 : Int, ∃ a1 : Int, ∃ a2 : Int, ∃ a3 : Sl, ∃ a4 : Int, ∃ a5 : Int, r_ = .returned (.tuple #[.agg #[.i a0, .int .u8 a1, .int .u8 a2, a3.v], .i a4, .i a5]) ∧ K a0 a1 a2 a3 a4 a5 w1
abbrev ca14 (f : FuncId) (xs : Array Value) (w : World) (K : Bool → Int → World → Prop) : Prop := Calls Tryz.prog f xs w fun r_ w1 => ∃ a0 : Bool, ∃ a1 : Int, r_ = .returned (.tuple #[.bool a0, .i a1]) ∧ K a0 a1 w1
abbrev cf14 (bs : List Nat) (f : FuncId) (xs : Array Value) (w : World) (K : Bool → Int → World → Prop) : Prop := callF bs Tryz.prog f xs w fun r_ w1 => ∃ a0 : Bool, ∃ a1 : Int, r_ = .returned (.tuple #[.bool a0, .i a1]) ∧ K a0 a1 w1
abbrev ca15 (f : FuncId) (xs : Array Value) (w : World) (K : ByteArray → World → Prop) : Prop := Calls Tryz.prog f xs w fun r_ w1 => ∃ a0 : ByteArray, r_ = .returned (.string a0) ∧ K a0 w1
abbrev cf15 (bs : List Nat) (f : FuncId) (xs : Array Value) (w : World) (K : ByteArray → World → Prop) : Prop := callF bs Tryz.prog f xs w fun r_ w1 => ∃ a0 : ByteArray, r_ = .returned (.string a0) ∧ K a0 w1
abbrev hdW4 (w : World) (p : Addr) (v0 v1 v2 v3 : Value) (K : Unit → Prop) : Prop := w.cell? (p.add 0) = some v0 ∧ w.cell? (p.add 1) = some v1 ∧ w.cell? (p.add 2) = some v2 ∧ w.cell? (p.add 3) = some v3 ∧ K ()
abbrev stW3 (w : World) (p : Addr) (v0 v1 v2 : Value) (K : World → Prop) : Prop := stV w p v0 fun w => stV w (p.add 1) v1 fun w => stV w (p.add 2) v2 fun w => K w
abbrev stW4 (w : World) (p : Addr) (v0 v1 v2 v3 : Value) (K : World → Prop) : Prop := stV w p v0 fun w => stV w (p.add 1) v1 fun w => stV w (p.add 2) v2 fun w => stV w (p.add 3) v3 fun w => K w
abbrev stW5 (w : World) (p : Addr) (v0 v1 v2 v3 v4 : Value) (K : World → Prop) : Prop := stV w p v0 fun w => stV w (p.add 1) v1 fun w => stV w (p.add 2) v2 fun w => stV w (p.add 3) v3 fun w => stV w (p.add 4) v4 fun w => K w
abbrev ty_ : Nat := 0
abbrev ty_func : Nat := 1
abbrev ty_int64 : Nat := 2
abbrev ty_int : Nat := 3
abbrev ty_bool : Nat := 4
abbrev ty_uint8 : Nat := 5
abbrev ty_abi_BoundsErrorCode : Nat := 6
abbrev ty_struct_x_int64_y_int_signed_bool_code_abi_BoundsErrorCode : Nat := 7
abbrev ty_runtime_boundsError : Nat := 8
abbrev ty_string : Nat := 9
abbrev ty_runtime_errorString : Nat := 10
abbrev ty_runtime_plainError : Nat := 11
abbrev ty_uintptr : Nat := 12
abbrev ty_struct_msg_string_addr_uintptr : Nat := 13
abbrev ty_runtime_errorAddressString : Nat := 14
abbrev ty_p_runtime_TypeAssertionError : Nat := 15
abbrev ty_p_runtime_PanicNilError : Nat := 16
abbrev ty_p_abi_Type : Nat := 17
abbrev ty_struct_typ_p_abi_Type : Nat := 18
abbrev ty_maps_unhashableTypeError : Nat := 19
abbrev ty_any : Nat := 20
abbrev ty_int32 : Nat := 21
abbrev ty_sl_int : Nat := 22
abbrev ty_sl_enthymemeref04_Regex : Nat := 23
abbrev ty_struct_Kind_int_Lo_uint8_Hi_uint8_Kids_sl_enthymemeref04_Reg : Nat := 24
abbrev ty_enthymemeref04_Regex : Nat := 25
abbrev ty_func_sl_int_enthymemeref04_Regex : Nat := 26
abbrev ty_func_enthymemeref04_Regex_int_int_enthymemeref04_Regex : Nat := 27
abbrev ty_sl_regex_Regex : Nat := 28
abbrev ty_struct_Kind_int_Lo_uint8_Hi_uint8_Kids_sl_regex_Regex : Nat := 29
abbrev ty_regex_Regex : Nat := 30
abbrev ty_api_Errno : Nat := 31
abbrev ty_regex_Regex_api_Errno : Nat := 32
abbrev ty_func_regex_Regex_regex_Regex_api_Errno : Nat := 33
abbrev ty_func_enthymemeref04_Regex_regex_Regex : Nat := 34
abbrev ty_enthymemeref04_Regex_api_Errno : Nat := 35
abbrev ty_func_enthymemeref04_Regex_enthymemeref04_Regex_api_Errno : Nat := 36
abbrev ty_func_regex_Regex_api_Errno : Nat := 37
abbrev ty_func_enthymemeref04_Regex_api_Errno : Nat := 38
abbrev ty_func_regex_Regex_enthymemeref04_Regex_bool : Nat := 39
abbrev ty_func_regex_Regex_regex_Regex_int : Nat := 40
abbrev ty_func_enthymemeref04_Regex_int : Nat := 41
abbrev ty_func_regex_Regex_enthymemeref04_Regex : Nat := 42
abbrev ty_bool_api_Errno : Nat := 43
abbrev ty_func_regex_Regex_string_bool_api_Errno : Nat := 44
abbrev ty_func_int_string : Nat := 45
abbrev ty_func_bool : Nat := 46
abbrev ty_func_sl_int_int_int_sl_int_bool : Nat := 47
abbrev ty_func_enthymemeref04_Regex_string_bool_api_Errno : Nat := 48
abbrev ty_func_regex_Regex_bool_api_Errno : Nat := 49
abbrev ty_func_enthymemeref04_Regex_bool_api_Errno : Nat := 50
abbrev ty_func_int_int_int : Nat := 51
abbrev ty_sl_uint8 : Nat := 52
abbrev ty_func_sl_int_int_int_sl_int_int_bool : Nat := 53
abbrev ty_p_enthymemeref04_maker : Nat := 54
abbrev ty_struct_l_sl_int_at_int : Nat := 55
abbrev ty_enthymemeref04_maker : Nat := 56
abbrev ty_func_int_enthymemeref04_Regex : Nat := 57
abbrev ty_func_map_int_func_regex_Regex_regex_Regex_regex_Regex_regex_ : Nat := 58
abbrev ty_map_int_func_regex_Regex_regex_Regex : Nat := 59
abbrev ty_func_map_int_func_regex_Regex_regex_Regex : Nat := 60
abbrev ty_func_enthymemeref04_Regex_enthymemeref04_Regex : Nat := 61
abbrev ty_func_regex_Regex_bool : Nat := 62
abbrev ty_func_enthymemeref04_Regex_bool : Nat := 63
abbrev ty_func_enthymemeref04_Regex_enthymemeref04_Regex_int : Nat := 64
abbrev ty_func_int_int : Nat := 65
abbrev ty_func_uint8_uint8_int : Nat := 66
abbrev ty_func_sl_regex_Regex_sl_regex_Regex_func_regex_Regex_regex_Re : Nat := 67
abbrev ty_sl_bool : Nat := 68
abbrev ty_sl_sl_bool : Nat := 69
abbrev ty_func_regex_Regex_string_sl_sl_bool : Nat := 70
abbrev ty_regex_Regex_int_api_Errno : Nat := 71
abbrev ty_func_string_regex_Regex_int_api_Errno : Nat := 72
abbrev ty_func_regex_Regex_uint8_regex_Regex_api_Errno : Nat := 73
abbrev ty_func_enthymemeref04_Regex_string_bool : Nat := 74
abbrev ty_func_int_int_75 : Nat := 75
abbrev ty_func_regex_Regex_regex_Regex : Nat := 76
abbrev ty_func_regex_Regex_regex_Regex_sl_regex_Regex : Nat := 77
abbrev ty_func_sl_regex_Regex_func_regex_Regex_bool_bool : Nat := 78
abbrev ty_func_regex_Regex_regex_Regex_bool : Nat := 79
abbrev ty_func_sl_regex_Regex_func_regex_Regex_regex_Regex_int : Nat := 80
abbrev ty_func_sl_regex_Regex_func_regex_Regex_regex_Regex_bool_sl_reg : Nat := 81
abbrev ty_func_regex_Regex_regex_Regex_func_regex_Regex_regex_Regex : Nat := 82
abbrev ty_func_int_sl_enthymemeref04_Regex_enthymemeref04_Regex : Nat := 83
abbrev ty_func_regex_Regex_int_int : Nat := 84
abbrev ty_func_int_bool : Nat := 85
abbrev ty_func_uint8_bool : Nat := 86
abbrev ty_func_string_func_int_int_bool_sl_sl_bool : Nat := 87
abbrev ty_func_int_int_bool : Nat := 88
abbrev ty_func_sl_sl_bool_sl_sl_bool_int_int_bool : Nat := 89
abbrev ty_func_sl_sl_bool_string_sl_sl_bool : Nat := 90
abbrev ty_struct_kind_int_args_sl_regex_Regex_alts_sl_regex_Regex_alls : Nat := 91
abbrev ty_regex_frame : Nat := 92
abbrev ty_sl_regex_frame : Nat := 93
abbrev ty_struct_frames_sl_regex_frame_state_int_word_int : Nat := 94
abbrev ty_regex_reader : Nat := 95
abbrev ty_func_func_regex_token_bool : Nat := 96
abbrev ty_iter_Seq_enthymeme_regex_token : Nat := 97
abbrev ty_func_string_iter_Seq_enthymeme_regex_token : Nat := 98
abbrev ty_struct_kind_uint8_lo_uint8_hi_uint8_word_string_at_int : Nat := 99
abbrev ty_regex_token : Nat := 100
abbrev ty_func_regex_token_bool : Nat := 101
abbrev ty_p_regex_frame : Nat := 102
abbrev ty_func_p_regex_frame : Nat := 103
abbrev ty_func_regex_Regex : Nat := 104
abbrev ty_func_map_int_func_regex_Regex_regex_Regex_regex_Regex_uint8_ : Nat := 105
abbrev ty_func_sl_int_int_int_int : Nat := 106
abbrev ty_func_sl_regex_Regex_func_regex_Regex_bool_sl_regex_Regex : Nat := 107
abbrev ty_func_sl_regex_Regex_func_regex_Regex_bool_int : Nat := 108
abbrev ty_func_sl_regex_Regex_int_int_int_func_regex_Regex_regex_Regex : Nat := 109
abbrev ty_func_uint_int : Nat := 110
abbrev ty_uint : Nat := 111
abbrev ty_func_enthymemeref04_Regex : Nat := 112
abbrev ty_func_sl_enthymemeref04_Regex_enthymemeref04_Regex_sl_enthyme : Nat := 113
abbrev ty_regex_token_int : Nat := 114
abbrev ty_func_string_int_regex_token_int : Nat := 115
abbrev ty_p_regex_reader : Nat := 116
abbrev ty_func_sl_regex_Regex_bool : Nat := 117
abbrev ty_func_int_sl_regex_Regex_regex_Regex : Nat := 118
abbrev ty_func_sl_regex_Regex_int_int_func_regex_Regex_regex_Regex_int : Nat := 119
abbrev ty_slices_sortedHint : Nat := 120
abbrev ty_int_slices_sortedHint : Nat := 121
abbrev ty_func_sl_regex_Regex_int_int_func_regex_Regex_regex_Regex_int_122 : Nat := 122
abbrev ty_func_sl_regex_Regex_int_int_func_regex_Regex_regex_Regex_int_123 : Nat := 123
abbrev ty_func_sl_regex_Regex_int_int_int_func_regex_Regex_regex_Regex_124 : Nat := 124
abbrev ty_int_bool : Nat := 125
abbrev ty_func_sl_regex_Regex_int_int_int_func_regex_Regex_regex_Regex_126 : Nat := 126
abbrev ty_func_uint32_int : Nat := 127
abbrev ty_uint32 : Nat := 128
abbrev ty_func_uint64_int : Nat := 129
abbrev ty_uint64 : Nat := 130
abbrev ty_func_string_uint8_int : Nat := 131
abbrev ty_uint8_int_bool : Nat := 132
abbrev ty_func_string_int_uint8_int_bool : Nat := 133
abbrev ty_slices_xorshift : Nat := 134
abbrev ty_func_int_uint : Nat := 135
abbrev ty_func_uint64 : Nat := 136
abbrev ty_func_sl_regex_Regex_int_p_int_func_regex_Regex_regex_Regex_i : Nat := 137
abbrev ty_p_int : Nat := 138
abbrev ty_func_sl_regex_Regex_int_int_int_p_int_func_regex_Regex_regex : Nat := 139
abbrev ty_p_slices_xorshift : Nat := 140
abbrev ty_int_int : Nat := 141
abbrev ty_func_sl_regex_Regex_int_int_p_int_func_regex_Regex_regex_Reg : Nat := 142
abbrev ty_func_string : Nat := 143
abbrev ty_struct_interface_p_abi_Type_concrete_p_abi_Type_asserted_p_a : Nat := 144
abbrev ty_runtime_TypeAssertionError : Nat := 145
abbrev ty_0_p_runtime_PanicNilError : Nat := 146
abbrev ty_struct_0_p_runtime_PanicNilError : Nat := 147
abbrev ty_runtime_PanicNilError : Nat := 148
abbrev ty_func_int : Nat := 149
abbrev ty_abi_TFlag : Nat := 150
abbrev ty_abi_Kind : Nat := 151
abbrev ty_func_unsafe_Pointer_unsafe_Pointer_bool : Nat := 152
abbrev ty_p_uint8 : Nat := 153
abbrev ty_abi_NameOff : Nat := 154
abbrev ty_abi_TypeOff : Nat := 155
abbrev ty_struct_Size_uintptr_PtrBytes_uintptr_Hash_uint32_TFlag_abi_T : Nat := 156
abbrev ty_abi_Type : Nat := 157
abbrev ty_unsafe_Pointer : Nat := 158
abbrev n_main_main : Nat := 0
abbrev n_gosem_cut : Nat := 1
abbrev n_gosem_cut_init : Nat := 2
abbrev n_enthymemelaw04_RegexNormal : Nat := 3
abbrev n_enthymemelaw04_RegexMatches : Nat := 4
abbrev n_enthymemeref04_Made : Nat := 5
abbrev n_enthymemeref04_Spoilt : Nat := 6
abbrev n_regex_Normal : Nat := 7
abbrev n_enthymemelaw04_own : Nat := 8
abbrev n_enthymemeref04_Normal : Nat := 9
abbrev n_regex_Valid : Nat := 10
abbrev n_enthymemeref04_Valid : Nat := 11
abbrev n_enthymemelaw04_same : Nat := 12
abbrev n_regex_Compare : Nat := 13
abbrev n_enthymemeref04_Nodes : Nat := 14
abbrev n_enthymemelaw04_plain : Nat := 15
abbrev n_regex_Match : Nat := 16
abbrev n_enthymemeref04_Word : Nat := 17
abbrev n_enthymemelaw04_lives : Nat := 18
abbrev n_enthymemeref04_Match : Nat := 19
abbrev n_regex_Nullable : Nat := 20
abbrev n_enthymemeref04_Nullable : Nat := 21
abbrev n_enthymemeref01_Around : Nat := 22
abbrev n_enthymemeref04_maker_regex : Nat := 23
abbrev n_regex_limited : Nat := 24
abbrev n_regex_normal : Nat := 25
abbrev n_regex_forms : Nat := 26
abbrev n_enthymemeref04_few : Nat := 27
abbrev n_enthymemeref04_simple : Nat := 28
abbrev n_regex_tooLarge : Nat := 29
abbrev n_regex_proper : Nat := 30
abbrev n_enthymemeref04_good : Nat := 31
abbrev n_enthymemeref04_Compare : Nat := 32
abbrev n_cmp_Or_int : Nat := 33
abbrev n_cmp_Compare_int : Nat := 34
abbrev n_cmp_Compare_byte : Nat := 35
abbrev n_slices_CompareFunc_sl_regex_Regex_sl_regex_Regex_regex_Regex_regex_Regex : Nat := 36
abbrev n_regex_spans : Nat := 37
abbrev n_regex_Parse : Nat := 38
abbrev n_regex_Derive : Nat := 39
abbrev n_enthymemeref04_match : Nat := 40
abbrev n_regex_nullable : Nat := 41
abbrev n_enthymemeref04_maker_next : Nat := 42
abbrev n_regex_clone : Nat := 43
abbrev n_regex_forms_1 : Nat := 44
abbrev n_regex_forms_2 : Nat := 45
abbrev n_regex_forms_2_1 : Nat := 46
abbrev n_regex_flat : Nat := 47
abbrev n_slices_ContainsFunc_sl_regex_Regex_regex_Regex : Nat := 48
abbrev n_regex_forms_2_1_1 : Nat := 49
abbrev n_regex_equal : Nat := 50
abbrev n_slices_SortFunc_sl_regex_Regex_regex_Regex : Nat := 51
abbrev n_slices_CompactFunc_sl_regex_Regex_regex_Regex : Nat := 52
abbrev n_regex_forms_3 : Nat := 53
abbrev n_regex_forms_4 : Nat := 54
abbrev n_enthymemeref04_normal : Nat := 55
abbrev n_regex_countdown : Nat := 56
abbrev n_cmp_isNaN_int : Nat := 57
abbrev n_cmp_isNaN_byte : Nat := 58
abbrev n_regex_table : Nat := 59
abbrev n_regex_spans_1 : Nat := 60
abbrev n_regex_spans_2 : Nat := 61
abbrev n_regex_spans_3 : Nat := 62
abbrev n_regex_spans_4 : Nat := 63
abbrev n_regex_spans_5 : Nat := 64
abbrev n_regex_meet : Nat := 65
abbrev n_regex_spans_6 : Nat := 66
abbrev n_regex_spans_7 : Nat := 67
abbrev n_regex_spans_8 : Nat := 68
abbrev n_regex_repeated : Nat := 69
abbrev n_regex_tokens : Nat := 70
abbrev n_regex_reader_feed : Nat := 71
abbrev n_regex_reader_top : Nat := 72
abbrev n_regex_frame_endExpr : Nat := 73
abbrev n_regex_derive : Nat := 74
abbrev n_enthymemeref01_Pick : Nat := 75
abbrev n_slices_DeleteFunc_sl_regex_Regex_regex_Regex : Nat := 76
abbrev n_regex_flat_1 : Nat := 77
abbrev n_slices_IndexFunc_sl_regex_Regex_regex_Regex : Nat := 78
abbrev n_slices_pdqsortCmpFunc_regex_Regex : Nat := 79
abbrev n_math_bits_Len : Nat := 80
abbrev n_enthymemeref04_Everything : Nat := 81
abbrev n_enthymemeref04_put : Nat := 82
abbrev n_regex_repeated_1 : Nat := 83
abbrev n_regex_tokens_1 : Nat := 84
abbrev n_regex_tokenAt : Nat := 85
abbrev n_regex_reader_push : Nat := 86
abbrev n_regex_reader_close : Nat := 87
abbrev n_regex_reader_item : Nat := 88
abbrev n_regex_frame_endSeq : Nat := 89
abbrev n_regex_frame_endConj : Nat := 90
abbrev n_regex_frame_endItem : Nat := 91
abbrev n_regex_one : Nat := 92
abbrev n_slices_insertionSortCmpFunc_regex_Regex : Nat := 93
abbrev n_slices_heapSortCmpFunc_regex_Regex : Nat := 94
abbrev n_slices_breakPatternsCmpFunc_regex_Regex : Nat := 95
abbrev n_slices_choosePivotCmpFunc_regex_Regex : Nat := 96
abbrev n_slices_reverseRangeCmpFunc_regex_Regex : Nat := 97
abbrev n_slices_partialInsertionSortCmpFunc_regex_Regex : Nat := 98
abbrev n_slices_partitionEqualCmpFunc_regex_Regex : Nat := 99
abbrev n_slices_partitionCmpFunc_regex_Regex : Nat := 100
abbrev n_math_bits_Len32 : Nat := 101
abbrev n_math_bits_Len64 : Nat := 102
abbrev n_strings_IndexByte : Nat := 103
abbrev n_regex_small : Nat := 104
abbrev n_regex_byteAt : Nat := 105
abbrev n_regex_reader_atom : Nat := 106
abbrev n_slices_siftDownCmpFunc_regex_Regex : Nat := 107
abbrev n_slices_nextPowerOfTwo : Nat := 108
abbrev n_slices_xorshift_Next : Nat := 109
abbrev n_slices_medianAdjacentCmpFunc_regex_Regex : Nat := 110
abbrev n_slices_medianCmpFunc_regex_Regex : Nat := 111
abbrev n_internal_stringslite_IndexByte : Nat := 112
abbrev n_regex_plain : Nat := 113
abbrev n_slices_order2CmpFunc_regex_Regex : Nat := 114
abbrev n_internal_bytealg_IndexByteString : Nat := 115
abbrev n_runtime_boundsError_Error : Nat := 116
abbrev n_runtime_boundsError_RuntimeError : Nat := 117
abbrev n_runtime_errorString_Error : Nat := 118
abbrev n_runtime_errorString_RuntimeError : Nat := 119
abbrev n_runtime_plainError_Error : Nat := 120
abbrev n_runtime_plainError_RuntimeError : Nat := 121
abbrev n_runtime_errorAddressString_Error : Nat := 122
abbrev n_runtime_errorAddressString_RuntimeError : Nat := 123
abbrev n_runtime_TypeAssertionError_Error : Nat := 124
abbrev n_runtime_TypeAssertionError_RuntimeError : Nat := 125
abbrev n_runtime_PanicNilError_Error : Nat := 126
abbrev n_runtime_PanicNilError_RuntimeError : Nat := 127
abbrev n_internal_abi_Type_Align : Nat := 128
abbrev n_internal_runtime_maps_unhashableTypeError_Error : Nat := 129
abbrev n_internal_runtime_maps_unhashableTypeError_RuntimeError : Nat := 130
abbrev n_internal_abi_Kind_String : Nat := 131
namespace enthymemeref01_Around
noncomputable abbrev X : Fx := ⟨Tryz.prog, Tryz.f22, [], []⟩
abbrev P0 : Ps := [(0, .v [.I]), (1, .v [.I])]
abbrev S0 (n0 most1 : Int) (w : World) (R : Post) : Prop :=
  most1 ≠ 0 ∧ R (.returned (.i (Int.tmod n0 most1))) w
noncomputable def eS0 := entS X [] (pth [2]) P0 S0
theorem ok (n0 most1 : Int) (w : World) (R : Post) (h : sel (decide (n0 < 0)) (S0 (IntKind.wrap .i64 (0 - (IntKind.wrap .i64 (n0 + 1)))) most1 w R) (S0 n0 most1 w R)) : Calls Tryz.prog n_enthymemeref01_Around #[.i n0, .i most1] w R := callsX X [eS0] h
end enthymemeref01_Around
namespace enthymemeref01_Pick
noncomputable abbrev X : Fx := ⟨Tryz.prog, Tryz.f75, [], []⟩
abbrev P0 : Ps := []
abbrev S0  (w : World) (R : Post) : Prop :=
  R (.returned (.i 0)) w
noncomputable def eS0 := entS X [] (pth [0, 1, 1, 1, 1]) P0 S0
theorem ok (l0 : Sl) (i1 most2 : Int) (w : World) (R : Post) (h : sel (decide (i1 < 0)) (S0  w R) (sel (decide (i1 ≥ ((l0.n : Nat) : Int))) (S0  w R) ((0 : Int) ≤ i1 ∧ i1 < ((l0.n : Nat) : Int) ∧ optP l0.a fun t17_p => ∃ t18 : Int, w.cell? (t17_p.add (Int.toNat i1 * 1)) = some (.i t18) ∧ 
  ca0 n_enthymemeref01_Around #[.i t18, .i most2] w fun t20 w1 => R (.returned (.i t20)) w1))) : Calls Tryz.prog n_enthymemeref01_Pick #[l0.v, .i i1, .i most2] w R := callsX X [eS0] h
end enthymemeref01_Pick
end Go.Proofs.YtknlbofiicflgaaGreat
