/- Printed by a program of ours (vcgen.py) from the dump: the conditions of the functions, and that they suffice. -/
import Derived.Test.YtjjhfdjpmonlaaaW
import Derived.Test.YtjjhfdjpmonlaaaProg
import Derived.KernelRfl
set_option linter.unusedVariables false
set_option maxRecDepth 100000
set_option maxHeartbeats 2000000
namespace Go.Proofs.Ytjjhfdjpmonlaaa
open Go Go.W
abbrev ty_ : Nat := 0
abbrev ty_func : Nat := 1
abbrev ty_int64 : Nat := 2
abbrev ty_int : Nat := 3
abbrev ty_bool : Nat := 4
abbrev ty_uint8 : Nat := 5
abbrev ty_abi_BoundsErrorCode : Nat := 6
abbrev ty_struct_x_int64_y_int_signed_bool_code_abi_BoundsErrorCode : Nat := 7
abbrev ty_runtime_boundsError : Nat := 8
abbrev ty_string : Nat := 9
abbrev ty_runtime_errorString : Nat := 10
abbrev ty_runtime_plainError : Nat := 11
abbrev ty_uintptr : Nat := 12
abbrev ty_struct_msg_string_addr_uintptr : Nat := 13
abbrev ty_runtime_errorAddressString : Nat := 14
abbrev ty_p_runtime_TypeAssertionError : Nat := 15
abbrev ty_p_runtime_PanicNilError : Nat := 16
abbrev ty_p_abi_Type : Nat := 17
abbrev ty_struct_typ_p_abi_Type : Nat := 18
abbrev ty_maps_unhashableTypeError : Nat := 19
abbrev ty_any : Nat := 20
abbrev ty_int32 : Nat := 21
abbrev ty_sl_int : Nat := 22
abbrev ty_sl_enthymemeref06_Value : Nat := 23
abbrev ty_func_int_sl_int_int_int_int_sl_enthymemeref06_Value : Nat := 24
abbrev ty_struct_Kind_int_N_int_Index_int : Nat := 25
abbrev ty_api_Sort : Nat := 26
abbrev ty_uint64 : Nat := 27
abbrev ty_sl_enthymemeref06_Entry : Nat := 28
abbrev ty_struct_Sort_api_Sort_U_uint64_S_string_Map_sl_enthymemeref06 : Nat := 29
abbrev ty_enthymemeref06_Value : Nat := 30
abbrev ty_api_Errno : Nat := 31
abbrev ty_func_api_Sort_api_Errno : Nat := 32
abbrev ty_sl_value_Entry : Nat := 33
abbrev ty_struct_Sort_api_Sort_U_uint64_S_string_Map_sl_value_Entry : Nat := 34
abbrev ty_value_Value : Nat := 35
abbrev ty_value_Value_api_Errno : Nat := 36
abbrev ty_func_api_Sort_value_Value_api_Errno : Nat := 37
abbrev ty_func_value_Value_api_Errno : Nat := 38
abbrev ty_func_enthymemeref06_Value_value_Value : Nat := 39
abbrev ty_func_enthymemeref06_Value_api_Errno : Nat := 40
abbrev ty_func_enthymemeref06_Value_enthymemeref06_Value_bool : Nat := 41
abbrev ty_func_value_Value_enthymemeref06_Value : Nat := 42
abbrev ty_func_api_Sort_enthymemeref06_Value : Nat := 43
abbrev ty_func_bool : Nat := 44
abbrev ty_func_int_sl_int_int_int_int_bool : Nat := 45
abbrev ty_func_int_int_int : Nat := 46
abbrev ty_func_api_Sort_sl_int_enthymemeref06_Value : Nat := 47
abbrev ty_func_api_Sort_api_Sort : Nat := 48
abbrev ty_sl_uint64 : Nat := 49
abbrev ty_func_value_Value_uint64_value_Value_api_Errno : Nat := 50
abbrev ty_enthymemeref06_Value_api_Errno : Nat := 51
abbrev ty_func_enthymemeref06_Value_uint64_enthymemeref06_Value_api_Er : Nat := 52
abbrev ty_func_value_Value_uint64_value_Value_value_Value_api_Errno : Nat := 53
abbrev ty_func_enthymemeref06_Value_uint64_enthymemeref06_Value_enthym : Nat := 54
abbrev ty_uint64_api_Errno : Nat := 55
abbrev ty_func_value_Value_value_Value_uint64_api_Errno : Nat := 56
abbrev ty_func_enthymemeref06_Value_enthymemeref06_Value_uint64_api_Er : Nat := 57
abbrev ty_func_int_sl_int_sl_int_int_int_int_int_bool : Nat := 58
abbrev ty_func_int_sl_int_enthymemeref06_Value : Nat := 59
abbrev ty_uint : Nat := 60
abbrev ty_func_value_Value_value_Value_int : Nat := 61
abbrev ty_func_int_sl_int_sl_int_int_int_bool : Nat := 62
abbrev ty_sl_value_Value : Nat := 63
abbrev ty_func_int_sl_int_sl_int_bool : Nat := 64
abbrev ty_func_enthymemeref06_Value_enthymemeref06_Value_int : Nat := 65
abbrev ty_sl_uint8 : Nat := 66
abbrev ty_sl_uint8_api_Errno : Nat := 67
abbrev ty_func_value_Value_sl_uint8_api_Errno : Nat := 68
abbrev ty_func_sl_uint8_sl_uint8_bool : Nat := 69
abbrev ty_func_int_sl_int_sl_int_int_int_int_bool : Nat := 70
abbrev ty_func_enthymemeref06_Value_sl_uint8 : Nat := 71
abbrev ty_func_sl_uint8_value_Value_api_Errno : Nat := 72
abbrev ty_p_wire_Reader : Nat := 73
abbrev ty_func_sl_uint8_p_wire_Reader : Nat := 74
abbrev ty_func_int : Nat := 75
abbrev ty_sl_sl_uint8 : Nat := 76
abbrev ty_func_int_sl_int_int_int_int_sl_uint8_uint8_bool : Nat := 77
abbrev ty_func_int_api_Sort : Nat := 78
abbrev ty_func_enthymemeref06_Value_int_int_int_enthymemeref06_Value : Nat := 79
abbrev ty_func_int_int_int_bool : Nat := 80
abbrev ty_func_uint64_int_bool : Nat := 81
abbrev ty_func_api_Sort_sl_value_Entry_bool : Nat := 82
abbrev ty_struct_Index_uint64_U_uint64_S_string : Nat := 83
abbrev ty_enthymemeref06_Entry : Nat := 84
abbrev ty_value_Entry : Nat := 85
abbrev ty_func_api_Sort_bool : Nat := 86
abbrev ty_func_int_int_uint64 : Nat := 87
abbrev ty_func_sl_int_int_int_int : Nat := 88
abbrev ty_func_int_int_string : Nat := 89
abbrev ty_func_enthymemeref06_Value_uint64_uint64_string_enthymemeref0 : Nat := 90
abbrev ty_int_bool : Nat := 91
abbrev ty_func_sl_value_Entry_uint64_int_bool : Nat := 92
abbrev ty_func_enthymemeref06_Value_uint64_enthymemeref06_Value : Nat := 93
abbrev ty_func_sl_value_Entry_sl_value_Entry : Nat := 94
abbrev ty_func_enthymemeref06_Value_enthymemeref06_Value_uint64 : Nat := 95
abbrev ty_func_int_int : Nat := 96
abbrev ty_func_uint64_uint64_int : Nat := 97
abbrev ty_func_string_string_int : Nat := 98
abbrev ty_func_sl_value_Entry_sl_value_Entry_func_value_Entry_value_En : Nat := 99
abbrev ty_func_value_Entry_value_Entry_int : Nat := 100
abbrev ty_func_sl_int_int : Nat := 101
abbrev ty_struct_b_sl_uint8 : Nat := 102
abbrev ty_wire_Writer : Nat := 103
abbrev ty_func_int_104 : Nat := 104
abbrev ty_func_uint64 : Nat := 105
abbrev ty_func_string : Nat := 106
abbrev ty_func_sl_uint8 : Nat := 107
abbrev ty_func_int_sl_uint8 : Nat := 108
abbrev ty_func_uint64_sl_uint8 : Nat := 109
abbrev ty_func_sl_uint8_sl_uint8 : Nat := 110
abbrev ty_func_uint64_111 : Nat := 111
abbrev ty_func_string_112 : Nat := 112
abbrev ty_func_api_Errno : Nat := 113
abbrev ty_struct_b_sl_uint8_at_int_err_api_Errno : Nat := 114
abbrev ty_wire_Reader : Nat := 115
abbrev ty_sl_string : Nat := 116
abbrev ty_func_sl_value_Entry_uint64_func_value_Entry_uint64_int_int_b : Nat := 117
abbrev ty_func_value_Entry_uint64_int : Nat := 118
abbrev ty_sl_sl_enthymemeref06_Entry : Nat := 119
abbrev ty_func_int_bool : Nat := 120
abbrev ty_func_uint64_bool : Nat := 121
abbrev ty_func_string_bool : Nat := 122
abbrev ty_p_wire_Writer : Nat := 123
abbrev ty_func_int_uint64 : Nat := 124
abbrev ty_func_p_wire_Reader_func_uint8_sl_uint8 : Nat := 125
abbrev ty_func_uint8 : Nat := 126
abbrev ty_struct_interface_p_abi_Type_concrete_p_abi_Type_asserted_p_a : Nat := 127
abbrev ty_runtime_TypeAssertionError : Nat := 128
abbrev ty_0_p_runtime_PanicNilError : Nat := 129
abbrev ty_struct_0_p_runtime_PanicNilError : Nat := 130
abbrev ty_runtime_PanicNilError : Nat := 131
abbrev ty_uint32 : Nat := 132
abbrev ty_abi_TFlag : Nat := 133
abbrev ty_abi_Kind : Nat := 134
abbrev ty_func_unsafe_Pointer_unsafe_Pointer_bool : Nat := 135
abbrev ty_p_uint8 : Nat := 136
abbrev ty_abi_NameOff : Nat := 137
abbrev ty_abi_TypeOff : Nat := 138
abbrev ty_struct_Size_uintptr_PtrBytes_uintptr_Hash_uint32_TFlag_abi_T : Nat := 139
abbrev ty_abi_Type : Nat := 140
abbrev ty_func_bool_141 : Nat := 141
abbrev ty_unsafe_Pointer : Nat := 142
abbrev n_main_main : Nat := 0
abbrev n_gosem_cut : Nat := 1
abbrev n_gosem_cut_init : Nat := 2
abbrev n_enthymemelaw06_ValueValid : Nat := 3
abbrev n_enthymemelaw06_ValueArrays : Nat := 4
abbrev n_enthymemelaw06_ValueWrites : Nat := 5
abbrev n_enthymemelaw06_ValueExtensional : Nat := 6
abbrev n_enthymemelaw06_ValueOrder : Nat := 7
abbrev n_enthymemelaw06_ValueBytes : Nat := 8
abbrev n_enthymemelaw06_some : Nat := 9
abbrev n_enthymemeref06_ValidSort : Nat := 10
abbrev n_value_Zero : Nat := 11
abbrev n_value_ValidSort : Nat := 12
abbrev n_value_Valid : Nat := 13
abbrev n_enthymemelaw06_own : Nat := 14
abbrev n_enthymemeref06_Valid : Nat := 15
abbrev n_enthymemeref06_Same : Nat := 16
abbrev n_enthymemelaw06_plain : Nat := 17
abbrev n_enthymemeref06_Zero : Nat := 18
abbrev n_enthymemelaw06_lives : Nat := 19
abbrev n_enthymemeref01_Around : Nat := 20
abbrev n_enthymemeref06_Of : Nat := 21
abbrev n_enthymemeref06_Element : Nat := 22
abbrev n_value_Select : Nat := 23
abbrev n_enthymemeref06_Select : Nat := 24
abbrev n_value_Store : Nat := 25
abbrev n_enthymemeref06_Store : Nat := 26
abbrev n_value_Diff : Nat := 27
abbrev n_enthymemeref06_Diff : Nat := 28
abbrev n_enthymemelaw06_array : Nat := 29
abbrev n_value_Compare : Nat := 30
abbrev n_enthymemeref06_Compare : Nat := 31
abbrev n_value_Encode : Nat := 32
abbrev n_enthymemeref01_SameBytes : Nat := 33
abbrev n_enthymemeref06_Encode : Nat := 34
abbrev n_value_Decode : Nat := 35
abbrev n_wire_Read : Nat := 36
abbrev n_wire_Reader_Int : Nat := 37
abbrev n_enthymemeref06_Sort : Nat := 38
abbrev n_enthymemeref06_Spoilt : Nat := 39
abbrev n_enthymemeref06_within : Nat := 40
abbrev n_value_below : Nat := 41
abbrev n_value_validMap : Nat := 42
abbrev n_enthymemeref06_fits : Nat := 43
abbrev n_enthymemeref06_Array : Nat := 44
abbrev n_enthymemeref06_Bits : Nat := 45
abbrev n_enthymemeref01_Pick : Nat := 46
abbrev n_enthymemeref06_Short : Nat := 47
abbrev n_enthymemeref06_Put : Nat := 48
abbrev n_value_isArray : Nat := 49
abbrev n_value_place : Nat := 50
abbrev n_enthymemeref06_At : Nat := 51
abbrev n_slices_Clone_sl_value_Entry_value_Entry : Nat := 52
abbrev n_enthymemeref06_Least : Nat := 53
abbrev n_cmp_Or_int : Nat := 54
abbrev n_cmp_Compare_int : Nat := 55
abbrev n_cmp_Compare_uint64 : Nat := 56
abbrev n_cmp_Compare_string : Nat := 57
abbrev n_value_compareLists_value_Entry : Nat := 58
abbrev n_value_Compare_1 : Nat := 59
abbrev n_enthymemeref06_first : Nat := 60
abbrev n_enthymemeref06_ints : Nat := 61
abbrev n_enthymemeref06_number : Nat := 62
abbrev n_enthymemeref06_texts : Nat := 63
abbrev n_wire_Writer_Int : Nat := 64
abbrev n_wire_Writer_Uint : Nat := 65
abbrev n_wire_Writer_Text : Nat := 66
abbrev n_wire_Writer_Done : Nat := 67
abbrev n_enthymemeref02_Int : Nat := 68
abbrev n_enthymemeref02_Uint : Nat := 69
abbrev n_enthymemeref02_Raw : Nat := 70
abbrev n_wire_Reader_Uint : Nat := 71
abbrev n_wire_Reader_Text : Nat := 72
abbrev n_wire_Reader_End : Nat := 73
abbrev n_slices_Clone_sl_byte_byte : Nat := 74
abbrev n_slices_BinarySearchFunc_sl_value_Entry_value_Entry_uint64 : Nat := 75
abbrev n_value_place_1 : Nat := 76
abbrev n_cmp_isNaN_int : Nat := 77
abbrev n_cmp_isNaN_uint64 : Nat := 78
abbrev n_cmp_isNaN_string : Nat := 79
abbrev n_enthymemeref02_Zigzag : Nat := 80
abbrev n_wire_list_byte : Nat := 81
abbrev n_wire_Reader_one : Nat := 82
abbrev n_runtime_boundsError_Error : Nat := 83
abbrev n_runtime_boundsError_RuntimeError : Nat := 84
abbrev n_runtime_errorString_Error : Nat := 85
abbrev n_runtime_errorString_RuntimeError : Nat := 86
abbrev n_runtime_plainError_Error : Nat := 87
abbrev n_runtime_plainError_RuntimeError : Nat := 88
abbrev n_runtime_errorAddressString_Error : Nat := 89
abbrev n_runtime_errorAddressString_RuntimeError : Nat := 90
abbrev n_runtime_TypeAssertionError_Error : Nat := 91
abbrev n_runtime_TypeAssertionError_RuntimeError : Nat := 92
abbrev n_runtime_PanicNilError_Error : Nat := 93
abbrev n_runtime_PanicNilError_RuntimeError : Nat := 94
abbrev n_internal_abi_Type_Align : Nat := 95
abbrev n_internal_runtime_maps_unhashableTypeError_Error : Nat := 96
abbrev n_internal_runtime_maps_unhashableTypeError_RuntimeError : Nat := 97
abbrev n_wire_Reader_Bool : Nat := 98
abbrev n_wire_Writer_Bool : Nat := 99
abbrev n_internal_abi_Kind_String : Nat := 100
namespace enthymemeref01_Around
noncomputable def C0 : Code := (Try.f20.body).getD .skip
noncomputable def C1:=C0.sn
noncomputable def C2:=C1.sn
abbrev Q0 (R : Post) : Exit → Act → World → Prop := (bodyPost Try.prog Try.f20 R)
noncomputable def C3:=C2.fs
noncomputable def C4:=C2.sn
/-- ref.go:9 -/
abbrev S3 (n0 most1 : Int) (w : World) (R : Post) : Prop :=
  most1 ≠ 0 ∧ R (.returned (.i (Int.tmod n0 most1))) w
def KE_S3 (E : Env) (w : World) (R : Post) : Prop := W.asInt .i64 (Env.get? E 0) fun n0 => W.asInt .i64 (Env.get? E 1) fun most1 => S3 n0 most1 w R
theorem KE_S3_ok (R : Post) (E : Env) (w : World) (h : KE_S3 E w R) : WP Try.prog (cx 13) C2 (Q0 R) E w := by
  obtain ⟨n0, hq0, h_1⟩ := asInt_elim h
  obtain ⟨most1, hq1, h_2⟩ := asInt_elim h_1
  exact fun a ha => WP.at (n := (cx 13)) (E := [(0, .i n0), (1, .i most1)]) (WP.seq (c := C2) (x := C3) (y := C4) (by kernel_rfl) <| WP.reg (c := C3) (fun E w => retVC Try.prog Try.f20 E w (fun v => R (.returned v) w)) (by kernel_rfl) (Eq.mp (by kernel_rfl) h_2) fun _ _ a hA hK => (WP.ret (c := C4) (by kernel_rfl) fun a hA => retVC_sound hA hK) a hA) (ha.cons hq0 (ha.cons hq1 ha.nil))
noncomputable def C5:=C1.fs
noncomputable def C6:=C5.sn
noncomputable def C7:=C6.fs
abbrev Q1 (R : Post) : Exit → Act → World → Prop := (Exit.then (wpx Try.prog (cx 13) C2 (bodyPost Try.prog Try.f20 R)) (bodyPost Try.prog Try.f20 R))
/-- ref.go:7 -/
abbrev S2 (n0 most1 : Int) (w : World) (R : Post) : Prop :=
  S3 (IntKind.wrap .i64 (0 - (IntKind.wrap .i64 (n0 + 1)))) most1 w R
def KE_S2 (E : Env) (w : World) (R : Post) : Prop := W.asInt .i64 (Env.get? E 0) fun n0 => W.asInt .i64 (Env.get? E 1) fun most1 => S2 n0 most1 w R
theorem KE_S2_ok (R : Post) (E : Env) (w : World) (h : KE_S2 E w R) : WP Try.prog (cx 13) C7 (Q1 R) E w := by
  obtain ⟨n0, hq0, h_1⟩ := asInt_elim h
  obtain ⟨most1, hq1, h_2⟩ := asInt_elim h_1
  exact fun a ha => WP.at (n := (cx 13)) (E := [(0, .i n0), (1, .i most1)]) (WP.reg (c := C7) (fun E w => KE_S3 E w R) (by kernel_rfl) (Eq.mp (by kernel_rfl) h_2) fun _ _ a hA hK => (KE_S3_ok R _ _ hK) a hA) (ha.cons hq0 (ha.cons hq1 ha.nil))
noncomputable def C8:=C5.fs
noncomputable def C9:=C6.sn
/-- ref.go:6 -/
abbrev S1 (n0 most1 : Int) (w : World) (R : Post) : Prop :=
  sel (decide (n0 < 0)) (S2 n0 most1 w R) (S3 n0 most1 w R)
def KE_S1 (E : Env) (w : World) (R : Post) : Prop := W.asInt .i64 (Env.get? E 0) fun n0 => W.asInt .i64 (Env.get? E 1) fun most1 => S1 n0 most1 w R
theorem KE_S1_ok (R : Post) (E : Env) (w : World) (h : KE_S1 E w R) : WP Try.prog (cx 13) C5 (Q1 R) E w := by
  obtain ⟨n0, hq0, h_1⟩ := asInt_elim h
  obtain ⟨most1, hq1, h_2⟩ := asInt_elim h_1
  exact fun a ha => WP.at (n := (cx 13)) (E := [(0, .i n0), (1, .i most1)]) (WP.seq (c := C5) (x := C8) (y := C6) (by kernel_rfl) <| WP.reg (c := C8) (fun E w => condK (Env.val E (.tmp 6)) (KE_S2 E w R) (KE_S3 E w R)) (by kernel_rfl) (Eq.mp (by kernel_rfl) h_2) fun _ _ a hA hK => (WP.condK (c := C6) (x := C7) (y := C9) (o := .tmp 6) (by kernel_rfl) (fun hK => (KE_S2_ok R _ _ hK)) (fun hK => (WP.skip (c := C9) (by kernel_rfl) fun a hA => (KE_S3_ok R _ _ hK) a hA)) hK) a hA) (ha.cons hq0 (ha.cons hq1 ha.nil))
noncomputable def C10:=C0.fs
/-- ref.go:5 -/
abbrev S0 (n0 most1 : Int) (w : World) (R : Post) : Prop :=
  S1 n0 most1 w R
def KE_S0 (E : Env) (w : World) (R : Post) : Prop := W.asInt .i64 (Env.get? E 0) fun n0 => W.asInt .i64 (Env.get? E 1) fun most1 => S0 n0 most1 w R
theorem KE_S0_ok (R : Post) (E : Env) (w : World) (h : KE_S0 E w R) : WP Try.prog (cx 13) C0 (Q0 R) E w := by
  obtain ⟨n0, hq0, h_1⟩ := asInt_elim h
  obtain ⟨most1, hq1, h_2⟩ := asInt_elim h_1
  exact fun a ha => WP.at (n := (cx 13)) (E := [(0, .i n0), (1, .i most1)]) (WP.seq (c := C0) (x := C10) (y := C1) (by kernel_rfl) <| WP.reg (c := C10) (fun E w => KE_S1 E w R) (by kernel_rfl) (Eq.mp (by kernel_rfl) h_2) fun _ _ a hA hK => (WP.seq (c := C1) (x := C5) (y := C2) (by kernel_rfl) (KE_S1_ok R _ _ hK)) a hA) (ha.cons hq0 (ha.cons hq1 ha.nil))
/-- enthymeme/enthymemeref01.Around -/
theorem ok (n0 most1 : Int) (w : World) (R : Post) (h : S0 n0 most1 w R) : Calls Try.prog n_enthymemeref01_Around #[.i n0, .i most1] w R :=
  calls_of_WP' (R := R) (fn := Try.f20) (c := C0) (args := [.i n0, .i most1]) (by kernel_rfl) (by kernel_rfl) (by kernel_rfl) (KE_S0_ok R _ _ (Eq.mp (by kernel_rfl) h))
end enthymemeref01_Around
namespace enthymemeref01_SameBytes
noncomputable def C0 : Code := (Try.f33.body).getD .skip
noncomputable def C1:=C0.sn
noncomputable def C2:=C1.fs
noncomputable def C3:=C2.sn
noncomputable def C4:=C3.fs
noncomputable def C5:=C1.sn
abbrev Q0 (R : Post) : Exit → Act → World → Prop := (Exit.then (wpx Try.prog (cx 26) C5 (bodyPost Try.prog Try.f33 R)) (bodyPost Try.prog Try.f33 R))
noncomputable def C6:=C4.fs
noncomputable def C7:=C4.sn
/-- ref.go:48 -/
abbrev S2  (w : World) (R : Post) : Prop :=
  R (.returned (.bool false)) w
def KE_S2 (E : Env) (w : World) (R : Post) : Prop := S2  w R
theorem KE_S2_ok (R : Post) (E : Env) (w : World) (h : KE_S2 E w R) : WP Try.prog (cx 26) C4 (Q0 R) E w := by
  exact fun a ha => WP.at (n := (cx 26)) (E := []) (WP.seq (c := C4) (x := C6) (y := C7) (by kernel_rfl) <| WP.reg (c := C6) (fun E w => retVC Try.prog Try.f33 E w (fun v => R (.returned v) w)) (by kernel_rfl) (Eq.mp (by kernel_rfl) h) fun _ _ a hA hK => (WP.ret (c := C7) (by kernel_rfl) fun a hA => retVC_sound hA hK) a hA) ha.nil
noncomputable def C8:=C5.fs
noncomputable def C9:=C8.sn
noncomputable def C10:=C9.fs
noncomputable def C11:=C10.fs
noncomputable def C12:=C5.sn
abbrev Q1 (R : Post) : Exit → Act → World → Prop := (Exit.then (wpx Try.prog (cx 26) C12 (bodyPost Try.prog Try.f33 R)) (bodyPost Try.prog Try.f33 R))
abbrev Q2 (R : Post) : Exit → Act → World → Prop := (Exit.inBlock 0 (Q1 R))
/-- the head of the loop, ref.go:50 -/
def L4 (a0 b1 : Sl) (i5 : Int) (w : World) (R : Post) : Prop := LP Try.prog (cx 26) C11 (Q2 R) [(0, a0.v), (1, b1.v), (5, .i i5)] w
def KE_L4 (E : Env) (w : World) (R : Post) : Prop := asSlice (Env.get? E 0) fun a0 => asSlice (Env.get? E 1) fun b1 => W.asInt .i64 (Env.get? E 5) fun i5 => L4 a0 b1 i5 w R
theorem KE_L4_ok (R : Post) (E : Env) (w : World) (h : KE_L4 E w R) : LP Try.prog (cx 26) C11 (Q2 R) E w := by
  obtain ⟨a0, hq0, h_1⟩ := asSlice_elim h
  obtain ⟨b1, hq1, h_2⟩ := asSlice_elim h_1
  obtain ⟨i5, hq5, h_3⟩ := asInt_elim h_2
  intro a ha
  exact h_3 a (ha.cons hq0 (ha.cons hq1 (ha.cons hq5 ha.nil)))
noncomputable def C13:=C11.sn
noncomputable def C14:=C13.fs
noncomputable def C15:=C14.fs
noncomputable def C16:=C15.sn
noncomputable def C17:=C16.fs
noncomputable def C18:=C13.sn
abbrev Q3 (R : Post) : Exit → Act → World → Prop := (Exit.then (wpx Try.prog (cx 26) C18 (Exit.then (LoopWP Try.prog (cx 26) C11 (Q2 R)) (Q2 R))) (Exit.then (LoopWP Try.prog (cx 26) C11 (Q2 R)) (Q2 R)))
abbrev Q4 (R : Post) : Exit → Act → World → Prop := (Exit.inBlock 1 (Q3 R))
noncomputable def C19:=C17.fs
noncomputable def C20:=C17.sn
/-- ref.go:52 -/
abbrev S7  (w : World) (R : Post) : Prop :=
  R (.returned (.bool false)) w
def KE_S7 (E : Env) (w : World) (R : Post) : Prop := S7  w R
theorem KE_S7_ok (R : Post) (E : Env) (w : World) (h : KE_S7 E w R) : WP Try.prog (cx 26) C17 (Q4 R) E w := by
  exact fun a ha => WP.at (n := (cx 26)) (E := []) (WP.seq (c := C17) (x := C19) (y := C20) (by kernel_rfl) <| WP.reg (c := C19) (fun E w => retVC Try.prog Try.f33 E w (fun v => R (.returned v) w)) (by kernel_rfl) (Eq.mp (by kernel_rfl) h) fun _ _ a hA hK => (WP.ret (c := C20) (by kernel_rfl) fun a hA => retVC_sound hA hK) a hA) ha.nil
abbrev Q5 (R : Post) : Exit → Act → World → Prop := (Exit.then (LoopWP Try.prog (cx 26) C11 (Q2 R)) (Q2 R))
/-- ref.go:50 -/
abbrev S8 (a0 b1 : Sl) (i5 : Int) (w : World) (R : Post) : Prop :=
  L4 a0 b1 (IntKind.wrap .i64 (i5 + 1)) w R
def KE_S8 (E : Env) (w : World) (R : Post) : Prop := asSlice (Env.get? E 0) fun a0 => asSlice (Env.get? E 1) fun b1 => W.asInt .i64 (Env.get? E 5) fun i5 => S8 a0 b1 i5 w R
theorem KE_S8_ok (R : Post) (E : Env) (w : World) (h : KE_S8 E w R) : WP Try.prog (cx 26) C18 (Q5 R) E w := by
  obtain ⟨a0, hq0, h_1⟩ := asSlice_elim h
  obtain ⟨b1, hq1, h_2⟩ := asSlice_elim h_1
  obtain ⟨i5, hq5, h_3⟩ := asInt_elim h_2
  exact fun a ha => WP.at (n := (cx 26)) (E := [(0, a0.v), (1, b1.v), (5, .i i5)]) (WP.reg (c := C18) (fun E w => KE_L4 E w R) (by kernel_rfl) (Eq.mp (by kernel_rfl) h_3) fun _ _ a hA hK => KE_L4_ok R _ _ hK a hA) (ha.cons hq0 (ha.cons hq1 (ha.cons hq5 ha.nil)))
noncomputable def C21:=C15.fs
noncomputable def C22:=C16.sn
/-- ref.go:51 -/
abbrev S6 (a0 b1 : Sl) (i5 : Int) (w : World) (R : Post) : Prop :=
  (0 : Int) ≤ i5 ∧ i5 < ((a0.n : Nat) : Int) ∧ optP a0.a fun t19_p => ∃ t20 : Int, w.drew.cell? (t19_p.add (Int.toNat i5 * 1)) = some (.int .u8 t20) ∧ 
  (0 : Int) ≤ i5 ∧ i5 < ((b1.n : Nat) : Int) ∧ optP b1.a fun t23_p => ∃ t24 : Int, w.drew.cell? (t23_p.add (Int.toNat i5 * 1)) = some (.int .u8 t24) ∧ 
  sel (t20 != t24) (S7  w.drew R) (S8 a0 b1 i5 w.drew R)
def KE_S6 (E : Env) (w : World) (R : Post) : Prop := asSlice (Env.get? E 0) fun a0 => asSlice (Env.get? E 1) fun b1 => W.asInt .i64 (Env.get? E 5) fun i5 => S6 a0 b1 i5 w R
theorem KE_S6_ok (R : Post) (E : Env) (w : World) (h : KE_S6 E w R) : WP Try.prog (cx 26) C15 (Q4 R) E w := by
  obtain ⟨a0, hq0, h_1⟩ := asSlice_elim h
  obtain ⟨b1, hq1, h_2⟩ := asSlice_elim h_1
  obtain ⟨i5, hq5, h_3⟩ := asInt_elim h_2
  exact fun a ha => WP.at (n := (cx 26)) (E := [(0, a0.v), (1, b1.v), (5, .i i5)]) (WP.seq (c := C15) (x := C21) (y := C16) (by kernel_rfl) <| WP.draw (c := C21) [0, 1, 2, 3, 4, 5, 6, 7, 8] (fun E w => condK (Env.val E (.tmp 25)) (KE_S7 E w R) (KE_S8 E w R)) (by kernel_rfl) (Eq.mp (by kernel_rfl) h_3) fun _ _ a hA hK => (WP.condK (c := C16) (x := C17) (y := C22) (o := .tmp 25) (by kernel_rfl) (fun hK => (KE_S7_ok R _ _ hK)) (fun hK => (WP.skip (c := C22) (by kernel_rfl) fun a hA => (KE_S8_ok R _ _ hK) a hA)) hK) a hA) (ha.cons hq0 (ha.cons hq1 (ha.cons hq5 ha.nil)))
abbrev Q6 (R : Post) : Exit → Act → World → Prop := (bodyPost Try.prog Try.f33 R)
noncomputable def C23:=C12.fs
noncomputable def C24:=C12.sn
/-- ref.go:55 -/
abbrev S9  (w : World) (R : Post) : Prop :=
  R (.returned (.bool true)) w
def KE_S9 (E : Env) (w : World) (R : Post) : Prop := S9  w R
theorem KE_S9_ok (R : Post) (E : Env) (w : World) (h : KE_S9 E w R) : WP Try.prog (cx 26) C12 (Q6 R) E w := by
  exact fun a ha => WP.at (n := (cx 26)) (E := []) (WP.seq (c := C12) (x := C23) (y := C24) (by kernel_rfl) <| WP.reg (c := C23) (fun E w => retVC Try.prog Try.f33 E w (fun v => R (.returned v) w)) (by kernel_rfl) (Eq.mp (by kernel_rfl) h) fun _ _ a hA hK => (WP.ret (c := C24) (by kernel_rfl) fun a hA => retVC_sound hA hK) a hA) ha.nil
noncomputable def C25:=C11.fs
abbrev Q7 (R : Post) : Exit → Act → World → Prop := (Exit.then (wpx Try.prog (cx 26) C13 (Exit.then (LoopWP Try.prog (cx 26) C11 (Q2 R)) (Q2 R))) (Exit.then (LoopWP Try.prog (cx 26) C11 (Q2 R)) (Q2 R)))
noncomputable def C26:=C25.fs
noncomputable def C27:=C25.sn
noncomputable def C28:=C27.fs
noncomputable def C29:=C27.sn
/-- ref.go:50 -/
abbrev S5 (a0 b1 : Sl) (i5 : Int) (w : World) (R : Post) : Prop :=
  sel (decide (i5 < ((a0.n : Nat) : Int))) (S6 a0 b1 i5 w R) (S9  w R)
def KE_S5 (E : Env) (w : World) (R : Post) : Prop := asSlice (Env.get? E 0) fun a0 => asSlice (Env.get? E 1) fun b1 => W.asInt .i64 (Env.get? E 5) fun i5 => S5 a0 b1 i5 w R
theorem KE_S5_ok (R : Post) (E : Env) (w : World) (h : KE_S5 E w R) : WP Try.prog (cx 26) C25 (Q7 R) E w := by
  obtain ⟨a0, hq0, h_1⟩ := asSlice_elim h
  obtain ⟨b1, hq1, h_2⟩ := asSlice_elim h_1
  obtain ⟨i5, hq5, h_3⟩ := asInt_elim h_2
  exact fun a ha => WP.at (n := (cx 26)) (E := [(0, a0.v), (1, b1.v), (5, .i i5)]) (WP.seq (c := C25) (x := C26) (y := C27) (by kernel_rfl) <| WP.reg (c := C26) (fun E w => condK (Env.val E (.tmp 14)) (KE_S6 E w R) (KE_S9 E w R)) (by kernel_rfl) (Eq.mp (by kernel_rfl) h_3) fun _ _ a hA hK => (WP.condK (c := C27) (x := C28) (y := C29) (o := .tmp 14) (by kernel_rfl) (fun hK => (WP.skip (c := C28) (by kernel_rfl) fun a hA => (WP.seq (c := C13) (x := C14) (y := C18) (by kernel_rfl) (WP.block (c := C14) (x := C15) (id := 1) (by kernel_rfl) (KE_S6_ok R _ _ hK))) a hA)) (fun hK => (WP.exit (c := C29) (id := 0) (by kernel_rfl) fun a hA => (KE_S9_ok R _ _ hK) a hA)) hK) a hA) (ha.cons hq0 (ha.cons hq1 (ha.cons hq5 ha.nil)))
theorem L4_step (a0 b1 : Sl) (i5 : Int) (w : World) (R : Post) (h : S5 a0 b1 i5 w R) : L4 a0 b1 i5 w R :=
  LP.step (n := (cx 26)) (c := C11) (E := [(0, a0.v), (1, b1.v), (5, .i i5)]) (w := w) (WP.seq (c := C11) (x := C25) (y := C13) (by kernel_rfl) (KE_S5_ok R _ _ (Eq.mp (by kernel_rfl) h)))
noncomputable def C30:=C8.fs
/-- ref.go:50 -/
abbrev S3 (a0 b1 : Sl) (w : World) (R : Post) : Prop :=
  L4 a0 b1 0 w R
def KE_S3 (E : Env) (w : World) (R : Post) : Prop := asSlice (Env.get? E 0) fun a0 => asSlice (Env.get? E 1) fun b1 => S3 a0 b1 w R
theorem KE_S3_ok (R : Post) (E : Env) (w : World) (h : KE_S3 E w R) : WP Try.prog (cx 26) C8 (Q1 R) E w := by
  obtain ⟨a0, hq0, h_1⟩ := asSlice_elim h
  obtain ⟨b1, hq1, h_2⟩ := asSlice_elim h_1
  exact fun a ha => WP.at (n := (cx 26)) (E := [(0, a0.v), (1, b1.v)]) (WP.seq (c := C8) (x := C30) (y := C9) (by kernel_rfl) <| WP.reg (c := C30) (fun E w => KE_L4 E w R) (by kernel_rfl) (Eq.mp (by kernel_rfl) h_2) fun _ _ a hA hK => (WP.block (c := C9) (x := C10) (id := 0) (by kernel_rfl) (WP.loop (c := C10) (x := C11) (by kernel_rfl) (KE_L4_ok R _ _ hK))) a hA) (ha.cons hq0 (ha.cons hq1 ha.nil))
noncomputable def C31:=C2.fs
noncomputable def C32:=C3.sn
/-- ref.go:47 -/
abbrev S1 (a0 b1 : Sl) (w : World) (R : Post) : Prop :=
  sel (((a0.n : Nat) : Int) != ((b1.n : Nat) : Int)) (S2  w R) (S3 a0 b1 w R)
def KE_S1 (E : Env) (w : World) (R : Post) : Prop := asSlice (Env.get? E 0) fun a0 => asSlice (Env.get? E 1) fun b1 => S1 a0 b1 w R
theorem KE_S1_ok (R : Post) (E : Env) (w : World) (h : KE_S1 E w R) : WP Try.prog (cx 26) C2 (Q0 R) E w := by
  obtain ⟨a0, hq0, h_1⟩ := asSlice_elim h
  obtain ⟨b1, hq1, h_2⟩ := asSlice_elim h_1
  exact fun a ha => WP.at (n := (cx 26)) (E := [(0, a0.v), (1, b1.v)]) (WP.seq (c := C2) (x := C31) (y := C3) (by kernel_rfl) <| WP.reg (c := C31) (fun E w => condK (Env.val E (.tmp 10)) (KE_S2 E w R) (KE_S3 E w R)) (by kernel_rfl) (Eq.mp (by kernel_rfl) h_2) fun _ _ a hA hK => (WP.condK (c := C3) (x := C4) (y := C32) (o := .tmp 10) (by kernel_rfl) (fun hK => (KE_S2_ok R _ _ hK)) (fun hK => (WP.skip (c := C32) (by kernel_rfl) fun a hA => (WP.seq (c := C5) (x := C8) (y := C12) (by kernel_rfl) (KE_S3_ok R _ _ hK)) a hA)) hK) a hA) (ha.cons hq0 (ha.cons hq1 ha.nil))
noncomputable def C33:=C0.fs
/-- ref.go:46 -/
abbrev S0 (a0 b1 : Sl) (w : World) (R : Post) : Prop :=
  S1 a0 b1 w R
def KE_S0 (E : Env) (w : World) (R : Post) : Prop := asSlice (Env.get? E 0) fun a0 => asSlice (Env.get? E 1) fun b1 => S0 a0 b1 w R
theorem KE_S0_ok (R : Post) (E : Env) (w : World) (h : KE_S0 E w R) : WP Try.prog (cx 26) C0 (Q6 R) E w := by
  obtain ⟨a0, hq0, h_1⟩ := asSlice_elim h
  obtain ⟨b1, hq1, h_2⟩ := asSlice_elim h_1
  exact fun a ha => WP.at (n := (cx 26)) (E := [(0, a0.v), (1, b1.v)]) (WP.seq (c := C0) (x := C33) (y := C1) (by kernel_rfl) <| WP.reg (c := C33) (fun E w => KE_S1 E w R) (by kernel_rfl) (Eq.mp (by kernel_rfl) h_2) fun _ _ a hA hK => (WP.seq (c := C1) (x := C2) (y := C5) (by kernel_rfl) (KE_S1_ok R _ _ hK)) a hA) (ha.cons hq0 (ha.cons hq1 ha.nil))
/-- enthymeme/enthymemeref01.SameBytes -/
theorem ok (a0 b1 : Sl) (w : World) (R : Post) (h : S0 a0 b1 w R) : Calls Try.prog n_enthymemeref01_SameBytes #[a0.v, b1.v] w R :=
  calls_of_WP' (R := R) (fn := Try.f33) (c := C0) (args := [a0.v, b1.v]) (by kernel_rfl) (by kernel_rfl) (by kernel_rfl) (KE_S0_ok R _ _ (Eq.mp (by kernel_rfl) h))
end enthymemeref01_SameBytes
namespace enthymemeref01_Pick
noncomputable def C0 : Code := (Try.f46.body).getD .skip
noncomputable def C1:=C0.sn
noncomputable def C2:=C1.fs
noncomputable def C3:=C2.sn
noncomputable def C4:=C3.fs
noncomputable def C5:=C1.sn
abbrev Q0 (R : Post) : Exit → Act → World → Prop := (Exit.then (wpx Try.prog (cx 21) C5 (bodyPost Try.prog Try.f46 R)) (bodyPost Try.prog Try.f46 R))
noncomputable def C6:=C4.fs
noncomputable def C7:=C4.sn
/-- ref.go:104 -/
abbrev S2  (w : World) (R : Post) : Prop :=
  R (.returned (.i 0)) w
def KE_S2 (E : Env) (w : World) (R : Post) : Prop := S2  w R
theorem KE_S2_ok (R : Post) (E : Env) (w : World) (h : KE_S2 E w R) : WP Try.prog (cx 21) C4 (Q0 R) E w := by
  exact fun a ha => WP.at (n := (cx 21)) (E := []) (WP.seq (c := C4) (x := C6) (y := C7) (by kernel_rfl) <| WP.reg (c := C6) (fun E w => retVC Try.prog Try.f46 E w (fun v => R (.returned v) w)) (by kernel_rfl) (Eq.mp (by kernel_rfl) h) fun _ _ a hA hK => (WP.ret (c := C7) (by kernel_rfl) fun a hA => retVC_sound hA hK) a hA) ha.nil
abbrev Q1 (R : Post) : Exit → Act → World → Prop := (bodyPost Try.prog Try.f46 R)
noncomputable def C8:=C5.fs
noncomputable def C9:=C5.sn
/-- ref.go:106 -/
abbrev S3 (l0 : Sl) (i1 most2 : Int) (w : World) (R : Post) : Prop :=
  (0 : Int) ≤ i1 ∧ i1 < ((l0.n : Nat) : Int) ∧ optP l0.a fun t17_p => ∃ t18 : Int, w.cell? (t17_p.add (Int.toNat i1 * 1)) = some (.i t18) ∧ 
  Calls Try.prog n_enthymemeref01_Around #[.i t18, .i most2] w fun r_ w1 => ∃ t20 : Int, r_ = .returned (.i t20) ∧ 
  R (.returned (.i t20)) w1
def KE_S3 (E : Env) (w : World) (R : Post) : Prop := asSlice (Env.get? E 0) fun l0 => W.asInt .i64 (Env.get? E 1) fun i1 => W.asInt .i64 (Env.get? E 2) fun most2 => S3 l0 i1 most2 w R
theorem KE_S3_ok (R : Post) (E : Env) (w : World) (h : KE_S3 E w R) : WP Try.prog (cx 21) C5 (Q1 R) E w := by
  obtain ⟨l0, hq0, h_1⟩ := asSlice_elim h
  obtain ⟨i1, hq1, h_2⟩ := asInt_elim h_1
  obtain ⟨most2, hq2, h_3⟩ := asInt_elim h_2
  exact fun a ha => WP.at (n := (cx 21)) (E := [(0, l0.v), (1, .i i1), (2, .i most2)]) (WP.seq (c := C5) (x := C8) (y := C9) (by kernel_rfl) <| WP.reg (c := C8) (fun E w => retVC Try.prog Try.f46 E w (fun v => R (.returned v) w)) (by kernel_rfl) (Eq.mp (by kernel_rfl) h_3) fun _ _ a hA hK => (WP.ret (c := C9) (by kernel_rfl) fun a hA => retVC_sound hA hK) a hA) (ha.cons hq0 (ha.cons hq1 (ha.cons hq2 ha.nil)))
noncomputable def C10:=C2.fs
noncomputable def C11:=C3.sn
/-- ref.go:103 -/
abbrev S1 (l0 : Sl) (i1 most2 : Int) (w : World) (R : Post) : Prop :=
  sel (decide (i1 < 0)) (S2  w R) (sel (decide (i1 ≥ ((l0.n : Nat) : Int))) (S2  w R) (S3 l0 i1 most2 w R))
def KE_S1 (E : Env) (w : World) (R : Post) : Prop := asSlice (Env.get? E 0) fun l0 => W.asInt .i64 (Env.get? E 1) fun i1 => W.asInt .i64 (Env.get? E 2) fun most2 => S1 l0 i1 most2 w R
theorem KE_S1_ok (R : Post) (E : Env) (w : World) (h : KE_S1 E w R) : WP Try.prog (cx 21) C2 (Q0 R) E w := by
  obtain ⟨l0, hq0, h_1⟩ := asSlice_elim h
  obtain ⟨i1, hq1, h_2⟩ := asInt_elim h_1
  obtain ⟨most2, hq2, h_3⟩ := asInt_elim h_2
  exact fun a ha => WP.at (n := (cx 21)) (E := [(0, l0.v), (1, .i i1), (2, .i most2)]) (WP.seq (c := C2) (x := C10) (y := C3) (by kernel_rfl) <| WP.reg (c := C10) (fun E w => condK (Env.val E (.tmp 14)) (KE_S2 E w R) (KE_S3 E w R)) (by kernel_rfl) (Eq.mp (by kernel_rfl) h_3) fun _ _ a hA hK => (WP.condK (c := C3) (x := C4) (y := C11) (o := .tmp 14) (by kernel_rfl) (fun hK => (KE_S2_ok R _ _ hK)) (fun hK => (WP.skip (c := C11) (by kernel_rfl) fun a hA => (KE_S3_ok R _ _ hK) a hA)) hK) a hA) (ha.cons hq0 (ha.cons hq1 (ha.cons hq2 ha.nil)))
noncomputable def C12:=C0.fs
/-- ref.go:102 -/
abbrev S0 (l0 : Sl) (i1 most2 : Int) (w : World) (R : Post) : Prop :=
  S1 l0 i1 most2 w R
def KE_S0 (E : Env) (w : World) (R : Post) : Prop := asSlice (Env.get? E 0) fun l0 => W.asInt .i64 (Env.get? E 1) fun i1 => W.asInt .i64 (Env.get? E 2) fun most2 => S0 l0 i1 most2 w R
theorem KE_S0_ok (R : Post) (E : Env) (w : World) (h : KE_S0 E w R) : WP Try.prog (cx 21) C0 (Q1 R) E w := by
  obtain ⟨l0, hq0, h_1⟩ := asSlice_elim h
  obtain ⟨i1, hq1, h_2⟩ := asInt_elim h_1
  obtain ⟨most2, hq2, h_3⟩ := asInt_elim h_2
  exact fun a ha => WP.at (n := (cx 21)) (E := [(0, l0.v), (1, .i i1), (2, .i most2)]) (WP.seq (c := C0) (x := C12) (y := C1) (by kernel_rfl) <| WP.reg (c := C12) (fun E w => KE_S1 E w R) (by kernel_rfl) (Eq.mp (by kernel_rfl) h_3) fun _ _ a hA hK => (WP.seq (c := C1) (x := C2) (y := C5) (by kernel_rfl) (KE_S1_ok R _ _ hK)) a hA) (ha.cons hq0 (ha.cons hq1 (ha.cons hq2 ha.nil)))
/-- enthymeme/enthymemeref01.Pick -/
theorem ok (l0 : Sl) (i1 most2 : Int) (w : World) (R : Post) (h : S0 l0 i1 most2 w R) : Calls Try.prog n_enthymemeref01_Pick #[l0.v, .i i1, .i most2] w R :=
  calls_of_WP' (R := R) (fn := Try.f46) (c := C0) (args := [l0.v, .i i1, .i most2]) (by kernel_rfl) (by kernel_rfl) (by kernel_rfl) (KE_S0_ok R _ _ (Eq.mp (by kernel_rfl) h))
end enthymemeref01_Pick
namespace slices_Clone_sl_byte_byte
noncomputable def C0 : Code := (Try.f74.body).getD .skip
noncomputable def C1:=C0.sn
noncomputable def C2:=C1.fs
noncomputable def C3:=C2.sn
noncomputable def C4:=C3.fs
noncomputable def C5:=C1.sn
abbrev Q0 (R : Post) : Exit → Act → World → Prop := (Exit.then (wpx Try.prog (cx 8) C5 (bodyPost Try.prog Try.f74 R)) (bodyPost Try.prog Try.f74 R))
noncomputable def C6:=C4.fs
noncomputable def C7:=C4.sn
/-- slices.go:358 -/
abbrev S2  (w : World) (R : Post) : Prop :=
  R (.returned (.slice none 0 0)) w
def KE_S2 (E : Env) (w : World) (R : Post) : Prop := S2  w R
theorem KE_S2_ok (R : Post) (E : Env) (w : World) (h : KE_S2 E w R) : WP Try.prog (cx 8) C4 (Q0 R) E w := by
  exact fun a ha => WP.at (n := (cx 8)) (E := []) (WP.seq (c := C4) (x := C6) (y := C7) (by kernel_rfl) <| WP.reg (c := C6) (fun E w => retVC Try.prog Try.f74 E w (fun v => R (.returned v) w)) (by kernel_rfl) (Eq.mp (by kernel_rfl) h) fun _ _ a hA hK => (WP.ret (c := C7) (by kernel_rfl) fun a hA => retVC_sound hA hK) a hA) ha.nil
abbrev Q1 (R : Post) : Exit → Act → World → Prop := (bodyPost Try.prog Try.f74 R)
noncomputable def C8:=C5.fs
noncomputable def C9:=C5.sn
/-- slices.go:362 -/
abbrev S3 (s0 : Sl) (w : World) (R : Post) : Prop :=
  let w1 := w.alloc (.cells #[] ty_uint8)
  ∃ (t7 : Sl) (w2 : World), Sem.run Try.prog (Builtin.append_ #[ty_sl_uint8, ty_sl_uint8] ty_sl_uint8 #[.slice (some (nb w)) 0 0, s0.v]) w1 = .ok (t7.v) w2 ∧ R (.returned (t7.v)) w2
def KE_S3 (E : Env) (w : World) (R : Post) : Prop := asSlice (Env.get? E 0) fun s0 => S3 s0 w R
theorem KE_S3_ok (R : Post) (E : Env) (w : World) (h : KE_S3 E w R) : WP Try.prog (cx 8) C5 (Q1 R) E w := by
  obtain ⟨s0, hq0, h_1⟩ := asSlice_elim h
  exact fun a ha => WP.at (n := (cx 8)) (E := [(0, s0.v)]) (WP.seq (c := C5) (x := C8) (y := C9) (by kernel_rfl) <| WP.reg (c := C8) (fun E w => retVC Try.prog Try.f74 E w (fun v => R (.returned v) w)) (by kernel_rfl) (Eq.mp (by kernel_rfl) h_1) fun _ _ a hA hK => (WP.ret (c := C9) (by kernel_rfl) fun a hA => retVC_sound hA hK) a hA) (ha.cons hq0 ha.nil)
noncomputable def C10:=C2.fs
noncomputable def C11:=C3.sn
/-- slices.go:357 -/
abbrev S1 (s0 : Sl) (w : World) (R : Post) : Prop :=
  sel s0.a.isNone (S2  w R) (S3 s0 w R)
def KE_S1 (E : Env) (w : World) (R : Post) : Prop := asSlice (Env.get? E 0) fun s0 => S1 s0 w R
theorem KE_S1_ok (R : Post) (E : Env) (w : World) (h : KE_S1 E w R) : WP Try.prog (cx 8) C2 (Q0 R) E w := by
  obtain ⟨s0, hq0, h_1⟩ := asSlice_elim h
  exact fun a ha => WP.at (n := (cx 8)) (E := [(0, s0.v)]) (WP.seq (c := C2) (x := C10) (y := C3) (by kernel_rfl) <| WP.reg (c := C10) (fun E w => condK (Env.val E (.tmp 4)) (KE_S2 E w R) (KE_S3 E w R)) (by kernel_rfl) (Eq.mp (by kernel_rfl) h_1) fun _ _ a hA hK => (WP.condK (c := C3) (x := C4) (y := C11) (o := .tmp 4) (by kernel_rfl) (fun hK => (KE_S2_ok R _ _ hK)) (fun hK => (WP.skip (c := C11) (by kernel_rfl) fun a hA => (KE_S3_ok R _ _ hK) a hA)) hK) a hA) (ha.cons hq0 ha.nil)
noncomputable def C12:=C0.fs
/-- slices.go:355 -/
abbrev S0 (s0 : Sl) (w : World) (R : Post) : Prop :=
  S1 s0 w R
def KE_S0 (E : Env) (w : World) (R : Post) : Prop := asSlice (Env.get? E 0) fun s0 => S0 s0 w R
theorem KE_S0_ok (R : Post) (E : Env) (w : World) (h : KE_S0 E w R) : WP Try.prog (cx 8) C0 (Q1 R) E w := by
  obtain ⟨s0, hq0, h_1⟩ := asSlice_elim h
  exact fun a ha => WP.at (n := (cx 8)) (E := [(0, s0.v)]) (WP.seq (c := C0) (x := C12) (y := C1) (by kernel_rfl) <| WP.reg (c := C12) (fun E w => KE_S1 E w R) (by kernel_rfl) (Eq.mp (by kernel_rfl) h_1) fun _ _ a hA hK => (WP.seq (c := C1) (x := C2) (y := C5) (by kernel_rfl) (KE_S1_ok R _ _ hK)) a hA) (ha.cons hq0 ha.nil)
/-- slices.Clone[[]byte,byte] -/
theorem ok (s0 : Sl) (w : World) (R : Post) (h : S0 s0 w R) : Calls Try.prog n_slices_Clone_sl_byte_byte #[s0.v] w R :=
  calls_of_WP' (R := R) (fn := Try.f74) (c := C0) (args := [s0.v]) (by kernel_rfl) (by kernel_rfl) (by kernel_rfl) (KE_S0_ok R _ _ (Eq.mp (by kernel_rfl) h))
end slices_Clone_sl_byte_byte
namespace wire_Writer_Uint
noncomputable def C0 : Code := (Try.f65.body).getD .skip
noncomputable def C1:=C0.fs
noncomputable def C2:=C1.fs
noncomputable def C3:=C2.fs
noncomputable def C4:=C0.sn
abbrev Q0 (R : Post) : Exit → Act → World → Prop := (Exit.then (wpx Try.prog (cx 31) C4 (bodyPost Try.prog Try.f65 R)) (bodyPost Try.prog Try.f65 R))
abbrev Q1 (R : Post) : Exit → Act → World → Prop := (Exit.inBlock 0 (Q0 R))
/-- the head of the loop, wire.go:22 -/
def L0 (wv0 : Addr) (n1 : Int) (w : World) (R : Post) : Prop := LP Try.prog (cx 31) C3 (Q1 R) [(0, .pointer (some wv0)), (1, .u n1)] w
def KE_L0 (E : Env) (w : World) (R : Post) : Prop := asRef (Env.get? E 0) fun wv0 => W.asInt .u64 (Env.get? E 1) fun n1 => L0 wv0 n1 w R
theorem KE_L0_ok (R : Post) (E : Env) (w : World) (h : KE_L0 E w R) : LP Try.prog (cx 31) C3 (Q1 R) E w := by
  obtain ⟨wv0, hq0, h_1⟩ := asRef_elim h
  obtain ⟨n1, hq1, h_2⟩ := asInt_elim h_1
  intro a ha
  exact h_2 a (ha.cons hq0 (ha.cons hq1 ha.nil))
noncomputable def C5:=C3.sn
noncomputable def C6:=C5.fs
noncomputable def C7:=C6.sn
abbrev Q2 (R : Post) : Exit → Act → World → Prop := (Exit.then (LoopWP Try.prog (cx 31) C3 (Q1 R)) (Q1 R))
abbrev Q3 (R : Post) : Exit → Act → World → Prop := (Exit.inBlock 1 (Q2 R))
/-- wire.go:24 -/
abbrev S3 (wv0 : Addr) (n1 : Int) (w : World) (R : Post) : Prop :=
  L0 wv0 (Int.fdiv n1 (2 ^ (7))) w R
def KE_S3 (E : Env) (w : World) (R : Post) : Prop := asRef (Env.get? E 0) fun wv0 => W.asInt .u64 (Env.get? E 1) fun n1 => S3 wv0 n1 w R
theorem KE_S3_ok (R : Post) (E : Env) (w : World) (h : KE_S3 E w R) : WP Try.prog (cx 31) C7 (Q3 R) E w := by
  obtain ⟨wv0, hq0, h_1⟩ := asRef_elim h
  obtain ⟨n1, hq1, h_2⟩ := asInt_elim h_1
  exact fun a ha => WP.at (n := (cx 31)) (E := [(0, .pointer (some wv0)), (1, .u n1)]) (WP.reg (c := C7) (fun E w => KE_L0 E w R) (by kernel_rfl) (Eq.mp (by kernel_rfl) h_2) fun _ _ a hA hK => KE_L0_ok R _ _ hK a hA) (ha.cons hq0 (ha.cons hq1 ha.nil))
noncomputable def C8:=C6.fs
/-- wire.go:23 -/
abbrev S2 (wv0 : Addr) (n1 : Int) (w : World) (R : Post) : Prop :=
  ∃ t10 : Sl, w.cell? (wv0.add 0) = some (t10.v) ∧ 
  let w1 := w.alloc (.cells #[.int .u8 (bOr .u8 (IntKind.wrap .u8 n1) 128)] ty_uint8)
  ∃ (t15 : Sl) (w2 : World), Sem.run Try.prog (Builtin.append_ #[ty_sl_uint8, ty_sl_uint8] ty_sl_uint8 #[t10.v, .slice (some (nb w)) 1 1]) w1 = .ok (t15.v) w2 ∧ (w2.cell? (wv0.add 0)).isSome = true ∧ w2.frozen? (wv0.add 0) = false ∧ let w3 := w2.setCell (wv0.add 0) (t15.v)
  S3 wv0 n1 w3 R
def KE_S2 (E : Env) (w : World) (R : Post) : Prop := asRef (Env.get? E 0) fun wv0 => W.asInt .u64 (Env.get? E 1) fun n1 => S2 wv0 n1 w R
theorem KE_S2_ok (R : Post) (E : Env) (w : World) (h : KE_S2 E w R) : WP Try.prog (cx 31) C6 (Q3 R) E w := by
  obtain ⟨wv0, hq0, h_1⟩ := asRef_elim h
  obtain ⟨n1, hq1, h_2⟩ := asInt_elim h_1
  exact fun a ha => WP.at (n := (cx 31)) (E := [(0, .pointer (some wv0)), (1, .u n1)]) (WP.seq (c := C6) (x := C8) (y := C7) (by kernel_rfl) <| WP.reg (c := C8) (fun E w => KE_S3 E w R) (by kernel_rfl) (Eq.mp (by kernel_rfl) h_2) fun _ _ a hA hK => (KE_S3_ok R _ _ hK) a hA) (ha.cons hq0 (ha.cons hq1 ha.nil))
abbrev Q4 (R : Post) : Exit → Act → World → Prop := (bodyPost Try.prog Try.f65 R)
/-- wire.go:26 -/
abbrev S4 (wv0 : Addr) (n1 : Int) (w : World) (R : Post) : Prop :=
  ∃ t24 : Sl, w.cell? (wv0.add 0) = some (t24.v) ∧ 
  let w1 := w.alloc (.cells #[.int .u8 (IntKind.wrap .u8 n1)] ty_uint8)
  ∃ (t28 : Sl) (w2 : World), Sem.run Try.prog (Builtin.append_ #[ty_sl_uint8, ty_sl_uint8] ty_sl_uint8 #[t24.v, .slice (some (nb w)) 1 1]) w1 = .ok (t28.v) w2 ∧ (w2.cell? (wv0.add 0)).isSome = true ∧ w2.frozen? (wv0.add 0) = false ∧ let w3 := w2.setCell (wv0.add 0) (t28.v)
  R (.returned (.tuple #[])) w3
def KE_S4 (E : Env) (w : World) (R : Post) : Prop := asRef (Env.get? E 0) fun wv0 => W.asInt .u64 (Env.get? E 1) fun n1 => S4 wv0 n1 w R
theorem KE_S4_ok (R : Post) (E : Env) (w : World) (h : KE_S4 E w R) : WP Try.prog (cx 31) C4 (Q4 R) E w := by
  obtain ⟨wv0, hq0, h_1⟩ := asRef_elim h
  obtain ⟨n1, hq1, h_2⟩ := asInt_elim h_1
  exact fun a ha => WP.at (n := (cx 31)) (E := [(0, .pointer (some wv0)), (1, .u n1)]) (WP.reg (c := C4) (fun E w => retVC Try.prog Try.f65 E w (fun v => R (.returned v) w)) (by kernel_rfl) (Eq.mp (by kernel_rfl) h_2) fun _ _ a hA hK => retVC_sound hA hK) (ha.cons hq0 (ha.cons hq1 ha.nil))
noncomputable def C9:=C3.fs
abbrev Q5 (R : Post) : Exit → Act → World → Prop := (Exit.then (wpx Try.prog (cx 31) C5 (Exit.then (LoopWP Try.prog (cx 31) C3 (Q1 R)) (Q1 R))) (Exit.then (LoopWP Try.prog (cx 31) C3 (Q1 R)) (Q1 R)))
noncomputable def C10:=C9.fs
noncomputable def C11:=C9.sn
noncomputable def C12:=C11.fs
noncomputable def C13:=C11.sn
/-- wire.go:22 -/
abbrev S1 (wv0 : Addr) (n1 : Int) (w : World) (R : Post) : Prop :=
  sel (decide (n1 ≥ 128)) (S2 wv0 n1 w R) (S4 wv0 n1 w R)
def KE_S1 (E : Env) (w : World) (R : Post) : Prop := asRef (Env.get? E 0) fun wv0 => W.asInt .u64 (Env.get? E 1) fun n1 => S1 wv0 n1 w R
theorem KE_S1_ok (R : Post) (E : Env) (w : World) (h : KE_S1 E w R) : WP Try.prog (cx 31) C9 (Q5 R) E w := by
  obtain ⟨wv0, hq0, h_1⟩ := asRef_elim h
  obtain ⟨n1, hq1, h_2⟩ := asInt_elim h_1
  exact fun a ha => WP.at (n := (cx 31)) (E := [(0, .pointer (some wv0)), (1, .u n1)]) (WP.seq (c := C9) (x := C10) (y := C11) (by kernel_rfl) <| WP.reg (c := C10) (fun E w => condK (Env.val E (.tmp 5)) (KE_S2 E w R) (KE_S4 E w R)) (by kernel_rfl) (Eq.mp (by kernel_rfl) h_2) fun _ _ a hA hK => (WP.condK (c := C11) (x := C12) (y := C13) (o := .tmp 5) (by kernel_rfl) (fun hK => (WP.skip (c := C12) (by kernel_rfl) fun a hA => (WP.block (c := C5) (x := C6) (id := 1) (by kernel_rfl) (KE_S2_ok R _ _ hK)) a hA)) (fun hK => (WP.exit (c := C13) (id := 0) (by kernel_rfl) fun a hA => (KE_S4_ok R _ _ hK) a hA)) hK) a hA) (ha.cons hq0 (ha.cons hq1 ha.nil))
theorem L0_step (wv0 : Addr) (n1 : Int) (w : World) (R : Post) (h : S1 wv0 n1 w R) : L0 wv0 n1 w R :=
  LP.step (n := (cx 31)) (c := C3) (E := [(0, .pointer (some wv0)), (1, .u n1)]) (w := w) (WP.seq (c := C3) (x := C9) (y := C5) (by kernel_rfl) (KE_S1_ok R _ _ (Eq.mp (by kernel_rfl) h)))
/-- (*enthymeme/wire.Writer).Uint -/
theorem ok (wv0 : Addr) (n1 : Int) (w : World) (R : Post) (h : L0 wv0 n1 w R) : Calls Try.prog n_wire_Writer_Uint #[.pointer (some wv0), .u n1] w R :=
  calls_of_WP' (R := R) (fn := Try.f65) (c := C0) (args := [.pointer (some wv0), .u n1]) (by kernel_rfl) (by kernel_rfl) (by kernel_rfl) (WP.seq (c := C0) (x := C1) (y := C4) (by kernel_rfl) (WP.block (c := C1) (x := C2) (id := 0) (by kernel_rfl) (WP.loop (c := C2) (x := C3) (by kernel_rfl) (KE_L0_ok R _ _ (Eq.mp (by kernel_rfl) h)))))
end wire_Writer_Uint
namespace wire_Writer_Int
noncomputable def C0 : Code := (Try.f64.body).getD .skip
abbrev Q0 (R : Post) : Exit → Act → World → Prop := (bodyPost Try.prog Try.f64 R)
/-- wire.go:17 -/
abbrev S0 (wv0 : Addr) (n1 : Int) (w : World) (R : Post) : Prop :=
  Calls Try.prog n_wire_Writer_Uint #[.pointer (some wv0), .u (bXor .u64 (IntKind.wrap .u64 ((IntKind.wrap .u64 n1) * 2 ^ (1))) (IntKind.wrap .u64 (Int.fdiv n1 (2 ^ (63)))))] w fun r_ w1 => r_ = .returned (.tuple #[]) ∧ 
  R (.returned (.tuple #[])) w1
def KE_S0 (E : Env) (w : World) (R : Post) : Prop := asRef (Env.get? E 0) fun wv0 => W.asInt .i64 (Env.get? E 1) fun n1 => S0 wv0 n1 w R
theorem KE_S0_ok (R : Post) (E : Env) (w : World) (h : KE_S0 E w R) : WP Try.prog (cx 13) C0 (Q0 R) E w := by
  obtain ⟨wv0, hq0, h_1⟩ := asRef_elim h
  obtain ⟨n1, hq1, h_2⟩ := asInt_elim h_1
  exact fun a ha => WP.at (n := (cx 13)) (E := [(0, .pointer (some wv0)), (1, .i n1)]) (WP.reg (c := C0) (fun E w => retVC Try.prog Try.f64 E w (fun v => R (.returned v) w)) (by kernel_rfl) (Eq.mp (by kernel_rfl) h_2) fun _ _ a hA hK => retVC_sound hA hK) (ha.cons hq0 (ha.cons hq1 ha.nil))
/-- (*enthymeme/wire.Writer).Int -/
theorem ok (wv0 : Addr) (n1 : Int) (w : World) (R : Post) (h : S0 wv0 n1 w R) : Calls Try.prog n_wire_Writer_Int #[.pointer (some wv0), .i n1] w R :=
  calls_of_WP' (R := R) (fn := Try.f64) (c := C0) (args := [.pointer (some wv0), .i n1]) (by kernel_rfl) (by kernel_rfl) (by kernel_rfl) (KE_S0_ok R _ _ (Eq.mp (by kernel_rfl) h))
end wire_Writer_Int
namespace wire_Writer_Text
noncomputable def C0 : Code := (Try.f66.body).getD .skip
noncomputable def C1:=C0.sn
abbrev Q0 (R : Post) : Exit → Act → World → Prop := (bodyPost Try.prog Try.f66 R)
/-- wire.go:41 -/
abbrev S1 (wv0 : Addr) (s1 : ByteArray) (w : World) (R : Post) : Prop :=
  ∃ t13 : Sl, w.cell? (wv0.add 0) = some (t13.v) ∧ 
  ∃ (t15 : Sl) (w1 : World), Sem.run Try.prog (Builtin.append_ #[ty_sl_uint8, ty_string] ty_sl_uint8 #[t13.v, .string s1]) w = .ok (t15.v) w1 ∧ (w1.cell? (wv0.add 0)).isSome = true ∧ w1.frozen? (wv0.add 0) = false ∧ let w2 := w1.setCell (wv0.add 0) (t15.v)
  R (.returned (.tuple #[])) w2
def KE_S1 (E : Env) (w : World) (R : Post) : Prop := asRef (Env.get? E 0) fun wv0 => asStr (Env.get? E 1) fun s1 => S1 wv0 s1 w R
theorem KE_S1_ok (R : Post) (E : Env) (w : World) (h : KE_S1 E w R) : WP Try.prog (cx 18) C1 (Q0 R) E w := by
  obtain ⟨wv0, hq0, h_1⟩ := asRef_elim h
  obtain ⟨s1, hq1, h_2⟩ := asStr_elim h_1
  exact fun a ha => WP.at (n := (cx 18)) (E := [(0, .pointer (some wv0)), (1, .string s1)]) (WP.reg (c := C1) (fun E w => retVC Try.prog Try.f66 E w (fun v => R (.returned v) w)) (by kernel_rfl) (Eq.mp (by kernel_rfl) h_2) fun _ _ a hA hK => retVC_sound hA hK) (ha.cons hq0 (ha.cons hq1 ha.nil))
noncomputable def C2:=C0.fs
/-- wire.go:40 -/
abbrev S0 (wv0 : Addr) (s1 : ByteArray) (w : World) (R : Post) : Prop :=
  Calls Try.prog n_wire_Writer_Uint #[.pointer (some wv0), .u (IntKind.wrap .u64 ((s1.size : Nat) : Int))] w fun r_ w1 => r_ = .returned (.tuple #[]) ∧ 
  S1 wv0 s1 w1 R
def KE_S0 (E : Env) (w : World) (R : Post) : Prop := asRef (Env.get? E 0) fun wv0 => asStr (Env.get? E 1) fun s1 => S0 wv0 s1 w R
theorem KE_S0_ok (R : Post) (E : Env) (w : World) (h : KE_S0 E w R) : WP Try.prog (cx 18) C0 (Q0 R) E w := by
  obtain ⟨wv0, hq0, h_1⟩ := asRef_elim h
  obtain ⟨s1, hq1, h_2⟩ := asStr_elim h_1
  exact fun a ha => WP.at (n := (cx 18)) (E := [(0, .pointer (some wv0)), (1, .string s1)]) (WP.seq (c := C0) (x := C2) (y := C1) (by kernel_rfl) <| WP.reg (c := C2) (fun E w => KE_S1 E w R) (by kernel_rfl) (Eq.mp (by kernel_rfl) h_2) fun _ _ a hA hK => (KE_S1_ok R _ _ hK) a hA) (ha.cons hq0 (ha.cons hq1 ha.nil))
/-- (*enthymeme/wire.Writer).Text -/
theorem ok (wv0 : Addr) (s1 : ByteArray) (w : World) (R : Post) (h : S0 wv0 s1 w R) : Calls Try.prog n_wire_Writer_Text #[.pointer (some wv0), .string s1] w R :=
  calls_of_WP' (R := R) (fn := Try.f66) (c := C0) (args := [.pointer (some wv0), .string s1]) (by kernel_rfl) (by kernel_rfl) (by kernel_rfl) (KE_S0_ok R _ _ (Eq.mp (by kernel_rfl) h))
end wire_Writer_Text
namespace wire_Writer_Done
noncomputable def C0 : Code := (Try.f67.body).getD .skip
noncomputable def C1:=C0.sn
abbrev Q0 (R : Post) : Exit → Act → World → Prop := (bodyPost Try.prog Try.f67 R)
noncomputable def C2:=C1.fs
noncomputable def C3:=C1.sn
/-- wire.go:60 -/
abbrev S1 (wv0 : Addr) (w : World) (R : Post) : Prop :=
  ∃ t6 : Sl, w.cell? (wv0.add 0) = some (t6.v) ∧ 
  Calls Try.prog n_slices_Clone_sl_byte_byte #[t6.v] w fun r_ w1 => ∃ t7 : Sl, r_ = .returned (t7.v) ∧ 
  R (.returned (t7.v)) w1
def KE_S1 (E : Env) (w : World) (R : Post) : Prop := asRef (Env.get? E 0) fun wv0 => S1 wv0 w R
theorem KE_S1_ok (R : Post) (E : Env) (w : World) (h : KE_S1 E w R) : WP Try.prog (cx 8) C1 (Q0 R) E w := by
  obtain ⟨wv0, hq0, h_1⟩ := asRef_elim h
  exact fun a ha => WP.at (n := (cx 8)) (E := [(0, .pointer (some wv0))]) (WP.seq (c := C1) (x := C2) (y := C3) (by kernel_rfl) <| WP.reg (c := C2) (fun E w => retVC Try.prog Try.f67 E w (fun v => R (.returned v) w)) (by kernel_rfl) (Eq.mp (by kernel_rfl) h_1) fun _ _ a hA hK => (WP.ret (c := C3) (by kernel_rfl) fun a hA => retVC_sound hA hK) a hA) (ha.cons hq0 ha.nil)
noncomputable def C4:=C0.fs
/-- wire.go:59 -/
abbrev S0 (wv0 : Addr) (w : World) (R : Post) : Prop :=
  S1 wv0 w R
def KE_S0 (E : Env) (w : World) (R : Post) : Prop := asRef (Env.get? E 0) fun wv0 => S0 wv0 w R
theorem KE_S0_ok (R : Post) (E : Env) (w : World) (h : KE_S0 E w R) : WP Try.prog (cx 8) C0 (Q0 R) E w := by
  obtain ⟨wv0, hq0, h_1⟩ := asRef_elim h
  exact fun a ha => WP.at (n := (cx 8)) (E := [(0, .pointer (some wv0))]) (WP.seq (c := C0) (x := C4) (y := C1) (by kernel_rfl) <| WP.reg (c := C4) (fun E w => KE_S1 E w R) (by kernel_rfl) (Eq.mp (by kernel_rfl) h_1) fun _ _ a hA hK => (KE_S1_ok R _ _ hK) a hA) (ha.cons hq0 ha.nil)
/-- (*enthymeme/wire.Writer).Done -/
theorem ok (wv0 : Addr) (w : World) (R : Post) (h : S0 wv0 w R) : Calls Try.prog n_wire_Writer_Done #[.pointer (some wv0)] w R :=
  calls_of_WP' (R := R) (fn := Try.f67) (c := C0) (args := [.pointer (some wv0)]) (by kernel_rfl) (by kernel_rfl) (by kernel_rfl) (KE_S0_ok R _ _ (Eq.mp (by kernel_rfl) h))
end wire_Writer_Done
namespace wire_Read
noncomputable def C0 : Code := (Try.f36.body).getD .skip
noncomputable def C1:=C0.sn
abbrev Q0 (R : Post) : Exit → Act → World → Prop := (bodyPost Try.prog Try.f36 R)
noncomputable def C2:=C1.fs
noncomputable def C3:=C1.sn
/-- wire.go:72 -/
abbrev S1 (b0 : Sl) (w : World) (R : Post) : Prop :=
  Calls Try.prog n_slices_Clone_sl_byte_byte #[b0.v] w fun r_ w1 => ∃ t4 : Sl, r_ = .returned (t4.v) ∧ 
  let w2 := w1.alloc (.cells #[t4.v, .i 0, .i 0] ty_wire_Reader)
  R (.returned (.pointer (some (nb w1)))) w2
def KE_S1 (E : Env) (w : World) (R : Post) : Prop := asSlice (Env.get? E 0) fun b0 => S1 b0 w R
theorem KE_S1_ok (R : Post) (E : Env) (w : World) (h : KE_S1 E w R) : WP Try.prog (cx 7) C1 (Q0 R) E w := by
  obtain ⟨b0, hq0, h_1⟩ := asSlice_elim h
  exact fun a ha => WP.at (n := (cx 7)) (E := [(0, b0.v)]) (WP.seq (c := C1) (x := C2) (y := C3) (by kernel_rfl) <| WP.reg (c := C2) (fun E w => retVC Try.prog Try.f36 E w (fun v => R (.returned v) w)) (by kernel_rfl) (Eq.mp (by kernel_rfl) h_1) fun _ _ a hA hK => (WP.ret (c := C3) (by kernel_rfl) fun a hA => retVC_sound hA hK) a hA) (ha.cons hq0 ha.nil)
noncomputable def C4:=C0.fs
/-- wire.go:71 -/
abbrev S0 (b0 : Sl) (w : World) (R : Post) : Prop :=
  S1 b0 w R
def KE_S0 (E : Env) (w : World) (R : Post) : Prop := asSlice (Env.get? E 0) fun b0 => S0 b0 w R
theorem KE_S0_ok (R : Post) (E : Env) (w : World) (h : KE_S0 E w R) : WP Try.prog (cx 7) C0 (Q0 R) E w := by
  obtain ⟨b0, hq0, h_1⟩ := asSlice_elim h
  exact fun a ha => WP.at (n := (cx 7)) (E := [(0, b0.v)]) (WP.seq (c := C0) (x := C4) (y := C1) (by kernel_rfl) <| WP.reg (c := C4) (fun E w => KE_S1 E w R) (by kernel_rfl) (Eq.mp (by kernel_rfl) h_1) fun _ _ a hA hK => (KE_S1_ok R _ _ hK) a hA) (ha.cons hq0 ha.nil)
/-- enthymeme/wire.Read -/
theorem ok (b0 : Sl) (w : World) (R : Post) (h : S0 b0 w R) : Calls Try.prog n_wire_Read #[b0.v] w R :=
  calls_of_WP' (R := R) (fn := Try.f36) (c := C0) (args := [b0.v]) (by kernel_rfl) (by kernel_rfl) (by kernel_rfl) (KE_S0_ok R _ _ (Eq.mp (by kernel_rfl) h))
end wire_Read
namespace wire_Reader_Uint
noncomputable def C0 : Code := (Try.f71.body).getD .skip
noncomputable def C1:=C0.sn
noncomputable def C2:=C1.fs
noncomputable def C3:=C2.sn
noncomputable def C4:=C3.fs
noncomputable def C5:=C1.sn
abbrev Q0 (R : Post) : Exit → Act → World → Prop := (Exit.then (wpx Try.prog (cx 77) C5 (bodyPost Try.prog Try.f71 R)) (bodyPost Try.prog Try.f71 R))
noncomputable def C6:=C4.fs
noncomputable def C7:=C4.sn
/-- wire.go:84 -/
abbrev S2  (w : World) (R : Post) : Prop :=
  R (.returned (.u 0)) w
def KE_S2 (E : Env) (w : World) (R : Post) : Prop := S2  w R
theorem KE_S2_ok (R : Post) (E : Env) (w : World) (h : KE_S2 E w R) : WP Try.prog (cx 77) C4 (Q0 R) E w := by
  exact fun a ha => WP.at (n := (cx 77)) (E := []) (WP.seq (c := C4) (x := C6) (y := C7) (by kernel_rfl) <| WP.reg (c := C6) (fun E w => retVC Try.prog Try.f71 E w (fun v => R (.returned v) w)) (by kernel_rfl) (Eq.mp (by kernel_rfl) h) fun _ _ a hA hK => (WP.ret (c := C7) (by kernel_rfl) fun a hA => retVC_sound hA hK) a hA) ha.nil
noncomputable def C8:=C5.sn
noncomputable def C9:=C8.sn
noncomputable def C10:=C9.fs
noncomputable def C11:=C10.fs
abbrev Q1 (R : Post) : Exit → Act → World → Prop := (bodyPost Try.prog Try.f71 R)
abbrev Q2 (R : Post) : Exit → Act → World → Prop := (Exit.inBlock 0 (Q1 R))
/-- the head of the loop, wire.go:88 -/
def L5 (r0 : Addr) (n3 k4 : Int) (w : World) (R : Post) : Prop := LP Try.prog (cx 77) C11 (Q2 R) [(0, .pointer (some r0)), (3, .u n3), (4, .i k4)] w
def KE_L5 (E : Env) (w : World) (R : Post) : Prop := asRef (Env.get? E 0) fun r0 => W.asInt .u64 (Env.get? E 3) fun n3 => W.asInt .i64 (Env.get? E 4) fun k4 => L5 r0 n3 k4 w R
theorem KE_L5_ok (R : Post) (E : Env) (w : World) (h : KE_L5 E w R) : LP Try.prog (cx 77) C11 (Q2 R) E w := by
  obtain ⟨r0, hq0, h_1⟩ := asRef_elim h
  obtain ⟨n3, hq3, h_2⟩ := asInt_elim h_1
  obtain ⟨k4, hq4, h_3⟩ := asInt_elim h_2
  intro a ha
  exact h_3 a (ha.cons hq0 (ha.cons hq3 (ha.cons hq4 ha.nil)))
noncomputable def C12:=C11.fs
noncomputable def C13:=C12.fs
noncomputable def C14:=C13.fs
noncomputable def C15:=C14.sn
noncomputable def C16:=C15.fs
noncomputable def C17:=C16.sn
noncomputable def C18:=C11.sn
abbrev Q3 (R : Post) : Exit → Act → World → Prop := (Exit.then (wpx Try.prog (cx 77) C18 (Exit.then (LoopWP Try.prog (cx 77) C11 (Q2 R)) (Q2 R))) (Exit.then (LoopWP Try.prog (cx 77) C11 (Q2 R)) (Q2 R)))
noncomputable def C19:=C13.sn
abbrev Q4 (R : Post) : Exit → Act → World → Prop := (Exit.then (wpx Try.prog (cx 77) C19 (Exit.inBlock 1 (Q3 R))) (Exit.inBlock 1 (Q3 R)))
noncomputable def C20:=C17.fs
noncomputable def C21:=C17.sn
/-- wire.go:90 -/
abbrev S8  (w : World) (R : Post) : Prop :=
  R (.returned (.u 0)) w
def KE_S8 (E : Env) (w : World) (R : Post) : Prop := S8  w R
theorem KE_S8_ok (R : Post) (E : Env) (w : World) (h : KE_S8 E w R) : WP Try.prog (cx 77) C17 (Q4 R) E w := by
  exact fun a ha => WP.at (n := (cx 77)) (E := []) (WP.seq (c := C17) (x := C20) (y := C21) (by kernel_rfl) <| WP.reg (c := C20) (fun E w => retVC Try.prog Try.f71 E w (fun v => R (.returned v) w)) (by kernel_rfl) (Eq.mp (by kernel_rfl) h) fun _ _ a hA hK => (WP.ret (c := C21) (by kernel_rfl) fun a hA => retVC_sound hA hK) a hA) ha.nil
noncomputable def C22:=C16.fs
/-- wire.go:89 -/
abbrev S7 (r0 : Addr) (w : World) (R : Post) : Prop :=
  (w.cell? (r0.add 2)).isSome = true ∧ w.frozen? (r0.add 2) = false ∧ let w1 := w.setCell (r0.add 2) (.i 3)
  S8  w1 R
def KE_S7 (E : Env) (w : World) (R : Post) : Prop := asRef (Env.get? E 0) fun r0 => S7 r0 w R
theorem KE_S7_ok (R : Post) (E : Env) (w : World) (h : KE_S7 E w R) : WP Try.prog (cx 77) C16 (Q4 R) E w := by
  obtain ⟨r0, hq0, h_1⟩ := asRef_elim h
  exact fun a ha => WP.at (n := (cx 77)) (E := [(0, .pointer (some r0))]) (WP.seq (c := C16) (x := C22) (y := C17) (by kernel_rfl) <| WP.reg (c := C22) (fun E w => KE_S8 E w R) (by kernel_rfl) (Eq.mp (by kernel_rfl) h_1) fun _ _ a hA hK => (KE_S8_ok R _ _ hK) a hA) (ha.cons hq0 ha.nil)
noncomputable def C23:=C19.sn
noncomputable def C24:=C23.fs
noncomputable def C25:=C24.sn
noncomputable def C26:=C25.fs
noncomputable def C27:=C26.sn
noncomputable def C28:=C23.sn
abbrev Q5 (R : Post) : Exit → Act → World → Prop := (Exit.then (wpx Try.prog (cx 77) C28 (Exit.inBlock 1 (Q3 R))) (Exit.inBlock 1 (Q3 R)))
noncomputable def C29:=C27.fs
noncomputable def C30:=C27.sn
/-- wire.go:95 -/
abbrev S12  (w : World) (R : Post) : Prop :=
  R (.returned (.u 0)) w
def KE_S12 (E : Env) (w : World) (R : Post) : Prop := S12  w R
theorem KE_S12_ok (R : Post) (E : Env) (w : World) (h : KE_S12 E w R) : WP Try.prog (cx 77) C27 (Q5 R) E w := by
  exact fun a ha => WP.at (n := (cx 77)) (E := []) (WP.seq (c := C27) (x := C29) (y := C30) (by kernel_rfl) <| WP.reg (c := C29) (fun E w => retVC Try.prog Try.f71 E w (fun v => R (.returned v) w)) (by kernel_rfl) (Eq.mp (by kernel_rfl) h) fun _ _ a hA hK => (WP.ret (c := C30) (by kernel_rfl) fun a hA => retVC_sound hA hK) a hA) ha.nil
noncomputable def C31:=C26.fs
/-- wire.go:94 -/
abbrev S11 (r0 : Addr) (w : World) (R : Post) : Prop :=
  (w.cell? (r0.add 2)).isSome = true ∧ w.frozen? (r0.add 2) = false ∧ let w1 := w.setCell (r0.add 2) (.i 2)
  S12  w1 R
def KE_S11 (E : Env) (w : World) (R : Post) : Prop := asRef (Env.get? E 0) fun r0 => S11 r0 w R
theorem KE_S11_ok (R : Post) (E : Env) (w : World) (h : KE_S11 E w R) : WP Try.prog (cx 77) C26 (Q5 R) E w := by
  obtain ⟨r0, hq0, h_1⟩ := asRef_elim h
  exact fun a ha => WP.at (n := (cx 77)) (E := [(0, .pointer (some r0))]) (WP.seq (c := C26) (x := C31) (y := C27) (by kernel_rfl) <| WP.reg (c := C31) (fun E w => KE_S12 E w R) (by kernel_rfl) (Eq.mp (by kernel_rfl) h_1) fun _ _ a hA hK => (KE_S12_ok R _ _ hK) a hA) (ha.cons hq0 ha.nil)
noncomputable def C32:=C28.sn
noncomputable def C33:=C32.sn
noncomputable def C34:=C33.fs
noncomputable def C35:=C34.sn
abbrev Q6 (R : Post) : Exit → Act → World → Prop := (Exit.inBlock 1 (Q3 R))
noncomputable def C36:=C35.fs
noncomputable def C37:=C35.sn
/-- wire.go:100 -/
abbrev S16 (n3 : Int) (w : World) (R : Post) : Prop :=
  R (.returned (.u n3)) w
def KE_S16 (E : Env) (w : World) (R : Post) : Prop := W.asInt .u64 (Env.get? E 3) fun n3 => S16 n3 w R
theorem KE_S16_ok (R : Post) (E : Env) (w : World) (h : KE_S16 E w R) : WP Try.prog (cx 77) C35 (Q6 R) E w := by
  obtain ⟨n3, hq3, h_1⟩ := asInt_elim h
  exact fun a ha => WP.at (n := (cx 77)) (E := [(3, .u n3)]) (WP.seq (c := C35) (x := C36) (y := C37) (by kernel_rfl) <| WP.reg (c := C36) (fun E w => retVC Try.prog Try.f71 E w (fun v => R (.returned v) w)) (by kernel_rfl) (Eq.mp (by kernel_rfl) h_1) fun _ _ a hA hK => (WP.ret (c := C37) (by kernel_rfl) fun a hA => retVC_sound hA hK) a hA) (ha.cons hq3 ha.nil)
noncomputable def C38:=C34.fs
/-- wire.go:99 -/
abbrev S15 (r0 : Addr) (n3 k4 : Int) (w : World) (R : Post) : Prop :=
  ∃ t70 : Int, w.cell? (r0.add 1) = some (.i t70) ∧ 
  (w.cell? (r0.add 1)).isSome = true ∧ w.frozen? (r0.add 1) = false ∧ let w1 := w.setCell (r0.add 1) (.i (IntKind.wrap .i64 (t70 + (IntKind.wrap .i64 (k4 + 1)))))
  S16 n3 w1 R
def KE_S15 (E : Env) (w : World) (R : Post) : Prop := asRef (Env.get? E 0) fun r0 => W.asInt .u64 (Env.get? E 3) fun n3 => W.asInt .i64 (Env.get? E 4) fun k4 => S15 r0 n3 k4 w R
theorem KE_S15_ok (R : Post) (E : Env) (w : World) (h : KE_S15 E w R) : WP Try.prog (cx 77) C34 (Q6 R) E w := by
  obtain ⟨r0, hq0, h_1⟩ := asRef_elim h
  obtain ⟨n3, hq3, h_2⟩ := asInt_elim h_1
  obtain ⟨k4, hq4, h_3⟩ := asInt_elim h_2
  exact fun a ha => WP.at (n := (cx 77)) (E := [(0, .pointer (some r0)), (3, .u n3), (4, .i k4)]) (WP.seq (c := C34) (x := C38) (y := C35) (by kernel_rfl) <| WP.reg (c := C38) (fun E w => KE_S16 E w R) (by kernel_rfl) (Eq.mp (by kernel_rfl) h_3) fun _ _ a hA hK => (KE_S16_ok R _ _ hK) a hA) (ha.cons hq0 (ha.cons hq3 (ha.cons hq4 ha.nil)))
abbrev Q7 (R : Post) : Exit → Act → World → Prop := (Exit.then (LoopWP Try.prog (cx 77) C11 (Q2 R)) (Q2 R))
/-- wire.go:87 -/
abbrev S17 (r0 : Addr) (n3 k4 : Int) (w : World) (R : Post) : Prop :=
  L5 r0 n3 (IntKind.wrap .i64 (k4 + 1)) w R
def KE_S17 (E : Env) (w : World) (R : Post) : Prop := asRef (Env.get? E 0) fun r0 => W.asInt .u64 (Env.get? E 3) fun n3 => W.asInt .i64 (Env.get? E 4) fun k4 => S17 r0 n3 k4 w R
theorem KE_S17_ok (R : Post) (E : Env) (w : World) (h : KE_S17 E w R) : WP Try.prog (cx 77) C18 (Q7 R) E w := by
  obtain ⟨r0, hq0, h_1⟩ := asRef_elim h
  obtain ⟨n3, hq3, h_2⟩ := asInt_elim h_1
  obtain ⟨k4, hq4, h_3⟩ := asInt_elim h_2
  exact fun a ha => WP.at (n := (cx 77)) (E := [(0, .pointer (some r0)), (3, .u n3), (4, .i k4)]) (WP.reg (c := C18) (fun E w => KE_L5 E w R) (by kernel_rfl) (Eq.mp (by kernel_rfl) h_3) fun _ _ a hA hK => KE_L5_ok R _ _ hK a hA) (ha.cons hq0 (ha.cons hq3 (ha.cons hq4 ha.nil)))
noncomputable def C39:=C32.fs
noncomputable def C40:=C33.sn
/-- wire.go:98 -/
abbrev S14 (r0 : Addr) (n3 k4 c5 : Int) (w : World) (R : Post) : Prop :=
  sel (decide (c5 < 128)) (S15 r0 n3 k4 w R) (S17 r0 n3 k4 w R)
def KE_S14 (E : Env) (w : World) (R : Post) : Prop := asRef (Env.get? E 0) fun r0 => W.asInt .u64 (Env.get? E 3) fun n3 => W.asInt .i64 (Env.get? E 4) fun k4 => W.asInt .u8 (Env.get? E 5) fun c5 => S14 r0 n3 k4 c5 w R
theorem KE_S14_ok (R : Post) (E : Env) (w : World) (h : KE_S14 E w R) : WP Try.prog (cx 77) C32 (Q6 R) E w := by
  obtain ⟨r0, hq0, h_1⟩ := asRef_elim h
  obtain ⟨n3, hq3, h_2⟩ := asInt_elim h_1
  obtain ⟨k4, hq4, h_3⟩ := asInt_elim h_2
  obtain ⟨c5, hq5, h_4⟩ := asInt_elim h_3
  exact fun a ha => WP.at (n := (cx 77)) (E := [(0, .pointer (some r0)), (3, .u n3), (4, .i k4), (5, .int .u8 c5)]) (WP.seq (c := C32) (x := C39) (y := C33) (by kernel_rfl) <| WP.reg (c := C39) (fun E w => condK (Env.val E (.tmp 66)) (KE_S15 E w R) (KE_S17 E w R)) (by kernel_rfl) (Eq.mp (by kernel_rfl) h_4) fun _ _ a hA hK => (WP.condK (c := C33) (x := C34) (y := C40) (o := .tmp 66) (by kernel_rfl) (fun hK => (KE_S15_ok R _ _ hK)) (fun hK => (WP.skip (c := C40) (by kernel_rfl) fun a hA => (KE_S17_ok R _ _ hK) a hA)) hK) a hA) (ha.cons hq0 (ha.cons hq3 (ha.cons hq4 (ha.cons hq5 ha.nil))))
noncomputable def C41:=C28.fs
/-- wire.go:97 -/
abbrev S13 (r0 : Addr) (n3 k4 c5 : Int) (w : World) (R : Post) : Prop :=
  ¬ (IntKind.wrap .i64 (7 * k4)) < 0 ∧ S14 r0 (bOr .u64 n3 (IntKind.wrap .u64 ((IntKind.wrap .u64 (bAnd .u8 c5 127)) * 2 ^ (min (Int.toNat (IntKind.wrap .i64 (7 * k4))) (IntKind.bits .u64))))) k4 c5 w R
def KE_S13 (E : Env) (w : World) (R : Post) : Prop := asRef (Env.get? E 0) fun r0 => W.asInt .u64 (Env.get? E 3) fun n3 => W.asInt .i64 (Env.get? E 4) fun k4 => W.asInt .u8 (Env.get? E 5) fun c5 => S13 r0 n3 k4 c5 w R
theorem KE_S13_ok (R : Post) (E : Env) (w : World) (h : KE_S13 E w R) : WP Try.prog (cx 77) C28 (Q6 R) E w := by
  obtain ⟨r0, hq0, h_1⟩ := asRef_elim h
  obtain ⟨n3, hq3, h_2⟩ := asInt_elim h_1
  obtain ⟨k4, hq4, h_3⟩ := asInt_elim h_2
  obtain ⟨c5, hq5, h_4⟩ := asInt_elim h_3
  exact fun a ha => WP.at (n := (cx 77)) (E := [(0, .pointer (some r0)), (3, .u n3), (4, .i k4), (5, .int .u8 c5)]) (WP.seq (c := C28) (x := C41) (y := C32) (by kernel_rfl) <| WP.reg (c := C41) (fun E w => KE_S14 E w R) (by kernel_rfl) (Eq.mp (by kernel_rfl) h_4) fun _ _ a hA hK => (KE_S14_ok R _ _ hK) a hA) (ha.cons hq0 (ha.cons hq3 (ha.cons hq4 (ha.cons hq5 ha.nil))))
noncomputable def C42:=C24.fs
noncomputable def C43:=C25.sn
/-- wire.go:93 -/
abbrev S10 (r0 : Addr) (n3 k4 c5 : Int) (w : World) (R : Post) : Prop :=
  sel (k4 == 9) (sel (decide (c5 > 1)) (S11 r0 w R) (sel (decide (k4 > 0)) (sel (c5 == 0) (S11 r0 w R) (S13 r0 n3 k4 c5 w R)) (S13 r0 n3 k4 c5 w R))) (sel (decide (k4 > 0)) (sel (c5 == 0) (S11 r0 w R) (S13 r0 n3 k4 c5 w R)) (S13 r0 n3 k4 c5 w R))
def KE_S10 (E : Env) (w : World) (R : Post) : Prop := asRef (Env.get? E 0) fun r0 => W.asInt .u64 (Env.get? E 3) fun n3 => W.asInt .i64 (Env.get? E 4) fun k4 => W.asInt .u8 (Env.get? E 5) fun c5 => S10 r0 n3 k4 c5 w R
theorem KE_S10_ok (R : Post) (E : Env) (w : World) (h : KE_S10 E w R) : WP Try.prog (cx 77) C24 (Q5 R) E w := by
  obtain ⟨r0, hq0, h_1⟩ := asRef_elim h
  obtain ⟨n3, hq3, h_2⟩ := asInt_elim h_1
  obtain ⟨k4, hq4, h_3⟩ := asInt_elim h_2
  obtain ⟨c5, hq5, h_4⟩ := asInt_elim h_3
  exact fun a ha => WP.at (n := (cx 77)) (E := [(0, .pointer (some r0)), (3, .u n3), (4, .i k4), (5, .int .u8 c5)]) (WP.seq (c := C24) (x := C42) (y := C25) (by kernel_rfl) <| WP.reg (c := C42) (fun E w => condK (Env.val E (.tmp 53)) (KE_S11 E w R) (KE_S13 E w R)) (by kernel_rfl) (Eq.mp (by kernel_rfl) h_4) fun _ _ a hA hK => (WP.condK (c := C25) (x := C26) (y := C43) (o := .tmp 53) (by kernel_rfl) (fun hK => (KE_S11_ok R _ _ hK)) (fun hK => (WP.skip (c := C43) (by kernel_rfl) fun a hA => (KE_S13_ok R _ _ hK) a hA)) hK) a hA) (ha.cons hq0 (ha.cons hq3 (ha.cons hq4 (ha.cons hq5 ha.nil))))
noncomputable def C44:=C19.fs
/-- wire.go:92 -/
abbrev S9 (r0 : Addr) (n3 k4 : Int) (w : World) (R : Post) : Prop :=
  ∃ t31 : Sl, w.drew.cell? (r0.add 0) = some (t31.v) ∧ 
  ∃ t35 : Int, w.drew.cell? (r0.add 1) = some (.i t35) ∧ 
  (0 : Int) ≤ (IntKind.wrap .i64 (t35 + k4)) ∧ (IntKind.wrap .i64 (t35 + k4)) < ((t31.n : Nat) : Int) ∧ optP t31.a fun t38_p => ∃ t39 : Int, w.drew.cell? (t38_p.add (Int.toNat (IntKind.wrap .i64 (t35 + k4)) * 1)) = some (.int .u8 t39) ∧ 
  S10 r0 n3 k4 t39 w.drew R
def KE_S9 (E : Env) (w : World) (R : Post) : Prop := asRef (Env.get? E 0) fun r0 => W.asInt .u64 (Env.get? E 3) fun n3 => W.asInt .i64 (Env.get? E 4) fun k4 => S9 r0 n3 k4 w R
theorem KE_S9_ok (R : Post) (E : Env) (w : World) (h : KE_S9 E w R) : WP Try.prog (cx 77) C19 (Q6 R) E w := by
  obtain ⟨r0, hq0, h_1⟩ := asRef_elim h
  obtain ⟨n3, hq3, h_2⟩ := asInt_elim h_1
  obtain ⟨k4, hq4, h_3⟩ := asInt_elim h_2
  exact fun a ha => WP.at (n := (cx 77)) (E := [(0, .pointer (some r0)), (3, .u n3), (4, .i k4)]) (WP.seq (c := C19) (x := C44) (y := C23) (by kernel_rfl) <| WP.draw (c := C44) [0, 1, 2, 3, 4, 5, 6, 7, 8, 9, 10, 11, 12] (fun E w => KE_S10 E w R) (by kernel_rfl) (Eq.mp (by kernel_rfl) h_3) fun _ _ a hA hK => (WP.seq (c := C23) (x := C24) (y := C28) (by kernel_rfl) (KE_S10_ok R _ _ hK)) a hA) (ha.cons hq0 (ha.cons hq3 (ha.cons hq4 ha.nil)))
noncomputable def C45:=C14.fs
noncomputable def C46:=C15.sn
/-- wire.go:88 -/
abbrev S6 (r0 : Addr) (n3 k4 : Int) (w : World) (R : Post) : Prop :=
  ∃ t16 : Int, w.drew.cell? (r0.add 1) = some (.i t16) ∧ 
  ∃ t22 : Sl, w.drew.cell? (r0.add 0) = some (t22.v) ∧ 
  sel (decide ((IntKind.wrap .i64 (t16 + k4)) ≥ ((t22.n : Nat) : Int))) (S7 r0 w.drew R) (S9 r0 n3 k4 w.drew R)
def KE_S6 (E : Env) (w : World) (R : Post) : Prop := asRef (Env.get? E 0) fun r0 => W.asInt .u64 (Env.get? E 3) fun n3 => W.asInt .i64 (Env.get? E 4) fun k4 => S6 r0 n3 k4 w R
theorem KE_S6_ok (R : Post) (E : Env) (w : World) (h : KE_S6 E w R) : WP Try.prog (cx 77) C14 (Q4 R) E w := by
  obtain ⟨r0, hq0, h_1⟩ := asRef_elim h
  obtain ⟨n3, hq3, h_2⟩ := asInt_elim h_1
  obtain ⟨k4, hq4, h_3⟩ := asInt_elim h_2
  exact fun a ha => WP.at (n := (cx 77)) (E := [(0, .pointer (some r0)), (3, .u n3), (4, .i k4)]) (WP.seq (c := C14) (x := C45) (y := C15) (by kernel_rfl) <| WP.draw (c := C45) [0, 1, 2, 3, 4, 5, 6, 7, 8, 9, 10, 11] (fun E w => condK (Env.val E (.tmp 24)) (KE_S7 E w R) (KE_S9 E w R)) (by kernel_rfl) (Eq.mp (by kernel_rfl) h_3) fun _ _ a hA hK => (WP.condK (c := C15) (x := C16) (y := C46) (o := .tmp 24) (by kernel_rfl) (fun hK => (KE_S7_ok R _ _ hK)) (fun hK => (WP.skip (c := C46) (by kernel_rfl) fun a hA => (KE_S9_ok R _ _ hK) a hA)) hK) a hA) (ha.cons hq0 (ha.cons hq3 (ha.cons hq4 ha.nil)))
theorem L5_step (r0 : Addr) (n3 k4 : Int) (w : World) (R : Post) (h : S6 r0 n3 k4 w R) : L5 r0 n3 k4 w R :=
  LP.step (n := (cx 77)) (c := C11) (E := [(0, .pointer (some r0)), (3, .u n3), (4, .i k4)]) (w := w) (WP.seq (c := C11) (x := C12) (y := C18) (by kernel_rfl) (WP.block (c := C12) (x := C13) (id := 1) (by kernel_rfl) (WP.seq (c := C13) (x := C14) (y := C19) (by kernel_rfl) (KE_S6_ok R _ _ (Eq.mp (by kernel_rfl) h)))))
noncomputable def C47:=C8.fs
/-- wire.go:87 -/
abbrev S4 (r0 : Addr) (n3 : Int) (w : World) (R : Post) : Prop :=
  L5 r0 n3 0 w R
def KE_S4 (E : Env) (w : World) (R : Post) : Prop := asRef (Env.get? E 0) fun r0 => W.asInt .u64 (Env.get? E 3) fun n3 => S4 r0 n3 w R
theorem KE_S4_ok (R : Post) (E : Env) (w : World) (h : KE_S4 E w R) : WP Try.prog (cx 77) C8 (Q1 R) E w := by
  obtain ⟨r0, hq0, h_1⟩ := asRef_elim h
  obtain ⟨n3, hq3, h_2⟩ := asInt_elim h_1
  exact fun a ha => WP.at (n := (cx 77)) (E := [(0, .pointer (some r0)), (3, .u n3)]) (WP.seq (c := C8) (x := C47) (y := C9) (by kernel_rfl) <| WP.reg (c := C47) (fun E w => KE_L5 E w R) (by kernel_rfl) (Eq.mp (by kernel_rfl) h_2) fun _ _ a hA hK => (WP.block (c := C9) (x := C10) (id := 0) (by kernel_rfl) (WP.loop (c := C10) (x := C11) (by kernel_rfl) (KE_L5_ok R _ _ hK))) a hA) (ha.cons hq0 (ha.cons hq3 ha.nil))
noncomputable def C48:=C5.fs
/-- wire.go:86 -/
abbrev S3 (r0 : Addr) (w : World) (R : Post) : Prop :=
  S4 r0 0 w R
def KE_S3 (E : Env) (w : World) (R : Post) : Prop := asRef (Env.get? E 0) fun r0 => S3 r0 w R
theorem KE_S3_ok (R : Post) (E : Env) (w : World) (h : KE_S3 E w R) : WP Try.prog (cx 77) C5 (Q1 R) E w := by
  obtain ⟨r0, hq0, h_1⟩ := asRef_elim h
  exact fun a ha => WP.at (n := (cx 77)) (E := [(0, .pointer (some r0))]) (WP.seq (c := C5) (x := C48) (y := C8) (by kernel_rfl) <| WP.reg (c := C48) (fun E w => KE_S4 E w R) (by kernel_rfl) (Eq.mp (by kernel_rfl) h_1) fun _ _ a hA hK => (KE_S4_ok R _ _ hK) a hA) (ha.cons hq0 ha.nil)
noncomputable def C49:=C2.fs
noncomputable def C50:=C3.sn
/-- wire.go:83 -/
abbrev S1 (r0 : Addr) (w : World) (R : Post) : Prop :=
  ∃ t9 : Int, w.cell? (r0.add 2) = some (.i t9) ∧ 
  sel (t9 != 0) (S2  w R) (S3 r0 w R)
def KE_S1 (E : Env) (w : World) (R : Post) : Prop := asRef (Env.get? E 0) fun r0 => S1 r0 w R
theorem KE_S1_ok (R : Post) (E : Env) (w : World) (h : KE_S1 E w R) : WP Try.prog (cx 77) C2 (Q0 R) E w := by
  obtain ⟨r0, hq0, h_1⟩ := asRef_elim h
  exact fun a ha => WP.at (n := (cx 77)) (E := [(0, .pointer (some r0))]) (WP.seq (c := C2) (x := C49) (y := C3) (by kernel_rfl) <| WP.reg (c := C49) (fun E w => condK (Env.val E (.tmp 10)) (KE_S2 E w R) (KE_S3 E w R)) (by kernel_rfl) (Eq.mp (by kernel_rfl) h_1) fun _ _ a hA hK => (WP.condK (c := C3) (x := C4) (y := C50) (o := .tmp 10) (by kernel_rfl) (fun hK => (KE_S2_ok R _ _ hK)) (fun hK => (WP.skip (c := C50) (by kernel_rfl) fun a hA => (KE_S3_ok R _ _ hK) a hA)) hK) a hA) (ha.cons hq0 ha.nil)
noncomputable def C51:=C0.fs
/-- wire.go:82 -/
abbrev S0 (r0 : Addr) (w : World) (R : Post) : Prop :=
  S1 r0 w R
def KE_S0 (E : Env) (w : World) (R : Post) : Prop := asRef (Env.get? E 0) fun r0 => S0 r0 w R
theorem KE_S0_ok (R : Post) (E : Env) (w : World) (h : KE_S0 E w R) : WP Try.prog (cx 77) C0 (Q1 R) E w := by
  obtain ⟨r0, hq0, h_1⟩ := asRef_elim h
  exact fun a ha => WP.at (n := (cx 77)) (E := [(0, .pointer (some r0))]) (WP.seq (c := C0) (x := C51) (y := C1) (by kernel_rfl) <| WP.reg (c := C51) (fun E w => KE_S1 E w R) (by kernel_rfl) (Eq.mp (by kernel_rfl) h_1) fun _ _ a hA hK => (WP.seq (c := C1) (x := C2) (y := C5) (by kernel_rfl) (KE_S1_ok R _ _ hK)) a hA) (ha.cons hq0 ha.nil)
/-- (*enthymeme/wire.Reader).Uint -/
theorem ok (r0 : Addr) (w : World) (R : Post) (h : S0 r0 w R) : Calls Try.prog n_wire_Reader_Uint #[.pointer (some r0)] w R :=
  calls_of_WP' (R := R) (fn := Try.f71) (c := C0) (args := [.pointer (some r0)]) (by kernel_rfl) (by kernel_rfl) (by kernel_rfl) (KE_S0_ok R _ _ (Eq.mp (by kernel_rfl) h))
end wire_Reader_Uint
namespace wire_Reader_Int
noncomputable def C0 : Code := (Try.f37.body).getD .skip
noncomputable def C1:=C0.sn
noncomputable def C2:=C1.sn
abbrev Q0 (R : Post) : Exit → Act → World → Prop := (bodyPost Try.prog Try.f37 R)
noncomputable def C3:=C2.fs
noncomputable def C4:=C2.sn
/-- wire.go:78 -/
abbrev S2 (u3 : Int) (w : World) (R : Post) : Prop :=
  R (.returned (.i (bXor .i64 (IntKind.wrap .i64 (Int.fdiv u3 (2 ^ (1)))) (IntKind.wrap .i64 (0 - (IntKind.wrap .i64 (bAnd .u64 u3 1))))))) w
def KE_S2 (E : Env) (w : World) (R : Post) : Prop := W.asInt .u64 (Env.get? E 3) fun u3 => S2 u3 w R
theorem KE_S2_ok (R : Post) (E : Env) (w : World) (h : KE_S2 E w R) : WP Try.prog (cx 14) C2 (Q0 R) E w := by
  obtain ⟨u3, hq3, h_1⟩ := asInt_elim h
  exact fun a ha => WP.at (n := (cx 14)) (E := [(3, .u u3)]) (WP.seq (c := C2) (x := C3) (y := C4) (by kernel_rfl) <| WP.reg (c := C3) (fun E w => retVC Try.prog Try.f37 E w (fun v => R (.returned v) w)) (by kernel_rfl) (Eq.mp (by kernel_rfl) h_1) fun _ _ a hA hK => (WP.ret (c := C4) (by kernel_rfl) fun a hA => retVC_sound hA hK) a hA) (ha.cons hq3 ha.nil)
noncomputable def C5:=C1.fs
/-- wire.go:77 -/
abbrev S1 (r0 : Addr) (w : World) (R : Post) : Prop :=
  Calls Try.prog n_wire_Reader_Uint #[.pointer (some r0)] w fun r_ w1 => ∃ t5 : Int, r_ = .returned (.u t5) ∧ 
  S2 t5 w1 R
def KE_S1 (E : Env) (w : World) (R : Post) : Prop := asRef (Env.get? E 0) fun r0 => S1 r0 w R
theorem KE_S1_ok (R : Post) (E : Env) (w : World) (h : KE_S1 E w R) : WP Try.prog (cx 14) C1 (Q0 R) E w := by
  obtain ⟨r0, hq0, h_1⟩ := asRef_elim h
  exact fun a ha => WP.at (n := (cx 14)) (E := [(0, .pointer (some r0))]) (WP.seq (c := C1) (x := C5) (y := C2) (by kernel_rfl) <| WP.reg (c := C5) (fun E w => KE_S2 E w R) (by kernel_rfl) (Eq.mp (by kernel_rfl) h_1) fun _ _ a hA hK => (KE_S2_ok R _ _ hK) a hA) (ha.cons hq0 ha.nil)
noncomputable def C6:=C0.fs
/-- wire.go:76 -/
abbrev S0 (r0 : Addr) (w : World) (R : Post) : Prop :=
  S1 r0 w R
def KE_S0 (E : Env) (w : World) (R : Post) : Prop := asRef (Env.get? E 0) fun r0 => S0 r0 w R
theorem KE_S0_ok (R : Post) (E : Env) (w : World) (h : KE_S0 E w R) : WP Try.prog (cx 14) C0 (Q0 R) E w := by
  obtain ⟨r0, hq0, h_1⟩ := asRef_elim h
  exact fun a ha => WP.at (n := (cx 14)) (E := [(0, .pointer (some r0))]) (WP.seq (c := C0) (x := C6) (y := C1) (by kernel_rfl) <| WP.reg (c := C6) (fun E w => KE_S1 E w R) (by kernel_rfl) (Eq.mp (by kernel_rfl) h_1) fun _ _ a hA hK => (KE_S1_ok R _ _ hK) a hA) (ha.cons hq0 ha.nil)
/-- (*enthymeme/wire.Reader).Int -/
theorem ok (r0 : Addr) (w : World) (R : Post) (h : S0 r0 w R) : Calls Try.prog n_wire_Reader_Int #[.pointer (some r0)] w R :=
  calls_of_WP' (R := R) (fn := Try.f37) (c := C0) (args := [.pointer (some r0)]) (by kernel_rfl) (by kernel_rfl) (by kernel_rfl) (KE_S0_ok R _ _ (Eq.mp (by kernel_rfl) h))
end wire_Reader_Int
namespace wire_Reader_one
noncomputable def C0 : Code := (Try.f82.body).getD .skip
noncomputable def C1:=C0.sn
noncomputable def C2:=C1.sn
noncomputable def C3:=C2.sn
abbrev Q0 (R : Post) : Exit → Act → World → Prop := (bodyPost Try.prog Try.f82 R)
noncomputable def C4:=C3.fs
noncomputable def C5:=C3.sn
/-- wire.go:126 -/
abbrev S3 (c3 : Int) (w : World) (R : Post) : Prop :=
  R (.returned (.int .u8 c3)) w
def KE_S3 (E : Env) (w : World) (R : Post) : Prop := W.asInt .u8 (Env.get? E 3) fun c3 => S3 c3 w R
theorem KE_S3_ok (R : Post) (E : Env) (w : World) (h : KE_S3 E w R) : WP Try.prog (cx 22) C3 (Q0 R) E w := by
  obtain ⟨c3, hq3, h_1⟩ := asInt_elim h
  exact fun a ha => WP.at (n := (cx 22)) (E := [(3, .int .u8 c3)]) (WP.seq (c := C3) (x := C4) (y := C5) (by kernel_rfl) <| WP.reg (c := C4) (fun E w => retVC Try.prog Try.f82 E w (fun v => R (.returned v) w)) (by kernel_rfl) (Eq.mp (by kernel_rfl) h_1) fun _ _ a hA hK => (WP.ret (c := C5) (by kernel_rfl) fun a hA => retVC_sound hA hK) a hA) (ha.cons hq3 ha.nil)
noncomputable def C6:=C2.fs
/-- wire.go:125 -/
abbrev S2 (r0 : Addr) (c3 : Int) (w : World) (R : Post) : Prop :=
  ∃ t17 : Int, w.cell? (r0.add 1) = some (.i t17) ∧ 
  (w.cell? (r0.add 1)).isSome = true ∧ w.frozen? (r0.add 1) = false ∧ let w1 := w.setCell (r0.add 1) (.i (IntKind.wrap .i64 (t17 + 1)))
  S3 c3 w1 R
def KE_S2 (E : Env) (w : World) (R : Post) : Prop := asRef (Env.get? E 0) fun r0 => W.asInt .u8 (Env.get? E 3) fun c3 => S2 r0 c3 w R
theorem KE_S2_ok (R : Post) (E : Env) (w : World) (h : KE_S2 E w R) : WP Try.prog (cx 22) C2 (Q0 R) E w := by
  obtain ⟨r0, hq0, h_1⟩ := asRef_elim h
  obtain ⟨c3, hq3, h_2⟩ := asInt_elim h_1
  exact fun a ha => WP.at (n := (cx 22)) (E := [(0, .pointer (some r0)), (3, .int .u8 c3)]) (WP.seq (c := C2) (x := C6) (y := C3) (by kernel_rfl) <| WP.reg (c := C6) (fun E w => KE_S3 E w R) (by kernel_rfl) (Eq.mp (by kernel_rfl) h_2) fun _ _ a hA hK => (KE_S3_ok R _ _ hK) a hA) (ha.cons hq0 (ha.cons hq3 ha.nil))
noncomputable def C7:=C1.fs
/-- wire.go:124 -/
abbrev S1 (r0 : Addr) (w : World) (R : Post) : Prop :=
  ∃ t7 : Sl, w.drew.cell? (r0.add 0) = some (t7.v) ∧ 
  ∃ t11 : Int, w.drew.cell? (r0.add 1) = some (.i t11) ∧ 
  (0 : Int) ≤ t11 ∧ t11 < ((t7.n : Nat) : Int) ∧ optP t7.a fun t12_p => ∃ t13 : Int, w.drew.cell? (t12_p.add (Int.toNat t11 * 1)) = some (.int .u8 t13) ∧ 
  S2 r0 t13 w.drew R
def KE_S1 (E : Env) (w : World) (R : Post) : Prop := asRef (Env.get? E 0) fun r0 => S1 r0 w R
theorem KE_S1_ok (R : Post) (E : Env) (w : World) (h : KE_S1 E w R) : WP Try.prog (cx 22) C1 (Q0 R) E w := by
  obtain ⟨r0, hq0, h_1⟩ := asRef_elim h
  exact fun a ha => WP.at (n := (cx 22)) (E := [(0, .pointer (some r0))]) (WP.seq (c := C1) (x := C7) (y := C2) (by kernel_rfl) <| WP.draw (c := C7) [0, 1, 2, 3, 4, 5, 6, 7, 8, 9, 10] (fun E w => KE_S2 E w R) (by kernel_rfl) (Eq.mp (by kernel_rfl) h_1) fun _ _ a hA hK => (KE_S2_ok R _ _ hK) a hA) (ha.cons hq0 ha.nil)
noncomputable def C8:=C0.fs
/-- wire.go:123 -/
abbrev S0 (r0 : Addr) (w : World) (R : Post) : Prop :=
  S1 r0 w R
def KE_S0 (E : Env) (w : World) (R : Post) : Prop := asRef (Env.get? E 0) fun r0 => S0 r0 w R
theorem KE_S0_ok (R : Post) (E : Env) (w : World) (h : KE_S0 E w R) : WP Try.prog (cx 22) C0 (Q0 R) E w := by
  obtain ⟨r0, hq0, h_1⟩ := asRef_elim h
  exact fun a ha => WP.at (n := (cx 22)) (E := [(0, .pointer (some r0))]) (WP.seq (c := C0) (x := C8) (y := C1) (by kernel_rfl) <| WP.reg (c := C8) (fun E w => KE_S1 E w R) (by kernel_rfl) (Eq.mp (by kernel_rfl) h_1) fun _ _ a hA hK => (KE_S1_ok R _ _ hK) a hA) (ha.cons hq0 ha.nil)
/-- (*enthymeme/wire.Reader).one -/
theorem ok (r0 : Addr) (w : World) (R : Post) (h : S0 r0 w R) : Calls Try.prog n_wire_Reader_one #[.pointer (some r0)] w R :=
  calls_of_WP' (R := R) (fn := Try.f82) (c := C0) (args := [.pointer (some r0)]) (by kernel_rfl) (by kernel_rfl) (by kernel_rfl) (KE_S0_ok R _ _ (Eq.mp (by kernel_rfl) h))
end wire_Reader_one
namespace wire_list_byte
noncomputable def C0 : Code := (Try.f81.body).getD .skip
noncomputable def C1:=C0.sn
noncomputable def C2:=C1.sn
noncomputable def C3:=C2.fs
noncomputable def C4:=C3.sn
noncomputable def C5:=C4.fs
noncomputable def C6:=C2.sn
abbrev Q0 (R : Post) : Exit → Act → World → Prop := (Exit.then (wpx Try.prog (cx 49) C6 (bodyPost Try.prog Try.f81 R)) (bodyPost Try.prog Try.f81 R))
noncomputable def C7:=C5.fs
noncomputable def C8:=C5.sn
/-- wire.go:133 -/
abbrev S3  (w : World) (R : Post) : Prop :=
  R (.returned (.slice none 0 0)) w
def KE_S3 (E : Env) (w : World) (R : Post) : Prop := S3  w R
theorem KE_S3_ok (R : Post) (E : Env) (w : World) (h : KE_S3 E w R) : WP Try.prog (cx 49) C5 (Q0 R) E w := by
  exact fun a ha => WP.at (n := (cx 49)) (E := []) (WP.seq (c := C5) (x := C7) (y := C8) (by kernel_rfl) <| WP.reg (c := C7) (fun E w => retVC Try.prog Try.f81 E w (fun v => R (.returned v) w)) (by kernel_rfl) (Eq.mp (by kernel_rfl) h) fun _ _ a hA hK => (WP.ret (c := C8) (by kernel_rfl) fun a hA => retVC_sound hA hK) a hA) ha.nil
noncomputable def C9:=C6.fs
noncomputable def C10:=C9.sn
noncomputable def C11:=C10.fs
noncomputable def C12:=C11.sn
noncomputable def C13:=C6.sn
abbrev Q1 (R : Post) : Exit → Act → World → Prop := (Exit.then (wpx Try.prog (cx 49) C13 (bodyPost Try.prog Try.f81 R)) (bodyPost Try.prog Try.f81 R))
noncomputable def C14:=C12.fs
noncomputable def C15:=C12.sn
/-- wire.go:137 -/
abbrev S6  (w : World) (R : Post) : Prop :=
  R (.returned (.slice none 0 0)) w
def KE_S6 (E : Env) (w : World) (R : Post) : Prop := S6  w R
theorem KE_S6_ok (R : Post) (E : Env) (w : World) (h : KE_S6 E w R) : WP Try.prog (cx 49) C12 (Q1 R) E w := by
  exact fun a ha => WP.at (n := (cx 49)) (E := []) (WP.seq (c := C12) (x := C14) (y := C15) (by kernel_rfl) <| WP.reg (c := C14) (fun E w => retVC Try.prog Try.f81 E w (fun v => R (.returned v) w)) (by kernel_rfl) (Eq.mp (by kernel_rfl) h) fun _ _ a hA hK => (WP.ret (c := C15) (by kernel_rfl) fun a hA => retVC_sound hA hK) a hA) ha.nil
noncomputable def C16:=C11.fs
/-- wire.go:136 -/
abbrev S5 (r0 : Addr) (w : World) (R : Post) : Prop :=
  (w.cell? (r0.add 2)).isSome = true ∧ w.frozen? (r0.add 2) = false ∧ let w1 := w.setCell (r0.add 2) (.i 3)
  S6  w1 R
def KE_S5 (E : Env) (w : World) (R : Post) : Prop := asRef (Env.get? E 0) fun r0 => S5 r0 w R
theorem KE_S5_ok (R : Post) (E : Env) (w : World) (h : KE_S5 E w R) : WP Try.prog (cx 49) C11 (Q1 R) E w := by
  obtain ⟨r0, hq0, h_1⟩ := asRef_elim h
  exact fun a ha => WP.at (n := (cx 49)) (E := [(0, .pointer (some r0))]) (WP.seq (c := C11) (x := C16) (y := C12) (by kernel_rfl) <| WP.reg (c := C16) (fun E w => KE_S6 E w R) (by kernel_rfl) (Eq.mp (by kernel_rfl) h_1) fun _ _ a hA hK => (KE_S6_ok R _ _ hK) a hA) (ha.cons hq0 ha.nil)
noncomputable def C17:=C13.sn
noncomputable def C18:=C17.fs
noncomputable def C19:=C18.sn
noncomputable def C20:=C19.fs
noncomputable def C21:=C20.fs
noncomputable def C22:=C17.sn
abbrev Q2 (R : Post) : Exit → Act → World → Prop := (Exit.then (wpx Try.prog (cx 49) C22 (bodyPost Try.prog Try.f81 R)) (bodyPost Try.prog Try.f81 R))
abbrev Q3 (R : Post) : Exit → Act → World → Prop := (Exit.inBlock 0 (Q2 R))
/-- the head of the loop, wire.go:140 -/
def L9 (r0 element1_f0 : Addr) (l6 : Sl) (t33 t34 : Int) (w : World) (R : Post) : Prop := LP Try.prog (cx 49) C21 (Q3 R) [(0, .pointer (some r0)), (1, .func (.func n_wire_Reader_one) #[.pointer (some element1_f0)] #[]), (6, l6.v), (33, .u t33), (34, .u t34)] w
def KE_L9 (E : Env) (w : World) (R : Post) : Prop := asRef (Env.get? E 0) fun r0 => asFunc n_wire_Reader_one (Env.get? E 1) fun element1_lf0 element1_lc0 => asCons element1_lf0 fun element1_vf0 element1_lf1 => asRef (some element1_vf0) fun element1_f0 => asNil element1_lf1 <| asNil element1_lc0 <| asSlice (Env.get? E 6) fun l6 => W.asInt .u64 (Env.get? E 33) fun t33 => W.asInt .u64 (Env.get? E 34) fun t34 => L9 r0 element1_f0 l6 t33 t34 w R
theorem KE_L9_ok (R : Post) (E : Env) (w : World) (h : KE_L9 E w R) : LP Try.prog (cx 49) C21 (Q3 R) E w := by
  obtain ⟨r0, hq0, h_1⟩ := asRef_elim h
  obtain ⟨element1_lf0, element1_lc0, hq1, h_2⟩ := asFunc_elim h_1
  obtain ⟨element1_vf0, element1_lf1, rfl, h_3⟩ := asCons_elim h_2
  obtain ⟨element1_f0, ex, h_4⟩ := asRef_elim h_3
  obtain rfl := Option.some.inj ex
  obtain ⟨rfl, h_5⟩ := asNil_elim h_4
  obtain ⟨rfl, h_6⟩ := asNil_elim h_5
  obtain ⟨l6, hq6, h_7⟩ := asSlice_elim h_6
  obtain ⟨t33, hq33, h_8⟩ := asInt_elim h_7
  obtain ⟨t34, hq34, h_9⟩ := asInt_elim h_8
  intro a ha
  exact h_9 a (ha.cons hq0 (ha.cons hq1 (ha.cons hq6 (ha.cons hq33 (ha.cons hq34 ha.nil)))))
noncomputable def C23:=C21.sn
noncomputable def C24:=C23.sn
noncomputable def C25:=C24.fs
noncomputable def C26:=C25.fs
noncomputable def C27:=C26.sn
noncomputable def C28:=C27.fs
noncomputable def C29:=C28.sn
noncomputable def C30:=C29.fs
noncomputable def C31:=C24.sn
abbrev Q4 (R : Post) : Exit → Act → World → Prop := (Exit.then (wpx Try.prog (cx 49) C31 (Exit.then (LoopWP Try.prog (cx 49) C21 (Q3 R)) (Q3 R))) (Exit.then (LoopWP Try.prog (cx 49) C21 (Q3 R)) (Q3 R)))
noncomputable def C32:=C27.sn
abbrev Q5 (R : Post) : Exit → Act → World → Prop := (Exit.then (wpx Try.prog (cx 49) C32 (Exit.inBlock 1 (Q4 R))) (Exit.inBlock 1 (Q4 R)))
noncomputable def C33:=C30.fs
noncomputable def C34:=C30.sn
/-- wire.go:143 -/
abbrev S13  (w : World) (R : Post) : Prop :=
  R (.returned (.slice none 0 0)) w
def KE_S13 (E : Env) (w : World) (R : Post) : Prop := S13  w R
theorem KE_S13_ok (R : Post) (E : Env) (w : World) (h : KE_S13 E w R) : WP Try.prog (cx 49) C30 (Q5 R) E w := by
  exact fun a ha => WP.at (n := (cx 49)) (E := []) (WP.seq (c := C30) (x := C33) (y := C34) (by kernel_rfl) <| WP.reg (c := C33) (fun E w => retVC Try.prog Try.f81 E w (fun v => R (.returned v) w)) (by kernel_rfl) (Eq.mp (by kernel_rfl) h) fun _ _ a hA hK => (WP.ret (c := C34) (by kernel_rfl) fun a hA => retVC_sound hA hK) a hA) ha.nil
abbrev Q6 (R : Post) : Exit → Act → World → Prop := (Exit.then (LoopWP Try.prog (cx 49) C21 (Q3 R)) (Q3 R))
/-- wire.go:140 -/
abbrev S15 (r0 element1_f0 : Addr) (l6 : Sl) (t33 t34 : Int) (w : World) (R : Post) : Prop :=
  L9 r0 element1_f0 l6 t33 (IntKind.wrap .u64 (t34 + 1)) w R
def KE_S15 (E : Env) (w : World) (R : Post) : Prop := asRef (Env.get? E 0) fun r0 => asFunc n_wire_Reader_one (Env.get? E 1) fun element1_lf0 element1_lc0 => asCons element1_lf0 fun element1_vf0 element1_lf1 => asRef (some element1_vf0) fun element1_f0 => asNil element1_lf1 <| asNil element1_lc0 <| asSlice (Env.get? E 6) fun l6 => W.asInt .u64 (Env.get? E 33) fun t33 => W.asInt .u64 (Env.get? E 34) fun t34 => S15 r0 element1_f0 l6 t33 t34 w R
theorem KE_S15_ok (R : Post) (E : Env) (w : World) (h : KE_S15 E w R) : WP Try.prog (cx 49) C31 (Q6 R) E w := by
  obtain ⟨r0, hq0, h_1⟩ := asRef_elim h
  obtain ⟨element1_lf0, element1_lc0, hq1, h_2⟩ := asFunc_elim h_1
  obtain ⟨element1_vf0, element1_lf1, rfl, h_3⟩ := asCons_elim h_2
  obtain ⟨element1_f0, ex, h_4⟩ := asRef_elim h_3
  obtain rfl := Option.some.inj ex
  obtain ⟨rfl, h_5⟩ := asNil_elim h_4
  obtain ⟨rfl, h_6⟩ := asNil_elim h_5
  obtain ⟨l6, hq6, h_7⟩ := asSlice_elim h_6
  obtain ⟨t33, hq33, h_8⟩ := asInt_elim h_7
  obtain ⟨t34, hq34, h_9⟩ := asInt_elim h_8
  exact fun a ha => WP.at (n := (cx 49)) (E := [(0, .pointer (some r0)), (1, .func (.func n_wire_Reader_one) #[.pointer (some element1_f0)] #[]), (6, l6.v), (33, .u t33), (34, .u t34)]) (WP.reg (c := C31) (fun E w => KE_L9 E w R) (by kernel_rfl) (Eq.mp (by kernel_rfl) h_9) fun _ _ a hA hK => KE_L9_ok R _ _ hK a hA) (ha.cons hq0 (ha.cons hq1 (ha.cons hq6 (ha.cons hq33 (ha.cons hq34 ha.nil)))))
abbrev Q7 (R : Post) : Exit → Act → World → Prop := (Exit.inBlock 1 (Q4 R))
/-- wire.go:145 -/
abbrev S14 (r0 element1_f0 : Addr) (l6 : Sl) (x7 t33 t34 : Int) (w : World) (R : Post) : Prop :=
  let w1 := w.alloc (.cells #[.int .u8 x7] ty_uint8)
  ∃ (t46 : Sl) (w2 : World), Sem.run Try.prog (Builtin.append_ #[ty_sl_uint8, ty_sl_uint8] ty_sl_uint8 #[l6.v, .slice (some (nb w)) 1 1]) w1 = .ok (t46.v) w2 ∧ S15 r0 element1_f0 t46 t33 t34 w2 R
def KE_S14 (E : Env) (w : World) (R : Post) : Prop := asRef (Env.get? E 0) fun r0 => asFunc n_wire_Reader_one (Env.get? E 1) fun element1_lf0 element1_lc0 => asCons element1_lf0 fun element1_vf0 element1_lf1 => asRef (some element1_vf0) fun element1_f0 => asNil element1_lf1 <| asNil element1_lc0 <| asSlice (Env.get? E 6) fun l6 => W.asInt .u8 (Env.get? E 7) fun x7 => W.asInt .u64 (Env.get? E 33) fun t33 => W.asInt .u64 (Env.get? E 34) fun t34 => S14 r0 element1_f0 l6 x7 t33 t34 w R
theorem KE_S14_ok (R : Post) (E : Env) (w : World) (h : KE_S14 E w R) : WP Try.prog (cx 49) C32 (Q7 R) E w := by
  obtain ⟨r0, hq0, h_1⟩ := asRef_elim h
  obtain ⟨element1_lf0, element1_lc0, hq1, h_2⟩ := asFunc_elim h_1
  obtain ⟨element1_vf0, element1_lf1, rfl, h_3⟩ := asCons_elim h_2
  obtain ⟨element1_f0, ex, h_4⟩ := asRef_elim h_3
  obtain rfl := Option.some.inj ex
  obtain ⟨rfl, h_5⟩ := asNil_elim h_4
  obtain ⟨rfl, h_6⟩ := asNil_elim h_5
  obtain ⟨l6, hq6, h_7⟩ := asSlice_elim h_6
  obtain ⟨x7, hq7, h_8⟩ := asInt_elim h_7
  obtain ⟨t33, hq33, h_9⟩ := asInt_elim h_8
  obtain ⟨t34, hq34, h_10⟩ := asInt_elim h_9
  exact fun a ha => WP.at (n := (cx 49)) (E := [(0, .pointer (some r0)), (1, .func (.func n_wire_Reader_one) #[.pointer (some element1_f0)] #[]), (6, l6.v), (7, .int .u8 x7), (33, .u t33), (34, .u t34)]) (WP.reg (c := C32) (fun E w => KE_S15 E w R) (by kernel_rfl) (Eq.mp (by kernel_rfl) h_10) fun _ _ a hA hK => (KE_S15_ok R _ _ hK) a hA) (ha.cons hq0 (ha.cons hq1 (ha.cons hq6 (ha.cons hq7 (ha.cons hq33 (ha.cons hq34 ha.nil))))))
noncomputable def C35:=C28.fs
noncomputable def C36:=C29.sn
/-- wire.go:142 -/
abbrev S12 (r0 element1_f0 : Addr) (l6 : Sl) (x7 t33 t34 : Int) (w : World) (R : Post) : Prop :=
  ∃ t41 : Int, w.cell? (r0.add 2) = some (.i t41) ∧ 
  sel (t41 != 0) (S13  w R) (S14 r0 element1_f0 l6 x7 t33 t34 w R)
def KE_S12 (E : Env) (w : World) (R : Post) : Prop := asRef (Env.get? E 0) fun r0 => asFunc n_wire_Reader_one (Env.get? E 1) fun element1_lf0 element1_lc0 => asCons element1_lf0 fun element1_vf0 element1_lf1 => asRef (some element1_vf0) fun element1_f0 => asNil element1_lf1 <| asNil element1_lc0 <| asSlice (Env.get? E 6) fun l6 => W.asInt .u8 (Env.get? E 7) fun x7 => W.asInt .u64 (Env.get? E 33) fun t33 => W.asInt .u64 (Env.get? E 34) fun t34 => S12 r0 element1_f0 l6 x7 t33 t34 w R
theorem KE_S12_ok (R : Post) (E : Env) (w : World) (h : KE_S12 E w R) : WP Try.prog (cx 49) C28 (Q5 R) E w := by
  obtain ⟨r0, hq0, h_1⟩ := asRef_elim h
  obtain ⟨element1_lf0, element1_lc0, hq1, h_2⟩ := asFunc_elim h_1
  obtain ⟨element1_vf0, element1_lf1, rfl, h_3⟩ := asCons_elim h_2
  obtain ⟨element1_f0, ex, h_4⟩ := asRef_elim h_3
  obtain rfl := Option.some.inj ex
  obtain ⟨rfl, h_5⟩ := asNil_elim h_4
  obtain ⟨rfl, h_6⟩ := asNil_elim h_5
  obtain ⟨l6, hq6, h_7⟩ := asSlice_elim h_6
  obtain ⟨x7, hq7, h_8⟩ := asInt_elim h_7
  obtain ⟨t33, hq33, h_9⟩ := asInt_elim h_8
  obtain ⟨t34, hq34, h_10⟩ := asInt_elim h_9
  exact fun a ha => WP.at (n := (cx 49)) (E := [(0, .pointer (some r0)), (1, .func (.func n_wire_Reader_one) #[.pointer (some element1_f0)] #[]), (6, l6.v), (7, .int .u8 x7), (33, .u t33), (34, .u t34)]) (WP.seq (c := C28) (x := C35) (y := C29) (by kernel_rfl) <| WP.reg (c := C35) (fun E w => condK (Env.val E (.tmp 42)) (KE_S13 E w R) (KE_S14 E w R)) (by kernel_rfl) (Eq.mp (by kernel_rfl) h_10) fun _ _ a hA hK => (WP.condK (c := C29) (x := C30) (y := C36) (o := .tmp 42) (by kernel_rfl) (fun hK => (KE_S13_ok R _ _ hK)) (fun hK => (WP.skip (c := C36) (by kernel_rfl) fun a hA => (KE_S14_ok R _ _ hK) a hA)) hK) a hA) (ha.cons hq0 (ha.cons hq1 (ha.cons hq6 (ha.cons hq7 (ha.cons hq33 (ha.cons hq34 ha.nil))))))
noncomputable def C37:=C26.fs
/-- wire.go:141 -/
abbrev S11 (r0 element1_f0 : Addr) (l6 : Sl) (t33 t34 : Int) (w : World) (R : Post) : Prop :=
  Calls Try.prog n_wire_Reader_one #[.pointer (some element1_f0)] w fun r_ w1 => ∃ t37 : Int, r_ = .returned (.int .u8 t37) ∧ 
  S12 r0 element1_f0 l6 t37 t33 t34 w1 R
def KE_S11 (E : Env) (w : World) (R : Post) : Prop := asRef (Env.get? E 0) fun r0 => asFunc n_wire_Reader_one (Env.get? E 1) fun element1_lf0 element1_lc0 => asCons element1_lf0 fun element1_vf0 element1_lf1 => asRef (some element1_vf0) fun element1_f0 => asNil element1_lf1 <| asNil element1_lc0 <| asSlice (Env.get? E 6) fun l6 => W.asInt .u64 (Env.get? E 33) fun t33 => W.asInt .u64 (Env.get? E 34) fun t34 => S11 r0 element1_f0 l6 t33 t34 w R
theorem KE_S11_ok (R : Post) (E : Env) (w : World) (h : KE_S11 E w R) : WP Try.prog (cx 49) C26 (Q7 R) E w := by
  obtain ⟨r0, hq0, h_1⟩ := asRef_elim h
  obtain ⟨element1_lf0, element1_lc0, hq1, h_2⟩ := asFunc_elim h_1
  obtain ⟨element1_vf0, element1_lf1, rfl, h_3⟩ := asCons_elim h_2
  obtain ⟨element1_f0, ex, h_4⟩ := asRef_elim h_3
  obtain rfl := Option.some.inj ex
  obtain ⟨rfl, h_5⟩ := asNil_elim h_4
  obtain ⟨rfl, h_6⟩ := asNil_elim h_5
  obtain ⟨l6, hq6, h_7⟩ := asSlice_elim h_6
  obtain ⟨t33, hq33, h_8⟩ := asInt_elim h_7
  obtain ⟨t34, hq34, h_9⟩ := asInt_elim h_8
  exact fun a ha => WP.at (n := (cx 49)) (E := [(0, .pointer (some r0)), (1, .func (.func n_wire_Reader_one) #[.pointer (some element1_f0)] #[]), (6, l6.v), (33, .u t33), (34, .u t34)]) (WP.seq (c := C26) (x := C37) (y := C27) (by kernel_rfl) <| WP.reg (c := C37) (fun E w => KE_S12 E w R) (by kernel_rfl) (Eq.mp (by kernel_rfl) h_9) fun _ _ a hA hK => (WP.seq (c := C27) (x := C28) (y := C32) (by kernel_rfl) (KE_S12_ok R _ _ hK)) a hA) (ha.cons hq0 (ha.cons hq1 (ha.cons hq6 (ha.cons hq33 (ha.cons hq34 ha.nil)))))
abbrev Q8 (R : Post) : Exit → Act → World → Prop := (bodyPost Try.prog Try.f81 R)
noncomputable def C38:=C22.fs
noncomputable def C39:=C22.sn
/-- wire.go:147 -/
abbrev S16 (l6 : Sl) (w : World) (R : Post) : Prop :=
  R (.returned (l6.v)) w
def KE_S16 (E : Env) (w : World) (R : Post) : Prop := asSlice (Env.get? E 6) fun l6 => S16 l6 w R
theorem KE_S16_ok (R : Post) (E : Env) (w : World) (h : KE_S16 E w R) : WP Try.prog (cx 49) C22 (Q8 R) E w := by
  obtain ⟨l6, hq6, h_1⟩ := asSlice_elim h
  exact fun a ha => WP.at (n := (cx 49)) (E := [(6, l6.v)]) (WP.seq (c := C22) (x := C38) (y := C39) (by kernel_rfl) <| WP.reg (c := C38) (fun E w => retVC Try.prog Try.f81 E w (fun v => R (.returned v) w)) (by kernel_rfl) (Eq.mp (by kernel_rfl) h_1) fun _ _ a hA hK => (WP.ret (c := C39) (by kernel_rfl) fun a hA => retVC_sound hA hK) a hA) (ha.cons hq6 ha.nil)
noncomputable def C40:=C21.fs
noncomputable def C41:=C23.fs
noncomputable def C42:=C41.fs
noncomputable def C43:=C41.sn
/-- wire.go:140 -/
abbrev S10 (r0 element1_f0 : Addr) (l6 : Sl) (t33 t34 : Int) (w : World) (R : Post) : Prop :=
  sel (decide (t34 < t33)) (S11 r0 element1_f0 l6 t33 t34 w R) (S16 l6 w R)
def KE_S10 (E : Env) (w : World) (R : Post) : Prop := asRef (Env.get? E 0) fun r0 => asFunc n_wire_Reader_one (Env.get? E 1) fun element1_lf0 element1_lc0 => asCons element1_lf0 fun element1_vf0 element1_lf1 => asRef (some element1_vf0) fun element1_f0 => asNil element1_lf1 <| asNil element1_lc0 <| asSlice (Env.get? E 6) fun l6 => W.asInt .u64 (Env.get? E 33) fun t33 => W.asInt .u64 (Env.get? E 34) fun t34 => S10 r0 element1_f0 l6 t33 t34 w R
theorem KE_S10_ok (R : Post) (E : Env) (w : World) (h : KE_S10 E w R) : WP Try.prog (cx 49) C21 (Q6 R) E w := by
  obtain ⟨r0, hq0, h_1⟩ := asRef_elim h
  obtain ⟨element1_lf0, element1_lc0, hq1, h_2⟩ := asFunc_elim h_1
  obtain ⟨element1_vf0, element1_lf1, rfl, h_3⟩ := asCons_elim h_2
  obtain ⟨element1_f0, ex, h_4⟩ := asRef_elim h_3
  obtain rfl := Option.some.inj ex
  obtain ⟨rfl, h_5⟩ := asNil_elim h_4
  obtain ⟨rfl, h_6⟩ := asNil_elim h_5
  obtain ⟨l6, hq6, h_7⟩ := asSlice_elim h_6
  obtain ⟨t33, hq33, h_8⟩ := asInt_elim h_7
  obtain ⟨t34, hq34, h_9⟩ := asInt_elim h_8
  exact fun a ha => WP.at (n := (cx 49)) (E := [(0, .pointer (some r0)), (1, .func (.func n_wire_Reader_one) #[.pointer (some element1_f0)] #[]), (6, l6.v), (33, .u t33), (34, .u t34)]) (WP.seq (c := C21) (x := C40) (y := C23) (by kernel_rfl) <| WP.reg (c := C40) (fun E w => condK (Env.val E (.tmp 35)) (KE_S11 E w R) (KE_S16 E w R)) (by kernel_rfl) (Eq.mp (by kernel_rfl) h_9) fun _ _ a hA hK => (WP.seq (c := C23) (x := C41) (y := C24) (by kernel_rfl) (WP.condK (c := C41) (x := C42) (y := C43) (o := .tmp 35) (by kernel_rfl) (fun hK => (WP.skip (c := C42) (by kernel_rfl) fun a hA => (WP.seq (c := C24) (x := C25) (y := C31) (by kernel_rfl) (WP.block (c := C25) (x := C26) (id := 1) (by kernel_rfl) (KE_S11_ok R _ _ hK))) a hA)) (fun hK => (WP.exit (c := C43) (id := 0) (by kernel_rfl) fun a hA => (KE_S16_ok R _ _ hK) a hA)) hK)) a hA) (ha.cons hq0 (ha.cons hq1 (ha.cons hq6 (ha.cons hq33 (ha.cons hq34 ha.nil)))))
theorem L9_step (r0 element1_f0 : Addr) (l6 : Sl) (t33 t34 : Int) (w : World) (R : Post) (h : S10 r0 element1_f0 l6 t33 t34 w R) : L9 r0 element1_f0 l6 t33 t34 w R :=
  LP.step (n := (cx 49)) (c := C21) (E := [(0, .pointer (some r0)), (1, .func (.func n_wire_Reader_one) #[.pointer (some element1_f0)] #[]), (6, l6.v), (33, .u t33), (34, .u t34)]) (w := w) (KE_S10_ok R _ _ (Eq.mp (by kernel_rfl) h))
noncomputable def C44:=C18.fs
/-- wire.go:140 -/
abbrev S8 (r0 element1_f0 : Addr) (n5 : Int) (l6 : Sl) (w : World) (R : Post) : Prop :=
  L9 r0 element1_f0 l6 n5 0 w R
def KE_S8 (E : Env) (w : World) (R : Post) : Prop := asRef (Env.get? E 0) fun r0 => asFunc n_wire_Reader_one (Env.get? E 1) fun element1_lf0 element1_lc0 => asCons element1_lf0 fun element1_vf0 element1_lf1 => asRef (some element1_vf0) fun element1_f0 => asNil element1_lf1 <| asNil element1_lc0 <| W.asInt .u64 (Env.get? E 5) fun n5 => asSlice (Env.get? E 6) fun l6 => S8 r0 element1_f0 n5 l6 w R
theorem KE_S8_ok (R : Post) (E : Env) (w : World) (h : KE_S8 E w R) : WP Try.prog (cx 49) C18 (Q2 R) E w := by
  obtain ⟨r0, hq0, h_1⟩ := asRef_elim h
  obtain ⟨element1_lf0, element1_lc0, hq1, h_2⟩ := asFunc_elim h_1
  obtain ⟨element1_vf0, element1_lf1, rfl, h_3⟩ := asCons_elim h_2
  obtain ⟨element1_f0, ex, h_4⟩ := asRef_elim h_3
  obtain rfl := Option.some.inj ex
  obtain ⟨rfl, h_5⟩ := asNil_elim h_4
  obtain ⟨rfl, h_6⟩ := asNil_elim h_5
  obtain ⟨n5, hq5, h_7⟩ := asInt_elim h_6
  obtain ⟨l6, hq6, h_8⟩ := asSlice_elim h_7
  exact fun a ha => WP.at (n := (cx 49)) (E := [(0, .pointer (some r0)), (1, .func (.func n_wire_Reader_one) #[.pointer (some element1_f0)] #[]), (5, .u n5), (6, l6.v)]) (WP.seq (c := C18) (x := C44) (y := C19) (by kernel_rfl) <| WP.reg (c := C44) (fun E w => KE_L9 E w R) (by kernel_rfl) (Eq.mp (by kernel_rfl) h_8) fun _ _ a hA hK => (WP.block (c := C19) (x := C20) (id := 0) (by kernel_rfl) (WP.loop (c := C20) (x := C21) (by kernel_rfl) (KE_L9_ok R _ _ hK))) a hA) (ha.cons hq0 (ha.cons hq1 (ha.cons hq5 (ha.cons hq6 ha.nil))))
noncomputable def C45:=C13.fs
/-- wire.go:139 -/
abbrev S7 (r0 element1_f0 : Addr) (n5 : Int) (w : World) (R : Post) : Prop :=
  ∃ (t32 : Sl) (w1 : World), Sem.run Try.prog (Instr.makeSlice ty_sl_uint8 (.i 0) (.u n5)) w = .ok (t32.v) w1 ∧ S8 r0 element1_f0 n5 t32 w1 R
def KE_S7 (E : Env) (w : World) (R : Post) : Prop := asRef (Env.get? E 0) fun r0 => asFunc n_wire_Reader_one (Env.get? E 1) fun element1_lf0 element1_lc0 => asCons element1_lf0 fun element1_vf0 element1_lf1 => asRef (some element1_vf0) fun element1_f0 => asNil element1_lf1 <| asNil element1_lc0 <| W.asInt .u64 (Env.get? E 5) fun n5 => S7 r0 element1_f0 n5 w R
theorem KE_S7_ok (R : Post) (E : Env) (w : World) (h : KE_S7 E w R) : WP Try.prog (cx 49) C13 (Q8 R) E w := by
  obtain ⟨r0, hq0, h_1⟩ := asRef_elim h
  obtain ⟨element1_lf0, element1_lc0, hq1, h_2⟩ := asFunc_elim h_1
  obtain ⟨element1_vf0, element1_lf1, rfl, h_3⟩ := asCons_elim h_2
  obtain ⟨element1_f0, ex, h_4⟩ := asRef_elim h_3
  obtain rfl := Option.some.inj ex
  obtain ⟨rfl, h_5⟩ := asNil_elim h_4
  obtain ⟨rfl, h_6⟩ := asNil_elim h_5
  obtain ⟨n5, hq5, h_7⟩ := asInt_elim h_6
  exact fun a ha => WP.at (n := (cx 49)) (E := [(0, .pointer (some r0)), (1, .func (.func n_wire_Reader_one) #[.pointer (some element1_f0)] #[]), (5, .u n5)]) (WP.seq (c := C13) (x := C45) (y := C17) (by kernel_rfl) <| WP.reg (c := C45) (fun E w => KE_S8 E w R) (by kernel_rfl) (Eq.mp (by kernel_rfl) h_7) fun _ _ a hA hK => (WP.seq (c := C17) (x := C18) (y := C22) (by kernel_rfl) (KE_S8_ok R _ _ hK)) a hA) (ha.cons hq0 (ha.cons hq1 (ha.cons hq5 ha.nil)))
noncomputable def C46:=C9.fs
noncomputable def C47:=C10.sn
/-- wire.go:135 -/
abbrev S4 (r0 element1_f0 : Addr) (n5 : Int) (w : World) (R : Post) : Prop :=
  ∃ t19 : Sl, w.drew.cell? (r0.add 0) = some (t19.v) ∧ 
  ∃ t24 : Int, w.drew.cell? (r0.add 1) = some (.i t24) ∧ 
  sel (decide (n5 > (IntKind.wrap .u64 (IntKind.wrap .i64 (((t19.n : Nat) : Int) - t24))))) (S5 r0 w.drew R) (S7 r0 element1_f0 n5 w.drew R)
def KE_S4 (E : Env) (w : World) (R : Post) : Prop := asRef (Env.get? E 0) fun r0 => asFunc n_wire_Reader_one (Env.get? E 1) fun element1_lf0 element1_lc0 => asCons element1_lf0 fun element1_vf0 element1_lf1 => asRef (some element1_vf0) fun element1_f0 => asNil element1_lf1 <| asNil element1_lc0 <| W.asInt .u64 (Env.get? E 5) fun n5 => S4 r0 element1_f0 n5 w R
theorem KE_S4_ok (R : Post) (E : Env) (w : World) (h : KE_S4 E w R) : WP Try.prog (cx 49) C9 (Q1 R) E w := by
  obtain ⟨r0, hq0, h_1⟩ := asRef_elim h
  obtain ⟨element1_lf0, element1_lc0, hq1, h_2⟩ := asFunc_elim h_1
  obtain ⟨element1_vf0, element1_lf1, rfl, h_3⟩ := asCons_elim h_2
  obtain ⟨element1_f0, ex, h_4⟩ := asRef_elim h_3
  obtain rfl := Option.some.inj ex
  obtain ⟨rfl, h_5⟩ := asNil_elim h_4
  obtain ⟨rfl, h_6⟩ := asNil_elim h_5
  obtain ⟨n5, hq5, h_7⟩ := asInt_elim h_6
  exact fun a ha => WP.at (n := (cx 49)) (E := [(0, .pointer (some r0)), (1, .func (.func n_wire_Reader_one) #[.pointer (some element1_f0)] #[]), (5, .u n5)]) (WP.seq (c := C9) (x := C46) (y := C10) (by kernel_rfl) <| WP.draw (c := C46) [0, 1, 2, 3, 4, 5, 6, 7, 8, 9, 10, 11, 12] (fun E w => condK (Env.val E (.tmp 27)) (KE_S5 E w R) (KE_S7 E w R)) (by kernel_rfl) (Eq.mp (by kernel_rfl) h_7) fun _ _ a hA hK => (WP.condK (c := C10) (x := C11) (y := C47) (o := .tmp 27) (by kernel_rfl) (fun hK => (KE_S5_ok R _ _ hK)) (fun hK => (WP.skip (c := C47) (by kernel_rfl) fun a hA => (KE_S7_ok R _ _ hK) a hA)) hK) a hA) (ha.cons hq0 (ha.cons hq1 (ha.cons hq5 ha.nil)))
noncomputable def C48:=C3.fs
noncomputable def C49:=C4.sn
/-- wire.go:132 -/
abbrev S2 (r0 element1_f0 : Addr) (n5 : Int) (w : World) (R : Post) : Prop :=
  ∃ t13 : Int, w.cell? (r0.add 2) = some (.i t13) ∧ 
  sel (t13 != 0) (S3  w R) (S4 r0 element1_f0 n5 w R)
def KE_S2 (E : Env) (w : World) (R : Post) : Prop := asRef (Env.get? E 0) fun r0 => asFunc n_wire_Reader_one (Env.get? E 1) fun element1_lf0 element1_lc0 => asCons element1_lf0 fun element1_vf0 element1_lf1 => asRef (some element1_vf0) fun element1_f0 => asNil element1_lf1 <| asNil element1_lc0 <| W.asInt .u64 (Env.get? E 5) fun n5 => S2 r0 element1_f0 n5 w R
theorem KE_S2_ok (R : Post) (E : Env) (w : World) (h : KE_S2 E w R) : WP Try.prog (cx 49) C3 (Q0 R) E w := by
  obtain ⟨r0, hq0, h_1⟩ := asRef_elim h
  obtain ⟨element1_lf0, element1_lc0, hq1, h_2⟩ := asFunc_elim h_1
  obtain ⟨element1_vf0, element1_lf1, rfl, h_3⟩ := asCons_elim h_2
  obtain ⟨element1_f0, ex, h_4⟩ := asRef_elim h_3
  obtain rfl := Option.some.inj ex
  obtain ⟨rfl, h_5⟩ := asNil_elim h_4
  obtain ⟨rfl, h_6⟩ := asNil_elim h_5
  obtain ⟨n5, hq5, h_7⟩ := asInt_elim h_6
  exact fun a ha => WP.at (n := (cx 49)) (E := [(0, .pointer (some r0)), (1, .func (.func n_wire_Reader_one) #[.pointer (some element1_f0)] #[]), (5, .u n5)]) (WP.seq (c := C3) (x := C48) (y := C4) (by kernel_rfl) <| WP.reg (c := C48) (fun E w => condK (Env.val E (.tmp 14)) (KE_S3 E w R) (KE_S4 E w R)) (by kernel_rfl) (Eq.mp (by kernel_rfl) h_7) fun _ _ a hA hK => (WP.condK (c := C4) (x := C5) (y := C49) (o := .tmp 14) (by kernel_rfl) (fun hK => (KE_S3_ok R _ _ hK)) (fun hK => (WP.skip (c := C49) (by kernel_rfl) fun a hA => (WP.seq (c := C6) (x := C9) (y := C13) (by kernel_rfl) (KE_S4_ok R _ _ hK)) a hA)) hK) a hA) (ha.cons hq0 (ha.cons hq1 (ha.cons hq5 ha.nil)))
noncomputable def C50:=C1.fs
/-- wire.go:131 -/
abbrev S1 (r0 element1_f0 : Addr) (w : World) (R : Post) : Prop :=
  Calls Try.prog n_wire_Reader_Uint #[.pointer (some r0)] w fun r_ w1 => ∃ t9 : Int, r_ = .returned (.u t9) ∧ 
  S2 r0 element1_f0 t9 w1 R
def KE_S1 (E : Env) (w : World) (R : Post) : Prop := asRef (Env.get? E 0) fun r0 => asFunc n_wire_Reader_one (Env.get? E 1) fun element1_lf0 element1_lc0 => asCons element1_lf0 fun element1_vf0 element1_lf1 => asRef (some element1_vf0) fun element1_f0 => asNil element1_lf1 <| asNil element1_lc0 <| S1 r0 element1_f0 w R
theorem KE_S1_ok (R : Post) (E : Env) (w : World) (h : KE_S1 E w R) : WP Try.prog (cx 49) C1 (Q8 R) E w := by
  obtain ⟨r0, hq0, h_1⟩ := asRef_elim h
  obtain ⟨element1_lf0, element1_lc0, hq1, h_2⟩ := asFunc_elim h_1
  obtain ⟨element1_vf0, element1_lf1, rfl, h_3⟩ := asCons_elim h_2
  obtain ⟨element1_f0, ex, h_4⟩ := asRef_elim h_3
  obtain rfl := Option.some.inj ex
  obtain ⟨rfl, h_5⟩ := asNil_elim h_4
  obtain ⟨rfl, h_6⟩ := asNil_elim h_5
  exact fun a ha => WP.at (n := (cx 49)) (E := [(0, .pointer (some r0)), (1, .func (.func n_wire_Reader_one) #[.pointer (some element1_f0)] #[])]) (WP.seq (c := C1) (x := C50) (y := C2) (by kernel_rfl) <| WP.reg (c := C50) (fun E w => KE_S2 E w R) (by kernel_rfl) (Eq.mp (by kernel_rfl) h_6) fun _ _ a hA hK => (WP.seq (c := C2) (x := C3) (y := C6) (by kernel_rfl) (KE_S2_ok R _ _ hK)) a hA) (ha.cons hq0 (ha.cons hq1 ha.nil))
noncomputable def C51:=C0.fs
/-- wire.go:130 -/
abbrev S0 (r0 element1_f0 : Addr) (w : World) (R : Post) : Prop :=
  S1 r0 element1_f0 w R
def KE_S0 (E : Env) (w : World) (R : Post) : Prop := asRef (Env.get? E 0) fun r0 => asFunc n_wire_Reader_one (Env.get? E 1) fun element1_lf0 element1_lc0 => asCons element1_lf0 fun element1_vf0 element1_lf1 => asRef (some element1_vf0) fun element1_f0 => asNil element1_lf1 <| asNil element1_lc0 <| S0 r0 element1_f0 w R
theorem KE_S0_ok (R : Post) (E : Env) (w : World) (h : KE_S0 E w R) : WP Try.prog (cx 49) C0 (Q8 R) E w := by
  obtain ⟨r0, hq0, h_1⟩ := asRef_elim h
  obtain ⟨element1_lf0, element1_lc0, hq1, h_2⟩ := asFunc_elim h_1
  obtain ⟨element1_vf0, element1_lf1, rfl, h_3⟩ := asCons_elim h_2
  obtain ⟨element1_f0, ex, h_4⟩ := asRef_elim h_3
  obtain rfl := Option.some.inj ex
  obtain ⟨rfl, h_5⟩ := asNil_elim h_4
  obtain ⟨rfl, h_6⟩ := asNil_elim h_5
  exact fun a ha => WP.at (n := (cx 49)) (E := [(0, .pointer (some r0)), (1, .func (.func n_wire_Reader_one) #[.pointer (some element1_f0)] #[])]) (WP.seq (c := C0) (x := C51) (y := C1) (by kernel_rfl) <| WP.reg (c := C51) (fun E w => KE_S1 E w R) (by kernel_rfl) (Eq.mp (by kernel_rfl) h_6) fun _ _ a hA hK => (KE_S1_ok R _ _ hK) a hA) (ha.cons hq0 (ha.cons hq1 ha.nil))
/-- enthymeme/wire.list[byte] -/
theorem ok (r0 element1_f0 : Addr) (w : World) (R : Post) (h : S0 r0 element1_f0 w R) : Calls Try.prog n_wire_list_byte #[.pointer (some r0), .func (.func n_wire_Reader_one) #[.pointer (some element1_f0)] #[]] w R :=
  calls_of_WP' (R := R) (fn := Try.f81) (c := C0) (args := [.pointer (some r0), .func (.func n_wire_Reader_one) #[.pointer (some element1_f0)] #[]]) (by kernel_rfl) (by kernel_rfl) (by kernel_rfl) (KE_S0_ok R _ _ (Eq.mp (by kernel_rfl) h))
end wire_list_byte
namespace wire_Reader_Text
noncomputable def C0 : Code := (Try.f72.body).getD .skip
noncomputable def C1:=C0.sn
abbrev Q0 (R : Post) : Exit → Act → World → Prop := (bodyPost Try.prog Try.f72 R)
noncomputable def C2:=C1.fs
noncomputable def C3:=C1.sn
/-- wire.go:152 -/
abbrev S1 (r0 : Addr) (w : World) (R : Post) : Prop :=
  Calls Try.prog n_wire_list_byte #[.pointer (some r0), .func (.func n_wire_Reader_one) #[.pointer (some r0)] #[]] w fun r_ w1 => ∃ t6 : Sl, r_ = .returned (t6.v) ∧ 
  ∃ t7 : ByteArray, Sem.run Try.prog (Go.convert ty_sl_uint8 ty_string (t6.v)) w1 = .ok (.string t7) w1 ∧ R (.returned (.string t7)) w1
def KE_S1 (E : Env) (w : World) (R : Post) : Prop := asRef (Env.get? E 0) fun r0 => S1 r0 w R
theorem KE_S1_ok (R : Post) (E : Env) (w : World) (h : KE_S1 E w R) : WP Try.prog (cx 8) C1 (Q0 R) E w := by
  obtain ⟨r0, hq0, h_1⟩ := asRef_elim h
  exact fun a ha => WP.at (n := (cx 8)) (E := [(0, .pointer (some r0))]) (WP.seq (c := C1) (x := C2) (y := C3) (by kernel_rfl) <| WP.reg (c := C2) (fun E w => retVC Try.prog Try.f72 E w (fun v => R (.returned v) w)) (by kernel_rfl) (Eq.mp (by kernel_rfl) h_1) fun _ _ a hA hK => (WP.ret (c := C3) (by kernel_rfl) fun a hA => retVC_sound hA hK) a hA) (ha.cons hq0 ha.nil)
noncomputable def C4:=C0.fs
/-- wire.go:151 -/
abbrev S0 (r0 : Addr) (w : World) (R : Post) : Prop :=
  S1 r0 w R
def KE_S0 (E : Env) (w : World) (R : Post) : Prop := asRef (Env.get? E 0) fun r0 => S0 r0 w R
theorem KE_S0_ok (R : Post) (E : Env) (w : World) (h : KE_S0 E w R) : WP Try.prog (cx 8) C0 (Q0 R) E w := by
  obtain ⟨r0, hq0, h_1⟩ := asRef_elim h
  exact fun a ha => WP.at (n := (cx 8)) (E := [(0, .pointer (some r0))]) (WP.seq (c := C0) (x := C4) (y := C1) (by kernel_rfl) <| WP.reg (c := C4) (fun E w => KE_S1 E w R) (by kernel_rfl) (Eq.mp (by kernel_rfl) h_1) fun _ _ a hA hK => (KE_S1_ok R _ _ hK) a hA) (ha.cons hq0 ha.nil)
/-- (*enthymeme/wire.Reader).Text -/
theorem ok (r0 : Addr) (w : World) (R : Post) (h : S0 r0 w R) : Calls Try.prog n_wire_Reader_Text #[.pointer (some r0)] w R :=
  calls_of_WP' (R := R) (fn := Try.f72) (c := C0) (args := [.pointer (some r0)]) (by kernel_rfl) (by kernel_rfl) (by kernel_rfl) (KE_S0_ok R _ _ (Eq.mp (by kernel_rfl) h))
end wire_Reader_Text
namespace wire_Reader_End
noncomputable def C0 : Code := (Try.f73.body).getD .skip
noncomputable def C1:=C0.sn
noncomputable def C2:=C1.fs
noncomputable def C3:=C2.sn
noncomputable def C4:=C3.fs
noncomputable def C5:=C1.sn
abbrev Q0 (R : Post) : Exit → Act → World → Prop := (Exit.then (wpx Try.prog (cx 22) C5 (bodyPost Try.prog Try.f73 R)) (bodyPost Try.prog Try.f73 R))
noncomputable def C6:=C4.fs
noncomputable def C7:=C4.sn
/-- wire.go:168 -/
abbrev S2 (r0 : Addr) (w : World) (R : Post) : Prop :=
  ∃ t11 : Int, w.cell? (r0.add 2) = some (.i t11) ∧ 
  R (.returned (.i t11)) w
def KE_S2 (E : Env) (w : World) (R : Post) : Prop := asRef (Env.get? E 0) fun r0 => S2 r0 w R
theorem KE_S2_ok (R : Post) (E : Env) (w : World) (h : KE_S2 E w R) : WP Try.prog (cx 22) C4 (Q0 R) E w := by
  obtain ⟨r0, hq0, h_1⟩ := asRef_elim h
  exact fun a ha => WP.at (n := (cx 22)) (E := [(0, .pointer (some r0))]) (WP.seq (c := C4) (x := C6) (y := C7) (by kernel_rfl) <| WP.reg (c := C6) (fun E w => retVC Try.prog Try.f73 E w (fun v => R (.returned v) w)) (by kernel_rfl) (Eq.mp (by kernel_rfl) h_1) fun _ _ a hA hK => (WP.ret (c := C7) (by kernel_rfl) fun a hA => retVC_sound hA hK) a hA) (ha.cons hq0 ha.nil)
noncomputable def C8:=C5.fs
noncomputable def C9:=C8.sn
noncomputable def C10:=C9.fs
noncomputable def C11:=C5.sn
abbrev Q1 (R : Post) : Exit → Act → World → Prop := (Exit.then (wpx Try.prog (cx 22) C11 (bodyPost Try.prog Try.f73 R)) (bodyPost Try.prog Try.f73 R))
noncomputable def C12:=C10.fs
noncomputable def C13:=C10.sn
/-- wire.go:171 -/
abbrev S4  (w : World) (R : Post) : Prop :=
  R (.returned (.i 2)) w
def KE_S4 (E : Env) (w : World) (R : Post) : Prop := S4  w R
theorem KE_S4_ok (R : Post) (E : Env) (w : World) (h : KE_S4 E w R) : WP Try.prog (cx 22) C10 (Q1 R) E w := by
  exact fun a ha => WP.at (n := (cx 22)) (E := []) (WP.seq (c := C10) (x := C12) (y := C13) (by kernel_rfl) <| WP.reg (c := C12) (fun E w => retVC Try.prog Try.f73 E w (fun v => R (.returned v) w)) (by kernel_rfl) (Eq.mp (by kernel_rfl) h) fun _ _ a hA hK => (WP.ret (c := C13) (by kernel_rfl) fun a hA => retVC_sound hA hK) a hA) ha.nil
abbrev Q2 (R : Post) : Exit → Act → World → Prop := (bodyPost Try.prog Try.f73 R)
noncomputable def C14:=C11.fs
noncomputable def C15:=C11.sn
/-- wire.go:173 -/
abbrev S5  (w : World) (R : Post) : Prop :=
  R (.returned (.i 0)) w
def KE_S5 (E : Env) (w : World) (R : Post) : Prop := S5  w R
theorem KE_S5_ok (R : Post) (E : Env) (w : World) (h : KE_S5 E w R) : WP Try.prog (cx 22) C11 (Q2 R) E w := by
  exact fun a ha => WP.at (n := (cx 22)) (E := []) (WP.seq (c := C11) (x := C14) (y := C15) (by kernel_rfl) <| WP.reg (c := C14) (fun E w => retVC Try.prog Try.f73 E w (fun v => R (.returned v) w)) (by kernel_rfl) (Eq.mp (by kernel_rfl) h) fun _ _ a hA hK => (WP.ret (c := C15) (by kernel_rfl) fun a hA => retVC_sound hA hK) a hA) ha.nil
noncomputable def C16:=C8.fs
noncomputable def C17:=C9.sn
/-- wire.go:170 -/
abbrev S3 (r0 : Addr) (w : World) (R : Post) : Prop :=
  ∃ t15 : Int, w.drew.cell? (r0.add 1) = some (.i t15) ∧ 
  ∃ t19 : Sl, w.drew.cell? (r0.add 0) = some (t19.v) ∧ 
  sel (decide (t15 < ((t19.n : Nat) : Int))) (S4  w.drew R) (S5  w.drew R)
def KE_S3 (E : Env) (w : World) (R : Post) : Prop := asRef (Env.get? E 0) fun r0 => S3 r0 w R
theorem KE_S3_ok (R : Post) (E : Env) (w : World) (h : KE_S3 E w R) : WP Try.prog (cx 22) C8 (Q1 R) E w := by
  obtain ⟨r0, hq0, h_1⟩ := asRef_elim h
  exact fun a ha => WP.at (n := (cx 22)) (E := [(0, .pointer (some r0))]) (WP.seq (c := C8) (x := C16) (y := C9) (by kernel_rfl) <| WP.draw (c := C16) [0, 1, 2, 3, 4, 5, 6, 7, 8, 9] (fun E w => condK (Env.val E (.tmp 21)) (KE_S4 E w R) (KE_S5 E w R)) (by kernel_rfl) (Eq.mp (by kernel_rfl) h_1) fun _ _ a hA hK => (WP.condK (c := C9) (x := C10) (y := C17) (o := .tmp 21) (by kernel_rfl) (fun hK => (KE_S4_ok R _ _ hK)) (fun hK => (WP.skip (c := C17) (by kernel_rfl) fun a hA => (KE_S5_ok R _ _ hK) a hA)) hK) a hA) (ha.cons hq0 ha.nil)
noncomputable def C18:=C2.fs
noncomputable def C19:=C3.sn
/-- wire.go:167 -/
abbrev S1 (r0 : Addr) (w : World) (R : Post) : Prop :=
  ∃ t6 : Int, w.cell? (r0.add 2) = some (.i t6) ∧ 
  sel (t6 != 0) (S2 r0 w R) (S3 r0 w R)
def KE_S1 (E : Env) (w : World) (R : Post) : Prop := asRef (Env.get? E 0) fun r0 => S1 r0 w R
theorem KE_S1_ok (R : Post) (E : Env) (w : World) (h : KE_S1 E w R) : WP Try.prog (cx 22) C2 (Q0 R) E w := by
  obtain ⟨r0, hq0, h_1⟩ := asRef_elim h
  exact fun a ha => WP.at (n := (cx 22)) (E := [(0, .pointer (some r0))]) (WP.seq (c := C2) (x := C18) (y := C3) (by kernel_rfl) <| WP.reg (c := C18) (fun E w => condK (Env.val E (.tmp 7)) (KE_S2 E w R) (KE_S3 E w R)) (by kernel_rfl) (Eq.mp (by kernel_rfl) h_1) fun _ _ a hA hK => (WP.condK (c := C3) (x := C4) (y := C19) (o := .tmp 7) (by kernel_rfl) (fun hK => (KE_S2_ok R _ _ hK)) (fun hK => (WP.skip (c := C19) (by kernel_rfl) fun a hA => (WP.seq (c := C5) (x := C8) (y := C11) (by kernel_rfl) (KE_S3_ok R _ _ hK)) a hA)) hK) a hA) (ha.cons hq0 ha.nil)
noncomputable def C20:=C0.fs
/-- wire.go:166 -/
abbrev S0 (r0 : Addr) (w : World) (R : Post) : Prop :=
  S1 r0 w R
def KE_S0 (E : Env) (w : World) (R : Post) : Prop := asRef (Env.get? E 0) fun r0 => S0 r0 w R
theorem KE_S0_ok (R : Post) (E : Env) (w : World) (h : KE_S0 E w R) : WP Try.prog (cx 22) C0 (Q2 R) E w := by
  obtain ⟨r0, hq0, h_1⟩ := asRef_elim h
  exact fun a ha => WP.at (n := (cx 22)) (E := [(0, .pointer (some r0))]) (WP.seq (c := C0) (x := C20) (y := C1) (by kernel_rfl) <| WP.reg (c := C20) (fun E w => KE_S1 E w R) (by kernel_rfl) (Eq.mp (by kernel_rfl) h_1) fun _ _ a hA hK => (WP.seq (c := C1) (x := C2) (y := C5) (by kernel_rfl) (KE_S1_ok R _ _ hK)) a hA) (ha.cons hq0 ha.nil)
/-- (*enthymeme/wire.Reader).End -/
theorem ok (r0 : Addr) (w : World) (R : Post) (h : S0 r0 w R) : Calls Try.prog n_wire_Reader_End #[.pointer (some r0)] w R :=
  calls_of_WP' (R := R) (fn := Try.f73) (c := C0) (args := [.pointer (some r0)]) (by kernel_rfl) (by kernel_rfl) (by kernel_rfl) (KE_S0_ok R _ _ (Eq.mp (by kernel_rfl) h))
end wire_Reader_End
namespace enthymemeref02_Uint
noncomputable def C0 : Code := (Try.f69.body).getD .skip
noncomputable def C1:=C0.sn
noncomputable def C2:=C1.sn
noncomputable def C3:=C2.fs
noncomputable def C4:=C3.fs
noncomputable def C5:=C4.fs
noncomputable def C6:=C2.sn
abbrev Q0 (R : Post) : Exit → Act → World → Prop := (Exit.then (wpx Try.prog (cx 20) C6 (bodyPost Try.prog Try.f69 R)) (bodyPost Try.prog Try.f69 R))
abbrev Q1 (R : Post) : Exit → Act → World → Prop := (Exit.inBlock 0 (Q0 R))
/-- the head of the loop, ref.go:12 -/
def L2 (n0 : Int) (out3 : Sl) (w : World) (R : Post) : Prop := LP Try.prog (cx 20) C5 (Q1 R) [(0, .u n0), (3, out3.v)] w
def KE_L2 (E : Env) (w : World) (R : Post) : Prop := W.asInt .u64 (Env.get? E 0) fun n0 => asSlice (Env.get? E 3) fun out3 => L2 n0 out3 w R
theorem KE_L2_ok (R : Post) (E : Env) (w : World) (h : KE_L2 E w R) : LP Try.prog (cx 20) C5 (Q1 R) E w := by
  obtain ⟨n0, hq0, h_1⟩ := asInt_elim h
  obtain ⟨out3, hq3, h_2⟩ := asSlice_elim h_1
  intro a ha
  exact h_2 a (ha.cons hq0 (ha.cons hq3 ha.nil))
noncomputable def C7:=C5.sn
noncomputable def C8:=C7.fs
noncomputable def C9:=C8.sn
abbrev Q2 (R : Post) : Exit → Act → World → Prop := (Exit.then (LoopWP Try.prog (cx 20) C5 (Q1 R)) (Q1 R))
abbrev Q3 (R : Post) : Exit → Act → World → Prop := (Exit.inBlock 1 (Q2 R))
/-- ref.go:14 -/
abbrev S5 (n0 : Int) (out3 : Sl) (w : World) (R : Post) : Prop :=
  L2 (IntKind.wrap .u64 (Int.tdiv n0 128)) out3 w R
def KE_S5 (E : Env) (w : World) (R : Post) : Prop := W.asInt .u64 (Env.get? E 0) fun n0 => asSlice (Env.get? E 3) fun out3 => S5 n0 out3 w R
theorem KE_S5_ok (R : Post) (E : Env) (w : World) (h : KE_S5 E w R) : WP Try.prog (cx 20) C9 (Q3 R) E w := by
  obtain ⟨n0, hq0, h_1⟩ := asInt_elim h
  obtain ⟨out3, hq3, h_2⟩ := asSlice_elim h_1
  exact fun a ha => WP.at (n := (cx 20)) (E := [(0, .u n0), (3, out3.v)]) (WP.reg (c := C9) (fun E w => KE_L2 E w R) (by kernel_rfl) (Eq.mp (by kernel_rfl) h_2) fun _ _ a hA hK => KE_L2_ok R _ _ hK a hA) (ha.cons hq0 (ha.cons hq3 ha.nil))
noncomputable def C10:=C8.fs
/-- ref.go:13 -/
abbrev S4 (n0 : Int) (out3 : Sl) (w : World) (R : Post) : Prop :=
  let w1 := w.alloc (.cells #[.int .u8 (IntKind.wrap .u8 (IntKind.wrap .u64 (128 + (Int.tmod n0 128))))] ty_uint8)
  ∃ (t12 : Sl) (w2 : World), Sem.run Try.prog (Builtin.append_ #[ty_sl_uint8, ty_sl_uint8] ty_sl_uint8 #[out3.v, .slice (some (nb w)) 1 1]) w1 = .ok (t12.v) w2 ∧ S5 n0 t12 w2 R
def KE_S4 (E : Env) (w : World) (R : Post) : Prop := W.asInt .u64 (Env.get? E 0) fun n0 => asSlice (Env.get? E 3) fun out3 => S4 n0 out3 w R
theorem KE_S4_ok (R : Post) (E : Env) (w : World) (h : KE_S4 E w R) : WP Try.prog (cx 20) C8 (Q3 R) E w := by
  obtain ⟨n0, hq0, h_1⟩ := asInt_elim h
  obtain ⟨out3, hq3, h_2⟩ := asSlice_elim h_1
  exact fun a ha => WP.at (n := (cx 20)) (E := [(0, .u n0), (3, out3.v)]) (WP.seq (c := C8) (x := C10) (y := C9) (by kernel_rfl) <| WP.reg (c := C10) (fun E w => KE_S5 E w R) (by kernel_rfl) (Eq.mp (by kernel_rfl) h_2) fun _ _ a hA hK => (KE_S5_ok R _ _ hK) a hA) (ha.cons hq0 (ha.cons hq3 ha.nil))
abbrev Q4 (R : Post) : Exit → Act → World → Prop := (bodyPost Try.prog Try.f69 R)
noncomputable def C11:=C6.fs
noncomputable def C12:=C6.sn
/-- ref.go:16 -/
abbrev S6 (n0 : Int) (out3 : Sl) (w : World) (R : Post) : Prop :=
  let w1 := w.alloc (.cells #[.int .u8 (IntKind.wrap .u8 n0)] ty_uint8)
  ∃ (t19 : Sl) (w2 : World), Sem.run Try.prog (Builtin.append_ #[ty_sl_uint8, ty_sl_uint8] ty_sl_uint8 #[out3.v, .slice (some (nb w)) 1 1]) w1 = .ok (t19.v) w2 ∧ R (.returned (t19.v)) w2
def KE_S6 (E : Env) (w : World) (R : Post) : Prop := W.asInt .u64 (Env.get? E 0) fun n0 => asSlice (Env.get? E 3) fun out3 => S6 n0 out3 w R
theorem KE_S6_ok (R : Post) (E : Env) (w : World) (h : KE_S6 E w R) : WP Try.prog (cx 20) C6 (Q4 R) E w := by
  obtain ⟨n0, hq0, h_1⟩ := asInt_elim h
  obtain ⟨out3, hq3, h_2⟩ := asSlice_elim h_1
  exact fun a ha => WP.at (n := (cx 20)) (E := [(0, .u n0), (3, out3.v)]) (WP.seq (c := C6) (x := C11) (y := C12) (by kernel_rfl) <| WP.reg (c := C11) (fun E w => retVC Try.prog Try.f69 E w (fun v => R (.returned v) w)) (by kernel_rfl) (Eq.mp (by kernel_rfl) h_2) fun _ _ a hA hK => (WP.ret (c := C12) (by kernel_rfl) fun a hA => retVC_sound hA hK) a hA) (ha.cons hq0 (ha.cons hq3 ha.nil))
noncomputable def C13:=C5.fs
abbrev Q5 (R : Post) : Exit → Act → World → Prop := (Exit.then (wpx Try.prog (cx 20) C7 (Exit.then (LoopWP Try.prog (cx 20) C5 (Q1 R)) (Q1 R))) (Exit.then (LoopWP Try.prog (cx 20) C5 (Q1 R)) (Q1 R)))
noncomputable def C14:=C13.fs
noncomputable def C15:=C13.sn
noncomputable def C16:=C15.fs
noncomputable def C17:=C15.sn
/-- ref.go:12 -/
abbrev S3 (n0 : Int) (out3 : Sl) (w : World) (R : Post) : Prop :=
  sel (decide (n0 > 127)) (S4 n0 out3 w R) (S6 n0 out3 w R)
def KE_S3 (E : Env) (w : World) (R : Post) : Prop := W.asInt .u64 (Env.get? E 0) fun n0 => asSlice (Env.get? E 3) fun out3 => S3 n0 out3 w R
theorem KE_S3_ok (R : Post) (E : Env) (w : World) (h : KE_S3 E w R) : WP Try.prog (cx 20) C13 (Q5 R) E w := by
  obtain ⟨n0, hq0, h_1⟩ := asInt_elim h
  obtain ⟨out3, hq3, h_2⟩ := asSlice_elim h_1
  exact fun a ha => WP.at (n := (cx 20)) (E := [(0, .u n0), (3, out3.v)]) (WP.seq (c := C13) (x := C14) (y := C15) (by kernel_rfl) <| WP.reg (c := C14) (fun E w => condK (Env.val E (.tmp 5)) (KE_S4 E w R) (KE_S6 E w R)) (by kernel_rfl) (Eq.mp (by kernel_rfl) h_2) fun _ _ a hA hK => (WP.condK (c := C15) (x := C16) (y := C17) (o := .tmp 5) (by kernel_rfl) (fun hK => (WP.skip (c := C16) (by kernel_rfl) fun a hA => (WP.block (c := C7) (x := C8) (id := 1) (by kernel_rfl) (KE_S4_ok R _ _ hK)) a hA)) (fun hK => (WP.exit (c := C17) (id := 0) (by kernel_rfl) fun a hA => (KE_S6_ok R _ _ hK) a hA)) hK) a hA) (ha.cons hq0 (ha.cons hq3 ha.nil))
theorem L2_step (n0 : Int) (out3 : Sl) (w : World) (R : Post) (h : S3 n0 out3 w R) : L2 n0 out3 w R :=
  LP.step (n := (cx 20)) (c := C5) (E := [(0, .u n0), (3, out3.v)]) (w := w) (WP.seq (c := C5) (x := C13) (y := C7) (by kernel_rfl) (KE_S3_ok R _ _ (Eq.mp (by kernel_rfl) h)))
noncomputable def C18:=C1.fs
/-- ref.go:11 -/
abbrev S1 (n0 : Int) (w : World) (R : Post) : Prop :=
  L2 n0 ⟨none, 0, 0⟩ w R
def KE_S1 (E : Env) (w : World) (R : Post) : Prop := W.asInt .u64 (Env.get? E 0) fun n0 => S1 n0 w R
theorem KE_S1_ok (R : Post) (E : Env) (w : World) (h : KE_S1 E w R) : WP Try.prog (cx 20) C1 (Q4 R) E w := by
  obtain ⟨n0, hq0, h_1⟩ := asInt_elim h
  exact fun a ha => WP.at (n := (cx 20)) (E := [(0, .u n0)]) (WP.seq (c := C1) (x := C18) (y := C2) (by kernel_rfl) <| WP.reg (c := C18) (fun E w => KE_L2 E w R) (by kernel_rfl) (Eq.mp (by kernel_rfl) h_1) fun _ _ a hA hK => (WP.seq (c := C2) (x := C3) (y := C6) (by kernel_rfl) (WP.block (c := C3) (x := C4) (id := 0) (by kernel_rfl) (WP.loop (c := C4) (x := C5) (by kernel_rfl) (KE_L2_ok R _ _ hK)))) a hA) (ha.cons hq0 ha.nil)
noncomputable def C19:=C0.fs
/-- ref.go:10 -/
abbrev S0 (n0 : Int) (w : World) (R : Post) : Prop :=
  S1 n0 w R
def KE_S0 (E : Env) (w : World) (R : Post) : Prop := W.asInt .u64 (Env.get? E 0) fun n0 => S0 n0 w R
theorem KE_S0_ok (R : Post) (E : Env) (w : World) (h : KE_S0 E w R) : WP Try.prog (cx 20) C0 (Q4 R) E w := by
  obtain ⟨n0, hq0, h_1⟩ := asInt_elim h
  exact fun a ha => WP.at (n := (cx 20)) (E := [(0, .u n0)]) (WP.seq (c := C0) (x := C19) (y := C1) (by kernel_rfl) <| WP.reg (c := C19) (fun E w => KE_S1 E w R) (by kernel_rfl) (Eq.mp (by kernel_rfl) h_1) fun _ _ a hA hK => (KE_S1_ok R _ _ hK) a hA) (ha.cons hq0 ha.nil)
/-- enthymeme/enthymemeref02.Uint -/
theorem ok (n0 : Int) (w : World) (R : Post) (h : S0 n0 w R) : Calls Try.prog n_enthymemeref02_Uint #[.u n0] w R :=
  calls_of_WP' (R := R) (fn := Try.f69) (c := C0) (args := [.u n0]) (by kernel_rfl) (by kernel_rfl) (by kernel_rfl) (KE_S0_ok R _ _ (Eq.mp (by kernel_rfl) h))
end enthymemeref02_Uint
namespace enthymemeref02_Zigzag
noncomputable def C0 : Code := (Try.f80.body).getD .skip
noncomputable def C1:=C0.sn
noncomputable def C2:=C1.fs
noncomputable def C3:=C2.sn
noncomputable def C4:=C3.fs
noncomputable def C5:=C1.sn
abbrev Q0 (R : Post) : Exit → Act → World → Prop := (Exit.then (wpx Try.prog (cx 14) C5 (bodyPost Try.prog Try.f80 R)) (bodyPost Try.prog Try.f80 R))
noncomputable def C6:=C4.fs
noncomputable def C7:=C4.sn
/-- ref.go:22 -/
abbrev S2 (n0 : Int) (w : World) (R : Post) : Prop :=
  R (.returned (.u (IntKind.wrap .u64 ((IntKind.wrap .u64 (2 * (IntKind.wrap .u64 (IntKind.wrap .i64 (0 - (IntKind.wrap .i64 (n0 + 1))))))) + 1)))) w
def KE_S2 (E : Env) (w : World) (R : Post) : Prop := W.asInt .i64 (Env.get? E 0) fun n0 => S2 n0 w R
theorem KE_S2_ok (R : Post) (E : Env) (w : World) (h : KE_S2 E w R) : WP Try.prog (cx 14) C4 (Q0 R) E w := by
  obtain ⟨n0, hq0, h_1⟩ := asInt_elim h
  exact fun a ha => WP.at (n := (cx 14)) (E := [(0, .i n0)]) (WP.seq (c := C4) (x := C6) (y := C7) (by kernel_rfl) <| WP.reg (c := C6) (fun E w => retVC Try.prog Try.f80 E w (fun v => R (.returned v) w)) (by kernel_rfl) (Eq.mp (by kernel_rfl) h_1) fun _ _ a hA hK => (WP.ret (c := C7) (by kernel_rfl) fun a hA => retVC_sound hA hK) a hA) (ha.cons hq0 ha.nil)
abbrev Q1 (R : Post) : Exit → Act → World → Prop := (bodyPost Try.prog Try.f80 R)
noncomputable def C8:=C5.fs
noncomputable def C9:=C5.sn
/-- ref.go:24 -/
abbrev S3 (n0 : Int) (w : World) (R : Post) : Prop :=
  R (.returned (.u (IntKind.wrap .u64 (2 * (IntKind.wrap .u64 n0))))) w
def KE_S3 (E : Env) (w : World) (R : Post) : Prop := W.asInt .i64 (Env.get? E 0) fun n0 => S3 n0 w R
theorem KE_S3_ok (R : Post) (E : Env) (w : World) (h : KE_S3 E w R) : WP Try.prog (cx 14) C5 (Q1 R) E w := by
  obtain ⟨n0, hq0, h_1⟩ := asInt_elim h
  exact fun a ha => WP.at (n := (cx 14)) (E := [(0, .i n0)]) (WP.seq (c := C5) (x := C8) (y := C9) (by kernel_rfl) <| WP.reg (c := C8) (fun E w => retVC Try.prog Try.f80 E w (fun v => R (.returned v) w)) (by kernel_rfl) (Eq.mp (by kernel_rfl) h_1) fun _ _ a hA hK => (WP.ret (c := C9) (by kernel_rfl) fun a hA => retVC_sound hA hK) a hA) (ha.cons hq0 ha.nil)
noncomputable def C10:=C2.fs
noncomputable def C11:=C3.sn
/-- ref.go:21 -/
abbrev S1 (n0 : Int) (w : World) (R : Post) : Prop :=
  sel (decide (n0 < 0)) (S2 n0 w R) (S3 n0 w R)
def KE_S1 (E : Env) (w : World) (R : Post) : Prop := W.asInt .i64 (Env.get? E 0) fun n0 => S1 n0 w R
theorem KE_S1_ok (R : Post) (E : Env) (w : World) (h : KE_S1 E w R) : WP Try.prog (cx 14) C2 (Q0 R) E w := by
  obtain ⟨n0, hq0, h_1⟩ := asInt_elim h
  exact fun a ha => WP.at (n := (cx 14)) (E := [(0, .i n0)]) (WP.seq (c := C2) (x := C10) (y := C3) (by kernel_rfl) <| WP.reg (c := C10) (fun E w => condK (Env.val E (.tmp 4)) (KE_S2 E w R) (KE_S3 E w R)) (by kernel_rfl) (Eq.mp (by kernel_rfl) h_1) fun _ _ a hA hK => (WP.condK (c := C3) (x := C4) (y := C11) (o := .tmp 4) (by kernel_rfl) (fun hK => (KE_S2_ok R _ _ hK)) (fun hK => (WP.skip (c := C11) (by kernel_rfl) fun a hA => (KE_S3_ok R _ _ hK) a hA)) hK) a hA) (ha.cons hq0 ha.nil)
noncomputable def C12:=C0.fs
/-- ref.go:20 -/
abbrev S0 (n0 : Int) (w : World) (R : Post) : Prop :=
  S1 n0 w R
def KE_S0 (E : Env) (w : World) (R : Post) : Prop := W.asInt .i64 (Env.get? E 0) fun n0 => S0 n0 w R
theorem KE_S0_ok (R : Post) (E : Env) (w : World) (h : KE_S0 E w R) : WP Try.prog (cx 14) C0 (Q1 R) E w := by
  obtain ⟨n0, hq0, h_1⟩ := asInt_elim h
  exact fun a ha => WP.at (n := (cx 14)) (E := [(0, .i n0)]) (WP.seq (c := C0) (x := C12) (y := C1) (by kernel_rfl) <| WP.reg (c := C12) (fun E w => KE_S1 E w R) (by kernel_rfl) (Eq.mp (by kernel_rfl) h_1) fun _ _ a hA hK => (WP.seq (c := C1) (x := C2) (y := C5) (by kernel_rfl) (KE_S1_ok R _ _ hK)) a hA) (ha.cons hq0 ha.nil)
/-- enthymeme/enthymemeref02.Zigzag -/
theorem ok (n0 : Int) (w : World) (R : Post) (h : S0 n0 w R) : Calls Try.prog n_enthymemeref02_Zigzag #[.i n0] w R :=
  calls_of_WP' (R := R) (fn := Try.f80) (c := C0) (args := [.i n0]) (by kernel_rfl) (by kernel_rfl) (by kernel_rfl) (KE_S0_ok R _ _ (Eq.mp (by kernel_rfl) h))
end enthymemeref02_Zigzag
namespace enthymemeref02_Int
noncomputable def C0 : Code := (Try.f68.body).getD .skip
noncomputable def C1:=C0.sn
abbrev Q0 (R : Post) : Exit → Act → World → Prop := (bodyPost Try.prog Try.f68 R)
noncomputable def C2:=C1.fs
noncomputable def C3:=C1.sn
/-- ref.go:36 -/
abbrev S1 (n0 : Int) (w : World) (R : Post) : Prop :=
  Calls Try.prog n_enthymemeref02_Zigzag #[.i n0] w fun r_ w1 => ∃ t4 : Int, r_ = .returned (.u t4) ∧ 
  Calls Try.prog n_enthymemeref02_Uint #[.u t4] w1 fun r_ w2 => ∃ t5 : Sl, r_ = .returned (t5.v) ∧ 
  R (.returned (t5.v)) w2
def KE_S1 (E : Env) (w : World) (R : Post) : Prop := W.asInt .i64 (Env.get? E 0) fun n0 => S1 n0 w R
theorem KE_S1_ok (R : Post) (E : Env) (w : World) (h : KE_S1 E w R) : WP Try.prog (cx 6) C1 (Q0 R) E w := by
  obtain ⟨n0, hq0, h_1⟩ := asInt_elim h
  exact fun a ha => WP.at (n := (cx 6)) (E := [(0, .i n0)]) (WP.seq (c := C1) (x := C2) (y := C3) (by kernel_rfl) <| WP.reg (c := C2) (fun E w => retVC Try.prog Try.f68 E w (fun v => R (.returned v) w)) (by kernel_rfl) (Eq.mp (by kernel_rfl) h_1) fun _ _ a hA hK => (WP.ret (c := C3) (by kernel_rfl) fun a hA => retVC_sound hA hK) a hA) (ha.cons hq0 ha.nil)
noncomputable def C4:=C0.fs
/-- ref.go:36 -/
abbrev S0 (n0 : Int) (w : World) (R : Post) : Prop :=
  S1 n0 w R
def KE_S0 (E : Env) (w : World) (R : Post) : Prop := W.asInt .i64 (Env.get? E 0) fun n0 => S0 n0 w R
theorem KE_S0_ok (R : Post) (E : Env) (w : World) (h : KE_S0 E w R) : WP Try.prog (cx 6) C0 (Q0 R) E w := by
  obtain ⟨n0, hq0, h_1⟩ := asInt_elim h
  exact fun a ha => WP.at (n := (cx 6)) (E := [(0, .i n0)]) (WP.seq (c := C0) (x := C4) (y := C1) (by kernel_rfl) <| WP.reg (c := C4) (fun E w => KE_S1 E w R) (by kernel_rfl) (Eq.mp (by kernel_rfl) h_1) fun _ _ a hA hK => (KE_S1_ok R _ _ hK) a hA) (ha.cons hq0 ha.nil)
/-- enthymeme/enthymemeref02.Int -/
theorem ok (n0 : Int) (w : World) (R : Post) (h : S0 n0 w R) : Calls Try.prog n_enthymemeref02_Int #[.i n0] w R :=
  calls_of_WP' (R := R) (fn := Try.f68) (c := C0) (args := [.i n0]) (by kernel_rfl) (by kernel_rfl) (by kernel_rfl) (KE_S0_ok R _ _ (Eq.mp (by kernel_rfl) h))
end enthymemeref02_Int
namespace enthymemeref02_Raw
noncomputable def C0 : Code := (Try.f70.body).getD .skip
noncomputable def C1:=C0.sn
abbrev Q0 (R : Post) : Exit → Act → World → Prop := (bodyPost Try.prog Try.f70 R)
noncomputable def C2:=C1.fs
noncomputable def C3:=C1.sn
/-- ref.go:47 -/
abbrev S1 (b0 : Sl) (w : World) (R : Post) : Prop :=
  Calls Try.prog n_enthymemeref02_Uint #[.u (IntKind.wrap .u64 ((b0.n : Nat) : Int))] w fun r_ w1 => ∃ t6 : Sl, r_ = .returned (t6.v) ∧ 
  ∃ (t8 : Sl) (w2 : World), Sem.run Try.prog (Builtin.append_ #[ty_sl_uint8, ty_sl_uint8] ty_sl_uint8 #[t6.v, b0.v]) w1 = .ok (t8.v) w2 ∧ R (.returned (t8.v)) w2
def KE_S1 (E : Env) (w : World) (R : Post) : Prop := asSlice (Env.get? E 0) fun b0 => S1 b0 w R
theorem KE_S1_ok (R : Post) (E : Env) (w : World) (h : KE_S1 E w R) : WP Try.prog (cx 9) C1 (Q0 R) E w := by
  obtain ⟨b0, hq0, h_1⟩ := asSlice_elim h
  exact fun a ha => WP.at (n := (cx 9)) (E := [(0, b0.v)]) (WP.seq (c := C1) (x := C2) (y := C3) (by kernel_rfl) <| WP.reg (c := C2) (fun E w => retVC Try.prog Try.f70 E w (fun v => R (.returned v) w)) (by kernel_rfl) (Eq.mp (by kernel_rfl) h_1) fun _ _ a hA hK => (WP.ret (c := C3) (by kernel_rfl) fun a hA => retVC_sound hA hK) a hA) (ha.cons hq0 ha.nil)
noncomputable def C4:=C0.fs
/-- ref.go:47 -/
abbrev S0 (b0 : Sl) (w : World) (R : Post) : Prop :=
  S1 b0 w R
def KE_S0 (E : Env) (w : World) (R : Post) : Prop := asSlice (Env.get? E 0) fun b0 => S0 b0 w R
theorem KE_S0_ok (R : Post) (E : Env) (w : World) (h : KE_S0 E w R) : WP Try.prog (cx 9) C0 (Q0 R) E w := by
  obtain ⟨b0, hq0, h_1⟩ := asSlice_elim h
  exact fun a ha => WP.at (n := (cx 9)) (E := [(0, b0.v)]) (WP.seq (c := C0) (x := C4) (y := C1) (by kernel_rfl) <| WP.reg (c := C4) (fun E w => KE_S1 E w R) (by kernel_rfl) (Eq.mp (by kernel_rfl) h_1) fun _ _ a hA hK => (KE_S1_ok R _ _ hK) a hA) (ha.cons hq0 ha.nil)
/-- enthymeme/enthymemeref02.Raw -/
theorem ok (b0 : Sl) (w : World) (R : Post) (h : S0 b0 w R) : Calls Try.prog n_enthymemeref02_Raw #[b0.v] w R :=
  calls_of_WP' (R := R) (fn := Try.f70) (c := C0) (args := [b0.v]) (by kernel_rfl) (by kernel_rfl) (by kernel_rfl) (KE_S0_ok R _ _ (Eq.mp (by kernel_rfl) h))
end enthymemeref02_Raw
end Go.Proofs.Ytjjhfdjpmonlaaa
