import Derived.Test.YtcifihepfadgfaaGreatDoorU
import Derived.Test.YtcifihepfadgfaaGreatDoorProg
import Derived.KernelRfl
set_option linter.unusedVariables false
set_option linter.unusedVariables false
set_option maxRecDepth 100000
set_option maxHeartbeats 2000000
namespace Go.Proofs.YtcifihepfadgfaaGreatDoor
open Go Go.W
theorem mp {a b:Prop} (h:a) (e:a=b:=by kernel_rfl):b:=e▸h
abbrev ExP:=Exit→Act→World→Prop
abbrev KOk (P:Program) (n:Nat) (K:Env→World→Post→Prop) (c:Code) (Q:Post→ExP):Prop:=∀(R:Post) (E:Env) (w:World),K E w R→WP P (cx n) c (Q R) E w
abbrev LOk (P:Program) (n:Nat) (K:Env→World→Post→Prop) (c:Code) (Q:Post→ExP):Prop:=∀(R:Post) (E:Env) (w:World),K E w R→LP P (cx n) c (Q R) E w
abbrev ld4_0 (w:World) (p:Addr) (K:Int→Int→Int→Sl→Prop):Prop:=∃a:Int,∃b:Int,∃c:Int,∃d:Sl,w.cell? (p.add 0)=some (.i a)∧w.cell? (p.add 1)=some (.int .u8 b)∧w.cell? (p.add 2)=some (.int .u8 c)∧w.cell? (p.add 3)=some (d.v)∧K a b c d
abbrev ld5_1 (w:World) (p:Addr) (K:Int→Int→Int→ByteArray→Int→Prop):Prop:=∃a:Int,∃b:Int,∃c:Int,∃d:ByteArray,∃e:Int,w.cell? (p.add 0)=some (.int .u8 a)∧w.cell? (p.add 1)=some (.int .u8 b)∧w.cell? (p.add 2)=some (.int .u8 c)∧w.cell? (p.add 3)=some (.string d)∧w.cell? (p.add 4)=some (.i e)∧K a b c d e
abbrev ld3_2 (w:World) (p:Addr) (K:Int→Int→Int→Prop):Prop:=∃a:Int,∃b:Int,∃c:Int,w.cell? (p.add 0)=some (.i a)∧w.cell? (p.add 1)=some (.i b)∧w.cell? (p.add 2)=some (.i c)∧K a b c
abbrev ld9_3 (w:World) (p:Addr) (K:Int→Sl→Int→Int→Int→ByteArray→Int→Int→Int→Prop):Prop:=∃a:Int,∃b:Sl,∃c:Int,∃d:Int,∃e:Int,∃f:ByteArray,∃g:Int,∃j:Int,∃k:Int,w.cell? (p.add 0)=some (.i a)∧w.cell? (p.add 1)=some (b.v)∧w.cell? (p.add 2)=some (.i c)∧w.cell? (p.add 3)=some (.i d)∧w.cell? (p.add 4)=some (.u e)∧w.cell? (p.add 5)=some (.string f)∧w.cell? (p.add 6)=some (.i g)∧w.cell? (p.add 7)=some (.i j)∧w.cell? (p.add 8)=some (.i k)∧K a b c d e f g j k
abbrev ca0 (f:FuncId) (d:Array Value) (w:World) (K:Bool→World→Prop):Prop:=Calls Tryz.prog f d w fun b c=>∃a:Bool,b=.returned (.bool a)∧K a c
abbrev cf0 (b:List Nat) (f:FuncId) (e:Array Value) (w:World) (K:Bool→World→Prop):Prop:=callF b Tryz.prog f e w fun c d=>∃a:Bool,c=.returned (.bool a)∧K a d
abbrev ca1 (f:FuncId) (d:Array Value) (w:World) (K:Int→World→Prop):Prop:=Calls Tryz.prog f d w fun b c=>∃a:Int,b=.returned (.i a)∧K a c
abbrev cf1 (b:List Nat) (f:FuncId) (e:Array Value) (w:World) (K:Int→World→Prop):Prop:=callF b Tryz.prog f e w fun c d=>∃a:Int,c=.returned (.i a)∧K a d
abbrev ca2 (f:FuncId) (j:Array Value) (w:World) (K:Int→Int→Int→Sl→World→Prop):Prop:=Calls Tryz.prog f j w fun e g=>∃a:Int,∃b:Int,∃c:Int,∃d:Sl,e=.returned (.agg #[.i a,.int .u8 b,.int .u8 c,d.v])∧K a b c d g
abbrev cf2 (e:List Nat) (f:FuncId) (k:Array Value) (w:World) (K:Int→Int→Int→Sl→World→Prop):Prop:=callF e Tryz.prog f k w fun g j=>∃a:Int,∃b:Int,∃c:Int,∃d:Sl,g=.returned (.agg #[.i a,.int .u8 b,.int .u8 c,d.v])∧K a b c d j
abbrev ca3 (f:FuncId) (d:Array Value) (w:World) (K:Sl→World→Prop):Prop:=Calls Tryz.prog f d w fun b c=>∃a:Sl,b=.returned (a.v)∧K a c
abbrev cf3 (b:List Nat) (f:FuncId) (e:Array Value) (w:World) (K:Sl→World→Prop):Prop:=callF b Tryz.prog f e w fun c d=>∃a:Sl,c=.returned (a.v)∧K a d
abbrev ca4 (f:FuncId) (c:Array Value) (w:World) (K:World→Prop):Prop:=Calls Tryz.prog f c w fun a b=>a=.returned (.tuple #[])∧K b
abbrev cf4 (a:List Nat) (f:FuncId) (d:Array Value) (w:World) (K:World→Prop):Prop:=callF a Tryz.prog f d w fun b c=>b=.returned (.tuple #[])∧K c
abbrev ca5 (f:FuncId) (e:Array Value) (w:World) (K:Int→Int→World→Prop):Prop:=Calls Tryz.prog f e w fun c d=>∃a:Int,∃b:Int,c=.returned (.tuple #[.i a,.i b])∧K a b d
abbrev ca6 (f:FuncId) (e:Array Value) (w:World) (K:Int→Bool→World→Prop):Prop:=Calls Tryz.prog f e w fun c d=>∃a:Int,∃b:Bool,c=.returned (.tuple #[.i a,.bool b])∧K a b d
abbrev cf6 (c:List Nat) (f:FuncId) (g:Array Value) (w:World) (K:Int→Bool→World→Prop):Prop:=callF c Tryz.prog f g w fun d e=>∃a:Int,∃b:Bool,d=.returned (.tuple #[.i a,.bool b])∧K a b e
abbrev cf7 (d:List Nat) (f:FuncId) (j:Array Value) (w:World) (K:Int→Int→Bool→World→Prop):Prop:=callF d Tryz.prog f j w fun e g=>∃a:Int,∃b:Int,∃c:Bool,e=.returned (.tuple #[.int .u8 a,.i b,.bool c])∧K a b c g
abbrev ca8 (f:FuncId) (l:Array Value) (w:World) (K:Int→Int→Int→ByteArray→Int→Int→World→Prop):Prop:=Calls Tryz.prog f l w fun j k=>∃a:Int,∃b:Int,∃c:Int,∃d:ByteArray,∃e:Int,∃g:Int,j=.returned (.tuple #[.agg #[.int .u8 a,.int .u8 b,.int .u8 c,.string d,.i e],.i g])∧K a b c d e g k
abbrev ca9 (f:FuncId) (d:Array Value) (w:World) (K:(Option Addr)→World→Prop):Prop:=Calls Tryz.prog f d w fun b c=>∃a:Option Addr,b=.returned (.pointer a)∧K a c
abbrev cf9 (b:List Nat) (f:FuncId) (e:Array Value) (w:World) (K:(Option Addr)→World→Prop):Prop:=callF b Tryz.prog f e w fun c d=>∃a:Option Addr,c=.returned (.pointer a)∧K a d
abbrev ca10 (f:FuncId) (d:Array Value) (w:World) (K:Value→World→Prop):Prop:=Calls Tryz.prog f d w fun b c=>∃a:Value,b=.returned (a)∧K a c
abbrev ca11 (f:FuncId) (k:Array Value) (w:World) (K:Int→Int→Int→Sl→Int→World→Prop):Prop:=Calls Tryz.prog f k w fun g j=>∃a:Int,∃b:Int,∃c:Int,∃d:Sl,∃e:Int,g=.returned (.tuple #[.agg #[.i a,.int .u8 b,.int .u8 c,d.v],.i e])∧K a b c d e j
abbrev cf11 (g:List Nat) (f:FuncId) (l:Array Value) (w:World) (K:Int→Int→Int→Sl→Int→World→Prop):Prop:=callF g Tryz.prog f l w fun j k=>∃a:Int,∃b:Int,∃c:Int,∃d:Sl,∃e:Int,j=.returned (.tuple #[.agg #[.i a,.int .u8 b,.int .u8 c,d.v],.i e])∧K a b c d e k
abbrev cf12 (b:List Nat) (f:FuncId) (e:Array Value) (w:World) (K:(Option Nat)→World→Prop):Prop:=callF b Tryz.prog f e w fun c d=>∃a:Option Nat,c=.returned (.map a)∧K a d
abbrev ca13 (f:FuncId) (d:Array Value) (w:World) (K:Int→World→Prop):Prop:=Calls Tryz.prog f d w fun b c=>∃a:Int,b=.returned (.int .u8 a)∧K a c
abbrev cf14 (c:List Nat) (f:FuncId) (g:Array Value) (w:World) (K:Int→Int→World→Prop):Prop:=callF c Tryz.prog f g w fun d e=>∃a:Int,∃b:Int,d=.returned (.tuple #[.int .u8 a,.i b])∧K a b e
abbrev ca15 (f:FuncId) (d:Array Value) (w:World) (K:ByteArray→World→Prop):Prop:=Calls Tryz.prog f d w fun b c=>∃a:ByteArray,b=.returned (.string a)∧K a c
abbrev cf15 (b:List Nat) (f:FuncId) (e:Array Value) (w:World) (K:ByteArray→World→Prop):Prop:=callF b Tryz.prog f e w fun c d=>∃a:ByteArray,c=.returned (.string a)∧K a d
abbrev ca16 (f:FuncId) (l:Array Value) (w:World) (K:Int→Int→Int→Sl→Int→Int→World→Prop):Prop:=Calls Tryz.prog f l w fun j k=>∃a:Int,∃b:Int,∃c:Int,∃d:Sl,∃e:Int,∃g:Int,j=.returned (.tuple #[.agg #[.i a,.int .u8 b,.int .u8 c,d.v],.i e,.i g])∧K a b c d e g k
abbrev ca17 (f:FuncId) (g:Array Value) (w:World) (K:Int→Int→Int→World→Prop):Prop:=Calls Tryz.prog f g w fun d e=>∃a:Int,∃b:Int,∃c:Int,d=.returned (.agg #[.i a,.i b,.i c])∧K a b c e
abbrev cf17 (d:List Nat) (f:FuncId) (j:Array Value) (w:World) (K:Int→Int→Int→World→Prop):Prop:=callF d Tryz.prog f j w fun e g=>∃a:Int,∃b:Int,∃c:Int,e=.returned (.agg #[.i a,.i b,.i c])∧K a b c g
abbrev cf18 (e:List Nat) (f:FuncId) (k:Array Value) (w:World) (K:Int→Int→Int→Bool→World→Prop):Prop:=callF e Tryz.prog f k w fun g j=>∃a:Int,∃b:Int,∃c:Int,∃d:Bool,g=.returned (.tuple #[.agg #[.i a,.i b,.i c],.bool d])∧K a b c d j
abbrev cf19 (e:List Nat) (f:FuncId) (k:Array Value) (w:World) (K:Int→Int→Int→Int→World→Prop):Prop:=callF e Tryz.prog f k w fun g j=>∃a:Int,∃b:Int,∃c:Int,∃d:Int,g=.returned (.tuple #[.agg #[.i a,.i b,.i c],.i d])∧K a b c d j
abbrev cf20 (d:List Nat) (f:FuncId) (j:Array Value) (w:World) (K:Sl→Int→Int→World→Prop):Prop:=callF d Tryz.prog f j w fun e g=>∃a:Sl,∃b:Int,∃c:Int,e=.returned (.tuple #[a.v,.i b,.i c])∧K a b c g
abbrev ca21 (f:FuncId) (o:Array Value) (w:World) (K:Int→Sl→Int→Int→Int→ByteArray→Int→Int→Int→World→Prop):Prop:=Calls Tryz.prog f o w fun m n=>∃a:Int,∃b:Sl,∃c:Int,∃d:Int,∃e:Int,∃g:ByteArray,∃j:Int,∃k:Int,∃l:Int,m=.returned (.agg #[.i a,b.v,.i c,.i d,.u e,.string g,.i j,.i k,.i l])∧K a b c d e g j k l n
abbrev cf21 (m:List Nat) (f:FuncId) (p:Array Value) (w:World) (K:Int→Sl→Int→Int→Int→ByteArray→Int→Int→Int→World→Prop):Prop:=callF m Tryz.prog f p w fun n o=>∃a:Int,∃b:Sl,∃c:Int,∃d:Int,∃e:Int,∃g:ByteArray,∃j:Int,∃k:Int,∃l:Int,n=.returned (.agg #[.i a,b.v,.i c,.i d,.u e,.string g,.i j,.i k,.i l])∧K a b c d e g j k l o
abbrev ca22 (f:FuncId) (g:Array Value) (w:World) (K:Sl→Int→Int→World→Prop):Prop:=Calls Tryz.prog f g w fun d e=>∃a:Sl,∃b:Int,∃c:Int,d=.returned (.tuple #[.agg #[a.v],.i b,.i c])∧K a b c e
abbrev cf22 (d:List Nat) (f:FuncId) (j:Array Value) (w:World) (K:Sl→Int→Int→World→Prop):Prop:=callF d Tryz.prog f j w fun e g=>∃a:Sl,∃b:Int,∃c:Int,e=.returned (.tuple #[.agg #[a.v],.i b,.i c])∧K a b c g
abbrev cf24 (c:List Nat) (f:FuncId) (g:Array Value) (w:World) (K:ByteArray→Int→World→Prop):Prop:=callF c Tryz.prog f g w fun d e=>∃a:ByteArray,∃b:Int,d=.returned (.tuple #[.string a,.i b])∧K a b e
abbrev hdW3 (w:World) (p:Addr) (a b c:Value) (K:Unit→Prop):Prop:=w.cell? (p.add 0)=some a∧w.cell? (p.add 1)=some b∧w.cell? (p.add 2)=some c∧K ()
abbrev hdW9 (w:World) (p:Addr) (a b c d e f g i j:Value) (K:Unit→Prop):Prop:=w.cell? (p.add 0)=some a∧w.cell? (p.add 1)=some b∧w.cell? (p.add 2)=some c∧w.cell? (p.add 3)=some d∧w.cell? (p.add 4)=some e∧w.cell? (p.add 5)=some f∧w.cell? (p.add 6)=some g∧w.cell? (p.add 7)=some i∧w.cell? (p.add 8)=some j∧K ()
abbrev stW3 (w:World) (p:Addr) (a b c:Value) (K:World→Prop):Prop:=stV w p a fun w=>stV w (p.add 1) b fun w=>stV w (p.add 2) c fun w=>K w
abbrev stW4 (w:World) (p:Addr) (a b c d:Value) (K:World→Prop):Prop:=stV w p a fun w=>stV w (p.add 1) b fun w=>stV w (p.add 2) c fun w=>stV w (p.add 3) d fun w=>K w
abbrev stW5 (w:World) (p:Addr) (a b c d e:Value) (K:World→Prop):Prop:=stV w p a fun w=>stV w (p.add 1) b fun w=>stV w (p.add 2) c fun w=>stV w (p.add 3) d fun w=>stV w (p.add 4) e fun w=>K w
abbrev ty_:Nat:=0
abbrev ty_int:Nat:=3
abbrev ty_uint8:Nat:=5
abbrev ty_string:Nat:=9
abbrev ty_sl_int:Nat:=22
abbrev ty_sl_api_Node:Nat:=23
abbrev ty_term_Graph:Nat:=27
abbrev ty_api_Sort:Nat:=30
abbrev ty_api_Node:Nat:=32
abbrev ty_api_Errno:Nat:=34
abbrev ty_sl_uint8:Nat:=65
abbrev ty_sl_api_Sort:Nat:=87
abbrev ty_35_int:Nat:=132
abbrev ty_3_api_Sort:Nat:=133
abbrev ty_sl_enthymemeref04_Regex:Nat:=140
abbrev ty_enthymemeref04_Regex:Nat:=142
abbrev ty_sl_enthymemeref04_Token:Nat:=171
abbrev ty_enthymemeref04_reader:Nat:=174
abbrev ty_enthymemeref04_Token:Nat:=176
abbrev ty_sl_regex_Regex:Nat:=182
abbrev ty_regex_Regex:Nat:=184
abbrev ty_regex_frame:Nat:=198
abbrev ty_sl_regex_frame:Nat:=199
abbrev ty_regex_reader:Nat:=201
abbrev ty_regex_token:Nat:=206
abbrev ty_map_int_func_regex_Regex_regex_Regex:Nat:=214
abbrev ty_func_regex_Regex_regex_Regex:Nat:=226
abbrev ty_func_regex_Regex_regex_Regex_func_regex_Regex_regex_Regex:Nat:=233
abbrev n_enthymemelaw07_TermSorts:Nat:=3
abbrev n_enthymemeref07_Made:Nat:=9
abbrev n_enthymemeref01_Around:Nat:=10
abbrev n_enthymemeref07_Spoilt:Nat:=11
abbrev n_term_SortOf:Nat:=12
abbrev n_enthymemeref07_SortOf:Nat:=13
abbrev n_term_Add:Nat:=14
abbrev n_enthymemeref07_Add:Nat:=15
abbrev n_enthymemeref07_SameGraph:Nat:=16
abbrev n_term_Find:Nat:=17
abbrev n_enthymemelaw07_lives:Nat:=18
abbrev n_enthymemeref01_SameInts:Nat:=20
abbrev n_enthymemeref07_BV:Nat:=25
abbrev n_enthymemeref07_start:Nat:=38
abbrev n_enthymemeref07_node:Nat:=39
abbrev n_enthymemeref07_within:Nat:=40
abbrev n_enthymemeref07_size:Nat:=41
abbrev n_term_sortOf:Nat:=42
abbrev n_term_SortOf_1:Nat:=43
abbrev n_enthymemeref07_fields:Nat:=44
abbrev n_enthymemeref07_leaf:Nat:=45
abbrev n_enthymemeref07_fit:Nat:=46
abbrev n_enthymemeref07_result:Nat:=47
abbrev n_enthymemeref04_Canonical:Nat:=48
abbrev n_term_search:Nat:=49
abbrev n_slices_Clone_sl_int_int:Nat:=50
abbrev n_enthymemeref07_Index:Nat:=51
abbrev n_enthymemeref07_Same:Nat:=52
abbrev n_enthymemeref07_has:Nat:=53
abbrev n_enthymemeref07_Strings:Nat:=75
abbrev n_enthymemeref04_Text:Nat:=76
abbrev n_enthymemeref07_Kids:Nat:=77
abbrev n_enthymemeref07_Like:Nat:=78
abbrev n_enthymemeref07_wanted:Nat:=79
abbrev n_term_fieldsFit:Nat:=80
abbrev n_term_sortOfVar:Nat:=81
abbrev n_term_sortOfLeaf:Nat:=82
abbrev n_term_sortOfBits:Nat:=83
abbrev n_term_sortOfArrays:Nat:=84
abbrev n_term_sortOfStrings:Nat:=85
abbrev n_enthymemeref07_Named:Nat:=86
abbrev n_enthymemeref06_ValidSort:Nat:=87
abbrev n_enthymemeref07_Element:Nat:=88
abbrev n_enthymemeref04_Parse:Nat:=89
abbrev n_enthymemeref04_Normal:Nat:=90
abbrev n_enthymemeref04_Write:Nat:=91
abbrev n_term_sameNode:Nat:=92
abbrev n_enthymemeref01_Has:Nat:=93
abbrev n_enthymemeref04_Everything:Nat:=106
abbrev n_enthymemeref04_simple:Nat:=107
abbrev n_term_isName:Nat:=108
abbrev n_value_ValidSort:Nat:=109
abbrev n_term_str:Nat:=110
abbrev n_term_isArray:Nat:=111
abbrev n_term_result:Nat:=112
abbrev n_term_isBV:Nat:=113
abbrev n_term_bv:Nat:=114
abbrev n_term_alike:Nat:=115
abbrev n_term_isStr:Nat:=116
abbrev n_term_isNormal:Nat:=117
abbrev n_enthymemeref06_within:Nat:=118
abbrev n_enthymemeref04_Tokens:Nat:=119
abbrev n_enthymemeref04_reader_expr:Nat:=120
abbrev n_enthymemeref04_reader_need:Nat:=121
abbrev n_enthymemeref04_Nodes:Nat:=122
abbrev n_enthymemeref04_Valid:Nat:=123
abbrev n_enthymemeref04_few:Nat:=124
abbrev n_enthymemeref04_binds:Nat:=125
abbrev n_enthymemeref04_Byte:Nat:=126
abbrev n_enthymemeref04_low:Nat:=127
abbrev n_slices_Equal_sl_int_int:Nat:=128
abbrev n_enthymemeref04_normal:Nat:=129
abbrev n_regex_Parse:Nat:=130
abbrev n_regex_Normal:Nat:=131
abbrev n_regex_Print:Nat:=132
abbrev n_enthymemeref04_rangeAt:Nat:=133
abbrev n_enthymemeref04_reader_conj:Nat:=134
abbrev n_enthymemeref04_reader_take:Nat:=135
abbrev n_enthymemeref04_group:Nat:=136
abbrev n_enthymemeref04_good:Nat:=137
abbrev n_enthymemeref04_plain:Nat:=138
abbrev n_enthymemeref04_digit:Nat:=139
abbrev n_enthymemeref04_Compare:Nat:=140
abbrev n_enthymemeref04_put:Nat:=141
abbrev n_regex_tokens:Nat:=142
abbrev n_regex_reader_feed:Nat:=143
abbrev n_regex_reader_top:Nat:=144
abbrev n_regex_frame_endExpr:Nat:=145
abbrev n_regex_tooLarge:Nat:=146
abbrev n_regex_Valid:Nat:=147
abbrev n_regex_limited:Nat:=148
abbrev n_regex_normal:Nat:=149
abbrev n_regex_forms:Nat:=150
abbrev n_regex_text:Nat:=151
abbrev n_enthymemeref04_byteAt:Nat:=152
abbrev n_enthymemeref04_reader_seq:Nat:=153
abbrev n_enthymemeref04_reader_see:Nat:=154
abbrev n_regex_tokens_1:Nat:=155
abbrev n_regex_tokenAt:Nat:=156
abbrev n_regex_reader_push:Nat:=157
abbrev n_regex_reader_close:Nat:=158
abbrev n_regex_reader_item:Nat:=159
abbrev n_regex_frame_endSeq:Nat:=160
abbrev n_regex_frame_endConj:Nat:=161
abbrev n_regex_frame_endItem:Nat:=162
abbrev n_regex_one:Nat:=163
abbrev n_regex_countdown:Nat:=164
abbrev n_regex_proper:Nat:=165
abbrev n_regex_clone:Nat:=166
abbrev n_regex_forms_1:Nat:=167
abbrev n_regex_forms_2:Nat:=168
abbrev n_regex_forms_2_1:Nat:=169
abbrev n_regex_flat:Nat:=170
abbrev n_slices_ContainsFunc_sl_regex_Regex_regex_Regex:Nat:=171
abbrev n_regex_forms_2_1_1:Nat:=172
abbrev n_regex_equal:Nat:=173
abbrev n_slices_SortFunc_sl_regex_Regex_regex_Regex:Nat:=174
abbrev n_regex_Compare:Nat:=175
abbrev n_slices_CompactFunc_sl_regex_Regex_regex_Regex:Nat:=176
abbrev n_regex_forms_3:Nat:=177
abbrev n_regex_forms_4:Nat:=178
abbrev n_regex_bare:Nat:=179
abbrev n_enthymemeref04_number:Nat:=180
abbrev n_enthymemeref04_reader_item:Nat:=181
abbrev n_enthymemeref04_reader_begins:Nat:=182
abbrev n_strings_IndexByte:Nat:=183
abbrev n_regex_small:Nat:=184
abbrev n_regex_byteAt:Nat:=185
abbrev n_regex_reader_atom:Nat:=186
abbrev n_slices_DeleteFunc_sl_regex_Regex_regex_Regex:Nat:=187
abbrev n_regex_flat_1:Nat:=188
abbrev n_slices_IndexFunc_sl_regex_Regex_regex_Regex:Nat:=189
abbrev n_slices_pdqsortCmpFunc_regex_Regex:Nat:=190
abbrev n_math_bits_Len:Nat:=191
abbrev n_cmp_Or_int:Nat:=192
abbrev n_cmp_Compare_int:Nat:=193
abbrev n_cmp_Compare_byte:Nat:=194
abbrev n_slices_CompareFunc_sl_regex_Regex_sl_regex_Regex_regex_Regex_regex_Regex:Nat:=195
abbrev n_regex_byteText:Nat:=196
abbrev n_enthymemeref04_reader_atom:Nat:=197
abbrev n_internal_stringslite_IndexByte:Nat:=198
abbrev n_regex_plain:Nat:=199
abbrev n_slices_insertionSortCmpFunc_regex_Regex:Nat:=200
abbrev n_slices_heapSortCmpFunc_regex_Regex:Nat:=201
abbrev n_slices_breakPatternsCmpFunc_regex_Regex:Nat:=202
abbrev n_slices_choosePivotCmpFunc_regex_Regex:Nat:=203
abbrev n_slices_reverseRangeCmpFunc_regex_Regex:Nat:=204
abbrev n_slices_partialInsertionSortCmpFunc_regex_Regex:Nat:=205
abbrev n_slices_partitionEqualCmpFunc_regex_Regex:Nat:=206
abbrev n_slices_partitionCmpFunc_regex_Regex:Nat:=207
abbrev n_math_bits_Len64:Nat:=209
abbrev n_cmp_isNaN_int:Nat:=210
abbrev n_cmp_isNaN_byte:Nat:=211
abbrev n_enthymemeref04_reader_kids:Nat:=212
abbrev n_internal_bytealg_IndexByteString:Nat:=213
namespace enthymemeref01_Around
noncomputable abbrev X:Fx:=⟨Tryz.prog,Tryz.f10,[],[]⟩
abbrev P0:Ps:=[(0,.v [.I]),(1,.v [.I])]
abbrev S0 (b a:Int) (w:World) (R:Post):Prop:=
 a≠0∧R (.returned (.i (Int.tmod b a))) w
noncomputable def eS0:=entS X [] (pth [2]) P0 S0
theorem ok (b a:Int) (w:World) (R:Post) (h:sel (decide (b<0)) (S0 (IntKind.wrap .i64 (0 - (IntKind.wrap .i64 (b+1)))) a w R) (S0 b a w R)):Calls Tryz.prog n_enthymemeref01_Around #[.i b,.i a] w R:=callsX X [eS0] h
end enthymemeref01_Around
namespace enthymemeref01_Has
noncomputable abbrev X:Fx:=⟨Tryz.prog,Tryz.f93,[],[]⟩
abbrev P0:Ps:=[(0,.v [.s]),(1,.v [.I]),(5,.v [.I])]
def L0 (b:Sl) (c a:Int) (w:World) (R:Post):Prop:=mkCur P0 0 (X.Sem (pth [0,1,1,1,1])) b c a w R
noncomputable def eL0:=entL X (pth [0,1,1,1,1]) P0 L0
theorem L0_step:∀(c:Sl) (f b:Int) (w:World) (R:Post) (h:sel (decide (b<((c.n:Nat):Int))) ((0:Int)≤b∧b<((c.n:Nat):Int)∧optP c.a fun d=>∃e:Int,w.cell? (d.add (Int.toNat b *1))=some (.i e)∧
 sel (e==f) (R (.returned (.bool true)) w) (L0 c f (IntKind.wrap .i64 (b+1)) w R)) (R (.returned (.bool false)) w)),L0 c f b w R:=mp (stepL (X:=X) [eL0] (pth [0,1,1,1,1]) P0)
theorem ok (a:Sl) (b:Int) (w:World) (R:Post) (h:L0 a b 0 w R):Calls Tryz.prog n_enthymemeref01_Has #[a.v,.i b] w R:=callsX X [eL0] h
end enthymemeref01_Has
namespace enthymemeref01_SameInts
noncomputable abbrev X:Fx:=⟨Tryz.prog,Tryz.f20,[(6,ls [0,1,2,3,4,5,6,7,8])],[]⟩
abbrev P0:Ps:=[(0,.v [.s]),(1,.v [.s]),(5,.v [.I])]
def L0 (a b:Sl) (c:Int) (w:World) (R:Post):Prop:=mkCur P0 0 (X.Sem (pth [0,1,1,1,2])) a b c w R
noncomputable def eL0:=entL X (pth [0,1,1,1,2]) P0 L0
theorem L0_step:∀(c d:Sl) (b:Int) (w:World) (R:Post) (h:sel (decide (b<((c.n:Nat):Int))) (drV w fun g=>(0:Int)≤b∧b<((c.n:Nat):Int)∧optP c.a fun e=>∃j:Int,g.cell? (e.add (Int.toNat b *1))=some (.i j)∧
 (0:Int)≤b∧b<((d.n:Nat):Int)∧optP d.a fun f=>∃k:Int,g.cell? (f.add (Int.toNat b *1))=some (.i k)∧
 sel (j !=k) (R (.returned (.bool false)) g) (L0 c d (IntKind.wrap .i64 (b+1)) g R)) (R (.returned (.bool true)) w)),L0 c d b w R:=mp (stepL (X:=X) [eL0] (pth [0,1,1,1,2]) P0)
theorem ok (a b:Sl) (w:World) (R:Post) (h:sel (((a.n:Nat):Int) !=((b.n:Nat):Int)) (R (.returned (.bool false)) w) (L0 a b 0 w R)):Calls Tryz.prog n_enthymemeref01_SameInts #[a.v,b.v] w R:=callsX X [eL0] h
end enthymemeref01_SameInts
end Go.Proofs.YtcifihepfadgfaaGreatDoor
set_option linter.unusedVariables false
set_option maxRecDepth 100000
set_option maxHeartbeats 2000000
namespace Go.Proofs.YtcifihepfadgfaaGreatDoor
open Go Go.W
namespace cmp_isNaN_int
noncomputable abbrev X:Fx:=⟨Tryz.prog,Tryz.f210,[],[]⟩
theorem ok (a:Int) (w:World) (R:Post) (h:R (.returned (.bool (a !=a))) w):Calls Tryz.prog n_cmp_isNaN_int #[.i a] w R:=callsX X [] h
end cmp_isNaN_int
namespace cmp_isNaN_byte
noncomputable abbrev X:Fx:=⟨Tryz.prog,Tryz.f211,[],[]⟩
theorem ok (a:Int) (w:World) (R:Post) (h:R (.returned (.bool (a !=a))) w):Calls Tryz.prog n_cmp_isNaN_byte #[.int .u8 a] w R:=callsX X [] h
end cmp_isNaN_byte
namespace cmp_Compare_int
noncomputable abbrev X:Fx:=⟨Tryz.prog,Tryz.f193,[],[]⟩
theorem ok (b c:Int) (w:World) (R:Post) (h:ca0 n_cmp_isNaN_int #[.i b] w fun e f=>ca0 n_cmp_isNaN_int #[.i c] f fun d a=>sel e (sel d (R (.returned (.i 0)) a) (R (.returned (.i (-1))) a)) (sel d (R (.returned (.i 1)) a) (sel (decide (b<c)) (R (.returned (.i (-1))) a) (sel (decide (b>c)) (R (.returned (.i 1)) a) (R (.returned (.i 0)) a))))):Calls Tryz.prog n_cmp_Compare_int #[.i b,.i c] w R:=callsX X [] h
end cmp_Compare_int
namespace cmp_Compare_byte
noncomputable abbrev X:Fx:=⟨Tryz.prog,Tryz.f194,[],[]⟩
theorem ok (b c:Int) (w:World) (R:Post) (h:ca0 n_cmp_isNaN_byte #[.int .u8 b] w fun e f=>ca0 n_cmp_isNaN_byte #[.int .u8 c] f fun d a=>sel e (sel d (R (.returned (.i 0)) a) (R (.returned (.i (-1))) a)) (sel d (R (.returned (.i 1)) a) (sel (decide (b<c)) (R (.returned (.i (-1))) a) (sel (decide (b>c)) (R (.returned (.i 1)) a) (R (.returned (.i 0)) a))))):Calls Tryz.prog n_cmp_Compare_byte #[.int .u8 b,.int .u8 c] w R:=callsX X [] h
end cmp_Compare_byte
namespace cmp_Or_int
noncomputable abbrev X:Fx:=⟨Tryz.prog,Tryz.f192,[],[]⟩
abbrev P0:Ps:=[(3,.v [.I]),(6,.v [.s]),(7,.v [.I]),(8,.v [.I])]
def L0 (a:Int) (b:Sl) (c d:Int) (w:World) (R:Post):Prop:=mkCur P0 0 (X.Sem (pth [0,1,1,1,2])) a b c d w R
noncomputable def eL0:=entL X (pth [0,1,1,1,2]) P0 L0
theorem L0_step:∀(b:Int) (f:Sl) (g c:Int) (w:World) (R:Post) (h:sel (decide (c<g)) ((0:Int)≤c∧c<((f.n:Nat):Int)∧optP f.a fun e=>∃d:Int,w.cell? (e.add (Int.toNat c *1))=some (.i d)∧
 sel (d !=b) (R (.returned (.i d)) w) (L0 b f g (IntKind.wrap .i64 (c+1)) w R)) (R (.returned (.i b)) w)),L0 b f g c w R:=mp (stepL (X:=X) [eL0] (pth [0,1,1,1,2]) P0)
theorem ok (a:Sl) (w:World) (R:Post) (h:L0 0 a ((a.n:Nat):Int) 0 w R):Calls Tryz.prog n_cmp_Or_int #[a.v] w R:=callsX X [eL0] h
end cmp_Or_int
namespace regex_Compare
noncomputable abbrev X:Fx:=⟨Tryz.prog,Tryz.f175,[(1,ls [0,1,2,3,5,6,7,8,10,11,12,13,4,9,14,15,16,17])],[2,3]⟩
theorem okT (c d e:Int) (f:Sl) (g j k:Int) (l:Sl) (w:World) (R:Post) (h:newV [] w fun a t=>
 newV [a] t fun b u=>
 loc [a,b] u fun x=>cf1 [a,b] n_cmp_Compare_int #[.i c,.i g] x fun n y=>cf1 [a,b] n_cmp_Compare_byte #[.int .u8 d,.int .u8 j] y fun o z=>cf1 [a,b] n_cmp_Compare_byte #[.int .u8 e,.int .u8 k] z fun p r=>nwV r (.cells #[.i n,.i o,.i p] ty_int) fun w7=>
 cf1 [a,b] n_cmp_Or_int #[.slice (some (nb r)) 3 3] w7 fun m s=>sel (m !=0) (R (.returned (.i m)) s) (cf1 [a,b] n_slices_CompareFunc_sl_regex_Regex_sl_regex_Regex_regex_Regex_regex_Regex #[f.v,l.v,.func (.func n_regex_Compare) #[] #[]] s fun q w9=>R (.returned (.i q)) w9)):Calls Tryz.prog n_regex_Compare #[.agg #[.i c,.int .u8 d,.int .u8 e,f.v],.agg #[.i g,.int .u8 j,.int .u8 k,l.v]] w R:=callsX X [] h
end regex_Compare
namespace slices_CompareFunc_sl_regex_Regex_sl_regex_Regex_regex_Regex_regex_Regex
noncomputable abbrev X:Fx:=⟨Tryz.prog,Tryz.f195,[],[8,9]⟩
abbrev P0:Ps:=[(0,.v [.s]),(1,.v [.s]),(2,.v [.g n_regex_Compare 0 0]),(11,.v [.s]),(12,.v [.I]),(13,.v [.I])]
def L0T (a b c:Sl) (d e:Int) (w:World) (R:Post):Prop:=mkCur P0 0 (X.Sem (pth [0,1,1,1,1])) a b c d e w R
noncomputable def eL0:=entL X (pth [0,1,1,1,1]) P0 L0T
theorem L0T_step:∀(f c d:Sl) (g b:Int) (w:World) (R:Post) (h:sel (decide (b<g)) ((0:Int)≤b∧b<((d.n:Nat):Int)∧optP d.a fun j=>ld4_0 w (j.add (Int.toNat b *4)) fun k l m o=>newV [] w fun e w1=>
 sel (decide (b≥((c.n:Nat):Int))) (loc [e] w1 fun u=>R (.returned (.i 1)) u) ((0:Int)≤b∧b<((c.n:Nat):Int)∧optP c.a fun p=>loc [e] w1 fun u=>ld4_0 u (p.add (Int.toNat b *4)) fun q r s t=>newV [e] u fun z w6=>
 loc [e,z] w6 fun ab=>cf1 [e,z] n_regex_Compare #[.agg #[.i k,.int .u8 l,.int .u8 m,o.v],.agg #[.i q,.int .u8 r,.int .u8 s,t.v]] ab fun x y=>sel (x !=0) (R (.returned (.i x)) y) (L0T f c d g (IntKind.wrap .i64 (b+1)) y R))) (sel (decide (((f.n:Nat):Int)<((c.n:Nat):Int))) (R (.returned (.i (-1))) w) (R (.returned (.i 0)) w))),L0T f c d g b w R:=mp (stepL (X:=X) [eL0] (pth [0,1,1,1,1]) P0)
theorem okT (a b:Sl) (w:World) (R:Post) (h:L0T a b a ((a.n:Nat):Int) 0 w R):Calls Tryz.prog n_slices_CompareFunc_sl_regex_Regex_sl_regex_Regex_regex_Regex_regex_Regex #[a.v,b.v,.func (.func n_regex_Compare) #[] #[]] w R:=callsX X [eL0] h
end slices_CompareFunc_sl_regex_Regex_sl_regex_Regex_regex_Regex_regex_Regex
namespace regex_equal
noncomputable abbrev X:Fx:=⟨Tryz.prog,Tryz.f173,[],[2,3]⟩
theorem okT (a b c:Int) (d:Sl) (e f g:Int) (j:Sl) (w:World) (R:Post) (h:newV [] w fun k n=>
 newV [k] n fun l o=>
 cf1 [k,l] n_regex_Compare #[.agg #[.i a,.int .u8 b,.int .u8 c,d.v],.agg #[.i e,.int .u8 f,.int .u8 g,j.v]] o fun m p=>R (.returned (.bool (m==0))) p):Calls Tryz.prog n_regex_equal #[.agg #[.i a,.int .u8 b,.int .u8 c,d.v],.agg #[.i e,.int .u8 f,.int .u8 g,j.v]] w R:=callsX X [] h
end regex_equal
end Go.Proofs.YtcifihepfadgfaaGreatDoor
set_option linter.unusedVariables false
set_option maxRecDepth 100000
set_option maxHeartbeats 2000000
namespace Go.Proofs.YtcifihepfadgfaaGreatDoor
open Go Go.W
namespace regex_countdown
noncomputable abbrev X:Fx:=⟨Tryz.prog,Tryz.f164,[],[2]⟩
abbrev P0:Ps:=[(1,.v [.I]),(2,.l [.I,.Y,.Y,.s] ty_regex_Regex),(5,.v [.I])]
def L1T (a:Int) (g:Nat) (b c d:Int) (e:Sl) (f:Int) (w:World) (R:Post):Prop:=mkCur P0 0 (X.Sem (pth [0,1,1,1,2])) a g b c d e f w R
noncomputable def eL1:=entL X (pth [0,1,1,1,2]) P0 L1T
abbrev P1:Ps:=[(1,.v [.I])]
abbrev S2T (a:Int) (w:World) (R:Post):Prop:=
 R (.returned (.i a)) w
noncomputable def eS2:=entS X [eL1] (pth [3]) P1 S2T
theorem L1T_step:∀(b:Int) (p:Nat) (e f g:Int) (c:Sl) (d:Int) (w:World) (R:Post) (h:sel (decide (d<((c.n:Nat):Int))) (sel (decide (b≥0)) ((0:Int)≤d∧d<((c.n:Nat):Int)∧optP c.a fun j=>ld4_0 w (j.add (Int.toNat d *4)) fun k l m o=>cf1 [p] n_regex_countdown #[.agg #[.i k,.int .u8 l,.int .u8 m,o.v],.i b] w fun q r=>L1T q p e f g c (IntKind.wrap .i64 (d+1)) r R) (S2T b w R)) (S2T b w R)),L1T b p e f g c d w R:=mp (stepL (X:=X) [eS2,eL1] (pth [0,1,1,1,2]) P0)
abbrev P2:Ps:=[(1,.v [.I]),(2,.l [.I,.Y,.Y,.s] ty_regex_Regex)]
abbrev S0T (a:Int) (f:Nat) (b c d:Int) (e:Sl) (w:World) (R:Post):Prop:=
 L1T a f b c d e 0 w R
noncomputable def eS0:=entS X [eS2,eL1] (pth [2]) P2 S0T
theorem okT (b c d:Int) (e:Sl) (a:Int) (w:World) (R:Post) (h:newV [] w fun f g=>
 S0T (IntKind.wrap .i64 (a - 1)) f b c d e g R):Calls Tryz.prog n_regex_countdown #[.agg #[.i b,.int .u8 c,.int .u8 d,e.v],.i a] w R:=callsX X [eS0,eS2,eL1] h
end regex_countdown
namespace regex_tooLarge
noncomputable abbrev X:Fx:=⟨Tryz.prog,Tryz.f146,[],[1]⟩
theorem okT (a b c:Int) (d:Sl) (w:World) (R:Post) (h:newV [] w fun e g=>
 cf1 [e] n_regex_countdown #[.agg #[.i a,.int .u8 b,.int .u8 c,d.v],.i 64] g fun f j=>R (.returned (.bool (decide (f<0)))) j):Calls Tryz.prog n_regex_tooLarge #[.agg #[.i a,.int .u8 b,.int .u8 c,d.v]] w R:=callsX X [] h
end regex_tooLarge
namespace regex_proper
noncomputable abbrev X:Fx:=⟨Tryz.prog,Tryz.f165,[],[1,4]⟩
abbrev P0:Ps:=[]
abbrev S0T (w:World) (R:Post):Prop:=
 R (.returned (.bool false)) w
noncomputable def eS0:=entS X [] (pth [0,1,1,1,1]) P0 S0T
abbrev P1:Ps:=[(1,.l [.I,.Y,.Y,.s] ty_regex_Regex)]
abbrev S2T (e:Nat) (b c d:Int) (a:Sl) (w:World) (R:Post):Prop:=
 R (.returned (.bool (((a.n:Nat):Int)==0))) w
noncomputable def eS2:=entS X [eS0] (pth [0,1,1,1,1,1,2]) P1 S2T
abbrev P2:Ps:=[(52,.v [.s]),(53,.v [.I]),(54,.v [.I])]
def L5T (a:Sl) (b c:Int) (w:World) (R:Post):Prop:=mkCur P2 0 (X.Sem (pth [0,1,1,1,3])) a b c w R
noncomputable def eL5:=entL X (pth [0,1,1,1,3]) P2 L5T
theorem L5T_step:∀(c:Sl) (d b:Int) (w:World) (R:Post) (h:sel (decide (b<d)) ((0:Int)≤b∧b<((c.n:Nat):Int)∧optP c.a fun e=>ld4_0 w (e.add (Int.toNat b *4)) fun f g j k=>newV [] w fun l p=>
 loc [l] p fun q=>cf0 [l] n_regex_proper #[.agg #[.i f,.int .u8 g,.int .u8 j,k.v]] q fun m o=>sel (!m) (R (.returned (.bool false)) o) (L5T c d (IntKind.wrap .i64 (b+1)) o R)) (R (.returned (.bool true)) w)),L5T c d b w R:=mp (stepL (X:=X) [eL5,eS2,eS0] (pth [0,1,1,1,3]) P2)
abbrev S4T (e:Nat) (b c d:Int) (a:Sl) (w:World) (R:Post):Prop:=
 L5T a ((a.n:Nat):Int) 0 w R
noncomputable def eS4:=entS X [eL5,eS2,eS0] (pth [3]) P1 S4T
abbrev S7T (e:Nat) (b c d:Int) (a:Sl) (w:World) (R:Post):Prop:=
 sel (((a.n:Nat):Int) !=1) (R (.returned (.bool false)) w) (S4T e b c d a w R)
noncomputable def eS7:=entS X [eS4,eL5,eS2,eS0] (pth [0,1,7,1,1,1,2]) P1 S7T
abbrev S8T (w:World) (R:Post):Prop:=
 R (.returned (.bool false)) w
noncomputable def eS8:=entS X [eS7,eS4,eL5,eS2,eS0] (pth [8,1,1,1,2]) P0 S8T
abbrev P3:Ps:=[(1,.l [.I,.Y,.Y,.s] ty_regex_Regex),(19,.v [.I])]
abbrev S6T (f:Nat) (a b c:Int) (d:Sl) (e:Int) (w:World) (R:Post):Prop:=
 sel (e==6) (sel (e==6) (S7T f a b c d w R) (S8T w R)) (sel (e==7) (S7T f a b c d w R) (S8T w R))
noncomputable def eS6:=entS X [eS8,eS7,eS4,eL5,eS2,eS0] (pth [6,1,1,1,2]) P3 S6T
abbrev S3T (f:Nat) (e a b:Int) (c:Sl) (d:Int) (w:World) (R:Post):Prop:=
 sel (d==2) (sel (((c.n:Nat):Int)==0) (R (.returned (.bool (decide (a≤b)))) w) (R (.returned (.bool false)) w)) (sel (d==3) (sel (d==3) (S4T f e a b c w R) (S6T f e a b c d w R)) (sel (d==4) (sel (d==4) (S4T f e a b c w R) (S6T f e a b c d w R)) (sel (d==5) (S4T f e a b c w R) (S6T f e a b c d w R))))
noncomputable def eS3:=entS X [eS6,eS8,eS7,eS4,eL5,eS2,eS0] (pth [2,1,1,1,2]) P3 S3T
abbrev S1T (e:Nat) (a b c:Int) (d:Sl) (w:World) (R:Post):Prop:=
 sel (a==0) (sel (a==0) (S2T e a b c d w R) (S3T e a b c d a w R)) (sel (a==1) (S2T e a b c d w R) (S3T e a b c d a w R))
noncomputable def eS1:=entS X [eS3,eS6,eS8,eS7,eS4,eL5,eS2,eS0] (pth [2]) P1 S1T
theorem okT (a b c:Int) (d:Sl) (w:World) (R:Post) (h:newV [] w fun f e=>
 sel (a !=2) (sel (b !=0) (S0T e R) (sel (c !=0) (S0T e R) (S1T f a b c d e R))) (S1T f a b c d e R)):Calls Tryz.prog n_regex_proper #[.agg #[.i a,.int .u8 b,.int .u8 c,d.v]] w R:=callsX X [eS1,eS3,eS6,eS8,eS7,eS4,eL5,eS2,eS0] h
end regex_proper
namespace regex_Valid
noncomputable abbrev X:Fx:=⟨Tryz.prog,Tryz.f147,[],[1]⟩
theorem okT (a b c:Int) (d:Sl) (w:World) (R:Post) (h:newV [] w fun e l=>
 cf0 [e] n_regex_tooLarge #[.agg #[.i a,.int .u8 b,.int .u8 c,d.v]] l fun j f=>sel j (R (.returned (.i 4)) f) (cf0 [e] n_regex_proper #[.agg #[.i a,.int .u8 b,.int .u8 c,d.v]] f fun k g=>sel (!k) (R (.returned (.i 1)) g) (R (.returned (.i 0)) g))):Calls Tryz.prog n_regex_Valid #[.agg #[.i a,.int .u8 b,.int .u8 c,d.v]] w R:=callsX X [] h
end regex_Valid
namespace regex_clone
noncomputable abbrev X:Fx:=⟨Tryz.prog,Tryz.f166,[],[1,2,5]⟩
abbrev P0:Ps:=[(1,.l [.I,.Y,.Y,.s] ty_regex_Regex),(2,.l [.I,.Y,.Y,.s] ty_regex_Regex),(3,.v [.s]),(7,.v [.s]),(8,.v [.I]),(9,.v [.I])]
def L0T (k:Nat) (b c d:Int) (e:Sl) (l:Nat) (f g i:Int) (j a m:Sl) (n o:Int) (w:World) (R:Post):Prop:=mkCur P0 0 (X.Sem (pth [0,1,1,1,2])) k b c d e l f g i j a m n o w R
noncomputable def eL0:=entL X (pth [0,1,1,1,2]) P0 L0T
theorem L0T_step:∀(c:Nat) (d e f:Int) (k:Sl) (g:Nat) (l m o:Int) (p b t7:Sl) (t8 j:Int) (w:World) (R:Post) (h:sel (decide (j<t8)) ((0:Int)≤j∧j<((t7.n:Nat):Int)∧optP t7.a fun r=>ld4_0 w (r.add (Int.toNat j *4)) fun s t u x=>newV [c,g] w fun b5 w3=>
 loc [c,g,b5] w3 fun w7=>cf2 [c,g,b5] n_regex_clone #[.agg #[.i s,.int .u8 t,.int .u8 u,x.v]] w7 fun y z aa ab w8=>nwV w8 (.cells #[.i y,.int .u8 z,.int .u8 aa,ab.v] ty_regex_Regex) fun w9=>
 ∃(ad:Sl) (q:World),Sem.run Tryz.prog (Builtin.append_ #[ty_sl_regex_Regex,ty_sl_regex_Regex] ty_sl_regex_Regex #[b.v,.slice (some (nb w8)) 1 1]) w9=.ok (ad.v) q∧kept [c,g,b5] w9 q∧L0T c d e f k g l m o p ad t7 t8 (IntKind.wrap .i64 (j+1)) q R) (loc [c,g] w fun ag=>R (.returned (.agg #[.i d,.int .u8 e,.int .u8 f,b.v])) ag)),L0T c d e f k g l m o p b t7 t8 j w R:=mp (stepL (X:=X) [eL0] (pth [0,1,1,1,2]) P0)
theorem okT (b c d:Int) (a:Sl) (w:World) (R:Post) (h:newV [] w fun e g=>
 newV [e] g fun f j=>
 L0T e b c d a f 0 0 0 ⟨none,0,0⟩ ⟨none,0,0⟩ a ((a.n:Nat):Int) 0 j R):Calls Tryz.prog n_regex_clone #[.agg #[.i b,.int .u8 c,.int .u8 d,a.v]] w R:=callsX X [eL0] h
end regex_clone
namespace regex_limited
noncomputable abbrev X:Fx:=⟨Tryz.prog,Tryz.f148,[],[1,2]⟩
theorem okT (a b c:Int) (d:Sl) (w:World) (R:Post) (h:newV [] w fun e p=>
 newV [e] p fun f q=>
 cf0 [e,f] n_regex_tooLarge #[.agg #[.i a,.int .u8 b,.int .u8 c,d.v]] q fun o n=>sel o (loc [e,f] n fun r=>R (.returned (.tuple #[.agg #[.i 0,.int .u8 0,.int .u8 0,.slice none 0 0],.i 4])) r) (cf2 [e,f] n_regex_clone #[.agg #[.i a,.int .u8 b,.int .u8 c,d.v]] n fun g j k l s=>loc [e,f] s fun m=>R (.returned (.tuple #[.agg #[.i g,.int .u8 j,.int .u8 k,l.v],.i 0])) m)):Calls Tryz.prog n_regex_limited #[.agg #[.i a,.int .u8 b,.int .u8 c,d.v]] w R:=callsX X [] h
end regex_limited
end Go.Proofs.YtcifihepfadgfaaGreatDoor
set_option linter.unusedVariables false
set_option maxRecDepth 100000
set_option maxHeartbeats 2000000
namespace Go.Proofs.YtcifihepfadgfaaGreatDoor
open Go Go.W
namespace regex_flat_1
noncomputable abbrev X:Fx:=⟨Tryz.prog,Tryz.f188,[],[2]⟩
theorem okT (a b c:Int) (d:Sl) (k:Addr) (w:World) (R:Post) (h:newV [] w fun m l=>
 ld4_0 l k fun e f g j=>cf0 [m] n_regex_equal #[.agg #[.i a,.int .u8 b,.int .u8 c,d.v],.agg #[.i e,.int .u8 f,.int .u8 g,j.v]] l fun n o=>R (.returned (.bool n)) o):Calls Tryz.prog n_regex_flat_1 #[.agg #[.i a,.int .u8 b,.int .u8 c,d.v],.pointer (some k)] w R:=callsX X [] h
end regex_flat_1
namespace slices_IndexFunc_sl_regex_Regex_regex_Regex
noncomputable abbrev X:Fx:=⟨Tryz.prog,Tryz.f189,[],[]⟩
abbrev P0:Ps:=[(0,.v [.s]),(1,.v [.f]),(7,.v [.I]),(8,.v [.I])]
def L0 (b:Sl) (a:Fv) (c d:Int) (w:World) (R:Post):Prop:=mkCur P0 0 (X.Sem (pth [0,1,1,1,1])) b a c d w R
noncomputable def eL0:=entL X (pth [0,1,1,1,1]) P0 L0
theorem L0_step:∀(d:Sl) (c:Fv) (m b:Int) (w:World) (R:Post) (h:sel (decide (b<m)) ((0:Int)≤b∧b<((d.n:Nat):Int)∧optP d.a fun e=>ld4_0 w (e.add (Int.toNat b *4)) fun f g j k=>AndT (callable Tryz.prog c.n) (Calls Tryz.prog c.n (c.bs++#[.agg #[.i f,.int .u8 g,.int .u8 j,k.v]]++c.cs) w fun p o=>∃l:Bool,p=.returned (.bool l)∧
 sel l (R (.returned (.i b)) o) (L0 d c m (IntKind.wrap .i64 (b+1)) o R))) (R (.returned (.i (-1))) w)),L0 d c m b w R:=mp (stepL (X:=X) [eL0] (pth [0,1,1,1,1]) P0)
theorem ok (a:Sl) (b:Fv) (w:World) (R:Post) (h:L0 a b ((a.n:Nat):Int) 0 w R):Calls Tryz.prog n_slices_IndexFunc_sl_regex_Regex_regex_Regex #[a.v,b.v] w R:=callsX X [eL0] h
end slices_IndexFunc_sl_regex_Regex_regex_Regex
namespace slices_ContainsFunc_sl_regex_Regex_regex_Regex
noncomputable abbrev X:Fx:=⟨Tryz.prog,Tryz.f171,[],[]⟩
theorem ok (b:Sl) (a:Fv) (w:World) (R:Post) (h:ca1 n_slices_IndexFunc_sl_regex_Regex_regex_Regex #[b.v,a.v] w fun c d=>R (.returned (.bool (decide (c≥0)))) d):Calls Tryz.prog n_slices_ContainsFunc_sl_regex_Regex_regex_Regex #[b.v,a.v] w R:=callsX X [] h
end slices_ContainsFunc_sl_regex_Regex_regex_Regex
namespace slices_DeleteFunc_sl_regex_Regex_regex_Regex
noncomputable abbrev X:Fx:=⟨Tryz.prog,Tryz.f187,[],[7]⟩
abbrev P0:Ps:=[(0,.v [.s]),(1,.v [.g n_regex_flat_1 0 1,.r]),(5,.v [.I]),(6,.v [.I])]
def L0T (d:Sl) (a:Addr) (b c:Int) (w:World) (R:Post):Prop:=mkCur P0 0 (X.Sem (pth [0,1,1,1,3])) d a b c w R
noncomputable def eL0:=entL X (pth [0,1,1,1,3]) P0 L0T
abbrev S1T (d:Sl) (a:Addr) (b c:Int) (w:World) (R:Post):Prop:=
 L0T d a b (IntKind.wrap .i64 (c+1)) w R
noncomputable def eS1:=entS X [eL0] (pth [2,2,1,1,3]) P0 S1T
theorem L0T_step:∀(b:Sl) (e:Addr) (d g:Int) (w:World) (R:Post) (h:sel (decide (g<((b.n:Nat):Int))) ((0:Int)≤g∧g<((b.n:Nat):Int)∧optP b.a fun q=>ld4_0 w (q.add (Int.toNat g *4)) fun j k l m=>newV [] w fun o z=>
 loc [o] z fun w6=>cf0 [o] n_regex_flat_1 #[.agg #[.i j,.int .u8 k,.int .u8 l,m.v],.pointer (some e)] w6 fun y t=>sel (!y) ((0:Int)≤d∧d<((b.n:Nat):Int)∧optP b.a fun f=>stV t (f.add (Int.toNat d *4)) (.i j) fun u=>kept [o] t u∧
 stV u ((f.add (Int.toNat d *4)).add 1) (.int .u8 k) fun x=>kept [o] u x∧
 stV x ((f.add (Int.toNat d *4)).add 2) (.int .u8 l) fun p=>kept [o] x p∧
 stV p ((f.add (Int.toNat d *4)).add 3) (m.v) fun r=>kept [o] p r∧
 S1T b e (IntKind.wrap .i64 (d+1)) g r R) (S1T b e d g t R)) ((0:Int)≤d∧d≤((b.n:Nat):Int)∧∃(s:World),Sem.run Tryz.prog (Builtin.clear_ #[ty_sl_regex_Regex] ty_ #[.slice (if b.c=(Int.toNat d) then b.a else b.a.map (·.add ((Int.toNat d) *4))) (b.n - (Int.toNat d)) (b.c - (Int.toNat d))]) w=.ok (.tuple #[]) s∧(0:Int)≤d∧d≤((b.c:Nat):Int)∧R (.returned (.slice (if b.c=0 then b.a else b.a.map (·.add (0 *4))) ((Int.toNat d) - 0) (b.c - 0))) s)),L0T b e d g w R:=mp (stepL (X:=X) [eS1,eL0] (pth [0,1,1,1,3]) P0)
theorem okT (c:Sl) (a:Addr) (w:World) (R:Post) (h:ca1 n_slices_IndexFunc_sl_regex_Regex_regex_Regex #[c.v,.func (.func n_regex_flat_1) #[] #[.pointer (some a)]] w fun b d=>sel (b==(-1)) (R (.returned (c.v)) d) (L0T c a b (IntKind.wrap .i64 (b+1)) d R)):Calls Tryz.prog n_slices_DeleteFunc_sl_regex_Regex_regex_Regex #[c.v,.func (.func n_regex_flat_1) #[] #[.pointer (some a)]] w R:=callsX X [eS1,eL0] h
end slices_DeleteFunc_sl_regex_Regex_regex_Regex
namespace slices_CompactFunc_sl_regex_Regex_regex_Regex
noncomputable abbrev X:Fx:=⟨Tryz.prog,Tryz.f176,[(6,ls [0,1,2,3,4,5,6,7,8,9,10]),(11,ls [0,1,2,3,4,5,6,7,8,9,10,11])],[]⟩
abbrev P0:Ps:=[(0,.v [.s]),(1,.v [.g n_regex_equal 0 0]),(5,.v [.I])]
def L0 (b:Sl) (a:Int) (w:World) (R:Post):Prop:=mkCur P0 0 (X.Sem (pth [0,1,1,1,2])) b a w R
noncomputable def eL0:=entL X (pth [0,1,1,1,2]) P0 L0
abbrev P1:Ps:=[(0,.v [.s]),(1,.v [.g n_regex_equal 0 0]),(5,.v [.I]),(6,.v [.s]),(7,.v [.I])]
def L2 (d:Sl) (c:Int) (b:Sl) (a:Int) (w:World) (R:Post):Prop:=mkCur P1 0 (X.Sem (pth [0,1,1,1,1,1,1,2,1,2,1,1,2])) d c b a w R
noncomputable def eL2:=entL X (pth [0,1,1,1,1,1,1,2,1,2,1,1,2]) P1 L2
abbrev S3 (d:Sl) (c:Int) (b:Sl) (a:Int) (w:World) (R:Post):Prop:=
 L2 d c b (IntKind.wrap .i64 (a+1)) w R
noncomputable def eS3:=entS X [eL2,eL0] (pth [2,2,1,1,1,1,1,2,1,2,1,1,2]) P1 S3
theorem L2_step:∀(d:Sl) (f:Int) (e:Sl) (b:Int) (w:World) (R:Post) (h:sel (decide (b<((e.n:Nat):Int))) (drV w fun w1=>(0:Int)≤b∧b<((e.n:Nat):Int)∧optP e.a fun g=>ld4_0 w1 (g.add (Int.toNat b *4)) fun j k l m=>(0:Int)≤(IntKind.wrap .i64 (b - 1))∧(IntKind.wrap .i64 (b - 1))<((e.n:Nat):Int)∧optP e.a fun o=>ld4_0 w1 (o.add (Int.toNat (IntKind.wrap .i64 (b - 1)) *4)) fun p q r s=>ca0 n_regex_equal #[.agg #[.i j,.int .u8 k,.int .u8 l,m.v],.agg #[.i p,.int .u8 q,.int .u8 r,s.v]] w1 fun ad w2=>sel (!ad) ((0:Int)≤b∧b<((e.n:Nat):Int)∧optP e.a fun t=>ld4_0 w2 (t.add (Int.toNat b *4)) fun u x y z=>(0:Int)≤f∧f<((d.n:Nat):Int)∧optP d.a fun aa=>stW4 w2 (aa.add (Int.toNat f *4)) (.i u) (.int .u8 x) (.int .u8 y) (z.v) fun w6=>S3 d (IntKind.wrap .i64 (f+1)) e b w6 R) (S3 d f e b w2 R)) ((0:Int)≤f∧f≤((d.n:Nat):Int)∧∃(w7:World),Sem.run Tryz.prog (Builtin.clear_ #[ty_sl_regex_Regex] ty_ #[.slice (if d.c=(Int.toNat f) then d.a else d.a.map (·.add ((Int.toNat f) *4))) (d.n - (Int.toNat f)) (d.c - (Int.toNat f))]) w=.ok (.tuple #[]) w7∧(0:Int)≤f∧f≤((d.c:Nat):Int)∧R (.returned (.slice (if d.c=0 then d.a else d.a.map (·.add (0 *4))) ((Int.toNat f) - 0) (d.c - 0))) w7)),L2 d f e b w R:=mp (stepL (X:=X) [eS3,eL2,eL0] (pth [0,1,1,1,1,1,1,2,1,2,1,1,2]) P1)
abbrev P2:Ps:=[(0,.v [.s]),(1,.v [.g n_regex_equal 0 0]),(5,.v [.I]),(6,.v [.s])]
abbrev S1 (c:Sl) (b:Int) (a:Sl) (w:World) (R:Post):Prop:=
 L2 c b a 1 w R
noncomputable def eS1:=entS X [eS3,eL2,eL0] (pth [1,1,1,2,1,2,1,1,2]) P2 S1
theorem L0_step:∀(d:Sl) (b:Int) (w:World) (R:Post) (h:sel (decide (b<((d.n:Nat):Int))) (drV w fun r=>(0:Int)≤b∧b<((d.n:Nat):Int)∧optP d.a fun e=>ld4_0 r (e.add (Int.toNat b *4)) fun f g j k=>(0:Int)≤(IntKind.wrap .i64 (b - 1))∧(IntKind.wrap .i64 (b - 1))<((d.n:Nat):Int)∧optP d.a fun l=>ld4_0 r (l.add (Int.toNat (IntKind.wrap .i64 (b - 1)) *4)) fun m o p q=>ca0 n_regex_equal #[.agg #[.i f,.int .u8 g,.int .u8 j,k.v],.agg #[.i m,.int .u8 o,.int .u8 p,q.v]] r fun s t=>sel s ((0:Int)≤b∧b≤((d.n:Nat):Int)∧S1 d b ⟨(if d.c=(Int.toNat b) then d.a else d.a.map (·.add ((Int.toNat b) *4))),(d.n - (Int.toNat b)),(d.c - (Int.toNat b))⟩ t R) (L0 d (IntKind.wrap .i64 (b+1)) t R)) (R (.returned (d.v)) w)),L0 d b w R:=mp (stepL (X:=X) [eS1,eS3,eL2,eL0] (pth [0,1,1,1,2]) P0)
theorem ok (a:Sl) (w:World) (R:Post) (h:sel (decide (((a.n:Nat):Int)<2)) (R (.returned (a.v)) w) (L0 a 1 w R)):Calls Tryz.prog n_slices_CompactFunc_sl_regex_Regex_regex_Regex #[a.v,.func (.func n_regex_equal) #[] #[]] w R:=callsX X [eS1,eS3,eL2,eL0] h
end slices_CompactFunc_sl_regex_Regex_regex_Regex
namespace regex_flat
noncomputable abbrev X:Fx:=⟨Tryz.prog,Tryz.f170,[],[2,7]⟩
abbrev P0:Ps:=[(2,.l [.I,.Y,.Y,.s] ty_regex_Regex),(3,.v [.r]),(5,.v [.s]),(9,.v [.s]),(10,.v [.I]),(11,.v [.I])]
def L0T (j:Nat) (b c d:Int) (e:Sl) (a:Addr) (i k:Sl) (f g:Int) (w:World) (R:Post):Prop:=mkCur P0 0 (X.Sem (pth [0,1,1,1,2])) j b c d e a i k f g w R
noncomputable def eL0:=entL X (pth [0,1,1,1,2]) P0 L0T
abbrev S1T (j:Nat) (b c d:Int) (e:Sl) (a:Addr) (i k:Sl) (f g:Int) (w:World) (R:Post):Prop:=
 L0T j b c d e a i k f (IntKind.wrap .i64 (g+1)) w R
noncomputable def eS1:=entS X [eL0] (pth [3,2,1,1,2]) P0 S1T
theorem L0T_step:∀(d:Nat) (e f g:Int) (j:Sl) (b:Addr) (s o:Sl) (k c:Int) (w:World) (R:Post) (h:sel (decide (c<k)) ((0:Int)≤c∧c<((o.n:Nat):Int)∧optP o.a fun t=>ld4_0 w (t.add (Int.toNat c *4)) fun l u x m=>newV [d] w fun r w3=>
 sel (l==e) (loc [d,r] w3 fun q=>∃(y:Sl) (w8:World),Sem.run Tryz.prog (Builtin.append_ #[ty_sl_regex_Regex,ty_sl_regex_Regex] ty_sl_regex_Regex #[s.v,m.v]) q=.ok (y.v) w8∧kept [d,r] q w8∧S1T d e f g j b y o k c w8 R) (loc [d,r] w3 fun q=>nwV q (.cells #[.i l,.int .u8 u,.int .u8 x,m.v] ty_regex_Regex) fun w9=>
 ∃(z:Sl) (p:World),Sem.run Tryz.prog (Builtin.append_ #[ty_sl_regex_Regex,ty_sl_regex_Regex] ty_sl_regex_Regex #[s.v,.slice (some (nb q)) 1 1]) w9=.ok (z.v) p∧kept [d,r] w9 p∧S1T d e f g j b z o k c p R)) (cf3 [d] n_slices_DeleteFunc_sl_regex_Regex_regex_Regex #[s.v,.func (.func n_regex_flat_1) #[] #[.pointer (some b)]] w fun ab ac=>R (.returned (ab.v)) ac)),L0T d e f g j b s o k c w R:=mp (stepL (X:=X) [eS1,eL0] (pth [0,1,1,1,2]) P0)
theorem okT (f g j:Int) (e:Sl) (a b c:Int) (d:Sl) (w:World) (R:Post) (h:newV [] w fun l k=>
 nwV k (.cells #[.i a,.int .u8 b,.int .u8 c,d.v] ty_regex_Regex) fun m=>
 L0T l f g j e (nb k) ⟨none,0,0⟩ e ((e.n:Nat):Int) 0 m R):Calls Tryz.prog n_regex_flat #[.agg #[.i f,.int .u8 g,.int .u8 j,e.v],.agg #[.i a,.int .u8 b,.int .u8 c,d.v]] w R:=callsX X [eS1,eL0] h
end regex_flat
namespace regex_forms_1
noncomputable abbrev X:Fx:=⟨Tryz.prog,Tryz.f167,[],[1,2]⟩
theorem okT (a b c:Int) (d:Sl) (w:World) (R:Post) (h:newV [] w fun e g=>
 newV [e] g fun f j=>
 loc [e,f] j fun k=>R (.returned (.agg #[.i a,.int .u8 b,.int .u8 c,d.v])) k):Calls Tryz.prog n_regex_forms_1 #[.agg #[.i a,.int .u8 b,.int .u8 c,d.v]] w R:=callsX X [] h
end regex_forms_1
namespace regex_forms_2
noncomputable abbrev X:Fx:=⟨Tryz.prog,Tryz.f168,[],[]⟩
theorem ok (a b c:Int) (d:Sl) (e f g:Int) (j:Sl) (w:World) (R:Post) (h:nwV w (.cells #[.i a,.int .u8 b,.int .u8 c,d.v] ty_regex_Regex) fun k=>
 nwV k (.cells #[.i e,.int .u8 f,.int .u8 g,j.v] ty_regex_Regex) fun l=>
 R (.returned (.func (.func n_regex_forms_2_1) #[] #[.pointer (some (nb w)),.pointer (some (nb k))])) l):Calls Tryz.prog n_regex_forms_2 #[.agg #[.i a,.int .u8 b,.int .u8 c,d.v],.agg #[.i e,.int .u8 f,.int .u8 g,j.v]] w R:=callsX X [] h
end regex_forms_2
namespace regex_forms_2_1
noncomputable abbrev X:Fx:=⟨Tryz.prog,Tryz.f169,[],[3,4]⟩
abbrev P0:Ps:=[(1,.v [.r]),(3,.l [.I,.Y,.Y,.s] ty_regex_Regex),(4,.l [.I,.Y,.Y,.s] ty_regex_Regex),(5,.v [.s])]
abbrev S0T (x:Addr) (o:Nat) (p s t:Int) (u:Sl) (q:Nat) (y z aa:Int) (ab b:Sl) (w:World) (R:Post):Prop:=
 sel (((b.n:Nat):Int)==0) (ld4_0 w x fun c d e f=>loc [o,q] w fun w4=>R (.returned (.agg #[.i c,.int .u8 d,.int .u8 e,f.v])) w4) (sel (((b.n:Nat):Int)==1) ((0:Int)≤0∧0<((b.n:Nat):Int)∧optP b.a fun g=>ld4_0 w (g.add (Int.toNat 0 *4)) fun j k l m=>loc [o,q] w fun w8=>R (.returned (.agg #[.i j,.int .u8 k,.int .u8 l,m.v])) w8) (loc [o,q] w fun r=>R (.returned (.agg #[.i p,.int .u8 0,.int .u8 0,b.v])) r))
noncomputable def eS0:=entS X [] (pth [4]) P0 S0T
theorem okT (a b c:Int) (d:Sl) (g p:Addr) (w:World) (R:Post) (h:newV [] w fun e w1=>
 newV [e] w1 fun f z=>
 ld4_0 z g fun q r s t=>cf3 [e,f] n_regex_flat #[.agg #[.i a,.int .u8 b,.int .u8 c,d.v],.agg #[.i q,.int .u8 r,.int .u8 s,t.v]] z fun n w3=>cf0 [e,f] n_slices_ContainsFunc_sl_regex_Regex_regex_Regex #[n.v,.func (.func n_regex_forms_2_1_1) #[] #[.pointer (some p)]] w3 fun u o=>sel u (ld4_0 o p fun j k l m=>loc [e,f] o fun w8=>R (.returned (.agg #[.i j,.int .u8 k,.int .u8 l,m.v])) w8) (sel (a !=3) (cf4 [e,f] n_slices_SortFunc_sl_regex_Regex_regex_Regex #[n.v,.func (.func n_regex_Compare) #[] #[]] o fun w9=>cf3 [e,f] n_slices_CompactFunc_sl_regex_Regex_regex_Regex #[n.v,.func (.func n_regex_equal) #[] #[]] w9 fun x y=>S0T g e a b c d f 0 0 0 ⟨none,0,0⟩ x y R) (S0T g e a b c d f 0 0 0 ⟨none,0,0⟩ n o R))):Calls Tryz.prog n_regex_forms_2_1 #[.agg #[.i a,.int .u8 b,.int .u8 c,d.v],.pointer (some g),.pointer (some p)] w R:=callsX X [eS0] h
end regex_forms_2_1
namespace regex_forms_2_1_1
noncomputable abbrev X:Fx:=⟨Tryz.prog,Tryz.f172,[],[2]⟩
theorem okT (a b c:Int) (d:Sl) (k:Addr) (w:World) (R:Post) (h:newV [] w fun m l=>
 ld4_0 l k fun e f g j=>cf0 [m] n_regex_equal #[.agg #[.i a,.int .u8 b,.int .u8 c,d.v],.agg #[.i e,.int .u8 f,.int .u8 g,j.v]] l fun n o=>R (.returned (.bool n)) o):Calls Tryz.prog n_regex_forms_2_1_1 #[.agg #[.i a,.int .u8 b,.int .u8 c,d.v],.pointer (some k)] w R:=callsX X [] h
end regex_forms_2_1_1
namespace regex_forms_3
noncomputable abbrev X:Fx:=⟨Tryz.prog,Tryz.f177,[],[1,2]⟩
theorem okT (c d e:Int) (b:Sl) (w:World) (R:Post) (h:newV [] w fun q x=>
 newV [q] x fun s g=>
 (0:Int)≤0∧0<((b.n:Nat):Int)∧optP b.a fun r=>∃t:Int,g.cell? ((r.add (Int.toNat 0 *4)).add 0)=some (.i t)∧
 sel (t==6) ((0:Int)≤0∧0<((b.n:Nat):Int)∧optP b.a fun j=>∃f:Sl,g.cell? ((j.add (Int.toNat 0 *4)).add 3)=some (f.v)∧
 (0:Int)≤0∧0<((f.n:Nat):Int)∧optP f.a fun k=>ld4_0 g (k.add (Int.toNat 0 *4)) fun l m o p=>loc [q,s] g fun y=>R (.returned (.agg #[.i l,.int .u8 m,.int .u8 o,p.v])) y) (loc [q,s] g fun u=>R (.returned (.agg #[.i c,.int .u8 d,.int .u8 e,b.v])) u)):Calls Tryz.prog n_regex_forms_3 #[.agg #[.i c,.int .u8 d,.int .u8 e,b.v]] w R:=callsX X [] h
end regex_forms_3
namespace regex_forms_4
noncomputable abbrev X:Fx:=⟨Tryz.prog,Tryz.f178,[],[3,4,5]⟩
abbrev P0:Ps:=[(1,.v [.r]),(4,.l [.I,.Y,.Y,.s] ty_regex_Regex)]
abbrev S0T (e:Addr) (f:Nat) (g j k:Int) (l:Sl) (w:World) (R:Post):Prop:=
 ld4_0 w e fun a b c d=>loc [f] w fun m=>R (.returned (.agg #[.i a,.int .u8 b,.int .u8 c,d.v])) m
noncomputable def eS0:=entS X [] (pth [0,1,1,1,2]) P0 S0T
abbrev P1:Ps:=[(4,.l [.I,.Y,.Y,.s] ty_regex_Regex),(5,.l [.I,.Y,.Y,.s] ty_regex_Regex)]
abbrev S1T (f:Nat) (g j k:Int) (l:Sl) (e:Nat) (a b c:Int) (d:Sl) (w:World) (R:Post):Prop:=
 loc [f,e] w fun m=>R (.returned (.agg #[.i a,.int .u8 b,.int .u8 c,d.v])) m
noncomputable def eS1:=entS X [eS0] (pth [0,1,1,1,3]) P1 S1T
theorem okT (m o p:Int) (d:Sl) (x z:Addr) (w:World) (R:Post) (h:newV [] w fun e w1=>
 newV [e] w1 fun c w2=>
 (0:Int)≤0∧0<((d.n:Nat):Int)∧optP d.a fun y=>ld4_0 w2 (y.add (Int.toNat 0 *4)) fun b j k l=>newV [e,c] w2 fun f u=>
 sel (b==0) (loc [e,c,f] u fun g=>S0T x c 0 0 0 ⟨none,0,0⟩ g R) (sel (b==1) (loc [e,c,f] u fun g=>S0T x c 0 0 0 ⟨none,0,0⟩ g R) (sel (b==7) (loc [e,c,f] u fun g=>S1T c 0 0 0 ⟨none,0,0⟩ f b j k l g R) (loc [e,c,f] u fun g=>ld4_0 g z fun q r s t=>cf0 [e,c,f] n_regex_equal #[.agg #[.i b,.int .u8 j,.int .u8 k,l.v],.agg #[.i q,.int .u8 r,.int .u8 s,t.v]] g fun aa w8=>sel aa (S1T c 0 0 0 ⟨none,0,0⟩ f b j k l w8 R) (loc [e,c,f] w8 fun ab=>R (.returned (.agg #[.i m,.int .u8 o,.int .u8 p,d.v])) ab))))):Calls Tryz.prog n_regex_forms_4 #[.agg #[.i m,.int .u8 o,.int .u8 p,d.v],.pointer (some x),.pointer (some z)] w R:=callsX X [eS1,eS0] h
end regex_forms_4
namespace regex_normal
noncomputable abbrev X:Fx:=⟨Tryz.prog,Tryz.f149,[(5,ls [0,1,2,3,4,5,6,7,8])],[]⟩
abbrev P0:Ps:=[(0,.v [.m]),(3,.v [.r]),(4,.v [.r]),(5,.v [.r]),(16,.v [.s]),(17,.v [.I]),(18,.v [.I])]
def L0 (d:Option Nat) (f g e:Addr) (a:Sl) (b c:Int) (w:World) (R:Post):Prop:=mkCur P0 0 (X.Sem (pth [0,1,1,1,2])) d f g e a b c w R
noncomputable def eL0:=entL X (pth [0,1,1,1,2]) P0 L0
theorem L0_step:∀(q:Option Nat) (r3 t4 d:Addr) (e:Sl) (m c:Int) (w:World) (R:Post) (h:sel (decide (c<m)) ((0:Int)≤c∧c<((e.n:Nat):Int)∧optP e.a fun r=>ld4_0 w (r.add (Int.toNat c *4)) fun s t u x=>nwV w (.cells #[.i 0,.int .u8 0,.int .u8 0,.slice none 0 0] ty_regex_Regex) fun w8=>
 stW4 w8 (nb w) (.i s) (.int .u8 t) (.int .u8 u) (x.v) fun ax=>drV ax fun o=>∃f:Sl,o.cell? (d.add 3)=some (f.v)∧
 ld4_0 o (nb w) fun y z aa ab=>ca2 n_regex_normal #[.map q,.agg #[.i y,.int .u8 z,.int .u8 aa,ab.v]] o fun ac ad ae af p=>p.cell? (d.add 3)=some (f.v)∧nwV p (.cells #[.i ac,.int .u8 ad,.int .u8 ae,af.v] ty_regex_Regex) fun an=>
 an.cell? (d.add 3)=some (f.v)∧∃(al:Sl) (ao:World),Sem.run Tryz.prog (Builtin.append_ #[ty_sl_regex_Regex,ty_sl_regex_Regex] ty_sl_regex_Regex #[f.v,.slice (some (nb p)) 1 1]) an=.ok (al.v) ao∧stV ao (d.add 3) (al.v) fun ay=>
 L0 q r3 t4 d e m (IntKind.wrap .i64 (c+1)) ay R) (∃am:Int,w.cell? (r3.add 0)=some (.i am)∧
 ∃b:Fv,Sem.run Tryz.prog (Instr.lookup ty_map_int_func_regex_Regex_regex_Regex (.map q) (.i am) false) w=.ok (b.v) w∧ld4_0 w d fun ag ah ai aj=>AndT (callable Tryz.prog b.n) (Calls Tryz.prog b.n (b.bs++#[.agg #[.i ag,.int .u8 ah,.int .u8 ai,aj.v]]++b.cs) w fun r_ az=>∃g:Int,∃j:Int,∃k:Int,∃l:Sl,r_=.returned (.agg #[.i g,.int .u8 j,.int .u8 k,l.v])∧
 stW4 az t4 (.i g) (.int .u8 j) (.int .u8 k) (l.v) fun ap=>ld4_0 ap t4 fun ar au av aw=>R (.returned (.agg #[.i ar,.int .u8 au,.int .u8 av,aw.v])) ap))),L0 q r3 t4 d e m c w R:=mp (stepL (X:=X) [eL0] (pth [0,1,1,1,2]) P0)
theorem ok (k:Option Nat) (b c d:Int) (e:Sl) (w:World) (R:Post) (h:nwV w (.cells #[.i b,.int .u8 c,.int .u8 d,e.v] ty_regex_Regex) fun m=>
 nwV m (.cells #[.i 0,.int .u8 0,.int .u8 0,.slice none 0 0] ty_regex_Regex) fun a=>
 ∃l:Int,a.cell? ((nb w).add 0)=some (.i l)∧
 ∃g:Int,a.cell? ((nb w).add 1)=some (.int .u8 g)∧
 ∃j:Int,a.cell? ((nb w).add 2)=some (.int .u8 j)∧
 nwV a (.cells #[.i 0,.int .u8 0,.int .u8 0,.slice none 0 0] ty_regex_Regex) fun p=>
 stW4 p (nb a) (.i l) (.int .u8 g) (.int .u8 j) (.slice none 0 0) fun o=>∃f:Sl,o.cell? ((nb w).add 3)=some (f.v)∧
 L0 k (nb w) (nb m) (nb a) f ((f.n:Nat):Int) 0 o R):Calls Tryz.prog n_regex_normal #[.map k,.agg #[.i b,.int .u8 c,.int .u8 d,e.v]] w R:=callsX X [eL0] h
end regex_normal
end Go.Proofs.YtcifihepfadgfaaGreatDoor
set_option linter.unusedVariables false
set_option maxRecDepth 100000
set_option maxHeartbeats 2000000
namespace Go.Proofs.YtcifihepfadgfaaGreatDoor
open Go Go.W
namespace regex_forms
noncomputable def C0:Code:=(Tryz.f150.body).getD .skip
noncomputable def C1:=C0.sn
noncomputable def C2:=C1.sn
noncomputable def C3:=C2.sn
noncomputable def C4:=C3.sn
noncomputable def C5:=C4.sn
noncomputable def C6:=C5.sn
theorem ok (w:World) (R:Post) (h:nwV w (.cells #[.i 0,.int .u8 0,.int .u8 0,.slice none 0 0] ty_regex_Regex) fun e=>
 nwV e (.cells #[.i 0,.int .u8 0,.int .u8 0,.slice none 0 0] ty_regex_Regex) fun p=>
 stW4 p (nb w) (.i 0) (.int .u8 0) (.int .u8 0) (.slice none 0 0) fun q=>stV q (nb e) (.i 1) fun r=>
 stV r ((nb e).add 1) (.int .u8 0) fun s=>
 stV s ((nb e).add 2) (.int .u8 0) fun t=>
 stV t ((nb e).add 3) (.slice none 0 0) fun d=>
 ld4_0 d (nb w) fun f g j k=>nwV d (.cells #[.i f,.int .u8 g,.int .u8 j,k.v] ty_regex_Regex) fun l=>
 nwV l (.cells #[.i 0,.int .u8 0,.int .u8 0,.slice none 0 0] ty_regex_Regex) fun m=>
 stW4 m (nb l) (.i 6) (.int .u8 0) (.int .u8 0) (.slice (some (nb d)) 1 1) fun n=>siK Tryz.prog C5 (fun E w=>retVC Tryz.prog Tryz.f150 E w (fun v=>R (.returned v) w)) [(5,.func (.func n_regex_forms_2) #[] #[]),(4,.func (.func n_regex_forms_1) #[] #[]),(3,.pointer (some (nb l))),(10,.agg #[.i 6,.int .u8 0,.int .u8 0,.slice (some (nb d)) 1 1]),(9,.slice (some (nb d)) 1 1),(8,.agg #[.i f,.int .u8 g,.int .u8 j,k.v]),(2,.pointer (some (nb e))),(1,.pointer (some (nb w))),(7,.agg #[.i 1,.int .u8 0,.int .u8 0,.slice none 0 0]),(6,.agg #[.i 0,.int .u8 0,.int .u8 0,.slice none 0 0]),(0,.map none)] n):Calls Tryz.prog n_regex_forms #[] w R:=
 calls_of_WP' (R:=R) (fn:=Tryz.f150) (c:=C0) (args:=[]) (by kernel_rfl) (by kernel_rfl) (by kernel_rfl) (sr C0 (show (fun (E:Env) (w:World)=>srK Tryz.prog C0 (fun E w=>srK Tryz.prog C1 (fun E w=>srK Tryz.prog C2 (fun E w=>srK Tryz.prog C3 (fun E w=>srK Tryz.prog C4 (fun E w=>siK Tryz.prog C5 (fun E w=>retVC Tryz.prog Tryz.f150 E w (fun v=>R (.returned v) w)) E w) E w) E w) E w) E w) E w) (envOf 0 []) w from mp h) fun _ _ b=>(sr C1 b fun _ _ b=>(sr C2 b fun _ _ b=>(sr C3 b fun _ _ b=>(sr C4 b fun _ _ b=>(si C5 (by kernel_rfl) b fun _ _ b=>(rt C6 fun a o=>retVC_sound o b)))))))
end regex_forms
end Go.Proofs.YtcifihepfadgfaaGreatDoor
set_option linter.unusedVariables false
set_option maxRecDepth 100000
set_option maxHeartbeats 2000000
namespace Go.Proofs.YtcifihepfadgfaaGreatDoor
open Go Go.W
namespace math_bits_Len64
noncomputable abbrev X:Fx:=⟨Tryz.prog,Tryz.f209,[],[]⟩
abbrev P0:Ps:=[(0,.v [.U]),(2,.v [.I])]
abbrev S2 (b c:Int) (w:World) (R:Post):Prop:=
 (0:Int)≤(IntKind.wrap .u8 b)∧∃a:UInt8,(ByteArray.mk #[0,1,2,2,3,3,3,3,4,4,4,4,4,4,4,4,5,5,5,5,5,5,5,5,5,5,5,5,5,5,5,5,6,6,6,6,6,6,6,6,6,6,6,6,6,6,6,6,6,6,6,6,6,6,6,6,6,6,6,6,6,6,6,6,7,7,7,7,7,7,7,7,7,7,7,7,7,7,7,7,7,7,7,7,7,7,7,7,7,7,7,7,7,7,7,7,7,7,7,7,7,7,7,7,7,7,7,7,7,7,7,7,7,7,7,7,7,7,7,7,7,7,7,7,7,7,7,7,8,8,8,8,8,8,8,8,8,8,8,8,8,8,8,8,8,8,8,8,8,8,8,8,8,8,8,8,8,8,8,8,8,8,8,8,8,8,8,8,8,8,8,8,8,8,8,8,8,8,8,8,8,8,8,8,8,8,8,8,8,8,8,8,8,8,8,8,8,8,8,8,8,8,8,8,8,8,8,8,8,8,8,8,8,8,8,8,8,8,8,8,8,8,8,8,8,8,8,8,8,8,8,8,8,8,8,8,8,8,8,8,8,8,8,8,8,8,8,8,8,8,8,8,8,8,8,8])[Int.toNat (IntKind.wrap .u8 b)]? =some a∧R (.returned (.i (IntKind.wrap .i64 (c+(IntKind.wrap .i64 ((a.toNat:Nat):Int)))))) w
noncomputable def eS2:=entS X [] (pth [4]) P0 S2
abbrev S1 (a b:Int) (w:World) (R:Post):Prop:=
 sel (decide (a≥256)) (S2 (Int.fdiv a (2^(8))) (IntKind.wrap .i64 (b+8)) w R) (S2 a b w R)
noncomputable def eS1:=entS X [eS2] (pth [3]) P0 S1
abbrev S0 (a b:Int) (w:World) (R:Post):Prop:=
 sel (decide (a≥65536)) (S1 (Int.fdiv a (2^(16))) (IntKind.wrap .i64 (b+16)) w R) (S1 a b w R)
noncomputable def eS0:=entS X [eS1,eS2] (pth [2]) P0 S0
theorem ok (a:Int) (w:World) (R:Post) (h:sel (decide (a≥4294967296)) (S0 (Int.fdiv a (2^(32))) 32 w R) (S0 a 0 w R)):Calls Tryz.prog n_math_bits_Len64 #[.u a] w R:=callsX X [eS0,eS1,eS2] h
end math_bits_Len64
namespace math_bits_Len
noncomputable abbrev X:Fx:=⟨Tryz.prog,Tryz.f191,[],[]⟩
theorem ok (a:Int) (w:World) (R:Post) (h:ca1 n_math_bits_Len64 #[.u a] w fun b c=>R (.returned (.i b)) c):Calls Tryz.prog n_math_bits_Len #[.u a] w R:=callsX X [] h
end math_bits_Len
namespace slices_insertionSortCmpFunc_regex_Regex
noncomputable abbrev X:Fx:=⟨Tryz.prog,Tryz.f200,[(4,ls [0,1,2,3,4,5,6,7,8,9,10,11,12,13,14,15,16]),(6,ls [0,1,2,3,4,5,6,7,8,9,10,11,12,13,14,15,16,17])],[]⟩
abbrev P0:Ps:=[(0,.v [.s]),(1,.v [.I]),(2,.v [.I]),(3,.v [.g n_regex_Compare 0 0]),(8,.v [.I])]
def L0 (a:Sl) (b c d:Int) (w:World) (R:Post):Prop:=mkCur P0 0 (X.Sem (pth [0,1,1])) a b c d w R
noncomputable def eL0:=entL X (pth [0,1,1]) P0 L0
abbrev P1:Ps:=[(0,.v [.s]),(1,.v [.I]),(2,.v [.I]),(3,.v [.g n_regex_Compare 0 0]),(8,.v [.I]),(9,.v [.I])]
def L1 (a:Sl) (b c d e:Int) (w:World) (R:Post):Prop:=mkCur P1 0 (X.Sem (pth [0,1,1,2,1,2,1])) a b c d e w R
noncomputable def eL1:=entL X (pth [0,1,1,2,1,2,1]) P1 L1
abbrev S2 (a:Sl) (b c d:Int) (w:World) (R:Post):Prop:=
 L0 a b c (IntKind.wrap .i64 (d+1)) w R
noncomputable def eS2:=entS X [eL1,eL0] (pth [2,2,1]) P0 S2
theorem L1_step:∀(b:Sl) (d e f c:Int) (w:World) (R:Post) (h:drV w fun w1=>sel (decide (c>d)) ((0:Int)≤c∧c<((b.n:Nat):Int)∧optP b.a fun g=>ld4_0 w1 (g.add (Int.toNat c *4)) fun j k l m=>(0:Int)≤(IntKind.wrap .i64 (c - 1))∧(IntKind.wrap .i64 (c - 1))<((b.n:Nat):Int)∧optP b.a fun o=>ld4_0 w1 (o.add (Int.toNat (IntKind.wrap .i64 (c - 1)) *4)) fun p q r s=>ca1 n_regex_Compare #[.agg #[.i j,.int .u8 k,.int .u8 l,m.v],.agg #[.i p,.int .u8 q,.int .u8 r,s.v]] w1 fun aj w2=>sel (decide (aj<0)) (drV w2 fun w3=>(0:Int)≤(IntKind.wrap .i64 (c - 1))∧(IntKind.wrap .i64 (c - 1))<((b.n:Nat):Int)∧optP b.a fun t=>ld4_0 w3 (t.add (Int.toNat (IntKind.wrap .i64 (c - 1)) *4)) fun u x y z=>(0:Int)≤c∧c<((b.n:Nat):Int)∧optP b.a fun aa=>ld4_0 w3 (aa.add (Int.toNat c *4)) fun ab ac ad ae=>(0:Int)≤c∧c<((b.n:Nat):Int)∧optP b.a fun af=>stW4 w3 (af.add (Int.toNat c *4)) (.i u) (.int .u8 x) (.int .u8 y) (z.v) fun w7=>(0:Int)≤(IntKind.wrap .i64 (c - 1))∧(IntKind.wrap .i64 (c - 1))<((b.n:Nat):Int)∧optP b.a fun ag=>stW4 w7 (ag.add (Int.toNat (IntKind.wrap .i64 (c - 1)) *4)) (.i ab) (.int .u8 ac) (.int .u8 ad) (ae.v) fun ak=>L1 b d e f (IntKind.wrap .i64 (c - 1)) ak R) (S2 b d e f w2 R)) (S2 b d e f w1 R)),L1 b d e f c w R:=mp (stepL (X:=X) [eS2,eL1,eL0] (pth [0,1,1,2,1,2,1]) P1)
theorem L0_step:∀(a:Sl) (d c b:Int) (w:World) (R:Post) (h:sel (decide (b<c)) (L1 a d c b b w R) (R (.returned (.tuple #[])) w)),L0 a d c b w R:=mp (stepL (X:=X) [eS2,eL1,eL0] (pth [0,1,1]) P0)
theorem ok (a:Sl) (b c:Int) (w:World) (R:Post) (h:L0 a b c (IntKind.wrap .i64 (b+1)) w R):Calls Tryz.prog n_slices_insertionSortCmpFunc_regex_Regex #[a.v,.i b,.i c,.func (.func n_regex_Compare) #[] #[]] w R:=callsX X [eS2,eL1,eL0] h
end slices_insertionSortCmpFunc_regex_Regex
namespace slices_pdqsortCmpFunc_regex_Regex
noncomputable abbrev X:Fx:=⟨Tryz.prog,Tryz.f190,[(17,ls [0,1,2,3,4,5,6,7,8,9,10,11,12,13,14,15,16])],[]⟩
abbrev P0:Ps:=[(0,.v [.s]),(1,.v [.I]),(2,.v [.I]),(3,.v [.I]),(4,.v [.g n_regex_Compare 0 0]),(10,.v [.b]),(11,.v [.b])]
def L0 (d:Sl) (e f c:Int) (b a:Bool) (w:World) (R:Post):Prop:=mkCur P0 0 (X.Sem (pth [0,1,2])) d e f c b a w R
noncomputable def eL0:=entL X (pth [0,1,2]) P0 L0
abbrev P1:Ps:=[(0,.v [.s]),(1,.v [.I]),(2,.v [.I]),(3,.v [.I]),(4,.v [.g n_regex_Compare 0 0]),(10,.v [.b]),(11,.v [.b]),(16,.v [.I])]
abbrev S9 (d:Sl) (f g c:Int) (b a:Bool) (e:Int) (w:World) (R:Post):Prop:=
 ca4 n_slices_pdqsortCmpFunc_regex_Regex #[d.v,.i f,.i e,.i c,.func (.func n_regex_Compare) #[] #[]] w fun j=>L0 d (IntKind.wrap .i64 (e+1)) g c b a j R
noncomputable def eS9:=entS X [eL0] (pth [1,1,13,3,2]) P1 S9
abbrev S10 (d:Sl) (f g c:Int) (b a:Bool) (e:Int) (w:World) (R:Post):Prop:=
 ca4 n_slices_pdqsortCmpFunc_regex_Regex #[d.v,.i (IntKind.wrap .i64 (e+1)),.i g,.i c,.func (.func n_regex_Compare) #[] #[]] w fun j=>L0 d f e c b a j R
noncomputable def eS10:=entS X [eS9,eL0] (pth [15,3,2]) P1 S10
abbrev P2:Ps:=[(0,.v [.s]),(1,.v [.I]),(2,.v [.I]),(3,.v [.I]),(4,.v [.g n_regex_Compare 0 0]),(11,.v [.b]),(16,.v [.I]),(18,.v [.I]),(19,.v [.I]),(20,.v [.I])]
abbrev S8 (f:Sl) (i j e:Int) (b:Bool) (g d c a:Int) (w:World) (R:Post):Prop:=
 sel (decide (d<c)) (S9 f i j e (decide (d≥a)) b g w R) (S10 f i j e (decide (c≥a)) b g w R)
noncomputable def eS8:=entS X [eS10,eS9,eL0] (pth [12,3,2]) P2 S8
abbrev P3:Ps:=[(0,.v [.s]),(1,.v [.I]),(2,.v [.I]),(3,.v [.I]),(4,.v [.g n_regex_Compare 0 0]),(11,.v [.b]),(12,.v [.I]),(16,.v [.I]),(18,.v [.I]),(19,.v [.I])]
abbrev S7 (f:Sl) (i j e:Int) (a:Bool) (d g c b:Int) (w:World) (R:Post):Prop:=
 S8 f i j e a g c b (IntKind.wrap .i64 (Int.tdiv d 8)) w R
noncomputable def eS7:=entS X [eS8,eS10,eS9,eL0] (pth [11,3,2]) P3 S7
abbrev P4:Ps:=[(0,.v [.s]),(1,.v [.I]),(2,.v [.I]),(3,.v [.I]),(4,.v [.g n_regex_Compare 0 0]),(12,.v [.I]),(13,.v [.I])]
abbrev S6 (c:Sl) (g j e b d:Int) (w:World) (R:Post):Prop:=
 ca6 n_slices_partitionCmpFunc_regex_Regex #[c.v,.i g,.i j,.i d,.func (.func n_regex_Compare) #[] #[]] w fun a f k=>S7 c g j e f b a (IntKind.wrap .i64 (a - g)) (IntKind.wrap .i64 (j - a)) k R
noncomputable def eS6:=entS X [eS7,eS8,eS10,eS9,eL0] (pth [8,3,2]) P4 S6
abbrev P5:Ps:=[(0,.v [.s]),(1,.v [.I]),(2,.v [.I]),(3,.v [.I]),(4,.v [.g n_regex_Compare 0 0]),(10,.v [.b]),(11,.v [.b]),(12,.v [.I]),(13,.v [.I])]
abbrev S5 (c:Sl) (j k g:Int) (e d:Bool) (f b:Int) (w:World) (R:Post):Prop:=
 drV w fun y=>sel (decide (j>0)) ((0:Int)≤(IntKind.wrap .i64 (j - 1))∧(IntKind.wrap .i64 (j - 1))<((c.n:Nat):Int)∧optP c.a fun l=>ld4_0 y (l.add (Int.toNat (IntKind.wrap .i64 (j - 1)) *4)) fun m o p q=>(0:Int)≤b∧b<((c.n:Nat):Int)∧optP c.a fun r=>ld4_0 y (r.add (Int.toNat b *4)) fun s t u x=>ca1 n_regex_Compare #[.agg #[.i m,.int .u8 o,.int .u8 p,q.v],.agg #[.i s,.int .u8 t,.int .u8 u,x.v]] y fun aa w2=>sel (!(decide (aa<0))) (ca1 n_slices_partitionEqualCmpFunc_regex_Regex #[c.v,.i j,.i k,.i b,.func (.func n_regex_Compare) #[] #[]] w2 fun z w3=>L0 c z k g e d w3 R) (S6 c j k g f b w2 R)) (S6 c j k g f b y R)
noncomputable def eS5:=entS X [eS6,eS7,eS8,eS10,eS9,eL0] (pth [7,3,2]) P5 S5
abbrev P6:Ps:=[(0,.v [.s]),(1,.v [.I]),(2,.v [.I]),(3,.v [.I]),(4,.v [.g n_regex_Compare 0 0]),(10,.v [.b]),(11,.v [.b]),(12,.v [.I]),(13,.v [.I]),(14,.v [.I])]
abbrev S4 (e:Sl) (g j f:Int) (b a:Bool) (c d k:Int) (w:World) (R:Post):Prop:=
 sel b (sel a (sel (k==1) (ca0 n_slices_partialInsertionSortCmpFunc_regex_Regex #[e.v,.i g,.i j,.func (.func n_regex_Compare) #[] #[]] w fun l m=>sel l (R (.returned (.tuple #[])) m) (S5 e g j f b a c d m R)) (S5 e g j f b a c d w R)) (S5 e g j f b a c d w R)) (S5 e g j f b a c d w R)
noncomputable def eS4:=entS X [eS5,eS6,eS7,eS8,eS10,eS9,eL0] (pth [6,3,2]) P6 S4
abbrev S3 (f:Sl) (g i e:Int) (b a:Bool) (c d:Int) (w:World) (R:Post):Prop:=
 S4 f g i e b a c d 1 w R
noncomputable def eS3:=entS X [eS4,eS5,eS6,eS7,eS8,eS10,eS9,eL0] (pth [2,1,1,1,5,3,2]) P5 S3
abbrev P7:Ps:=[(0,.v [.s]),(1,.v [.I]),(2,.v [.I]),(3,.v [.I]),(4,.v [.g n_regex_Compare 0 0]),(10,.v [.b]),(11,.v [.b]),(12,.v [.I])]
abbrev S2 (c:Sl) (j k e:Int) (b a:Bool) (d:Int) (w:World) (R:Post):Prop:=
 ca5 n_slices_choosePivotCmpFunc_regex_Regex #[c.v,.i j,.i k,.func (.func n_regex_Compare) #[] #[]] w fun f g l=>sel (g==2) (ca4 n_slices_reverseRangeCmpFunc_regex_Regex #[c.v,.i j,.i k,.func (.func n_regex_Compare) #[] #[]] l fun m=>S3 c j k e b a d (IntKind.wrap .i64 ((IntKind.wrap .i64 (k - 1)) - (IntKind.wrap .i64 (f - j)))) m R) (S4 c j k e b a d f g l R)
noncomputable def eS2:=entS X [eS3,eS4,eS5,eS6,eS7,eS8,eS10,eS9,eL0] (pth [4,3,2]) P7 S2
abbrev S1 (d:Sl) (f g e:Int) (a b:Bool) (c:Int) (w:World) (R:Post):Prop:=
 sel (decide (c≤12)) (ca4 n_slices_insertionSortCmpFunc_regex_Regex #[d.v,.i f,.i g,.func (.func n_regex_Compare) #[] #[]] w fun j=>R (.returned (.tuple #[])) j) (sel (e==0) (ca4 n_slices_heapSortCmpFunc_regex_Regex #[d.v,.i f,.i g,.func (.func n_regex_Compare) #[] #[]] w fun k=>R (.returned (.tuple #[])) k) (sel (!a) (ca4 n_slices_breakPatternsCmpFunc_regex_Regex #[d.v,.i f,.i g,.func (.func n_regex_Compare) #[] #[]] w fun l=>S2 d f g (IntKind.wrap .i64 (e - 1)) a b c l R) (S2 d f g e a b c w R)))
noncomputable def eS1:=entS X [eS2,eS3,eS4,eS5,eS6,eS7,eS8,eS10,eS9,eL0] (pth [1,3,2]) P7 S1
theorem L0_step:∀(d:Sl) (e f c:Int) (b a:Bool) (w:World) (R:Post) (h:S1 d e f c b a (IntKind.wrap .i64 (f - e)) w R),L0 d e f c b a w R:=mp (stepL (X:=X) [eS1,eS2,eS3,eS4,eS5,eS6,eS7,eS8,eS10,eS9,eL0] (pth [0,1,2]) P0)
theorem ok (b:Sl) (c d a:Int) (w:World) (R:Post) (h:L0 b c d a true true w R):Calls Tryz.prog n_slices_pdqsortCmpFunc_regex_Regex #[b.v,.i c,.i d,.i a,.func (.func n_regex_Compare) #[] #[]] w R:=callsX X [eS1,eS2,eS3,eS4,eS5,eS6,eS7,eS8,eS10,eS9,eL0] h
end slices_pdqsortCmpFunc_regex_Regex
namespace slices_SortFunc_sl_regex_Regex_regex_Regex
noncomputable abbrev X:Fx:=⟨Tryz.prog,Tryz.f174,[],[]⟩
theorem ok (a:Sl) (w:World) (R:Post) (h:ca1 n_math_bits_Len #[.u (IntKind.wrap .u64 ((a.n:Nat):Int))] w fun b c=>ca4 n_slices_pdqsortCmpFunc_regex_Regex #[a.v,.i 0,.i ((a.n:Nat):Int),.i b,.func (.func n_regex_Compare) #[] #[]] c fun d=>R (.returned (.tuple #[])) d):Calls Tryz.prog n_slices_SortFunc_sl_regex_Regex_regex_Regex #[a.v,.func (.func n_regex_Compare) #[] #[]] w R:=callsX X [] h
end slices_SortFunc_sl_regex_Regex_regex_Regex
end Go.Proofs.YtcifihepfadgfaaGreatDoor
set_option linter.unusedVariables false
set_option maxRecDepth 100000
set_option maxHeartbeats 2000000
namespace Go.Proofs.YtcifihepfadgfaaGreatDoor
open Go Go.W
namespace enthymemeref04_Compare
noncomputable abbrev X:Fx:=⟨Tryz.prog,Tryz.f140,[(6,ls [0,1,2,3,4,5,6,7,8]),(8,ls [0,1,2,3,4,5,6,7,8]),(13,ls [0,1,2,3,4,5,6,7,8,9,10,11])],[2,3]⟩
abbrev P0:Ps:=[(2,.l [.I,.Y,.Y,.s] ty_enthymemeref04_Regex),(3,.l [.I,.Y,.Y,.s] ty_enthymemeref04_Regex),(5,.v [.s]),(6,.v [.s]),(7,.v [.I])]
def L0T (j:Nat) (a b c:Int) (d:Sl) (k:Nat) (e f g:Int) (i m n:Sl) (l:Int) (w:World) (R:Post):Prop:=mkCur P0 0 (X.Sem (pth [0,1,1,1,3])) j a b c d k e f g i m n l w R
noncomputable def eL0:=entL X (pth [0,1,1,1,3]) P0 L0T
abbrev P1:Ps:=[(2,.l [.I,.Y,.Y,.s] ty_enthymemeref04_Regex),(3,.l [.I,.Y,.Y,.s] ty_enthymemeref04_Regex),(8,.v [.I])]
def L1T (j:Nat) (a b c:Int) (d:Sl) (k:Nat) (e f g:Int) (i:Sl) (l:Int) (w:World) (R:Post):Prop:=mkCur P1 0 (X.Sem (pth [0,1,1,1,4])) j a b c d k e f g i l w R
noncomputable def eL1:=entL X (pth [0,1,1,1,4]) P1 L1T
abbrev P2:Ps:=[(2,.l [.I,.Y,.Y,.s] ty_enthymemeref04_Regex),(3,.l [.I,.Y,.Y,.s] ty_enthymemeref04_Regex)]
abbrev S2T (k:Nat) (c d e:Int) (a:Sl) (l:Nat) (f g j:Int) (b:Sl) (w:World) (R:Post):Prop:=
 sel (decide (((a.n:Nat):Int)<((b.n:Nat):Int))) (R (.returned (.i (-1))) w) (sel (decide (((a.n:Nat):Int)>((b.n:Nat):Int))) (R (.returned (.i 1)) w) (R (.returned (.i 0)) w))
noncomputable def eS2:=entS X [eL1,eL0] (pth [5]) P2 S2T
theorem L1T_step:∀(m:Nat) (e f g:Int) (b:Sl) (o:Nat) (j k l:Int) (c:Sl) (d:Int) (w:World) (R:Post) (h:sel (decide (d<((b.n:Nat):Int))) (sel (decide (d<((c.n:Nat):Int))) ((0:Int)≤d∧d<((b.n:Nat):Int)∧optP b.a fun p=>loc [m,o] w fun w7=>ld4_0 w7 (p.add (Int.toNat d *4)) fun q r s t=>(0:Int)≤d∧d<((c.n:Nat):Int)∧optP c.a fun u=>ld4_0 w7 (u.add (Int.toNat d *4)) fun x y z aa=>cf1 [m,o] n_enthymemeref04_Compare #[.agg #[.i q,.int .u8 r,.int .u8 s,t.v],.agg #[.i x,.int .u8 y,.int .u8 z,aa.v]] w7 fun ab w8=>sel (ab !=0) (R (.returned (.i ab)) w8) (L1T m e f g b o j k l c (IntKind.wrap .i64 (d+1)) w8 R)) (S2T m e f g b o j k l c w R)) (S2T m e f g b o j k l c w R)),L1T m e f g b o j k l c d w R:=mp (stepL (X:=X) [eS2,eL1,eL0] (pth [0,1,1,1,4]) P1)
theorem L0T_step:∀(p:Nat) (c d e:Int) (f:Sl) (q:Nat) (g j k:Int) (l m o:Sl) (b:Int) (w:World) (R:Post) (h:sel (decide (b<3)) ((0:Int)≤b∧b<((m.n:Nat):Int)∧optP m.a fun r=>loc [p,q] w fun v=>∃y:Int,v.cell? (r.add (Int.toNat b *1))=some (.i y)∧
 (0:Int)≤b∧b<((o.n:Nat):Int)∧optP o.a fun s=>∃z:Int,v.cell? (s.add (Int.toNat b *1))=some (.i z)∧
 sel (decide (y<z)) (R (.returned (.i (-1))) v) ((0:Int)≤b∧b<((m.n:Nat):Int)∧optP m.a fun t=>loc [p,q] v fun x=>∃aa:Int,x.cell? (t.add (Int.toNat b *1))=some (.i aa)∧
 (0:Int)≤b∧b<((o.n:Nat):Int)∧optP o.a fun u=>∃ab:Int,x.cell? (u.add (Int.toNat b *1))=some (.i ab)∧
 sel (decide (aa>ab)) (R (.returned (.i 1)) x) (L0T p c d e f q g j k l m o (IntKind.wrap .i64 (b+1)) x R))) (L1T p c d e f q g j k l 0 w R)),L0T p c d e f q g j k l m o b w R:=mp (stepL (X:=X) [eS2,eL1,eL0] (pth [0,1,1,1,3]) P0)
theorem okT (a b c:Int) (g:Sl) (d e f:Int) (j:Sl) (w:World) (R:Post) (h:newV [] w fun k o=>
 newV [k] o fun n l=>
 nwV l (.cells #[.i a,.i (IntKind.wrap .i64 b),.i (IntKind.wrap .i64 c)] ty_int) fun m=>
 nwV m (.cells #[.i d,.i (IntKind.wrap .i64 e),.i (IntKind.wrap .i64 f)] ty_int) fun p=>
 L0T k a b c g n d e f j ⟨some (nb l),3,3⟩ ⟨some (nb m),3,3⟩ 0 p R):Calls Tryz.prog n_enthymemeref04_Compare #[.agg #[.i a,.int .u8 b,.int .u8 c,g.v],.agg #[.i d,.int .u8 e,.int .u8 f,j.v]] w R:=callsX X [eS2,eL1,eL0] h
end enthymemeref04_Compare
end Go.Proofs.YtcifihepfadgfaaGreatDoor
set_option linter.unusedVariables false
set_option maxRecDepth 100000
set_option maxHeartbeats 2000000
namespace Go.Proofs.YtcifihepfadgfaaGreatDoor
open Go Go.W
namespace enthymemeref04_Nodes
noncomputable abbrev X:Fx:=⟨Tryz.prog,Tryz.f122,[],[1]⟩
abbrev P0:Ps:=[(1,.l [.I,.Y,.Y,.s] ty_enthymemeref04_Regex),(3,.v [.I]),(4,.v [.I])]
def L0T (g:Nat) (a b c:Int) (d:Sl) (f e:Int) (w:World) (R:Post):Prop:=mkCur P0 0 (X.Sem (pth [0,1,1,1,2])) g a b c d f e w R
noncomputable def eL0:=entL X (pth [0,1,1,1,2]) P0 L0T
abbrev S1T (g:Nat) (a b c:Int) (d:Sl) (f e:Int) (w:World) (R:Post):Prop:=
 L0T g a b c d f (IntKind.wrap .i64 (e+1)) w R
noncomputable def eS1:=entS X [eL0] (pth [2,2,1,1,2]) P0 S1T
theorem L0T_step:∀(p:Nat) (d e f:Int) (b:Sl) (o c:Int) (w:World) (R:Post) (h:sel (decide (c<((b.n:Nat):Int))) ((0:Int)≤c∧c<((b.n:Nat):Int)∧optP b.a fun g=>ld4_0 w (g.add (Int.toNat c *4)) fun j k l m=>cf1 [p] n_enthymemeref04_Nodes #[.agg #[.i j,.int .u8 k,.int .u8 l,m.v]] w fun q r=>S1T p d e f b (IntKind.wrap .i64 (o+q)) c r R) (R (.returned (.i o)) w)),L0T p d e f b o c w R:=mp (stepL (X:=X) [eS1,eL0] (pth [0,1,1,1,2]) P0)
theorem okT (a b c:Int) (d:Sl) (w:World) (R:Post) (h:newV [] w fun e f=>
 L0T e a b c d 1 0 f R):Calls Tryz.prog n_enthymemeref04_Nodes #[.agg #[.i a,.int .u8 b,.int .u8 c,d.v]] w R:=callsX X [eS1,eL0] h
end enthymemeref04_Nodes
namespace enthymemeref04_good
noncomputable abbrev X:Fx:=⟨Tryz.prog,Tryz.f137,[(3,ls [0,1,2,3,4,5,6,7,8,9,10,11,12,13,14,15,16,17,18,19,20,21,22,23,24,25,26,27,28,29])],[1]⟩
abbrev P0:Ps:=[]
abbrev S0T (w:World) (R:Post):Prop:=
 R (.returned (.bool false)) w
noncomputable def eS0:=entS X [] (pth [0,1,1,1,3]) P0 S0T
abbrev S1T (w:World) (R:Post):Prop:=
 R (.returned (.bool false)) w
noncomputable def eS1:=entS X [eS0] (pth [0,1,1,1,4]) P0 S1T
abbrev P1:Ps:=[(1,.l [.I,.Y,.Y,.s] ty_enthymemeref04_Regex),(5,.v [.I])]
def L3T (f:Nat) (a b c:Int) (d:Sl) (e:Int) (w:World) (R:Post):Prop:=mkCur P1 0 (X.Sem (pth [0,1,1,1,5])) f a b c d e w R
noncomputable def eL3:=entL X (pth [0,1,1,1,5]) P1 L3T
theorem L3T_step:∀(o:Nat) (d e f:Int) (b:Sl) (c:Int) (w:World) (R:Post) (h:sel (decide (c<((b.n:Nat):Int))) ((0:Int)≤c∧c<((b.n:Nat):Int)∧optP b.a fun g=>ld4_0 w (g.add (Int.toNat c *4)) fun j k l m=>cf0 [o] n_enthymemeref04_good #[.agg #[.i j,.int .u8 k,.int .u8 l,m.v]] w fun p q=>sel (!p) (R (.returned (.bool false)) q) (L3T o d e f b (IntKind.wrap .i64 (c+1)) q R)) (R (.returned (.bool true)) w)),L3T o d e f b c w R:=mp (stepL (X:=X) [eL3,eS1,eS0] (pth [0,1,1,1,5]) P1)
abbrev P2:Ps:=[(1,.l [.I,.Y,.Y,.s] ty_enthymemeref04_Regex)]
abbrev S2T (e:Nat) (a b c:Int) (d:Sl) (w:World) (R:Post):Prop:=
 L3T e a b c d 0 w R
noncomputable def eS2:=entS X [eL3,eS1,eS0] (pth [5]) P2 S2T
theorem okT (a e c:Int) (d:Sl) (w:World) (R:Post) (h:newV [] w fun f o=>
 nwV o (.cells #[.i 0,.i 0,.i 0,.i 64,.i 64,.i 64,.i 1,.i 1] ty_int) fun p=>
 nwV p (.cells #[.i 0,.i 0,.i 0,.i 0,.i 0,.i 0,.i 1,.i 1] ty_int) fun m=>
 sel (decide (a<0)) (loc [f] m fun b=>S0T b R) (sel (decide (a>7)) (loc [f] m fun b=>S0T b R) ((0:Int)≤a∧a<((8:Nat):Int)∧optP (some (nb p)) fun g=>loc [f] m fun b=>∃k:Int,b.cell? (g.add (Int.toNat a *1))=some (.i k)∧
 sel (decide (((d.n:Nat):Int)<k)) (S0T b R) ((0:Int)≤a∧a<((8:Nat):Int)∧optP (some (nb o)) fun j=>∃l:Int,b.cell? (j.add (Int.toNat a *1))=some (.i l)∧
 sel (decide (((d.n:Nat):Int)>l)) (S0T b R) (sel (decide (e>c)) (S1T b R) (sel (a !=2) (sel (decide (c>0)) (S1T b R) (S2T f a e c d b R)) (S2T f a e c d b R))))))):Calls Tryz.prog n_enthymemeref04_good #[.agg #[.i a,.int .u8 e,.int .u8 c,d.v]] w R:=callsX X [eS2,eL3,eS1,eS0] h
end enthymemeref04_good
namespace enthymemeref04_Valid
noncomputable abbrev X:Fx:=⟨Tryz.prog,Tryz.f123,[],[1]⟩
theorem okT (a b c:Int) (d:Sl) (w:World) (R:Post) (h:newV [] w fun e l=>
 cf1 [e] n_enthymemeref04_Nodes #[.agg #[.i a,.int .u8 b,.int .u8 c,d.v]] l fun j f=>sel (decide (j>64)) (R (.returned (.i 4)) f) (cf0 [e] n_enthymemeref04_good #[.agg #[.i a,.int .u8 b,.int .u8 c,d.v]] f fun k g=>sel (!k) (R (.returned (.i 1)) g) (R (.returned (.i 0)) g))):Calls Tryz.prog n_enthymemeref04_Valid #[.agg #[.i a,.int .u8 b,.int .u8 c,d.v]] w R:=callsX X [] h
end enthymemeref04_Valid
end Go.Proofs.YtcifihepfadgfaaGreatDoor
set_option linter.unusedVariables false
set_option maxRecDepth 100000
set_option maxHeartbeats 2000000
namespace Go.Proofs.YtcifihepfadgfaaGreatDoor
open Go Go.W
namespace enthymemeref04_Everything
noncomputable abbrev X:Fx:=⟨Tryz.prog,Tryz.f106,[],[0]⟩
theorem okT (w:World) (R:Post) (h:newV [] w fun b a=>
 nwV a (.cells #[.i 0,.int .u8 0,.int .u8 0,.slice none 0 0] ty_enthymemeref04_Regex) fun c=>
 loc [b] c fun d=>R (.returned (.agg #[.i 6,.int .u8 0,.int .u8 0,.slice (some (nb a)) 1 1])) d):Calls Tryz.prog n_enthymemeref04_Everything #[] w R:=callsX X [] h
end enthymemeref04_Everything
namespace enthymemeref04_put
noncomputable abbrev X:Fx:=⟨Tryz.prog,Tryz.f141,[(2,ls [0,1,2,3,4,5,6,7,8,9,10,11,12]),(4,ls [0,1,2,3,4,5,6,7,8,9,10,11,12]),(7,(.sq [0,1,2,3,5] (.fork (ls [4,6,7,8]) (ls [6,4,7,8]))))],[3]⟩
abbrev P0:Ps:=[(0,.v [.s]),(3,.l [.I,.Y,.Y,.s] ty_enthymemeref04_Regex),(5,.v [.I])]
def L0T (f:Sl) (g:Nat) (a b c:Int) (d:Sl) (e:Int) (w:World) (R:Post):Prop:=mkCur P0 0 (X.Sem (pth [0,2,2])) f g a b c d e w R
noncomputable def eL0:=entL X (pth [0,2,2]) P0 L0T
abbrev P1:Ps:=[(0,.v [.s]),(5,.v [.I]),(6,.v [.s])]
abbrev S3T (d:Sl) (b:Int) (f:Sl) (w:World) (R:Post):Prop:=
 (0:Int)≤b∧b≤((d.n:Nat):Int)∧∃(e:Sl) (g:World),Sem.run Tryz.prog (Builtin.append_ #[ty_sl_enthymemeref04_Regex,ty_sl_enthymemeref04_Regex] ty_sl_enthymemeref04_Regex #[f.v,.slice (if d.c=(Int.toNat b) then d.a else d.a.map (·.add ((Int.toNat b) *4))) (d.n - (Int.toNat b)) (d.c - (Int.toNat b))]) w=.ok (e.v) g∧R (.returned (e.v)) g
noncomputable def eS3:=entS X [eL0] (pth [6]) P1 S3T
abbrev S2T (b:Sl) (g:Nat) (j k l:Int) (m:Sl) (f:Int) (w:World) (R:Post):Prop:=
 (0:Int)≤f∧f≤((b.c:Nat):Int)∧((loc [g] w fun n=>∃(q:Sl) (o:World),Sem.run Tryz.prog (Builtin.append_ #[ty_sl_enthymemeref04_Regex,ty_sl_enthymemeref04_Regex] ty_sl_enthymemeref04_Regex #[.slice none 0 0,.slice (if b.c=0 then b.a else b.a.map (·.add (0 *4))) ((Int.toNat f) - 0) (b.c - 0)]) n=.ok (q.v) o∧kept [g] n o∧nwV o (.cells #[.i j,.int .u8 k,.int .u8 l,m.v] ty_enthymemeref04_Regex) fun u=>
 ∃(r:Sl) (s:World),Sem.run Tryz.prog (Builtin.append_ #[ty_sl_enthymemeref04_Regex,ty_sl_enthymemeref04_Regex] ty_sl_enthymemeref04_Regex #[q.v,.slice (some (nb o)) 1 1]) u=.ok (r.v) s∧kept [g] u s∧S3T b f r s R)∧(loc [g] w fun n=>nwV n (.cells #[.i j,.int .u8 k,.int .u8 l,m.v] ty_enthymemeref04_Regex) fun x=>
 ∃(d:Sl) (p:World),Sem.run Tryz.prog (Builtin.append_ #[ty_sl_enthymemeref04_Regex,ty_sl_enthymemeref04_Regex] ty_sl_enthymemeref04_Regex #[.slice none 0 0,.slice (if b.c=0 then b.a else b.a.map (·.add (0 *4))) ((Int.toNat f) - 0) (b.c - 0)]) x=.ok (d.v) p∧kept [g] x p∧∃(e:Sl) (t:World),Sem.run Tryz.prog (Builtin.append_ #[ty_sl_enthymemeref04_Regex,ty_sl_enthymemeref04_Regex] ty_sl_enthymemeref04_Regex #[d.v,.slice (some (nb n)) 1 1]) p=.ok (e.v) t∧kept [g] p t∧S3T b f e t R))
noncomputable def eS2:=entS X [eS3,eL0] (pth [4]) P0 S2T
abbrev S1T (g:Sl) (j:Nat) (b c d:Int) (e:Sl) (f:Int) (w:World) (R:Post):Prop:=
 sel (decide (f<((g.n:Nat):Int))) ((0:Int)≤f∧f<((g.n:Nat):Int)∧optP g.a fun k=>loc [j] w fun q=>ld4_0 q (k.add (Int.toNat f *4)) fun l m o p=>cf1 [j] n_enthymemeref04_Compare #[.agg #[.i l,.int .u8 m,.int .u8 o,p.v],.agg #[.i b,.int .u8 c,.int .u8 d,e.v]] q fun r s=>sel (r==0) (R (.returned (g.v)) s) (S2T g j b c d e f s R)) (loc [j] w fun q=>S2T g j b c d e f q R)
noncomputable def eS1:=entS X [eS2,eS3,eL0] (pth [3]) P0 S1T
theorem L0T_step:∀(g:Sl) (j:Nat) (b c d:Int) (e:Sl) (f:Int) (w:World) (R:Post) (h:sel (decide (f<((g.n:Nat):Int))) ((0:Int)≤f∧f<((g.n:Nat):Int)∧optP g.a fun k=>loc [j] w fun q=>ld4_0 q (k.add (Int.toNat f *4)) fun l m o p=>cf1 [j] n_enthymemeref04_Compare #[.agg #[.i l,.int .u8 m,.int .u8 o,p.v],.agg #[.i b,.int .u8 c,.int .u8 d,e.v]] q fun r s=>sel (decide (r<0)) (L0T g j b c d e (IntKind.wrap .i64 (f+1)) s R) (S1T g j b c d e f s R)) (loc [j] w fun q=>S1T g j b c d e f q R)),L0T g j b c d e f w R:=mp (stepL (X:=X) [eS1,eS2,eS3,eL0] (pth [0,2,2]) P0)
theorem okT (e:Sl) (a b c:Int) (d:Sl) (w:World) (R:Post) (h:newV [] w fun f g=>
 L0T e f a b c d 0 g R):Calls Tryz.prog n_enthymemeref04_put #[e.v,.agg #[.i a,.int .u8 b,.int .u8 c,d.v]] w R:=callsX X [eS1,eS2,eS3,eL0] h
end enthymemeref04_put
namespace enthymemeref04_normal
noncomputable abbrev X:Fx:=⟨Tryz.prog,Tryz.f129,[(9,ls [0,1,2,3,4,5,6,7,8,9,10,11,12]),(25,ls [0,1,2,3,4,5,6]),(27,ls [0,1,2,3,4,5,6])],[4,5,8,9]⟩
abbrev P0:Ps:=[(1,.v [.s]),(4,.l [.I,.Y,.Y,.s] ty_enthymemeref04_Regex)]
abbrev S0T (b:Sl) (j:Nat) (k l m:Int) (o:Sl) (w:World) (R:Post):Prop:=
 (0:Int)≤0∧0<((b.n:Nat):Int)∧optP b.a fun c=>ld4_0 w (c.add (Int.toNat 0 *4)) fun d e f g=>loc [j] w fun p=>R (.returned (.agg #[.i d,.int .u8 e,.int .u8 f,g.v])) p
noncomputable def eS0:=entS X [] (pth [0,1,1,1,1,1,1,1,3]) P0 S0T
abbrev P1:Ps:=[(0,.v [.I]),(1,.v [.s]),(4,.l [.I,.Y,.Y,.s] ty_enthymemeref04_Regex),(5,.l [.I,.Y,.Y,.s] ty_enthymemeref04_Regex),(6,.v [.s]),(7,.v [.I])]
def L1T (g:Int) (f:Sl) (o:Nat) (j k l:Int) (m:Sl) (i:Nat) (a b c:Int) (d e:Sl) (n:Int) (w:World) (R:Post):Prop:=mkCur P1 0 (X.Sem (pth [0,1,1,1,5])) g f o j k l m i a b c d e n w R
noncomputable def eL1:=entL X (pth [0,1,1,1,5]) P1 L1T
abbrev S2T (g:Int) (f:Sl) (o:Nat) (j k l:Int) (m:Sl) (i:Nat) (a b c:Int) (d e:Sl) (n:Int) (w:World) (R:Post):Prop:=
 L1T g f o j k l m i a b c d e (IntKind.wrap .i64 (n+1)) w R
noncomputable def eS2:=entS X [eL1,eS0] (pth [2,2,1,1,5]) P1 S2T
abbrev P2:Ps:=[(0,.v [.I]),(4,.l [.I,.Y,.Y,.s] ty_enthymemeref04_Regex),(6,.v [.s]),(8,.l [.I,.Y,.Y,.s] ty_enthymemeref04_Regex),(9,.l [.I,.Y,.Y,.s] ty_enthymemeref04_Regex),(10,.v [.s]),(11,.v [.I])]
def L3T (m:Int) (t:Nat) (o p q:Int) (r l:Sl) (k:Nat) (e f g:Int) (i:Sl) (j:Nat) (a b c:Int) (d n:Sl) (s:Int) (w:World) (R:Post):Prop:=mkCur P2 0 (X.Sem (pth [0,1,1,1,9])) m t o p q r l k e f g i j a b c d n s w R
noncomputable def eL3:=entL X (pth [0,1,1,1,9]) P2 L3T
abbrev S4T (m:Int) (t:Nat) (o p q:Int) (r l:Sl) (k:Nat) (e f g:Int) (i:Sl) (j:Nat) (a b c:Int) (d n:Sl) (s:Int) (w:World) (R:Post):Prop:=
 L3T m t o p q r l k e f g i j a b c d n (IntKind.wrap .i64 (s+1)) w R
noncomputable def eS4:=entS X [eL3,eS2,eL1,eS0] (pth [2,2,1,1,9]) P2 S4T
theorem L3T_step:∀(r:Int) (s:Nat) (u x y:Int) (z j:Sl) (c:Nat) (k l m:Int) (o:Sl) (b:Nat) (d e f:Int) (g q:Sl) (p:Int) (w:World) (R:Post) (h:sel (decide (p<((j.n:Nat):Int))) ((0:Int)≤p∧p<((j.n:Nat):Int)∧optP j.a fun aa=>loc [s,c,b] w fun be=>ld4_0 be (aa.add (Int.toNat p *4)) fun ab ac ad ae=>cf1 [s,c,b] n_enthymemeref04_Compare #[.agg #[.i ab,.int .u8 ac,.int .u8 ad,ae.v],.agg #[.i d,.int .u8 e,.int .u8 f,g.v]] be fun bi bf=>sel (bi==0) (loc [s,c,b] bf fun bm=>R (.returned (.agg #[.i d,.int .u8 e,.int .u8 f,g.v])) bm) ((0:Int)≤p∧p<((j.n:Nat):Int)∧optP j.a fun af=>loc [s,c,b] bf fun bg=>ld4_0 bg (af.add (Int.toNat p *4)) fun ag ah ai aj=>cf1 [s,c,b] n_enthymemeref04_Compare #[.agg #[.i ag,.int .u8 ah,.int .u8 ai,aj.v],.agg #[.i k,.int .u8 l,.int .u8 m,o.v]] bg fun bj t=>sel (bj==0) (S4T r s u x y z j c k l m o b d e f g q p t R) (sel (r==3) ((0:Int)≤p∧p<((j.n:Nat):Int)∧optP j.a fun ak=>ld4_0 t (ak.add (Int.toNat p *4)) fun al am an ao=>nwV t (.cells #[.i al,.int .u8 am,.int .u8 an,ao.v] ty_enthymemeref04_Regex) fun bh=>
 ∃(ap:Sl) (bd:World),Sem.run Tryz.prog (Builtin.append_ #[ty_sl_enthymemeref04_Regex,ty_sl_enthymemeref04_Regex] ty_sl_enthymemeref04_Regex #[q.v,.slice (some (nb t)) 1 1]) bh=.ok (ap.v) bd∧kept [s,c,b] bh bd∧S4T r s u x y z j c k l m o b d e f g ap p bd R) ((0:Int)≤p∧p<((j.n:Nat):Int)∧optP j.a fun aq=>ld4_0 t (aq.add (Int.toNat p *4)) fun ar au av aw=>cf3 [s,c,b] n_enthymemeref04_put #[q.v,.agg #[.i ar,.int .u8 au,.int .u8 av,aw.v]] t fun bk bn=>S4T r s u x y z j c k l m o b d e f g bk p bn R)))) (sel (((q.n:Nat):Int)==0) (loc [s,c,b] w fun bo=>R (.returned (.agg #[.i k,.int .u8 l,.int .u8 m,o.v])) bo) (sel (((q.n:Nat):Int)==1) ((0:Int)≤0∧0<((q.n:Nat):Int)∧optP q.a fun ax=>ld4_0 w (ax.add (Int.toNat 0 *4)) fun ay az bb bc=>loc [s,c,b] w fun bp=>R (.returned (.agg #[.i ay,.int .u8 az,.int .u8 bb,bc.v])) bp) (loc [s,c,b] w fun bq=>R (.returned (.agg #[.i r,.int .u8 0,.int .u8 0,q.v])) bq)))),L3T r s u x y z j c k l m o b d e f g q p w R:=mp (stepL (X:=X) [eS4,eL3,eS2,eL1,eS0] (pth [0,1,1,1,9]) P2)
theorem L1T_step:∀(b:Int) (c:Sl) (m:Nat) (o p q:Int) (r:Sl) (d:Nat) (e f g:Int) (j l:Sl) (k:Int) (w:World) (R:Post) (h:sel (decide (k<((c.n:Nat):Int))) ((0:Int)≤k∧k<((c.n:Nat):Int)∧optP c.a fun x=>∃ao:Int,w.cell? ((x.add (Int.toNat k *4)).add 0)=some (.i ao)∧
 sel (ao==b) ((0:Int)≤k∧k<((c.n:Nat):Int)∧optP c.a fun y=>∃ap:Sl,w.cell? ((y.add (Int.toNat k *4)).add 3)=some (ap.v)∧
 ∃(aq:Sl) (s:World),Sem.run Tryz.prog (Builtin.append_ #[ty_sl_enthymemeref04_Regex,ty_sl_enthymemeref04_Regex] ty_sl_enthymemeref04_Regex #[l.v,ap.v]) w=.ok (aq.v) s∧kept [m,d] w s∧S2T b c m o p q r d e f g j aq k s R) ((0:Int)≤k∧k<((c.n:Nat):Int)∧optP c.a fun z=>ld4_0 w (z.add (Int.toNat k *4)) fun aa ab ac ad=>nwV w (.cells #[.i aa,.int .u8 ab,.int .u8 ac,ad.v] ty_enthymemeref04_Regex) fun au=>
 ∃(ar:Sl) (t:World),Sem.run Tryz.prog (Builtin.append_ #[ty_sl_enthymemeref04_Regex,ty_sl_enthymemeref04_Regex] ty_sl_enthymemeref04_Regex #[l.v,.slice (some (nb w)) 1 1]) au=.ok (ar.v) t∧kept [m,d] au t∧S2T b c m o p q r d e f g j ar k t R)) (nwV w (.cells #[.i 1,.int .u8 0,.int .u8 0,.slice none 0 0,.i 0,.int .u8 0,.int .u8 0,.slice none 0 0,.i e,.int .u8 f,.int .u8 g,j.v] ty_enthymemeref04_Regex) fun av=>
 (0:Int)≤(IntKind.wrap .i64 (b - 3))∧(IntKind.wrap .i64 (b - 3))<((3:Nat):Int)∧optP (some (nb w)) fun ae=>ld4_0 av (ae.add (Int.toNat (IntKind.wrap .i64 (b - 3)) *4)) fun af ag ah ai=>newV [m,d] av fun u az=>
 loc [m,d,u] az fun aw=>nwV aw (.cells #[.i 0,.int .u8 0,.int .u8 0,.slice none 0 0,.i e,.int .u8 f,.int .u8 g,j.v,.i 0,.int .u8 0,.int .u8 0,.slice none 0 0] ty_enthymemeref04_Regex) fun ax=>
 (0:Int)≤(IntKind.wrap .i64 (b - 3))∧(IntKind.wrap .i64 (b - 3))<((3:Nat):Int)∧optP (some (nb aw)) fun aj=>ld4_0 ax (aj.add (Int.toNat (IntKind.wrap .i64 (b - 3)) *4)) fun ak al am an=>newV [m,d,u] ax fun b9 bb=>
 loc [m,d,u,b9] bb fun bc=>L3T b m o p q r l u af ag ah ai b9 ak al am an ⟨none,0,0⟩ 0 bc R)),L1T b c m o p q r d e f g j l k w R:=mp (stepL (X:=X) [eS4,eL3,eS2,eL1,eS0] (pth [0,1,1,1,5]) P1)
theorem okT (d:Int) (b:Sl) (w:World) (R:Post) (h:newV [] w fun c w1=>
 cf2 [c] n_enthymemeref04_Everything #[] w1 fun g j k l w2=>newV [c] w2 fun f w3=>
 sel (d==6) ((0:Int)≤0∧0<((b.n:Nat):Int)∧optP b.a fun p=>loc [c,f] w3 fun e=>∃af:Int,e.cell? ((p.add (Int.toNat 0 *4)).add 0)=some (.i af)∧
 sel (af==6) ((0:Int)≤0∧0<((b.n:Nat):Int)∧optP b.a fun q=>∃o:Sl,e.cell? ((q.add (Int.toNat 0 *4)).add 3)=some (o.v)∧
 (0:Int)≤0∧0<((o.n:Nat):Int)∧optP o.a fun r=>ld4_0 e (r.add (Int.toNat 0 *4)) fun s t u x=>loc [c,f] e fun al=>R (.returned (.agg #[.i s,.int .u8 t,.int .u8 u,x.v])) al) (loc [c,f] e fun am=>R (.returned (.agg #[.i 6,.int .u8 0,.int .u8 0,b.v])) am)) (sel (d==7) ((0:Int)≤0∧0<((b.n:Nat):Int)∧optP b.a fun y=>loc [c,f] w3 fun e=>∃ag:Int,e.cell? ((y.add (Int.toNat 0 *4)).add 0)=some (.i ag)∧
 sel (decide (ag<2)) (loc [c,f] e fun an=>R (.returned (.agg #[.i 1,.int .u8 0,.int .u8 0,.slice none 0 0])) an) ((0:Int)≤0∧0<((b.n:Nat):Int)∧optP b.a fun z=>loc [c,f] e fun m=>∃ah:Int,m.cell? ((z.add (Int.toNat 0 *4)).add 0)=some (.i ah)∧
 sel (ah==7) (S0T b c 0 0 0 ⟨none,0,0⟩ m R) ((0:Int)≤0∧0<((b.n:Nat):Int)∧optP b.a fun aa=>ld4_0 m (aa.add (Int.toNat 0 *4)) fun ab ac ad ae=>cf1 [c,f] n_enthymemeref04_Compare #[.agg #[.i ab,.int .u8 ac,.int .u8 ad,ae.v],.agg #[.i g,.int .u8 j,.int .u8 k,l.v]] m fun ak ai=>sel (ak==0) (S0T b c 0 0 0 ⟨none,0,0⟩ ai R) (loc [c,f] ai fun ao=>R (.returned (.agg #[.i 7,.int .u8 0,.int .u8 0,b.v])) ao)))) (loc [c,f] w3 fun e=>L1T d b c 0 0 0 ⟨none,0,0⟩ f g j k l ⟨none,0,0⟩ 0 e R))):Calls Tryz.prog n_enthymemeref04_normal #[.i d,b.v] w R:=callsX X [eS4,eL3,eS2,eL1,eS0] h
end enthymemeref04_normal
namespace enthymemeref04_simple
noncomputable abbrev X:Fx:=⟨Tryz.prog,Tryz.f107,[],[1,2]⟩
abbrev P0:Ps:=[(1,.l [.I,.Y,.Y,.s] ty_enthymemeref04_Regex),(2,.l [.I,.Y,.Y,.s] ty_enthymemeref04_Regex),(3,.v [.s]),(4,.v [.I])]
def L0T (l:Nat) (b c d:Int) (e:Sl) (m:Nat) (f g i:Int) (j a:Sl) (k:Int) (w:World) (R:Post):Prop:=mkCur P0 0 (X.Sem (pth [0,1,1,1,3])) l b c d e m f g i j a k w R
noncomputable def eL0:=entL X (pth [0,1,1,1,3]) P0 L0T
theorem L0T_step:∀(f:Nat) (d j k:Int) (b:Sl) (g:Nat) (l m o:Int) (p c:Sl) (e:Int) (w:World) (R:Post) (h:sel (decide (e<((b.n:Nat):Int))) ((0:Int)≤e∧e<((b.n:Nat):Int)∧optP b.a fun q=>ld4_0 w (q.add (Int.toNat e *4)) fun r s t u=>cf2 [f,g] n_enthymemeref04_simple #[.agg #[.i r,.int .u8 s,.int .u8 t,u.v]] w fun x y z aa w7=>nwV w7 (.cells #[.i x,.int .u8 y,.int .u8 z,aa.v] ty_enthymemeref04_Regex) fun w8=>
 ∃(af:Sl) (w9:World),Sem.run Tryz.prog (Builtin.append_ #[ty_sl_enthymemeref04_Regex,ty_sl_enthymemeref04_Regex] ty_sl_enthymemeref04_Regex #[c.v,.slice (some (nb w7)) 1 1]) w8=.ok (af.v) w9∧kept [f,g] w8 w9∧L0T f d j k b g l m o p af (IntKind.wrap .i64 (e+1)) w9 R) (cf2 [f,g] n_enthymemeref04_normal #[.i d,c.v] w fun ab ac ad ae ah=>loc [f,g] ah fun ai=>R (.returned (.agg #[.i ab,.int .u8 ac,.int .u8 ad,ae.v])) ai)),L0T f d j k b g l m o p c e w R:=mp (stepL (X:=X) [eL0] (pth [0,1,1,1,3]) P0)
theorem okT (a b c:Int) (d:Sl) (w:World) (R:Post) (h:newV [] w fun e j=>
 newV [e] j fun f g=>
 sel (decide (a<3)) (loc [e,f] g fun k=>R (.returned (.agg #[.i a,.int .u8 b,.int .u8 c,d.v])) k) (L0T e a b c d f 0 0 0 ⟨none,0,0⟩ ⟨none,0,0⟩ 0 g R)):Calls Tryz.prog n_enthymemeref04_simple #[.agg #[.i a,.int .u8 b,.int .u8 c,d.v]] w R:=callsX X [eL0] h
end enthymemeref04_simple
namespace enthymemeref04_few
noncomputable abbrev X:Fx:=⟨Tryz.prog,Tryz.f124,[],[1,2]⟩
theorem okT (a b c:Int) (d:Sl) (w:World) (R:Post) (h:newV [] w fun e l=>
 newV [e] l fun f m=>
 cf1 [e,f] n_enthymemeref04_Nodes #[.agg #[.i a,.int .u8 b,.int .u8 c,d.v]] m fun k j=>sel (decide (k>64)) (loc [e,f] j fun n=>R (.returned (.tuple #[.agg #[.i 0,.int .u8 0,.int .u8 0,.slice none 0 0],.i 4])) n) (loc [e,f] j fun g=>R (.returned (.tuple #[.agg #[.i a,.int .u8 b,.int .u8 c,d.v],.i 0])) g)):Calls Tryz.prog n_enthymemeref04_few #[.agg #[.i a,.int .u8 b,.int .u8 c,d.v]] w R:=callsX X [] h
end enthymemeref04_few
namespace enthymemeref04_Normal
noncomputable abbrev X:Fx:=⟨Tryz.prog,Tryz.f90,[],[1,2]⟩
theorem okT (a b c:Int) (d:Sl) (w:World) (R:Post) (h:newV [] w fun e u=>
 newV [e] u fun l x=>
 cf1 [e,l] n_enthymemeref04_Valid #[.agg #[.i a,.int .u8 b,.int .u8 c,d.v]] x fun r t=>sel (r !=0) (loc [e,l] t fun y=>R (.returned (.tuple #[.agg #[.i 0,.int .u8 0,.int .u8 0,.slice none 0 0],.i r])) y) (cf2 [e,l] n_enthymemeref04_simple #[.agg #[.i a,.int .u8 b,.int .u8 c,d.v]] t fun m n o p z=>cf11 [e,l] n_enthymemeref04_few #[.agg #[.i m,.int .u8 n,.int .u8 o,p.v]] z fun f g j k q w9=>loc [e,l] w9 fun s=>R (.returned (.tuple #[.agg #[.i f,.int .u8 g,.int .u8 j,k.v],.i q])) s)):Calls Tryz.prog n_enthymemeref04_Normal #[.agg #[.i a,.int .u8 b,.int .u8 c,d.v]] w R:=callsX X [] h
end enthymemeref04_Normal
end Go.Proofs.YtcifihepfadgfaaGreatDoor
set_option linter.unusedVariables false
set_option maxRecDepth 100000
set_option maxHeartbeats 2000000
namespace Go.Proofs.YtcifihepfadgfaaGreatDoor
open Go Go.W
namespace regex_Normal
noncomputable abbrev X:Fx:=⟨Tryz.prog,Tryz.f131,[(4,ls [1,0,2,3,4,5,6,7])],[1,2]⟩
theorem okT (c d e:Int) (f:Sl) (w:World) (R:Post) (h:newV [] w fun a z=>
 newV [a] z fun b w2=>
 cf1 [a,b] n_regex_Valid #[.agg #[.i c,.int .u8 d,.int .u8 e,f.v]] w2 fun s y=>sel (s !=0) (loc [a,b] y fun w7=>R (.returned (.tuple #[.agg #[.i 0,.int .u8 0,.int .u8 0,.slice none 0 0],.i s])) w7) (loc [a,b] y fun w8=>cf12 [a,b] n_regex_forms #[] w8 fun r w9=>cf2 [a,b] n_regex_normal #[.map r,.agg #[.i c,.int .u8 d,.int .u8 e,f.v]] w9 fun m n o p t=>cf11 [a,b] n_regex_limited #[.agg #[.i m,.int .u8 n,.int .u8 o,p.v]] t fun g j k l q u=>loc [a,b] u fun x=>R (.returned (.tuple #[.agg #[.i g,.int .u8 j,.int .u8 k,l.v],.i q])) x)):Calls Tryz.prog n_regex_Normal #[.agg #[.i c,.int .u8 d,.int .u8 e,f.v]] w R:=callsX X [] h
end regex_Normal
end Go.Proofs.YtcifihepfadgfaaGreatDoor
set_option linter.unusedVariables false
set_option maxRecDepth 100000
set_option maxHeartbeats 2000000
namespace Go.Proofs.YtcifihepfadgfaaGreatDoor
open Go Go.W
namespace enthymemeref04_digit
noncomputable abbrev X:Fx:=⟨Tryz.prog,Tryz.f139,[],[]⟩
theorem ok (b:Int) (w:World) (R:Post) (h:(0:Int)≤b∧∃a:UInt8,(ByteArray.mk #[48,49,50,51,52,53,54,55,56,57,97,98,99,100,101,102])[Int.toNat b]? =some a∧R (.returned (.int .u8 ((a.toNat:Nat):Int))) w):Calls Tryz.prog n_enthymemeref04_digit #[.i b] w R:=callsX X [] h
end enthymemeref04_digit
namespace enthymemeref04_plain
noncomputable abbrev X:Fx:=⟨Tryz.prog,Tryz.f138,[],[]⟩
theorem ok (a:Int) (w:World) (R:Post) (h:sel (decide (a≥32)) (sel (decide (a≤126)) (sel (a !=39) (R (.returned (.bool (a !=92))) w) (R (.returned (.bool false)) w)) (R (.returned (.bool false)) w)) (R (.returned (.bool false)) w)):Calls Tryz.prog n_enthymemeref04_plain #[.int .u8 a] w R:=callsX X [] h
end enthymemeref04_plain
namespace enthymemeref04_number
noncomputable abbrev X:Fx:=⟨Tryz.prog,Tryz.f180,[],[]⟩
abbrev P0:Ps:=[(0,.v [.Y]),(3,.v [.I])]
def L0 (a b:Int) (w:World) (R:Post):Prop:=mkCur P0 0 (X.Sem (pth [0,1,1,1,1])) a b w R
noncomputable def eL0:=entL X (pth [0,1,1,1,1]) P0 L0
theorem L0_step:∀(b a:Int) (w:World) (R:Post) (h:sel (decide (a<16)) (ca13 n_enthymemeref04_digit #[.i a] w fun d c=>sel (d==b) (R (.returned (.i a)) c) (L0 b (IntKind.wrap .i64 (a+1)) c R)) (R (.returned (.i (-1))) w)),L0 b a w R:=mp (stepL (X:=X) [eL0] (pth [0,1,1,1,1]) P0)
theorem ok (a:Int) (w:World) (R:Post) (h:L0 a 0 w R):Calls Tryz.prog n_enthymemeref04_number #[.int .u8 a] w R:=callsX X [eL0] h
end enthymemeref04_number
namespace enthymemeref04_byteAt
noncomputable abbrev X:Fx:=⟨Tryz.prog,Tryz.f152,[(4,ls [0,1,2,3,6,7,8,9,4,5,10,11,12,13,14])],[]⟩
abbrev P0:Ps:=[]
abbrev S1 (w:World) (R:Post):Prop:=
 R (.returned (.tuple #[.int .u8 0,.i 0])) w
noncomputable def eS1:=entS X [] (pth [3]) P0 S1
abbrev P1:Ps:=[(0,.v [.st]),(1,.v [.I])]
abbrev S0 (b:ByteArray) (a:Int) (w:World) (R:Post):Prop:=
 sel (decide ((IntKind.wrap .i64 (a+4))≤((b.size:Nat):Int))) ((0:Int)≤a∧∃c:UInt8,b[Int.toNat a]? =some c∧sel (((c.toNat:Nat):Int)==92) ((0:Int)≤(IntKind.wrap .i64 (a+1))∧∃d:UInt8,b[Int.toNat (IntKind.wrap .i64 (a+1))]? =some d∧sel (((d.toNat:Nat):Int)==120) ((0:Int)≤(IntKind.wrap .i64 (a+2))∧∃e:UInt8,b[Int.toNat (IntKind.wrap .i64 (a+2))]? =some e∧ca1 n_enthymemeref04_number #[.int .u8 ((e.toNat:Nat):Int)] w fun k o=>sel (decide (k≥0)) ((0:Int)≤(IntKind.wrap .i64 (a+3))∧∃f:UInt8,b[Int.toNat (IntKind.wrap .i64 (a+3))]? =some f∧ca1 n_enthymemeref04_number #[.int .u8 ((f.toNat:Nat):Int)] o fun l p=>sel (decide (l≥0)) (drV p fun q=>(0:Int)≤(IntKind.wrap .i64 (a+2))∧∃g:UInt8,b[Int.toNat (IntKind.wrap .i64 (a+2))]? =some g∧(0:Int)≤(IntKind.wrap .i64 (a+3))∧∃j:UInt8,b[Int.toNat (IntKind.wrap .i64 (a+3))]? =some j∧ca1 n_enthymemeref04_number #[.int .u8 ((g.toNat:Nat):Int)] q fun m r=>ca1 n_enthymemeref04_number #[.int .u8 ((j.toNat:Nat):Int)] r fun n s=>R (.returned (.tuple #[.int .u8 (IntKind.wrap .u8 (IntKind.wrap .i64 ((IntKind.wrap .i64 (16 *m))+n))),.i 4])) s) (S1 p R)) (S1 o R)) (S1 w R)) (S1 w R)) (S1 w R)
noncomputable def eS0:=entS X [eS1] (pth [2]) P1 S0
theorem ok (b:ByteArray) (a:Int) (w:World) (R:Post) (h:sel (decide ((IntKind.wrap .i64 (a+3))≤((b.size:Nat):Int))) ((0:Int)≤a∧∃c:UInt8,b[Int.toNat a]? =some c∧sel (((c.toNat:Nat):Int)==39) ((0:Int)≤(IntKind.wrap .i64 (a+2))∧∃d:UInt8,b[Int.toNat (IntKind.wrap .i64 (a+2))]? =some d∧sel (((d.toNat:Nat):Int)==39) ((0:Int)≤(IntKind.wrap .i64 (a+1))∧∃e:UInt8,b[Int.toNat (IntKind.wrap .i64 (a+1))]? =some e∧ca0 n_enthymemeref04_plain #[.int .u8 ((e.toNat:Nat):Int)] w fun g j=>sel g ((0:Int)≤(IntKind.wrap .i64 (a+1))∧∃f:UInt8,b[Int.toNat (IntKind.wrap .i64 (a+1))]? =some f∧R (.returned (.tuple #[.int .u8 ((f.toNat:Nat):Int),.i 3])) j) (S0 b a j R)) (S0 b a w R)) (S0 b a w R)) (S0 b a w R)):Calls Tryz.prog n_enthymemeref04_byteAt #[.string b,.i a] w R:=callsX X [eS0,eS1] h
end enthymemeref04_byteAt
namespace enthymemeref04_rangeAt
noncomputable abbrev X:Fx:=⟨Tryz.prog,Tryz.f133,[],[4]⟩
abbrev P0:Ps:=[(4,.l [.I,.Y,.Y,.s] ty_enthymemeref04_Regex)]
abbrev S1T (a:Nat) (b c d:Int) (e:Sl) (w:World) (R:Post):Prop:=
 loc [a] w fun f=>R (.returned (.tuple #[.agg #[.i 0,.int .u8 0,.int .u8 0,.slice none 0 0],.i 0])) f
noncomputable def eS1:=entS X [] (pth [0,1,1,1,6]) P0 S1T
abbrev S3T (a:Nat) (b c d:Int) (e:Sl) (w:World) (R:Post):Prop:=
 loc [a] w fun f=>R (.returned (.tuple #[.agg #[.i 0,.int .u8 0,.int .u8 0,.slice none 0 0],.i 0])) f
noncomputable def eS3:=entS X [eS1] (pth [0,1,1,1,9]) P0 S3T
abbrev P1:Ps:=[(0,.v [.st]),(1,.v [.I]),(4,.l [.I,.Y,.Y,.s] ty_enthymemeref04_Regex),(8,.v [.Y]),(11,.v [.Y]),(12,.v [.I]),(13,.v [.I])]
abbrev S2T (n:ByteArray) (l:Int) (j:Nat) (b c d:Int) (e:Sl) (k g m a:Int) (w:World) (R:Post):Prop:=
 sel (m==0) (S3T j b c d e w R) (sel (decide (a≥((n.size:Nat):Int))) (S3T j b c d e w R) ((0:Int)≤a∧∃f:UInt8,n[Int.toNat a]? =some f∧sel (((f.toNat:Nat):Int) !=93) (S3T j b c d e w R) (sel (decide (k>g)) (S3T j b c d e w R) (loc [j] w fun o=>R (.returned (.tuple #[.agg #[.i 2,.int .u8 k,.int .u8 g,.slice none 0 0],.i (IntKind.wrap .i64 ((IntKind.wrap .i64 (a+1)) - l))])) o))))
noncomputable def eS2:=entS X [eS3,eS1] (pth [9]) P1 S2T
abbrev P2:Ps:=[(0,.v [.st]),(1,.v [.I]),(4,.l [.I,.Y,.Y,.s] ty_enthymemeref04_Regex),(8,.v [.Y]),(9,.v [.I]),(10,.v [.I])]
abbrev S0T (k:ByteArray) (m:Int) (j:Nat) (b c d:Int) (e:Sl) (n o a:Int) (w:World) (R:Post):Prop:=
 sel (o==0) (S1T j b c d e w R) (sel (decide (a≥((k.size:Nat):Int))) (S1T j b c d e w R) ((0:Int)≤a∧∃f:UInt8,k[Int.toNat a]? =some f∧sel (((f.toNat:Nat):Int) !=45) (S1T j b c d e w R) (cf14 [j] n_enthymemeref04_byteAt #[.string k,.i (IntKind.wrap .i64 (a+1))] w fun l g p=>S2T k m j b c d e n l g (IntKind.wrap .i64 ((IntKind.wrap .i64 (a+1))+g)) p R)))
noncomputable def eS0:=entS X [eS2,eS3,eS1] (pth [6]) P2 S0T
theorem okT (g:ByteArray) (a:Int) (w:World) (R:Post) (h:newV [] w fun f n=>
 cf14 [f] n_enthymemeref04_byteAt #[.string g,.i a] n fun b c k=>sel (decide (c>0)) (loc [f] k fun o=>R (.returned (.tuple #[.agg #[.i 2,.int .u8 b,.int .u8 b,.slice none 0 0],.i c])) o) ((0:Int)≤a∧∃d:UInt8,g[Int.toNat a]? =some d∧sel (((d.toNat:Nat):Int) !=91) (loc [f] k fun l=>R (.returned (.tuple #[.agg #[.i 0,.int .u8 0,.int .u8 0,.slice none 0 0],.i 0])) l) (cf14 [f] n_enthymemeref04_byteAt #[.string g,.i (IntKind.wrap .i64 (a+1))] k fun j e m=>S0T g a f 0 0 0 ⟨none,0,0⟩ j e (IntKind.wrap .i64 ((IntKind.wrap .i64 (a+1))+e)) m R))):Calls Tryz.prog n_enthymemeref04_rangeAt #[.string g,.i a] w R:=callsX X [eS0,eS2,eS3,eS1] h
end enthymemeref04_rangeAt
namespace enthymemeref04_Tokens
noncomputable abbrev X:Fx:=⟨Tryz.prog,Tryz.f119,[(11,ls [0,1,2,3,4,5,6,7,8,9,10,11,12])],[5]⟩
abbrev P0:Ps:=[(0,.v [.st]),(3,.v [.s]),(4,.v [.I])]
def L0T (c:ByteArray) (a:Sl) (b:Int) (w:World) (R:Post):Prop:=mkCur P0 0 (X.Sem (pth [0,1,1,1,2])) c a b w R
noncomputable def eL0:=entL X (pth [0,1,1,1,2]) P0 L0T
abbrev P1:Ps:=[(0,.v [.st]),(3,.v [.s]),(4,.v [.I]),(5,.l [.I,.Y,.Y,.s] ty_enthymemeref04_Regex),(6,.v [.I])]
def L1T (j:ByteArray) (a:Sl) (f:Int) (i:Nat) (b c d:Int) (e:Sl) (g:Int) (w:World) (R:Post):Prop:=mkCur P1 0 (X.Sem (pth [0,1,1,1,1,1,2,1,1,2,1,1,2])) j a f i b c d e g w R
noncomputable def eL1:=entL X (pth [0,1,1,1,1,1,2,1,1,2,1,1,2]) P1 L1T
abbrev S2T (k:ByteArray) (d:Sl) (a:Int) (m:Nat) (e f g:Int) (j:Sl) (b:Int) (w:World) (R:Post):Prop:=
 (0:Int)≤(IntKind.wrap .i64 (a+b))∧(IntKind.wrap .i64 (a+b))≤((k.size:Nat):Int)∧(0:Int)≤a∧a≤(((Int.toNat (IntKind.wrap .i64 (a+b))):Nat):Int)∧loc [m] w fun n=>nwV n (.cells #[.string (k.extract (Int.toNat a) (Int.toNat (IntKind.wrap .i64 (a+b)))),.i a,.i e,.int .u8 f,.int .u8 g,j.v] ty_enthymemeref04_Token) fun o=>
 ∃(c:Sl) (l:World),Sem.run Tryz.prog (Builtin.append_ #[ty_sl_enthymemeref04_Token,ty_sl_enthymemeref04_Token] ty_sl_enthymemeref04_Token #[d.v,.slice (some (nb n)) 1 1]) o=.ok (c.v) l∧kept [m] o l∧L0T k c (IntKind.wrap .i64 (a+b)) l R
noncomputable def eS2:=entS X [eL1,eL0] (pth [3,1,1,2,1,1,2]) P1 S2T
theorem L1T_step:∀(i:ByteArray) (b:Sl) (a:Int) (j:Nat) (c d e:Int) (f:Sl) (g:Int) (w:World) (R:Post) (h:(0:Int)≤a∧∃k:UInt8,i[Int.toNat a]? =some k∧sel (decide (((k.toNat:Nat):Int)≥97)) ((0:Int)≤a∧∃l:UInt8,i[Int.toNat a]? =some l∧sel (decide (((l.toNat:Nat):Int)≤122)) (sel (decide ((IntKind.wrap .i64 (a+g))<((i.size:Nat):Int))) ((0:Int)≤(IntKind.wrap .i64 (a+g))∧∃m:UInt8,i[Int.toNat (IntKind.wrap .i64 (a+g))]? =some m∧sel (decide (((m.toNat:Nat):Int)≥97)) ((0:Int)≤(IntKind.wrap .i64 (a+g))∧∃n:UInt8,i[Int.toNat (IntKind.wrap .i64 (a+g))]? =some n∧sel (decide (((n.toNat:Nat):Int)≤122)) (L1T i b a j c d e f (IntKind.wrap .i64 (g+1)) w R) (S2T i b a j c d e f g w R)) (S2T i b a j c d e f g w R)) (S2T i b a j c d e f g w R)) (S2T i b a j c d e f g w R)) (S2T i b a j c d e f g w R)),L1T i b a j c d e f g w R:=mp (stepL (X:=X) [eS2,eL1,eL0] (pth [0,1,1,1,1,1,2,1,1,2,1,1,2]) P1)
theorem L0T_step:∀(g:ByteArray) (a:Sl) (f:Int) (w:World) (R:Post) (h:sel (decide (f<((g.size:Nat):Int))) ((0:Int)≤f∧∃j:UInt8,g[Int.toNat f]? =some j∧sel (((j.toNat:Nat):Int)==32) (L0T g a (IntKind.wrap .i64 (f+1)) w R) (ca11 n_enthymemeref04_rangeAt #[.string g,.i f] w fun b c d e k q=>newV [] q fun l o=>
 sel (k==0) (loc [l] o fun n=>L1T g a f l b c d e 1 n R) (loc [l] o fun n=>S2T g a f l b c d e k n R))) (nwV w (.cells #[.s0,.i ((g.size:Nat):Int),.i 0,.int .u8 0,.int .u8 0,.slice none 0 0] ty_enthymemeref04_Token) fun r=>
 ∃(m:Sl) (p:World),Sem.run Tryz.prog (Builtin.append_ #[ty_sl_enthymemeref04_Token,ty_sl_enthymemeref04_Token] ty_sl_enthymemeref04_Token #[a.v,.slice (some (nb w)) 1 1]) r=.ok (m.v) p∧R (.returned (m.v)) p)),L0T g a f w R:=mp (stepL (X:=X) [eS2,eL1,eL0] (pth [0,1,1,1,2]) P0)
theorem okT (a:ByteArray) (w:World) (R:Post) (h:L0T a ⟨none,0,0⟩ 0 w R):Calls Tryz.prog n_enthymemeref04_Tokens #[.string a] w R:=callsX X [eS2,eL1,eL0] h
end enthymemeref04_Tokens
namespace enthymemeref04_reader_see
noncomputable abbrev X:Fx:=⟨Tryz.prog,Tryz.f154,[(3,ls [0,1,2,3,4,5,6,7,8,9,10,11])],[]⟩
theorem ok (d:Addr) (w:World) (R:Post) (h:∃j:Bool,w.cell? (d.add 2)=some (.bool j)∧
 sel j (R (.returned (.string (ByteArray.mk #[32]))) w) (drV w fun f=>∃c:Sl,f.cell? (d.add 0)=some (c.v)∧
 ∃b:Int,f.cell? (d.add 1)=some (.i b)∧
 (0:Int)≤b∧b<((c.n:Nat):Int)∧optP c.a fun e=>∃g:ByteArray,f.cell? ((e.add (Int.toNat b *6)).add 0)=some (.string g)∧
 R (.returned (.string g)) f)):Calls Tryz.prog n_enthymemeref04_reader_see #[.pointer (some d)] w R:=callsX X [] h
end enthymemeref04_reader_see
namespace enthymemeref04_reader_take
noncomputable abbrev X:Fx:=⟨Tryz.prog,Tryz.f135,[],[]⟩
abbrev P0:Ps:=[]
abbrev S0 (w:World) (R:Post):Prop:=
 R (.returned (.bool true)) w
noncomputable def eS0:=entS X [] (pth [3]) P0 S0
theorem ok (a:Addr) (d:ByteArray) (w:World) (R:Post) (h:ca15 n_enthymemeref04_reader_see #[.pointer (some a)] w fun e b=>sel (!(e.toList==d.toList)) (R (.returned (.bool false)) b) (sel (!(d.toList==(ByteArray.mk #[]).toList)) (∃c:Int,b.cell? (a.add 1)=some (.i c)∧
 stV b (a.add 1) (.i (IntKind.wrap .i64 (c+1))) fun f=>
 S0 f R) (S0 b R))):Calls Tryz.prog n_enthymemeref04_reader_take #[.pointer (some a),.string d] w R:=callsX X [eS0] h
end enthymemeref04_reader_take
namespace enthymemeref04_reader_need
noncomputable abbrev X:Fx:=⟨Tryz.prog,Tryz.f121,[],[]⟩
theorem ok (a:Addr) (b:ByteArray) (w:World) (R:Post) (h:ca0 n_enthymemeref04_reader_take #[.pointer (some a),.string b] w fun d c=>sel (!d) (stV c (a.add 2) (.bool true) fun e=>
 R (.returned (.tuple #[])) e) (R (.returned (.tuple #[])) c)):Calls Tryz.prog n_enthymemeref04_reader_need #[.pointer (some a),.string b] w R:=callsX X [] h
end enthymemeref04_reader_need
namespace enthymemeref04_group
noncomputable abbrev X:Fx:=⟨Tryz.prog,Tryz.f136,[],[4]⟩
theorem okT (b:Int) (c:Sl) (w:World) (R:Post) (h:newV [] w fun l k=>
 sel (((c.n:Nat):Int)==1) ((0:Int)≤0∧0<((c.n:Nat):Int)∧optP c.a fun j=>ld4_0 k (j.add (Int.toNat 0 *4)) fun d e f g=>loc [l] k fun m=>R (.returned (.agg #[.i d,.int .u8 e,.int .u8 f,g.v])) m) (loc [l] k fun o=>R (.returned (.agg #[.i b,.int .u8 0,.int .u8 0,c.v])) o)):Calls Tryz.prog n_enthymemeref04_group #[.i b,c.v] w R:=callsX X [] h
end enthymemeref04_group
namespace enthymemeref04_reader_begins
noncomputable abbrev X:Fx:=⟨Tryz.prog,Tryz.f182,[],[]⟩
theorem ok (c:Addr) (w:World) (R:Post) (h:ca15 n_enthymemeref04_reader_see #[.pointer (some c)] w fun b a=>∃d:Bool,a.cell? (c.add 2)=some (.bool d)∧
 sel (!d) (sel (!(b.toList==(ByteArray.mk #[]).toList)) (sel (!(b.toList==(ByteArray.mk #[41]).toList)) (sel (!(b.toList==(ByteArray.mk #[44]).toList)) (sel (!(b.toList==(ByteArray.mk #[124]).toList)) (R (.returned (.bool (!(b.toList==(ByteArray.mk #[38]).toList)))) a) (R (.returned (.bool false)) a)) (R (.returned (.bool false)) a)) (R (.returned (.bool false)) a)) (R (.returned (.bool false)) a)) (R (.returned (.bool false)) a)):Calls Tryz.prog n_enthymemeref04_reader_begins #[.pointer (some c)] w R:=callsX X [] h
end enthymemeref04_reader_begins
namespace enthymemeref04_reader_expr
noncomputable abbrev X:Fx:=⟨Tryz.prog,Tryz.f120,[],[2]⟩
abbrev P0:Ps:=[(0,.v [.r]),(2,.l [.I,.Y,.Y,.s] ty_enthymemeref04_Regex),(3,.v [.s])]
def L0T (f:Addr) (g:Nat) (a b c:Int) (d e:Sl) (w:World) (R:Post):Prop:=mkCur P0 0 (X.Sem (pth [0,2,2])) f g a b c d e w R
noncomputable def eL0:=entL X (pth [0,2,2]) P0 L0T
theorem L0T_step:∀(f:Addr) (a:Nat) (b c d:Int) (e r:Sl) (w:World) (R:Post) (h:cf0 [a] n_enthymemeref04_reader_take #[.pointer (some f),.string (ByteArray.mk #[124])] w fun z u=>sel z (cf2 [a] n_enthymemeref04_reader_conj #[.pointer (some f)] u fun g j k l x=>nwV x (.cells #[.i g,.int .u8 j,.int .u8 k,l.v] ty_enthymemeref04_Regex) fun y=>
 ∃(q:Sl) (s:World),Sem.run Tryz.prog (Builtin.append_ #[ty_sl_enthymemeref04_Regex,ty_sl_enthymemeref04_Regex] ty_sl_enthymemeref04_Regex #[r.v,.slice (some (nb x)) 1 1]) y=.ok (q.v) s∧kept [a] y s∧L0T f a b c d e q s R) (cf2 [a] n_enthymemeref04_group #[.i 4,r.v] u fun m n o p w8=>loc [a] w8 fun t=>R (.returned (.agg #[.i m,.int .u8 n,.int .u8 o,p.v])) t)),L0T f a b c d e r w R:=mp (stepL (X:=X) [eL0] (pth [0,2,2]) P0)
theorem okT (a:Addr) (w:World) (R:Post) (h:newV [] w fun f j=>
 cf2 [f] n_enthymemeref04_reader_conj #[.pointer (some a)] j fun b c d e g=>nwV g (.cells #[.i b,.int .u8 c,.int .u8 d,e.v] ty_enthymemeref04_Regex) fun k=>
 L0T a f 0 0 0 ⟨none,0,0⟩ ⟨some (nb g),1,1⟩ k R):Calls Tryz.prog n_enthymemeref04_reader_expr #[.pointer (some a)] w R:=callsX X [eL0] h
end enthymemeref04_reader_expr
namespace enthymemeref04_reader_conj
noncomputable abbrev X:Fx:=⟨Tryz.prog,Tryz.f134,[],[2]⟩
abbrev P0:Ps:=[(0,.v [.r]),(2,.l [.I,.Y,.Y,.s] ty_enthymemeref04_Regex),(3,.v [.s])]
def L0T (f:Addr) (g:Nat) (a b c:Int) (d e:Sl) (w:World) (R:Post):Prop:=mkCur P0 0 (X.Sem (pth [0,2,2])) f g a b c d e w R
noncomputable def eL0:=entL X (pth [0,2,2]) P0 L0T
theorem L0T_step:∀(f:Addr) (a:Nat) (b c d:Int) (e r:Sl) (w:World) (R:Post) (h:cf0 [a] n_enthymemeref04_reader_take #[.pointer (some f),.string (ByteArray.mk #[38])] w fun z u=>sel z (cf2 [a] n_enthymemeref04_reader_seq #[.pointer (some f)] u fun g j k l x=>nwV x (.cells #[.i g,.int .u8 j,.int .u8 k,l.v] ty_enthymemeref04_Regex) fun y=>
 ∃(q:Sl) (s:World),Sem.run Tryz.prog (Builtin.append_ #[ty_sl_enthymemeref04_Regex,ty_sl_enthymemeref04_Regex] ty_sl_enthymemeref04_Regex #[r.v,.slice (some (nb x)) 1 1]) y=.ok (q.v) s∧kept [a] y s∧L0T f a b c d e q s R) (cf2 [a] n_enthymemeref04_group #[.i 5,r.v] u fun m n o p w8=>loc [a] w8 fun t=>R (.returned (.agg #[.i m,.int .u8 n,.int .u8 o,p.v])) t)),L0T f a b c d e r w R:=mp (stepL (X:=X) [eL0] (pth [0,2,2]) P0)
theorem okT (a:Addr) (w:World) (R:Post) (h:newV [] w fun f j=>
 cf2 [f] n_enthymemeref04_reader_seq #[.pointer (some a)] j fun b c d e g=>nwV g (.cells #[.i b,.int .u8 c,.int .u8 d,e.v] ty_enthymemeref04_Regex) fun k=>
 L0T a f 0 0 0 ⟨none,0,0⟩ ⟨some (nb g),1,1⟩ k R):Calls Tryz.prog n_enthymemeref04_reader_conj #[.pointer (some a)] w R:=callsX X [eL0] h
end enthymemeref04_reader_conj
namespace enthymemeref04_reader_seq
noncomputable abbrev X:Fx:=⟨Tryz.prog,Tryz.f153,[],[2]⟩
abbrev P0:Ps:=[(0,.v [.r]),(2,.l [.I,.Y,.Y,.s] ty_enthymemeref04_Regex),(3,.v [.s])]
def L0T (f:Addr) (g:Nat) (a b c:Int) (d e:Sl) (w:World) (R:Post):Prop:=mkCur P0 0 (X.Sem (pth [0,2,2])) f g a b c d e w R
noncomputable def eL0:=entL X (pth [0,2,2]) P0 L0T
theorem L0T_step:∀(f:Addr) (a:Nat) (b c d:Int) (e r:Sl) (w:World) (R:Post) (h:cf0 [a] n_enthymemeref04_reader_begins #[.pointer (some f)] w fun z u=>sel z (cf2 [a] n_enthymemeref04_reader_item #[.pointer (some f)] u fun g j k l x=>nwV x (.cells #[.i g,.int .u8 j,.int .u8 k,l.v] ty_enthymemeref04_Regex) fun y=>
 ∃(q:Sl) (s:World),Sem.run Tryz.prog (Builtin.append_ #[ty_sl_enthymemeref04_Regex,ty_sl_enthymemeref04_Regex] ty_sl_enthymemeref04_Regex #[r.v,.slice (some (nb x)) 1 1]) y=.ok (q.v) s∧kept [a] y s∧L0T f a b c d e q s R) (cf2 [a] n_enthymemeref04_group #[.i 3,r.v] u fun m n o p w8=>loc [a] w8 fun t=>R (.returned (.agg #[.i m,.int .u8 n,.int .u8 o,p.v])) t)),L0T f a b c d e r w R:=mp (stepL (X:=X) [eL0] (pth [0,2,2]) P0)
theorem okT (a:Addr) (w:World) (R:Post) (h:newV [] w fun f j=>
 cf2 [f] n_enthymemeref04_reader_item #[.pointer (some a)] j fun b c d e g=>nwV g (.cells #[.i b,.int .u8 c,.int .u8 d,e.v] ty_enthymemeref04_Regex) fun k=>
 L0T a f 0 0 0 ⟨none,0,0⟩ ⟨some (nb g),1,1⟩ k R):Calls Tryz.prog n_enthymemeref04_reader_seq #[.pointer (some a)] w R:=callsX X [eL0] h
end enthymemeref04_reader_seq
namespace enthymemeref04_reader_item
noncomputable abbrev X:Fx:=⟨Tryz.prog,Tryz.f181,[],[2,4]⟩
abbrev P0:Ps:=[(0,.v [.r]),(2,.l [.I,.Y,.Y,.s] ty_enthymemeref04_Regex),(4,.l [.I,.Y,.Y,.s] ty_enthymemeref04_Regex)]
def L0T (j:Addr) (l:Nat) (e f g:Int) (i:Sl) (k:Nat) (a b c:Int) (d:Sl) (w:World) (R:Post):Prop:=mkCur P0 0 (X.Sem (pth [0,2,4])) j l e f g i k a b c d w R
noncomputable def eL0:=entL X (pth [0,2,4]) P0 L0T
theorem L0T_step:∀(n:Addr) (f:Nat) (g j k:Int) (l:Sl) (e:Nat) (a b c:Int) (d:Sl) (w:World) (R:Post) (h:cf0 [f,e] n_enthymemeref04_reader_take #[.pointer (some n),.string (ByteArray.mk #[42])] w fun o m=>sel o (nwV m (.cells #[.i a,.int .u8 b,.int .u8 c,d.v] ty_enthymemeref04_Regex) fun p=>
 loc [f,e] p fun q=>L0T n f g j k l e 7 0 0 ⟨some (nb m),1,1⟩ q R) (loc [f,e] m fun r=>R (.returned (.agg #[.i a,.int .u8 b,.int .u8 c,d.v])) r)),L0T n f g j k l e a b c d w R:=mp (stepL (X:=X) [eL0] (pth [0,2,4]) P0)
theorem okT (b:Addr) (w:World) (R:Post) (h:newV [] w fun a s=>
 cf0 [a] n_enthymemeref04_reader_take #[.pointer (some b),.string (ByteArray.mk #[33])] s fun r p=>sel r (cf2 [a] n_enthymemeref04_reader_item #[.pointer (some b)] p fun g j k l q=>nwV q (.cells #[.i g,.int .u8 j,.int .u8 k,l.v] ty_enthymemeref04_Regex) fun t=>
 loc [a] t fun u=>R (.returned (.agg #[.i 6,.int .u8 0,.int .u8 0,.slice (some (nb q)) 1 1])) u) (cf2 [a] n_enthymemeref04_reader_atom #[.pointer (some b)] p fun c d e f x=>newV [a] x fun m n=>
 loc [a,m] n fun o=>L0T b a 0 0 0 ⟨none,0,0⟩ m c d e f o R)):Calls Tryz.prog n_enthymemeref04_reader_item #[.pointer (some b)] w R:=callsX X [eL0] h
end enthymemeref04_reader_item
namespace enthymemeref04_reader_atom
noncomputable abbrev X:Fx:=⟨Tryz.prog,Tryz.f197,[(1,ls [0,1,2,3,4,5,6,7,8,9,10,11,12,13,14,15,16,17,18,19]),(3,ls [0,1,2,3,4,5,6,7,8,9,10,11,12]),(8,ls [0,1,2,3,5,6,7,8,4,9,10])],[2,5,6]⟩
abbrev P0:Ps:=[(0,.v [.r]),(2,.l [.I,.Y,.Y,.s] ty_enthymemeref04_Regex),(3,.v [.s]),(4,.v [.I])]
def L1T (g:Addr) (i:Nat) (b c d:Int) (e a:Sl) (f:Int) (w:World) (R:Post):Prop:=mkCur P0 0 (X.Sem (pth [0,1,1,1,3])) g i b c d e a f w R
noncomputable def eL1:=entL X (pth [0,1,1,1,3]) P0 L1T
abbrev S2T (g:Addr) (i:Nat) (b c d:Int) (e a:Sl) (f:Int) (w:World) (R:Post):Prop:=
 L1T g i b c d e a (IntKind.wrap .i64 (f+1)) w R
noncomputable def eS2:=entS X [eL1] (pth [2,2,1,1,3]) P0 S2T
abbrev P1:Ps:=[(2,.l [.I,.Y,.Y,.s] ty_enthymemeref04_Regex),(5,.l [.I,.Y,.Y,.s] ty_enthymemeref04_Regex)]
abbrev S3T (f:Nat) (g j k:Int) (l:Sl) (e:Nat) (a b c:Int) (d:Sl) (w:World) (R:Post):Prop:=
 loc [f,e] w fun m=>R (.returned (.agg #[.i a,.int .u8 b,.int .u8 c,d.v])) m
noncomputable def eS3:=entS X [eS2,eL1] (pth [4,2,1,2,1,1,3]) P1 S3T
theorem L1T_step:∀(e:Addr) (b:Nat) (f g j:Int) (k c:Sl) (d:Int) (w:World) (R:Post) (h:sel (decide (d<6)) (sel (d==2) (loc [b] w fun x=>S2T e b f g j k c d x R) ((0:Int)≤d∧d<((c.n:Nat):Int)∧optP c.a fun l=>loc [b] w fun x=>∃o:ByteArray,x.cell? (l.add (Int.toNat d *1))=some (.string o)∧
 cf15 [b] n_enthymemeref04_reader_see #[.pointer (some e)] x fun ac q=>q.cell? (l.add (Int.toNat d *1))=some (.string o)∧sel (!(ac.toList==o.toList)) (S2T e b f g j k c d q R) (∃y:Int,q.cell? (e.add 1)=some (.i y)∧
 stV q (e.add 1) (.i (IntKind.wrap .i64 (y+1))) fun w4=>kept [b] q w4∧
 newV [b] w4 fun m w5=>
 sel (decide (d>2)) (loc [b,m] w5 fun w9=>cf3 [b,m] n_enthymemeref04_reader_kids #[.pointer (some e)] w9 fun ad ae=>loc [b,m] ae fun af=>S3T b f g j k m d 0 0 ad af R) (loc [b,m] w5 fun w9=>S3T b f g j k m d 0 0 ⟨none,0,0⟩ w9 R)))) (cf4 [b] n_enthymemeref04_reader_need #[.pointer (some e),.string (ByteArray.mk #[40])] w fun p=>∃z:Bool,p.cell? (e.add 2)=some (.bool z)∧
 sel z (loc [b] p fun ag=>R (.returned (.agg #[.i 0,.int .u8 0,.int .u8 0,.slice none 0 0])) ag) (cf2 [b] n_enthymemeref04_reader_expr #[.pointer (some e)] p fun r s t u ah=>newV [b] ah fun b6 ai=>
 loc [b,b6] ai fun aj=>cf4 [b,b6] n_enthymemeref04_reader_need #[.pointer (some e),.string (ByteArray.mk #[41])] aj fun ak=>loc [b,b6] ak fun al=>R (.returned (.agg #[.i r,.int .u8 s,.int .u8 t,u.v])) al))),L1T e b f g j k c d w R:=mp (stepL (X:=X) [eS3,eS2,eL1] (pth [0,1,1,1,3]) P0)
abbrev P2:Ps:=[(0,.v [.r]),(2,.l [.I,.Y,.Y,.s] ty_enthymemeref04_Regex)]
abbrev S0T (e:Addr) (f:Nat) (a b c:Int) (d:Sl) (w:World) (R:Post):Prop:=
 nwV w (.cells #[.string (ByteArray.mk #[110,111,110,101]),.string (ByteArray.mk #[101,109,112,116,121]),.s0,.string (ByteArray.mk #[99,97,116]),.string (ByteArray.mk #[97,108,116]),.string (ByteArray.mk #[97,108,108])] ty_string) fun g=>
 L1T e f a b c d ⟨some (nb w),6,6⟩ 0 g R
noncomputable def eS0:=entS X [eS3,eS2,eL1] (pth [2]) P2 S0T
theorem okT (b:Addr) (w:World) (R:Post) (h:newV [] w fun f y=>
 loc [f] y fun c=>∃s:Bool,c.cell? (b.add 2)=some (.bool s)∧
 sel (!s) (∃g:Sl,c.cell? (b.add 0)=some (g.v)∧
 ∃d:Int,c.cell? (b.add 1)=some (.i d)∧
 (0:Int)≤d∧d<((g.n:Nat):Int)∧optP g.a fun k=>∃t:Int,c.cell? (((k.add (Int.toNat d *6)).add 2).add 0)=some (.i t)∧
 sel (t==2) (∃u:Int,c.cell? (b.add 1)=some (.i u)∧
 stV c (b.add 1) (.i (IntKind.wrap .i64 (u+1))) fun x=>kept [f] c x∧
 loc [f] x fun r=>∃j:Sl,r.cell? (b.add 0)=some (j.v)∧
 ∃e:Int,r.cell? (b.add 1)=some (.i e)∧
 (0:Int)≤(IntKind.wrap .i64 (e - 1))∧(IntKind.wrap .i64 (e - 1))<((j.n:Nat):Int)∧optP j.a fun l=>ld4_0 r ((l.add (Int.toNat (IntKind.wrap .i64 (e - 1)) *6)).add 2) fun m o p q=>loc [f] r fun z=>R (.returned (.agg #[.i m,.int .u8 o,.int .u8 p,q.v])) z) (S0T b f 0 0 0 ⟨none,0,0⟩ c R)) (S0T b f 0 0 0 ⟨none,0,0⟩ c R)):Calls Tryz.prog n_enthymemeref04_reader_atom #[.pointer (some b)] w R:=callsX X [eS0,eS3,eS2,eL1] h
end enthymemeref04_reader_atom
namespace enthymemeref04_reader_kids
noncomputable abbrev X:Fx:=⟨Tryz.prog,Tryz.f212,[],[]⟩
abbrev P0:Ps:=[]
abbrev S0 (w:World) (R:Post):Prop:=
 R (.returned (.slice none 0 0)) w
noncomputable def eS0:=entS X [] (pth [0,1,1,1,3]) P0 S0
abbrev P1:Ps:=[(0,.v [.r]),(4,.v [.s])]
def L1 (b:Addr) (a:Sl) (w:World) (R:Post):Prop:=mkCur P1 0 (X.Sem (pth [0,2,5])) b a w R
noncomputable def eL1:=entL X (pth [0,2,5]) P1 L1
theorem L1_step:∀(b:Addr) (a:Sl) (w:World) (R:Post) (h:ca0 n_enthymemeref04_reader_take #[.pointer (some b),.string (ByteArray.mk #[44])] w fun j k=>sel j (ca2 n_enthymemeref04_reader_expr #[.pointer (some b)] k fun c d e f l=>nwV l (.cells #[.i c,.int .u8 d,.int .u8 e,f.v] ty_enthymemeref04_Regex) fun n=>
 ∃(g:Sl) (m:World),Sem.run Tryz.prog (Builtin.append_ #[ty_sl_enthymemeref04_Regex,ty_sl_enthymemeref04_Regex] ty_sl_enthymemeref04_Regex #[a.v,.slice (some (nb l)) 1 1]) n=.ok (g.v) m∧L1 b g m R) (ca4 n_enthymemeref04_reader_need #[.pointer (some b),.string (ByteArray.mk #[41])] k fun o=>R (.returned (a.v)) o)),L1 b a w R:=mp (stepL (X:=X) [eL1,eS0] (pth [0,2,5]) P1)
theorem ok (a:Addr) (w:World) (R:Post) (h:ca4 n_enthymemeref04_reader_need #[.pointer (some a),.string (ByteArray.mk #[40])] w fun l=>ca0 n_enthymemeref04_reader_take #[.pointer (some a),.string (ByteArray.mk #[41])] l fun k f=>∃g:Bool,f.cell? (a.add 2)=some (.bool g)∧
 sel g (S0 f R) (sel k (S0 f R) (ca2 n_enthymemeref04_reader_expr #[.pointer (some a)] f fun b c d e j=>nwV j (.cells #[.i b,.int .u8 c,.int .u8 d,e.v] ty_enthymemeref04_Regex) fun m=>
 L1 a ⟨some (nb j),1,1⟩ m R))):Calls Tryz.prog n_enthymemeref04_reader_kids #[.pointer (some a)] w R:=callsX X [eL1,eS0] h
end enthymemeref04_reader_kids
namespace enthymemeref04_Parse
noncomputable abbrev X:Fx:=⟨Tryz.prog,Tryz.f89,[(7,ls [0,1,2,3,4,5,6,7,8,9,10,11,12,13,14])],[2,6]⟩
theorem okT (s:ByteArray) (w:World) (R:Post) (h:newV [] w fun b z=>
 sel (decide (((s.size:Nat):Int)>4096)) (loc [b] z fun w5=>R (.returned (.tuple #[.agg #[.i 0,.int .u8 0,.int .u8 0,.slice none 0 0],.i 4096,.i 4])) w5) (cf3 [b] n_enthymemeref04_Tokens #[.string s] z fun x d=>nwV d (.cells #[x.v,.i 0,.bool false] ty_enthymemeref04_reader) fun w7=>
 cf2 [b] n_enthymemeref04_reader_expr #[.pointer (some (nb d))] w7 fun f g j k w8=>newV [b] w8 fun e w9=>
 loc [b,e] w9 fun aa=>cf4 [b,e] n_enthymemeref04_reader_need #[.pointer (some (nb d)),.s0] aa fun r=>∃t:Bool,r.cell? ((nb d).add 2)=some (.bool t)∧
 sel t (loc [b,e] r fun o=>∃l:Sl,o.cell? ((nb d).add 0)=some (l.v)∧
 ∃c:Int,o.cell? ((nb d).add 1)=some (.i c)∧
 (0:Int)≤c∧c<((l.n:Nat):Int)∧optP l.a fun m=>∃q:Int,o.cell? ((m.add (Int.toNat c *6)).add 1)=some (.i q)∧
 loc [b,e] o fun p=>p.cell? ((m.add (Int.toNat c *6)).add 1)=some (.i q)∧p.cell? ((nb d).add 1)=some (.i c)∧p.cell? ((nb d).add 0)=some (l.v)∧R (.returned (.tuple #[.agg #[.i 0,.int .u8 0,.int .u8 0,.slice none 0 0],.i q,.i 2])) p) (cf1 [b,e] n_enthymemeref04_Nodes #[.agg #[.i f,.int .u8 g,.int .u8 j,k.v]] r fun y u=>sel (decide (y>64)) (loc [b,e] u fun ab=>R (.returned (.tuple #[.agg #[.i 0,.int .u8 0,.int .u8 0,.slice none 0 0],.i ((s.size:Nat):Int),.i 4])) ab) (loc [b,e] u fun ac=>R (.returned (.tuple #[.agg #[.i f,.int .u8 g,.int .u8 j,k.v],.i 0,.i 0])) ac)))):Calls Tryz.prog n_enthymemeref04_Parse #[.string s] w R:=callsX X [] h
end enthymemeref04_Parse
end Go.Proofs.YtcifihepfadgfaaGreatDoor
set_option linter.unusedVariables false
set_option maxRecDepth 100000
set_option maxHeartbeats 2000000
namespace Go.Proofs.YtcifihepfadgfaaGreatDoor
open Go Go.W
namespace enthymemeref04_Byte
noncomputable abbrev X:Fx:=⟨Tryz.prog,Tryz.f126,[],[]⟩
theorem ok (a:Int) (w:World) (R:Post) (h:ca0 n_enthymemeref04_plain #[.int .u8 a] w fun l c=>sel l (nwV c (.cells #[.int .u8 39,.int .u8 a,.int .u8 39] ty_uint8) fun d=>
 ∃j:ByteArray,Sem.run Tryz.prog (Go.convert ty_sl_uint8 ty_string (.slice (some (nb c)) 3 3)) d=.ok (.string j) d∧R (.returned (.string j)) d) (ca13 n_enthymemeref04_digit #[.i (IntKind.wrap .i64 (Int.tdiv (IntKind.wrap .i64 a) 16))] c fun f m=>ca13 n_enthymemeref04_digit #[.i (Int.tmod (IntKind.wrap .i64 a) 16)] m fun g k=>nwV k (.cells #[.int .u8 92,.int .u8 120,.int .u8 f,.int .u8 g] ty_uint8) fun e=>
 ∃b:ByteArray,Sem.run Tryz.prog (Go.convert ty_sl_uint8 ty_string (.slice (some (nb k)) 4 4)) e=.ok (.string b) e∧R (.returned (.string b)) e)):Calls Tryz.prog n_enthymemeref04_Byte #[.int .u8 a] w R:=callsX X [] h
end enthymemeref04_Byte
namespace enthymemeref04_binds
noncomputable abbrev X:Fx:=⟨Tryz.prog,Tryz.f125,[],[1]⟩
abbrev P0:Ps:=[]
abbrev S0T (w:World) (R:Post):Prop:=
 R (.returned (.i 4)) w
noncomputable def eS0:=entS X [] (pth [0,1,1,1,2]) P0 S0T
theorem okT (a f g:Int) (c:Sl) (w:World) (R:Post) (h:newV [] w fun k b=>
 sel (a==6) (R (.returned (.i 3)) b) (sel (decide (a<3)) (S0T b R) (sel (a==7) (S0T b R) (sel (decide (((c.n:Nat):Int)<2)) (S0T b R) (nwV b (.cells #[.i 2,.i 0,.i 1] ty_int) fun j=>
 (0:Int)≤(IntKind.wrap .i64 (a - 3))∧(IntKind.wrap .i64 (a - 3))<((3:Nat):Int)∧optP (some (nb b)) fun d=>∃e:Int,j.cell? (d.add (Int.toNat (IntKind.wrap .i64 (a - 3)) *1))=some (.i e)∧
 R (.returned (.i e)) j))))):Calls Tryz.prog n_enthymemeref04_binds #[.agg #[.i a,.int .u8 f,.int .u8 g,c.v]] w R:=callsX X [eS0] h
end enthymemeref04_binds
namespace enthymemeref04_low
noncomputable abbrev X:Fx:=⟨Tryz.prog,Tryz.f127,[],[]⟩
theorem ok (a:Int) (w:World) (R:Post) (h:sel (decide (a≥97)) (R (.returned (.bool (decide (a≤122)))) w) (R (.returned (.bool false)) w)):Calls Tryz.prog n_enthymemeref04_low #[.int .u8 a] w R:=callsX X [] h
end enthymemeref04_low
namespace enthymemeref04_Write
noncomputable abbrev X:Fx:=⟨Tryz.prog,Tryz.f91,[(11,ls [0,1,5,6,2,3,4,7,8,9,10])],[2]⟩
abbrev P0:Ps:=[(2,.l [.I,.Y,.Y,.s] ty_enthymemeref04_Regex),(5,.v [.st])]
abbrev S0T (j:Nat) (b f g:Int) (i:Sl) (a:ByteArray) (w:World) (R:Post):Prop:=
 nwV w (.cells #[.string (ByteArray.mk #[99,97,116,40]),.string (ByteArray.mk #[97,108,116,40]),.string (ByteArray.mk #[97,108,108,40])] ty_string) fun e=>
 (0:Int)≤(IntKind.wrap .i64 (b - 3))∧(IntKind.wrap .i64 (b - 3))<((3:Nat):Int)∧optP (some (nb w)) fun d=>∃c:ByteArray,e.cell? (d.add (Int.toNat (IntKind.wrap .i64 (b - 3)) *1))=some (.string c)∧
 ¬(((c.size+a.size:Nat):Int)>IntKind.i64.max)∧¬((((c++a).size+(ByteArray.mk #[41]).size:Nat):Int)>IntKind.i64.max)∧R (.returned (.string ((c++a)++(ByteArray.mk #[41])))) e
noncomputable def eS0:=entS X [] (pth [2,1,1,1,3]) P0 S0T
abbrev P1:Ps:=[(2,.l [.I,.Y,.Y,.s] ty_enthymemeref04_Regex),(6,.v [.st]),(7,.v [.I]),(8,.v [.st]),(9,.v [.I])]
def L1T (j:Nat) (d e f:Int) (g:Sl) (a:ByteArray) (c:Int) (b:ByteArray) (i:Int) (w:World) (R:Post):Prop:=mkCur P1 0 (X.Sem (pth [0,1,1,1,7])) j d e f g a c b i w R
noncomputable def eL1:=entL X (pth [0,1,1,1,7]) P1 L1T
abbrev S3T (j:Nat) (d e f:Int) (g:Sl) (a:ByteArray) (c:Int) (b:ByteArray) (i:Int) (w:World) (R:Post):Prop:=
 L1T j d e f g a c b (IntKind.wrap .i64 (i+1)) w R
noncomputable def eS3:=entS X [eL1,eS0] (pth [2,2,1,1,7]) P1 S3T
abbrev P2:Ps:=[(2,.l [.I,.Y,.Y,.s] ty_enthymemeref04_Regex),(6,.v [.st]),(7,.v [.I]),(8,.v [.st]),(9,.v [.I]),(10,.v [.st])]
abbrev S2T (k:Nat) (e f g:Int) (i:Sl) (a:ByteArray) (d:Int) (c:ByteArray) (j:Int) (b:ByteArray) (w:World) (R:Post):Prop:=
 ¬(((c.size+a.size:Nat):Int)>IntKind.i64.max)∧¬((((c++a).size+b.size:Nat):Int)>IntKind.i64.max)∧S3T k e f g i a d ((c++a)++b) j w R
noncomputable def eS2:=entS X [eS3,eL1,eS0] (pth [2,2,1,2,1,1,7]) P2 S2T
theorem L1T_step:∀(m:Nat) (f g j:Int) (c:Sl) (d:ByteArray) (e:Int) (b:ByteArray) (l:Int) (w:World) (R:Post) (h:sel (decide (l<((c.n:Nat):Int))) ((0:Int)≤l∧l<((c.n:Nat):Int)∧optP c.a fun q=>ld4_0 w (q.add (Int.toNat l *4)) fun r s t u=>cf15 [m] n_enthymemeref04_Write #[.agg #[.i r,.int .u8 s,.int .u8 t,u.v],.i (IntKind.wrap .i64 (e+1))] w fun k x=>sel (f==3) ((0:Int)≤(IntKind.wrap .i64 (((b.size:Nat):Int) - 1))∧∃o:UInt8,b[Int.toNat (IntKind.wrap .i64 (((b.size:Nat):Int) - 1))]? =some o∧cf0 [m] n_enthymemeref04_low #[.int .u8 ((o.toNat:Nat):Int)] x fun aa y=>sel aa ((0:Int)≤0∧∃p:UInt8,k[Int.toNat 0]? =some p∧cf0 [m] n_enthymemeref04_low #[.int .u8 ((p.toNat:Nat):Int)] y fun ab z=>sel ab (¬(((b.size+(ByteArray.mk #[32]).size:Nat):Int)>IntKind.i64.max)∧S2T m f g j c d e (b++(ByteArray.mk #[32])) l k z R) (S2T m f g j c d e b l k z R)) (S2T m f g j c d e b l k y R)) (S2T m f g j c d e b l k x R)) (R (.returned (.string b)) w)),L1T m f g j c d e b l w R:=mp (stepL (X:=X) [eS2,eS3,eL1,eS0] (pth [0,1,1,1,7]) P1)
theorem okT (c d e:Int) (b:Sl) (j:Int) (w:World) (R:Post) (h:newV [] w fun f w1=>
 cf1 [f] n_enthymemeref04_binds #[.agg #[.i c,.int .u8 d,.int .u8 e,b.v]] w1 fun ar g=>sel (decide (ar<j)) (cf15 [f] n_enthymemeref04_Write #[.agg #[.i c,.int .u8 d,.int .u8 e,b.v],.i 0] g fun l w3=>¬((((ByteArray.mk #[40]).size+l.size:Nat):Int)>IntKind.i64.max)∧¬(((((ByteArray.mk #[40])++l).size+(ByteArray.mk #[41]).size:Nat):Int)>IntKind.i64.max)∧R (.returned (.string (((ByteArray.mk #[40])++l)++(ByteArray.mk #[41])))) w3) (sel (c==0) (R (.returned (.string (ByteArray.mk #[110,111,110,101]))) g) (sel (c==1) (R (.returned (.string (ByteArray.mk #[101,109,112,116,121]))) g) (sel (c==2) (sel (d==e) (cf15 [f] n_enthymemeref04_Byte #[.int .u8 d] g fun au w4=>R (.returned (.string au)) w4) (loc [f] g fun w5=>cf15 [f] n_enthymemeref04_Byte #[.int .u8 d] w5 fun k w6=>¬((((ByteArray.mk #[91]).size+k.size:Nat):Int)>IntKind.i64.max)∧¬(((((ByteArray.mk #[91])++k).size+(ByteArray.mk #[45]).size:Nat):Int)>IntKind.i64.max)∧cf15 [f] n_enthymemeref04_Byte #[.int .u8 e] w6 fun m w7=>¬((((((ByteArray.mk #[91])++k)++(ByteArray.mk #[45])).size+m.size:Nat):Int)>IntKind.i64.max)∧¬(((((((ByteArray.mk #[91])++k)++(ByteArray.mk #[45]))++m).size+(ByteArray.mk #[93]).size:Nat):Int)>IntKind.i64.max)∧R (.returned (.string (((((ByteArray.mk #[91])++k)++(ByteArray.mk #[45]))++m)++(ByteArray.mk #[93])))) w7)) (sel (c==6) ((0:Int)≤0∧0<((b.n:Nat):Int)∧optP b.a fun o=>ld4_0 g (o.add (Int.toNat 0 *4)) fun p q r s=>cf15 [f] n_enthymemeref04_Write #[.agg #[.i p,.int .u8 q,.int .u8 r,s.v],.i 3] g fun al w8=>¬((((ByteArray.mk #[33]).size+al.size:Nat):Int)>IntKind.i64.max)∧R (.returned (.string ((ByteArray.mk #[33])++al))) w8) (sel (c==7) ((0:Int)≤0∧0<((b.n:Nat):Int)∧optP b.a fun t=>ld4_0 g (t.add (Int.toNat 0 *4)) fun u x y z=>cf15 [f] n_enthymemeref04_Write #[.agg #[.i u,.int .u8 x,.int .u8 y,z.v],.i 4] g fun am w9=>¬(((am.size+(ByteArray.mk #[42]).size:Nat):Int)>IntKind.i64.max)∧R (.returned (.string (am++(ByteArray.mk #[42])))) w9) (sel (decide (((b.n:Nat):Int)<2)) (sel (((b.n:Nat):Int)==1) ((0:Int)≤0∧0<((b.n:Nat):Int)∧optP b.a fun aa=>ld4_0 g (aa.add (Int.toNat 0 *4)) fun ab ac ad ae=>cf15 [f] n_enthymemeref04_Write #[.agg #[.i ab,.int .u8 ac,.int .u8 ad,ae.v],.i 0] g fun av ax=>S0T f c d e b av ax R) (S0T f c d e b (ByteArray.mk #[]) g R)) (nwV g (.cells #[.s0,.string (ByteArray.mk #[124]),.string (ByteArray.mk #[38])] ty_string) fun ap=>
 (0:Int)≤(IntKind.wrap .i64 (c - 3))∧(IntKind.wrap .i64 (c - 3))<((3:Nat):Int)∧optP (some (nb g)) fun af=>∃an:ByteArray,ap.cell? (af.add (Int.toNat (IntKind.wrap .i64 (c - 3)) *1))=some (.string an)∧
 cf1 [f] n_enthymemeref04_binds #[.agg #[.i c,.int .u8 d,.int .u8 e,b.v]] ap fun ao aq=>(0:Int)≤0∧0<((b.n:Nat):Int)∧optP b.a fun ag=>ld4_0 aq (ag.add (Int.toNat 0 *4)) fun ah ai aj ak=>cf15 [f] n_enthymemeref04_Write #[.agg #[.i ah,.int .u8 ai,.int .u8 aj,ak.v],.i (IntKind.wrap .i64 (ao+1))] aq fun aw ay=>L1T f c d e b an ao aw 1 ay R)))))))):Calls Tryz.prog n_enthymemeref04_Write #[.agg #[.i c,.int .u8 d,.int .u8 e,b.v],.i j] w R:=callsX X [eS2,eS3,eL1,eS0] h
end enthymemeref04_Write
namespace enthymemeref04_Text
noncomputable def C0:Code:=(Tryz.f76.body).getD .skip
noncomputable def C1:=C0.sn
noncomputable def C2:=C1.sn
noncomputable def C3:=C2.sn
noncomputable def C4:=C3.sn
noncomputable def C5:=C4.sn
noncomputable def C6:=C5.sn
noncomputable def C7:=C6.sn
noncomputable def C8:=C7.sn
end enthymemeref04_Text
end Go.Proofs.YtcifihepfadgfaaGreatDoor
set_option linter.unusedVariables false
set_option maxRecDepth 100000
set_option maxHeartbeats 2000000
namespace Go.Proofs.YtcifihepfadgfaaGreatDoor
open Go Go.W
namespace enthymemeref04_Canonical
noncomputable abbrev X:Fx:=⟨Tryz.prog,Tryz.f48,[],[3,6]⟩
theorem okT (p:ByteArray) (w:World) (R:Post) (h:ca16 n_enthymemeref04_Parse #[.string p] w fun b c d e x m y=>newV [] y fun a t=>
 sel (m !=0) (loc [a] t fun q=>R (.returned (.bool false)) q) (loc [a] t fun q=>cf11 [a] n_enthymemeref04_Normal #[.agg #[.i b,.int .u8 c,.int .u8 d,e.v]] q fun f g j k n z=>newV [a] z fun o u=>
 sel (n==0) (loc [a,o] u fun l=>cf15 [a,o] n_enthymemeref04_Write #[.agg #[.i f,.int .u8 g,.int .u8 j,k.v],.i 0] l fun r s=>R (.returned (.bool (r.toList==p.toList))) s) (loc [a,o] u fun l=>R (.returned (.bool false)) l))):Calls Tryz.prog n_enthymemeref04_Canonical #[.string p] w R:=callsX X [] h
end enthymemeref04_Canonical
end Go.Proofs.YtcifihepfadgfaaGreatDoor
