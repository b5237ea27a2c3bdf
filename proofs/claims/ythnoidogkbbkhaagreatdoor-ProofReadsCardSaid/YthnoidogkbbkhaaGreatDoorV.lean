import Derived.Test.YthnoidogkbbkhaaGreatDoorU
import Derived.Test.YthnoidogkbbkhaaGreatDoorProg
import Derived.KernelRfl
set_option linter.unusedVariables false
set_option maxRecDepth 100000
set_option maxHeartbeats 2000000
namespace Go.Proofs.YthnoidogkbbkhaaGreatDoor
open Go Go.W
theorem mp {a b:Prop} (h:a) (e:a=b:=by kernel_rfl):b:=e▸h
abbrev ExP:=Exit->Act->World->Prop
abbrev KOk (P:Program) (n:Nat) (K:Env->World->Post->Prop) (c:Code) (Q:Post->ExP):Prop:=∀(R:Post) (E:Env) (w:World),K E w R->WP P (cx n) c (Q R) E w
abbrev LOk (P:Program) (n:Nat) (K:Env->World->Post->Prop) (c:Code) (Q:Post->ExP):Prop:=∀(R:Post) (E:Env) (w:World),K E w R->LP P (cx n) c (Q R) E w
abbrev ld4_0 (w:World) (p:Addr) (K:Int->Int->Int->Sl->Prop):Prop:=∃a:Int,∃b:Int,∃c:Int,∃d:Sl,w.cell? (p.add 0)=some (.i a)/\w.cell? (p.add 1)=some (.int .u8 b)/\w.cell? (p.add 2)=some (.int .u8 c)/\w.cell? (p.add 3)=some (d.v)/\K a b c d
abbrev ld3_2 (w:World) (p:Addr) (K:Int->Int->Int->Prop):Prop:=∃a:Int,∃b:Int,∃c:Int,w.cell? (p.add 0)=some (.i a)/\w.cell? (p.add 1)=some (.i b)/\w.cell? (p.add 2)=some (.i c)/\K a b c
abbrev ld9_3 (w:World) (p:Addr) (K:Int->Sl->Int->Int->Int->ByteArray->Int->Int->Int->Prop):Prop:=∃a:Int,∃b:Sl,∃c:Int,∃d:Int,∃e:Int,∃f:ByteArray,∃g:Int,∃j:Int,∃k:Int,w.cell? (p.add 0)=some (.i a)/\w.cell? (p.add 1)=some (b.v)/\w.cell? (p.add 2)=some (.i c)/\w.cell? (p.add 3)=some (.i d)/\w.cell? (p.add 4)=some (.u e)/\w.cell? (p.add 5)=some (.string f)/\w.cell? (p.add 6)=some (.i g)/\w.cell? (p.add 7)=some (.i j)/\w.cell? (p.add 8)=some (.i k)/\K a b c d e f g j k
abbrev ld7_4 (w:World) (p:Addr) (K:Int->Int->Int->Sl->ByteArray->Sl->Sl->Prop):Prop:=∃a:Int,∃b:Int,∃c:Int,∃d:Sl,∃e:ByteArray,∃f:Sl,∃g:Sl,w.cell? (p.add 0)=some (.i a)/\w.cell? (p.add 1)=some (.i b)/\w.cell? (p.add 2)=some (.i c)/\w.cell? (p.add 3)=some (d.v)/\w.cell? (p.add 4)=some (.string e)/\w.cell? (p.add 5)=some (f.v)/\w.cell? (p.add 6)=some (g.v)/\K a b c d e f g
abbrev ld4_5 (w:World) (p:Addr) (K:Sl->Sl->Sl->Sl->Prop):Prop:=∃a:Sl,∃b:Sl,∃c:Sl,∃d:Sl,w.cell? (p.add 0)=some (a.v)/\w.cell? (p.add 1)=some (b.v)/\w.cell? (p.add 2)=some (c.v)/\w.cell? (p.add 3)=some (d.v)/\K a b c d
abbrev ld6_6 (w:World) (p:Addr) (K:ByteArray->ByteArray->ByteArray->ByteArray->ByteArray->ByteArray->Prop):Prop:=∃a:ByteArray,∃b:ByteArray,∃c:ByteArray,∃d:ByteArray,∃e:ByteArray,∃f:ByteArray,w.cell? (p.add 0)=some (.string a)/\w.cell? (p.add 1)=some (.string b)/\w.cell? (p.add 2)=some (.string c)/\w.cell? (p.add 3)=some (.string d)/\w.cell? (p.add 4)=some (.string e)/\w.cell? (p.add 5)=some (.string f)/\K a b c d e f
abbrev ld2_7 (w:World) (p:Addr) (K:Sl->Sl->Prop):Prop:=∃a:Sl,∃b:Sl,w.cell? (p.add 0)=some (a.v)/\w.cell? (p.add 1)=some (b.v)/\K a b
abbrev ca0 (f:FuncId) (d:Array Value) (w:World) (K:Bool->World->Prop):Prop:=Calls Tryz.prog f d w λb c=>∃a:Bool,b=.returned (.bool a)/\K a c
abbrev cf0 (b:List Nat) (f:FuncId) (e:Array Value) (w:World) (K:Bool->World->Prop):Prop:=callF b Tryz.prog f e w λc d=>∃a:Bool,c=.returned (.bool a)/\K a d
abbrev ca1 (f:FuncId) (d:Array Value) (w:World) (K:Int->World->Prop):Prop:=Calls Tryz.prog f d w λb c=>∃a:Int,b=.returned (.i a)/\K a c
abbrev cf1 (b:List Nat) (f:FuncId) (e:Array Value) (w:World) (K:Int->World->Prop):Prop:=callF b Tryz.prog f e w λc d=>∃a:Int,c=.returned (.i a)/\K a d
abbrev ca2 (f:FuncId) (j:Array Value) (w:World) (K:Int->Int->Int->Sl->World->Prop):Prop:=Calls Tryz.prog f j w λe g=>∃a:Int,∃b:Int,∃c:Int,∃d:Sl,e=.returned (.agg #[.i a,.int .u8 b,.int .u8 c,d.v])/\K a b c d g
abbrev cf2 (e:List Nat) (f:FuncId) (k:Array Value) (w:World) (K:Int->Int->Int->Sl->World->Prop):Prop:=callF e Tryz.prog f k w λg j=>∃a:Int,∃b:Int,∃c:Int,∃d:Sl,g=.returned (.agg #[.i a,.int .u8 b,.int .u8 c,d.v])/\K a b c d j
abbrev ca3 (f:FuncId) (d:Array Value) (w:World) (K:Sl->World->Prop):Prop:=Calls Tryz.prog f d w λb c=>∃a:Sl,b=.returned (a.v)/\K a c
abbrev cf3 (b:List Nat) (f:FuncId) (e:Array Value) (w:World) (K:Sl->World->Prop):Prop:=callF b Tryz.prog f e w λc d=>∃a:Sl,c=.returned (a.v)/\K a d
abbrev ca4 (f:FuncId) (c:Array Value) (w:World) (K:World->Prop):Prop:=Calls Tryz.prog f c w λa b=>a=.returned (.tuple #[])/\K b
abbrev cf4 (a:List Nat) (f:FuncId) (d:Array Value) (w:World) (K:World->Prop):Prop:=callF a Tryz.prog f d w λb c=>b=.returned (.tuple #[])/\K c
abbrev ca9 (f:FuncId) (d:Array Value) (w:World) (K:(Option Addr)->World->Prop):Prop:=Calls Tryz.prog f d w λb c=>∃a:Option Addr,b=.returned (.pointer a)/\K a c
abbrev ca10 (f:FuncId) (d:Array Value) (w:World) (K:Value->World->Prop):Prop:=Calls Tryz.prog f d w λb c=>∃a:Value,b=.returned (a)/\K a c
abbrev ca11 (f:FuncId) (k:Array Value) (w:World) (K:Int->Int->Int->Sl->Int->World->Prop):Prop:=Calls Tryz.prog f k w λg j=>∃a:Int,∃b:Int,∃c:Int,∃d:Sl,∃e:Int,g=.returned (.tuple #[.agg #[.i a,.int .u8 b,.int .u8 c,d.v],.i e])/\K a b c d e j
abbrev cf11 (g:List Nat) (f:FuncId) (l:Array Value) (w:World) (K:Int->Int->Int->Sl->Int->World->Prop):Prop:=callF g Tryz.prog f l w λj k=>∃a:Int,∃b:Int,∃c:Int,∃d:Sl,∃e:Int,j=.returned (.tuple #[.agg #[.i a,.int .u8 b,.int .u8 c,d.v],.i e])/\K a b c d e k
abbrev ca13 (f:FuncId) (d:Array Value) (w:World) (K:Int->World->Prop):Prop:=Calls Tryz.prog f d w λb c=>∃a:Int,b=.returned (.int .u8 a)/\K a c
abbrev cf14 (c:List Nat) (f:FuncId) (g:Array Value) (w:World) (K:Int->Int->World->Prop):Prop:=callF c Tryz.prog f g w λd e=>∃a:Int,∃b:Int,d=.returned (.tuple #[.int .u8 a,.i b])/\K a b e
abbrev ca15 (f:FuncId) (d:Array Value) (w:World) (K:ByteArray->World->Prop):Prop:=Calls Tryz.prog f d w λb c=>∃a:ByteArray,b=.returned (.string a)/\K a c
abbrev cf15 (b:List Nat) (f:FuncId) (e:Array Value) (w:World) (K:ByteArray->World->Prop):Prop:=callF b Tryz.prog f e w λc d=>∃a:ByteArray,c=.returned (.string a)/\K a d
abbrev ca16 (f:FuncId) (l:Array Value) (w:World) (K:Int->Int->Int->Sl->Int->Int->World->Prop):Prop:=Calls Tryz.prog f l w λj k=>∃a:Int,∃b:Int,∃c:Int,∃d:Sl,∃e:Int,∃g:Int,j=.returned (.tuple #[.agg #[.i a,.int .u8 b,.int .u8 c,d.v],.i e,.i g])/\K a b c d e g k
abbrev ca17 (f:FuncId) (g:Array Value) (w:World) (K:Int->Int->Int->World->Prop):Prop:=Calls Tryz.prog f g w λd e=>∃a:Int,∃b:Int,∃c:Int,d=.returned (.agg #[.i a,.i b,.i c])/\K a b c e
abbrev cf17 (d:List Nat) (f:FuncId) (j:Array Value) (w:World) (K:Int->Int->Int->World->Prop):Prop:=callF d Tryz.prog f j w λe g=>∃a:Int,∃b:Int,∃c:Int,e=.returned (.agg #[.i a,.i b,.i c])/\K a b c g
abbrev cf18 (e:List Nat) (f:FuncId) (k:Array Value) (w:World) (K:Int->Int->Int->Bool->World->Prop):Prop:=callF e Tryz.prog f k w λg j=>∃a:Int,∃b:Int,∃c:Int,∃d:Bool,g=.returned (.tuple #[.agg #[.i a,.i b,.i c],.bool d])/\K a b c d j
abbrev cf19 (e:List Nat) (f:FuncId) (k:Array Value) (w:World) (K:Int->Int->Int->Int->World->Prop):Prop:=callF e Tryz.prog f k w λg j=>∃a:Int,∃b:Int,∃c:Int,∃d:Int,g=.returned (.tuple #[.agg #[.i a,.i b,.i c],.i d])/\K a b c d j
abbrev cf20 (d:List Nat) (f:FuncId) (j:Array Value) (w:World) (K:Sl->Int->Int->World->Prop):Prop:=callF d Tryz.prog f j w λe g=>∃a:Sl,∃b:Int,∃c:Int,e=.returned (.tuple #[a.v,.i b,.i c])/\K a b c g
abbrev ca21 (f:FuncId) (o:Array Value) (w:World) (K:Int->Sl->Int->Int->Int->ByteArray->Int->Int->Int->World->Prop):Prop:=Calls Tryz.prog f o w λm n=>∃a:Int,∃b:Sl,∃c:Int,∃d:Int,∃e:Int,∃g:ByteArray,∃j:Int,∃k:Int,∃l:Int,m=.returned (.agg #[.i a,b.v,.i c,.i d,.u e,.string g,.i j,.i k,.i l])/\K a b c d e g j k l n
abbrev cf21 (m:List Nat) (f:FuncId) (p:Array Value) (w:World) (K:Int->Sl->Int->Int->Int->ByteArray->Int->Int->Int->World->Prop):Prop:=callF m Tryz.prog f p w λn o=>∃a:Int,∃b:Sl,∃c:Int,∃d:Int,∃e:Int,∃g:ByteArray,∃j:Int,∃k:Int,∃l:Int,n=.returned (.agg #[.i a,b.v,.i c,.i d,.u e,.string g,.i j,.i k,.i l])/\K a b c d e g j k l o
abbrev cf22 (c:List Nat) (f:FuncId) (g:Array Value) (w:World) (K:ByteArray->Int->World->Prop):Prop:=callF c Tryz.prog f g w λd e=>∃a:ByteArray,∃b:Int,d=.returned (.tuple #[.string a,.i b])/\K a b e
abbrev ca23 (f:FuncId) (e:Array Value) (w:World) (K:Sl->ByteArray->World->Prop):Prop:=Calls Tryz.prog f e w λc d=>∃a:Sl,∃b:ByteArray,c=.returned (.tuple #[a.v,.string b])/\K a b d
abbrev ca24 (f:FuncId) (e:Array Value) (w:World) (K:Int->Value->World->Prop):Prop:=Calls Tryz.prog f e w λc d=>∃a:Int,∃b:Value,c=.returned (.tuple #[.u a,b])/\K a b d
abbrev ca25 (f:FuncId) (e:Array Value) (w:World) (K:Int->Value->World->Prop):Prop:=Calls Tryz.prog f e w λc d=>∃a:Int,∃b:Value,c=.returned (.tuple #[.i a,b])/\K a b d
abbrev ca26 (f:FuncId) (g:Array Value) (w:World) (K:ByteArray->ByteArray->Bool->World->Prop):Prop:=Calls Tryz.prog f g w λd e=>∃a:ByteArray,∃b:ByteArray,∃c:Bool,d=.returned (.tuple #[.string a,.string b,.bool c])/\K a b c e
abbrev ca27 (f:FuncId) (e:Array Value) (w:World) (K:ByteArray->Bool->World->Prop):Prop:=Calls Tryz.prog f e w λc d=>∃a:ByteArray,∃b:Bool,c=.returned (.tuple #[.string a,.bool b])/\K a b d
abbrev cf28 (c:List Nat) (f:FuncId) (g:Array Value) (w:World) (K:Sl->Bool->World->Prop):Prop:=callF c Tryz.prog f g w λd e=>∃a:Sl,∃b:Bool,d=.returned (.tuple #[a.v,.bool b])/\K a b e
abbrev cf29 (c:List Nat) (f:FuncId) (g:Array Value) (w:World) (K:Sl->Int->World->Prop):Prop:=callF c Tryz.prog f g w λd e=>∃a:Sl,∃b:Int,d=.returned (.tuple #[.agg #[a.v],.i b])/\K a b e
abbrev ca30 (f:FuncId) (j:Array Value) (w:World) (K:Sl->Sl->Sl->Sl->Bool->World->Prop):Prop:=Calls Tryz.prog f j w λg i=>∃a:Sl,∃b:Sl,∃c:Sl,∃d:Sl,∃e:Bool,g=.returned (.tuple #[.agg #[a.v,b.v,c.v,d.v],.bool e])/\K a b c d e i
abbrev cf31 (l:List Nat) (f:FuncId) (o:Array Value) (w:World) (K:Int->Int->Int->Sl->ByteArray->Sl->Sl->Bool->World->Prop):Prop:=callF l Tryz.prog f o w λm n=>∃a:Int,∃b:Int,∃c:Int,∃d:Sl,∃e:ByteArray,∃g:Sl,∃j:Sl,∃k:Bool,m=.returned (.tuple #[.agg #[.i a,.i b,.i c,d.v,.string e,g.v,j.v],.bool k])/\K a b c d e g j k n
abbrev cf32 (c:List Nat) (f:FuncId) (g:Array Value) (w:World) (K:Sl->Int->World->Prop):Prop:=callF c Tryz.prog f g w λd e=>∃a:Sl,∃b:Int,d=.returned (.tuple #[a.v,.i b])/\K a b e
abbrev ca33 (f:FuncId) (d:Array Value) (w:World) (K:Int->World->Prop):Prop:=Calls Tryz.prog f d w λb c=>∃a:Int,b=.returned (.u a)/\K a c
abbrev ca34 (f:FuncId) (e:Array Value) (w:World) (K:Sl->Sl->World->Prop):Prop:=Calls Tryz.prog f e w λc d=>∃a:Sl,∃b:Sl,c=.returned (.agg #[a.v,b.v])/\K a b d
abbrev cf34 (c:List Nat) (f:FuncId) (g:Array Value) (w:World) (K:Sl->Sl->World->Prop):Prop:=callF c Tryz.prog f g w λd e=>∃a:Sl,∃b:Sl,d=.returned (.agg #[a.v,b.v])/\K a b e
abbrev ca35 (f:FuncId) (j:Array Value) (w:World) (K:Sl->Sl->Int->Int->World->Prop):Prop:=Calls Tryz.prog f j w λe g=>∃a:Sl,∃b:Sl,∃c:Int,∃d:Int,e=.returned (.tuple #[.agg #[a.v,b.v],.i c,.i d])/\K a b c d g
abbrev cf35 (e:List Nat) (f:FuncId) (k:Array Value) (w:World) (K:Sl->Sl->Int->Int->World->Prop):Prop:=callF e Tryz.prog f k w λg j=>∃a:Sl,∃b:Sl,∃c:Int,∃d:Int,g=.returned (.tuple #[.agg #[a.v,b.v],.i c,.i d])/\K a b c d j
abbrev hdW3 (w:World) (p:Addr) (a b c:Value) (K:Unit->Prop):Prop:=w.cell? (p.add 0)=some a/\w.cell? (p.add 1)=some b/\w.cell? (p.add 2)=some c/\K ()
abbrev stW4 (w:World) (p:Addr) (a b c d:Value) (K:World->Prop):Prop:=stV w p a λw=>stV w (p.add 1) b λw=>stV w (p.add 2) c λw=>stV w (p.add 3) d λw=>K w
abbrev stW7 (w:World) (p:Addr) (a b c d e f g:Value) (K:World->Prop):Prop:=stV w p a λw=>stV w (p.add 1) b λw=>stV w (p.add 2) c λw=>stV w (p.add 3) d λw=>stV w (p.add 4) e λw=>stV w (p.add 5) f λw=>stV w (p.add 6) g λw=>K w
abbrev ty_:Nat:=0
abbrev ty_int:Nat:=3
abbrev ty_bool:Nat:=4
abbrev ty_uint8:Nat:=5
abbrev ty_string:Nat:=9
abbrev ty_sl_int:Nat:=22
abbrev ty_sl_api_LemmaProof:Nat:=23
abbrev ty_sl_api_Step:Nat:=24
abbrev ty_api_Proof:Nat:=26
abbrev ty_api_Step:Nat:=29
abbrev ty_sl_string:Nat:=30
abbrev ty_sl_uint8:Nat:=33
abbrev ty_sl_api_Node:Nat:=43
abbrev ty_api_LemmaProof:Nat:=47
abbrev ty_api_Sort:Nat:=64
abbrev ty_uint64:Nat:=65
abbrev ty_api_Node:Nat:=67
abbrev ty_enthymemeref25_cursor:Nat:=87
abbrev ty_sl_api_Sort:Nat:=102
abbrev ty_proof_cutter:Nat:=112
abbrev ty_6_string:Nat:=117
abbrev ty_sl_enthymemeref04_Regex:Nat:=130
abbrev ty_enthymemeref04_Regex:Nat:=132
abbrev ty_error:Nat:=152
abbrev ty_sl_enthymemeref04_Token:Nat:=196
abbrev ty_enthymemeref04_reader:Nat:=199
abbrev ty_enthymemeref04_Token:Nat:=201
abbrev ty_strconv_Error:Nat:=206
abbrev ty_p_strconv_NumError:Nat:=209
abbrev ty_24_uint8:Nat:=218
abbrev ty_strconv_NumError:Nat:=232
abbrev ty_20_uint64:Nat:=238
abbrev ty_p_uint8:Nat:=247
abbrev ty_regex_Regex:Nat:=253
abbrev n_enthymemelaw25_ProofReads:Nat:=3
abbrev n_enthymemeref25_Some:Nat:=4
abbrev n_enthymemeref25_Lines:Nat:=5
abbrev n_enthymemeref25_Text:Nat:=6
abbrev n_enthymemeref01_Around:Nat:=7
abbrev n_proof_Parse:Nat:=8
abbrev n_enthymemeref25_Parse:Nat:=9
abbrev n_enthymemelaw25_hasBegin:Nat:=10
abbrev n_enthymemeref25_SameProof:Nat:=11
abbrev n_enthymemelaw25_lives:Nat:=12
abbrev n_enthymemeref25_first:Nat:=13
abbrev n_enthymemeref07_Made:Nat:=14
abbrev n_enthymemeref01_Pick:Nat:=15
abbrev n_enthymemeref25_list:Nat:=16
abbrev n_enthymemeref25_hex:Nat:=17
abbrev n_enthymemeref07_Encode:Nat:=18
abbrev n_enthymemeref25_Line:Nat:=19
abbrev n_strings_IndexByte:Nat:=20
abbrev n_proof_readLine:Nat:=21
abbrev n_proof_Valid:Nat:=22
abbrev n_enthymemeref25_Read:Nat:=23
abbrev n_enthymemeref25_Valid:Nat:=24
abbrev n_enthymemeref01_SameBytes:Nat:=25
abbrev n_enthymemeref25_Bytes:Nat:=26
abbrev n_proof_Print:Nat:=27
abbrev n_enthymemeref07_start:Nat:=28
abbrev n_enthymemeref07_node:Nat:=29
abbrev n_enthymemeref07_Add:Nat:=30
abbrev n_enthymemeref07_within:Nat:=31
abbrev n_enthymemeref07_size:Nat:=32
abbrev n_enthymemeref01_Decimal:Nat:=33
abbrev n_enthymemeref02_Int:Nat:=34
abbrev n_enthymemeref02_Ints:Nat:=35
abbrev n_enthymemeref02_Uint:Nat:=36
abbrev n_enthymemeref02_Raw:Nat:=37
abbrev n_enthymemeref25_words:Nat:=38
abbrev n_internal_stringslite_IndexByte:Nat:=39
abbrev n_proof_readBegin:Nat:=40
abbrev n_proof_readStep:Nat:=41
abbrev n_proof_validLemma:Nat:=42
abbrev n_proof_validStep:Nat:=43
abbrev n_enthymemeref25_cursor_word:Nat:=44
abbrev n_enthymemeref25_cursor_take:Nat:=45
abbrev n_enthymemeref25_cursor_number:Nat:=46
abbrev n_enthymemeref25_cursor_list:Nat:=47
abbrev n_enthymemeref25_Lemma:Nat:=48
abbrev n_enthymemeref25_Step:Nat:=49
abbrev n_enthymemeref25_LemmaBytes:Nat:=50
abbrev n_enthymemeref25_steps:Nat:=51
abbrev n_term_Encode:Nat:=52
abbrev n_proof_appendLine:Nat:=53
abbrev n_proof_listText:Nat:=54
abbrev n_proof_hexText:Nat:=55
abbrev n_proof_appendSteps:Nat:=56
abbrev n_enthymemeref07_BV:Nat:=57
abbrev n_enthymemeref07_Strings:Nat:=58
abbrev n_enthymemeref04_Text:Nat:=59
abbrev n_enthymemeref07_Kids:Nat:=60
abbrev n_enthymemeref07_Like:Nat:=61
abbrev n_enthymemeref07_wanted:Nat:=62
abbrev n_enthymemeref07_SortOf:Nat:=63
abbrev n_enthymemeref07_Index:Nat:=64
abbrev n_enthymemeref02_Zigzag:Nat:=65
abbrev n_internal_bytealg_IndexByteString:Nat:=66
abbrev n_proof_cutter_word:Nat:=67
abbrev n_proof_cutter_list:Nat:=68
abbrev n_proof_cutter_space:Nat:=69
abbrev n_proof_readHex:Nat:=70
abbrev n_term_Decode:Nat:=71
abbrev n_proof_cutter_number:Nat:=72
abbrev n_clause_Valid:Nat:=74
abbrev n_proof_isName:Nat:=75
abbrev n_enthymemeref14_Valid:Nat:=77
abbrev n_enthymemeref07_Named:Nat:=78
abbrev n_strconv_AppendInt:Nat:=82
abbrev n_strconv_Itoa:Nat:=83
abbrev n_enthymemeref04_Everything:Nat:=84
abbrev n_enthymemeref04_Write:Nat:=85
abbrev n_enthymemeref04_simple:Nat:=86
abbrev n_enthymemeref07_Element:Nat:=87
abbrev n_enthymemeref07_fields:Nat:=88
abbrev n_enthymemeref07_leaf:Nat:=89
abbrev n_enthymemeref07_fit:Nat:=90
abbrev n_enthymemeref07_result:Nat:=91
abbrev n_enthymemeref04_Canonical:Nat:=92
abbrev n_enthymemeref07_Same:Nat:=93
abbrev n_strings_Cut:Nat:=94
abbrev n_strings_CutPrefix:Nat:=95
abbrev n_strings_Split:Nat:=96
abbrev n_strconv_Atoi:Nat:=103
abbrev n_clause_listError:Nat:=108
abbrev n_clause_variable:Nat:=109
abbrev n_enthymemeref14_List:Nat:=110
abbrev n_enthymemeref14_Var:Nat:=111
abbrev n_internal_strconv_AppendInt:Nat:=116
abbrev n_internal_strconv_Itoa:Nat:=117
abbrev n_enthymemeref04_binds:Nat:=118
abbrev n_enthymemeref04_Byte:Nat:=119
abbrev n_enthymemeref04_low:Nat:=120
abbrev n_enthymemeref04_normal:Nat:=121
abbrev n_enthymemeref07_has:Nat:=122
abbrev n_enthymemeref06_ValidSort:Nat:=123
abbrev n_enthymemeref04_Parse:Nat:=124
abbrev n_enthymemeref04_Normal:Nat:=125
abbrev n_enthymemeref01_SameInts:Nat:=126
abbrev n_internal_stringslite_Cut:Nat:=127
abbrev n_internal_stringslite_CutPrefix:Nat:=128
abbrev n_strings_genSplit:Nat:=129
abbrev n_internal_strconv_Atoi:Nat:=133
abbrev n_strconv_toError:Nat:=134
abbrev n_clause_isLiteral:Nat:=138
abbrev n_internal_strconv_AppendUint:Nat:=139
abbrev n_internal_strconv_FormatInt:Nat:=140
abbrev n_enthymemeref04_plain:Nat:=141
abbrev n_enthymemeref04_digit:Nat:=142
abbrev n_enthymemeref04_Compare:Nat:=143
abbrev n_enthymemeref04_put:Nat:=144
abbrev n_enthymemeref01_Has:Nat:=145
abbrev n_enthymemeref06_within:Nat:=146
abbrev n_enthymemeref04_Tokens:Nat:=147
abbrev n_enthymemeref04_reader_expr:Nat:=148
abbrev n_enthymemeref04_reader_need:Nat:=149
abbrev n_enthymemeref04_Nodes:Nat:=150
abbrev n_enthymemeref04_Valid:Nat:=151
abbrev n_enthymemeref04_few:Nat:=152
abbrev n_internal_stringslite_Index:Nat:=153
abbrev n_internal_stringslite_HasPrefix:Nat:=154
abbrev n_strings_explode:Nat:=155
abbrev n_strings_Count:Nat:=156
abbrev n_strings_Index:Nat:=157
abbrev n_internal_strconv_ParseInt:Nat:=158
abbrev n_strconv_syntaxError:Nat:=159
abbrev n_strconv_rangeError:Nat:=160
abbrev n_strconv_baseError:Nat:=161
abbrev n_strconv_bitSizeError:Nat:=162
abbrev n_internal_strconv_small:Nat:=169
abbrev n_internal_strconv_numDigits:Nat:=170
abbrev n_internal_strconv_formatBase10:Nat:=171
abbrev n_internal_strconv_formatBits:Nat:=172
abbrev n_enthymemeref04_rangeAt:Nat:=173
abbrev n_enthymemeref04_reader_conj:Nat:=174
abbrev n_enthymemeref04_reader_take:Nat:=175
abbrev n_enthymemeref04_group:Nat:=176
abbrev n_enthymemeref04_good:Nat:=177
abbrev n_internal_bytealg_IndexString:Nat:=178
abbrev n_internal_bytealg_Cutover:Nat:=179
abbrev n_internal_bytealg_IndexRabinKarp_string:Nat:=180
abbrev n_unicode_utf8_RuneCountInString:Nat:=181
abbrev n_internal_bytealg_CountString:Nat:=183
abbrev n_internal_strconv_ParseUint:Nat:=184
abbrev n_internal_stringslite_Clone:Nat:=185
abbrev n_internal_strconv_log10Pow2:Nat:=197
abbrev n_math_bits_Len64:Nat:=198
abbrev n_internal_strconv_bool2_int:Nat:=199
abbrev n_enthymemeref04_byteAt:Nat:=202
abbrev n_enthymemeref04_reader_seq:Nat:=203
abbrev n_enthymemeref04_reader_see:Nat:=204
abbrev n_internal_strconv_lower:Nat:=207
abbrev n_internal_strconv_underscoreOK:Nat:=208
abbrev n_enthymemeref04_number:Nat:=214
abbrev n_enthymemeref04_reader_item:Nat:=215
abbrev n_enthymemeref04_reader_begins:Nat:=216
abbrev n_enthymemeref04_reader_atom:Nat:=227
abbrev n_regex_forms_1:Nat:=240
abbrev n_regex_forms_2:Nat:=241
abbrev n_regex_forms_2_1:Nat:=242
abbrev n_regex_forms_3:Nat:=250
abbrev n_regex_forms_4:Nat:=251
abbrev n_enthymemeref04_reader_kids:Nat:=253
abbrev n_cmp_Or_int:Nat:=262
namespace enthymemeref01_Around
noncomputable abbrev X:Fx:=⟨Tryz.prog,Tryz.f7,[],[]⟩
abbrev P0:Ps:=[(0,.v [.I]),(1,.v [.I])]
abbrev S0 (b a:Int) (w:World) (R:Post):Prop:=
 a≠0/\R (.returned (.i (Int.tmod b a))) w
noncomputable def eS0:=entS X [] (pth [2]) P0 S0
theorem ok (b a:Int) (w:World) (R:Post) (h:sel (decide (b<0)) (S0 (IntKind.wrap .i64 (0 - (IntKind.wrap .i64 (b+1)))) a w R) (S0 b a w R)):Calls Tryz.prog n_enthymemeref01_Around #[.i b,.i a] w R:=callsX X [eS0] h
end enthymemeref01_Around
namespace enthymemeref01_Has
noncomputable abbrev X:Fx:=⟨Tryz.prog,Tryz.f145,[],[]⟩
abbrev P0:Ps:=[(0,.v [.s]),(1,.v [.I]),(5,.v [.I])]
def L0 (b:Sl) (c a:Int) (w:World) (R:Post):Prop:=mkCur P0 0 (X.Sem (pth [0,1,1,1,1])) b c a w R
noncomputable def eL0:=entL X (pth [0,1,1,1,1]) P0 L0
theorem L0_step:∀(c:Sl) (f b:Int) (w:World) (R:Post) (h:sel (decide (b<((c.n:Nat):Int))) ((0:Int)<=b/\b<((c.n:Nat):Int)/\optP c.a λd=>∃e:Int,w.cell? (d.add (Int.toNat b *1))=some (.i e)/\
 sel (e==f) (R (.returned (.bool true)) w) (L0 c f (IntKind.wrap .i64 (b+1)) w R)) (R (.returned (.bool false)) w)),L0 c f b w R:=mp (stepL (X:=X) [eL0] (pth [0,1,1,1,1]) P0)
theorem ok (a:Sl) (b:Int) (w:World) (R:Post) (h:L0 a b 0 w R):Calls Tryz.prog n_enthymemeref01_Has #[a.v,.i b] w R:=callsX X [eL0] h
end enthymemeref01_Has
namespace enthymemeref01_SameInts
noncomputable abbrev X:Fx:=⟨Tryz.prog,Tryz.f126,[(6,ls [0,1,2,3,4,5,6,7,8])],[]⟩
abbrev P0:Ps:=[(0,.v [.s]),(1,.v [.s]),(5,.v [.I])]
def L0 (a b:Sl) (c:Int) (w:World) (R:Post):Prop:=mkCur P0 0 (X.Sem (pth [0,1,1,1,2])) a b c w R
noncomputable def eL0:=entL X (pth [0,1,1,1,2]) P0 L0
theorem L0_step:∀(c d:Sl) (b:Int) (w:World) (R:Post) (h:sel (decide (b<((c.n:Nat):Int))) (drV w λg=>(0:Int)<=b/\b<((c.n:Nat):Int)/\optP c.a λe=>∃j:Int,g.cell? (e.add (Int.toNat b *1))=some (.i j)/\
 (0:Int)<=b/\b<((d.n:Nat):Int)/\optP d.a λf=>∃k:Int,g.cell? (f.add (Int.toNat b *1))=some (.i k)/\
 sel (j !=k) (R (.returned (.bool false)) g) (L0 c d (IntKind.wrap .i64 (b+1)) g R)) (R (.returned (.bool true)) w)),L0 c d b w R:=mp (stepL (X:=X) [eL0] (pth [0,1,1,1,2]) P0)
theorem ok (a b:Sl) (w:World) (R:Post) (h:sel (((a.n:Nat):Int) !=((b.n:Nat):Int)) (R (.returned (.bool false)) w) (L0 a b 0 w R)):Calls Tryz.prog n_enthymemeref01_SameInts #[a.v,b.v] w R:=callsX X [eL0] h
end enthymemeref01_SameInts
namespace enthymemeref01_SameBytes
noncomputable abbrev X:Fx:=⟨Tryz.prog,Tryz.f25,[(6,ls [0,1,2,3,4,5,6,7,8])],[]⟩
abbrev P0:Ps:=[(0,.v [.s]),(1,.v [.s]),(5,.v [.I])]
def L0 (a b:Sl) (c:Int) (w:World) (R:Post):Prop:=mkCur P0 0 (X.Sem (pth [0,1,1,1,2])) a b c w R
noncomputable def eL0:=entL X (pth [0,1,1,1,2]) P0 L0
theorem L0_step:∀(c d:Sl) (b:Int) (w:World) (R:Post) (h:sel (decide (b<((c.n:Nat):Int))) (drV w λg=>(0:Int)<=b/\b<((c.n:Nat):Int)/\optP c.a λe=>∃i:Int,g.cell? (e.add (Int.toNat b *1))=some (.int .u8 i)/\
 (0:Int)<=b/\b<((d.n:Nat):Int)/\optP d.a λf=>∃j:Int,g.cell? (f.add (Int.toNat b *1))=some (.int .u8 j)/\
 sel (i !=j) (R (.returned (.bool false)) g) (L0 c d (IntKind.wrap .i64 (b+1)) g R)) (R (.returned (.bool true)) w)),L0 c d b w R:=mp (stepL (X:=X) [eL0] (pth [0,1,1,1,2]) P0)
theorem ok (a b:Sl) (w:World) (R:Post) (h:sel (((a.n:Nat):Int) !=((b.n:Nat):Int)) (R (.returned (.bool false)) w) (L0 a b 0 w R)):Calls Tryz.prog n_enthymemeref01_SameBytes #[a.v,b.v] w R:=callsX X [eL0] h
end enthymemeref01_SameBytes
namespace cmp_Or_int
noncomputable abbrev X:Fx:=⟨Tryz.prog,Tryz.f262,[],[]⟩
abbrev P0:Ps:=[(3,.v [.I]),(6,.v [.s]),(7,.v [.I]),(8,.v [.I])]
def L0 (a:Int) (b:Sl) (c d:Int) (w:World) (R:Post):Prop:=mkCur P0 0 (X.Sem (pth [0,1,1,1,2])) a b c d w R
noncomputable def eL0:=entL X (pth [0,1,1,1,2]) P0 L0
theorem L0_step:∀(b:Int) (f:Sl) (g c:Int) (w:World) (R:Post) (h:sel (decide (c<g)) ((0:Int)<=c/\c<((f.n:Nat):Int)/\optP f.a λe=>∃d:Int,w.cell? (e.add (Int.toNat c *1))=some (.i d)/\
 sel (d !=b) (R (.returned (.i d)) w) (L0 b f g (IntKind.wrap .i64 (c+1)) w R)) (R (.returned (.i b)) w)),L0 b f g c w R:=mp (stepL (X:=X) [eL0] (pth [0,1,1,1,2]) P0)
theorem ok (a:Sl) (w:World) (R:Post) (h:L0 0 a ((a.n:Nat):Int) 0 w R):Calls Tryz.prog n_cmp_Or_int #[a.v] w R:=callsX X [eL0] h
end cmp_Or_int
namespace regex_forms_2
noncomputable abbrev X:Fx:=⟨Tryz.prog,Tryz.f241,[],[]⟩
theorem ok (a b c:Int) (d:Sl) (e f g:Int) (j:Sl) (w:World) (R:Post) (h:nwV w (.cells #[.i a,.int .u8 b,.int .u8 c,d.v] ty_regex_Regex) λk=>
 nwV k (.cells #[.i e,.int .u8 f,.int .u8 g,j.v] ty_regex_Regex) λl=>
 R (.returned (.func (.func n_regex_forms_2_1) #[] #[.pointer (some (nb w)),.pointer (some (nb k))])) l):Calls Tryz.prog n_regex_forms_2 #[.agg #[.i a,.int .u8 b,.int .u8 c,d.v],.agg #[.i e,.int .u8 f,.int .u8 g,j.v]] w R:=callsX X [] h
end regex_forms_2
namespace regex_forms
noncomputable def C0:Code:=(Tryz.f225.body).getD .skip
noncomputable def C1:=C0.sn
noncomputable def C2:=C1.sn
noncomputable def C3:=C2.sn
noncomputable def C4:=C3.sn
noncomputable def C5:=C4.sn
noncomputable def C6:=C5.sn
end regex_forms
abbrev litVS0:ByteArray:=ByteArray.mk #[0,1,2,2,3,3,3,3,4,4,4,4,4,4,4,4,5,5,5,5,5,5,5,5,5,5,5,5,5,5,5,5,6,6,6,6,6,6,6,6,6,6,6,6,6,6,6,6,6,6,6,6,6,6,6,6,6,6,6,6,6,6,6,6,7,7,7,7,7,7,7,7,7,7,7,7,7,7,7,7,7,7,7,7,7,7,7,7,7,7,7,7,7,7,7,7,7,7,7,7,7,7,7,7,7,7,7,7,7,7,7,7,7,7,7,7,7,7,7,7,7,7,7,7,7,7,7,7,8,8,8,8,8,8,8,8,8,8,8,8,8,8,8,8,8,8,8,8,8,8,8,8,8,8,8,8,8,8,8,8,8,8,8,8,8,8,8,8,8,8,8,8,8,8,8,8,8,8,8,8,8,8,8,8,8,8,8,8,8,8,8,8,8,8,8,8,8,8,8,8,8,8,8,8,8,8,8,8,8,8,8,8,8,8,8,8,8,8,8,8,8,8,8,8,8,8,8,8,8,8,8,8,8,8,8,8,8,8,8,8,8,8,8,8,8,8,8,8,8,8,8,8,8,8,8,8]
namespace math_bits_Len64
noncomputable abbrev X:Fx:=⟨Tryz.prog,Tryz.f198,[],[]⟩
abbrev P0:Ps:=[(0,.v [.U]),(2,.v [.I])]
abbrev S2 (b c:Int) (w:World) (R:Post):Prop:=
 (0:Int)<=(IntKind.wrap .u8 b)/\∃a:UInt8,litVS0[Int.toNat (IntKind.wrap .u8 b)]? =some a/\R (.returned (.i (IntKind.wrap .i64 (c+(IntKind.wrap .i64 ((a.toNat:Nat):Int)))))) w
noncomputable def eS2:=entS X [] (pth [4]) P0 S2
abbrev S1 (a b:Int) (w:World) (R:Post):Prop:=
 sel (decide (a>=256)) (S2 (Int.fdiv a (2^(8))) (IntKind.wrap .i64 (b+8)) w R) (S2 a b w R)
noncomputable def eS1:=entS X [eS2] (pth [3]) P0 S1
abbrev S0 (a b:Int) (w:World) (R:Post):Prop:=
 sel (decide (a>=65536)) (S1 (Int.fdiv a (2^(16))) (IntKind.wrap .i64 (b+16)) w R) (S1 a b w R)
noncomputable def eS0:=entS X [eS1,eS2] (pth [2]) P0 S0
theorem ok (a:Int) (w:World) (R:Post) (h:sel (decide (a>=4294967296)) (S0 (Int.fdiv a (2^(32))) 32 w R) (S0 a 0 w R)):Calls Tryz.prog n_math_bits_Len64 #[.u a] w R:=callsX X [eS0,eS1,eS2] h
end math_bits_Len64
namespace enthymemeref04_Compare
noncomputable abbrev X:Fx:=⟨Tryz.prog,Tryz.f143,[(6,ls [0,1,2,3,4,5,6,7,8]),(8,ls [0,1,2,3,4,5,6,7,8]),(13,ls [0,1,2,3,4,5,6,7,8,9,10,11])],[2,3]⟩
abbrev P0:Ps:=[(2,.l [.I,.Y,.Y,.s] ty_enthymemeref04_Regex),(3,.l [.I,.Y,.Y,.s] ty_enthymemeref04_Regex),(5,.v [.s]),(6,.v [.s]),(7,.v [.I])]
def L0T (j:Nat) (a b c:Int) (d:Sl) (k:Nat) (e f g:Int) (i m n:Sl) (l:Int) (w:World) (R:Post):Prop:=mkCur P0 0 (X.Sem (pth [0,1,1,1,3])) j a b c d k e f g i m n l w R
noncomputable def eL0:=entL X (pth [0,1,1,1,3]) P0 L0T
abbrev P1:Ps:=[(2,.l [.I,.Y,.Y,.s] ty_enthymemeref04_Regex),(3,.l [.I,.Y,.Y,.s] ty_enthymemeref04_Regex),(8,.v [.I])]
def L1T (j:Nat) (a b c:Int) (d:Sl) (k:Nat) (e f g:Int) (i:Sl) (l:Int) (w:World) (R:Post):Prop:=mkCur P1 0 (X.Sem (pth [0,1,1,1,4])) j a b c d k e f g i l w R
noncomputable def eL1:=entL X (pth [0,1,1,1,4]) P1 L1T
abbrev P2:Ps:=[(2,.l [.I,.Y,.Y,.s] ty_enthymemeref04_Regex),(3,.l [.I,.Y,.Y,.s] ty_enthymemeref04_Regex)]
abbrev S2T (k:Nat) (c d e:Int) (a:Sl) (l:Nat) (f g j:Int) (b:Sl) (w:World) (R:Post):Prop:=
 sel (decide (((a.n:Nat):Int)<((b.n:Nat):Int))) (R (.returned (.i (-1))) w) (sel (decide (((a.n:Nat):Int)>((b.n:Nat):Int))) (R (.returned (.i 1)) w) (R (.returned (.i 0)) w))
noncomputable def eS2:=entS X [eL1,eL0] (pth [5]) P2 S2T
theorem L1T_step:∀(m:Nat) (e f g:Int) (b:Sl) (o:Nat) (j k l:Int) (c:Sl) (d:Int) (w:World) (R:Post) (h:sel (decide (d<((b.n:Nat):Int))) (sel (decide (d<((c.n:Nat):Int))) ((0:Int)<=d/\d<((b.n:Nat):Int)/\optP b.a λp=>loc [m,o] w λw7=>ld4_0 w7 (p.add (Int.toNat d *4)) λq r s t=>(0:Int)<=d/\d<((c.n:Nat):Int)/\optP c.a λu=>ld4_0 w7 (u.add (Int.toNat d *4)) λx y z aa=>cf1 [m,o] n_enthymemeref04_Compare #[.agg #[.i q,.int .u8 r,.int .u8 s,t.v],.agg #[.i x,.int .u8 y,.int .u8 z,aa.v]] w7 λab w8=>sel (ab !=0) (R (.returned (.i ab)) w8) (L1T m e f g b o j k l c (IntKind.wrap .i64 (d+1)) w8 R)) (S2T m e f g b o j k l c w R)) (S2T m e f g b o j k l c w R)),L1T m e f g b o j k l c d w R:=mp (stepL (X:=X) [eS2,eL1,eL0] (pth [0,1,1,1,4]) P1)
theorem L0T_step:∀(p:Nat) (c d e:Int) (f:Sl) (q:Nat) (g j k:Int) (l m o:Sl) (b:Int) (w:World) (R:Post) (h:sel (decide (b<3)) ((0:Int)<=b/\b<((m.n:Nat):Int)/\optP m.a λr=>loc [p,q] w λv=>∃y:Int,v.cell? (r.add (Int.toNat b *1))=some (.i y)/\
 (0:Int)<=b/\b<((o.n:Nat):Int)/\optP o.a λs=>∃z:Int,v.cell? (s.add (Int.toNat b *1))=some (.i z)/\
 sel (decide (y<z)) (R (.returned (.i (-1))) v) ((0:Int)<=b/\b<((m.n:Nat):Int)/\optP m.a λt=>loc [p,q] v λx=>∃aa:Int,x.cell? (t.add (Int.toNat b *1))=some (.i aa)/\
 (0:Int)<=b/\b<((o.n:Nat):Int)/\optP o.a λu=>∃ab:Int,x.cell? (u.add (Int.toNat b *1))=some (.i ab)/\
 sel (decide (aa>ab)) (R (.returned (.i 1)) x) (L0T p c d e f q g j k l m o (IntKind.wrap .i64 (b+1)) x R))) (L1T p c d e f q g j k l 0 w R)),L0T p c d e f q g j k l m o b w R:=mp (stepL (X:=X) [eS2,eL1,eL0] (pth [0,1,1,1,3]) P0)
theorem okT (a b c:Int) (g:Sl) (d e f:Int) (j:Sl) (w:World) (R:Post) (h:newV [] w λk o=>
 newV [k] o λn l=>
 nwV l (.cells #[.i a,.i (IntKind.wrap .i64 b),.i (IntKind.wrap .i64 c)] ty_int) λm=>
 nwV m (.cells #[.i d,.i (IntKind.wrap .i64 e),.i (IntKind.wrap .i64 f)] ty_int) λp=>
 L0T k a b c g n d e f j ⟨some (nb l),3,3⟩ ⟨some (nb m),3,3⟩ 0 p R):Calls Tryz.prog n_enthymemeref04_Compare #[.agg #[.i a,.int .u8 b,.int .u8 c,g.v],.agg #[.i d,.int .u8 e,.int .u8 f,j.v]] w R:=callsX X [eS2,eL1,eL0] h
end enthymemeref04_Compare
namespace enthymemeref04_Nodes
noncomputable abbrev X:Fx:=⟨Tryz.prog,Tryz.f150,[],[1]⟩
abbrev P0:Ps:=[(1,.l [.I,.Y,.Y,.s] ty_enthymemeref04_Regex),(3,.v [.I]),(4,.v [.I])]
def L0T (g:Nat) (a b c:Int) (d:Sl) (f e:Int) (w:World) (R:Post):Prop:=mkCur P0 0 (X.Sem (pth [0,1,1,1,2])) g a b c d f e w R
noncomputable def eL0:=entL X (pth [0,1,1,1,2]) P0 L0T
abbrev S1T (g:Nat) (a b c:Int) (d:Sl) (f e:Int) (w:World) (R:Post):Prop:=
 L0T g a b c d f (IntKind.wrap .i64 (e+1)) w R
noncomputable def eS1:=entS X [eL0] (pth [2,2,1,1,2]) P0 S1T
theorem L0T_step:∀(p:Nat) (d e f:Int) (b:Sl) (o c:Int) (w:World) (R:Post) (h:sel (decide (c<((b.n:Nat):Int))) ((0:Int)<=c/\c<((b.n:Nat):Int)/\optP b.a λg=>ld4_0 w (g.add (Int.toNat c *4)) λj k l m=>cf1 [p] n_enthymemeref04_Nodes #[.agg #[.i j,.int .u8 k,.int .u8 l,m.v]] w λq r=>S1T p d e f b (IntKind.wrap .i64 (o+q)) c r R) (R (.returned (.i o)) w)),L0T p d e f b o c w R:=mp (stepL (X:=X) [eS1,eL0] (pth [0,1,1,1,2]) P0)
theorem okT (a b c:Int) (d:Sl) (w:World) (R:Post) (h:newV [] w λe f=>
 L0T e a b c d 1 0 f R):Calls Tryz.prog n_enthymemeref04_Nodes #[.agg #[.i a,.int .u8 b,.int .u8 c,d.v]] w R:=callsX X [eS1,eL0] h
end enthymemeref04_Nodes
namespace enthymemeref04_good
noncomputable abbrev X:Fx:=⟨Tryz.prog,Tryz.f177,[(3,ls [0,1,2,3,4,5,6,7,8,9,10,11,12,13,14,15,16,17,18,19,20,21,22,23,24,25,26,27,28,29])],[1]⟩
abbrev P0:Ps:=[]
abbrev S0T (w:World) (R:Post):Prop:=
 R (.returned (.bool false)) w
noncomputable def eS0:=entS X [] (pth [0,1,1,1,3]) P0 S0T
abbrev S1T (w:World) (R:Post):Prop:=
 R (.returned (.bool false)) w
noncomputable def eS1:=entS X [eS0] (pth [0,1,1,1,4]) P0 S1T
abbrev P1:Ps:=[(1,.l [.I,.Y,.Y,.s] ty_enthymemeref04_Regex),(5,.v [.I])]
def L3T (f:Nat) (a b c:Int) (d:Sl) (e:Int) (w:World) (R:Post):Prop:=mkCur P1 0 (X.Sem (pth [0,1,1,1,5])) f a b c d e w R
noncomputable def eL3:=entL X (pth [0,1,1,1,5]) P1 L3T
theorem L3T_step:∀(o:Nat) (d e f:Int) (b:Sl) (c:Int) (w:World) (R:Post) (h:sel (decide (c<((b.n:Nat):Int))) ((0:Int)<=c/\c<((b.n:Nat):Int)/\optP b.a λg=>ld4_0 w (g.add (Int.toNat c *4)) λj k l m=>cf0 [o] n_enthymemeref04_good #[.agg #[.i j,.int .u8 k,.int .u8 l,m.v]] w λp q=>sel (!p) (R (.returned (.bool false)) q) (L3T o d e f b (IntKind.wrap .i64 (c+1)) q R)) (R (.returned (.bool true)) w)),L3T o d e f b c w R:=mp (stepL (X:=X) [eL3,eS1,eS0] (pth [0,1,1,1,5]) P1)
abbrev P2:Ps:=[(1,.l [.I,.Y,.Y,.s] ty_enthymemeref04_Regex)]
abbrev S2T (e:Nat) (a b c:Int) (d:Sl) (w:World) (R:Post):Prop:=
 L3T e a b c d 0 w R
noncomputable def eS2:=entS X [eL3,eS1,eS0] (pth [5]) P2 S2T
theorem okT (a e c:Int) (d:Sl) (w:World) (R:Post) (h:newV [] w λf o=>
 nwV o (.cells #[.i 0,.i 0,.i 0,.i 64,.i 64,.i 64,.i 1,.i 1] ty_int) λp=>
 nwV p (.cells #[.i 0,.i 0,.i 0,.i 0,.i 0,.i 0,.i 1,.i 1] ty_int) λm=>
 sel (decide (a<0)) (loc [f] m λb=>S0T b R) (sel (decide (a>7)) (loc [f] m λb=>S0T b R) ((0:Int)<=a/\a<((8:Nat):Int)/\optP (some (nb p)) λg=>loc [f] m λb=>∃k:Int,b.cell? (g.add (Int.toNat a *1))=some (.i k)/\
 sel (decide (((d.n:Nat):Int)<k)) (S0T b R) ((0:Int)<=a/\a<((8:Nat):Int)/\optP (some (nb o)) λj=>∃l:Int,b.cell? (j.add (Int.toNat a *1))=some (.i l)/\
 sel (decide (((d.n:Nat):Int)>l)) (S0T b R) (sel (decide (e>c)) (S1T b R) (sel (a !=2) (sel (decide (c>0)) (S1T b R) (S2T f a e c d b R)) (S2T f a e c d b R))))))):Calls Tryz.prog n_enthymemeref04_good #[.agg #[.i a,.int .u8 e,.int .u8 c,d.v]] w R:=callsX X [eS2,eL3,eS1,eS0] h
end enthymemeref04_good
namespace enthymemeref04_Valid
noncomputable abbrev X:Fx:=⟨Tryz.prog,Tryz.f151,[],[1]⟩
theorem okT (a b c:Int) (d:Sl) (w:World) (R:Post) (h:newV [] w λe l=>
 cf1 [e] n_enthymemeref04_Nodes #[.agg #[.i a,.int .u8 b,.int .u8 c,d.v]] l λj f=>sel (decide (j>64)) (R (.returned (.i 4)) f) (cf0 [e] n_enthymemeref04_good #[.agg #[.i a,.int .u8 b,.int .u8 c,d.v]] f λk g=>sel (!k) (R (.returned (.i 1)) g) (R (.returned (.i 0)) g))):Calls Tryz.prog n_enthymemeref04_Valid #[.agg #[.i a,.int .u8 b,.int .u8 c,d.v]] w R:=callsX X [] h
end enthymemeref04_Valid
namespace enthymemeref04_Everything
noncomputable abbrev X:Fx:=⟨Tryz.prog,Tryz.f84,[],[0]⟩
theorem okT (w:World) (R:Post) (h:newV [] w λb a=>
 nwV a (.cells #[.i 0,.int .u8 0,.int .u8 0,.slice none 0 0] ty_enthymemeref04_Regex) λc=>
 loc [b] c λd=>R (.returned (.agg #[.i 6,.int .u8 0,.int .u8 0,.slice (some (nb a)) 1 1])) d):Calls Tryz.prog n_enthymemeref04_Everything #[] w R:=callsX X [] h
end enthymemeref04_Everything
namespace enthymemeref04_put
noncomputable abbrev X:Fx:=⟨Tryz.prog,Tryz.f144,[(2,ls [0,1,2,3,4,5,6,7,8,9,10,11,12]),(4,ls [0,1,2,3,4,5,6,7,8,9,10,11,12]),(7,(.sq [0,1,2,3,5] (.fork (ls [4,6,7,8]) (ls [6,4,7,8]))))],[3]⟩
abbrev P0:Ps:=[(0,.v [.s]),(3,.l [.I,.Y,.Y,.s] ty_enthymemeref04_Regex),(5,.v [.I])]
def L0T (f:Sl) (g:Nat) (a b c:Int) (d:Sl) (e:Int) (w:World) (R:Post):Prop:=mkCur P0 0 (X.Sem (pth [0,2,2])) f g a b c d e w R
noncomputable def eL0:=entL X (pth [0,2,2]) P0 L0T
abbrev P1:Ps:=[(0,.v [.s]),(5,.v [.I]),(6,.v [.s])]
abbrev S3T (d:Sl) (b:Int) (f:Sl) (w:World) (R:Post):Prop:=
 (0:Int)<=b/\b<=((d.n:Nat):Int)/\∃(e:Sl) (g:World),Sem.run Tryz.prog (Builtin.append_ #[ty_sl_enthymemeref04_Regex,ty_sl_enthymemeref04_Regex] ty_sl_enthymemeref04_Regex #[f.v,.slice (if d.c=(Int.toNat b) then d.a else d.a.map (·.add ((Int.toNat b) *4))) (d.n - (Int.toNat b)) (d.c - (Int.toNat b))]) w=.ok (e.v) g/\R (.returned (e.v)) g
noncomputable def eS3:=entS X [eL0] (pth [6]) P1 S3T
abbrev S2T (b:Sl) (g:Nat) (j k l:Int) (m:Sl) (f:Int) (w:World) (R:Post):Prop:=
 (0:Int)<=f/\f<=((b.c:Nat):Int)/\((loc [g] w λn=>∃(q:Sl) (o:World),Sem.run Tryz.prog (Builtin.append_ #[ty_sl_enthymemeref04_Regex,ty_sl_enthymemeref04_Regex] ty_sl_enthymemeref04_Regex #[.slice none 0 0,.slice (if b.c=0 then b.a else b.a.map (·.add (0 *4))) ((Int.toNat f) - 0) (b.c - 0)]) n=.ok (q.v) o/\kept [g] n o/\nwV o (.cells #[.i j,.int .u8 k,.int .u8 l,m.v] ty_enthymemeref04_Regex) λu=>
 ∃(r:Sl) (s:World),Sem.run Tryz.prog (Builtin.append_ #[ty_sl_enthymemeref04_Regex,ty_sl_enthymemeref04_Regex] ty_sl_enthymemeref04_Regex #[q.v,.slice (some (nb o)) 1 1]) u=.ok (r.v) s/\kept [g] u s/\S3T b f r s R)/\(loc [g] w λn=>nwV n (.cells #[.i j,.int .u8 k,.int .u8 l,m.v] ty_enthymemeref04_Regex) λx=>
 ∃(d:Sl) (p:World),Sem.run Tryz.prog (Builtin.append_ #[ty_sl_enthymemeref04_Regex,ty_sl_enthymemeref04_Regex] ty_sl_enthymemeref04_Regex #[.slice none 0 0,.slice (if b.c=0 then b.a else b.a.map (·.add (0 *4))) ((Int.toNat f) - 0) (b.c - 0)]) x=.ok (d.v) p/\kept [g] x p/\∃(e:Sl) (t:World),Sem.run Tryz.prog (Builtin.append_ #[ty_sl_enthymemeref04_Regex,ty_sl_enthymemeref04_Regex] ty_sl_enthymemeref04_Regex #[d.v,.slice (some (nb n)) 1 1]) p=.ok (e.v) t/\kept [g] p t/\S3T b f e t R))
noncomputable def eS2:=entS X [eS3,eL0] (pth [4]) P0 S2T
abbrev S1T (g:Sl) (j:Nat) (b c d:Int) (e:Sl) (f:Int) (w:World) (R:Post):Prop:=
 sel (decide (f<((g.n:Nat):Int))) ((0:Int)<=f/\f<((g.n:Nat):Int)/\optP g.a λk=>loc [j] w λq=>ld4_0 q (k.add (Int.toNat f *4)) λl m o p=>cf1 [j] n_enthymemeref04_Compare #[.agg #[.i l,.int .u8 m,.int .u8 o,p.v],.agg #[.i b,.int .u8 c,.int .u8 d,e.v]] q λr s=>sel (r==0) (R (.returned (g.v)) s) (S2T g j b c d e f s R)) (loc [j] w λq=>S2T g j b c d e f q R)
noncomputable def eS1:=entS X [eS2,eS3,eL0] (pth [3]) P0 S1T
theorem L0T_step:∀(g:Sl) (j:Nat) (b c d:Int) (e:Sl) (f:Int) (w:World) (R:Post) (h:sel (decide (f<((g.n:Nat):Int))) ((0:Int)<=f/\f<((g.n:Nat):Int)/\optP g.a λk=>loc [j] w λq=>ld4_0 q (k.add (Int.toNat f *4)) λl m o p=>cf1 [j] n_enthymemeref04_Compare #[.agg #[.i l,.int .u8 m,.int .u8 o,p.v],.agg #[.i b,.int .u8 c,.int .u8 d,e.v]] q λr s=>sel (decide (r<0)) (L0T g j b c d e (IntKind.wrap .i64 (f+1)) s R) (S1T g j b c d e f s R)) (loc [j] w λq=>S1T g j b c d e f q R)),L0T g j b c d e f w R:=mp (stepL (X:=X) [eS1,eS2,eS3,eL0] (pth [0,2,2]) P0)
theorem okT (e:Sl) (a b c:Int) (d:Sl) (w:World) (R:Post) (h:newV [] w λf g=>
 L0T e f a b c d 0 g R):Calls Tryz.prog n_enthymemeref04_put #[e.v,.agg #[.i a,.int .u8 b,.int .u8 c,d.v]] w R:=callsX X [eS1,eS2,eS3,eL0] h
end enthymemeref04_put
namespace enthymemeref04_normal
noncomputable abbrev X:Fx:=⟨Tryz.prog,Tryz.f121,[(9,ls [0,1,2,3,4,5,6,7,8,9,10,11,12]),(25,ls [0,1,2,3,4,5,6]),(27,ls [0,1,2,3,4,5,6])],[4,5,8,9]⟩
abbrev P0:Ps:=[(1,.v [.s]),(4,.l [.I,.Y,.Y,.s] ty_enthymemeref04_Regex)]
abbrev S0T (b:Sl) (j:Nat) (k l m:Int) (o:Sl) (w:World) (R:Post):Prop:=
 (0:Int)<=0/\0<((b.n:Nat):Int)/\optP b.a λc=>ld4_0 w (c.add (Int.toNat 0 *4)) λd e f g=>loc [j] w λp=>R (.returned (.agg #[.i d,.int .u8 e,.int .u8 f,g.v])) p
noncomputable def eS0:=entS X [] (pth [0,1,1,1,1,1,1,1,3]) P0 S0T
abbrev P1:Ps:=[(0,.v [.I]),(1,.v [.s]),(4,.l [.I,.Y,.Y,.s] ty_enthymemeref04_Regex),(5,.l [.I,.Y,.Y,.s] ty_enthymemeref04_Regex),(6,.v [.s]),(7,.v [.I])]
def L1T (g:Int) (f:Sl) (o:Nat) (j k l:Int) (m:Sl) (i:Nat) (a b c:Int) (d e:Sl) (n:Int) (w:World) (R:Post):Prop:=mkCur P1 0 (X.Sem (pth [0,1,1,1,5])) g f o j k l m i a b c d e n w R
noncomputable def eL1:=entL X (pth [0,1,1,1,5]) P1 L1T
abbrev S2T (g:Int) (f:Sl) (o:Nat) (j k l:Int) (m:Sl) (i:Nat) (a b c:Int) (d e:Sl) (n:Int) (w:World) (R:Post):Prop:=
 L1T g f o j k l m i a b c d e (IntKind.wrap .i64 (n+1)) w R
noncomputable def eS2:=entS X [eL1,eS0] (pth [2,2,1,1,5]) P1 S2T
abbrev P2:Ps:=[(0,.v [.I]),(4,.l [.I,.Y,.Y,.s] ty_enthymemeref04_Regex),(6,.v [.s]),(8,.l [.I,.Y,.Y,.s] ty_enthymemeref04_Regex),(9,.l [.I,.Y,.Y,.s] ty_enthymemeref04_Regex),(10,.v [.s]),(11,.v [.I])]
def L3T (m:Int) (t:Nat) (o p q:Int) (r l:Sl) (k:Nat) (e f g:Int) (i:Sl) (j:Nat) (a b c:Int) (d n:Sl) (s:Int) (w:World) (R:Post):Prop:=mkCur P2 0 (X.Sem (pth [0,1,1,1,9])) m t o p q r l k e f g i j a b c d n s w R
noncomputable def eL3:=entL X (pth [0,1,1,1,9]) P2 L3T
abbrev S4T (m:Int) (t:Nat) (o p q:Int) (r l:Sl) (k:Nat) (e f g:Int) (i:Sl) (j:Nat) (a b c:Int) (d n:Sl) (s:Int) (w:World) (R:Post):Prop:=
 L3T m t o p q r l k e f g i j a b c d n (IntKind.wrap .i64 (s+1)) w R
noncomputable def eS4:=entS X [eL3,eS2,eL1,eS0] (pth [2,2,1,1,9]) P2 S4T
theorem L3T_step:∀(r:Int) (s:Nat) (u x y:Int) (z j:Sl) (c:Nat) (k l m:Int) (o:Sl) (b:Nat) (d e f:Int) (g q:Sl) (p:Int) (w:World) (R:Post) (h:sel (decide (p<((j.n:Nat):Int))) ((0:Int)<=p/\p<((j.n:Nat):Int)/\optP j.a λaa=>loc [s,c,b] w λbe=>ld4_0 be (aa.add (Int.toNat p *4)) λab ac ad ae=>cf1 [s,c,b] n_enthymemeref04_Compare #[.agg #[.i ab,.int .u8 ac,.int .u8 ad,ae.v],.agg #[.i d,.int .u8 e,.int .u8 f,g.v]] be λbi bf=>sel (bi==0) (loc [s,c,b] bf λbm=>R (.returned (.agg #[.i d,.int .u8 e,.int .u8 f,g.v])) bm) ((0:Int)<=p/\p<((j.n:Nat):Int)/\optP j.a λaf=>loc [s,c,b] bf λbg=>ld4_0 bg (af.add (Int.toNat p *4)) λag ah ai aj=>cf1 [s,c,b] n_enthymemeref04_Compare #[.agg #[.i ag,.int .u8 ah,.int .u8 ai,aj.v],.agg #[.i k,.int .u8 l,.int .u8 m,o.v]] bg λbj t=>sel (bj==0) (S4T r s u x y z j c k l m o b d e f g q p t R) (sel (r==3) ((0:Int)<=p/\p<((j.n:Nat):Int)/\optP j.a λak=>ld4_0 t (ak.add (Int.toNat p *4)) λal am an ao=>nwV t (.cells #[.i al,.int .u8 am,.int .u8 an,ao.v] ty_enthymemeref04_Regex) λbh=>
 ∃(ap:Sl) (bd:World),Sem.run Tryz.prog (Builtin.append_ #[ty_sl_enthymemeref04_Regex,ty_sl_enthymemeref04_Regex] ty_sl_enthymemeref04_Regex #[q.v,.slice (some (nb t)) 1 1]) bh=.ok (ap.v) bd/\kept [s,c,b] bh bd/\S4T r s u x y z j c k l m o b d e f g ap p bd R) ((0:Int)<=p/\p<((j.n:Nat):Int)/\optP j.a λaq=>ld4_0 t (aq.add (Int.toNat p *4)) λar au av aw=>cf3 [s,c,b] n_enthymemeref04_put #[q.v,.agg #[.i ar,.int .u8 au,.int .u8 av,aw.v]] t λbk bn=>S4T r s u x y z j c k l m o b d e f g bk p bn R)))) (sel (((q.n:Nat):Int)==0) (loc [s,c,b] w λbo=>R (.returned (.agg #[.i k,.int .u8 l,.int .u8 m,o.v])) bo) (sel (((q.n:Nat):Int)==1) ((0:Int)<=0/\0<((q.n:Nat):Int)/\optP q.a λax=>ld4_0 w (ax.add (Int.toNat 0 *4)) λay az bb bc=>loc [s,c,b] w λbp=>R (.returned (.agg #[.i ay,.int .u8 az,.int .u8 bb,bc.v])) bp) (loc [s,c,b] w λbq=>R (.returned (.agg #[.i r,.int .u8 0,.int .u8 0,q.v])) bq)))),L3T r s u x y z j c k l m o b d e f g q p w R:=mp (stepL (X:=X) [eS4,eL3,eS2,eL1,eS0] (pth [0,1,1,1,9]) P2)
theorem L1T_step:∀(b:Int) (c:Sl) (m:Nat) (o p q:Int) (r:Sl) (d:Nat) (e f g:Int) (j l:Sl) (k:Int) (w:World) (R:Post) (h:sel (decide (k<((c.n:Nat):Int))) ((0:Int)<=k/\k<((c.n:Nat):Int)/\optP c.a λx=>∃ao:Int,w.cell? ((x.add (Int.toNat k *4)).add 0)=some (.i ao)/\
 sel (ao==b) ((0:Int)<=k/\k<((c.n:Nat):Int)/\optP c.a λy=>∃ap:Sl,w.cell? ((y.add (Int.toNat k *4)).add 3)=some (ap.v)/\
 ∃(aq:Sl) (s:World),Sem.run Tryz.prog (Builtin.append_ #[ty_sl_enthymemeref04_Regex,ty_sl_enthymemeref04_Regex] ty_sl_enthymemeref04_Regex #[l.v,ap.v]) w=.ok (aq.v) s/\kept [m,d] w s/\S2T b c m o p q r d e f g j aq k s R) ((0:Int)<=k/\k<((c.n:Nat):Int)/\optP c.a λz=>ld4_0 w (z.add (Int.toNat k *4)) λaa ab ac ad=>nwV w (.cells #[.i aa,.int .u8 ab,.int .u8 ac,ad.v] ty_enthymemeref04_Regex) λau=>
 ∃(ar:Sl) (t:World),Sem.run Tryz.prog (Builtin.append_ #[ty_sl_enthymemeref04_Regex,ty_sl_enthymemeref04_Regex] ty_sl_enthymemeref04_Regex #[l.v,.slice (some (nb w)) 1 1]) au=.ok (ar.v) t/\kept [m,d] au t/\S2T b c m o p q r d e f g j ar k t R)) (nwV w (.cells #[.i 1,.int .u8 0,.int .u8 0,.slice none 0 0,.i 0,.int .u8 0,.int .u8 0,.slice none 0 0,.i e,.int .u8 f,.int .u8 g,j.v] ty_enthymemeref04_Regex) λav=>
 (0:Int)<=(IntKind.wrap .i64 (b - 3))/\(IntKind.wrap .i64 (b - 3))<((3:Nat):Int)/\optP (some (nb w)) λae=>ld4_0 av (ae.add (Int.toNat (IntKind.wrap .i64 (b - 3)) *4)) λaf ag ah ai=>newV [m,d] av λu az=>
 loc [m,d,u] az λaw=>nwV aw (.cells #[.i 0,.int .u8 0,.int .u8 0,.slice none 0 0,.i e,.int .u8 f,.int .u8 g,j.v,.i 0,.int .u8 0,.int .u8 0,.slice none 0 0] ty_enthymemeref04_Regex) λax=>
 (0:Int)<=(IntKind.wrap .i64 (b - 3))/\(IntKind.wrap .i64 (b - 3))<((3:Nat):Int)/\optP (some (nb aw)) λaj=>ld4_0 ax (aj.add (Int.toNat (IntKind.wrap .i64 (b - 3)) *4)) λak al am an=>newV [m,d,u] ax λb9 bb=>
 loc [m,d,u,b9] bb λbc=>L3T b m o p q r l u af ag ah ai b9 ak al am an ⟨none,0,0⟩ 0 bc R)),L1T b c m o p q r d e f g j l k w R:=mp (stepL (X:=X) [eS4,eL3,eS2,eL1,eS0] (pth [0,1,1,1,5]) P1)
theorem okT (d:Int) (b:Sl) (w:World) (R:Post) (h:newV [] w λc w1=>
 cf2 [c] n_enthymemeref04_Everything #[] w1 λg j k l w2=>newV [c] w2 λf w3=>
 sel (d==6) ((0:Int)<=0/\0<((b.n:Nat):Int)/\optP b.a λp=>loc [c,f] w3 λe=>∃af:Int,e.cell? ((p.add (Int.toNat 0 *4)).add 0)=some (.i af)/\
 sel (af==6) ((0:Int)<=0/\0<((b.n:Nat):Int)/\optP b.a λq=>∃o:Sl,e.cell? ((q.add (Int.toNat 0 *4)).add 3)=some (o.v)/\
 (0:Int)<=0/\0<((o.n:Nat):Int)/\optP o.a λr=>ld4_0 e (r.add (Int.toNat 0 *4)) λs t u x=>loc [c,f] e λal=>R (.returned (.agg #[.i s,.int .u8 t,.int .u8 u,x.v])) al) (loc [c,f] e λam=>R (.returned (.agg #[.i 6,.int .u8 0,.int .u8 0,b.v])) am)) (sel (d==7) ((0:Int)<=0/\0<((b.n:Nat):Int)/\optP b.a λy=>loc [c,f] w3 λe=>∃ag:Int,e.cell? ((y.add (Int.toNat 0 *4)).add 0)=some (.i ag)/\
 sel (decide (ag<2)) (loc [c,f] e λan=>R (.returned (.agg #[.i 1,.int .u8 0,.int .u8 0,.slice none 0 0])) an) ((0:Int)<=0/\0<((b.n:Nat):Int)/\optP b.a λz=>loc [c,f] e λm=>∃ah:Int,m.cell? ((z.add (Int.toNat 0 *4)).add 0)=some (.i ah)/\
 sel (ah==7) (S0T b c 0 0 0 ⟨none,0,0⟩ m R) ((0:Int)<=0/\0<((b.n:Nat):Int)/\optP b.a λaa=>ld4_0 m (aa.add (Int.toNat 0 *4)) λab ac ad ae=>cf1 [c,f] n_enthymemeref04_Compare #[.agg #[.i ab,.int .u8 ac,.int .u8 ad,ae.v],.agg #[.i g,.int .u8 j,.int .u8 k,l.v]] m λak ai=>sel (ak==0) (S0T b c 0 0 0 ⟨none,0,0⟩ ai R) (loc [c,f] ai λao=>R (.returned (.agg #[.i 7,.int .u8 0,.int .u8 0,b.v])) ao)))) (loc [c,f] w3 λe=>L1T d b c 0 0 0 ⟨none,0,0⟩ f g j k l ⟨none,0,0⟩ 0 e R))):Calls Tryz.prog n_enthymemeref04_normal #[.i d,b.v] w R:=callsX X [eS4,eL3,eS2,eL1,eS0] h
end enthymemeref04_normal
namespace enthymemeref04_simple
noncomputable abbrev X:Fx:=⟨Tryz.prog,Tryz.f86,[],[1,2]⟩
abbrev P0:Ps:=[(1,.l [.I,.Y,.Y,.s] ty_enthymemeref04_Regex),(2,.l [.I,.Y,.Y,.s] ty_enthymemeref04_Regex),(3,.v [.s]),(4,.v [.I])]
def L0T (l:Nat) (b c d:Int) (e:Sl) (m:Nat) (f g i:Int) (j a:Sl) (k:Int) (w:World) (R:Post):Prop:=mkCur P0 0 (X.Sem (pth [0,1,1,1,3])) l b c d e m f g i j a k w R
noncomputable def eL0:=entL X (pth [0,1,1,1,3]) P0 L0T
theorem L0T_step:∀(f:Nat) (d j k:Int) (b:Sl) (g:Nat) (l m o:Int) (p c:Sl) (e:Int) (w:World) (R:Post) (h:sel (decide (e<((b.n:Nat):Int))) ((0:Int)<=e/\e<((b.n:Nat):Int)/\optP b.a λq=>ld4_0 w (q.add (Int.toNat e *4)) λr s t u=>cf2 [f,g] n_enthymemeref04_simple #[.agg #[.i r,.int .u8 s,.int .u8 t,u.v]] w λx y z aa w7=>nwV w7 (.cells #[.i x,.int .u8 y,.int .u8 z,aa.v] ty_enthymemeref04_Regex) λw8=>
 ∃(af:Sl) (w9:World),Sem.run Tryz.prog (Builtin.append_ #[ty_sl_enthymemeref04_Regex,ty_sl_enthymemeref04_Regex] ty_sl_enthymemeref04_Regex #[c.v,.slice (some (nb w7)) 1 1]) w8=.ok (af.v) w9/\kept [f,g] w8 w9/\L0T f d j k b g l m o p af (IntKind.wrap .i64 (e+1)) w9 R) (cf2 [f,g] n_enthymemeref04_normal #[.i d,c.v] w λab ac ad ae ah=>loc [f,g] ah λai=>R (.returned (.agg #[.i ab,.int .u8 ac,.int .u8 ad,ae.v])) ai)),L0T f d j k b g l m o p c e w R:=mp (stepL (X:=X) [eL0] (pth [0,1,1,1,3]) P0)
theorem okT (a b c:Int) (d:Sl) (w:World) (R:Post) (h:newV [] w λe j=>
 newV [e] j λf g=>
 sel (decide (a<3)) (loc [e,f] g λk=>R (.returned (.agg #[.i a,.int .u8 b,.int .u8 c,d.v])) k) (L0T e a b c d f 0 0 0 ⟨none,0,0⟩ ⟨none,0,0⟩ 0 g R)):Calls Tryz.prog n_enthymemeref04_simple #[.agg #[.i a,.int .u8 b,.int .u8 c,d.v]] w R:=callsX X [eL0] h
end enthymemeref04_simple
namespace enthymemeref04_few
noncomputable abbrev X:Fx:=⟨Tryz.prog,Tryz.f152,[],[1,2]⟩
theorem okT (a b c:Int) (d:Sl) (w:World) (R:Post) (h:newV [] w λe l=>
 newV [e] l λf m=>
 cf1 [e,f] n_enthymemeref04_Nodes #[.agg #[.i a,.int .u8 b,.int .u8 c,d.v]] m λk j=>sel (decide (k>64)) (loc [e,f] j λn=>R (.returned (.tuple #[.agg #[.i 0,.int .u8 0,.int .u8 0,.slice none 0 0],.i 4])) n) (loc [e,f] j λg=>R (.returned (.tuple #[.agg #[.i a,.int .u8 b,.int .u8 c,d.v],.i 0])) g)):Calls Tryz.prog n_enthymemeref04_few #[.agg #[.i a,.int .u8 b,.int .u8 c,d.v]] w R:=callsX X [] h
end enthymemeref04_few
namespace enthymemeref04_Normal
noncomputable abbrev X:Fx:=⟨Tryz.prog,Tryz.f125,[],[1,2]⟩
theorem okT (a b c:Int) (d:Sl) (w:World) (R:Post) (h:newV [] w λe u=>
 newV [e] u λl x=>
 cf1 [e,l] n_enthymemeref04_Valid #[.agg #[.i a,.int .u8 b,.int .u8 c,d.v]] x λr t=>sel (r !=0) (loc [e,l] t λy=>R (.returned (.tuple #[.agg #[.i 0,.int .u8 0,.int .u8 0,.slice none 0 0],.i r])) y) (cf2 [e,l] n_enthymemeref04_simple #[.agg #[.i a,.int .u8 b,.int .u8 c,d.v]] t λm n o p z=>cf11 [e,l] n_enthymemeref04_few #[.agg #[.i m,.int .u8 n,.int .u8 o,p.v]] z λf g j k q w9=>loc [e,l] w9 λs=>R (.returned (.tuple #[.agg #[.i f,.int .u8 g,.int .u8 j,k.v],.i q])) s)):Calls Tryz.prog n_enthymemeref04_Normal #[.agg #[.i a,.int .u8 b,.int .u8 c,d.v]] w R:=callsX X [] h
end enthymemeref04_Normal
namespace enthymemeref04_digit
noncomputable abbrev X:Fx:=⟨Tryz.prog,Tryz.f142,[],[]⟩
theorem ok (b:Int) (w:World) (R:Post) (h:(0:Int)<=b/\∃a:UInt8,(ByteArray.mk #[48,49,50,51,52,53,54,55,56,57,97,98,99,100,101,102])[Int.toNat b]? =some a/\R (.returned (.int .u8 ((a.toNat:Nat):Int))) w):Calls Tryz.prog n_enthymemeref04_digit #[.i b] w R:=callsX X [] h
end enthymemeref04_digit
namespace enthymemeref04_plain
noncomputable abbrev X:Fx:=⟨Tryz.prog,Tryz.f141,[],[]⟩
theorem ok (a:Int) (w:World) (R:Post) (h:sel (decide (a>=32)) (sel (decide (a<=126)) (sel (a !=39) (R (.returned (.bool (a !=92))) w) (R (.returned (.bool false)) w)) (R (.returned (.bool false)) w)) (R (.returned (.bool false)) w)):Calls Tryz.prog n_enthymemeref04_plain #[.int .u8 a] w R:=callsX X [] h
end enthymemeref04_plain
namespace enthymemeref04_number
noncomputable abbrev X:Fx:=⟨Tryz.prog,Tryz.f214,[],[]⟩
abbrev P0:Ps:=[(0,.v [.Y]),(3,.v [.I])]
def L0 (a b:Int) (w:World) (R:Post):Prop:=mkCur P0 0 (X.Sem (pth [0,1,1,1,1])) a b w R
noncomputable def eL0:=entL X (pth [0,1,1,1,1]) P0 L0
theorem L0_step:∀(b a:Int) (w:World) (R:Post) (h:sel (decide (a<16)) (ca13 n_enthymemeref04_digit #[.i a] w λd c=>sel (d==b) (R (.returned (.i a)) c) (L0 b (IntKind.wrap .i64 (a+1)) c R)) (R (.returned (.i (-1))) w)),L0 b a w R:=mp (stepL (X:=X) [eL0] (pth [0,1,1,1,1]) P0)
theorem ok (a:Int) (w:World) (R:Post) (h:L0 a 0 w R):Calls Tryz.prog n_enthymemeref04_number #[.int .u8 a] w R:=callsX X [eL0] h
end enthymemeref04_number
namespace enthymemeref04_byteAt
noncomputable abbrev X:Fx:=⟨Tryz.prog,Tryz.f202,[(4,ls [0,1,2,3,6,7,8,9,4,5,10,11,12,13,14])],[]⟩
abbrev P0:Ps:=[]
abbrev S1 (w:World) (R:Post):Prop:=
 R (.returned (.tuple #[.int .u8 0,.i 0])) w
noncomputable def eS1:=entS X [] (pth [3]) P0 S1
abbrev P1:Ps:=[(0,.v [.st]),(1,.v [.I])]
abbrev S0 (b:ByteArray) (a:Int) (w:World) (R:Post):Prop:=
 sel (decide ((IntKind.wrap .i64 (a+4))<=((b.size:Nat):Int))) ((0:Int)<=a/\∃c:UInt8,b[Int.toNat a]? =some c/\sel (((c.toNat:Nat):Int)==92) ((0:Int)<=(IntKind.wrap .i64 (a+1))/\∃d:UInt8,b[Int.toNat (IntKind.wrap .i64 (a+1))]? =some d/\sel (((d.toNat:Nat):Int)==120) ((0:Int)<=(IntKind.wrap .i64 (a+2))/\∃e:UInt8,b[Int.toNat (IntKind.wrap .i64 (a+2))]? =some e/\ca1 n_enthymemeref04_number #[.int .u8 ((e.toNat:Nat):Int)] w λk o=>sel (decide (k>=0)) ((0:Int)<=(IntKind.wrap .i64 (a+3))/\∃f:UInt8,b[Int.toNat (IntKind.wrap .i64 (a+3))]? =some f/\ca1 n_enthymemeref04_number #[.int .u8 ((f.toNat:Nat):Int)] o λl p=>sel (decide (l>=0)) (drV p λq=>(0:Int)<=(IntKind.wrap .i64 (a+2))/\∃g:UInt8,b[Int.toNat (IntKind.wrap .i64 (a+2))]? =some g/\(0:Int)<=(IntKind.wrap .i64 (a+3))/\∃j:UInt8,b[Int.toNat (IntKind.wrap .i64 (a+3))]? =some j/\ca1 n_enthymemeref04_number #[.int .u8 ((g.toNat:Nat):Int)] q λm r=>ca1 n_enthymemeref04_number #[.int .u8 ((j.toNat:Nat):Int)] r λn s=>R (.returned (.tuple #[.int .u8 (IntKind.wrap .u8 (IntKind.wrap .i64 ((IntKind.wrap .i64 (16 *m))+n))),.i 4])) s) (S1 p R)) (S1 o R)) (S1 w R)) (S1 w R)) (S1 w R)
noncomputable def eS0:=entS X [eS1] (pth [2]) P1 S0
theorem ok (b:ByteArray) (a:Int) (w:World) (R:Post) (h:sel (decide ((IntKind.wrap .i64 (a+3))<=((b.size:Nat):Int))) ((0:Int)<=a/\∃c:UInt8,b[Int.toNat a]? =some c/\sel (((c.toNat:Nat):Int)==39) ((0:Int)<=(IntKind.wrap .i64 (a+2))/\∃d:UInt8,b[Int.toNat (IntKind.wrap .i64 (a+2))]? =some d/\sel (((d.toNat:Nat):Int)==39) ((0:Int)<=(IntKind.wrap .i64 (a+1))/\∃e:UInt8,b[Int.toNat (IntKind.wrap .i64 (a+1))]? =some e/\ca0 n_enthymemeref04_plain #[.int .u8 ((e.toNat:Nat):Int)] w λg j=>sel g ((0:Int)<=(IntKind.wrap .i64 (a+1))/\∃f:UInt8,b[Int.toNat (IntKind.wrap .i64 (a+1))]? =some f/\R (.returned (.tuple #[.int .u8 ((f.toNat:Nat):Int),.i 3])) j) (S0 b a j R)) (S0 b a w R)) (S0 b a w R)) (S0 b a w R)):Calls Tryz.prog n_enthymemeref04_byteAt #[.string b,.i a] w R:=callsX X [eS0,eS1] h
end enthymemeref04_byteAt
namespace enthymemeref04_rangeAt
noncomputable abbrev X:Fx:=⟨Tryz.prog,Tryz.f173,[],[4]⟩
abbrev P0:Ps:=[(4,.l [.I,.Y,.Y,.s] ty_enthymemeref04_Regex)]
abbrev S1T (a:Nat) (b c d:Int) (e:Sl) (w:World) (R:Post):Prop:=
 loc [a] w λf=>R (.returned (.tuple #[.agg #[.i 0,.int .u8 0,.int .u8 0,.slice none 0 0],.i 0])) f
noncomputable def eS1:=entS X [] (pth [0,1,1,1,6]) P0 S1T
abbrev S3T (a:Nat) (b c d:Int) (e:Sl) (w:World) (R:Post):Prop:=
 loc [a] w λf=>R (.returned (.tuple #[.agg #[.i 0,.int .u8 0,.int .u8 0,.slice none 0 0],.i 0])) f
noncomputable def eS3:=entS X [eS1] (pth [0,1,1,1,9]) P0 S3T
abbrev P1:Ps:=[(0,.v [.st]),(1,.v [.I]),(4,.l [.I,.Y,.Y,.s] ty_enthymemeref04_Regex),(8,.v [.Y]),(11,.v [.Y]),(12,.v [.I]),(13,.v [.I])]
abbrev S2T (n:ByteArray) (l:Int) (j:Nat) (b c d:Int) (e:Sl) (k g m a:Int) (w:World) (R:Post):Prop:=
 sel (m==0) (S3T j b c d e w R) (sel (decide (a>=((n.size:Nat):Int))) (S3T j b c d e w R) ((0:Int)<=a/\∃f:UInt8,n[Int.toNat a]? =some f/\sel (((f.toNat:Nat):Int) !=93) (S3T j b c d e w R) (sel (decide (k>g)) (S3T j b c d e w R) (loc [j] w λo=>R (.returned (.tuple #[.agg #[.i 2,.int .u8 k,.int .u8 g,.slice none 0 0],.i (IntKind.wrap .i64 ((IntKind.wrap .i64 (a+1)) - l))])) o))))
noncomputable def eS2:=entS X [eS3,eS1] (pth [9]) P1 S2T
abbrev P2:Ps:=[(0,.v [.st]),(1,.v [.I]),(4,.l [.I,.Y,.Y,.s] ty_enthymemeref04_Regex),(8,.v [.Y]),(9,.v [.I]),(10,.v [.I])]
abbrev S0T (k:ByteArray) (m:Int) (j:Nat) (b c d:Int) (e:Sl) (n o a:Int) (w:World) (R:Post):Prop:=
 sel (o==0) (S1T j b c d e w R) (sel (decide (a>=((k.size:Nat):Int))) (S1T j b c d e w R) ((0:Int)<=a/\∃f:UInt8,k[Int.toNat a]? =some f/\sel (((f.toNat:Nat):Int) !=45) (S1T j b c d e w R) (cf14 [j] n_enthymemeref04_byteAt #[.string k,.i (IntKind.wrap .i64 (a+1))] w λl g p=>S2T k m j b c d e n l g (IntKind.wrap .i64 ((IntKind.wrap .i64 (a+1))+g)) p R)))
noncomputable def eS0:=entS X [eS2,eS3,eS1] (pth [6]) P2 S0T
theorem okT (g:ByteArray) (a:Int) (w:World) (R:Post) (h:newV [] w λf n=>
 cf14 [f] n_enthymemeref04_byteAt #[.string g,.i a] n λb c k=>sel (decide (c>0)) (loc [f] k λo=>R (.returned (.tuple #[.agg #[.i 2,.int .u8 b,.int .u8 b,.slice none 0 0],.i c])) o) ((0:Int)<=a/\∃d:UInt8,g[Int.toNat a]? =some d/\sel (((d.toNat:Nat):Int) !=91) (loc [f] k λl=>R (.returned (.tuple #[.agg #[.i 0,.int .u8 0,.int .u8 0,.slice none 0 0],.i 0])) l) (cf14 [f] n_enthymemeref04_byteAt #[.string g,.i (IntKind.wrap .i64 (a+1))] k λj e m=>S0T g a f 0 0 0 ⟨none,0,0⟩ j e (IntKind.wrap .i64 ((IntKind.wrap .i64 (a+1))+e)) m R))):Calls Tryz.prog n_enthymemeref04_rangeAt #[.string g,.i a] w R:=callsX X [eS0,eS2,eS3,eS1] h
end enthymemeref04_rangeAt
namespace enthymemeref04_Tokens
noncomputable abbrev X:Fx:=⟨Tryz.prog,Tryz.f147,[(11,ls [0,1,2,3,4,5,6,7,8,9,10,11,12])],[5]⟩
abbrev P0:Ps:=[(0,.v [.st]),(3,.v [.s]),(4,.v [.I])]
def L0T (c:ByteArray) (a:Sl) (b:Int) (w:World) (R:Post):Prop:=mkCur P0 0 (X.Sem (pth [0,1,1,1,2])) c a b w R
noncomputable def eL0:=entL X (pth [0,1,1,1,2]) P0 L0T
abbrev P1:Ps:=[(0,.v [.st]),(3,.v [.s]),(4,.v [.I]),(5,.l [.I,.Y,.Y,.s] ty_enthymemeref04_Regex),(6,.v [.I])]
def L1T (j:ByteArray) (a:Sl) (f:Int) (i:Nat) (b c d:Int) (e:Sl) (g:Int) (w:World) (R:Post):Prop:=mkCur P1 0 (X.Sem (pth [0,1,1,1,1,1,2,1,1,2,1,1,2])) j a f i b c d e g w R
noncomputable def eL1:=entL X (pth [0,1,1,1,1,1,2,1,1,2,1,1,2]) P1 L1T
abbrev S2T (k:ByteArray) (d:Sl) (a:Int) (m:Nat) (e f g:Int) (j:Sl) (b:Int) (w:World) (R:Post):Prop:=
 (0:Int)<=(IntKind.wrap .i64 (a+b))/\(IntKind.wrap .i64 (a+b))<=((k.size:Nat):Int)/\(0:Int)<=a/\a<=(((Int.toNat (IntKind.wrap .i64 (a+b))):Nat):Int)/\loc [m] w λn=>nwV n (.cells #[.string (k.extract (Int.toNat a) (Int.toNat (IntKind.wrap .i64 (a+b)))),.i a,.i e,.int .u8 f,.int .u8 g,j.v] ty_enthymemeref04_Token) λo=>
 ∃(c:Sl) (l:World),Sem.run Tryz.prog (Builtin.append_ #[ty_sl_enthymemeref04_Token,ty_sl_enthymemeref04_Token] ty_sl_enthymemeref04_Token #[d.v,.slice (some (nb n)) 1 1]) o=.ok (c.v) l/\kept [m] o l/\L0T k c (IntKind.wrap .i64 (a+b)) l R
noncomputable def eS2:=entS X [eL1,eL0] (pth [3,1,1,2,1,1,2]) P1 S2T
theorem L1T_step:∀(i:ByteArray) (b:Sl) (a:Int) (j:Nat) (c d e:Int) (f:Sl) (g:Int) (w:World) (R:Post) (h:(0:Int)<=a/\∃k:UInt8,i[Int.toNat a]? =some k/\sel (decide (((k.toNat:Nat):Int)>=97)) ((0:Int)<=a/\∃l:UInt8,i[Int.toNat a]? =some l/\sel (decide (((l.toNat:Nat):Int)<=122)) (sel (decide ((IntKind.wrap .i64 (a+g))<((i.size:Nat):Int))) ((0:Int)<=(IntKind.wrap .i64 (a+g))/\∃m:UInt8,i[Int.toNat (IntKind.wrap .i64 (a+g))]? =some m/\sel (decide (((m.toNat:Nat):Int)>=97)) ((0:Int)<=(IntKind.wrap .i64 (a+g))/\∃n:UInt8,i[Int.toNat (IntKind.wrap .i64 (a+g))]? =some n/\sel (decide (((n.toNat:Nat):Int)<=122)) (L1T i b a j c d e f (IntKind.wrap .i64 (g+1)) w R) (S2T i b a j c d e f g w R)) (S2T i b a j c d e f g w R)) (S2T i b a j c d e f g w R)) (S2T i b a j c d e f g w R)) (S2T i b a j c d e f g w R)),L1T i b a j c d e f g w R:=mp (stepL (X:=X) [eS2,eL1,eL0] (pth [0,1,1,1,1,1,2,1,1,2,1,1,2]) P1)
theorem L0T_step:∀(g:ByteArray) (a:Sl) (f:Int) (w:World) (R:Post) (h:sel (decide (f<((g.size:Nat):Int))) ((0:Int)<=f/\∃j:UInt8,g[Int.toNat f]? =some j/\sel (((j.toNat:Nat):Int)==32) (L0T g a (IntKind.wrap .i64 (f+1)) w R) (ca11 n_enthymemeref04_rangeAt #[.string g,.i f] w λb c d e k q=>newV [] q λl o=>
 sel (k==0) (loc [l] o λn=>L1T g a f l b c d e 1 n R) (loc [l] o λn=>S2T g a f l b c d e k n R))) (nwV w (.cells #[.s0,.i ((g.size:Nat):Int),.i 0,.int .u8 0,.int .u8 0,.slice none 0 0] ty_enthymemeref04_Token) λr=>
 ∃(m:Sl) (p:World),Sem.run Tryz.prog (Builtin.append_ #[ty_sl_enthymemeref04_Token,ty_sl_enthymemeref04_Token] ty_sl_enthymemeref04_Token #[a.v,.slice (some (nb w)) 1 1]) r=.ok (m.v) p/\R (.returned (m.v)) p)),L0T g a f w R:=mp (stepL (X:=X) [eS2,eL1,eL0] (pth [0,1,1,1,2]) P0)
theorem okT (a:ByteArray) (w:World) (R:Post) (h:L0T a ⟨none,0,0⟩ 0 w R):Calls Tryz.prog n_enthymemeref04_Tokens #[.string a] w R:=callsX X [eS2,eL1,eL0] h
end enthymemeref04_Tokens
namespace enthymemeref04_reader_see
noncomputable abbrev X:Fx:=⟨Tryz.prog,Tryz.f204,[(3,ls [0,1,2,3,4,5,6,7,8,9,10,11])],[]⟩
theorem ok (d:Addr) (w:World) (R:Post) (h:∃j:Bool,w.cell? (d.add 2)=some (.bool j)/\
 sel j (R (.returned (.string (ByteArray.mk #[32]))) w) (drV w λf=>∃c:Sl,f.cell? (d.add 0)=some (c.v)/\
 ∃b:Int,f.cell? (d.add 1)=some (.i b)/\
 (0:Int)<=b/\b<((c.n:Nat):Int)/\optP c.a λe=>∃g:ByteArray,f.cell? ((e.add (Int.toNat b *6)).add 0)=some (.string g)/\
 R (.returned (.string g)) f)):Calls Tryz.prog n_enthymemeref04_reader_see #[.pointer (some d)] w R:=callsX X [] h
end enthymemeref04_reader_see
namespace enthymemeref04_reader_take
noncomputable abbrev X:Fx:=⟨Tryz.prog,Tryz.f175,[],[]⟩
abbrev P0:Ps:=[]
abbrev S0 (w:World) (R:Post):Prop:=
 R (.returned (.bool true)) w
noncomputable def eS0:=entS X [] (pth [3]) P0 S0
theorem ok (a:Addr) (d:ByteArray) (w:World) (R:Post) (h:ca15 n_enthymemeref04_reader_see #[.pointer (some a)] w λe b=>sel (!(e.toList==d.toList)) (R (.returned (.bool false)) b) (sel (!(d.toList==(ByteArray.mk #[]).toList)) (∃c:Int,b.cell? (a.add 1)=some (.i c)/\
 stV b (a.add 1) (.i (IntKind.wrap .i64 (c+1))) λf=>
 S0 f R) (S0 b R))):Calls Tryz.prog n_enthymemeref04_reader_take #[.pointer (some a),.string d] w R:=callsX X [eS0] h
end enthymemeref04_reader_take
namespace enthymemeref04_reader_need
noncomputable abbrev X:Fx:=⟨Tryz.prog,Tryz.f149,[],[]⟩
theorem ok (a:Addr) (b:ByteArray) (w:World) (R:Post) (h:ca0 n_enthymemeref04_reader_take #[.pointer (some a),.string b] w λd c=>sel (!d) (stV c (a.add 2) (.bool true) λe=>
 R (.returned (.tuple #[])) e) (R (.returned (.tuple #[])) c)):Calls Tryz.prog n_enthymemeref04_reader_need #[.pointer (some a),.string b] w R:=callsX X [] h
end enthymemeref04_reader_need
namespace enthymemeref04_group
noncomputable abbrev X:Fx:=⟨Tryz.prog,Tryz.f176,[],[4]⟩
theorem okT (b:Int) (c:Sl) (w:World) (R:Post) (h:newV [] w λl k=>
 sel (((c.n:Nat):Int)==1) ((0:Int)<=0/\0<((c.n:Nat):Int)/\optP c.a λj=>ld4_0 k (j.add (Int.toNat 0 *4)) λd e f g=>loc [l] k λm=>R (.returned (.agg #[.i d,.int .u8 e,.int .u8 f,g.v])) m) (loc [l] k λo=>R (.returned (.agg #[.i b,.int .u8 0,.int .u8 0,c.v])) o)):Calls Tryz.prog n_enthymemeref04_group #[.i b,c.v] w R:=callsX X [] h
end enthymemeref04_group
namespace enthymemeref04_reader_begins
noncomputable abbrev X:Fx:=⟨Tryz.prog,Tryz.f216,[],[]⟩
theorem ok (c:Addr) (w:World) (R:Post) (h:ca15 n_enthymemeref04_reader_see #[.pointer (some c)] w λb a=>∃d:Bool,a.cell? (c.add 2)=some (.bool d)/\
 sel (!d) (sel (!(b.toList==(ByteArray.mk #[]).toList)) (sel (!(b.toList==(ByteArray.mk #[41]).toList)) (sel (!(b.toList==(ByteArray.mk #[44]).toList)) (sel (!(b.toList==(ByteArray.mk #[124]).toList)) (R (.returned (.bool (!(b.toList==(ByteArray.mk #[38]).toList)))) a) (R (.returned (.bool false)) a)) (R (.returned (.bool false)) a)) (R (.returned (.bool false)) a)) (R (.returned (.bool false)) a)) (R (.returned (.bool false)) a)):Calls Tryz.prog n_enthymemeref04_reader_begins #[.pointer (some c)] w R:=callsX X [] h
end enthymemeref04_reader_begins
namespace enthymemeref04_reader_expr
noncomputable abbrev X:Fx:=⟨Tryz.prog,Tryz.f148,[],[2]⟩
abbrev P0:Ps:=[(0,.v [.r]),(2,.l [.I,.Y,.Y,.s] ty_enthymemeref04_Regex),(3,.v [.s])]
def L0T (f:Addr) (g:Nat) (a b c:Int) (d e:Sl) (w:World) (R:Post):Prop:=mkCur P0 0 (X.Sem (pth [0,2,2])) f g a b c d e w R
noncomputable def eL0:=entL X (pth [0,2,2]) P0 L0T
theorem L0T_step:∀(f:Addr) (a:Nat) (b c d:Int) (e r:Sl) (w:World) (R:Post) (h:cf0 [a] n_enthymemeref04_reader_take #[.pointer (some f),.string (ByteArray.mk #[124])] w λz u=>sel z (cf2 [a] n_enthymemeref04_reader_conj #[.pointer (some f)] u λg j k l x=>nwV x (.cells #[.i g,.int .u8 j,.int .u8 k,l.v] ty_enthymemeref04_Regex) λy=>
 ∃(q:Sl) (s:World),Sem.run Tryz.prog (Builtin.append_ #[ty_sl_enthymemeref04_Regex,ty_sl_enthymemeref04_Regex] ty_sl_enthymemeref04_Regex #[r.v,.slice (some (nb x)) 1 1]) y=.ok (q.v) s/\kept [a] y s/\L0T f a b c d e q s R) (cf2 [a] n_enthymemeref04_group #[.i 4,r.v] u λm n o p w8=>loc [a] w8 λt=>R (.returned (.agg #[.i m,.int .u8 n,.int .u8 o,p.v])) t)),L0T f a b c d e r w R:=mp (stepL (X:=X) [eL0] (pth [0,2,2]) P0)
theorem okT (a:Addr) (w:World) (R:Post) (h:newV [] w λf j=>
 cf2 [f] n_enthymemeref04_reader_conj #[.pointer (some a)] j λb c d e g=>nwV g (.cells #[.i b,.int .u8 c,.int .u8 d,e.v] ty_enthymemeref04_Regex) λk=>
 L0T a f 0 0 0 ⟨none,0,0⟩ ⟨some (nb g),1,1⟩ k R):Calls Tryz.prog n_enthymemeref04_reader_expr #[.pointer (some a)] w R:=callsX X [eL0] h
end enthymemeref04_reader_expr
namespace enthymemeref04_reader_conj
noncomputable abbrev X:Fx:=⟨Tryz.prog,Tryz.f174,[],[2]⟩
abbrev P0:Ps:=[(0,.v [.r]),(2,.l [.I,.Y,.Y,.s] ty_enthymemeref04_Regex),(3,.v [.s])]
def L0T (f:Addr) (g:Nat) (a b c:Int) (d e:Sl) (w:World) (R:Post):Prop:=mkCur P0 0 (X.Sem (pth [0,2,2])) f g a b c d e w R
noncomputable def eL0:=entL X (pth [0,2,2]) P0 L0T
theorem L0T_step:∀(f:Addr) (a:Nat) (b c d:Int) (e r:Sl) (w:World) (R:Post) (h:cf0 [a] n_enthymemeref04_reader_take #[.pointer (some f),.string (ByteArray.mk #[38])] w λz u=>sel z (cf2 [a] n_enthymemeref04_reader_seq #[.pointer (some f)] u λg j k l x=>nwV x (.cells #[.i g,.int .u8 j,.int .u8 k,l.v] ty_enthymemeref04_Regex) λy=>
 ∃(q:Sl) (s:World),Sem.run Tryz.prog (Builtin.append_ #[ty_sl_enthymemeref04_Regex,ty_sl_enthymemeref04_Regex] ty_sl_enthymemeref04_Regex #[r.v,.slice (some (nb x)) 1 1]) y=.ok (q.v) s/\kept [a] y s/\L0T f a b c d e q s R) (cf2 [a] n_enthymemeref04_group #[.i 5,r.v] u λm n o p w8=>loc [a] w8 λt=>R (.returned (.agg #[.i m,.int .u8 n,.int .u8 o,p.v])) t)),L0T f a b c d e r w R:=mp (stepL (X:=X) [eL0] (pth [0,2,2]) P0)
theorem okT (a:Addr) (w:World) (R:Post) (h:newV [] w λf j=>
 cf2 [f] n_enthymemeref04_reader_seq #[.pointer (some a)] j λb c d e g=>nwV g (.cells #[.i b,.int .u8 c,.int .u8 d,e.v] ty_enthymemeref04_Regex) λk=>
 L0T a f 0 0 0 ⟨none,0,0⟩ ⟨some (nb g),1,1⟩ k R):Calls Tryz.prog n_enthymemeref04_reader_conj #[.pointer (some a)] w R:=callsX X [eL0] h
end enthymemeref04_reader_conj
namespace enthymemeref04_reader_seq
noncomputable abbrev X:Fx:=⟨Tryz.prog,Tryz.f203,[],[2]⟩
abbrev P0:Ps:=[(0,.v [.r]),(2,.l [.I,.Y,.Y,.s] ty_enthymemeref04_Regex),(3,.v [.s])]
def L0T (f:Addr) (g:Nat) (a b c:Int) (d e:Sl) (w:World) (R:Post):Prop:=mkCur P0 0 (X.Sem (pth [0,2,2])) f g a b c d e w R
noncomputable def eL0:=entL X (pth [0,2,2]) P0 L0T
theorem L0T_step:∀(f:Addr) (a:Nat) (b c d:Int) (e r:Sl) (w:World) (R:Post) (h:cf0 [a] n_enthymemeref04_reader_begins #[.pointer (some f)] w λz u=>sel z (cf2 [a] n_enthymemeref04_reader_item #[.pointer (some f)] u λg j k l x=>nwV x (.cells #[.i g,.int .u8 j,.int .u8 k,l.v] ty_enthymemeref04_Regex) λy=>
 ∃(q:Sl) (s:World),Sem.run Tryz.prog (Builtin.append_ #[ty_sl_enthymemeref04_Regex,ty_sl_enthymemeref04_Regex] ty_sl_enthymemeref04_Regex #[r.v,.slice (some (nb x)) 1 1]) y=.ok (q.v) s/\kept [a] y s/\L0T f a b c d e q s R) (cf2 [a] n_enthymemeref04_group #[.i 3,r.v] u λm n o p w8=>loc [a] w8 λt=>R (.returned (.agg #[.i m,.int .u8 n,.int .u8 o,p.v])) t)),L0T f a b c d e r w R:=mp (stepL (X:=X) [eL0] (pth [0,2,2]) P0)
theorem okT (a:Addr) (w:World) (R:Post) (h:newV [] w λf j=>
 cf2 [f] n_enthymemeref04_reader_item #[.pointer (some a)] j λb c d e g=>nwV g (.cells #[.i b,.int .u8 c,.int .u8 d,e.v] ty_enthymemeref04_Regex) λk=>
 L0T a f 0 0 0 ⟨none,0,0⟩ ⟨some (nb g),1,1⟩ k R):Calls Tryz.prog n_enthymemeref04_reader_seq #[.pointer (some a)] w R:=callsX X [eL0] h
end enthymemeref04_reader_seq
namespace enthymemeref04_reader_item
noncomputable abbrev X:Fx:=⟨Tryz.prog,Tryz.f215,[],[2,4]⟩
abbrev P0:Ps:=[(0,.v [.r]),(2,.l [.I,.Y,.Y,.s] ty_enthymemeref04_Regex),(4,.l [.I,.Y,.Y,.s] ty_enthymemeref04_Regex)]
def L0T (j:Addr) (l:Nat) (e f g:Int) (i:Sl) (k:Nat) (a b c:Int) (d:Sl) (w:World) (R:Post):Prop:=mkCur P0 0 (X.Sem (pth [0,2,4])) j l e f g i k a b c d w R
noncomputable def eL0:=entL X (pth [0,2,4]) P0 L0T
theorem L0T_step:∀(n:Addr) (f:Nat) (g j k:Int) (l:Sl) (e:Nat) (a b c:Int) (d:Sl) (w:World) (R:Post) (h:cf0 [f,e] n_enthymemeref04_reader_take #[.pointer (some n),.string (ByteArray.mk #[42])] w λo m=>sel o (nwV m (.cells #[.i a,.int .u8 b,.int .u8 c,d.v] ty_enthymemeref04_Regex) λp=>
 loc [f,e] p λq=>L0T n f g j k l e 7 0 0 ⟨some (nb m),1,1⟩ q R) (loc [f,e] m λr=>R (.returned (.agg #[.i a,.int .u8 b,.int .u8 c,d.v])) r)),L0T n f g j k l e a b c d w R:=mp (stepL (X:=X) [eL0] (pth [0,2,4]) P0)
theorem okT (b:Addr) (w:World) (R:Post) (h:newV [] w λa s=>
 cf0 [a] n_enthymemeref04_reader_take #[.pointer (some b),.string (ByteArray.mk #[33])] s λr p=>sel r (cf2 [a] n_enthymemeref04_reader_item #[.pointer (some b)] p λg j k l q=>nwV q (.cells #[.i g,.int .u8 j,.int .u8 k,l.v] ty_enthymemeref04_Regex) λt=>
 loc [a] t λu=>R (.returned (.agg #[.i 6,.int .u8 0,.int .u8 0,.slice (some (nb q)) 1 1])) u) (cf2 [a] n_enthymemeref04_reader_atom #[.pointer (some b)] p λc d e f x=>newV [a] x λm n=>
 loc [a,m] n λo=>L0T b a 0 0 0 ⟨none,0,0⟩ m c d e f o R)):Calls Tryz.prog n_enthymemeref04_reader_item #[.pointer (some b)] w R:=callsX X [eL0] h
end enthymemeref04_reader_item
namespace enthymemeref04_reader_atom
noncomputable abbrev X:Fx:=⟨Tryz.prog,Tryz.f227,[(1,ls [0,1,2,3,4,5,6,7,8,9,10,11,12,13,14,15,16,17,18,19]),(3,ls [0,1,2,3,4,5,6,7,8,9,10,11,12]),(8,ls [0,1,2,3,5,6,7,8,4,9,10])],[2,5,6]⟩
abbrev P0:Ps:=[(0,.v [.r]),(2,.l [.I,.Y,.Y,.s] ty_enthymemeref04_Regex),(3,.v [.s]),(4,.v [.I])]
def L1T (g:Addr) (i:Nat) (b c d:Int) (e a:Sl) (f:Int) (w:World) (R:Post):Prop:=mkCur P0 0 (X.Sem (pth [0,1,1,1,3])) g i b c d e a f w R
noncomputable def eL1:=entL X (pth [0,1,1,1,3]) P0 L1T
abbrev S2T (g:Addr) (i:Nat) (b c d:Int) (e a:Sl) (f:Int) (w:World) (R:Post):Prop:=
 L1T g i b c d e a (IntKind.wrap .i64 (f+1)) w R
noncomputable def eS2:=entS X [eL1] (pth [2,2,1,1,3]) P0 S2T
abbrev P1:Ps:=[(2,.l [.I,.Y,.Y,.s] ty_enthymemeref04_Regex),(5,.l [.I,.Y,.Y,.s] ty_enthymemeref04_Regex)]
abbrev S3T (f:Nat) (g j k:Int) (l:Sl) (e:Nat) (a b c:Int) (d:Sl) (w:World) (R:Post):Prop:=
 loc [f,e] w λm=>R (.returned (.agg #[.i a,.int .u8 b,.int .u8 c,d.v])) m
noncomputable def eS3:=entS X [eS2,eL1] (pth [4,2,1,2,1,1,3]) P1 S3T
theorem L1T_step:∀(e:Addr) (b:Nat) (f g j:Int) (k c:Sl) (d:Int) (w:World) (R:Post) (h:sel (decide (d<6)) (sel (d==2) (loc [b] w λx=>S2T e b f g j k c d x R) ((0:Int)<=d/\d<((c.n:Nat):Int)/\optP c.a λl=>loc [b] w λx=>∃o:ByteArray,x.cell? (l.add (Int.toNat d *1))=some (.string o)/\
 cf15 [b] n_enthymemeref04_reader_see #[.pointer (some e)] x λac q=>q.cell? (l.add (Int.toNat d *1))=some (.string o)/\sel (!(ac.toList==o.toList)) (S2T e b f g j k c d q R) (∃y:Int,q.cell? (e.add 1)=some (.i y)/\
 stV q (e.add 1) (.i (IntKind.wrap .i64 (y+1))) λw4=>kept [b] q w4/\
 newV [b] w4 λm w5=>
 sel (decide (d>2)) (loc [b,m] w5 λw9=>cf3 [b,m] n_enthymemeref04_reader_kids #[.pointer (some e)] w9 λad ae=>loc [b,m] ae λaf=>S3T b f g j k m d 0 0 ad af R) (loc [b,m] w5 λw9=>S3T b f g j k m d 0 0 ⟨none,0,0⟩ w9 R)))) (cf4 [b] n_enthymemeref04_reader_need #[.pointer (some e),.string (ByteArray.mk #[40])] w λp=>∃z:Bool,p.cell? (e.add 2)=some (.bool z)/\
 sel z (loc [b] p λag=>R (.returned (.agg #[.i 0,.int .u8 0,.int .u8 0,.slice none 0 0])) ag) (cf2 [b] n_enthymemeref04_reader_expr #[.pointer (some e)] p λr s t u ah=>newV [b] ah λb6 ai=>
 loc [b,b6] ai λaj=>cf4 [b,b6] n_enthymemeref04_reader_need #[.pointer (some e),.string (ByteArray.mk #[41])] aj λak=>loc [b,b6] ak λal=>R (.returned (.agg #[.i r,.int .u8 s,.int .u8 t,u.v])) al))),L1T e b f g j k c d w R:=mp (stepL (X:=X) [eS3,eS2,eL1] (pth [0,1,1,1,3]) P0)
abbrev P2:Ps:=[(0,.v [.r]),(2,.l [.I,.Y,.Y,.s] ty_enthymemeref04_Regex)]
abbrev S0T (e:Addr) (f:Nat) (a b c:Int) (d:Sl) (w:World) (R:Post):Prop:=
 nwV w (.cells #[.string (ByteArray.mk #[110,111,110,101]),.string (ByteArray.mk #[101,109,112,116,121]),.s0,.string (ByteArray.mk #[99,97,116]),.string (ByteArray.mk #[97,108,116]),.string (ByteArray.mk #[97,108,108])] ty_string) λg=>
 L1T e f a b c d ⟨some (nb w),6,6⟩ 0 g R
noncomputable def eS0:=entS X [eS3,eS2,eL1] (pth [2]) P2 S0T
theorem okT (b:Addr) (w:World) (R:Post) (h:newV [] w λf y=>
 loc [f] y λc=>∃s:Bool,c.cell? (b.add 2)=some (.bool s)/\
 sel (!s) (∃g:Sl,c.cell? (b.add 0)=some (g.v)/\
 ∃d:Int,c.cell? (b.add 1)=some (.i d)/\
 (0:Int)<=d/\d<((g.n:Nat):Int)/\optP g.a λk=>∃t:Int,c.cell? (((k.add (Int.toNat d *6)).add 2).add 0)=some (.i t)/\
 sel (t==2) (∃u:Int,c.cell? (b.add 1)=some (.i u)/\
 stV c (b.add 1) (.i (IntKind.wrap .i64 (u+1))) λx=>kept [f] c x/\
 loc [f] x λr=>∃j:Sl,r.cell? (b.add 0)=some (j.v)/\
 ∃e:Int,r.cell? (b.add 1)=some (.i e)/\
 (0:Int)<=(IntKind.wrap .i64 (e - 1))/\(IntKind.wrap .i64 (e - 1))<((j.n:Nat):Int)/\optP j.a λl=>ld4_0 r ((l.add (Int.toNat (IntKind.wrap .i64 (e - 1)) *6)).add 2) λm o p q=>loc [f] r λz=>R (.returned (.agg #[.i m,.int .u8 o,.int .u8 p,q.v])) z) (S0T b f 0 0 0 ⟨none,0,0⟩ c R)) (S0T b f 0 0 0 ⟨none,0,0⟩ c R)):Calls Tryz.prog n_enthymemeref04_reader_atom #[.pointer (some b)] w R:=callsX X [eS0,eS3,eS2,eL1] h
end enthymemeref04_reader_atom
namespace enthymemeref04_reader_kids
noncomputable abbrev X:Fx:=⟨Tryz.prog,Tryz.f253,[],[]⟩
abbrev P0:Ps:=[]
abbrev S0 (w:World) (R:Post):Prop:=
 R (.returned (.slice none 0 0)) w
noncomputable def eS0:=entS X [] (pth [0,1,1,1,3]) P0 S0
abbrev P1:Ps:=[(0,.v [.r]),(4,.v [.s])]
def L1 (b:Addr) (a:Sl) (w:World) (R:Post):Prop:=mkCur P1 0 (X.Sem (pth [0,2,5])) b a w R
noncomputable def eL1:=entL X (pth [0,2,5]) P1 L1
theorem L1_step:∀(b:Addr) (a:Sl) (w:World) (R:Post) (h:ca0 n_enthymemeref04_reader_take #[.pointer (some b),.string (ByteArray.mk #[44])] w λj k=>sel j (ca2 n_enthymemeref04_reader_expr #[.pointer (some b)] k λc d e f l=>nwV l (.cells #[.i c,.int .u8 d,.int .u8 e,f.v] ty_enthymemeref04_Regex) λn=>
 ∃(g:Sl) (m:World),Sem.run Tryz.prog (Builtin.append_ #[ty_sl_enthymemeref04_Regex,ty_sl_enthymemeref04_Regex] ty_sl_enthymemeref04_Regex #[a.v,.slice (some (nb l)) 1 1]) n=.ok (g.v) m/\L1 b g m R) (ca4 n_enthymemeref04_reader_need #[.pointer (some b),.string (ByteArray.mk #[41])] k λo=>R (.returned (a.v)) o)),L1 b a w R:=mp (stepL (X:=X) [eL1,eS0] (pth [0,2,5]) P1)
theorem ok (a:Addr) (w:World) (R:Post) (h:ca4 n_enthymemeref04_reader_need #[.pointer (some a),.string (ByteArray.mk #[40])] w λl=>ca0 n_enthymemeref04_reader_take #[.pointer (some a),.string (ByteArray.mk #[41])] l λk f=>∃g:Bool,f.cell? (a.add 2)=some (.bool g)/\
 sel g (S0 f R) (sel k (S0 f R) (ca2 n_enthymemeref04_reader_expr #[.pointer (some a)] f λb c d e j=>nwV j (.cells #[.i b,.int .u8 c,.int .u8 d,e.v] ty_enthymemeref04_Regex) λm=>
 L1 a ⟨some (nb j),1,1⟩ m R))):Calls Tryz.prog n_enthymemeref04_reader_kids #[.pointer (some a)] w R:=callsX X [eL1,eS0] h
end enthymemeref04_reader_kids
namespace enthymemeref04_Parse
noncomputable abbrev X:Fx:=⟨Tryz.prog,Tryz.f124,[(7,ls [0,1,2,3,4,5,6,7,8,9,10,11,12,13,14])],[2,6]⟩
theorem okT (s:ByteArray) (w:World) (R:Post) (h:newV [] w λb z=>
 sel (decide (((s.size:Nat):Int)>4096)) (loc [b] z λw5=>R (.returned (.tuple #[.agg #[.i 0,.int .u8 0,.int .u8 0,.slice none 0 0],.i 4096,.i 4])) w5) (cf3 [b] n_enthymemeref04_Tokens #[.string s] z λx d=>nwV d (.cells #[x.v,.i 0,.bool false] ty_enthymemeref04_reader) λw7=>
 cf2 [b] n_enthymemeref04_reader_expr #[.pointer (some (nb d))] w7 λf g j k w8=>newV [b] w8 λe w9=>
 loc [b,e] w9 λaa=>cf4 [b,e] n_enthymemeref04_reader_need #[.pointer (some (nb d)),.s0] aa λr=>∃t:Bool,r.cell? ((nb d).add 2)=some (.bool t)/\
 sel t (loc [b,e] r λo=>∃l:Sl,o.cell? ((nb d).add 0)=some (l.v)/\
 ∃c:Int,o.cell? ((nb d).add 1)=some (.i c)/\
 (0:Int)<=c/\c<((l.n:Nat):Int)/\optP l.a λm=>∃q:Int,o.cell? ((m.add (Int.toNat c *6)).add 1)=some (.i q)/\
 loc [b,e] o λp=>p.cell? ((m.add (Int.toNat c *6)).add 1)=some (.i q)/\p.cell? ((nb d).add 1)=some (.i c)/\p.cell? ((nb d).add 0)=some (l.v)/\R (.returned (.tuple #[.agg #[.i 0,.int .u8 0,.int .u8 0,.slice none 0 0],.i q,.i 2])) p) (cf1 [b,e] n_enthymemeref04_Nodes #[.agg #[.i f,.int .u8 g,.int .u8 j,k.v]] r λy u=>sel (decide (y>64)) (loc [b,e] u λab=>R (.returned (.tuple #[.agg #[.i 0,.int .u8 0,.int .u8 0,.slice none 0 0],.i ((s.size:Nat):Int),.i 4])) ab) (loc [b,e] u λac=>R (.returned (.tuple #[.agg #[.i f,.int .u8 g,.int .u8 j,k.v],.i 0,.i 0])) ac)))):Calls Tryz.prog n_enthymemeref04_Parse #[.string s] w R:=callsX X [] h
end enthymemeref04_Parse
namespace enthymemeref04_Byte
noncomputable abbrev X:Fx:=⟨Tryz.prog,Tryz.f119,[],[]⟩
theorem ok (a:Int) (w:World) (R:Post) (h:ca0 n_enthymemeref04_plain #[.int .u8 a] w λl c=>sel l (nwV c (.cells #[.int .u8 39,.int .u8 a,.int .u8 39] ty_uint8) λd=>
 ∃j:ByteArray,Sem.run Tryz.prog (Go.convert ty_sl_uint8 ty_string (.slice (some (nb c)) 3 3)) d=.ok (.string j) d/\R (.returned (.string j)) d) (ca13 n_enthymemeref04_digit #[.i (IntKind.wrap .i64 (Int.tdiv (IntKind.wrap .i64 a) 16))] c λf m=>ca13 n_enthymemeref04_digit #[.i (Int.tmod (IntKind.wrap .i64 a) 16)] m λg k=>nwV k (.cells #[.int .u8 92,.int .u8 120,.int .u8 f,.int .u8 g] ty_uint8) λe=>
 ∃b:ByteArray,Sem.run Tryz.prog (Go.convert ty_sl_uint8 ty_string (.slice (some (nb k)) 4 4)) e=.ok (.string b) e/\R (.returned (.string b)) e)):Calls Tryz.prog n_enthymemeref04_Byte #[.int .u8 a] w R:=callsX X [] h
end enthymemeref04_Byte
namespace enthymemeref04_binds
noncomputable abbrev X:Fx:=⟨Tryz.prog,Tryz.f118,[],[1]⟩
abbrev P0:Ps:=[]
abbrev S0T (w:World) (R:Post):Prop:=
 R (.returned (.i 4)) w
noncomputable def eS0:=entS X [] (pth [0,1,1,1,2]) P0 S0T
theorem okT (a f g:Int) (c:Sl) (w:World) (R:Post) (h:newV [] w λk b=>
 sel (a==6) (R (.returned (.i 3)) b) (sel (decide (a<3)) (S0T b R) (sel (a==7) (S0T b R) (sel (decide (((c.n:Nat):Int)<2)) (S0T b R) (nwV b (.cells #[.i 2,.i 0,.i 1] ty_int) λj=>
 (0:Int)<=(IntKind.wrap .i64 (a - 3))/\(IntKind.wrap .i64 (a - 3))<((3:Nat):Int)/\optP (some (nb b)) λd=>∃e:Int,j.cell? (d.add (Int.toNat (IntKind.wrap .i64 (a - 3)) *1))=some (.i e)/\
 R (.returned (.i e)) j))))):Calls Tryz.prog n_enthymemeref04_binds #[.agg #[.i a,.int .u8 f,.int .u8 g,c.v]] w R:=callsX X [eS0] h
end enthymemeref04_binds
namespace enthymemeref04_low
noncomputable abbrev X:Fx:=⟨Tryz.prog,Tryz.f120,[],[]⟩
theorem ok (a:Int) (w:World) (R:Post) (h:sel (decide (a>=97)) (R (.returned (.bool (decide (a<=122)))) w) (R (.returned (.bool false)) w)):Calls Tryz.prog n_enthymemeref04_low #[.int .u8 a] w R:=callsX X [] h
end enthymemeref04_low
namespace enthymemeref04_Write
noncomputable abbrev X:Fx:=⟨Tryz.prog,Tryz.f85,[(11,ls [0,1,5,6,2,3,4,7,8,9,10])],[2]⟩
abbrev P0:Ps:=[(2,.l [.I,.Y,.Y,.s] ty_enthymemeref04_Regex),(5,.v [.st])]
abbrev S0T (j:Nat) (b f g:Int) (i:Sl) (a:ByteArray) (w:World) (R:Post):Prop:=
 nwV w (.cells #[.string (ByteArray.mk #[99,97,116,40]),.string (ByteArray.mk #[97,108,116,40]),.string (ByteArray.mk #[97,108,108,40])] ty_string) λe=>
 (0:Int)<=(IntKind.wrap .i64 (b - 3))/\(IntKind.wrap .i64 (b - 3))<((3:Nat):Int)/\optP (some (nb w)) λd=>∃c:ByteArray,e.cell? (d.add (Int.toNat (IntKind.wrap .i64 (b - 3)) *1))=some (.string c)/\
 ¬(((c.size+a.size:Nat):Int)>IntKind.i64.max)/\¬((((c++a).size+(ByteArray.mk #[41]).size:Nat):Int)>IntKind.i64.max)/\R (.returned (.string ((c++a)++(ByteArray.mk #[41])))) e
noncomputable def eS0:=entS X [] (pth [2,1,1,1,3]) P0 S0T
abbrev P1:Ps:=[(2,.l [.I,.Y,.Y,.s] ty_enthymemeref04_Regex),(6,.v [.st]),(7,.v [.I]),(8,.v [.st]),(9,.v [.I])]
def L1T (j:Nat) (d e f:Int) (g:Sl) (a:ByteArray) (c:Int) (b:ByteArray) (i:Int) (w:World) (R:Post):Prop:=mkCur P1 0 (X.Sem (pth [0,1,1,1,7])) j d e f g a c b i w R
noncomputable def eL1:=entL X (pth [0,1,1,1,7]) P1 L1T
abbrev S3T (j:Nat) (d e f:Int) (g:Sl) (a:ByteArray) (c:Int) (b:ByteArray) (i:Int) (w:World) (R:Post):Prop:=
 L1T j d e f g a c b (IntKind.wrap .i64 (i+1)) w R
noncomputable def eS3:=entS X [eL1,eS0] (pth [2,2,1,1,7]) P1 S3T
abbrev P2:Ps:=[(2,.l [.I,.Y,.Y,.s] ty_enthymemeref04_Regex),(6,.v [.st]),(7,.v [.I]),(8,.v [.st]),(9,.v [.I]),(10,.v [.st])]
abbrev S2T (k:Nat) (e f g:Int) (i:Sl) (a:ByteArray) (d:Int) (c:ByteArray) (j:Int) (b:ByteArray) (w:World) (R:Post):Prop:=
 ¬(((c.size+a.size:Nat):Int)>IntKind.i64.max)/\¬((((c++a).size+b.size:Nat):Int)>IntKind.i64.max)/\S3T k e f g i a d ((c++a)++b) j w R
noncomputable def eS2:=entS X [eS3,eL1,eS0] (pth [2,2,1,2,1,1,7]) P2 S2T
theorem L1T_step:∀(m:Nat) (f g j:Int) (c:Sl) (d:ByteArray) (e:Int) (b:ByteArray) (l:Int) (w:World) (R:Post) (h:sel (decide (l<((c.n:Nat):Int))) ((0:Int)<=l/\l<((c.n:Nat):Int)/\optP c.a λq=>ld4_0 w (q.add (Int.toNat l *4)) λr s t u=>cf15 [m] n_enthymemeref04_Write #[.agg #[.i r,.int .u8 s,.int .u8 t,u.v],.i (IntKind.wrap .i64 (e+1))] w λk x=>sel (f==3) ((0:Int)<=(IntKind.wrap .i64 (((b.size:Nat):Int) - 1))/\∃o:UInt8,b[Int.toNat (IntKind.wrap .i64 (((b.size:Nat):Int) - 1))]? =some o/\cf0 [m] n_enthymemeref04_low #[.int .u8 ((o.toNat:Nat):Int)] x λaa y=>sel aa ((0:Int)<=0/\∃p:UInt8,k[Int.toNat 0]? =some p/\cf0 [m] n_enthymemeref04_low #[.int .u8 ((p.toNat:Nat):Int)] y λab z=>sel ab (¬(((b.size+(ByteArray.mk #[32]).size:Nat):Int)>IntKind.i64.max)/\S2T m f g j c d e (b++(ByteArray.mk #[32])) l k z R) (S2T m f g j c d e b l k z R)) (S2T m f g j c d e b l k y R)) (S2T m f g j c d e b l k x R)) (R (.returned (.string b)) w)),L1T m f g j c d e b l w R:=mp (stepL (X:=X) [eS2,eS3,eL1,eS0] (pth [0,1,1,1,7]) P1)
theorem okT (c d e:Int) (b:Sl) (j:Int) (w:World) (R:Post) (h:newV [] w λf w1=>
 cf1 [f] n_enthymemeref04_binds #[.agg #[.i c,.int .u8 d,.int .u8 e,b.v]] w1 λar g=>sel (decide (ar<j)) (cf15 [f] n_enthymemeref04_Write #[.agg #[.i c,.int .u8 d,.int .u8 e,b.v],.i 0] g λl w3=>¬((((ByteArray.mk #[40]).size+l.size:Nat):Int)>IntKind.i64.max)/\¬(((((ByteArray.mk #[40])++l).size+(ByteArray.mk #[41]).size:Nat):Int)>IntKind.i64.max)/\R (.returned (.string (((ByteArray.mk #[40])++l)++(ByteArray.mk #[41])))) w3) (sel (c==0) (R (.returned (.string (ByteArray.mk #[110,111,110,101]))) g) (sel (c==1) (R (.returned (.string (ByteArray.mk #[101,109,112,116,121]))) g) (sel (c==2) (sel (d==e) (cf15 [f] n_enthymemeref04_Byte #[.int .u8 d] g λau w4=>R (.returned (.string au)) w4) (loc [f] g λw5=>cf15 [f] n_enthymemeref04_Byte #[.int .u8 d] w5 λk w6=>¬((((ByteArray.mk #[91]).size+k.size:Nat):Int)>IntKind.i64.max)/\¬(((((ByteArray.mk #[91])++k).size+(ByteArray.mk #[45]).size:Nat):Int)>IntKind.i64.max)/\cf15 [f] n_enthymemeref04_Byte #[.int .u8 e] w6 λm w7=>¬((((((ByteArray.mk #[91])++k)++(ByteArray.mk #[45])).size+m.size:Nat):Int)>IntKind.i64.max)/\¬(((((((ByteArray.mk #[91])++k)++(ByteArray.mk #[45]))++m).size+(ByteArray.mk #[93]).size:Nat):Int)>IntKind.i64.max)/\R (.returned (.string (((((ByteArray.mk #[91])++k)++(ByteArray.mk #[45]))++m)++(ByteArray.mk #[93])))) w7)) (sel (c==6) ((0:Int)<=0/\0<((b.n:Nat):Int)/\optP b.a λo=>ld4_0 g (o.add (Int.toNat 0 *4)) λp q r s=>cf15 [f] n_enthymemeref04_Write #[.agg #[.i p,.int .u8 q,.int .u8 r,s.v],.i 3] g λal w8=>¬((((ByteArray.mk #[33]).size+al.size:Nat):Int)>IntKind.i64.max)/\R (.returned (.string ((ByteArray.mk #[33])++al))) w8) (sel (c==7) ((0:Int)<=0/\0<((b.n:Nat):Int)/\optP b.a λt=>ld4_0 g (t.add (Int.toNat 0 *4)) λu x y z=>cf15 [f] n_enthymemeref04_Write #[.agg #[.i u,.int .u8 x,.int .u8 y,z.v],.i 4] g λam w9=>¬(((am.size+(ByteArray.mk #[42]).size:Nat):Int)>IntKind.i64.max)/\R (.returned (.string (am++(ByteArray.mk #[42])))) w9) (sel (decide (((b.n:Nat):Int)<2)) (sel (((b.n:Nat):Int)==1) ((0:Int)<=0/\0<((b.n:Nat):Int)/\optP b.a λaa=>ld4_0 g (aa.add (Int.toNat 0 *4)) λab ac ad ae=>cf15 [f] n_enthymemeref04_Write #[.agg #[.i ab,.int .u8 ac,.int .u8 ad,ae.v],.i 0] g λav ax=>S0T f c d e b av ax R) (S0T f c d e b (ByteArray.mk #[]) g R)) (nwV g (.cells #[.s0,.string (ByteArray.mk #[124]),.string (ByteArray.mk #[38])] ty_string) λap=>
 (0:Int)<=(IntKind.wrap .i64 (c - 3))/\(IntKind.wrap .i64 (c - 3))<((3:Nat):Int)/\optP (some (nb g)) λaf=>∃an:ByteArray,ap.cell? (af.add (Int.toNat (IntKind.wrap .i64 (c - 3)) *1))=some (.string an)/\
 cf1 [f] n_enthymemeref04_binds #[.agg #[.i c,.int .u8 d,.int .u8 e,b.v]] ap λao aq=>(0:Int)<=0/\0<((b.n:Nat):Int)/\optP b.a λag=>ld4_0 aq (ag.add (Int.toNat 0 *4)) λah ai aj ak=>cf15 [f] n_enthymemeref04_Write #[.agg #[.i ah,.int .u8 ai,.int .u8 aj,ak.v],.i (IntKind.wrap .i64 (ao+1))] aq λaw ay=>L1T f c d e b an ao aw 1 ay R)))))))):Calls Tryz.prog n_enthymemeref04_Write #[.agg #[.i c,.int .u8 d,.int .u8 e,b.v],.i j] w R:=callsX X [eS2,eS3,eL1,eS0] h
end enthymemeref04_Write
namespace enthymemeref04_Text
noncomputable def C0:Code:=(Tryz.f59.body).getD .skip
noncomputable def C1:=C0.sn
noncomputable def C2:=C1.sn
noncomputable def C3:=C2.sn
noncomputable def C4:=C3.sn
noncomputable def C5:=C4.sn
noncomputable def C6:=C5.sn
noncomputable def C7:=C6.sn
noncomputable def C8:=C7.sn
abbrev Q0 (R:Post):ExP:=(bodyPost Tryz.prog Tryz.f59 R)
noncomputable def C9:=C8.sn
end enthymemeref04_Text
namespace enthymemeref04_Canonical
noncomputable abbrev X:Fx:=⟨Tryz.prog,Tryz.f92,[],[3,6]⟩
theorem okT (p:ByteArray) (w:World) (R:Post) (h:ca16 n_enthymemeref04_Parse #[.string p] w λb c d e x m y=>newV [] y λa t=>
 sel (m !=0) (loc [a] t λq=>R (.returned (.bool false)) q) (loc [a] t λq=>cf11 [a] n_enthymemeref04_Normal #[.agg #[.i b,.int .u8 c,.int .u8 d,e.v]] q λf g j k n z=>newV [a] z λo u=>
 sel (n==0) (loc [a,o] u λl=>cf15 [a,o] n_enthymemeref04_Write #[.agg #[.i f,.int .u8 g,.int .u8 j,k.v],.i 0] l λr s=>R (.returned (.bool (r.toList==p.toList))) s) (loc [a,o] u λl=>R (.returned (.bool false)) l))):Calls Tryz.prog n_enthymemeref04_Canonical #[.string p] w R:=callsX X [] h
end enthymemeref04_Canonical
end Go.Proofs.YthnoidogkbbkhaaGreatDoor
