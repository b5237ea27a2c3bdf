import Derived.Test.YthnoidogkbbkhaaGreatDoorV
import Derived.Test.YthnoidogkbbkhaaGreatDoorVB
set_option linter.unusedVariables false
set_option maxRecDepth 100000
set_option maxHeartbeats 2000000
namespace Go.Proofs.YthnoidogkbbkhaaGreatDoor
open Go Go.W
namespace strings_IndexByte
noncomputable abbrev X:Fx:=⟨Tryz.prog,Tryz.f20,[],[]⟩
theorem ok (s0:ByteArray) (c1:Int) (w:World) (R:Post) (h:ca1 n_internal_stringslite_IndexByte #[.string s0,.int .u8 c1] w λt7 w1=>R (.returned (.i t7)) w1):Calls Tryz.prog n_strings_IndexByte #[.string s0,.int .u8 c1] w R:=callsX X [] h
end strings_IndexByte
namespace internal_stringslite_IndexByte
noncomputable abbrev X:Fx:=⟨Tryz.prog,Tryz.f39,[],[]⟩
theorem ok (s0:ByteArray) (c1:Int) (w:World) (R:Post) (h:∃t7:Int,∃w1:World,Sem.run Tryz.prog (callFunc n_internal_bytealg_IndexByteString #[.string s0,.int .u8 c1]) w=.ok (.value (.i t7)) w1/\
 R (.returned (.i t7)) w1):Calls Tryz.prog n_internal_stringslite_IndexByte #[.string s0,.int .u8 c1] w R:=callsX X [] h
end internal_stringslite_IndexByte
namespace internal_stringslite_Index
noncomputable abbrev X:Fx:=⟨Tryz.prog,Tryz.f153,[],[]⟩
abbrev P0:Ps:=[]
abbrev S1 (w:World) (R:Post):Prop:=
 R (.returned (.i 0)) w
noncomputable def eS1:=entS X [] (pth [0,1,1,2,2]) P0 S1
abbrev P1:Ps:=[(0,.v [.st]),(1,.v [.st]),(5,.v [.I]),(6,.v [.Y]),(7,.v [.Y]),(8,.v [.I]),(9,.v [.I]),(10,.v [.I])]
def L6 (s0 substr1:ByteArray) (n5 c06 c17 i8 t9 fails10:Int) (w:World) (R:Post):Prop:=mkCur P1 0 (X.Sem (pth [0,2,8])) s0 substr1 n5 c06 c17 i8 t9 fails10 w R
noncomputable def eL6:=entL X (pth [0,2,8]) P1 L6
abbrev S11 (s0 substr1:ByteArray) (n5 c06 c17 i8 t9 fails10:Int) (w:World) (R:Post):Prop:=
 ∃t119:Int,w.cell? (Addr.mk 1 0 none)=some (.i t119)/\
 sel (decide (n5>t119)) (sel (decide (fails10>=(IntKind.wrap .i64 (4+(Int.fdiv i8 (2^(4))))))) (sel (decide (i8<t9)) ((0:Int)<=i8/\i8<=((s0.size:Nat):Int)/\ca1 n_internal_bytealg_IndexRabinKarp_string #[.string (s0.extract (Int.toNat i8) s0.size),.string substr1] w λt137 w1=>sel (decide (t137<0)) (R (.returned (.i (-1))) w1) (R (.returned (.i (IntKind.wrap .i64 (i8+t137)))) w1)) (L6 s0 substr1 n5 c06 c17 i8 t9 fails10 w R)) (L6 s0 substr1 n5 c06 c17 i8 t9 fails10 w R)) (L6 s0 substr1 n5 c06 c17 i8 t9 fails10 w R)
noncomputable def eS11:=entS X [eL6,eS1] (pth [6,1,1,3,8]) P1 S11
abbrev S10 (s0 substr1:ByteArray) (n5 c06 c17 i8 t9 fails10:Int) (w:World) (R:Post):Prop:=
 ∃t100:Int,w.cell? (Addr.mk 1 0 none)=some (.i t100)/\
 sel (decide (n5<=t100)) (ca1 n_internal_bytealg_Cutover #[.i i8] w λt105 w1=>sel (decide (fails10>t105)) ((0:Int)<=i8/\i8<=((s0.size:Nat):Int)/\∃t112:Int,∃w2:World,Sem.run Tryz.prog (callFunc n_internal_bytealg_IndexString #[.string (s0.extract (Int.toNat i8) s0.size),.string substr1]) w1=.ok (.value (.i t112)) w2/\
 sel (decide (t112>=0)) (R (.returned (.i (IntKind.wrap .i64 (t112+i8)))) w2) (R (.returned (.i (-1))) w2)) (S11 s0 substr1 n5 c06 c17 i8 t9 fails10 w1 R)) (S11 s0 substr1 n5 c06 c17 i8 t9 fails10 w R)
noncomputable def eS10:=entS X [eS11,eL6,eS1] (pth [4,1,1,3,8]) P1 S10
abbrev S9 (s0 substr1:ByteArray) (n5 c06 c17 i8 t9 fails10:Int) (w:World) (R:Post):Prop:=
 S10 s0 substr1 n5 c06 c17 i8 t9 (IntKind.wrap .i64 (fails10+1)) w R
noncomputable def eS9:=entS X [eS10,eS11,eL6,eS1] (pth [3,1,1,3,8]) P1 S9
abbrev S8 (s0 substr1:ByteArray) (n5 c06 c17 i8 t9 fails10:Int) (w:World) (R:Post):Prop:=
 S9 s0 substr1 n5 c06 c17 (IntKind.wrap .i64 (i8+1)) t9 fails10 w R
noncomputable def eS8:=entS X [eS9,eS10,eS11,eL6,eS1] (pth [2,1,1,3,8]) P1 S8
abbrev S7 (s0 substr1:ByteArray) (n5 c06 c17 i8 t9 fails10:Int) (w:World) (R:Post):Prop:=
 (0:Int)<=(IntKind.wrap .i64 (i8+1))/\∃t81_b:UInt8,s0[Int.toNat (IntKind.wrap .i64 (i8+1))]? =some t81_b/\sel (((t81_b.toNat:Nat):Int)==c17) ((0:Int)<=(IntKind.wrap .i64 (i8+n5))/\(IntKind.wrap .i64 (i8+n5))<=((s0.size:Nat):Int)/\(0:Int)<=i8/\i8<=(((Int.toNat (IntKind.wrap .i64 (i8+n5))):Nat):Int)/\sel ((s0.extract (Int.toNat i8) (Int.toNat (IntKind.wrap .i64 (i8+n5)))).toList==substr1.toList) (R (.returned (.i i8)) w) (S8 s0 substr1 n5 c06 c17 i8 t9 fails10 w R)) (S8 s0 substr1 n5 c06 c17 i8 t9 fails10 w R)
noncomputable def eS7:=entS X [eS8,eS9,eS10,eS11,eL6,eS1] (pth [1,1,1,3,8]) P1 S7
abbrev P2:Ps:=[(0,.v [.st]),(1,.v [.st]),(5,.v [.I]),(6,.v [.Y]),(7,.v [.Y]),(8,.v [.I]),(9,.v [.I])]
abbrev S5 (s0 substr1:ByteArray) (n5 c06 c17 i8 t9:Int) (w:World) (R:Post):Prop:=
 L6 s0 substr1 n5 c06 c17 i8 t9 0 w R
noncomputable def eS5:=entS X [eS7,eS8,eS9,eS10,eS11,eL6,eS1] (pth [7]) P2 S5
abbrev P3:Ps:=[(0,.v [.st]),(1,.v [.st]),(5,.v [.I]),(6,.v [.Y]),(7,.v [.Y])]
abbrev S4 (s0 substr1:ByteArray) (n5 c06 c17:Int) (w:World) (R:Post):Prop:=
 S5 s0 substr1 n5 c06 c17 0 (IntKind.wrap .i64 ((IntKind.wrap .i64 (((s0.size:Nat):Int) - n5))+1)) w R
noncomputable def eS4:=entS X [eS5,eS7,eS8,eS9,eS10,eS11,eL6,eS1] (pth [5]) P3 S4
abbrev P4:Ps:=[(0,.v [.st]),(1,.v [.st]),(5,.v [.I]),(6,.v [.Y])]
abbrev S3 (s0 substr1:ByteArray) (n5 c06:Int) (w:World) (R:Post):Prop:=
 (0:Int)<=1/\∃t51_b:UInt8,substr1[Int.toNat 1]? =some t51_b/\S4 s0 substr1 n5 c06 ((t51_b.toNat:Nat):Int) w R
noncomputable def eS3:=entS X [eS4,eS5,eS7,eS8,eS9,eS10,eS11,eL6,eS1] (pth [4]) P4 S3
abbrev P5:Ps:=[(0,.v [.st]),(1,.v [.st]),(5,.v [.I])]
abbrev S2 (s0 substr1:ByteArray) (n5:Int) (w:World) (R:Post):Prop:=
 (0:Int)<=0/\∃t49_b:UInt8,substr1[Int.toNat 0]? =some t49_b/\S3 s0 substr1 n5 ((t49_b.toNat:Nat):Int) w R
noncomputable def eS2:=entS X [eS3,eS4,eS5,eS7,eS8,eS9,eS10,eS11,eL6,eS1] (pth [3]) P5 S2
abbrev S0 (s0 substr1:ByteArray) (n5:Int) (w:World) (R:Post):Prop:=
 sel (n5==0) (S1 w R) (sel (substr1.toList==s0.toList) (S1 w R) (sel (n5==1) ((0:Int)<=0/\∃t29_b:UInt8,substr1[Int.toNat 0]? =some t29_b/\ca1 n_internal_stringslite_IndexByte #[.string s0,.int .u8 ((t29_b.toNat:Nat):Int)] w λt30 w1=>R (.returned (.i t30)) w1) (sel (decide (n5>=((s0.size:Nat):Int))) (R (.returned (.i (-1))) w) (∃t38:Int,w.cell? (Addr.mk 1 0 none)=some (.i t38)/\
 sel (decide (n5<=t38)) (sel (decide (((s0.size:Nat):Int)<=64)) (∃t47:Int,∃w2:World,Sem.run Tryz.prog (callFunc n_internal_bytealg_IndexString #[.string s0,.string substr1]) w=.ok (.value (.i t47)) w2/\
 R (.returned (.i t47)) w2) (S2 s0 substr1 n5 w R)) (S2 s0 substr1 n5 w R)))))
noncomputable def eS0:=entS X [eS2,eS3,eS4,eS5,eS7,eS8,eS9,eS10,eS11,eL6,eS1] (pth [2]) P5 S0
theorem ok (s0 substr1:ByteArray) (w:World) (R:Post) (h:S0 s0 substr1 ((substr1.size:Nat):Int) w R):Calls Tryz.prog n_internal_stringslite_Index #[.string s0,.string substr1] w R:=callsX X [eS0,eS2,eS3,eS4,eS5,eS7,eS8,eS9,eS10,eS11,eL6,eS1] h
end internal_stringslite_Index
namespace strings_Index
noncomputable abbrev X:Fx:=⟨Tryz.prog,Tryz.f157,[],[]⟩
theorem ok (s0 substr1:ByteArray) (w:World) (R:Post) (h:ca1 n_internal_stringslite_Index #[.string s0,.string substr1] w λt7 w1=>R (.returned (.i t7)) w1):Calls Tryz.prog n_strings_Index #[.string s0,.string substr1] w R:=callsX X [] h
end strings_Index
namespace internal_stringslite_HasPrefix
noncomputable abbrev X:Fx:=⟨Tryz.prog,Tryz.f154,[],[]⟩
theorem ok (s0 prefix1:ByteArray) (w:World) (R:Post) (h:sel (decide (((s0.size:Nat):Int)>=((prefix1.size:Nat):Int))) ((0:Int)<=((prefix1.size:Nat):Int)/\((prefix1.size:Nat):Int)<=((s0.size:Nat):Int)/\R (.returned (.bool ((s0.extract 0 (Int.toNat ((prefix1.size:Nat):Int))).toList==prefix1.toList))) w) (R (.returned (.bool false)) w)):Calls Tryz.prog n_internal_stringslite_HasPrefix #[.string s0,.string prefix1] w R:=callsX X [] h
end internal_stringslite_HasPrefix
namespace internal_stringslite_Cut
noncomputable abbrev X:Fx:=⟨Tryz.prog,Tryz.f127,[(3,ls [0,1,2,3,4,5,6,7,8,9,10,11])],[]⟩
theorem ok (s0 sep1:ByteArray) (w:World) (R:Post) (h:ca1 n_internal_stringslite_Index #[.string s0,.string sep1] w λt10 w1=>sel (decide (t10>=0)) (drV w1 λw2=>(0:Int)<=t10/\t10<=((s0.size:Nat):Int)/\(0:Int)<=(IntKind.wrap .i64 (t10+((sep1.size:Nat):Int)))/\(IntKind.wrap .i64 (t10+((sep1.size:Nat):Int)))<=((s0.size:Nat):Int)/\R (.returned (.tuple #[.string (s0.extract 0 (Int.toNat t10)),.string (s0.extract (Int.toNat (IntKind.wrap .i64 (t10+((sep1.size:Nat):Int)))) s0.size),.bool true])) w2) (R (.returned (.tuple #[.string s0,.s0,.bool false])) w1)):Calls Tryz.prog n_internal_stringslite_Cut #[.string s0,.string sep1] w R:=callsX X [] h
end internal_stringslite_Cut
namespace strings_Cut
noncomputable abbrev X:Fx:=⟨Tryz.prog,Tryz.f94,[],[]⟩
theorem ok (s0 sep1:ByteArray) (w:World) (R:Post) (h:ca26 n_internal_stringslite_Cut #[.string s0,.string sep1] w λt9_0 t9_1 t9_2 w1=>R (.returned (.tuple #[.string t9_0,.string t9_1,.bool t9_2])) w1):Calls Tryz.prog n_strings_Cut #[.string s0,.string sep1] w R:=callsX X [] h
end strings_Cut
namespace internal_stringslite_CutPrefix
noncomputable abbrev X:Fx:=⟨Tryz.prog,Tryz.f128,[],[]⟩
theorem ok (s0 prefix1:ByteArray) (w:World) (R:Post) (h:ca0 n_internal_stringslite_HasPrefix #[.string s0,.string prefix1] w λt8 w1=>sel (!t8) (R (.returned (.tuple #[.string s0,.bool false])) w1) ((0:Int)<=((prefix1.size:Nat):Int)/\((prefix1.size:Nat):Int)<=((s0.size:Nat):Int)/\R (.returned (.tuple #[.string (s0.extract (Int.toNat ((prefix1.size:Nat):Int)) s0.size),.bool true])) w1)):Calls Tryz.prog n_internal_stringslite_CutPrefix #[.string s0,.string prefix1] w R:=callsX X [] h
end internal_stringslite_CutPrefix
namespace strings_CutPrefix
noncomputable abbrev X:Fx:=⟨Tryz.prog,Tryz.f95,[],[]⟩
theorem ok (s0 prefix1:ByteArray) (w:World) (R:Post) (h:ca27 n_internal_stringslite_CutPrefix #[.string s0,.string prefix1] w λt8_0 t8_1 w1=>R (.returned (.tuple #[.string t8_0,.bool t8_1])) w1):Calls Tryz.prog n_strings_CutPrefix #[.string s0,.string prefix1] w R:=callsX X [] h
end strings_CutPrefix
namespace strings_Count
noncomputable abbrev X:Fx:=⟨Tryz.prog,Tryz.f156,[],[]⟩
abbrev P0:Ps:=[(0,.v [.st]),(1,.v [.st]),(5,.v [.I])]
def L0 (s0 substr1:ByteArray) (n5:Int) (w:World) (R:Post):Prop:=mkCur P0 0 (X.Sem (pth [0,1,4])) s0 substr1 n5 w R
noncomputable def eL0:=entL X (pth [0,1,4]) P0 L0
abbrev P1:Ps:=[(0,.v [.st]),(1,.v [.st]),(5,.v [.I]),(6,.v [.I])]
abbrev S1 (s0 substr1:ByteArray) (n5 i6:Int) (w:World) (R:Post):Prop:=
 (0:Int)<=(IntKind.wrap .i64 (i6+((substr1.size:Nat):Int)))/\(IntKind.wrap .i64 (i6+((substr1.size:Nat):Int)))<=((s0.size:Nat):Int)/\L0 (s0.extract (Int.toNat (IntKind.wrap .i64 (i6+((substr1.size:Nat):Int)))) s0.size) substr1 n5 w R
noncomputable def eS1:=entS X [eL0] (pth [3,3,4]) P1 S1
theorem ok (s0 substr1:ByteArray) (w:World) (R:Post) (h:sel (((substr1.size:Nat):Int)==0) (ca1 n_unicode_utf8_RuneCountInString #[.string s0] w λt11 w1=>R (.returned (.i (IntKind.wrap .i64 (t11+1)))) w1) (sel (((substr1.size:Nat):Int)==1) ((0:Int)<=0/\∃t18_b:UInt8,substr1[Int.toNat 0]? =some t18_b/\∃t19:Int,∃w2:World,Sem.run Tryz.prog (callFunc n_internal_bytealg_CountString #[.string s0,.int .u8 ((t18_b.toNat:Nat):Int)]) w=.ok (.value (.i t19)) w2/\
 R (.returned (.i t19)) w2) (L0 s0 substr1 0 w R))):Calls Tryz.prog n_strings_Count #[.string s0,.string substr1] w R:=callsX X [eS1,eL0] h
end strings_Count
namespace strings_genSplit
noncomputable abbrev X:Fx:=⟨Tryz.prog,Tryz.f129,[],[]⟩
abbrev P0:Ps:=[(0,.v [.st]),(1,.v [.st]),(2,.v [.I]),(3,.v [.I]),(9,.v [.s]),(10,.v [.I])]
def L3 (s0 sep1:ByteArray) (sepSave2 n3:Int) (a9:Sl) (i10:Int) (w:World) (R:Post):Prop:=mkCur P0 0 (X.Sem (pth [0,2,8])) s0 sep1 sepSave2 n3 a9 i10 w R
noncomputable def eL3:=entL X (pth [0,2,8]) P0 L3
abbrev P1:Ps:=[(0,.v [.st]),(9,.v [.s]),(10,.v [.I])]
abbrev S4 (s0:ByteArray) (a9:Sl) (i10:Int) (w:World) (R:Post):Prop:=
 (0:Int)<=i10/\i10<((a9.n:Nat):Int)/\optP a9.a λt61_p=>stV w (t61_p.add (Int.toNat i10 *1)) (.string s0) λw1=>
 (0:Int)<=(IntKind.wrap .i64 (i10+1))/\(IntKind.wrap .i64 (i10+1))<=((a9.c:Nat):Int)/\R (.returned (.slice (if a9.c=0 then a9.a else a9.a.map (·.add (0 *1))) ((Int.toNat (IntKind.wrap .i64 (i10+1))) - 0) (a9.c - 0))) w1
noncomputable def eS4:=entS X [eL3] (pth [9]) P1 S4
abbrev S5 (s0 sep1:ByteArray) (sepSave2 n3:Int) (a9:Sl) (i10:Int) (w:World) (R:Post):Prop:=
 L3 s0 sep1 sepSave2 n3 a9 (IntKind.wrap .i64 (i10+1)) w R
noncomputable def eS5:=entS X [eS4,eL3] (pth [4,1,1,3,8]) P0 S5
theorem L3_step:∀(s0 sep1:ByteArray) (sepSave2 n3:Int) (a9:Sl) (i10:Int) (w:World) (R:Post) (h:sel (decide (i10<n3)) (ca1 n_strings_Index #[.string s0,.string sep1] w λt39 w1=>sel (decide (t39<0)) (S4 s0 a9 i10 w1 R) ((0:Int)<=(IntKind.wrap .i64 (t39+sepSave2))/\(IntKind.wrap .i64 (t39+sepSave2))<=((s0.size:Nat):Int)/\(0:Int)<=i10/\i10<((a9.n:Nat):Int)/\optP a9.a λt49_p=>stV w1 (t49_p.add (Int.toNat i10 *1)) (.string (s0.extract 0 (Int.toNat (IntKind.wrap .i64 (t39+sepSave2))))) λw2=>
 (0:Int)<=(IntKind.wrap .i64 (t39+((sep1.size:Nat):Int)))/\(IntKind.wrap .i64 (t39+((sep1.size:Nat):Int)))<=((s0.size:Nat):Int)/\S5 (s0.extract (Int.toNat (IntKind.wrap .i64 (t39+((sep1.size:Nat):Int)))) s0.size) sep1 sepSave2 n3 a9 i10 w2 R)) (S4 s0 a9 i10 w R)),L3 s0 sep1 sepSave2 n3 a9 i10 w R:=mp (stepL (X:=X) [eS5,eS4,eL3] (pth [0,2,8]) P0)
abbrev P2:Ps:=[(0,.v [.st]),(1,.v [.st]),(2,.v [.I]),(3,.v [.I]),(9,.v [.s])]
abbrev S2 (s0 sep1:ByteArray) (sepSave2 n3:Int) (a9:Sl) (w:World) (R:Post):Prop:=
 L3 s0 sep1 sepSave2 n3 a9 0 w R
noncomputable def eS2:=entS X [eS5,eS4,eL3] (pth [7]) P2 S2
abbrev P3:Ps:=[(0,.v [.st]),(1,.v [.st]),(2,.v [.I]),(3,.v [.I])]
abbrev S1 (s0 sep1:ByteArray) (sepSave2 n3:Int) (w:World) (R:Post):Prop:=
 ∃(t31:Sl) (w1:World),Sem.run Tryz.prog (Instr.makeSlice ty_sl_string (.i n3) (.i n3)) w=.ok (t31.v) w1/\S2 s0 sep1 sepSave2 (IntKind.wrap .i64 (n3 - 1)) t31 w1 R
noncomputable def eS1:=entS X [eS2,eS5,eS4,eL3] (pth [5]) P3 S1
abbrev S0 (s0 sep1:ByteArray) (sepSave2 n3:Int) (w:World) (R:Post):Prop:=
 S1 s0 sep1 sepSave2 (if IntKind.wrap .i64 (((s0.size:Nat):Int)+1)<n3 then IntKind.wrap .i64 (((s0.size:Nat):Int)+1) else n3) w R
noncomputable def eS0:=entS X [eS1,eS2,eS5,eS4,eL3] (pth [4]) P3 S0
theorem ok (s0 sep1:ByteArray) (sepSave2 n3:Int) (w:World) (R:Post) (h:sel (n3==0) (R (.returned (.slice none 0 0)) w) (sel (sep1.toList==(ByteArray.mk #[]).toList) (ca3 n_strings_explode #[.string s0,.i n3] w λt18 w1=>R (.returned (t18.v)) w1) (sel (decide (n3<0)) (ca1 n_strings_Count #[.string s0,.string sep1] w λt23 w2=>S0 s0 sep1 sepSave2 (IntKind.wrap .i64 (t23+1)) w2 R) (S0 s0 sep1 sepSave2 n3 w R)))):Calls Tryz.prog n_strings_genSplit #[.string s0,.string sep1,.i sepSave2,.i n3] w R:=callsX X [eS0,eS1,eS2,eS5,eS4,eL3] h
end strings_genSplit
namespace strings_Split
noncomputable abbrev X:Fx:=⟨Tryz.prog,Tryz.f96,[],[]⟩
theorem ok (s0 sep1:ByteArray) (w:World) (R:Post) (h:ca3 n_strings_genSplit #[.string s0,.string sep1,.i 0,.i (-1)] w λt7 w1=>R (.returned (t7.v)) w1):Calls Tryz.prog n_strings_Split #[.string s0,.string sep1] w R:=callsX X [] h
end strings_Split
abbrev litVDn0:ByteArray:=ByteArray.mk #[48,48,48,49,48,50,48,51,48,52,48,53,48,54,48,55,48,56,48,57,49,48,49,49,49,50,49,51,49,52,49,53,49,54,49,55,49,56,49,57,50,48,50,49,50,50,50,51,50,52,50,53,50,54,50,55,50,56,50,57,51,48,51,49,51,50,51,51,51,52,51,53,51,54,51,55,51,56,51,57,52,48,52,49,52,50,52,51,52,52,52,53,52,54,52,55,52,56,52,57,53,48,53,49,53,50,53,51,53,52,53,53,53,54,53,55,53,56,53,57,54,48,54,49,54,50,54,51,54,52,54,53,54,54,54,55,54,56,54,57,55,48,55,49,55,50,55,51,55,52,55,53,55,54,55,55,55,56,55,57,56,48,56,49,56,50,56,51,56,52,56,53,56,54,56,55,56,56,56,57,57,48,57,49,57,50,57,51,57,52,57,53,57,54,57,55,57,56,57,57]
abbrev litVDn1:ByteArray:=ByteArray.mk #[48,49,50,51,52,53,54,55,56,57,97,98,99,100,101,102,103,104,105,106,107,108,109,110,111,112,113,114,115,116,117,118,119,120,121,122]
namespace internal_strconv_bool2_int
noncomputable abbrev X:Fx:=⟨Tryz.prog,Tryz.f199,[],[]⟩
theorem ok (b0:Bool) (w:World) (R:Post) (h:sel b0 (R (.returned (.i 1)) w) (R (.returned (.i 0)) w)):Calls Tryz.prog n_internal_strconv_bool2_int #[.bool b0] w R:=callsX X [] h
end internal_strconv_bool2_int
namespace internal_strconv_log10Pow2
noncomputable abbrev X:Fx:=⟨Tryz.prog,Tryz.f197,[],[]⟩
theorem ok (x0:Int) (w:World) (R:Post) (h:R (.returned (.i (Int.fdiv (IntKind.wrap .i64 (x0 *78913)) (2^(18))))) w):Calls Tryz.prog n_internal_strconv_log10Pow2 #[.i x0] w R:=callsX X [] h
end internal_strconv_log10Pow2
namespace internal_strconv_numDigits
noncomputable abbrev X:Fx:=⟨Tryz.prog,Tryz.f170,[],[]⟩
theorem ok (d0:Int) (w:World) (R:Post) (h:ca1 n_math_bits_Len64 #[.u d0] w λt5 w1=>ca1 n_internal_strconv_log10Pow2 #[.i t5] w1 λt6 w2=>(0:Int)<=t6/\t6<((20:Nat):Int)/\∃t11:Int,w2.cell? ((Addr.mk 5 0 none).add (Int.toNat t6 *1))=some (.u t11)/\
 ca1 n_internal_strconv_bool2_int #[.bool (decide (d0>=t11))] w2 λt13 w3=>R (.returned (.i (IntKind.wrap .i64 (t6+t13)))) w3):Calls Tryz.prog n_internal_strconv_numDigits #[.u d0] w R:=callsX X [] h
end internal_strconv_numDigits
namespace internal_strconv_formatBase10
noncomputable abbrev X:Fx:=⟨Tryz.prog,Tryz.f171,[(7,ls [0,1,2,3,4,5,6,7,8,9,10,11,12,13,14]),(8,ls [0,1,2,3,4,5,6,7,8,9,10,11,12,13,14]),(9,ls [0,1,2,3,4,5,6,7,8,9,10,11,12,13,14]),(10,ls [0,1,2,3,4,5,6,7,8,9,10,11,12,13,14]),(17,ls [0,1,2,3,4,5,6,7,8,9,10,11,12,13,14]),(18,ls [0,1,2,3,4,5,6,7,8,9,10,11,12,13,14]),(23,ls [0,1,2,3,4,5,6,7,8,9,10,11,12,13,14])],[]⟩
abbrev P0:Ps:=[(0,.v [.s]),(1,.v [.U]),(4,.v [.I])]
def L0 (a0:Sl) (u1 nd4:Int) (w:World) (R:Post):Prop:=mkCur P0 0 (X.Sem (pth [0,2,1])) a0 u1 nd4 w R
noncomputable def eL0:=entL X (pth [0,2,1]) P0 L0
abbrev P1:Ps:=[(0,.v [.s]),(1,.v [.U]),(4,.v [.I]),(8,.v [.i .u32]),(9,.v [.i .u32]),(10,.v [.i .u32]),(11,.v [.i .u32])]
abbrev S5 (a0:Sl) (u1 nd4 x18 x09 x310 x211:Int) (w:World) (R:Post):Prop:=
 drV w λw1=>(0:Int)<=(IntKind.wrap .u32 (x09+1))/\∃t50_b:UInt8,litVDn0[Int.toNat (IntKind.wrap .u32 (x09+1))]? =some t50_b/\(0:Int)<=x09/\∃t52_b:UInt8,litVDn0[Int.toNat x09]? =some t52_b/\(0:Int)<=(IntKind.wrap .i64 (nd4 - 1))/\(IntKind.wrap .i64 (nd4 - 1))<((a0.n:Nat):Int)/\optP a0.a λt53_p=>stV w1 (t53_p.add (Int.toNat (IntKind.wrap .i64 (nd4 - 1)) *1)) (.int .u8 ((t50_b.toNat:Nat):Int)) λw2=>
 (0:Int)<=(IntKind.wrap .i64 (nd4 - 2))/\(IntKind.wrap .i64 (nd4 - 2))<((a0.n:Nat):Int)/\optP a0.a λt54_p=>stV w2 (t54_p.add (Int.toNat (IntKind.wrap .i64 (nd4 - 2)) *1)) (.int .u8 ((t52_b.toNat:Nat):Int)) λw3=>
 drV w3 λw4=>(0:Int)<=(IntKind.wrap .u32 (x18+1))/\∃t63_b:UInt8,litVDn0[Int.toNat (IntKind.wrap .u32 (x18+1))]? =some t63_b/\(0:Int)<=x18/\∃t65_b:UInt8,litVDn0[Int.toNat x18]? =some t65_b/\(0:Int)<=(IntKind.wrap .i64 (nd4 - 3))/\(IntKind.wrap .i64 (nd4 - 3))<((a0.n:Nat):Int)/\optP a0.a λt66_p=>stV w4 (t66_p.add (Int.toNat (IntKind.wrap .i64 (nd4 - 3)) *1)) (.int .u8 ((t63_b.toNat:Nat):Int)) λw5=>
 (0:Int)<=(IntKind.wrap .i64 (nd4 - 4))/\(IntKind.wrap .i64 (nd4 - 4))<((a0.n:Nat):Int)/\optP a0.a λt67_p=>stV w5 (t67_p.add (Int.toNat (IntKind.wrap .i64 (nd4 - 4)) *1)) (.int .u8 ((t65_b.toNat:Nat):Int)) λw6=>
 drV w6 λw7=>(0:Int)<=(IntKind.wrap .u32 (x211+1))/\∃t76_b:UInt8,litVDn0[Int.toNat (IntKind.wrap .u32 (x211+1))]? =some t76_b/\(0:Int)<=x211/\∃t78_b:UInt8,litVDn0[Int.toNat x211]? =some t78_b/\(0:Int)<=(IntKind.wrap .i64 (nd4 - 5))/\(IntKind.wrap .i64 (nd4 - 5))<((a0.n:Nat):Int)/\optP a0.a λt79_p=>stV w7 (t79_p.add (Int.toNat (IntKind.wrap .i64 (nd4 - 5)) *1)) (.int .u8 ((t76_b.toNat:Nat):Int)) λw8=>
 (0:Int)<=(IntKind.wrap .i64 (nd4 - 6))/\(IntKind.wrap .i64 (nd4 - 6))<((a0.n:Nat):Int)/\optP a0.a λt80_p=>stV w8 (t80_p.add (Int.toNat (IntKind.wrap .i64 (nd4 - 6)) *1)) (.int .u8 ((t78_b.toNat:Nat):Int)) λw9=>
 drV w9 λw10=>(0:Int)<=(IntKind.wrap .u32 (x310+1))/\∃t89_b:UInt8,litVDn0[Int.toNat (IntKind.wrap .u32 (x310+1))]? =some t89_b/\(0:Int)<=x310/\∃t91_b:UInt8,litVDn0[Int.toNat x310]? =some t91_b/\(0:Int)<=(IntKind.wrap .i64 (nd4 - 7))/\(IntKind.wrap .i64 (nd4 - 7))<((a0.n:Nat):Int)/\optP a0.a λt92_p=>stV w10 (t92_p.add (Int.toNat (IntKind.wrap .i64 (nd4 - 7)) *1)) (.int .u8 ((t89_b.toNat:Nat):Int)) λw11=>
 (0:Int)<=(IntKind.wrap .i64 (nd4 - 8))/\(IntKind.wrap .i64 (nd4 - 8))<((a0.n:Nat):Int)/\optP a0.a λt93_p=>stV w11 (t93_p.add (Int.toNat (IntKind.wrap .i64 (nd4 - 8)) *1)) (.int .u8 ((t91_b.toNat:Nat):Int)) λw12=>
 L0 a0 u1 (IntKind.wrap .i64 (nd4 - 8)) w12 R
noncomputable def eS5:=entS X [eL0] (pth [5,1,1,3,1]) P1 S5
abbrev P2:Ps:=[(0,.v [.s]),(1,.v [.U]),(4,.v [.I]),(6,.v [.i .u32]),(8,.v [.i .u32]),(9,.v [.i .u32])]
abbrev S4 (a0:Sl) (u1 nd4 x326 x18 x09:Int) (w:World) (R:Post):Prop:=
 S5 a0 u1 nd4 x18 x09 (IntKind.wrap .u32 ((IntKind.wrap .u32 (Int.tdiv x326 100)) *2)) (IntKind.wrap .u32 ((Int.tmod x326 100) *2)) w R
noncomputable def eS4:=entS X [eS5,eL0] (pth [4,1,1,3,1]) P2 S4
abbrev P3:Ps:=[(0,.v [.s]),(1,.v [.U]),(4,.v [.I]),(6,.v [.i .u32]),(7,.v [.i .u32])]
abbrev S3 (a0:Sl) (u1 nd4 x326 x107:Int) (w:World) (R:Post):Prop:=
 S4 a0 u1 nd4 x326 (IntKind.wrap .u32 ((IntKind.wrap .u32 (Int.tdiv x107 100)) *2)) (IntKind.wrap .u32 ((Int.tmod x107 100) *2)) w R
noncomputable def eS3:=entS X [eS4,eS5,eL0] (pth [3,1,1,3,1]) P3 S3
abbrev P4:Ps:=[(0,.v [.s]),(1,.v [.U]),(4,.v [.I]),(5,.v [.i .u32])]
abbrev S2 (a0:Sl) (u1 nd4 x32105:Int) (w:World) (R:Post):Prop:=
 S3 a0 u1 nd4 (IntKind.wrap .u32 (Int.tdiv x32105 10000)) (Int.tmod x32105 10000) w R
noncomputable def eS2:=entS X [eS3,eS4,eS5,eL0] (pth [2,1,1,3,1]) P4 S2
abbrev S1 (a0:Sl) (u1 nd4 x32105:Int) (w:World) (R:Post):Prop:=
 S2 a0 (IntKind.wrap .u64 (Int.tdiv u1 100000000)) nd4 x32105 w R
noncomputable def eS1:=entS X [eS2,eS3,eS4,eS5,eL0] (pth [1,1,1,3,1]) P4 S1
abbrev P5:Ps:=[(0,.v [.s]),(4,.v [.I]),(12,.v [.i .u32])]
abbrev S12 (a0:Sl) (nd4 x12:Int) (w:World) (R:Post):Prop:=
 sel (decide (nd4>0)) ((0:Int)<=0/\0<((a0.n:Nat):Int)/\optP a0.a λt166_p=>stV w (t166_p.add (Int.toNat 0 *1)) (.int .u8 (IntKind.wrap .u8 (IntKind.wrap .u32 (48+x12)))) λw1=>
 R (.returned (.tuple #[])) w1) (R (.returned (.tuple #[])) w)
noncomputable def eS12:=entS X [eS1,eS2,eS3,eS4,eS5,eL0] (pth [5]) P5 S12
abbrev P6:Ps:=[(0,.v [.s]),(4,.v [.I]),(12,.v [.i .u32]),(16,.v [.i .u32])]
abbrev S11 (a0:Sl) (nd4 x12 x016:Int) (w:World) (R:Post):Prop:=
 drV w λw1=>(0:Int)<=(IntKind.wrap .u32 (x016+1))/\∃t153_b:UInt8,litVDn0[Int.toNat (IntKind.wrap .u32 (x016+1))]? =some t153_b/\(0:Int)<=x016/\∃t155_b:UInt8,litVDn0[Int.toNat x016]? =some t155_b/\(0:Int)<=(IntKind.wrap .i64 (nd4 - 1))/\(IntKind.wrap .i64 (nd4 - 1))<((a0.n:Nat):Int)/\optP a0.a λt156_p=>stV w1 (t156_p.add (Int.toNat (IntKind.wrap .i64 (nd4 - 1)) *1)) (.int .u8 ((t153_b.toNat:Nat):Int)) λw2=>
 (0:Int)<=(IntKind.wrap .i64 (nd4 - 2))/\(IntKind.wrap .i64 (nd4 - 2))<((a0.n:Nat):Int)/\optP a0.a λt157_p=>stV w2 (t157_p.add (Int.toNat (IntKind.wrap .i64 (nd4 - 2)) *1)) (.int .u8 ((t155_b.toNat:Nat):Int)) λw3=>
 S12 a0 (IntKind.wrap .i64 (nd4 - 2)) x12 w3 R
noncomputable def eS11:=entS X [eS12,eS1,eS2,eS3,eS4,eS5,eL0] (pth [2,1,1,1,4]) P6 S11
abbrev S10 (a0:Sl) (nd4 x12 x016:Int) (w:World) (R:Post):Prop:=
 S11 a0 nd4 (IntKind.wrap .u32 (Int.tdiv x12 100)) x016 w R
noncomputable def eS10:=entS X [eS11,eS12,eS1,eS2,eS3,eS4,eS5,eL0] (pth [1,1,1,1,4]) P6 S10
abbrev S9 (a0:Sl) (nd4 x12:Int) (w:World) (R:Post):Prop:=
 sel (decide (nd4>=2)) (S10 a0 nd4 x12 (IntKind.wrap .u32 ((Int.tmod x12 100) *2)) w R) (S12 a0 nd4 x12 w R)
noncomputable def eS9:=entS X [eS10,eS11,eS12,eS1,eS2,eS3,eS4,eS5,eL0] (pth [4]) P5 S9
abbrev P7:Ps:=[(0,.v [.s]),(4,.v [.I]),(12,.v [.i .u32]),(14,.v [.i .u32]),(15,.v [.i .u32])]
abbrev S8 (a0:Sl) (nd4 x12 x114 x015:Int) (w:World) (R:Post):Prop:=
 drV w λw1=>(0:Int)<=(IntKind.wrap .u32 (x015+1))/\∃t118_b:UInt8,litVDn0[Int.toNat (IntKind.wrap .u32 (x015+1))]? =some t118_b/\(0:Int)<=x015/\∃t120_b:UInt8,litVDn0[Int.toNat x015]? =some t120_b/\(0:Int)<=(IntKind.wrap .i64 (nd4 - 1))/\(IntKind.wrap .i64 (nd4 - 1))<((a0.n:Nat):Int)/\optP a0.a λt121_p=>stV w1 (t121_p.add (Int.toNat (IntKind.wrap .i64 (nd4 - 1)) *1)) (.int .u8 ((t118_b.toNat:Nat):Int)) λw2=>
 (0:Int)<=(IntKind.wrap .i64 (nd4 - 2))/\(IntKind.wrap .i64 (nd4 - 2))<((a0.n:Nat):Int)/\optP a0.a λt122_p=>stV w2 (t122_p.add (Int.toNat (IntKind.wrap .i64 (nd4 - 2)) *1)) (.int .u8 ((t120_b.toNat:Nat):Int)) λw3=>
 drV w3 λw4=>(0:Int)<=(IntKind.wrap .u32 (x114+1))/\∃t131_b:UInt8,litVDn0[Int.toNat (IntKind.wrap .u32 (x114+1))]? =some t131_b/\(0:Int)<=x114/\∃t133_b:UInt8,litVDn0[Int.toNat x114]? =some t133_b/\(0:Int)<=(IntKind.wrap .i64 (nd4 - 3))/\(IntKind.wrap .i64 (nd4 - 3))<((a0.n:Nat):Int)/\optP a0.a λt134_p=>stV w4 (t134_p.add (Int.toNat (IntKind.wrap .i64 (nd4 - 3)) *1)) (.int .u8 ((t131_b.toNat:Nat):Int)) λw5=>
 (0:Int)<=(IntKind.wrap .i64 (nd4 - 4))/\(IntKind.wrap .i64 (nd4 - 4))<((a0.n:Nat):Int)/\optP a0.a λt135_p=>stV w5 (t135_p.add (Int.toNat (IntKind.wrap .i64 (nd4 - 4)) *1)) (.int .u8 ((t133_b.toNat:Nat):Int)) λw6=>
 S9 a0 (IntKind.wrap .i64 (nd4 - 4)) x12 w6 R
noncomputable def eS8:=entS X [eS9,eS10,eS11,eS12,eS1,eS2,eS3,eS4,eS5,eL0] (pth [3,1,1,1,3]) P7 S8
abbrev P8:Ps:=[(0,.v [.s]),(4,.v [.I]),(12,.v [.i .u32]),(13,.v [.i .u32])]
abbrev S7 (a0:Sl) (nd4 x12 x1013:Int) (w:World) (R:Post):Prop:=
 S8 a0 nd4 x12 (IntKind.wrap .u32 ((IntKind.wrap .u32 (Int.tdiv x1013 100)) *2)) (IntKind.wrap .u32 ((Int.tmod x1013 100) *2)) w R
noncomputable def eS7:=entS X [eS8,eS9,eS10,eS11,eS12,eS1,eS2,eS3,eS4,eS5,eL0] (pth [2,1,1,1,3]) P8 S7
abbrev S6 (a0:Sl) (nd4 x12 x1013:Int) (w:World) (R:Post):Prop:=
 S7 a0 nd4 (IntKind.wrap .u32 (Int.tdiv x12 10000)) x1013 w R
noncomputable def eS6:=entS X [eS7,eS8,eS9,eS10,eS11,eS12,eS1,eS2,eS3,eS4,eS5,eL0] (pth [1,1,1,1,3]) P8 S6
theorem L0_step:∀(a0:Sl) (u1 nd4:Int) (w:World) (R:Post) (h:sel (decide (nd4>=8)) (S1 a0 u1 nd4 (IntKind.wrap .u32 (Int.tmod u1 100000000)) w R) (sel (decide (nd4>=4)) (S6 a0 nd4 (IntKind.wrap .u32 u1) (Int.tmod (IntKind.wrap .u32 u1) 10000) w R) (S9 a0 nd4 (IntKind.wrap .u32 u1) w R))),L0 a0 u1 nd4 w R:=mp (stepL (X:=X) [eS6,eS7,eS8,eS9,eS10,eS11,eS12,eS1,eS2,eS3,eS4,eS5,eL0] (pth [0,2,1]) P0)
theorem ok (a0:Sl) (u1:Int) (w:World) (R:Post) (h:L0 a0 u1 ((a0.n:Nat):Int) w R):Calls Tryz.prog n_internal_strconv_formatBase10 #[a0.v,.u u1] w R:=callsX X [eS6,eS7,eS8,eS9,eS10,eS11,eS12,eS1,eS2,eS3,eS4,eS5,eL0] h
end internal_strconv_formatBase10
namespace internal_strconv_small
noncomputable abbrev X:Fx:=⟨Tryz.prog,Tryz.f169,[],[]⟩
theorem ok (i0:Int) (w:World) (R:Post) (h:sel (decide (i0<10)) ((0:Int)<=(IntKind.wrap .i64 (i0+1))/\(IntKind.wrap .i64 (i0+1))<=((litVDn1.size:Nat):Int)/\(0:Int)<=i0/\i0<=(((Int.toNat (IntKind.wrap .i64 (i0+1))):Nat):Int)/\R (.returned (.string (litVDn1.extract (Int.toNat i0) (Int.toNat (IntKind.wrap .i64 (i0+1)))))) w) ((0:Int)<=(IntKind.wrap .i64 ((IntKind.wrap .i64 (i0 *2))+2))/\(IntKind.wrap .i64 ((IntKind.wrap .i64 (i0 *2))+2))<=((litVDn0.size:Nat):Int)/\(0:Int)<=(IntKind.wrap .i64 (i0 *2))/\(IntKind.wrap .i64 (i0 *2))<=(((Int.toNat (IntKind.wrap .i64 ((IntKind.wrap .i64 (i0 *2))+2))):Nat):Int)/\R (.returned (.string (litVDn0.extract (Int.toNat (IntKind.wrap .i64 (i0 *2))) (Int.toNat (IntKind.wrap .i64 ((IntKind.wrap .i64 (i0 *2))+2)))))) w)):Calls Tryz.prog n_internal_strconv_small #[.i i0] w R:=callsX X [] h
end internal_strconv_small
namespace internal_strconv_FormatInt
noncomputable abbrev X:Fx:=⟨Tryz.prog,Tryz.f140,[],[]⟩
abbrev P0:Ps:=[(0,.v [.I]),(5,.v [.r]),(6,.v [.U])]
abbrev S1 (i0:Int) (a5:Addr) (u6:Int) (w:World) (R:Post):Prop:=
 ca1 n_internal_strconv_numDigits #[.u u6] w λt27 w1=>(0:Int)<=(IntKind.wrap .i64 (1+t27))/\(IntKind.wrap .i64 (1+t27))<=((24:Nat):Int)/\(0:Int)<=1/\1<=(((Int.toNat (IntKind.wrap .i64 (1+t27))):Nat):Int)/\ca4 n_internal_strconv_formatBase10 #[.slice (some (if 24=(Int.toNat 1) then a5 else a5.add ((Int.toNat 1) *1))) ((Int.toNat (IntKind.wrap .i64 (1+t27))) - (Int.toNat 1)) (24 - (Int.toNat 1)),.u u6] w1 λw2=>sel (decide (i0<0)) ((0:Int)<=0/\0<((24:Nat):Int)/\stV w2 (a5.add (Int.toNat 0 *1)) (.int .u8 45) λw3=>
 (0:Int)<=(IntKind.wrap .i64 (1+t27))/\(IntKind.wrap .i64 (1+t27))<=((24:Nat):Int)/\∃t39:ByteArray,Sem.run Tryz.prog (Go.convert ty_sl_uint8 ty_string (.slice (some (if 24=0 then a5 else a5.add (0 *1))) ((Int.toNat (IntKind.wrap .i64 (1+t27))) - 0) (24 - 0))) w3=.ok (.string t39) w3/\R (.returned (.string t39)) w3) ((0:Int)<=(IntKind.wrap .i64 (1+t27))/\(IntKind.wrap .i64 (1+t27))<=((24:Nat):Int)/\(0:Int)<=1/\1<=(((Int.toNat (IntKind.wrap .i64 (1+t27))):Nat):Int)/\∃t43:ByteArray,Sem.run Tryz.prog (Go.convert ty_sl_uint8 ty_string (.slice (some (if 24=(Int.toNat 1) then a5 else a5.add ((Int.toNat 1) *1))) ((Int.toNat (IntKind.wrap .i64 (1+t27))) - (Int.toNat 1)) (24 - (Int.toNat 1)))) w2=.ok (.string t43) w2/\R (.returned (.string t43)) w2)
noncomputable def eS1:=entS X [] (pth [4,1,1,1,1]) P0 S1
abbrev P1:Ps:=[(0,.v [.I])]
abbrev S0 (i0:Int) (w:World) (R:Post):Prop:=
 nwV w (.cells #[.int .u8 0,.int .u8 0,.int .u8 0,.int .u8 0,.int .u8 0,.int .u8 0,.int .u8 0,.int .u8 0,.int .u8 0,.int .u8 0,.int .u8 0,.int .u8 0,.int .u8 0,.int .u8 0,.int .u8 0,.int .u8 0,.int .u8 0,.int .u8 0,.int .u8 0,.int .u8 0,.int .u8 0,.int .u8 0,.int .u8 0,.int .u8 0] ty_24_uint8) λw1=>
 sel (decide (i0<0)) (S1 i0 (nb w) (IntKind.wrap .u64 (0 - (IntKind.wrap .u64 i0))) w1 R) (S1 i0 (nb w) (IntKind.wrap .u64 i0) w1 R)
noncomputable def eS0:=entS X [eS1] (pth [1,1,1,1,1]) P1 S0
theorem ok (i0 base1:Int) (w:World) (R:Post) (h:sel (base1==10) (sel (decide (0<=i0)) (sel (decide (i0<100)) (ca15 n_internal_strconv_small #[.i i0] w λt19 w1=>R (.returned (.string t19)) w1) (S0 i0 w R)) (S0 i0 w R)) (ca23 n_internal_strconv_formatBits #[.slice none 0 0,.u (IntKind.wrap .u64 i0),.i base1,.bool (decide (i0<0)),.bool false] w λt50_0 t50_1 w2=>R (.returned (.string t50_1)) w2)):Calls Tryz.prog n_internal_strconv_FormatInt #[.i i0,.i base1] w R:=callsX X [eS0,eS1] h
end internal_strconv_FormatInt
namespace internal_strconv_Itoa
noncomputable abbrev X:Fx:=⟨Tryz.prog,Tryz.f117,[],[]⟩
theorem ok (i0:Int) (w:World) (R:Post) (h:ca15 n_internal_strconv_FormatInt #[.i i0,.i 10] w λt4 w1=>R (.returned (.string t4)) w1):Calls Tryz.prog n_internal_strconv_Itoa #[.i i0] w R:=callsX X [] h
end internal_strconv_Itoa
namespace strconv_Itoa
noncomputable abbrev X:Fx:=⟨Tryz.prog,Tryz.f83,[],[]⟩
theorem ok (i0:Int) (w:World) (R:Post) (h:ca15 n_internal_strconv_Itoa #[.i i0] w λt4 w1=>R (.returned (.string t4)) w1):Calls Tryz.prog n_strconv_Itoa #[.i i0] w R:=callsX X [] h
end strconv_Itoa
namespace internal_strconv_AppendUint
noncomputable abbrev X:Fx:=⟨Tryz.prog,Tryz.f139,[],[]⟩
theorem ok (dst0:Sl) (i1 base2:Int) (w:World) (R:Post) (h:sel (base2==10) (sel (decide (i1<100)) (ca15 n_internal_strconv_small #[.i (IntKind.wrap .i64 i1)] w λt16 w1=>∃(t17:Sl) (w2:World),Sem.run Tryz.prog (Builtin.append_ #[ty_sl_uint8,ty_string] ty_sl_uint8 #[dst0.v,.string t16]) w1=.ok (t17.v) w2/\R (.returned (t17.v)) w2) (nwV w (.cells #[.int .u8 0,.int .u8 0,.int .u8 0,.int .u8 0,.int .u8 0,.int .u8 0,.int .u8 0,.int .u8 0,.int .u8 0,.int .u8 0,.int .u8 0,.int .u8 0,.int .u8 0,.int .u8 0,.int .u8 0,.int .u8 0,.int .u8 0,.int .u8 0,.int .u8 0,.int .u8 0,.int .u8 0,.int .u8 0,.int .u8 0,.int .u8 0] ty_24_uint8) λw3=>
 ca1 n_internal_strconv_numDigits #[.u i1] w3 λt19 w4=>(0:Int)<=t19/\t19<=((24:Nat):Int)/\ca4 n_internal_strconv_formatBase10 #[.slice (some (if 24=0 then nb w else (nb w).add (0 *1))) ((Int.toNat t19) - 0) (24 - 0),.u i1] w4 λw5=>(0:Int)<=t19/\t19<=((24:Nat):Int)/\∃(t27:Sl) (w6:World),Sem.run Tryz.prog (Builtin.append_ #[ty_sl_uint8,ty_sl_uint8] ty_sl_uint8 #[dst0.v,.slice (some (if 24=0 then nb w else (nb w).add (0 *1))) ((Int.toNat t19) - 0) (24 - 0)]) w5=.ok (t27.v) w6/\R (.returned (t27.v)) w6)) (ca23 n_internal_strconv_formatBits #[dst0.v,.u i1,.i base2,.bool false,.bool true] w λt32_0 t32_1 w7=>R (.returned (t32_0.v)) w7)):Calls Tryz.prog n_internal_strconv_AppendUint #[dst0.v,.u i1,.i base2] w R:=callsX X [] h
end internal_strconv_AppendUint
namespace internal_strconv_AppendInt
noncomputable abbrev X:Fx:=⟨Tryz.prog,Tryz.f116,[],[]⟩
abbrev P0:Ps:=[(0,.v [.s]),(2,.v [.I]),(7,.v [.U])]
abbrev S0 (dst0:Sl) (base2 u7:Int) (w:World) (R:Post):Prop:=
 ca3 n_internal_strconv_AppendUint #[dst0.v,.u u7,.i base2] w λt20 w1=>R (.returned (t20.v)) w1
noncomputable def eS0:=entS X [] (pth [3]) P0 S0
theorem ok (dst0:Sl) (i1 base2:Int) (w:World) (R:Post) (h:sel (decide (i1<0)) (nwV w (.cells #[.int .u8 45] ty_uint8) λw1=>
 ∃(t14:Sl) (w2:World),Sem.run Tryz.prog (Builtin.append_ #[ty_sl_uint8,ty_sl_uint8] ty_sl_uint8 #[dst0.v,.slice (some (nb w)) 1 1]) w1=.ok (t14.v) w2/\S0 t14 base2 (IntKind.wrap .u64 (0 - (IntKind.wrap .u64 i1))) w2 R) (S0 dst0 base2 (IntKind.wrap .u64 i1) w R)):Calls Tryz.prog n_internal_strconv_AppendInt #[dst0.v,.i i1,.i base2] w R:=callsX X [eS0] h
end internal_strconv_AppendInt
namespace strconv_AppendInt
noncomputable abbrev X:Fx:=⟨Tryz.prog,Tryz.f82,[],[]⟩
theorem ok (dst0:Sl) (i1 base2:Int) (w:World) (R:Post) (h:ca3 n_internal_strconv_AppendInt #[dst0.v,.i i1,.i base2] w λt10 w1=>R (.returned (t10.v)) w1):Calls Tryz.prog n_strconv_AppendInt #[dst0.v,.i i1,.i base2] w R:=callsX X [] h
end strconv_AppendInt
namespace internal_strconv_lower
noncomputable abbrev X:Fx:=⟨Tryz.prog,Tryz.f207,[],[]⟩
theorem ok (c0:Int) (w:World) (R:Post) (h:R (.returned (.int .u8 (bOr .u8 c0 32))) w):Calls Tryz.prog n_internal_strconv_lower #[.int .u8 c0] w R:=callsX X [] h
end internal_strconv_lower
namespace internal_strconv_ParseUint
noncomputable abbrev X:Fx:=⟨Tryz.prog,Tryz.f184,[],[]⟩
abbrev P0:Ps:=[(1,.v [.I]),(8,.v [.b]),(9,.v [.st]),(10,.v [.U]),(11,.v [.U]),(12,.v [.b]),(13,.v [.U]),(99,.v [.s]),(100,.v [.I]),(101,.v [.I])]
def L4 (base1:Int) (base08:Bool) (s09:ByteArray) (cutoff10 maxVal11:Int) (underscores12:Bool) (n13:Int) (t99:Sl) (t100 t101:Int) (w:World) (R:Post):Prop:=mkCur P0 0 (X.Sem (pth [0,1,1,1,11])) base1 base08 s09 cutoff10 maxVal11 underscores12 n13 t99 t100 t101 w R
noncomputable def eL4:=entL X (pth [0,1,1,1,11]) P0 L4
abbrev S5 (base1:Int) (base08:Bool) (s09:ByteArray) (cutoff10 maxVal11:Int) (underscores12:Bool) (n13:Int) (t99:Sl) (t100 t101:Int) (w:World) (R:Post):Prop:=
 L4 base1 base08 s09 cutoff10 maxVal11 underscores12 n13 t99 t100 (IntKind.wrap .i64 (t101+1)) w R
noncomputable def eS5:=entS X [eL4] (pth [3,2,1,1,11]) P0 S5
abbrev P1:Ps:=[(11,.v [.U])]
abbrev S10 (maxVal11:Int) (w:World) (R:Post):Prop:=
 R (.returned (.tuple #[.u maxVal11,.iface ty_strconv_Error (.i 1)])) w
noncomputable def eS10:=entS X [eS5,eL4] (pth [0,1,1,1,7,2,2,2,1,1,11]) P1 S10
abbrev P2:Ps:=[(1,.v [.I]),(8,.v [.b]),(9,.v [.st]),(10,.v [.U]),(11,.v [.U]),(12,.v [.b]),(13,.v [.U]),(17,.v [.U]),(99,.v [.s]),(100,.v [.I]),(101,.v [.I])]
abbrev S9 (base1:Int) (base08:Bool) (s09:ByteArray) (cutoff10 maxVal11:Int) (underscores12:Bool) (n13 n117:Int) (t99:Sl) (t100 t101:Int) (w:World) (R:Post):Prop:=
 sel (decide (n117<n13)) (S10 maxVal11 w R) (sel (decide (n117>maxVal11)) (S10 maxVal11 w R) (S5 base1 base08 s09 cutoff10 maxVal11 underscores12 n117 t99 t100 t101 w R))
noncomputable def eS9:=entS X [eS10,eS5,eL4] (pth [7,2,2,2,1,1,11]) P2 S9
abbrev P3:Ps:=[(1,.v [.I]),(8,.v [.b]),(9,.v [.st]),(10,.v [.U]),(11,.v [.U]),(12,.v [.b]),(13,.v [.U]),(16,.v [.Y]),(99,.v [.s]),(100,.v [.I]),(101,.v [.I])]
abbrev S8 (base1:Int) (base08:Bool) (s09:ByteArray) (cutoff10 maxVal11:Int) (underscores12:Bool) (n13 d16:Int) (t99:Sl) (t100 t101:Int) (w:World) (R:Post):Prop:=
 S9 base1 base08 s09 cutoff10 maxVal11 underscores12 n13 (IntKind.wrap .u64 (n13+(IntKind.wrap .u64 d16))) t99 t100 t101 w R
noncomputable def eS8:=entS X [eS9,eS10,eS5,eL4] (pth [6,2,2,2,1,1,11]) P3 S8
abbrev S7 (base1:Int) (base08:Bool) (s09:ByteArray) (cutoff10 maxVal11:Int) (underscores12:Bool) (n13 d16:Int) (t99:Sl) (t100 t101:Int) (w:World) (R:Post):Prop:=
 sel (decide (d16>=(IntKind.wrap .u8 base1))) (R (.returned (.tuple #[.u 0,.iface ty_strconv_Error (.i 2)])) w) (sel (decide (n13>=cutoff10)) (R (.returned (.tuple #[.u maxVal11,.iface ty_strconv_Error (.i 1)])) w) (S8 base1 base08 s09 cutoff10 maxVal11 underscores12 (IntKind.wrap .u64 (n13 *(IntKind.wrap .u64 base1))) d16 t99 t100 t101 w R))
noncomputable def eS7:=entS X [eS8,eS9,eS10,eS5,eL4] (pth [3,2,2,2,1,1,11]) P3 S7
abbrev P4:Ps:=[]
abbrev S12 (w:World) (R:Post):Prop:=
 R (.returned (.tuple #[.u 0,.iface ty_strconv_Error (.i 2)])) w
noncomputable def eS12:=entS X [eS7,eS8,eS9,eS10,eS5,eL4] (pth [6,2,2,2,2,2,1,1,11]) P4 S12
abbrev P5:Ps:=[(1,.v [.I]),(8,.v [.b]),(9,.v [.st]),(10,.v [.U]),(11,.v [.U]),(12,.v [.b]),(13,.v [.U]),(15,.v [.Y]),(99,.v [.s]),(100,.v [.I]),(101,.v [.I])]
abbrev S11 (base1:Int) (base08:Bool) (s09:ByteArray) (cutoff10 maxVal11:Int) (underscores12:Bool) (n13 c15:Int) (t99:Sl) (t100 t101:Int) (w:World) (R:Post):Prop:=
 ca13 n_internal_strconv_lower #[.int .u8 c15] w λt123 w1=>sel (decide (97<=t123)) (ca13 n_internal_strconv_lower #[.int .u8 c15] w1 λt127 w2=>sel (decide (t127<=122)) (ca13 n_internal_strconv_lower #[.int .u8 c15] w2 λt131 w3=>S7 base1 base08 s09 cutoff10 maxVal11 underscores12 n13 (IntKind.wrap .u8 ((IntKind.wrap .u8 (t131 - 97))+10)) t99 t100 t101 w3 R) (S12 w2 R)) (S12 w1 R)
noncomputable def eS11:=entS X [eS12,eS7,eS8,eS9,eS10,eS5,eL4] (pth [4,2,2,2,2,2,1,1,11]) P5 S11
abbrev S6 (base1:Int) (base08:Bool) (s09:ByteArray) (cutoff10 maxVal11:Int) (underscores12:Bool) (n13 c15:Int) (t99:Sl) (t100 t101:Int) (w:World) (R:Post):Prop:=
 sel (decide (48<=c15)) (sel (decide (c15<=57)) (S7 base1 base08 s09 cutoff10 maxVal11 underscores12 n13 (IntKind.wrap .u8 (c15 - 48)) t99 t100 t101 w R) (S11 base1 base08 s09 cutoff10 maxVal11 underscores12 n13 c15 t99 t100 t101 w R)) (S11 base1 base08 s09 cutoff10 maxVal11 underscores12 n13 c15 t99 t100 t101 w R)
noncomputable def eS6:=entS X [eS11,eS12,eS7,eS8,eS9,eS10,eS5,eL4] (pth [2,2,2,2,2,2,1,1,11]) P5 S6
abbrev P6:Ps:=[(13,.v [.U])]
abbrev S13 (n13:Int) (w:World) (R:Post):Prop:=
 R (.returned (.tuple #[.u n13,.nilIface])) w
noncomputable def eS13:=entS X [eS6,eS11,eS12,eS7,eS8,eS9,eS10,eS5,eL4] (pth [13]) P6 S13
theorem L4_step:∀(base1:Int) (base08:Bool) (s09:ByteArray) (cutoff10 maxVal11:Int) (underscores12:Bool) (n13:Int) (t99:Sl) (t100 t101:Int) (w:World) (R:Post) (h:sel (decide (t101<t100)) ((0:Int)<=t101/\t101<((t99.n:Nat):Int)/\optP t99.a λt103_p=>∃t104:Int,w.cell? (t103_p.add (Int.toNat t101 *1))=some (.int .u8 t104)/\
 sel (t104==95) (sel base08 (S5 base1 base08 s09 cutoff10 maxVal11 true n13 t99 t100 t101 w R) (S6 base1 base08 s09 cutoff10 maxVal11 underscores12 n13 t104 t99 t100 t101 w R)) (S6 base1 base08 s09 cutoff10 maxVal11 underscores12 n13 t104 t99 t100 t101 w R)) (sel underscores12 (ca0 n_internal_strconv_underscoreOK #[.string s09] w λt167 w2=>sel (!t167) (R (.returned (.tuple #[.u 0,.iface ty_strconv_Error (.i 2)])) w2) (S13 n13 w2 R)) (S13 n13 w R))),L4 base1 base08 s09 cutoff10 maxVal11 underscores12 n13 t99 t100 t101 w R:=mp (stepL (X:=X) [eS13,eS6,eS11,eS12,eS7,eS8,eS9,eS10,eS5,eL4] (pth [0,1,1,1,11]) P0)
abbrev P7:Ps:=[(0,.v [.st]),(1,.v [.I]),(8,.v [.b]),(9,.v [.st]),(10,.v [.U]),(11,.v [.U])]
abbrev S3 (s0:ByteArray) (base1:Int) (base08:Bool) (s09:ByteArray) (cutoff10 maxVal11:Int) (w:World) (R:Post):Prop:=
 ∃(t99:Sl) (w1:World),Sem.run Tryz.prog (Go.convert ty_string ty_sl_uint8 (.string s0)) w=.ok (t99.v) w1/\L4 base1 base08 s09 cutoff10 maxVal11 false 0 t99 ((t99.n:Nat):Int) 0 w1 R
noncomputable def eS3:=entS X [eS13,eS6,eS11,eS12,eS7,eS8,eS9,eS10,eS5,eL4] (pth [9]) P7 S3
abbrev P8:Ps:=[(0,.v [.st]),(1,.v [.I]),(2,.v [.I]),(8,.v [.b]),(9,.v [.st]),(10,.v [.U])]
abbrev S2 (s0:ByteArray) (base1 bitSize2:Int) (base08:Bool) (s09:ByteArray) (cutoff10:Int) (w:World) (R:Post):Prop:=
 ¬(IntKind.wrap .u64 bitSize2)<0/\S3 s0 base1 base08 s09 cutoff10 (IntKind.wrap .u64 ((IntKind.wrap .u64 (1 *2^(min (Int.toNat (IntKind.wrap .u64 bitSize2)) (IntKind.bits .u64)))) - 1)) w R
noncomputable def eS2:=entS X [eS3,eS13,eS6,eS11,eS12,eS7,eS8,eS9,eS10,eS5,eL4] (pth [8]) P8 S2
abbrev P9:Ps:=[(0,.v [.st]),(1,.v [.I]),(2,.v [.I]),(8,.v [.b]),(9,.v [.st])]
abbrev S1 (s0:ByteArray) (base1 bitSize2:Int) (base08:Bool) (s09:ByteArray) (w:World) (R:Post):Prop:=
 sel (base1==10) (S2 s0 base1 bitSize2 base08 s09 1844674407370955162 w R) (sel (base1==16) (S2 s0 base1 bitSize2 base08 s09 1152921504606846976 w R) ((IntKind.wrap .u64 base1)≠0/\S2 s0 base1 bitSize2 base08 s09 (IntKind.wrap .u64 ((IntKind.wrap .u64 (Int.tdiv 18446744073709551615 (IntKind.wrap .u64 base1)))+1)) w R))
noncomputable def eS1:=entS X [eS2,eS3,eS13,eS6,eS11,eS12,eS7,eS8,eS9,eS10,eS5,eL4] (pth [6]) P9 S1
abbrev S14 (w:World) (R:Post):Prop:=
 R (.returned (.tuple #[.u 0,.iface ty_strconv_Error (.i 4)])) w
noncomputable def eS14:=entS X [eS1,eS2,eS3,eS13,eS6,eS11,eS12,eS7,eS8,eS9,eS10,eS5,eL4] (pth [0,1,3,1,5]) P4 S14
abbrev S0 (s0:ByteArray) (base1 bitSize2:Int) (base08:Bool) (s09:ByteArray) (w:World) (R:Post):Prop:=
 sel (bitSize2==0) (S1 s0 base1 64 base08 s09 w R) (sel (decide (bitSize2<0)) (S14 w R) (sel (decide (bitSize2>64)) (S14 w R) (S1 s0 base1 bitSize2 base08 s09 w R)))
noncomputable def eS0:=entS X [eS14,eS1,eS2,eS3,eS13,eS6,eS11,eS12,eS7,eS8,eS9,eS10,eS5,eL4] (pth [5]) P9 S0
abbrev P10:Ps:=[(0,.v [.st]),(2,.v [.I]),(8,.v [.b]),(9,.v [.st])]
abbrev S18 (s0:ByteArray) (bitSize2:Int) (base08:Bool) (s09:ByteArray) (w:World) (R:Post):Prop:=
 (0:Int)<=1/\1<=((s0.size:Nat):Int)/\S0 (s0.extract (Int.toNat 1) s0.size) 8 bitSize2 base08 s09 w R
noncomputable def eS18:=entS X [eS0,eS14,eS1,eS2,eS3,eS13,eS6,eS11,eS12,eS7,eS8,eS9,eS10,eS5,eL4] (pth [6,2,2,1,3,2,4]) P10 S18
abbrev S17 (s0:ByteArray) (bitSize2:Int) (base08:Bool) (s09:ByteArray) (w:World) (R:Post):Prop:=
 sel (decide (((s0.size:Nat):Int)>=3)) ((0:Int)<=1/\∃t70_b:UInt8,s0[Int.toNat 1]? =some t70_b/\ca13 n_internal_strconv_lower #[.int .u8 ((t70_b.toNat:Nat):Int)] w λt71 w1=>sel (t71==120) ((0:Int)<=2/\2<=((s0.size:Nat):Int)/\S0 (s0.extract (Int.toNat 2) s0.size) 16 bitSize2 base08 s09 w1 R) (S18 s0 bitSize2 base08 s09 w1 R)) (S18 s0 bitSize2 base08 s09 w R)
noncomputable def eS17:=entS X [eS18,eS0,eS14,eS1,eS2,eS3,eS13,eS6,eS11,eS12,eS7,eS8,eS9,eS10,eS5,eL4] (pth [4,2,2,1,3,2,4]) P10 S17
abbrev S16 (s0:ByteArray) (bitSize2:Int) (base08:Bool) (s09:ByteArray) (w:World) (R:Post):Prop:=
 sel (decide (((s0.size:Nat):Int)>=3)) ((0:Int)<=1/\∃t58_b:UInt8,s0[Int.toNat 1]? =some t58_b/\ca13 n_internal_strconv_lower #[.int .u8 ((t58_b.toNat:Nat):Int)] w λt59 w1=>sel (t59==111) ((0:Int)<=2/\2<=((s0.size:Nat):Int)/\S0 (s0.extract (Int.toNat 2) s0.size) 8 bitSize2 base08 s09 w1 R) (S17 s0 bitSize2 base08 s09 w1 R)) (S17 s0 bitSize2 base08 s09 w R)
noncomputable def eS16:=entS X [eS17,eS18,eS0,eS14,eS1,eS2,eS3,eS13,eS6,eS11,eS12,eS7,eS8,eS9,eS10,eS5,eL4] (pth [2,2,2,1,3,2,4]) P10 S16
abbrev S15 (s0:ByteArray) (base1 bitSize2:Int) (base08:Bool) (s09:ByteArray) (w:World) (R:Post):Prop:=
 sel (base1==0) ((0:Int)<=0/\∃t36_b:UInt8,s0[Int.toNat 0]? =some t36_b/\sel (((t36_b.toNat:Nat):Int)==48) (sel (decide (((s0.size:Nat):Int)>=3)) ((0:Int)<=1/\∃t46_b:UInt8,s0[Int.toNat 1]? =some t46_b/\ca13 n_internal_strconv_lower #[.int .u8 ((t46_b.toNat:Nat):Int)] w λt47 w1=>sel (t47==98) ((0:Int)<=2/\2<=((s0.size:Nat):Int)/\S0 (s0.extract (Int.toNat 2) s0.size) 2 bitSize2 base08 s09 w1 R) (S16 s0 bitSize2 base08 s09 w1 R)) (S16 s0 bitSize2 base08 s09 w R)) (S0 s0 10 bitSize2 base08 s09 w R)) (R (.returned (.tuple #[.u 0,.iface ty_strconv_Error (.i 3)])) w)
noncomputable def eS15:=entS X [eS16,eS17,eS18,eS0,eS14,eS1,eS2,eS3,eS13,eS6,eS11,eS12,eS7,eS8,eS9,eS10,eS5,eL4] (pth [2,2,4]) P9 S15
theorem ok (s0:ByteArray) (base1 bitSize2:Int) (w:World) (R:Post) (h:sel (s0.toList==(ByteArray.mk #[]).toList) (R (.returned (.tuple #[.u 0,.iface ty_strconv_Error (.i 2)])) w) (sel (decide (2<=base1)) (sel (decide (base1<=36)) (S0 s0 base1 bitSize2 (base1==0) s0 w R) (S15 s0 base1 bitSize2 (base1==0) s0 w R)) (S15 s0 base1 bitSize2 (base1==0) s0 w R))):Calls Tryz.prog n_internal_strconv_ParseUint #[.string s0,.i base1,.i bitSize2] w R:=callsX X [eS15,eS16,eS17,eS18,eS0,eS14,eS1,eS2,eS3,eS13,eS6,eS11,eS12,eS7,eS8,eS9,eS10,eS5,eL4] h
end internal_strconv_ParseUint
namespace internal_strconv_ParseInt
noncomputable abbrev X:Fx:=⟨Tryz.prog,Tryz.f158,[],[]⟩
abbrev P0:Ps:=[(11,.v [.I])]
abbrev S7 (n11:Int) (w:World) (R:Post):Prop:=
 R (.returned (.tuple #[.i n11,.nilIface])) w
noncomputable def eS7:=entS X [] (pth [13]) P0 S7
abbrev P1:Ps:=[(8,.v [.b]),(9,.v [.U])]
abbrev S6 (neg8:Bool) (un9:Int) (w:World) (R:Post):Prop:=
 sel neg8 (S7 (IntKind.wrap .i64 (0 - (IntKind.wrap .i64 un9))) w R) (S7 (IntKind.wrap .i64 un9) w R)
noncomputable def eS6:=entS X [eS7] (pth [11]) P1 S6
abbrev P2:Ps:=[(8,.v [.b]),(9,.v [.U]),(10,.v [.U])]
abbrev S5 (neg8:Bool) (un9 cutoff10:Int) (w:World) (R:Post):Prop:=
 sel neg8 (sel (decide (un9>cutoff10)) (R (.returned (.tuple #[.i (IntKind.wrap .i64 (0 - (IntKind.wrap .i64 cutoff10))),.iface ty_strconv_Error (.i 1)])) w) (S6 neg8 un9 w R)) (S6 neg8 un9 w R)
noncomputable def eS5:=entS X [eS6,eS7] (pth [10]) P2 S5
abbrev S4 (neg8:Bool) (un9 cutoff10:Int) (w:World) (R:Post):Prop:=
 sel (!neg8) (sel (decide (un9>=cutoff10)) (R (.returned (.tuple #[.i (IntKind.wrap .i64 (IntKind.wrap .u64 (cutoff10 - 1))),.iface ty_strconv_Error (.i 1)])) w) (S5 neg8 un9 cutoff10 w R)) (S5 neg8 un9 cutoff10 w R)
noncomputable def eS4:=entS X [eS5,eS6,eS7] (pth [9]) P2 S4
abbrev P3:Ps:=[(2,.v [.I]),(8,.v [.b]),(9,.v [.U])]
abbrev S3 (bitSize2:Int) (neg8:Bool) (un9:Int) (w:World) (R:Post):Prop:=
 ¬(IntKind.wrap .u64 (IntKind.wrap .i64 (bitSize2 - 1)))<0/\S4 neg8 un9 (IntKind.wrap .u64 (1 *2^(min (Int.toNat (IntKind.wrap .u64 (IntKind.wrap .i64 (bitSize2 - 1)))) (IntKind.bits .u64)))) w R
noncomputable def eS3:=entS X [eS4,eS5,eS6,eS7] (pth [8]) P3 S3
abbrev S2 (bitSize2:Int) (neg8:Bool) (un9:Int) (w:World) (R:Post):Prop:=
 sel (bitSize2==0) (S3 64 neg8 un9 w R) (S3 bitSize2 neg8 un9 w R)
noncomputable def eS2:=entS X [eS3,eS4,eS5,eS6,eS7] (pth [7]) P3 S2
abbrev P4:Ps:=[(0,.v [.st]),(1,.v [.I]),(2,.v [.I]),(8,.v [.b])]
abbrev S1 (s0:ByteArray) (base1 bitSize2:Int) (neg8:Bool) (w:World) (R:Post):Prop:=
 ca24 n_internal_strconv_ParseUint #[.string s0,.i base1,.i bitSize2] w λt29_0 t29_1 w1=>∃t33:Bool,Sem.run Tryz.prog (ifcS .neq ty_error (.tmp 32) (.const (.nilIface)) (t29_1) (.nilIface)) w1=.ok (.bool t33) w1/\sel t33 (∃t37:Bool,Sem.run Tryz.prog (ifcS .neq ty_error (.tmp 35) (.tmp 36) (t29_1) (.iface ty_strconv_Error (.i 1))) w1=.ok (.bool t37) w1/\sel t37 (R (.returned (.tuple #[.i 0,t29_1])) w1) (S2 bitSize2 neg8 t29_0 w1 R)) (S2 bitSize2 neg8 t29_0 w1 R)
noncomputable def eS1:=entS X [eS2,eS3,eS4,eS5,eS6,eS7] (pth [4]) P4 S1
abbrev P5:Ps:=[(0,.v [.st]),(1,.v [.I]),(2,.v [.I])]
abbrev S8 (s0:ByteArray) (base1 bitSize2:Int) (w:World) (R:Post):Prop:=
 S1 s0 base1 bitSize2 true w R
noncomputable def eS8:=entS X [eS1,eS2,eS3,eS4,eS5,eS6,eS7] (pth [1,1,3,1,1,1,3]) P5 S8
abbrev P6:Ps:=[(0,.v [.st]),(1,.v [.I]),(2,.v [.I]),(8,.v [.b]),(16,.v [.Y])]
abbrev S0 (s0:ByteArray) (base1 bitSize2:Int) (neg8:Bool) (t16:Int) (w:World) (R:Post):Prop:=
 sel (t16==43) ((0:Int)<=1/\1<=((s0.size:Nat):Int)/\S1 (s0.extract (Int.toNat 1) s0.size) base1 bitSize2 neg8 w R) (sel (t16==45) ((0:Int)<=1/\1<=((s0.size:Nat):Int)/\S8 (s0.extract (Int.toNat 1) s0.size) base1 bitSize2 w R) (S1 s0 base1 bitSize2 neg8 w R))
noncomputable def eS0:=entS X [eS8,eS1,eS2,eS3,eS4,eS5,eS6,eS7] (pth [1,1,3]) P6 S0
theorem ok (s0:ByteArray) (base1 bitSize2:Int) (w:World) (R:Post) (h:sel (s0.toList==(ByteArray.mk #[]).toList) (R (.returned (.tuple #[.i 0,.iface ty_strconv_Error (.i 2)])) w) ((0:Int)<=0/\∃t16_b:UInt8,s0[Int.toNat 0]? =some t16_b/\S0 s0 base1 bitSize2 false ((t16_b.toNat:Nat):Int) w R)):Calls Tryz.prog n_internal_strconv_ParseInt #[.string s0,.i base1,.i bitSize2] w R:=callsX X [eS0,eS8,eS1,eS2,eS3,eS4,eS5,eS6,eS7] h
end internal_strconv_ParseInt
namespace internal_strconv_Atoi
noncomputable abbrev X:Fx:=⟨Tryz.prog,Tryz.f133,[],[]⟩
abbrev P0:Ps:=[(5,.v [.st]),(6,.v [.I]),(47,.v [.s]),(48,.v [.I]),(49,.v [.I])]
def L3 (s05:ByteArray) (n6:Int) (t47:Sl) (t48 t49:Int) (w:World) (R:Post):Prop:=mkCur P0 0 (X.Sem (pth [0,1,1,1,3,1,1,1,2])) s05 n6 t47 t48 t49 w R
noncomputable def eL3:=entL X (pth [0,1,1,1,3,1,1,1,2]) P0 L3
abbrev S5 (s05:ByteArray) (n6:Int) (t47:Sl) (t48 t49:Int) (w:World) (R:Post):Prop:=
 L3 s05 n6 t47 t48 (IntKind.wrap .i64 (t49+1)) w R
noncomputable def eS5:=entS X [eL3] (pth [3,2,1,1,3,1,1,1,2]) P0 S5
abbrev P1:Ps:=[(5,.v [.st]),(6,.v [.I]),(8,.v [.Y]),(47,.v [.s]),(48,.v [.I]),(49,.v [.I])]
abbrev S4 (s05:ByteArray) (n6 ch8:Int) (t47:Sl) (t48 t49:Int) (w:World) (R:Post):Prop:=
 sel (decide (ch8>9)) (R (.returned (.tuple #[.i 0,.iface ty_strconv_Error (.i 2)])) w) (S5 s05 (IntKind.wrap .i64 ((IntKind.wrap .i64 (n6 *10))+(IntKind.wrap .i64 ch8))) t47 t48 t49 w R)
noncomputable def eS4:=entS X [eS5,eL3] (pth [2,2,2,2,1,1,3,1,1,1,2]) P1 S4
abbrev P2:Ps:=[(6,.v [.I])]
abbrev S6 (n6:Int) (w:World) (R:Post):Prop:=
 R (.returned (.tuple #[.i n6,.nilIface])) w
noncomputable def eS6:=entS X [eS4,eS5,eL3] (pth [5,1,1,1,2]) P2 S6
theorem L3_step:∀(s05:ByteArray) (n6:Int) (t47:Sl) (t48 t49:Int) (w:World) (R:Post) (h:sel (decide (t49<t48)) ((0:Int)<=t49/\t49<((t47.n:Nat):Int)/\optP t47.a λt51_p=>∃t52:Int,w.cell? (t51_p.add (Int.toNat t49 *1))=some (.int .u8 t52)/\
 S4 s05 n6 (IntKind.wrap .u8 (t52 - 48)) t47 t48 t49 w R) ((0:Int)<=0/\∃t65_b:UInt8,s05[Int.toNat 0]? =some t65_b/\sel (((t65_b.toNat:Nat):Int)==45) (S6 (IntKind.wrap .i64 (0 - n6)) w R) (S6 n6 w R))),L3 s05 n6 t47 t48 t49 w R:=mp (stepL (X:=X) [eS6,eS4,eS5,eL3] (pth [0,1,1,1,3,1,1,1,2]) P0)
abbrev P3:Ps:=[(0,.v [.st]),(5,.v [.st])]
abbrev S2 (s0 s05:ByteArray) (w:World) (R:Post):Prop:=
 ∃(t47:Sl) (w1:World),Sem.run Tryz.prog (Go.convert ty_string ty_sl_uint8 (.string s0)) w=.ok (t47.v) w1/\L3 s05 0 t47 ((t47.n:Nat):Int) 0 w1 R
noncomputable def eS2:=entS X [eS6,eS4,eS5,eL3] (pth [2,1,1,1,2]) P3 S2
abbrev S1 (s0 s05:ByteArray) (w:World) (R:Post):Prop:=
 sel (decide (((s0.size:Nat):Int)<1)) (R (.returned (.tuple #[.i 0,.iface ty_strconv_Error (.i 2)])) w) (S2 s0 s05 w R)
noncomputable def eS1:=entS X [eS2,eS6,eS4,eS5,eL3] (pth [1,1,1,1,1,1,1,1,2]) P3 S1
abbrev S0 (s0 s05:ByteArray) (w:World) (R:Post):Prop:=
 (0:Int)<=1/\1<=((s0.size:Nat):Int)/\S1 (s0.extract (Int.toNat 1) s0.size) s05 w R
noncomputable def eS0:=entS X [eS1,eS2,eS6,eS4,eS5,eL3] (pth [0,1,1,1,1,1,1,1,2]) P3 S0
abbrev P4:Ps:=[(0,.v [.st])]
abbrev S7 (s0:ByteArray) (w:World) (R:Post):Prop:=
 ca25 n_internal_strconv_ParseInt #[.string s0,.i 10,.i 0] w λt72_0 t72_1 w1=>R (.returned (.tuple #[.i t72_0,t72_1])) w1
noncomputable def eS7:=entS X [eS0,eS1,eS2,eS6,eS4,eS5,eL3] (pth [3]) P4 S7
theorem ok (s0:ByteArray) (w:World) (R:Post) (h:sel (decide (0<((s0.size:Nat):Int))) (sel (decide (((s0.size:Nat):Int)<19)) ((0:Int)<=0/\∃t33_b:UInt8,s0[Int.toNat 0]? =some t33_b/\sel (((t33_b.toNat:Nat):Int)==45) (S0 s0 s0 w R) ((0:Int)<=0/\∃t37_b:UInt8,s0[Int.toNat 0]? =some t37_b/\sel (((t37_b.toNat:Nat):Int)==43) (S0 s0 s0 w R) (S2 s0 s0 w R))) (S7 s0 w R)) (S7 s0 w R)):Calls Tryz.prog n_internal_strconv_Atoi #[.string s0] w R:=callsX X [eS7,eS0,eS1,eS2,eS6,eS4,eS5,eL3] h
end internal_strconv_Atoi
namespace internal_stringslite_Clone
noncomputable abbrev X:Fx:=⟨Tryz.prog,Tryz.f185,[],[]⟩
theorem ok (s0:ByteArray) (w:World) (R:Post) (h:sel (((s0.size:Nat):Int)==0) (R (.returned (.s0)) w) (∃(t9:Sl) (w1:World),Sem.run Tryz.prog (Instr.makeSlice ty_sl_uint8 (.i ((s0.size:Nat):Int)) (.i ((s0.size:Nat):Int))) w=.ok (t9.v) w1/\∃(t12:Int) (w2:World),Sem.run Tryz.prog (Builtin.copy_ #[ty_sl_uint8,ty_string] ty_int #[t9.v,.string s0]) w1=.ok (.i t12) w2/\(0:Int)<=0/\0<((t9.n:Nat):Int)/\optP t9.a λt14_p=>∃(t17:ByteArray) (w3:World),Sem.run Tryz.prog (Builtin.unsafeString_ #[ty_p_uint8,ty_int] ty_string #[.pointer (some (t14_p.add (Int.toNat 0 *1))),.i ((t9.n:Nat):Int)]) w2=.ok (.string t17) w3/\R (.returned (.string t17)) w3)):Calls Tryz.prog n_internal_stringslite_Clone #[.string s0] w R:=callsX X [] h
end internal_stringslite_Clone
namespace strconv_syntaxError
noncomputable abbrev X:Fx:=⟨Tryz.prog,Tryz.f159,[(1,ls [0,1,3,2,4,5,6])],[]⟩
theorem ok (fn0 str1:ByteArray) (w:World) (R:Post) (h:drV w λw1=>((∃(t8_t:Nat) (t8_x:Value),w1.cell? (Addr.mk 3 0 none)=some (.iface t8_t t8_x)/\ca15 n_internal_stringslite_Clone #[.string str1] w1 λt7 w2=>w2.cell? (Addr.mk 3 0 none)=some (.iface t8_t t8_x)/\nwV w2 (.cells #[.string fn0,.string t7,.iface t8_t t8_x] ty_strconv_NumError) λw3=>
 R (.returned (.pointer (some (nb w2)))) w3)\/(w1.cell? (Addr.mk 3 0 none)=some (.nilIface)/\ca15 n_internal_stringslite_Clone #[.string str1] w1 λt7_x1 w4=>w4.cell? (Addr.mk 3 0 none)=some (.nilIface)/\nwV w4 (.cells #[.string fn0,.string t7_x1,.nilIface] ty_strconv_NumError) λw5=>
 R (.returned (.pointer (some (nb w4)))) w5))):Calls Tryz.prog n_strconv_syntaxError #[.string fn0,.string str1] w R:=callsX X [] h
end strconv_syntaxError
namespace strconv_rangeError
noncomputable abbrev X:Fx:=⟨Tryz.prog,Tryz.f160,[(1,ls [0,1,3,2,4,5,6])],[]⟩
theorem ok (fn0 str1:ByteArray) (w:World) (R:Post) (h:drV w λw1=>((∃(t8_t:Nat) (t8_x:Value),w1.cell? (Addr.mk 4 0 none)=some (.iface t8_t t8_x)/\ca15 n_internal_stringslite_Clone #[.string str1] w1 λt7 w2=>w2.cell? (Addr.mk 4 0 none)=some (.iface t8_t t8_x)/\nwV w2 (.cells #[.string fn0,.string t7,.iface t8_t t8_x] ty_strconv_NumError) λw3=>
 R (.returned (.pointer (some (nb w2)))) w3)\/(w1.cell? (Addr.mk 4 0 none)=some (.nilIface)/\ca15 n_internal_stringslite_Clone #[.string str1] w1 λt7_x1 w4=>w4.cell? (Addr.mk 4 0 none)=some (.nilIface)/\nwV w4 (.cells #[.string fn0,.string t7_x1,.nilIface] ty_strconv_NumError) λw5=>
 R (.returned (.pointer (some (nb w4)))) w5))):Calls Tryz.prog n_strconv_rangeError #[.string fn0,.string str1] w R:=callsX X [] h
end strconv_rangeError
namespace strconv_toError
noncomputable abbrev X:Fx:=⟨Tryz.prog,Tryz.f134,[],[]⟩
theorem ok (fn0 s1:ByteArray) (base2 bitSize3:Int) (err4:Value) (w:World) (R:Post) (h:∃t14:Bool,Sem.run Tryz.prog (ifcS .eql ty_error (.tmp 11) (.tmp 13) (err4) (.iface ty_strconv_Error (.i 2))) w=.ok (.bool t14) w/\sel t14 (ca9 n_strconv_syntaxError #[.string fn0,.string s1] w λt17 w1=>R (.returned (.iface ty_p_strconv_NumError (.pointer t17))) w1) (∃t21:Bool,Sem.run Tryz.prog (ifcS .eql ty_error (.tmp 11) (.tmp 20) (err4) (.iface ty_strconv_Error (.i 1))) w=.ok (.bool t21) w/\sel t21 (ca9 n_strconv_rangeError #[.string fn0,.string s1] w λt24 w2=>R (.returned (.iface ty_p_strconv_NumError (.pointer t24))) w2) (∃t28:Bool,Sem.run Tryz.prog (ifcS .eql ty_error (.tmp 11) (.tmp 27) (err4) (.iface ty_strconv_Error (.i 3))) w=.ok (.bool t28) w/\sel t28 (ca9 n_strconv_baseError #[.string fn0,.string s1,.i base2] w λt32 w3=>R (.returned (.iface ty_p_strconv_NumError (.pointer t32))) w3) (∃t36:Bool,Sem.run Tryz.prog (ifcS .eql ty_error (.tmp 11) (.tmp 35) (err4) (.iface ty_strconv_Error (.i 4))) w=.ok (.bool t36) w/\sel t36 (ca9 n_strconv_bitSizeError #[.string fn0,.string s1,.i bitSize3] w λt40 w4=>R (.returned (.iface ty_p_strconv_NumError (.pointer t40))) w4) (R (.returned (err4)) w))))):Calls Tryz.prog n_strconv_toError #[.string fn0,.string s1,.i base2,.i bitSize3,err4] w R:=callsX X [] h
end strconv_toError
namespace strconv_Atoi
noncomputable abbrev X:Fx:=⟨Tryz.prog,Tryz.f103,[],[]⟩
theorem ok (s0:ByteArray) (w:World) (R:Post) (h:ca25 n_internal_strconv_Atoi #[.string s0] w λt8_0 t8_1 w1=>∃t12:Bool,Sem.run Tryz.prog (ifcS .neq ty_error (.tmp 11) (.const (.nilIface)) (t8_1) (.nilIface)) w1=.ok (.bool t12) w1/\sel t12 (ca10 n_strconv_toError #[.string (ByteArray.mk #[65,116,111,105]),.string s0,.i 0,.i 0,t8_1] w1 λt16 w2=>R (.returned (.tuple #[.i t8_0,t16])) w2) (R (.returned (.tuple #[.i t8_0,.nilIface])) w1)):Calls Tryz.prog n_strconv_Atoi #[.string s0] w R:=callsX X [] h
end strconv_Atoi
namespace clause_variable
noncomputable abbrev X:Fx:=⟨Tryz.prog,Tryz.f109,[],[]⟩
theorem ok (x0:Int) (w:World) (R:Post) (h:R (.returned (.i (if x0<IntKind.wrap .i64 (0 - x0) then IntKind.wrap .i64 (0 - x0) else x0))) w):Calls Tryz.prog n_clause_variable #[.i x0] w R:=callsX X [] h
end clause_variable
namespace clause_isLiteral
noncomputable abbrev X:Fx:=⟨Tryz.prog,Tryz.f138,[],[]⟩
theorem ok (x0:Int) (w:World) (R:Post) (h:sel (x0 !=0) (sel (decide (x0>=(-1073741824))) (R (.returned (.bool (decide (x0<=1073741824)))) w) (R (.returned (.bool false)) w)) (R (.returned (.bool false)) w)):Calls Tryz.prog n_clause_isLiteral #[.i x0] w R:=callsX X [] h
end clause_isLiteral
namespace clause_listError
noncomputable abbrev X:Fx:=⟨Tryz.prog,Tryz.f108,[],[]⟩
abbrev P0:Ps:=[(8,.v [.s]),(9,.v [.I]),(10,.v [.I])]
def L0 (t8:Sl) (t9 t10:Int) (w:World) (R:Post):Prop:=mkCur P0 0 (X.Sem (pth [0,1,1,1,2])) t8 t9 t10 w R
noncomputable def eL0:=entL X (pth [0,1,1,1,2]) P0 L0
theorem L0_step:∀(t8:Sl) (t9 t10:Int) (w:World) (R:Post) (h:sel (decide (t10<t9)) ((0:Int)<=t10/\t10<((t8.n:Nat):Int)/\optP t8.a λt12_p=>∃t13:Int,w.cell? (t12_p.add (Int.toNat t10 *1))=some (.i t13)/\
 ca0 n_clause_isLiteral #[.i t13] w λt15 w1=>sel (!t15) (R (.returned (.i 1)) w1) (L0 t8 t9 (IntKind.wrap .i64 (t10+1)) w1 R)) (R (.returned (.i 0)) w)),L0 t8 t9 t10 w R:=mp (stepL (X:=X) [eL0] (pth [0,1,1,1,2]) P0)
theorem ok (c0:Sl) (w:World) (R:Post) (h:sel (decide (((c0.n:Nat):Int)>65536)) (R (.returned (.i 4)) w) (L0 c0 ((c0.n:Nat):Int) 0 w R)):Calls Tryz.prog n_clause_listError #[c0.v] w R:=callsX X [eL0] h
end clause_listError
namespace clause_Valid
noncomputable abbrev X:Fx:=⟨Tryz.prog,Tryz.f74,[(7,ls [0,1,2,3,5,6,7,8,9,4,10,11])],[]⟩
abbrev P0:Ps:=[(0,.v [.s]),(4,.v [.I])]
def L0 (c0:Sl) (i4:Int) (w:World) (R:Post):Prop:=mkCur P0 0 (X.Sem (pth [0,1,1,1,2])) c0 i4 w R
noncomputable def eL0:=entL X (pth [0,1,1,1,2]) P0 L0
theorem L0_step:∀(c0:Sl) (i4:Int) (w:World) (R:Post) (h:sel (decide (i4<((c0.n:Nat):Int))) (drV w λw2=>(0:Int)<=i4/\i4<((c0.n:Nat):Int)/\optP c0.a λt18_p=>∃t19:Int,w2.cell? (t18_p.add (Int.toNat i4 *1))=some (.i t19)/\
 (0:Int)<=(IntKind.wrap .i64 (i4 - 1))/\(IntKind.wrap .i64 (i4 - 1))<((c0.n:Nat):Int)/\optP c0.a λt24_p=>∃t25:Int,w2.cell? (t24_p.add (Int.toNat (IntKind.wrap .i64 (i4 - 1)) *1))=some (.i t25)/\
 ca1 n_clause_variable #[.i t19] w2 λt20 w3=>w3.cell? (t24_p.add (Int.toNat (IntKind.wrap .i64 (i4 - 1)) *1))=some (.i t25)/\ca1 n_clause_variable #[.i t25] w3 λt26 w4=>sel (decide (t20<=t26)) (R (.returned (.i 10)) w4) (L0 c0 (IntKind.wrap .i64 (i4+1)) w4 R)) (R (.returned (.i 0)) w)),L0 c0 i4 w R:=mp (stepL (X:=X) [eL0] (pth [0,1,1,1,2]) P0)
theorem ok (c0:Sl) (w:World) (R:Post) (h:ca1 n_clause_listError #[c0.v] w λt6 w1=>sel (t6 !=0) (R (.returned (.i t6)) w1) (L0 c0 1 w1 R)):Calls Tryz.prog n_clause_Valid #[c0.v] w R:=callsX X [eL0] h
end clause_Valid
namespace proof_isName
noncomputable abbrev X:Fx:=⟨Tryz.prog,Tryz.f75,[],[]⟩
abbrev P0:Ps:=[]
abbrev S0 (w:World) (R:Post):Prop:=
 R (.returned (.bool false)) w
noncomputable def eS0:=entS X [] (pth [0,1,1,1,1]) P0 S0
abbrev P1:Ps:=[(0,.v [.st]),(24,.v [.I]),(25,.v [.I])]
def L1 (s0:ByteArray) (t24 t25:Int) (w:World) (R:Post):Prop:=mkCur P1 0 (X.Sem (pth [0,1,1,1,2])) s0 t24 t25 w R
noncomputable def eL1:=entL X (pth [0,1,1,1,2]) P1 L1
abbrev S3 (w:World) (R:Post):Prop:=
 R (.returned (.bool false)) w
noncomputable def eS3:=entS X [eL1,eS0] (pth [0,1,3,2,2,2,1,1,2]) P0 S3
abbrev S4 (s0:ByteArray) (t24 t25:Int) (w:World) (R:Post):Prop:=
 L1 s0 t24 (IntKind.wrap .i64 (t25+1)) w R
noncomputable def eS4:=entS X [eS3,eL1,eS0] (pth [3,2,1,1,2]) P1 S4
abbrev P2:Ps:=[(0,.v [.st]),(4,.v [.Y]),(24,.v [.I]),(25,.v [.I])]
abbrev S2 (s0:ByteArray) (c4 t24 t25:Int) (w:World) (R:Post):Prop:=
 sel (decide (c4<97)) (sel (decide (c4<48)) (sel (c4 !=45) (S3 w R) (S4 s0 t24 t25 w R)) (sel (decide (c4>57)) (sel (c4 !=45) (S3 w R) (S4 s0 t24 t25 w R)) (S4 s0 t24 t25 w R))) (sel (decide (c4>122)) (sel (decide (c4<48)) (sel (c4 !=45) (S3 w R) (S4 s0 t24 t25 w R)) (sel (decide (c4>57)) (sel (c4 !=45) (S3 w R) (S4 s0 t24 t25 w R)) (S4 s0 t24 t25 w R))) (S4 s0 t24 t25 w R))
noncomputable def eS2:=entS X [eS4,eS3,eL1,eS0] (pth [2,2,2,2,1,1,2]) P2 S2
theorem L1_step:∀(s0:ByteArray) (t24 t25:Int) (w:World) (R:Post) (h:sel (decide (t25<t24)) ((0:Int)<=t25/\∃t30_b:UInt8,s0[Int.toNat t25]? =some t30_b/\S2 s0 ((t30_b.toNat:Nat):Int) t24 t25 w R) (R (.returned (.bool true)) w)),L1 s0 t24 t25 w R:=mp (stepL (X:=X) [eS2,eS4,eS3,eL1,eS0] (pth [0,1,1,1,2]) P1)
theorem ok (s0:ByteArray) (w:World) (R:Post) (h:sel (((s0.size:Nat):Int)==0) (S0 w R) (sel (decide (((s0.size:Nat):Int)>16)) (S0 w R) ((0:Int)<=0/\∃t15_b:UInt8,s0[Int.toNat 0]? =some t15_b/\sel (decide (((t15_b.toNat:Nat):Int)<97)) (S0 w R) ((0:Int)<=0/\∃t20_b:UInt8,s0[Int.toNat 0]? =some t20_b/\sel (decide (((t20_b.toNat:Nat):Int)>122)) (S0 w R) (L1 s0 ((s0.size:Nat):Int) 0 w R))))):Calls Tryz.prog n_proof_isName #[.string s0] w R:=callsX X [eS2,eS4,eS3,eL1,eS0] h
end proof_isName
namespace proof_validStep
noncomputable abbrev X:Fx:=⟨Tryz.prog,Tryz.f43,[],[3]⟩
abbrev P0:Ps:=[]
abbrev S0T (w:World) (R:Post):Prop:=
 R (.returned (.i 1)) w
noncomputable def eS0:=entS X [] (pth [0,1,1,1,1]) P0 S0T
abbrev P1:Ps:=[(1,.v [.I]),(2,.v [.I]),(3,.l [.I,.I,.I,.s,.st,.s,.s] ty_api_Step),(34,.v [.s]),(35,.v [.I]),(36,.v [.I])]
def L2T (i1 lemmas2:Int) (s3:Nat) (s3_0 s3_1 s3_2:Int) (s3_3:Sl) (s3_4:ByteArray) (s3_5 s3_6 t34:Sl) (t35 t36:Int) (w:World) (R:Post):Prop:=mkCur P1 0 (X.Sem (pth [0,1,1,1,4])) i1 lemmas2 s3 s3_0 s3_1 s3_2 s3_3 s3_4 s3_5 s3_6 t34 t35 t36 w R
noncomputable def eL2:=entL X (pth [0,1,1,1,4]) P1 L2T
abbrev S3T (w:World) (R:Post):Prop:=
 R (.returned (.i 14)) w
noncomputable def eS3:=entS X [eL2,eS0] (pth [0,1,2,2,2,2,1,1,4]) P0 S3T
abbrev S4T (w:World) (R:Post):Prop:=
 R (.returned (.i 7)) w
noncomputable def eS4:=entS X [eS3,eL2,eS0] (pth [0,1,1,1,5]) P0 S4T
abbrev S5T (w:World) (R:Post):Prop:=
 R (.returned (.i 0)) w
noncomputable def eS5:=entS X [eS4,eS3,eL2,eS0] (pth [6]) P0 S5T
theorem L2T_step:∀(i1 lemmas2:Int) (s3:Nat) (s3_0 s3_1 s3_2:Int) (s3_3:Sl) (s3_4:ByteArray) (s3_5 s3_6 t34:Sl) (t35 t36:Int) (w:World) (R:Post) (h:sel (decide (t36<t35)) ((0:Int)<=t36/\t36<((t34.n:Nat):Int)/\optP t34.a λt38_p=>∃t39:Int,w.cell? (t38_p.add (Int.toNat t36 *1))=some (.i t39)/\
 sel (decide (t39<0)) (S3T w R) (sel (decide (t39>=i1)) (S3T w R) (L2T i1 lemmas2 s3 s3_0 s3_1 s3_2 s3_3 s3_4 s3_5 s3_6 t34 t35 (IntKind.wrap .i64 (t36+1)) w R))) (sel (s3_0==4) (sel (decide (s3_1<0)) (S4T w R) (sel (decide (s3_1>=lemmas2)) (S4T w R) (S5T w R))) (S5T w R))),L2T i1 lemmas2 s3 s3_0 s3_1 s3_2 s3_3 s3_4 s3_5 s3_6 t34 t35 t36 w R:=mp (stepL (X:=X) [eS5,eS4,eS3,eL2,eS0] (pth [0,1,1,1,4]) P1)
abbrev P2:Ps:=[(1,.v [.I]),(2,.v [.I]),(3,.l [.I,.I,.I,.s,.st,.s,.s] ty_api_Step)]
abbrev S1T (i1 lemmas2:Int) (s3:Nat) (s3_0 s3_1 s3_2:Int) (s3_3:Sl) (s3_4:ByteArray) (s3_5 s3_6:Sl) (w:World) (R:Post):Prop:=
 L2T i1 lemmas2 s3 s3_0 s3_1 s3_2 s3_3 s3_4 s3_5 s3_6 s3_6 ((s3_6.n:Nat):Int) 0 w R
noncomputable def eS1:=entS X [eS5,eS4,eS3,eL2,eS0] (pth [4]) P2 S1T
theorem okT (s0_0 s0_1 s0_2:Int) (s0_3:Sl) (s0_4:ByteArray) (s0_5 s0_6:Sl) (i1 lemmas2:Int) (w:World) (R:Post) (h:newV [] w λb3 w1=>
 sel (decide (s0_0<0)) (S0T w1 R) (sel (decide (s0_0>5)) (S0T w1 R) (cf1 [b3] n_clause_Valid #[s0_5.v] w1 λt20 w2=>sel (t20 !=0) (R (.returned (.i t20)) w2) (sel (!(s0_4.toList==(ByteArray.mk #[]).toList)) (cf0 [b3] n_proof_isName #[.string s0_4] w2 λt30 w3=>sel (!t30) (R (.returned (.i 6)) w3) (S1T i1 lemmas2 b3 s0_0 s0_1 s0_2 s0_3 s0_4 s0_5 s0_6 w3 R)) (S1T i1 lemmas2 b3 s0_0 s0_1 s0_2 s0_3 s0_4 s0_5 s0_6 w2 R))))):Calls Tryz.prog n_proof_validStep #[.agg #[.i s0_0,.i s0_1,.i s0_2,s0_3.v,.string s0_4,s0_5.v,s0_6.v],.i i1,.i lemmas2] w R:=callsX X [eS1,eS5,eS4,eS3,eL2,eS0] h
end proof_validStep
namespace proof_Valid
noncomputable abbrev X:Fx:=⟨Tryz.prog,Tryz.f22,[],[1,4,7]⟩
abbrev P0:Ps:=[]
abbrev S0T (w:World) (R:Post):Prop:=
 R (.returned (.i 4)) w
noncomputable def eS0:=entS X [] (pth [0,1,1,1,1]) P0 S0T
abbrev P1:Ps:=[(1,.l [.s,.s] ty_api_Proof),(20,.v [.s]),(21,.v [.I]),(22,.v [.I])]
def L1T (p1:Nat) (p1_0 p1_1 t20:Sl) (t21 t22:Int) (w:World) (R:Post):Prop:=mkCur P1 0 (X.Sem (pth [0,1,1,1,2])) p1 p1_0 p1_1 t20 t21 t22 w R
noncomputable def eL1:=entL X (pth [0,1,1,1,2]) P1 L1T
abbrev P2:Ps:=[(1,.l [.s,.s] ty_api_Proof),(33,.v [.s]),(34,.v [.I]),(35,.v [.I])]
def L2T (p1:Nat) (p1_0 p1_1 t33:Sl) (t34 t35:Int) (w:World) (R:Post):Prop:=mkCur P2 0 (X.Sem (pth [0,1,1,1,3])) p1 p1_0 p1_1 t33 t34 t35 w R
noncomputable def eL2:=entL X (pth [0,1,1,1,3]) P2 L2T
theorem L2T_step:∀(p1:Nat) (p1_0 p1_1 t33:Sl) (t34 t35:Int) (w:World) (R:Post) (h:sel (decide (t35<t34)) ((0:Int)<=t35/\t35<((t33.n:Nat):Int)/\optP t33.a λt38_p=>ld7_4 w (t38_p.add (Int.toNat t35 *7)) λt39_0 t39_1 t39_2 t39_3 t39_4 t39_5 t39_6=>newV [p1] w λb7 w8=>
 loc [p1,b7] w8 λw15=>cf1 [p1,b7] n_proof_validStep #[.agg #[.i t39_0,.i t39_1,.i t39_2,t39_3.v,.string t39_4,t39_5.v,t39_6.v],.i t35,.i ((p1_0.n:Nat):Int)] w15 λt45 w16=>sel (t45 !=0) (R (.returned (.i t45)) w16) (L2T p1 p1_0 p1_1 t33 t34 (IntKind.wrap .i64 (t35+1)) w16 R)) (R (.returned (.i 0)) w)),L2T p1 p1_0 p1_1 t33 t34 t35 w R:=mp (stepL (X:=X) [eL2,eL1,eS0] (pth [0,1,1,1,3]) P2)
theorem L1T_step:∀(p1:Nat) (p1_0 p1_1 t20:Sl) (t21 t22:Int) (w:World) (R:Post) (h:sel (decide (t22<t21)) ((0:Int)<=t22/\t22<((t20.n:Nat):Int)/\optP t20.a λt24_p=>ld4_5 w (t24_p.add (Int.toNat t22 *4)) λt25_0 t25_1 t25_2 t25_3=>newV [p1] w λb4 w2=>
 loc [p1,b4] w2 λw6=>cf1 [p1,b4] n_proof_validLemma #[.agg #[t25_0.v,t25_1.v,t25_2.v,t25_3.v]] w6 λt27 w7=>sel (t27 !=0) (R (.returned (.i t27)) w7) (L1T p1 p1_0 p1_1 t20 t21 (IntKind.wrap .i64 (t22+1)) w7 R)) (L2T p1 p1_0 p1_1 p1_1 ((p1_1.n:Nat):Int) 0 w R)),L1T p1 p1_0 p1_1 t20 t21 t22 w R:=mp (stepL (X:=X) [eL2,eL1,eS0] (pth [0,1,1,1,2]) P1)
theorem okT (p0_0 p0_1:Sl) (w:World) (R:Post) (h:newV [] w λb1 w1=>
 sel (decide (((p0_0.n:Nat):Int)>4096)) (S0T w1 R) (sel (decide (((p0_1.n:Nat):Int)>1048576)) (S0T w1 R) (L1T b1 p0_0 p0_1 p0_0 ((p0_0.n:Nat):Int) 0 w1 R))):Calls Tryz.prog n_proof_Valid #[.agg #[p0_0.v,p0_1.v]] w R:=callsX X [eL2,eL1,eS0] h
end proof_Valid
namespace proof_cutter_word
noncomputable abbrev X:Fx:=⟨Tryz.prog,Tryz.f67,[],[]⟩
abbrev P0:Ps:=[(3,.v [.st])]
abbrev S0 (wv3:ByteArray) (w:World) (R:Post):Prop:=
 R (.returned (.string wv3)) w
noncomputable def eS0:=entS X [] (pth [4]) P0 S0
theorem ok (c0:Addr) (w:World) (R:Post) (h:∃t10:ByteArray,w.cell? (c0.add 0)=some (.string t10)/\
 ca26 n_strings_Cut #[.string t10,.string (ByteArray.mk #[32])] w λt11_0 t11_1 t11_2 w1=>stV w1 (c0.add 0) (.string t11_1) λw2=>
 ∃t23:Bool,w2.cell? (c0.add 1)=some (.bool t23)/\
 sel t23 (stV w2 (c0.add 1) (.bool t11_2) λw3=>
 S0 t11_0 w3 R) (stV w2 (c0.add 1) (.bool false) λw4=>
 S0 t11_0 w4 R)):Calls Tryz.prog n_proof_cutter_word #[.pointer (some c0)] w R:=callsX X [eS0] h
end proof_cutter_word
namespace proof_cutter_space
noncomputable abbrev X:Fx:=⟨Tryz.prog,Tryz.f69,[],[]⟩
theorem ok (c0:Addr) (w:World) (R:Post) (h:∃t8:ByteArray,w.cell? (c0.add 0)=some (.string t8)/\
 ca27 n_strings_CutPrefix #[.string t8,.string (ByteArray.mk #[32])] w λt9_0 t9_1 w1=>stV w1 (c0.add 0) (.string t9_0) λw2=>
 ∃t20:Bool,w2.cell? (c0.add 1)=some (.bool t20)/\
 sel t20 (stV w2 (c0.add 1) (.bool t9_1) λw3=>
 R (.returned (.tuple #[])) w3) (stV w2 (c0.add 1) (.bool false) λw4=>
 R (.returned (.tuple #[])) w4)):Calls Tryz.prog n_proof_cutter_space #[.pointer (some c0)] w R:=callsX X [] h
end proof_cutter_space
namespace proof_cutter_number
noncomputable abbrev X:Fx:=⟨Tryz.prog,Tryz.f72,[],[]⟩
abbrev P0:Ps:=[(5,.v [.I])]
abbrev S0 (n5:Int) (w:World) (R:Post):Prop:=
 R (.returned (.i n5)) w
noncomputable def eS0:=entS X [] (pth [3]) P0 S0
theorem ok (c0:Addr) (text1:ByteArray) (w:World) (R:Post) (h:ca25 n_strconv_Atoi #[.string text1] w λt9_0 t9_1 w1=>∃t16:Bool,w1.cell? (c0.add 1)=some (.bool t16)/\
 sel t16 (∃t19:Bool,Sem.run Tryz.prog (ifcS .eql ty_error (.tmp 18) (.const (.nilIface)) (t9_1) (.nilIface)) w1=.ok (.bool t19) w1/\sel t19 (ca15 n_strconv_Itoa #[.i t9_0] w1 λt23 w2=>stV w2 (c0.add 1) (.bool (t23.toList==text1.toList)) λw3=>
 S0 t9_0 w3 R) (stV w1 (c0.add 1) (.bool false) λw4=>
 S0 t9_0 w4 R)) (stV w1 (c0.add 1) (.bool false) λw5=>
 S0 t9_0 w5 R)):Calls Tryz.prog n_proof_cutter_number #[.pointer (some c0),.string text1] w R:=callsX X [eS0] h
end proof_cutter_number
namespace proof_cutter_list
noncomputable abbrev X:Fx:=⟨Tryz.prog,Tryz.f68,[],[]⟩
abbrev P0:Ps:=[]
abbrev S1 (w:World) (R:Post):Prop:=
 R (.returned (.slice none 0 0)) w
noncomputable def eS1:=entS X [] (pth [0,1,1,1,5]) P0 S1
abbrev P1:Ps:=[(0,.v [.r]),(8,.v [.s]),(52,.v [.s]),(53,.v [.I]),(54,.v [.I])]
def L2 (c0:Addr) (l8 t52:Sl) (t53 t54:Int) (w:World) (R:Post):Prop:=mkCur P1 0 (X.Sem (pth [0,1,1,1,7])) c0 l8 t52 t53 t54 w R
noncomputable def eL2:=entL X (pth [0,1,1,1,7]) P1 L2
theorem L2_step:∀(c0:Addr) (l8 t52:Sl) (t53 t54:Int) (w:World) (R:Post) (h:sel (decide (t54<t53)) ((0:Int)<=t54/\t54<((t52.n:Nat):Int)/\optP t52.a λt56_p=>∃t57:ByteArray,w.cell? (t56_p.add (Int.toNat t54 *1))=some (.string t57)/\
 ca1 n_proof_cutter_number #[.pointer (some c0),.string t57] w λt61 w2=>nwV w2 (.cells #[.i t61] ty_int) λw3=>
 ∃(t63:Sl) (w4:World),Sem.run Tryz.prog (Builtin.append_ #[ty_sl_int,ty_sl_int] ty_sl_int #[l8.v,.slice (some (nb w2)) 1 1]) w3=.ok (t63.v) w4/\L2 c0 t63 t52 t53 (IntKind.wrap .i64 (t54+1)) w4 R) (R (.returned (l8.v)) w)),L2 c0 l8 t52 t53 t54 w R:=mp (stepL (X:=X) [eL2,eS1] (pth [0,1,1,1,7]) P1)
abbrev P2:Ps:=[(0,.v [.r]),(6,.v [.st])]
abbrev S0 (c0:Addr) (text6:ByteArray) (w:World) (R:Post):Prop:=
 ∃t45:Bool,w.cell? (c0.add 1)=some (.bool t45)/\
 sel (!t45) (S1 w R) (sel (text6.toList==(ByteArray.mk #[]).toList) (S1 w R) (ca3 n_strings_Split #[.string text6,.string (ByteArray.mk #[32])] w λt52 w1=>L2 c0 ⟨none,0,0⟩ t52 ((t52.n:Nat):Int) 0 w1 R))
noncomputable def eS0:=entS X [eL2,eS1] (pth [5]) P2 S0
theorem ok (c0:Addr) (w:World) (R:Post) (h:∃t15:ByteArray,w.cell? (c0.add 0)=some (.string t15)/\
 ca26 n_strings_Cut #[.string t15,.string (ByteArray.mk #[41])] w λt16_0 t16_1 t16_2 w1=>ca27 n_strings_CutPrefix #[.string t16_0,.string (ByteArray.mk #[40])] w1 λt22_0 t22_1 w2=>stV w2 (c0.add 0) (.string t16_1) λw3=>
 ∃t33:Bool,w3.cell? (c0.add 1)=some (.bool t33)/\
 sel t33 (sel t16_2 (stV w3 (c0.add 1) (.bool t22_1) λw4=>
 S0 c0 t22_0 w4 R) (stV w3 (c0.add 1) (.bool false) λw5=>
 S0 c0 t22_0 w5 R)) (stV w3 (c0.add 1) (.bool false) λw6=>
 S0 c0 t22_0 w6 R)):Calls Tryz.prog n_proof_cutter_list #[.pointer (some c0)] w R:=callsX X [eS0,eL2,eS1] h
end proof_cutter_list
namespace proof_readBegin
noncomputable abbrev X:Fx:=⟨Tryz.prog,Tryz.f40,[],[2,9]⟩
abbrev P0:Ps:=[(2,.l [.s,.s,.s,.s] ty_api_LemmaProof),(4,.v [.r])]
abbrev S0T (t2:Nat) (t2_0 t2_1 t2_2 t2_3:Sl) (c4:Addr) (w:World) (R:Post):Prop:=
 cf3 [t2] n_proof_cutter_list #[.pointer (some c4)] w λt27 w1=>cf4 [t2] n_proof_cutter_space #[.pointer (some c4)] w1 λw2=>cf3 [t2] n_proof_cutter_list #[.pointer (some c4)] w2 λt31 w3=>cf4 [t2] n_proof_cutter_space #[.pointer (some c4)] w3 λw4=>∃t37:Bool,w4.cell? (c4.add 1)=some (.bool t37)/\
 sel (!t37) (loc [t2] w4 λw8=>R (.returned (.tuple #[.agg #[.slice none 0 0,.slice none 0 0,.slice none 0 0,.slice none 0 0],.bool false])) w8) (∃t44:ByteArray,w4.cell? (c4.add 0)=some (.string t44)/\
 cf28 [t2] n_proof_readHex #[.string t44] w4 λt45_0 t45_1 w9=>sel (!t45_1) (loc [t2] w9 λw13=>R (.returned (.tuple #[.agg #[.slice none 0 0,.slice none 0 0,.slice none 0 0,.slice none 0 0],.bool false])) w13) (cf29 [t2] n_term_Decode #[t45_0.v] w9 λt53_0_0 t53_1 w14=>newV [t2] w14 λb9 w15=>
 sel (t53_1 !=0) (loc [t2,b9] w15 λw20=>R (.returned (.tuple #[.agg #[.slice none 0 0,.slice none 0 0,.slice none 0 0,.slice none 0 0],.bool false])) w20) (loc [t2,b9] w15 λw24=>R (.returned (.tuple #[.agg #[t53_0_0.v,t27.v,t31.v,.slice none 0 0],.bool true])) w24)))
noncomputable def eS0:=entS X [] (pth [3]) P0 S0T
theorem okT (line0:ByteArray) (w:World) (R:Post) (h:newV [] w λb2 w1=>
 nwV w1 (.cells #[.string line0,.bool true] ty_proof_cutter) λw2=>
 cf15 [b2] n_proof_cutter_word #[.pointer (some (nb w1))] w2 λt16 w3=>sel (t16.toList==(ByteArray.mk #[98,101,103,105,110]).toList) (∃t22:Bool,w3.cell? ((nb w1).add 1)=some (.bool t22)/\
 stV w3 ((nb w1).add 1) (.bool t22) λw4=>kept [b2] w3 w4/\
 S0T b2 ⟨none,0,0⟩ ⟨none,0,0⟩ ⟨none,0,0⟩ ⟨none,0,0⟩ (nb w1) w4 R) (stV w3 ((nb w1).add 1) (.bool false) λw5=>kept [b2] w3 w5/\
 S0T b2 ⟨none,0,0⟩ ⟨none,0,0⟩ ⟨none,0,0⟩ ⟨none,0,0⟩ (nb w1) w5 R)):Calls Tryz.prog n_proof_readBegin #[.string line0] w R:=callsX X [eS0] h
end proof_readBegin
namespace proof_readStep
noncomputable abbrev X:Fx:=⟨Tryz.prog,Tryz.f41,[(20,ls [0,1,2,3,4,5,6,7,8,9,10,11,12,13])],[2,9]⟩
abbrev P0:Ps:=[(2,.l [.I,.I,.I,.s,.st,.s,.s] ty_api_Step),(4,.v [.r]),(5,.v [.I]),(6,.v [.st]),(15,.v [.a 6,.st,.st,.st,.st,.st,.st]),(16,.v [.I])]
def L0T (t2:Nat) (t2_0 t2_1 t2_2:Int) (t2_3:Sl) (t2_4:ByteArray) (t2_5 t2_6:Sl) (c4:Addr) (kind5:Int) (first6 t15_0 t15_1 t15_2 t15_3 t15_4 t15_5:ByteArray) (t16:Int) (w:World) (R:Post):Prop:=mkCur P0 0 (X.Sem (pth [0,1,1,1,4])) t2 t2_0 t2_1 t2_2 t2_3 t2_4 t2_5 t2_6 c4 kind5 first6 t15_0 t15_1 t15_2 t15_3 t15_4 t15_5 t16 w R
noncomputable def eL0:=entL X (pth [0,1,1,1,4]) P0 L0T
abbrev S1T (t2:Nat) (t2_0 t2_1 t2_2:Int) (t2_3:Sl) (t2_4:ByteArray) (t2_5 t2_6:Sl) (c4:Addr) (kind5:Int) (first6 t15_0 t15_1 t15_2 t15_3 t15_4 t15_5:ByteArray) (t16:Int) (w:World) (R:Post):Prop:=
 L0T t2 t2_0 t2_1 t2_2 t2_3 t2_4 t2_5 t2_6 c4 kind5 first6 t15_0 t15_1 t15_2 t15_3 t15_4 t15_5 (IntKind.wrap .i64 (t16+1)) w R
noncomputable def eS1:=entS X [eL0] (pth [3,2,1,1,4]) P0 S1T
abbrev P1:Ps:=[(2,.l [.I,.I,.I,.s,.st,.s,.s] ty_api_Step)]
abbrev S2T (t2:Nat) (t2_0 t2_1 t2_2:Int) (t2_3:Sl) (t2_4:ByteArray) (t2_5 t2_6:Sl) (w:World) (R:Post):Prop:=
 loc [t2] w λw7=>R (.returned (.tuple #[.agg #[.i 0,.i 0,.i 0,.slice none 0 0,.s0,.slice none 0 0,.slice none 0 0],.bool false])) w7
noncomputable def eS2:=entS X [eS1,eL0] (pth [0,1,1,1,6]) P1 S2T
abbrev P2:Ps:=[(2,.l [.I,.I,.I,.s,.st,.s,.s] ty_api_Step),(4,.v [.r]),(9,.l [.I,.I,.I,.s,.st,.s,.s] ty_api_Step)]
abbrev S3T (t2:Nat) (t2_0 t2_1 t2_2:Int) (t2_3:Sl) (t2_4:ByteArray) (t2_5 t2_6:Sl) (c4:Addr) (s9:Nat) (s9_0 s9_1 s9_2:Int) (s9_3:Sl) (s9_4:ByteArray) (s9_5 s9_6:Sl) (w:World) (R:Post):Prop:=
 cf3 [t2,s9] n_proof_cutter_list #[.pointer (some c4)] w λt56 w1=>loc [t2,s9] w1 λw2=>cf4 [t2,s9] n_proof_cutter_space #[.pointer (some c4)] w2 λw3=>cf3 [t2,s9] n_proof_cutter_list #[.pointer (some c4)] w3 λt61 w4=>loc [t2,s9] w4 λw5=>cf4 [t2,s9] n_proof_cutter_space #[.pointer (some c4)] w5 λw6=>cf3 [t2,s9] n_proof_cutter_list #[.pointer (some c4)] w6 λt66 w7=>loc [t2,s9] w7 λw9=>∃t72:Bool,w9.cell? (c4.add 1)=some (.bool t72)/\
 sel t72 (∃t77:ByteArray,w9.cell? (c4.add 0)=some (.string t77)/\
 loc [t2,s9] w9 λw16=>w16.cell? (c4.add 0)=some (.string t77)/\R (.returned (.tuple #[.agg #[.i s9_0,.i s9_1,.i s9_2,t56.v,.string s9_4,t66.v,t61.v],.bool (t77.toList==(ByteArray.mk #[]).toList)])) w16) (loc [t2,s9] w9 λw23=>R (.returned (.tuple #[.agg #[.i s9_0,.i s9_1,.i s9_2,t56.v,.string s9_4,t66.v,t61.v],.bool false])) w23)
noncomputable def eS3:=entS X [eS2,eS1,eL0] (pth [8]) P2 S3T
theorem L0T_step:∀(t2:Nat) (t2_0 t2_1 t2_2:Int) (t2_3:Sl) (t2_4:ByteArray) (t2_5 t2_6:Sl) (c4:Addr) (kind5:Int) (first6 t15_0 t15_1 t15_2 t15_3 t15_4 t15_5:ByteArray) (t16:Int) (w:World) (R:Post) (h:sel (decide (t16<6)) ((0:Int)<=t16/\t16<((6:Nat):Int)/\∃t19_b:ByteArray,(#[.string t15_0,.string t15_1,.string t15_2,.string t15_3,.string t15_4,.string t15_5]:Array Value)[Int.toNat t16]? =some (.string t19_b)/\sel (t19_b.toList==first6.toList) (S1T t2 t2_0 t2_1 t2_2 t2_3 t2_4 t2_5 t2_6 c4 t16 first6 t15_0 t15_1 t15_2 t15_3 t15_4 t15_5 t16 w R) (S1T t2 t2_0 t2_1 t2_2 t2_3 t2_4 t2_5 t2_6 c4 kind5 first6 t15_0 t15_1 t15_2 t15_3 t15_4 t15_5 t16 w R)) (cf15 [t2] n_proof_cutter_word #[.pointer (some c4)] w λt28 w4=>cf1 [t2] n_proof_cutter_number #[.pointer (some c4),.string t28] w4 λt29 w5=>cf15 [t2] n_proof_cutter_word #[.pointer (some c4)] w5 λt32 w6=>cf1 [t2] n_proof_cutter_number #[.pointer (some c4),.string t32] w6 λt33 w7=>cf15 [t2] n_proof_cutter_word #[.pointer (some c4)] w7 λt35 w8=>newV [t2] w8 λb9 w9=>
 sel (decide (kind5<0)) (loc [t2,b9] w9 λw16=>S2T t2 t2_0 t2_1 t2_2 t2_3 t2_4 t2_5 t2_6 w16 R) (sel (t35.toList==(ByteArray.mk #[]).toList) (loc [t2,b9] w9 λw16=>S2T t2 t2_0 t2_1 t2_2 t2_3 t2_4 t2_5 t2_6 w16 R) ((0:Int)<=0/\∃t47_b:UInt8,t35[Int.toNat 0]? =some t47_b/\sel (((t47_b.toNat:Nat):Int)==40) (loc [t2,b9] w9 λw16=>S2T t2 t2_0 t2_1 t2_2 t2_3 t2_4 t2_5 t2_6 w16 R) (sel (t35.toList==(ByteArray.mk #[45]).toList) (loc [t2,b9] w9 λw17=>S3T t2 t2_0 t2_1 t2_2 t2_3 t2_4 t2_5 t2_6 c4 b9 kind5 t29 t33 ⟨none,0,0⟩ (ByteArray.mk #[]) ⟨none,0,0⟩ ⟨none,0,0⟩ w17 R) (loc [t2,b9] w9 λw16=>S3T t2 t2_0 t2_1 t2_2 t2_3 t2_4 t2_5 t2_6 c4 b9 kind5 t29 t33 ⟨none,0,0⟩ t35 ⟨none,0,0⟩ ⟨none,0,0⟩ w16 R)))))),L0T t2 t2_0 t2_1 t2_2 t2_3 t2_4 t2_5 t2_6 c4 kind5 first6 t15_0 t15_1 t15_2 t15_3 t15_4 t15_5 t16 w R:=mp (stepL (X:=X) [eS3,eS2,eS1,eL0] (pth [0,1,1,1,4]) P0)
theorem okT (line0:ByteArray) (w:World) (R:Post) (h:newV [] w λb2 w1=>
 nwV w1 (.cells #[.string line0,.bool true] ty_proof_cutter) λw2=>
 cf15 [b2] n_proof_cutter_word #[.pointer (some (nb w1))] w2 λt14 w3=>ld6_6 w3 (Addr.mk 0 0 none) λt15_0 t15_1 t15_2 t15_3 t15_4 t15_5=>L0T b2 0 0 0 ⟨none,0,0⟩ (ByteArray.mk #[]) ⟨none,0,0⟩ ⟨none,0,0⟩ (nb w1) (-1) t14 t15_0 t15_1 t15_2 t15_3 t15_4 t15_5 0 w3 R):Calls Tryz.prog n_proof_readStep #[.string line0] w R:=callsX X [eS3,eS2,eS1,eL0] h
end proof_readStep
namespace proof_readLine
noncomputable abbrev X:Fx:=⟨Tryz.prog,Tryz.f21,[(9,ls [0,1,2,3,4,5,6,7,8,9,10]),(16,ls [0,1,2,3,4,5,6,7,8,9,10,11]),(17,ls [0,1,2,3,4,5,6,7,8,9,10]),(18,ls [0,1,2,3,4,5,6,7,8,9,10])],[8,10]⟩
abbrev P0:Ps:=[]
abbrev S0T (w:World) (R:Post):Prop:=
 R (.returned (.bool false)) w
noncomputable def eS0:=entS X [] (pth [0,1,1,2,2,1,2]) P0 S0T
abbrev S2T (w:World) (R:Post):Prop:=
 R (.returned (.bool true)) w
noncomputable def eS2:=entS X [eS0] (pth [6]) P0 S2T
abbrev P1:Ps:=[(10,.l [.I,.I,.I,.s,.st,.s,.s] ty_api_Step),(12,.v [.r])]
abbrev S1T (step10:Nat) (step10_0 step10_1 step10_2:Int) (step10_3:Sl) (step10_4:ByteArray) (step10_5 step10_6:Sl) (l12:Addr) (w:World) (R:Post):Prop:=
 loc [step10] w λw1=>∃t75:Sl,w1.cell? (l12.add 3)=some (t75.v)/\
 nwV w1 (.cells #[.i step10_0,.i step10_1,.i step10_2,step10_3.v,.string step10_4,step10_5.v,step10_6.v] ty_api_Step) λw2=>
 w2.cell? (l12.add 3)=some (t75.v)/\∃(t78:Sl) (w3:World),Sem.run Tryz.prog (Builtin.append_ #[ty_sl_api_Step,ty_sl_api_Step] ty_sl_api_Step #[t75.v,.slice (some (nb w1)) 1 1]) w2=.ok (t78.v) w3/\kept [step10] w2 w3/\stV w3 (l12.add 3) (t78.v) λw4=>kept [step10] w3 w4/\
 S2T w4 R
noncomputable def eS1:=entS X [eS2,eS0] (pth [1,1,1,1,5]) P1 S1T
theorem okT (p0 within1:Addr) (line2:ByteArray) (w:World) (R:Post) (h:sel (line2.toList==(ByteArray.mk #[101,110,100]).toList) (∃t17:Bool,w.cell? within1=some (.bool t17)/\
 stV w within1 (.bool false) λw1=>
 R (.returned (.bool t17)) w1) (ca30 n_proof_readBegin #[.string line2] w λt23_0_0 t23_0_1 t23_0_2 t23_0_3 t23_1 w2=>newV [] w2 λb8 w3=>
 sel t23_1 (loc [b8] w3 λw7=>∃t29:Bool,w7.cell? within1=some (.bool t29)/\
 sel t29 (S0T w7 R) (∃t34:Sl,w7.cell? (p0.add 1)=some (t34.v)/\
 sel (decide (((t34.n:Nat):Int)>0)) (S0T w7 R) (loc [b8] w7 λw8=>∃t42:Sl,w8.cell? (p0.add 0)=some (t42.v)/\
 nwV w8 (.cells #[t23_0_0.v,t23_0_1.v,t23_0_2.v,t23_0_3.v] ty_api_LemmaProof) λw9=>
 w9.cell? (p0.add 0)=some (t42.v)/\∃(t45:Sl) (w10:World),Sem.run Tryz.prog (Builtin.append_ #[ty_sl_api_LemmaProof,ty_sl_api_LemmaProof] ty_sl_api_LemmaProof #[t42.v,.slice (some (nb w8)) 1 1]) w9=.ok (t45.v) w10/\kept [b8] w9 w10/\stV w10 (p0.add 0) (t45.v) λw11=>kept [b8] w10 w11/\
 stV w11 within1 (.bool true) λw12=>kept [b8] w11 w12/\
 R (.returned (.bool true)) w12))) (loc [b8] w3 λw7=>cf31 [b8] n_proof_readStep #[.string line2] w7 λt52_0_0 t52_0_1 t52_0_2 t52_0_3 t52_0_4 t52_0_5 t52_0_6 t52_1 w13=>newV [b8] w13 λb10 w14=>
 sel (!t52_1) (loc [b8,b10] w14 λw21=>R (.returned (.bool false)) w21) (loc [b8,b10] w14 λw21=>∃t59:Bool,w21.cell? within1=some (.bool t59)/\
 sel t59 (loc [b8,b10] w21 λw22=>∃t63:Sl,w22.cell? (p0.add 0)=some (t63.v)/\
 ∃t67:Sl,w22.cell? (p0.add 0)=some (t67.v)/\
 (0:Int)<=(IntKind.wrap .i64 (((t67.n:Nat):Int) - 1))/\(IntKind.wrap .i64 (((t67.n:Nat):Int) - 1))<((t63.n:Nat):Int)/\optP t63.a λt70_p=>S1T b10 t52_0_0 t52_0_1 t52_0_2 t52_0_3 t52_0_4 t52_0_5 t52_0_6 (t70_p.add (Int.toNat (IntKind.wrap .i64 (((t67.n:Nat):Int) - 1)) *4)) w22 R) (loc [b8,b10] w21 λw23=>∃t85:Sl,w23.cell? (p0.add 1)=some (t85.v)/\
 nwV w23 (.cells #[.i t52_0_0,.i t52_0_1,.i t52_0_2,t52_0_3.v,.string t52_0_4,t52_0_5.v,t52_0_6.v] ty_api_Step) λw24=>
 w24.cell? (p0.add 1)=some (t85.v)/\∃(t88:Sl) (w25:World),Sem.run Tryz.prog (Builtin.append_ #[ty_sl_api_Step,ty_sl_api_Step] ty_sl_api_Step #[t85.v,.slice (some (nb w23)) 1 1]) w24=.ok (t88.v) w25/\kept [b8,b10] w24 w25/\stV w25 (p0.add 1) (t88.v) λw26=>kept [b8,b10] w25 w26/\
 S2T w26 R))))):Calls Tryz.prog n_proof_readLine #[.pointer (some p0),.pointer (some within1),.string line2] w R:=callsX X [eS1,eS2,eS0] h
end proof_readLine
namespace proof_Parse
noncomputable abbrev X:Fx:=⟨Tryz.prog,Tryz.f8,[],[2]⟩
abbrev P0:Ps:=[(0,.v [.st]),(2,.l [.s,.s] ty_api_Proof),(5,.v [.r]),(6,.v [.r]),(7,.v [.I])]
def L0T (s0:ByteArray) (t2:Nat) (t2_0 t2_1:Sl) (p5 within6:Addr) (at7:Int) (w:World) (R:Post):Prop:=mkCur P0 0 (X.Sem (pth [0,1,1,1,4])) s0 t2 t2_0 t2_1 p5 within6 at7 w R
noncomputable def eL0:=entL X (pth [0,1,1,1,4]) P0 L0T
abbrev P1:Ps:=[(2,.l [.s,.s] ty_api_Proof),(7,.v [.I])]
abbrev S1T (t2:Nat) (t2_0 t2_1:Sl) (at7:Int) (w:World) (R:Post):Prop:=
 loc [t2] w λw2=>R (.returned (.tuple #[.agg #[.slice none 0 0,.slice none 0 0],.i at7,.i 2])) w2
noncomputable def eS1:=entS X [eL0] (pth [0,1,1,1,1,1,1,2,1,1,4]) P1 S1T
theorem L0T_step:∀(s0:ByteArray) (t2:Nat) (t2_0 t2_1:Sl) (p5 within6:Addr) (at7:Int) (w:World) (R:Post) (h:sel (decide (at7<((s0.size:Nat):Int))) ((0:Int)<=at7/\at7<=((s0.size:Nat):Int)/\cf1 [t2] n_strings_IndexByte #[.string (s0.extract (Int.toNat at7) s0.size),.int .u8 10] w λt21 w7=>sel (decide (t21<0)) (S1T t2 t2_0 t2_1 at7 w7 R) ((0:Int)<=(IntKind.wrap .i64 (at7+t21))/\(IntKind.wrap .i64 (at7+t21))<=((s0.size:Nat):Int)/\(0:Int)<=at7/\at7<=(((Int.toNat (IntKind.wrap .i64 (at7+t21))):Nat):Int)/\cf0 [t2] n_proof_readLine #[.pointer (some p5),.pointer (some within6),.string (s0.extract (Int.toNat at7) (Int.toNat (IntKind.wrap .i64 (at7+t21))))] w7 λt31 w8=>sel (!t31) (S1T t2 t2_0 t2_1 at7 w8 R) (L0T s0 t2 t2_0 t2_1 p5 within6 (IntKind.wrap .i64 (at7+(IntKind.wrap .i64 (t21+1)))) w8 R))) (∃t40:Bool,w.cell? within6=some (.bool t40)/\
 sel t40 (loc [t2] w λw10=>R (.returned (.tuple #[.agg #[.slice none 0 0,.slice none 0 0],.i ((s0.size:Nat):Int),.i 2])) w10) (ld2_7 w p5 λt44_0 t44_1=>cf1 [t2] n_proof_Valid #[.agg #[t44_0.v,t44_1.v]] w λt45 w11=>sel (t45 !=0) (loc [t2] w11 λw13=>R (.returned (.tuple #[.agg #[.slice none 0 0,.slice none 0 0],.i ((s0.size:Nat):Int),.i t45])) w13) (ld2_7 w11 p5 λt52_0 t52_1=>loc [t2] w11 λw15=>R (.returned (.tuple #[.agg #[t52_0.v,t52_1.v],.i 0,.i 0])) w15)))),L0T s0 t2 t2_0 t2_1 p5 within6 at7 w R:=mp (stepL (X:=X) [eS1,eL0] (pth [0,1,1,1,4]) P0)
theorem okT (s0:ByteArray) (w:World) (R:Post) (h:newV [] w λb2 w1=>
 sel (decide (((s0.size:Nat):Int)>16777216)) (loc [b2] w1 λw3=>R (.returned (.tuple #[.agg #[.slice none 0 0,.slice none 0 0],.i 16777216,.i 4])) w3) (nwV w1 (.cells #[.slice none 0 0,.slice none 0 0] ty_api_Proof) λw4=>
 nwV w4 (.cells #[.bool false] ty_bool) λw5=>
 stV w5 (nb w4) (.bool false) λw6=>kept [b2] w5 w6/\
 L0T s0 b2 ⟨none,0,0⟩ ⟨none,0,0⟩ (nb w1) (nb w4) 0 w6 R)):Calls Tryz.prog n_proof_Parse #[.string s0] w R:=callsX X [eS1,eL0] h
end proof_Parse
namespace proof_appendLine
noncomputable abbrev X:Fx:=⟨Tryz.prog,Tryz.f53,[],[]⟩
abbrev P0:Ps:=[(0,.v [.s]),(7,.v [.s]),(8,.v [.I]),(9,.v [.I])]
def L0 (b0 t7:Sl) (t8 t9:Int) (w:World) (R:Post):Prop:=mkCur P0 0 (X.Sem (pth [0,1,1,1,1])) b0 t7 t8 t9 w R
noncomputable def eL0:=entL X (pth [0,1,1,1,1]) P0 L0
abbrev P1:Ps:=[(0,.v [.s]),(6,.v [.st]),(7,.v [.s]),(8,.v [.I]),(9,.v [.I])]
abbrev S1 (b0:Sl) (part6:ByteArray) (t7:Sl) (t8 t9:Int) (w:World) (R:Post):Prop:=
 ∃(t21:Sl) (w1:World),Sem.run Tryz.prog (Builtin.append_ #[ty_sl_uint8,ty_string] ty_sl_uint8 #[b0.v,.string part6]) w=.ok (t21.v) w1/\L0 t21 t7 t8 (IntKind.wrap .i64 (t9+1)) w1 R
noncomputable def eS1:=entS X [eL0] (pth [2,2,2,2,1,1,1]) P1 S1
theorem L0_step:∀(b0 t7:Sl) (t8 t9:Int) (w:World) (R:Post) (h:sel (decide (t9<t8)) ((0:Int)<=t9/\t9<((t7.n:Nat):Int)/\optP t7.a λt12_p=>∃t13:ByteArray,w.cell? (t12_p.add (Int.toNat t9 *1))=some (.string t13)/\
 sel (decide (t9>0)) (nwV w (.cells #[.int .u8 32] ty_uint8) λw1=>
 ∃(t18:Sl) (w2:World),Sem.run Tryz.prog (Builtin.append_ #[ty_sl_uint8,ty_sl_uint8] ty_sl_uint8 #[b0.v,.slice (some (nb w)) 1 1]) w1=.ok (t18.v) w2/\S1 t18 t13 t7 t8 t9 w2 R) (S1 b0 t13 t7 t8 t9 w R)) (nwV w (.cells #[.int .u8 10] ty_uint8) λw3=>
 ∃(t25:Sl) (w4:World),Sem.run Tryz.prog (Builtin.append_ #[ty_sl_uint8,ty_sl_uint8] ty_sl_uint8 #[b0.v,.slice (some (nb w)) 1 1]) w3=.ok (t25.v) w4/\R (.returned (t25.v)) w4)),L0 b0 t7 t8 t9 w R:=mp (stepL (X:=X) [eS1,eL0] (pth [0,1,1,1,1]) P0)
theorem ok (b0 parts1:Sl) (w:World) (R:Post) (h:L0 b0 parts1 ((parts1.n:Nat):Int) 0 w R):Calls Tryz.prog n_proof_appendLine #[b0.v,parts1.v] w R:=callsX X [eS1,eL0] h
end proof_appendLine
namespace proof_listText
noncomputable abbrev X:Fx:=⟨Tryz.prog,Tryz.f54,[],[]⟩
abbrev P0:Ps:=[(3,.v [.s]),(7,.v [.s]),(8,.v [.I]),(9,.v [.I])]
def L0 (b3 t7:Sl) (t8 t9:Int) (w:World) (R:Post):Prop:=mkCur P0 0 (X.Sem (pth [0,1,1,1,2])) b3 t7 t8 t9 w R
noncomputable def eL0:=entL X (pth [0,1,1,1,2]) P0 L0
abbrev P1:Ps:=[(3,.v [.s]),(5,.v [.I]),(7,.v [.s]),(8,.v [.I]),(9,.v [.I])]
abbrev S1 (b3:Sl) (n5:Int) (t7:Sl) (t8 t9:Int) (w:World) (R:Post):Prop:=
 ca3 n_strconv_AppendInt #[b3.v,.i n5,.i 10] w λt21 w1=>L0 t21 t7 t8 (IntKind.wrap .i64 (t9+1)) w1 R
noncomputable def eS1:=entS X [eL0] (pth [2,2,2,2,1,1,2]) P1 S1
theorem L0_step:∀(b3 t7:Sl) (t8 t9:Int) (w:World) (R:Post) (h:sel (decide (t9<t8)) ((0:Int)<=t9/\t9<((t7.n:Nat):Int)/\optP t7.a λt12_p=>∃t13:Int,w.cell? (t12_p.add (Int.toNat t9 *1))=some (.i t13)/\
 sel (decide (t9>0)) (nwV w (.cells #[.int .u8 32] ty_uint8) λw2=>
 ∃(t18:Sl) (w3:World),Sem.run Tryz.prog (Builtin.append_ #[ty_sl_uint8,ty_sl_uint8] ty_sl_uint8 #[b3.v,.slice (some (nb w)) 1 1]) w2=.ok (t18.v) w3/\S1 t18 t13 t7 t8 t9 w3 R) (S1 b3 t13 t7 t8 t9 w R)) (nwV w (.cells #[.int .u8 41] ty_uint8) λw4=>
 ∃(t25:Sl) (w5:World),Sem.run Tryz.prog (Builtin.append_ #[ty_sl_uint8,ty_sl_uint8] ty_sl_uint8 #[b3.v,.slice (some (nb w)) 1 1]) w4=.ok (t25.v) w5/\∃t26:ByteArray,Sem.run Tryz.prog (Go.convert ty_sl_uint8 ty_string (t25.v)) w5=.ok (.string t26) w5/\R (.returned (.string t26)) w5)),L0 b3 t7 t8 t9 w R:=mp (stepL (X:=X) [eS1,eL0] (pth [0,1,1,1,2]) P0)
theorem ok (l0:Sl) (w:World) (R:Post) (h:nwV w (.cells #[.int .u8 40] ty_uint8) λw1=>
 L0 ⟨some (nb w),1,1⟩ l0 ((l0.n:Nat):Int) 0 w1 R):Calls Tryz.prog n_proof_listText #[l0.v] w R:=callsX X [eS1,eL0] h
end proof_listText
namespace proof_appendSteps
noncomputable abbrev X:Fx:=⟨Tryz.prog,Tryz.f56,[(7,ls [0,1,2,3,4,5,6,8,9,11,12,13,15,16,18,19,7,10,14,17,20,21,22,23])],[6]⟩
abbrev P0:Ps:=[(0,.v [.s]),(8,.v [.s]),(9,.v [.I]),(10,.v [.I])]
def L0T (b0 t8:Sl) (t9 t10:Int) (w:World) (R:Post):Prop:=mkCur P0 0 (X.Sem (pth [0,1,1,1,1])) b0 t8 t9 t10 w R
noncomputable def eL0:=entL X (pth [0,1,1,1,1]) P0 L0T
abbrev P1:Ps:=[(0,.v [.s]),(6,.l [.I,.I,.I,.s,.st,.s,.s] ty_api_Step),(7,.v [.st]),(8,.v [.s]),(9,.v [.I]),(10,.v [.I])]
abbrev S1T (b0:Sl) (s6:Nat) (s6_0 s6_1 s6_2:Int) (s6_3:Sl) (s6_4:ByteArray) (s6_5 s6_6:Sl) (name7:ByteArray) (t8:Sl) (t9 t10:Int) (w:World) (R:Post):Prop:=
 (0:Int)<=s6_0/\s6_0<((6:Nat):Int)/\loc [s6] w λw1=>∃t22:ByteArray,w1.cell? ((Addr.mk 0 0 none).add (Int.toNat s6_0 *1))=some (.string t22)/\
 cf15 [s6] n_strconv_Itoa #[.i s6_1] w1 λt25 w2=>w2.cell? ((Addr.mk 0 0 none).add (Int.toNat s6_0 *1))=some (.string t22)/\cf15 [s6] n_strconv_Itoa #[.i s6_2] w2 λt28 w3=>w3.cell? ((Addr.mk 0 0 none).add (Int.toNat s6_0 *1))=some (.string t22)/\cf15 [s6] n_proof_listText #[s6_3.v] w3 λt32 w4=>w4.cell? ((Addr.mk 0 0 none).add (Int.toNat s6_0 *1))=some (.string t22)/\cf15 [s6] n_proof_listText #[s6_6.v] w4 λt35 w5=>w5.cell? ((Addr.mk 0 0 none).add (Int.toNat s6_0 *1))=some (.string t22)/\cf15 [s6] n_proof_listText #[s6_5.v] w5 λt38 w6=>w6.cell? ((Addr.mk 0 0 none).add (Int.toNat s6_0 *1))=some (.string t22)/\nwV w6 (.cells #[.string t22,.string t25,.string t28,.string name7,.string t32,.string t35,.string t38] ty_string) λw7=>
 cf3 [s6] n_proof_appendLine #[b0.v,.slice (some (nb w6)) 7 7] w7 λt40 w8=>L0T t40 t8 t9 (IntKind.wrap .i64 (t10+1)) w8 R
noncomputable def eS1:=entS X [eL0] (pth [3,2,2,2,1,1,1]) P1 S1T
theorem L0T_step:∀(b0 t8:Sl) (t9 t10:Int) (w:World) (R:Post) (h:sel (decide (t10<t9)) ((0:Int)<=t10/\t10<((t8.n:Nat):Int)/\optP t8.a λt12_p=>ld7_4 w (t12_p.add (Int.toNat t10 *7)) λt13_0 t13_1 t13_2 t13_3 t13_4 t13_5 t13_6=>newV [] w λb6 w1=>
 sel (t13_4.toList==(ByteArray.mk #[]).toList) (loc [b6] w1 λw8=>S1T b0 b6 t13_0 t13_1 t13_2 t13_3 t13_4 t13_5 t13_6 (ByteArray.mk #[45]) t8 t9 t10 w8 R) (loc [b6] w1 λw8=>S1T b0 b6 t13_0 t13_1 t13_2 t13_3 t13_4 t13_5 t13_6 t13_4 t8 t9 t10 w8 R)) (R (.returned (b0.v)) w)),L0T b0 t8 t9 t10 w R:=mp (stepL (X:=X) [eS1,eL0] (pth [0,1,1,1,1]) P0)
theorem okT (b0 l1:Sl) (w:World) (R:Post) (h:L0T b0 l1 ((l1.n:Nat):Int) 0 w R):Calls Tryz.prog n_proof_appendSteps #[b0.v,l1.v] w R:=callsX X [eS1,eL0] h
end proof_appendSteps
namespace proof_Print
noncomputable abbrev X:Fx:=⟨Tryz.prog,Tryz.f27,[(9,ls [0,1,2,4,5,7,3,6,8,9,10,11])],[1,7]⟩
abbrev P0:Ps:=[(1,.l [.s,.s] ty_api_Proof),(5,.v [.s]),(16,.v [.s]),(17,.v [.I]),(18,.v [.I])]
def L0T (p1:Nat) (p1_0 p1_1 b5 t16:Sl) (t17 t18:Int) (w:World) (R:Post):Prop:=mkCur P0 0 (X.Sem (pth [0,1,1,1,3])) p1 p1_0 p1_1 b5 t16 t17 t18 w R
noncomputable def eL0:=entL X (pth [0,1,1,1,3]) P0 L0T
theorem L0T_step:∀(p1:Nat) (p1_0 p1_1 b5 t16:Sl) (t17 t18:Int) (w:World) (R:Post) (h:sel (decide (t18<t17)) ((0:Int)<=t18/\t18<((t16.n:Nat):Int)/\optP t16.a λt20_p=>ld4_5 w (t20_p.add (Int.toNat t18 *4)) λt21_0 t21_1 t21_2 t21_3=>newV [p1] w λb7 w3=>
 loc [p1,b7] w3 λw7=>cf32 [p1,b7] n_term_Encode #[.agg #[t21_0.v]] w7 λt26_0 t26_1 w8=>loc [p1,b7] w8 λw9=>cf15 [p1,b7] n_proof_listText #[t21_1.v] w9 λt32 w10=>cf15 [p1,b7] n_proof_listText #[t21_2.v] w10 λt35 w11=>cf15 [p1,b7] n_proof_hexText #[t26_0.v] w11 λt37 w12=>nwV w12 (.cells #[.string (ByteArray.mk #[98,101,103,105,110]),.string t32,.string t35,.string t37] ty_string) λw13=>
 cf3 [p1,b7] n_proof_appendLine #[b5.v,.slice (some (nb w12)) 4 4] w13 λt39 w14=>cf3 [p1,b7] n_proof_appendSteps #[t39.v,t21_3.v] w14 λt43 w15=>nwV w15 (.cells #[.string (ByteArray.mk #[101,110,100])] ty_string) λw16=>
 cf3 [p1,b7] n_proof_appendLine #[t43.v,.slice (some (nb w15)) 1 1] w16 λt46 w17=>L0T p1 p1_0 p1_1 t46 t16 t17 (IntKind.wrap .i64 (t18+1)) w17 R) (cf3 [p1] n_proof_appendSteps #[b5.v,p1_1.v] w λt51 w18=>∃t52:ByteArray,Sem.run Tryz.prog (Go.convert ty_sl_uint8 ty_string (t51.v)) w18=.ok (.string t52) w18/\R (.returned (.tuple #[.string t52,.i 0])) w18)),L0T p1 p1_0 p1_1 b5 t16 t17 t18 w R:=mp (stepL (X:=X) [eL0] (pth [0,1,1,1,3]) P0)
theorem okT (p0_0 p0_1:Sl) (w:World) (R:Post) (h:newV [] w λb1 w1=>
 cf1 [b1] n_proof_Valid #[.agg #[p0_0.v,p0_1.v]] w1 λt11 w2=>sel (t11 !=0) (R (.returned (.tuple #[.s0,.i t11])) w2) (L0T b1 p0_0 p0_1 ⟨none,0,0⟩ p0_0 ((p0_0.n:Nat):Int) 0 w2 R)):Calls Tryz.prog n_proof_Print #[.agg #[p0_0.v,p0_1.v]] w R:=callsX X [eL0] h
end proof_Print
abbrev litVDw0:ByteArray:=ByteArray.mk #[114,101,115,111,108,118,101,32,48,32,48,32,45,32,40,41,32,40,48,32,50,41,32,40,45,51,32,52,41,10]
namespace enthymemelaw25_lives
noncomputable abbrev X:Fx:=⟨Tryz.prog,Tryz.f12,[],[1,2]⟩
abbrev P0:Ps:=[(3,.v [.st]),(4,.v [.I]),(5,.v [.st])]
abbrev S0T (t3:ByteArray) (e4:Int) (line5:ByteArray) (w:World) (R:Post):Prop:=
 sel (e4==0) (¬(((line5.size+line5.size:Nat):Int)>IntKind.i64.max)/\¬((((line5++line5).size+line5.size:Nat):Int)>IntKind.i64.max)/\¬(((((line5++line5)++line5).size+litVDw0.size:Nat):Int)>IntKind.i64.max)/\R (.returned (.bool (t3.toList==(((line5++line5)++line5)++litVDw0).toList))) w) (R (.returned (.bool false)) w)
noncomputable def eS0:=entS X [] (pth [5]) P0 S0T
theorem okT (w:World) (R:Post) (h:nwV w (.cells #[.i 0,.i 2] ty_int) λw1=>
 nwV w1 (.cells #[.i (-3),.i 4] ty_int) λw2=>
 newV [] w2 λb1 w3=>
 loc [b1] w3 λw10=>nwV w10 (.cells #[.i 0] ty_int) λw11=>
 nwV w11 (.cells #[.i 1] ty_int) λw12=>
 newV [b1] w12 λb2 w13=>
 loc [b1,b2] w13 λw20=>nwV w20 (.cells #[.i 0,.i (-1),.i 0,.slice (some (nb w10)) 1 1,.s0,.slice (some (nb w11)) 1 1,.slice none 0 0,.i 0,.i (-1),.i 0,.slice (some (nb w10)) 1 1,.s0,.slice (some (nb w11)) 1 1,.slice none 0 0,.i 0,.i (-1),.i 0,.slice (some (nb w10)) 1 1,.s0,.slice (some (nb w11)) 1 1,.slice none 0 0,.i 5,.i 0,.i 0,.slice none 0 0,.s0,.slice (some (nb w1)) 2 2,.slice (some (nb w)) 2 2] ty_api_Step) λw21=>
 cf22 [b1,b2] n_proof_Print #[.agg #[.slice none 0 0,.slice (some (nb w20)) 4 4]] w21 λt19_0 t19_1 w22=>S0T t19_0 t19_1 (ByteArray.mk #[103,97,116,101,32,45,49,32,48,32,45,32,40,48,41,32,40,41,32,40,49,41,10]) w22 R):Calls Tryz.prog n_enthymemelaw25_lives #[] w R:=callsX X [eS0] h
end enthymemelaw25_lives
namespace enthymemelaw25_hasBegin
noncomputable abbrev X:Fx:=⟨Tryz.prog,Tryz.f10,[],[]⟩
abbrev P0:Ps:=[(0,.v [.st]),(3,.v [.I])]
def L0 (s0:ByteArray) (i3:Int) (w:World) (R:Post):Prop:=mkCur P0 0 (X.Sem (pth [0,1,1,1,1])) s0 i3 w R
noncomputable def eL0:=entL X (pth [0,1,1,1,1]) P0 L0
theorem L0_step:∀(s0:ByteArray) (i3:Int) (w:World) (R:Post) (h:sel (decide ((IntKind.wrap .i64 (i3+5))<=((s0.size:Nat):Int))) ((0:Int)<=(IntKind.wrap .i64 (i3+5))/\(IntKind.wrap .i64 (i3+5))<=((s0.size:Nat):Int)/\(0:Int)<=i3/\i3<=(((Int.toNat (IntKind.wrap .i64 (i3+5))):Nat):Int)/\sel ((s0.extract (Int.toNat i3) (Int.toNat (IntKind.wrap .i64 (i3+5)))).toList==(ByteArray.mk #[98,101,103,105,110]).toList) (R (.returned (.bool true)) w) (L0 s0 (IntKind.wrap .i64 (i3+1)) w R)) (R (.returned (.bool false)) w)),L0 s0 i3 w R:=mp (stepL (X:=X) [eL0] (pth [0,1,1,1,1]) P0)
theorem ok (s0:ByteArray) (w:World) (R:Post) (h:L0 s0 0 w R):Calls Tryz.prog n_enthymemelaw25_hasBegin #[.string s0] w R:=callsX X [eL0] h
end enthymemelaw25_hasBegin
namespace enthymemelaw25_ProofReads
noncomputable abbrev X:Fx:=⟨Tryz.prog,Tryz.f3,[(23,ls [0,1,2,3,4,5,6,7,8,9,10,11,12,13,14,15]),(25,ls [0,1,2,3,5,6,7,8,4,9,10,11,12])],[11,14,23,26]⟩
abbrev P0:Ps:=[(2,.v [.I]),(3,.v [.I]),(4,.v [.Y]),(11,.l [.s,.s] ty_api_Proof),(12,.v [.s]),(13,.v [.I])]
def L0T (at2 how3 c4:Int) (p11:Nat) (p11_0 p11_1 steps12:Sl) (i13:Int) (w:World) (R:Post):Prop:=mkCur P0 0 (X.Sem (pth [0,1,1,1,3])) at2 how3 c4 p11 p11_0 p11_1 steps12 i13 w R
noncomputable def eL0:=entL X (pth [0,1,1,1,3]) P0 L0T
abbrev P1:Ps:=[(2,.v [.I]),(3,.v [.I]),(4,.v [.Y]),(11,.l [.s,.s] ty_api_Proof),(12,.v [.s]),(13,.v [.I]),(14,.l [.I,.I,.I,.s,.st,.s,.s] ty_api_Step)]
abbrev S1T (at2 how3 c4:Int) (p11:Nat) (p11_0 p11_1 steps12:Sl) (i13:Int) (s14:Nat) (s14_0 s14_1 s14_2:Int) (s14_3:Sl) (s14_4:ByteArray) (s14_5 s14_6:Sl) (w:World) (R:Post):Prop:=
 nwV w (.cells #[.i s14_0,.i s14_1,.i s14_2,s14_3.v,.string s14_4,s14_5.v,s14_6.v] ty_api_Step) λw1=>
 ∃(t51:Sl) (w2:World),Sem.run Tryz.prog (Builtin.append_ #[ty_sl_api_Step,ty_sl_api_Step] ty_sl_api_Step #[steps12.v,.slice (some (nb w)) 1 1]) w1=.ok (t51.v) w2/\kept [p11,s14] w1 w2/\L0T at2 how3 c4 p11 p11_0 p11_1 t51 (IntKind.wrap .i64 (i13+1)) w2 R
noncomputable def eS1:=entS X [eL0] (pth [2,2,1,2,1,1,3]) P1 S1T
abbrev P2:Ps:=[(21,.v [.s]),(22,.v [.I])]
def L4T (texts21:Sl) (i22:Int) (w:World) (R:Post):Prop:=mkCur P2 0 (X.Sem (pth [0,1,9,1,1,1,7])) texts21 i22 w R
noncomputable def eL4:=entL X (pth [0,1,9,1,1,1,7]) P2 L4T
abbrev S5T (texts21:Sl) (i22:Int) (w:World) (R:Post):Prop:=
 L4T texts21 (IntKind.wrap .i64 (i22+1)) w R
noncomputable def eS5:=entS X [eL4,eS1,eL0] (pth [2,2,9,1,1,1,7]) P2 S5T
abbrev P3:Ps:=[]
abbrev S7T (w:World) (R:Post):Prop:=
 R (.returned (.bool false)) w
noncomputable def eS7:=entS X [eS5,eL4,eS1,eL0] (pth [0,1,4,2,1,2,9,1,1,1,7]) P3 S7T
abbrev P4:Ps:=[(21,.v [.s]),(22,.v [.I]),(23,.l [.s,.s] ty_api_Proof),(24,.v [.I]),(25,.v [.I]),(26,.l [.s,.s] ty_api_Proof),(27,.v [.I]),(28,.v [.I])]
abbrev S6T (texts21:Sl) (i22:Int) (x23:Nat) (x23_0 x23_1:Sl) (n24 e25:Int) (y26:Nat) (y26_0 y26_1:Sl) (o27 f28:Int) (w:World) (R:Post):Prop:=
 sel (n24 !=o27) (S7T w R) (sel (e25 !=f28) (S7T w R) (sel (e25==0) (cf0 [x23,y26] n_enthymemeref25_SameProof #[.agg #[x23_0.v,x23_1.v],.agg #[y26_0.v,y26_1.v]] w λt178 w1=>sel (!t178) (S7T w1 R) (sel (e25 !=0) (sel (decide (((x23_1.n:Nat):Int)>0)) (S7T w1 R) (S5T texts21 i22 w1 R)) (S5T texts21 i22 w1 R))) (sel (e25 !=0) (sel (decide (((x23_1.n:Nat):Int)>0)) (S7T w R) (S5T texts21 i22 w R)) (S5T texts21 i22 w R))))
noncomputable def eS6:=entS X [eS7,eS5,eL4,eS1,eL0] (pth [3,2,1,2,9,1,1,1,7]) P4 S6T
abbrev S8T (w:World) (R:Post):Prop:=
 ca0 n_enthymemelaw25_lives #[] w λt192 w1=>R (.returned (.bool t192)) w1
noncomputable def eS8:=entS X [eS6,eS7,eS5,eL4,eS1,eL0] (pth [8]) P3 S8T
theorem L4T_step:∀(texts21:Sl) (i22:Int) (w:World) (R:Post) (h:sel (decide (i22<4)) ((0:Int)<=i22/\i22<((texts21.n:Nat):Int)/\optP texts21.a λt136_p=>∃t137:ByteArray,w.cell? (t136_p.add (Int.toNat i22 *1))=some (.string t137)/\
 ca35 n_proof_Parse #[.string t137] w λt138_0_0 t138_0_1 t138_1 t138_2 w6=>newV [] w6 λb23 w7=>
 (0:Int)<=i22/\i22<((texts21.n:Nat):Int)/\optP texts21.a λt145_p=>loc [b23] w7 λw9=>∃t146:ByteArray,w9.cell? (t145_p.add (Int.toNat i22 *1))=some (.string t146)/\
 cf35 [b23] n_enthymemeref25_Parse #[.string t146] w9 λt147_0_0 t147_0_1 t147_1 t147_2 w10=>newV [b23] w10 λb26 w11=>
 (0:Int)<=i22/\i22<((texts21.n:Nat):Int)/\optP texts21.a λt153_p=>loc [b23,b26] w11 λw13=>∃t154:ByteArray,w13.cell? (t153_p.add (Int.toNat i22 *1))=some (.string t154)/\
 sel (decide (((t154.size:Nat):Int)>4)) ((0:Int)<=i22/\i22<((texts21.n:Nat):Int)/\optP texts21.a λt160_p=>∃t161:ByteArray,w13.cell? (t160_p.add (Int.toNat i22 *1))=some (.string t161)/\
 cf0 [b23,b26] n_enthymemelaw25_hasBegin #[.string t161] w13 λt162 w14=>sel t162 (S5T texts21 i22 w14 R) (S6T texts21 i22 b23 t138_0_0 t138_0_1 t138_1 t138_2 b26 t147_0_0 t147_0_1 t147_1 t147_2 w14 R)) (S6T texts21 i22 b23 t138_0_0 t138_0_1 t138_1 t138_2 b26 t147_0_0 t147_0_1 t147_1 t147_2 w13 R)) (S8T w R)),L4T texts21 i22 w R:=mp (stepL (X:=X) [eS8,eS6,eS7,eS5,eL4,eS1,eL0] (pth [0,1,9,1,1,1,7]) P2)
abbrev P5:Ps:=[(2,.v [.I]),(15,.v [.s]),(17,.v [.st]),(18,.v [.s]),(19,.v [.I]),(20,.v [.s])]
abbrev S3T (at2:Int) (lines15:Sl) (text17:ByteArray) (b18:Sl) (k19:Int) (other20:Sl) (w:World) (R:Post):Prop:=
 (0:Int)<=(IntKind.wrap .i64 (k19+1))/\(IntKind.wrap .i64 (k19+1))<=((lines15.n:Nat):Int)/\∃(t116:Sl) (w1:World),Sem.run Tryz.prog (Builtin.append_ #[ty_sl_string,ty_sl_string] ty_sl_string #[other20.v,.slice (if lines15.c=(Int.toNat (IntKind.wrap .i64 (k19+1))) then lines15.a else lines15.a.map (·.add ((Int.toNat (IntKind.wrap .i64 (k19+1))) *1))) (lines15.n - (Int.toNat (IntKind.wrap .i64 (k19+1)))) (lines15.c - (Int.toNat (IntKind.wrap .i64 (k19+1))))]) w=.ok (t116.v) w1/\drV w1 λw2=>∃t119:ByteArray,Sem.run Tryz.prog (Go.convert ty_sl_uint8 ty_string (b18.v)) w2=.ok (.string t119) w2/\ca15 n_enthymemeref25_Text #[t116.v] w2 λt121 w3=>Sem.run Tryz.prog (Go.convert ty_sl_uint8 ty_string (b18.v)) w3=.ok (.string t119) w3/\ca1 n_enthymemeref01_Around #[.i at2,.i ((text17.size:Nat):Int)] w3 λt126 w4=>Sem.run Tryz.prog (Go.convert ty_sl_uint8 ty_string (b18.v)) w4=.ok (.string t119) w4/\(0:Int)<=t126/\t126<=((text17.size:Nat):Int)/\nwV w4 (.cells #[.string text17,.string t119,.string t121,.string (text17.extract 0 (Int.toNat t126))] ty_string) λw5=>
 L4T ⟨some (nb w4),4,4⟩ 0 w5 R
noncomputable def eS3:=entS X [eS8,eS6,eS7,eS5,eL4,eS1,eL0] (pth [6,1,1,1,7]) P5 S3T
abbrev P6:Ps:=[(2,.v [.I]),(3,.v [.I]),(4,.v [.Y]),(15,.v [.s]),(16,.v [.s])]
abbrev S2T (at2 how3 c4:Int) (lines15 words16:Sl) (w:World) (R:Post):Prop:=
 ca15 n_enthymemeref25_Text #[lines15.v] w λt57 w1=>sel (decide (((t57.size:Nat):Int)>0)) (∃(t62:Sl) (w2:World),Sem.run Tryz.prog (Go.convert ty_string ty_sl_uint8 (.string t57)) w1=.ok (t62.v) w2/\ca1 n_enthymemeref01_Around #[.i at2,.i ((t62.n:Nat):Int)] w2 λt67 w3=>(0:Int)<=t67/\t67<((t62.n:Nat):Int)/\optP t62.a λt69_p=>stV w3 (t69_p.add (Int.toNat t67 *1)) (.int .u8 c4) λw4=>
 ca1 n_enthymemeref01_Around #[.i at2,.i ((lines15.n:Nat):Int)] w4 λt73 w5=>(0:Int)<=t73/\t73<=((lines15.c:Nat):Int)/\∃(t78:Sl) (w6:World),Sem.run Tryz.prog (Builtin.append_ #[ty_sl_string,ty_sl_string] ty_sl_string #[.slice none 0 0,.slice (if lines15.c=0 then lines15.a else lines15.a.map (·.add (0 *1))) ((Int.toNat t73) - 0) (lines15.c - 0)]) w5=.ok (t78.v) w6/\ca1 n_enthymemeref01_Around #[.i how3,.i 3] w6 λt80 w7=>sel (t80==0) (ca1 n_enthymemeref01_Around #[.i (IntKind.wrap .i64 (Int.tdiv how3 3)),.i ((words16.n:Nat):Int)] w7 λt89 w8=>(0:Int)<=t89/\t89<((words16.n:Nat):Int)/\optP words16.a λt90_p=>∃t91:ByteArray,w8.cell? (t90_p.add (Int.toNat t89 *1))=some (.string t91)/\
 nwV w8 (.cells #[.string t91] ty_string) λw9=>
 ∃(t93:Sl) (w10:World),Sem.run Tryz.prog (Builtin.append_ #[ty_sl_string,ty_sl_string] ty_sl_string #[t78.v,.slice (some (nb w8)) 1 1]) w9=.ok (t93.v) w10/\S3T at2 lines15 t57 t62 t73 t93 w10 R) (sel (t80==1) (drV w7 λw11=>(0:Int)<=t73/\t73<((lines15.n:Nat):Int)/\optP lines15.a λt99_p=>∃t100:ByteArray,w11.cell? (t99_p.add (Int.toNat t73 *1))=some (.string t100)/\
 ca1 n_enthymemeref01_Around #[.i (IntKind.wrap .i64 (Int.tdiv how3 3)),.i ((lines15.n:Nat):Int)] w11 λt106 w12=>w12.cell? (t99_p.add (Int.toNat t73 *1))=some (.string t100)/\(0:Int)<=t106/\t106<((lines15.n:Nat):Int)/\optP lines15.a λt107_p=>∃t108:ByteArray,w12.cell? (t107_p.add (Int.toNat t106 *1))=some (.string t108)/\
 nwV w12 (.cells #[.string t100,.string t108] ty_string) λw13=>
 ∃(t110:Sl) (w14:World),Sem.run Tryz.prog (Builtin.append_ #[ty_sl_string,ty_sl_string] ty_sl_string #[t78.v,.slice (some (nb w12)) 2 2]) w13=.ok (t110.v) w14/\S3T at2 lines15 t57 t62 t73 t110 w14 R) (S3T at2 lines15 t57 t62 t73 t78 w7 R))) (S8T w1 R)
noncomputable def eS2:=entS X [eS3,eS8,eS6,eS7,eS5,eL4,eS1,eL0] (pth [6]) P6 S2T
theorem L0T_step:∀(at2 how3 c4:Int) (p11:Nat) (p11_0 p11_1 steps12:Sl) (i13:Int) (w:World) (R:Post) (h:sel (decide (i13<((p11_1.n:Nat):Int))) ((0:Int)<=i13/\i13<((p11_1.n:Nat):Int)/\optP p11_1.a λt42_p=>ld7_4 w (t42_p.add (Int.toNat i13 *7)) λt43_0 t43_1 t43_2 t43_3 t43_4 t43_5 t43_6=>newV [p11] w λb14 w5=>
 sel (t43_0==4) (loc [p11,b14] w5 λw13=>S1T at2 how3 c4 p11 p11_0 p11_1 steps12 i13 b14 5 t43_1 t43_2 t43_3 t43_4 t43_5 t43_6 w13 R) (loc [p11,b14] w5 λw12=>S1T at2 how3 c4 p11 p11_0 p11_1 steps12 i13 b14 t43_0 t43_1 t43_2 t43_3 t43_4 t43_5 t43_6 w12 R)) (cf3 [p11] n_enthymemeref25_Lines #[.agg #[.slice none 0 0,steps12.v]] w λt54 w14=>nwV w14 (.cells #[.s0,.string (ByteArray.mk #[101,110,100]),.string (ByteArray.mk #[103,97,116,101,32,48,32,48,32,45,32,40,41,32,40,41]),.string (ByteArray.mk #[103,97,116,101,32,48,48,32,48,32,45,32,40,41,32,40,41,32,40,41]),.string (ByteArray.mk #[103,97,116,101,32,48,32,48,32,97,32,40,49,32,32,50,41,32,40,41,32,40,41]),.string (ByteArray.mk #[103,97,116,101,32,48,32,48,32,97,32,40,49,32,50,41,32,40,41,32,40,41,32]),.string (ByteArray.mk #[97,120,105,111,109,32,48,32,57,50,50,51,51,55,50,48,51,54,56,53,52,55,55,53,56,48,56,32,45,32,40,41,32,40,41,32,40,41]),.string (ByteArray.mk #[114,101,115,111,108,118,101,32,48,32,48,32,65,32,40,41,32,40,41,32,40,50,41]),.string (ByteArray.mk #[101,113,117,97,108,32,45,48,32,48,32,45,32,40,41,32,40,41,32,40,41]),.string (ByteArray.mk #[108,101,109,109,97,32,48,32,48,32,45,32,40,41,32,40,41,32,40,41]),.string (ByteArray.mk #[103,97,116,101,32,48,32,48,32,32,40,41,32,40,41,32,40,41]),.string (ByteArray.mk #[103,97,116,101,32,48,32,48,32,45,32,40,45,41,32,40,41,32,40,41])] ty_string) λw15=>
 S2T at2 how3 c4 t54 ⟨some (nb w14),12,12⟩ w15 R)),L0T at2 how3 c4 p11 p11_0 p11_1 steps12 i13 w R:=mp (stepL (X:=X) [eS2,eS3,eS8,eS6,eS7,eS5,eL4,eS1,eL0] (pth [0,1,1,1,3]) P0)
theorem okT (l0 m1:Sl) (at2 how3 c4:Int) (w:World) (R:Post) (h:ca34 n_enthymemeref25_Some #[l0.v,m1.v,.i 7] w λt31_0 t31_1 w1=>newV [] w1 λb11 w2=>
 loc [b11] w2 λw4=>L0T at2 how3 c4 b11 t31_0 t31_1 ⟨none,0,0⟩ 0 w4 R):Calls Tryz.prog n_enthymemelaw25_ProofReads #[l0.v,m1.v,.i at2,.i how3,.int .u8 c4] w R:=callsX X [eS2,eS3,eS8,eS6,eS7,eS5,eL4,eS1,eL0] h
end enthymemelaw25_ProofReads
end Go.Proofs.YthnoidogkbbkhaaGreatDoor
